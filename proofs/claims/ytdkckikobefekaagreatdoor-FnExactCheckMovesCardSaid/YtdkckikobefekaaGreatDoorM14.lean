/-
  Contracts: small letters, the tiles that a play places (layers 3 and 12 of the impl package); Contract: the board after a play (layer 12 of the impl package); Contract: the longest sequence of letters through a square (layer 12 of the impl package).
  Conditions: letters alone; a board of a size from 5 to 15; numbers of common size; a board of a size from 5 to 15; ASCII letters; all squares of the play are on the board; a board of a size from 5 to 15; the square is on it.
-/
import Derived.Test.YtdkckikobefekaaGreatDoorM10
import Derived.Test.YtdkckikobefekaaGreatDoorM11
import Derived.Test.YtdkckikobefekaaGreatDoorM12
import Derived.Test.YtdkckikobefekaaGreatDoorM13
import Derived.Test.YtdkckikobefekaaGreatDoorM04
namespace Go.Proofs.YtdkckikobefekaaGreatDoor
open Go.RowKit RegP RegL RegV
set_option maxHeartbeats 1000000
set_option maxRecDepth 100000
theorem toLowerA_low (l : Str) : Lib.toLowerA l = lowS l := by
 unfold Lib.toLowerA lowS
 refine List.map_congr_left fun c _ => ?_
 have h : Lib.isUpperB c = capB c := by
   unfold Lib.isUpperB capB
   rw [Bool.eq_iff_iff]
   simp [UInt8.le_iff_toNat_le]
   omega
 unfold Lib.lowerB lowC
 rw [h]
theorem lower_any (s : Str) (w : World) (hs : s.length ≤ 2 ^ 40) (ha : asciiB s = true) :
   Calls Tryz.prog 235 #[sv s] w fun e w' => e = .returned (sv (lowS s)) ∧ Below w.heap.size w w' := by
 have k1 := fun w => Tryz.strings_ToLower_ascii ⟨s.toArray⟩ w (by simp [ByteArray.size]; omega) (fun j b hb => by
   have := List.all_eq_true.1 ha b (List.mem_of_getElem? hb)
   simpa using this)
 have hl : (ByteArray.mk s.toArray).data.toList = s := by simp
 rw [hl, toLowerA_low] at k1
 clear hl
 go_enter Tryz.func235, Tryz.ntmps235
 go_wp2_with (go_at_call 294; refine (k1 _).mono ?_; rintro e w1 ⟨rfl, hb1⟩)
 go_ret
 exact ⟨rfl, hb1⟩
def lettB (s : Str) : Bool := s.all fun c => smallB c || capB c
theorem lettB_ascii {s : Str} (h : lettB s = true) : asciiB s = true := by
 refine List.all_eq_true.2 fun c hc => ?_
 have := List.all_eq_true.1 h c hc
 unfold smallB capB at this
 simp only [Bool.or_eq_true, Bool.and_eq_true, decide_eq_true_eq] at this ⊢
 omega
def placedI (b : Bd) (q : Pl) : Str := (newL b q).map fun i => q.word.getD i 0
theorem newTo_lt (b : Bd) (q : Pl) (m : Nat) : ∀ x ∈ newTo b q m, x < m := fun _ hx => List.mem_range.1 (List.mem_filter.1 hx).1
theorem placedTiles_any (b : Bd) (q : Pl) (w : World) (hf : b.Fit) (ha : lettB q.word = true) (hl : q.word.length ≤ 2 ^ 32) (h1 : -400000000000 ≤ q.row) (h2 : q.row ≤ 400000000000) (h3 : -400000000000 ≤ q.col) (h4 : q.col ≤ 400000000000) :
   Calls Tryz.prog 97 #[b.v, q.v] w fun e w' => e = .returned (sv (tilesP (placedI b q))) ∧ Below w.heap.size w w' := by
 have kn := fun w => newSquares_any b q w hf (lettB_ascii ha) hl h1 h2 h3 h4
 have hPl : lettB (placedI b q) = true := by
   refine List.all_eq_true.2 fun c hc => ?_
   obtain ⟨i, hi, rfl⟩ := List.mem_map.1 hc
   have hlt := newTo_lt b q _ i hi
   rw [List.getD_eq_getElem?_getD, List.getElem?_eq_getElem hlt]
   exact List.all_eq_true.1 ha _ (List.getElem_mem hlt)
 have hNl := newTo_length b q q.word.length
 change (newL b q).length ≤ _ at hNl
 have hNx := newTo_lt b q q.word.length
 change ∀ x ∈ newL b q, _ at hNx
 have kt := fun w => tilesOf_any (placedI b q) w (by rw [placedI, List.length_map]; omega) hPl
 have hdef : Hid (placedI b q = (newL b q).map fun i => q.word.getD i 0) := Lib.hid rfl
 obtain ⟨NL, hNL⟩ : ∃ NL, NL = newL b q := ⟨_, rfl⟩
 obtain ⟨PI, hPI⟩ : ∃ PI, PI = placedI b q := ⟨_, rfl⟩
 rw [← hNL] at kn hNl hNx hdef
 rw [← hPI] at kt hdef ⊢
 clear hNL hPI hPl h1 h2 h3 h4 ha
 simp only [Bd.v, Pl.v] at *
 have hB0 := (Blk.new w 41 #[.int .i64 b.size, sv b.prem, sv b.cells]).alloc (.cells #[.int .i64 q.row, .int .i64 q.col, .bool q.down, sv q.word] 61)
 have hB1 := Blk.new1 w (.cells #[.int .i64 b.size, sv b.prem, sv b.cells] 41) 61 #[.int .i64 q.row, .int .i64 q.col, .bool q.down, sv q.word]
 have hbW := ((Below.refl w.heap.size w).alloc (Nat.le_refl _) (.cells #[.int .i64 b.size, sv b.prem, sv b.cells] 41)).alloc (by simp) (.cells #[.int .i64 q.row, .int .i64 q.col, .bool q.down, sv q.word] 61)
 go_enter Tryz.func97, Tryz.ntmps97
 go_wp2_with (go_at_call 157; refine (kn _).mono ?_; rintro e w1 ⟨v1, v2, rfl, own1, own2, hb1⟩; obtain ⟨A2, c2, rfl, hc2, hr2⟩ := own_sl own2)
 have hb1' := hbW.trans (hb1.mono hbW.size)
 have hP1 := hB1.below hb1 hB1.lt
 have hr3 : Reads (w1.alloc (.cells #[] 5)) w1.heap.size 1 A2 NL.length (NL.map iv) := hr2.alloc (Nat.le_refl _) _
 have own0 := World.ownsRow_lit (base := w1.heap.size) (size := 1) (e := 5) w1 #[] 0 (Nat.le_refl _) (by unfold maxLen; omega) rfl
 have hP2 := hP1.alloc (.cells #[] 5)
 have hb2 := hb1'.alloc hb1'.size (.cells #[] 5)
 clear hB0 hB1 hbW hb1 own1 own2 hr2 kn hP1
 go_loopw [7, 19] (fun o i wr => ∃ k : Nat, k ≤ NL.length ∧ i = .int .i64 k ∧ wr.ownsRow w1.heap.size 5 1 o k ((PI.take k).map bv) ∧ Reads wr w1.heap.size 1 A2 NL.length (NL.map iv) ∧ Blk wr (w.heap.size + 1) 61 #[.int .i64 q.row, .int .i64 q.col, .bool q.down, sv q.word] ∧ Below w.heap.size w wr ∧ w1.heap.size ≤ wr.heap.size) (fun _ i _ => NL.length - (intOf i).toNat)
 case atStart => exact ⟨0, by omega, rfl, own0, hr3, hP2, hb2, by simp⟩
 case round =>
   clear own0 hr3 hP2 hb2
   obtain ⟨k, hk, rfl, own3, hr3, hP3, hb3, hz3⟩ := hrel
   have hPIl : Hid (PI.length = NL.length) := Lib.hid (by rw [hdef.out, List.length_map])
   by_cases hkl : k < NL.length
   · obtain ⟨ad, rfl, hadb, hc3⟩ := hr3.el hkl
     have hx := hNx NL[k] (List.getElem_mem _)
     have hstep : Hid (PI.take (k + 1) = PI.take k ++ [q.word.getD NL[k] 0]) := Lib.hid (by
       have hlt : k < PI.length := by rw [hPIl.out]; exact hkl
       rw [List.take_succ_eq_append_getElem hlt]
       congr 2
       simp [hdef.out])
     obtain ⟨x, hxx⟩ : ∃ x, x = NL[k] := ⟨_, rfl⟩
     rw [← hxx] at hx hstep hc3
     clear hxx
     have hix : (x : Int) < (q.word.length : Int) := by omega
     have hx0 : (0 : Int) ≤ (x : Int) := by omega
     have hkk : (k : Int) < (NL.length : Int) := by omega
     have hc3' : wr.cell? (ad.add k) = some (.int .i64 x) := hc3
     clear hc3
     have hget : Hid (q.word.getD x 0 = q.word[x]) := Lib.hid (by rw [List.getD_eq_getElem?_getD, List.getElem?_eq_getElem hx]; rfl)
     have d3 : wr.cell? ⟨w.heap.size + 1, 3, none⟩ = some (sv q.word) := hP3.cell 3
     have hbase := hb3.size
     go_wp2_with (at_builtin; refine wpList_app byteT rfl (.tmp 23) (.tmp 28) rfl _ k _ rfl w1.heap.size own3 [bv q.word[x]] rfl (by simp [Value.oneCell']) rfl (by omega) (by omega) hz3 ?_; intro v4 w4 own4 hg4 hat4)
     go_roundw
     case rel => exact ⟨k + 1, by omega, by go_num, own_cast own4 (by rw [hstep.out, hget.out]; simp) rfl, hr3.grown hg4 hz3 (fun g hr => (own3.lt g hr).1), hP3.grown hg4 (fun h => own_blk_ne own3 hP3 (by decide) h.symm), Below.own hb3 hbase own3 hb1'.size hg4, Nat.le_trans hz3 hg4.size⟩
     case measure => simp [intOf]; omega
   · obtain rfl : k = NL.length := by omega
     have own4 := own_cast own3 (by rw [← hPIl.out, List.take_length]) hPIl.out.symm
     have hcv := run_string_own (P := Tryz.prog) wr 209 9 5 Tryz.underlying209 Tryz.underlying5 Tryz.underlying9 (l := PI) own4
     go_wp2_with (go_at_call 168; refine (kt _).mono ?_; rintro e w5 ⟨rfl, hb5⟩)
     go_ret
     exact ⟨rfl, hb3.trans (hb5.mono hb3.size)⟩
def idxOf (b : Bd) (q : Pl) (i : Nat) : Nat := (q.sr i * b.size + q.sc i).toNat
def madeTo (b : Bd) (q : Pl) (k : Nat) : Str := (List.range k).foldl (fun s i => s.set (idxOf b q i) (q.word.getD i 0)) b.cells
def madeB (b : Bd) (q : Pl) : Bd := ⟨b.size, b.prem, madeTo b q q.word.length⟩
theorem madeTo_succ (b : Bd) (q : Pl) (k : Nat) : madeTo b q (k + 1) = (madeTo b q k).set (idxOf b q k) (q.word.getD k 0) := by
 simp [madeTo, List.range_succ]
theorem madeTo_length (b : Bd) (q : Pl) : ∀ k, (madeTo b q k).length = b.cells.length
 | 0 => rfl
 | k + 1 => by rw [madeTo_succ, List.length_set, madeTo_length b q k]
def OnQ (b : Bd) (q : Pl) : Prop := ∀ i : Nat, i < q.word.length → b.inB (q.sr i) (q.sc i) = true
theorem BRow.iterAt {w : World} {base g : Nat} {e : TypeId} {xs : List Value} (h : BRow w base g e xs) {k : Nat} {s : ByteArray} {pos pos' : Nat} (hk : w.heap[k]? = some (.stringIter s pos)) : BRow (w.iterAt k s pos') base g e xs := by
 refine h.keep (Lib.iterAt_other w k g s pos' fun e => ?_)
 obtain ⟨_, cur, lo, hi, hh, _⟩ := h
 subst e; rw [hk] at hh; cases hh
theorem made_any (b : Bd) (q : Pl) (w : World) (hf : b.Fit) (ha : asciiB q.word = true) (hon : OnQ b q) (hl : q.word.length ≤ 2 ^ 32) (h1 : -400000000000 ≤ q.row) (h2 : q.row ≤ 400000000000) (h3 : -400000000000 ≤ q.col) (h4 : q.col ≤ 400000000000) :
   Calls Tryz.prog 99 #[b.v, q.v] w fun e w' => e = .returned (madeB b q).v ∧ Below w.heap.size w w' := by
 have ksq := fun (n : Nat) (h : n < q.word.length) (w : World) => square_any q n w (by omega) (by omega) (by omega) (by omega) (by omega) (by omega)
 have hasc : ∀ (k : Nat) (h : k < q.word.length), (q.word[k]).toNat < 128 := fun k h => by
   have := List.all_eq_true.1 ha _ (List.getElem_mem h)
   simpa using this
 have hM : Hid (madeB b q = ⟨b.size, b.prem, madeTo b q q.word.length⟩) := Lib.hid rfl
 have hMs : Hid (∀ k, madeTo b q (k + 1) = (madeTo b q k).set (q.sr k * b.size + q.sc k).toNat (q.word.getD k 0)) := Lib.hid (fun k => madeTo_succ b q k)
 have hMl : Hid (∀ k, (madeTo b q k).length = b.cells.length) := Lib.hid (fun k => madeTo_length b q k)
 have hM0 : Hid (madeTo b q 0 = b.cells) := Lib.hid rfl
 have h5 := hf.lo
 have h15 := hf.hi
 have hcl := Lib.hid hf.cells
 obtain ⟨M, hMe⟩ : ∃ M, M = madeB b q := ⟨_, rfl⟩
 obtain ⟨MT, hMT⟩ : ∃ MT, MT = madeTo b q := ⟨_, rfl⟩
 rw [← hMT] at hM hMs hMl hM0
 rw [← hMe] at hM ⊢
 have hasc' := Lib.hid hasc
 have ksq' := Lib.hid ksq
 have hon' := Lib.hid (fun i h => inB_iff.1 (hon i h))
 clear hMe hMT hasc ksq ha hf hon h1 h2 h3 h4
 obtain ⟨n, bp, bc⟩ := b
 obtain ⟨qr, qc, qd, qw⟩ := q
 simp only [Bd.v, Pl.v, sqV] at *
 obtain ⟨W0, hW0⟩ : ∃ W0, W0 = ((w.alloc (.cells #[.int .i64 n, sv bp, sv bc] 41)).alloc (.cells #[.int .i64 qr, .int .i64 qc, .bool qd, sv qw] 61)).alloc (.cells #[.int .i64 0, .string ⟨#[]⟩, .string ⟨#[]⟩] 41) := ⟨_, rfl⟩
 have hz0 : W0.heap.size = w.heap.size + 3 := by rw [hW0]; simp
 have hB0 : Blk W0 w.heap.size 41 #[.int .i64 n, sv bp, sv bc] := by rw [hW0]; exact ((Blk.new w _ _).alloc _).alloc _
 have hB1 : Blk W0 (w.heap.size + 1) 61 #[.int .i64 qr, .int .i64 qc, .bool qd, sv qw] := by rw [hW0]; exact (Blk.new1 w _ _ _).alloc _
 have hB2 : Blk W0 (w.heap.size + 1 + 1) 41 #[.int .i64 0, .string ⟨#[]⟩, .string ⟨#[]⟩] := by rw [hW0]; exact Blk.new2 w _ _ _ _
 have hbW : Below w.heap.size w W0 := by rw [hW0]; exact ((((Below.refl _ _).alloc (Nat.le_refl _) _).alloc (by simp) _).alloc (by simp; omega) _)
 have kb := fun (w : World) => run_bytes_of_string (P := Tryz.prog) w 9 209 5 ⟨bc.toArray⟩ Tryz.underlying9 Tryz.underlying209 Tryz.underlying5
 go_enter Tryz.func99, Tryz.ntmps99
 go_wp2_with (fail)
 rw [← hW0]
 clear hW0 kb
 generalize grownCap W0 bc.length 0 5 = cap
 have kr := BRow.of_string W0 bc cap 5
 generalize (Obj.cells (bytesRow ⟨bc.toArray⟩ cap) 5 ((bytesRow ⟨bc.toArray⟩ cap).size, (bytesRow ⟨bc.toArray⟩ cap).size + 1)) = ob at kr ⊢
 obtain ⟨W, hW⟩ : ∃ W, W = (W0.alloc ob).drew.iter ⟨qw.toArray⟩ 0 := ⟨_, rfl⟩
 rw [← hW]
 have hBR : BRow W w.heap.size (w.heap.size + 1 + 1 + 1) 5 ((MT 0).map bv) := by
   rw [hM0.out, hW]
   have h1 := kr.below (w' := (W0.alloc ob).drew.iter ⟨qw.toArray⟩ 0) (B := (W0.alloc ob).heap.size) (show Below (W0.alloc ob).heap.size (W0.alloc ob) _ from ((Below.refl _ (W0.alloc ob)).drew).alloc (Nat.le_refl _) _) (by simp)
   have e : W0.heap.size = w.heap.size + 1 + 1 + 1 := by omega
   rw [e] at h1
   obtain ⟨_, h2⟩ := h1
   exact ⟨by omega, h2⟩
 have hD0 : Blk W w.heap.size 41 #[.int .i64 n, sv bp, sv bc] := by rw [hW]; exact (hB0.alloc ob).drew.alloc _
 have hD1 : Blk W (w.heap.size + 1) 61 #[.int .i64 qr, .int .i64 qc, .bool qd, sv qw] := by rw [hW]; exact (hB1.alloc ob).drew.alloc _
 have hD2 : Blk W (w.heap.size + 1 + 1) 41 #[.int .i64 0, .string ⟨#[]⟩, .string ⟨#[]⟩] := by rw [hW]; exact (hB2.alloc ob).drew.alloc _
 have hb0 : Below w.heap.size w W := by rw [hW]; exact (hbW.alloc (by omega) ob).drew.alloc (by simp; omega) _
 have hit : W.heap[w.heap.size + 1 + 1 + 1 + 1]? = some (.stringIter ⟨qw.toArray⟩ 0) := by
   rw [hW]
   have := World.iter_heap (W0.alloc ob).drew ⟨qw.toArray⟩ 0
   have e : (W0.alloc ob).drew.heap.size = w.heap.size + 1 + 1 + 1 + 1 := by
     show (W0.alloc ob).heap.size = _
     simp; omega
   rw [e] at this
   exact this
 clear hW kr hB0 hB1 hB2 hbW
 go_loopw [6, 7] (fun _ _ wr => ∃ k : Nat, k ≤ qw.length ∧ wr.heap[w.heap.size + 1 + 1 + 1 + 1]? = some (.stringIter ⟨qw.toArray⟩ k) ∧ BRow wr w.heap.size (w.heap.size + 1 + 1 + 1) 5 ((MT k).map bv) ∧ Blk wr w.heap.size 41 #[.int .i64 n, sv bp, sv bc] ∧ Blk wr (w.heap.size + 1) 61 #[.int .i64 qr, .int .i64 qc, .bool qd, sv qw] ∧ Blk wr (w.heap.size + 1 + 1) 41 #[.int .i64 0, .string ⟨#[]⟩, .string ⟨#[]⟩] ∧ Below w.heap.size w wr) (fun _ _ wr => qw.length - wr.iterPos (w.heap.size + 1 + 1 + 1 + 1))
 case atStart => exact ⟨0, by omega, hit, hBR, hD0, hD1, hD2, hb0⟩
 case round =>
   clear hit hBR hD0 hD1 hD2 hb0
   obtain ⟨k, hk, hit, hBR, hD0, hD1, hD2, hb⟩ := hrel
   by_cases hlt : k < qw.length
   · have hnx : ∀ ty, (Instr.next (.pointer (some ⟨w.heap.size + 1 + 1 + 1 + 1, 0, none⟩)) true ty).run Tryz.prog wr = .ok (.tuple #[.bool true, .int .i64 k, .int .i32 (qw[k]).toNat]) (wr.iterAt (w.heap.size + 1 + 1 + 1 + 1) ⟨qw.toArray⟩ (k + 1)) := fun ty =>
       Lib.run_next_ascii_at wr _ ⟨qw.toArray⟩ k ty hit (by simpa [ByteArray.size] using hlt) (hasc'.out k hlt)
     obtain ⟨W1, hW1⟩ : ∃ W1, W1 = wr.iterAt (w.heap.size + 1 + 1 + 1 + 1) ⟨qw.toArray⟩ (k + 1) := ⟨_, rfl⟩
     have hBR1 := hBR.iterAt (pos' := k + 1) hit
     have hE0 := hD0.iterAt (pos' := k + 1) hit
     have hE1 := hD1.iterAt (pos' := k + 1) hit
     have hE2 := hD2.iterAt (pos' := k + 1) hit
     have hit1 := Lib.iterAt_heap wr _ ⟨qw.toArray⟩ k (k + 1) hit
     have hb1 := Lib.below_iterAt hb (k := w.heap.size + 1 + 1 + 1 + 1) (by omega) ⟨qw.toArray⟩ (k + 1)
     rw [← hW1] at hnx hBR1 hE0 hE1 hE2 hit1 hb1
     clear hW1 hBR hD0 hD1 hD2 hb
     have ks := ksq'.out k hlt
     have hon := hon'.out k hlt
     have hst := Lib.hid (hMs.out k)
     have hml := hMl.out k
     obtain ⟨sr, hsr⟩ : ∃ sr, sr = Pl.sr ⟨qr, qc, qd, qw⟩ k := ⟨_, rfl⟩
     obtain ⟨sc, hsc⟩ : ∃ sc, sc = Pl.sc ⟨qr, qc, qd, qw⟩ k := ⟨_, rfl⟩
     rw [← hsr, ← hsc] at ks hon hst
     clear hsr hsc
     obtain ⟨⟨r0, r1⟩, c0, c1⟩ := hon
     obtain ⟨m0, m1, m2, m3, m4⟩ := mul_bounds h5 h15 r0 r1 c0 c1
     have hidx : sr * n + sc < (bc.length : Int) := by have : (bc.length : Int) = n * n := hcl.out; omega
     have hMl2 : (MT k).length = bc.length := hml
     obtain ⟨C, hC⟩ : ∃ C, C = MT k := ⟨_, rfl⟩
     rw [← hC] at hBR1 hst hMl2
     clear hC hml
     have hCl := Lib.hid hMl2
     have hnat : (sr * n + sc).toNat < (C.map bv).length := by rw [List.length_map, hMl2]; omega
     clear hMl2
     have hset := Lib.hid (fun u => hBR1.stored (sr * n + sc).toNat u)
     have hrm : sr * n ≤ 210 := m1
     have hr3 : sr * n + sc ≤ 1000 := by omega
     have hfr := Lib.hid (hBR1.frozen hnat)
     have hce := Lib.hid (hBR1.cell hnat)
     have d0 : W1.cell? ⟨w.heap.size + 1, 0, none⟩ = some (.int .i64 qr) := hE1.cell 0
     have d1 : W1.cell? ⟨w.heap.size + 1, 1, none⟩ = some (.int .i64 qc) := hE1.cell 1
     have d2 : W1.cell? ⟨w.heap.size + 1, 2, none⟩ = some (.bool qd) := hE1.cell 2
     have d3 : W1.cell? ⟨w.heap.size + 1, 3, none⟩ = some (sv qw) := hE1.cell 3
     go_wp2_with (first
       | (go_at_call 169; refine (ks _).mono ?_; rintro e w2 ⟨rfl, hb2⟩))
     obtain ⟨W2, hW2⟩ : ∃ W2, W2 = w2.alloc (.cells #[.int .i64 sr, .int .i64 sc] 229) := ⟨_, rfl⟩
     have hSQ : Blk W2 w2.heap.size 229 #[.int .i64 sr, .int .i64 sc] := by rw [hW2]; exact Blk.new _ _ _
     have hb12 : Below W1.heap.size W1 W2 := by rw [hW2]; exact hb2.alloc hb2.size _
     rw [← hW2]
     clear hW2 d0 d1 d2 d3
     have hF0 := hE0.below hb12 hE0.lt
     have hF1 := hE1.below hb12 hE1.lt
     have hG1 := hBR1.below hb12 hBR1.lt
     have hkk : (k : Int) < (qw.length : Int) := by omega
     have hk0 : (0 : Int) ≤ (k : Int) := by omega
     clear hset hfr hce
     refine wp_region_b 14 (by kernel_rfl) (by kernel_rfl) ?_
     simp only [qqT, List.take_zero, qqD, List.drop_zero]
     iterate 14
       apply pc_step rfl
       · intro w4 hb4 K hK
         have hS4 := hSQ.below hb4 hSQ.lt
         have f0 : w4.cell? ⟨w2.heap.size, 0, none⟩ = some (.int .i64 sr) := hS4.cell 0
         have f1 : w4.cell? ⟨w2.heap.size, 1, none⟩ = some (.int .i64 sc) := hS4.cell 1
         have g0 : w4.cell? ⟨w.heap.size, 0, none⟩ = some (.int .i64 n) := (hF0.below hb4 hF0.lt).cell 0
         have d3 : w4.cell? ⟨w.heap.size + 1, 3, none⟩ = some (sv qw) := (hF1.below hb4 hF1.lt).cell 3
         go_wp2_with (fail)
         all_goals first | exact hb4 | exact hb4.trans (hb5.mono hb4.size) | exact hb4.trans (hd5.below.mono hb4.size)
       simp only [Act.put, qqS, qqC, qqZ]
     refine pc_nil ?_
     intro w4 hb4
     have hG4 := hG1.below hb4 hG1.lt
     have hset := hG4.stored (sr * n + sc).toNat (bv qw[k])
     have hfr := hG4.frozen hnat
     have hce := hG4.cell hnat
     have hgz := hG4.lt
     have hit4 := iter_below (iter_below hit1 hb12) hb4
     have hF04 := hF0.below hb4 hF0.lt
     have hF14 := hF1.below hb4 hF1.lt
     have hF24 := (hE2.below hb12 hE2.lt).below hb4 (by have := hb12.size; have := hE2.lt; omega)
     have hb5 := (hb1.trans (hb12.mono hb1.size)).trans (hb4.mono (Nat.le_trans hb1.size hb12.size))
     have hget : Hid (qw.getD k 0 = qw[k]) := Lib.hid (by rw [List.getD_eq_getElem?_getD, List.getElem?_eq_getElem hlt]; rfl)
     go_wp2_with (fail)
     have hit5 : (w4.setCell ⟨w.heap.size + 1 + 1 + 1, (sr * n + sc).toNat, none⟩ (bv qw[k])).heap[w.heap.size + 1 + 1 + 1 + 1]? = some (.stringIter ⟨qw.toArray⟩ (k + 1)) := by
       rw [Below.heap_setCell w4 _ _ _ (by show w.heap.size + 1 + 1 + 1 + 1 ≠ w.heap.size + 1 + 1 + 1; omega)]; exact hit4
     go_roundw
     case rel => exact ⟨k + 1, by omega, hit5, by rw [hst.out, hget.out, List.map_set]; exact hset, hF04.far (p := ⟨w.heap.size + 1 + 1 + 1, _, none⟩) (by simp <;> omega) _, hF14.far (p := ⟨w.heap.size + 1 + 1 + 1, _, none⟩) (by simp <;> omega) _, hF24.far (p := ⟨w.heap.size + 1 + 1 + 1, _, none⟩) (by simp) _, hb5.setCell (by simp <;> omega) _⟩
     case measure => simp only [World.iterPos, hit5, hit]; omega
   · obtain rfl : k = qw.length := by omega
     have hnx : ∀ ty, (Instr.next (.pointer (some ⟨w.heap.size + 1 + 1 + 1 + 1, 0, none⟩)) true ty).run Tryz.prog wr = .ok (.tuple #[.bool false]) wr := fun ty =>
       Lib.run_next_end_at wr _ ⟨qw.toArray⟩ _ ty hit (by simp [ByteArray.size])
     have hlen : (MT qw.length).length = bc.length := hMl.out _
     have hcv := fun (w' : World) (h : BRow w' w.heap.size (w.heap.size + 1 + 1 + 1) 5 ((MT qw.length).map bv)) => run_string_brow (P := Tryz.prog) (cap := cap) (n := bc.length) w' 209 9 5 Tryz.underlying209 Tryz.underlying5 Tryz.underlying9 h hlen.symm
     have hcv' := hcv wr hBR
     have hMv : Hid (M = ⟨n, bp, MT qw.length⟩) := Lib.hid (by rw [hM.out])
     obtain ⟨X, hX⟩ : ∃ X, X = MT qw.length := ⟨_, rfl⟩
     rw [← hX] at hcv' hMv
     clear hX hcv hlen
     have b0 : wr.cell? ⟨w.heap.size, 0, none⟩ = some (.int .i64 n) := hD0.cell 0
     have b1 : wr.cell? ⟨w.heap.size, 1, none⟩ = some (sv bp) := hD0.cell 1
     have b2 : wr.cell? ⟨w.heap.size, 2, none⟩ = some (sv bc) := hD0.cell 2
     have f2 : wr.frozen? ⟨w.heap.size, 2, none⟩ = false := hD0.frozen 2
     have z0 := hD2.far (p := ⟨w.heap.size, 2, none⟩) (by simp <;> omega) (sv X)
     have r0 := hD2.frozen 0
     have r1 := hD2.frozen 1
     have r2 := hD2.frozen 2
     have x0 : wr.cell? ⟨w.heap.size + 1 + 1, 0, none⟩ = some (.int .i64 0) := hD2.cell 0
     have x1 : wr.cell? ⟨w.heap.size + 1 + 1, 1, none⟩ = some (.string ⟨#[]⟩) := hD2.cell 1
     have x2 : wr.cell? ⟨w.heap.size + 1 + 1, 2, none⟩ = some (.string ⟨#[]⟩) := hD2.cell 2
     have hlt2 : w.heap.size + 1 + 1 < wr.heap.size := hD2.lt
     go_wp2_with (fail)
     rw [hMv.out]
     exact ret_row (by rfl) (w.heap.size + 1 + 1) 41 #[.int .i64 n, sv bp, sv X] _ rfl (((z0.set_ 0 _).set_ 1 _).set_ 2 _) Tryz.underlying41 rfl (by kernel_rfl) rfl ⟨rfl, (((hb.setCell (Nat.le_refl _) _).setCell (by simp <;> omega) _).setCell (by simp <;> omega) _).setCell (by simp <;> omega) _⟩
def sqAt (d : Bool) (r c n : Int) : Int × Int := if d then (r + n, c) else (r, c + n)
def onAt (b : Bd) (d : Bool) (r c n : Int) : Bool := b.let_ (sqAt d r c n).1 (sqAt d r c n).2
def befN (b : Bd) (d : Bool) (r c : Int) : Nat → Nat → Nat
 | 0, m => m
 | f + 1, m => if onAt b d r c (-(m : Int) - 1) then befN b d r c f (m + 1) else m
def seqGo (b : Bd) (d : Bool) (r c : Int) : Nat → Int → List Int
 | 0, _ => []
 | f + 1, n => if onAt b d r c n then n :: seqGo b d r c f (n + 1) else []
def seqN (b : Bd) (d : Bool) (r c : Int) : List Int := seqGo b d r c 32 (-(befN b d r c 16 0 : Int))
def seqL (b : Bd) (d : Bool) (r c : Int) : List (Int × Int) := (seqN b d r c).map fun n => sqAt d r c n
theorem let_in {b : Bd} {r c : Int} (h : b.let_ r c = true) : b.inB r c = true := by
 unfold Bd.let_ Bd.cell at h
 cases hi : b.inB r c
 · rw [hi] at h; simp at h
 · rfl
theorem onAt_bd {b : Bd} {d : Bool} {r c n : Int} (hf : b.Fit) (hin : b.inB r c = true) (h : onAt b d r c n = true) : -14 ≤ n ∧ n ≤ 14 := by
 have h1 := let_in h
 obtain ⟨⟨r0, r1⟩, c0, c1⟩ := inB_iff.1 hin
 have h15 := hf.hi
 cases d
 · obtain ⟨⟨_, _⟩, d0, d1⟩ := inB_iff.1 (show b.inB r (c + n) = true from h1); omega
 · obtain ⟨⟨d0, d1⟩, _, _⟩ := inB_iff.1 (show b.inB (r + n) c = true from h1); omega
theorem befN_le {b : Bd} {d : Bool} {r c : Int} (hf : b.Fit) (hin : b.inB r c = true) : befN b d r c 16 0 ≤ 15 := by
 have : ∀ f m, m ≤ 14 → befN b d r c f m ≤ 14 := by
   intro f
   induction f with
   | zero => intro m hm; exact hm
   | succ f ih =>
     intro m hm
     rw [befN]
     split
     · rename_i h
       have := onAt_bd hf hin h
       exact ih (m + 1) (by omega)
     · exact hm
 have := this 16 0 (by omega)
 omega
theorem sequence_false (b : Bd) (r c : Int) (w : World) (hf : b.Fit) (hin : b.inB r c = true) :
   Calls Tryz.prog 295 #[b.v, sqV r c, dirV false] w fun e w' => ∃ v, e = .returned v ∧ w'.ownsRow w.heap.size 229 2 v (seqN b false r c).length (sqC (seqL b false r c)) ∧ Below w.heap.size w w' := by
 have ka : ∀ (n : Int) (w : World), -100 ≤ n → n ≤ 100 → Calls Tryz.prog 406 #[.agg #[], .int .i64 r, .int .i64 c, .int .i64 n] w fun e w' => e = .returned (.agg #[.int .i64 (r), .int .i64 (c + n)]) ∧ Below w.heap.size w w' := by
   obtain ⟨⟨r0, r1⟩, c0, c1⟩ := inB_iff.1 hin
   have := hf.hi
   intro n w h1 h2
   exact at_right r c n w (by omega) (by omega)
 have ko : ∀ (n : Int) (w : World), Calls Tryz.prog 232 #[b.v, .agg #[.int .i64 (r), .int .i64 (c + n)]] w fun e w' => e = .returned (.bool (onAt b false r c n)) ∧ Below w.heap.size w w' := fun n w => on_any b (r) (c + n) w hf
 have hn := fun w => nil_at false w
 have hm := fun w => meth_at false w
 have hx : ∀ n : Int, onAt b false r c n = true → -14 ≤ n ∧ n ≤ 14 := fun n h => onAt_bd hf hin h
 have hx' := Lib.hid hx
 have hbef : Hid (befN b false r c 16 0 ≤ 15) := Lib.hid (befN_le hf hin)
 have hS : Hid (seqN b false r c = seqGo b false r c 32 (-(befN b false r c 16 0 : Int))) := Lib.hid rfl
 have hL : Hid (seqL b false r c = (seqN b false r c).map fun n => sqAt false r c n) := Lib.hid rfl
 have hbs : Hid (∀ f m, befN b false r c (f + 1) m = if onAt b false r c (-(m : Int) - 1) then befN b false r c f (m + 1) else m) := Lib.hid (fun f m => rfl)
 have hss : Hid (∀ f n, seqGo b false r c (f + 1) n = if onAt b false r c n then n :: seqGo b false r c f (n + 1) else []) := Lib.hid (fun f n => rfl)
 have hsa : Hid (∀ n, sqAt false r c n = (r, c + n)) := Lib.hid (fun n => rfl)
 obtain ⟨SL, hSL⟩ : ∃ SL, SL = seqL b false r c := ⟨_, rfl⟩
 obtain ⟨SN, hSN⟩ : ∃ SN, SN = seqN b false r c := ⟨_, rfl⟩
 obtain ⟨BF, hBF⟩ : ∃ BF, BF = befN b false r c := ⟨_, rfl⟩
 obtain ⟨SG, hSG⟩ : ∃ SG, SG = seqGo b false r c := ⟨_, rfl⟩
 obtain ⟨OA, hOA⟩ : ∃ OA, OA = onAt b false r c := ⟨_, rfl⟩
 obtain ⟨SA, hSA⟩ : ∃ SA, SA = sqAt false r c := ⟨_, rfl⟩
 rw [← hSA] at hsa hL
 rw [← hOA] at ko hx' hbs hss
 rw [← hBF] at hbs hS hbef
 rw [← hSG] at hS hss
 rw [← hSN] at hS hL ⊢
 rw [← hSL] at hL ⊢
 clear hSL hSN hBF hSG hOA hSA hx hf hin
 simp only [Bool.false_eq_true, if_false] at hn hm
 simp only [dirV, Bool.false_eq_true, if_false]
 obtain ⟨sz, bp, bc⟩ := b
 simp only [Bd.v, sqV] at *
 have hB0 := (Blk.new w 41 #[.int .i64 sz, sv bp, sv bc]).alloc (.cells #[.int .i64 r, .int .i64 c] 229)
 have hB1 := Blk.new1 w (.cells #[.int .i64 sz, sv bp, sv bc] 41) 229 #[.int .i64 r, .int .i64 c]
 have hbW := ((Below.refl w.heap.size w).alloc (Nat.le_refl _) (.cells #[.int .i64 sz, sv bp, sv bc] 41)).alloc (by simp) (.cells #[.int .i64 r, .int .i64 c] 229)
 go_enter Tryz.func295, Tryz.ntmps295
 go_wp2_with (fail)
 go_loopw [7] (fun i wr => ∃ m : Nat, m ≤ 15 ∧ i = .int .i64 (-(m : Int)) ∧ Hid (BF 16 0 = BF (16 - m) m) ∧ Blk wr w.heap.size 41 #[.int .i64 sz, sv bp, sv bc] ∧ Blk wr (w.heap.size + 1) 229 #[.int .i64 r, .int .i64 c] ∧ Below w.heap.size w wr) (fun i _ => (intOf i + 16).toNat)
 case atStart => exact ⟨0, by omega, rfl, rfl, hB0, hB1, hbW⟩
 case round =>
   clear hB0 hB1 hbW
   obtain ⟨m, hm15, rfl, hBFm, hB0, hB1, hb⟩ := hrel
   have hbd := hx'.out (-(m : Int) - 1)
   have hst := Lib.hid (hbs.out (15 - m) m)
   have ko1 := fun w => ko (-(m : Int) - 1) w
   have ka1 := fun w => ka (-(m : Int) - 1) w (by omega) (by omega)
   obtain ⟨o, ho⟩ : ∃ o, o = OA (-(m : Int) - 1) := ⟨_, rfl⟩
   rw [← ho] at hbd hst ko1
   clear ho
   cases o
   all_goals
     go_wp2_with (fail)
     refine wp_region_b 10 (by kernel_rfl) (by kernel_rfl) ?_
     simp only [qqT, List.take_zero, qqD, List.drop_zero]
     iterate 10
       apply pc_step rfl
       · intro w4 hb4 K hK
         have f0 : w4.cell? ⟨w.heap.size, 0, none⟩ = some (.int .i64 sz) := (hB0.below hb4 hB0.lt).cell 0
         have f1 : w4.cell? ⟨w.heap.size, 1, none⟩ = some (sv bp) := (hB0.below hb4 hB0.lt).cell 1
         have f2 : w4.cell? ⟨w.heap.size, 2, none⟩ = some (sv bc) := (hB0.below hb4 hB0.lt).cell 2
         have g0 : w4.cell? ⟨w.heap.size + 1, 0, none⟩ = some (.int .i64 r) := (hB1.below hb4 hB1.lt).cell 0
         have g1 : w4.cell? ⟨w.heap.size + 1, 1, none⟩ = some (.int .i64 c) := (hB1.below hb4 hB1.lt).cell 1
         go_wp2_with (first | (go_at_call 406; (with_reducible refine (ka1 _).mono ?_); rintro e w5 ⟨rfl, hb5⟩) | (go_at_call 232; (with_reducible refine (ko1 _).mono ?_); rintro e w5 ⟨rfl, hb5⟩))
         all_goals first | exact hb4 | exact hb4.trans (hb5.mono hb4.size) | exact hb4.trans (hd5.below.mono hb4.size)
       simp only [Act.put, qqS, qqC, qqZ]
     refine pc_nil ?_
     intro w4 hb4
     have hB04 := hB0.below hb4 hB0.lt
     have hB14 := hB1.below hb4 hB1.lt
     have hb5 := hb.trans (hb4.mono hb.size)
     clear hB0 hB1 hb hb4
   · go_wp2_with (fail)
     have hBm : Hid (BF 16 0 = m) := Lib.hid (by rw [hBFm.out, show 16 - m = (15 - m) + 1 by omega, hst.out]; rfl)
     have hSm : Hid (SN = SG 32 (-(m : Int))) := Lib.hid (by rw [hS.out, hBm.out])
     have own0 := World.ownsRow_lit (base := w4.heap.size) (size := 2) (e := 229) w4 #[] 0 (Nat.le_refl _) (by unfold maxLen; omega) rfl
     have hBw := hB14.lt
     have hC0 := hB04.alloc (.cells #[] 229)
     have hC1 := hB14.alloc (.cells #[] 229)
     have hb6 := hb5.alloc hb5.size (.cells #[] 229)
     have hBz : w4.heap.size ≤ (w4.alloc (.cells #[] 229)).heap.size := by simp
     obtain ⟨B, hBB⟩ : ∃ B, B = w4.heap.size := ⟨_, rfl⟩
     have hL4 : Value.slice (some ⟨w4.heap.size, 0, none⟩) 0 0 = Value.slice (some ⟨B, 0, none⟩) 0 0 := by rw [hBB]
     have HL4 := Lib.hid hL4
     clear hL4
     rw [← hBB] at own0 hBw hBz
     have hBB' := Lib.hid hBB
     clear hBB
     clear hB04 hB14 hb5 hbd hst ko1 ka1 hBFm hBm hbs hbef
     go_loopw [8, 9] (fun o i wr => ∃ (j : Nat) (l : List Int), j ≤ 31 ∧ i = .int .i64 (-(m : Int) + (j : Int)) ∧ l.length = j ∧ Hid (SN = l ++ SG (32 - j) (-(m : Int) + (j : Int))) ∧ wr.ownsRow B 229 2 o j (sqC (l.map SA)) ∧ Blk wr w.heap.size 41 #[.int .i64 sz, sv bp, sv bc] ∧ Blk wr (w.heap.size + 1) 229 #[.int .i64 r, .int .i64 c] ∧ Below w.heap.size w wr ∧ B ≤ wr.heap.size) (fun _ i _ => (32 - intOf i).toNat)
     case atStart => exact ⟨0, [], by omega, by simp, rfl, by rw [Int.natCast_zero, Int.add_zero]; exact hSm, by rw [HL4.out]; exact own0, hC0, hC1, hb6, hBz⟩
     case round =>
       clear own0 hC0 hC1 hb6 hSm hBz HL4
       obtain ⟨j, l, hj, rfl, hll, hSl, own1, hD0, hD1, hb7, hBz⟩ := hrel
       have HLL := Lib.hid hll
       clear hll
       have hbd := hx'.out (-(m : Int) + (j : Int))
       have hst := Lib.hid (hss.out (31 - j) (-(m : Int) + (j : Int)))
       have hsj := Lib.hid (hsa.out (-(m : Int) + (j : Int)))
       have ko1 := fun w => ko (-(m : Int) + (j : Int)) w
       have ka1 := fun w => ka (-(m : Int) + (j : Int)) w (by omega) (by omega)
       obtain ⟨n, hnn⟩ : ∃ n, n = -(m : Int) + (j : Int) := ⟨_, rfl⟩
       have hnb : -15 ≤ n ∧ n ≤ 31 := by omega
       have hnx : Hid (-(m : Int) + ((j + 1 : Nat) : Int) = n + 1) := Lib.hid (by omega)
       have hj29 : OA n = true → j ≤ 29 := fun h => by have := hx'.out n h; omega
       obtain ⟨o, ho⟩ : ∃ o, o = OA n := ⟨_, rfl⟩
       rw [← ho] at hj29
       rw [← hnn, ← ho] at hbd hst ko1
       rw [← hnn] at ka1 hsj hSl ⊢
       clear ho hnn
       obtain ⟨hn0, hn1⟩ := hnb
       cases o
       all_goals
         go_wp2_with (fail)
         refine wp_region_b 9 (by kernel_rfl) (by kernel_rfl) ?_
         simp only [qqT, List.take_zero, qqD, List.drop_zero]
         iterate 9
           apply pc_step rfl
           · intro w4 hb4 K hK
             have f0 : w4.cell? ⟨w.heap.size, 0, none⟩ = some (.int .i64 sz) := (hD0.below hb4 hD0.lt).cell 0
             have f1 : w4.cell? ⟨w.heap.size, 1, none⟩ = some (sv bp) := (hD0.below hb4 hD0.lt).cell 1
             have f2 : w4.cell? ⟨w.heap.size, 2, none⟩ = some (sv bc) := (hD0.below hb4 hD0.lt).cell 2
             have g0 : w4.cell? ⟨w.heap.size + 1, 0, none⟩ = some (.int .i64 r) := (hD1.below hb4 hD1.lt).cell 0
             have g1 : w4.cell? ⟨w.heap.size + 1, 1, none⟩ = some (.int .i64 c) := (hD1.below hb4 hD1.lt).cell 1
             go_wp2_with (first | (go_at_call 406; (with_reducible refine (ka1 _).mono ?_); rintro e w5 ⟨rfl, hb5⟩) | (go_at_call 232; (with_reducible refine (ko1 _).mono ?_); rintro e w5 ⟨rfl, hb5⟩))
             all_goals first | exact hb4 | exact hb4.trans (hb5.mono hb4.size) | exact hb4.trans (hd5.below.mono hb4.size)
           simp only [Act.put, qqS, qqC, qqZ]
         refine pc_nil ?_
         intro w4 hb4
         have own4 := own_call own1 hb4
         have hE0 := hD0.below hb4 hD0.lt
         have hE1 := hD1.below hb4 hD1.lt
         have hb8 := hb7.trans (hb4.mono hb7.size)
         have hBz4 := Nat.le_trans hBz hb4.size
         clear hD0 hD1 own1 hb7 hb4 hBz
       · go_wp2_with (fail)
         go_ret
         have hfin : SN = l := by rw [hSl.out, show 32 - j = (31 - j) + 1 by omega, hst.out]; simp
         exact ⟨_, rfl, own_base (own_cast own4 (by rw [hL.out, hfin]) (by rw [hfin, HLL.out])) (by omega), hb8⟩
       · have hj29' := hj29 (by trivial)
         have g0 : w4.cell? ⟨w.heap.size + 1, 0, none⟩ = some (.int .i64 r) := hE1.cell 0
         have g1 : w4.cell? ⟨w.heap.size + 1, 1, none⟩ = some (.int .i64 c) := hE1.cell 1
         have hlit := run_lit1 sqT (.agg #[.int .i64 (r), .int .i64 (c + n)]) #[.int .i64 (r), .int .i64 (c + n)] rfl rfl (by omega)
         have hz8 := hb8.size
         go_wp2_with (first
           | (go_at_call 406; refine (ka1 _).mono ?_; rintro e w6 ⟨rfl, hb6⟩
              have own6 := own_call own4 hb6
              have hbz6 := Nat.le_trans hBz4 hb6.size)
           | (at_builtin; refine wpList_app sqT rfl (.tmp 35) (.tmp 43) rfl _ j _ rfl B own6 [.int .i64 (r), .int .i64 (c + n)] rfl (by simp [Value.oneCell']) rfl (by omega) (by omega) hbz6 ?_; intro v7 w7 own7 hg7 hat7))
         go_roundw
         case rel => exact ⟨j + 1, l ++ [n], by omega, by rw [hnx.out], by rw [List.length_append, HLL.out]; rfl, Lib.hid (by rw [hSl.out, show 32 - j = (31 - j) + 1 by omega, hst.out, hnx.out, show 32 - (j + 1) = 31 - j by omega]; simp), own_cast own7 (by rw [List.map_append, sqC_append, List.map_cons, List.map_nil, hsj.out, sqC_one]) rfl, (hE0.below hb6 hE0.lt).grown hg7 (fun h => by have := (own6.lt _ h.symm).1; omega), (hE1.below hb6 hE1.lt).grown hg7 (fun h => by have := (own6.lt _ h.symm).1; omega), Below.own (hb8.trans (hb6.mono hz8)) (Nat.le_trans hz8 hb6.size) own6 (by omega) hg7, Nat.le_trans hbz6 hg7.size⟩
         case measure => simp [intOf]; omega
   · have hbd' := hbd (by trivial)
     go_wp2_with (fail)
     go_roundw
     case rel => exact ⟨m + 1, by omega, congrArg (Value.int .i64) (by omega), Lib.hid (by rw [hBFm.out, show 16 - m = (15 - m) + 1 by omega, hst.out, show 16 - (m + 1) = 15 - m by omega]; rfl), hB04, hB14, hb5⟩
     case measure => simp [intOf]; omega
theorem sequence_true (b : Bd) (r c : Int) (w : World) (hf : b.Fit) (hin : b.inB r c = true) :
   Calls Tryz.prog 295 #[b.v, sqV r c, dirV true] w fun e w' => ∃ v, e = .returned v ∧ w'.ownsRow w.heap.size 229 2 v (seqN b true r c).length (sqC (seqL b true r c)) ∧ Below w.heap.size w w' := by
 have ka : ∀ (n : Int) (w : World), -100 ≤ n → n ≤ 100 → Calls Tryz.prog 404 #[.agg #[], .int .i64 r, .int .i64 c, .int .i64 n] w fun e w' => e = .returned (.agg #[.int .i64 (r + n), .int .i64 (c)]) ∧ Below w.heap.size w w' := by
   obtain ⟨⟨r0, r1⟩, c0, c1⟩ := inB_iff.1 hin
   have := hf.hi
   intro n w h1 h2
   exact at_down r c n w (by omega) (by omega)
 have ko : ∀ (n : Int) (w : World), Calls Tryz.prog 232 #[b.v, .agg #[.int .i64 (r + n), .int .i64 (c)]] w fun e w' => e = .returned (.bool (onAt b true r c n)) ∧ Below w.heap.size w w' := fun n w => on_any b (r + n) (c) w hf
 have hn := fun w => nil_at true w
 have hm := fun w => meth_at true w
 have hx : ∀ n : Int, onAt b true r c n = true → -14 ≤ n ∧ n ≤ 14 := fun n h => onAt_bd hf hin h
 have hx' := Lib.hid hx
 have hbef : Hid (befN b true r c 16 0 ≤ 15) := Lib.hid (befN_le hf hin)
 have hS : Hid (seqN b true r c = seqGo b true r c 32 (-(befN b true r c 16 0 : Int))) := Lib.hid rfl
 have hL : Hid (seqL b true r c = (seqN b true r c).map fun n => sqAt true r c n) := Lib.hid rfl
 have hbs : Hid (∀ f m, befN b true r c (f + 1) m = if onAt b true r c (-(m : Int) - 1) then befN b true r c f (m + 1) else m) := Lib.hid (fun f m => rfl)
 have hss : Hid (∀ f n, seqGo b true r c (f + 1) n = if onAt b true r c n then n :: seqGo b true r c f (n + 1) else []) := Lib.hid (fun f n => rfl)
 have hsa : Hid (∀ n, sqAt true r c n = (r + n, c)) := Lib.hid (fun n => rfl)
 obtain ⟨SL, hSL⟩ : ∃ SL, SL = seqL b true r c := ⟨_, rfl⟩
 obtain ⟨SN, hSN⟩ : ∃ SN, SN = seqN b true r c := ⟨_, rfl⟩
 obtain ⟨BF, hBF⟩ : ∃ BF, BF = befN b true r c := ⟨_, rfl⟩
 obtain ⟨SG, hSG⟩ : ∃ SG, SG = seqGo b true r c := ⟨_, rfl⟩
 obtain ⟨OA, hOA⟩ : ∃ OA, OA = onAt b true r c := ⟨_, rfl⟩
 obtain ⟨SA, hSA⟩ : ∃ SA, SA = sqAt true r c := ⟨_, rfl⟩
 rw [← hSA] at hsa hL
 rw [← hOA] at ko hx' hbs hss
 rw [← hBF] at hbs hS hbef
 rw [← hSG] at hS hss
 rw [← hSN] at hS hL ⊢
 rw [← hSL] at hL ⊢
 clear hSL hSN hBF hSG hOA hSA hx hf hin
 simp only [if_true] at hn hm
 simp only [dirV, if_true]
 obtain ⟨sz, bp, bc⟩ := b
 simp only [Bd.v, sqV] at *
 have hB0 := (Blk.new w 41 #[.int .i64 sz, sv bp, sv bc]).alloc (.cells #[.int .i64 r, .int .i64 c] 229)
 have hB1 := Blk.new1 w (.cells #[.int .i64 sz, sv bp, sv bc] 41) 229 #[.int .i64 r, .int .i64 c]
 have hbW := ((Below.refl w.heap.size w).alloc (Nat.le_refl _) (.cells #[.int .i64 sz, sv bp, sv bc] 41)).alloc (by simp) (.cells #[.int .i64 r, .int .i64 c] 229)
 go_enter Tryz.func295, Tryz.ntmps295
 go_wp2_with (fail)
 go_loopw [7] (fun i wr => ∃ m : Nat, m ≤ 15 ∧ i = .int .i64 (-(m : Int)) ∧ Hid (BF 16 0 = BF (16 - m) m) ∧ Blk wr w.heap.size 41 #[.int .i64 sz, sv bp, sv bc] ∧ Blk wr (w.heap.size + 1) 229 #[.int .i64 r, .int .i64 c] ∧ Below w.heap.size w wr) (fun i _ => (intOf i + 16).toNat)
 case atStart => exact ⟨0, by omega, rfl, rfl, hB0, hB1, hbW⟩
 case round =>
   clear hB0 hB1 hbW
   obtain ⟨m, hm15, rfl, hBFm, hB0, hB1, hb⟩ := hrel
   have hbd := hx'.out (-(m : Int) - 1)
   have hst := Lib.hid (hbs.out (15 - m) m)
   have ko1 := fun w => ko (-(m : Int) - 1) w
   have ka1 := fun w => ka (-(m : Int) - 1) w (by omega) (by omega)
   obtain ⟨o, ho⟩ : ∃ o, o = OA (-(m : Int) - 1) := ⟨_, rfl⟩
   rw [← ho] at hbd hst ko1
   clear ho
   cases o
   all_goals
     go_wp2_with (fail)
     refine wp_region_b 10 (by kernel_rfl) (by kernel_rfl) ?_
     simp only [qqT, List.take_zero, qqD, List.drop_zero]
     iterate 10
       apply pc_step rfl
       · intro w4 hb4 K hK
         have f0 : w4.cell? ⟨w.heap.size, 0, none⟩ = some (.int .i64 sz) := (hB0.below hb4 hB0.lt).cell 0
         have f1 : w4.cell? ⟨w.heap.size, 1, none⟩ = some (sv bp) := (hB0.below hb4 hB0.lt).cell 1
         have f2 : w4.cell? ⟨w.heap.size, 2, none⟩ = some (sv bc) := (hB0.below hb4 hB0.lt).cell 2
         have g0 : w4.cell? ⟨w.heap.size + 1, 0, none⟩ = some (.int .i64 r) := (hB1.below hb4 hB1.lt).cell 0
         have g1 : w4.cell? ⟨w.heap.size + 1, 1, none⟩ = some (.int .i64 c) := (hB1.below hb4 hB1.lt).cell 1
         go_wp2_with (first | (go_at_call 404; (with_reducible refine (ka1 _).mono ?_); rintro e w5 ⟨rfl, hb5⟩) | (go_at_call 232; (with_reducible refine (ko1 _).mono ?_); rintro e w5 ⟨rfl, hb5⟩))
         all_goals first | exact hb4 | exact hb4.trans (hb5.mono hb4.size) | exact hb4.trans (hd5.below.mono hb4.size)
       simp only [Act.put, qqS, qqC, qqZ]
     refine pc_nil ?_
     intro w4 hb4
     have hB04 := hB0.below hb4 hB0.lt
     have hB14 := hB1.below hb4 hB1.lt
     have hb5 := hb.trans (hb4.mono hb.size)
     clear hB0 hB1 hb hb4
   · go_wp2_with (fail)
     have hBm : Hid (BF 16 0 = m) := Lib.hid (by rw [hBFm.out, show 16 - m = (15 - m) + 1 by omega, hst.out]; rfl)
     have hSm : Hid (SN = SG 32 (-(m : Int))) := Lib.hid (by rw [hS.out, hBm.out])
     have own0 := World.ownsRow_lit (base := w4.heap.size) (size := 2) (e := 229) w4 #[] 0 (Nat.le_refl _) (by unfold maxLen; omega) rfl
     have hBw := hB14.lt
     have hC0 := hB04.alloc (.cells #[] 229)
     have hC1 := hB14.alloc (.cells #[] 229)
     have hb6 := hb5.alloc hb5.size (.cells #[] 229)
     have hBz : w4.heap.size ≤ (w4.alloc (.cells #[] 229)).heap.size := by simp
     obtain ⟨B, hBB⟩ : ∃ B, B = w4.heap.size := ⟨_, rfl⟩
     have hL4 : Value.slice (some ⟨w4.heap.size, 0, none⟩) 0 0 = Value.slice (some ⟨B, 0, none⟩) 0 0 := by rw [hBB]
     have HL4 := Lib.hid hL4
     clear hL4
     rw [← hBB] at own0 hBw hBz
     have hBB' := Lib.hid hBB
     clear hBB
     clear hB04 hB14 hb5 hbd hst ko1 ka1 hBFm hBm hbs hbef
     go_loopw [8, 9] (fun o i wr => ∃ (j : Nat) (l : List Int), j ≤ 31 ∧ i = .int .i64 (-(m : Int) + (j : Int)) ∧ l.length = j ∧ Hid (SN = l ++ SG (32 - j) (-(m : Int) + (j : Int))) ∧ wr.ownsRow B 229 2 o j (sqC (l.map SA)) ∧ Blk wr w.heap.size 41 #[.int .i64 sz, sv bp, sv bc] ∧ Blk wr (w.heap.size + 1) 229 #[.int .i64 r, .int .i64 c] ∧ Below w.heap.size w wr ∧ B ≤ wr.heap.size) (fun _ i _ => (32 - intOf i).toNat)
     case atStart => exact ⟨0, [], by omega, by simp, rfl, by rw [Int.natCast_zero, Int.add_zero]; exact hSm, by rw [HL4.out]; exact own0, hC0, hC1, hb6, hBz⟩
     case round =>
       clear own0 hC0 hC1 hb6 hSm hBz HL4
       obtain ⟨j, l, hj, rfl, hll, hSl, own1, hD0, hD1, hb7, hBz⟩ := hrel
       have HLL := Lib.hid hll
       clear hll
       have hbd := hx'.out (-(m : Int) + (j : Int))
       have hst := Lib.hid (hss.out (31 - j) (-(m : Int) + (j : Int)))
       have hsj := Lib.hid (hsa.out (-(m : Int) + (j : Int)))
       have ko1 := fun w => ko (-(m : Int) + (j : Int)) w
       have ka1 := fun w => ka (-(m : Int) + (j : Int)) w (by omega) (by omega)
       obtain ⟨n, hnn⟩ : ∃ n, n = -(m : Int) + (j : Int) := ⟨_, rfl⟩
       have hnb : -15 ≤ n ∧ n ≤ 31 := by omega
       have hnx : Hid (-(m : Int) + ((j + 1 : Nat) : Int) = n + 1) := Lib.hid (by omega)
       have hj29 : OA n = true → j ≤ 29 := fun h => by have := hx'.out n h; omega
       obtain ⟨o, ho⟩ : ∃ o, o = OA n := ⟨_, rfl⟩
       rw [← ho] at hj29
       rw [← hnn, ← ho] at hbd hst ko1
       rw [← hnn] at ka1 hsj hSl ⊢
       clear ho hnn
       obtain ⟨hn0, hn1⟩ := hnb
       cases o
       all_goals
         go_wp2_with (fail)
         refine wp_region_b 9 (by kernel_rfl) (by kernel_rfl) ?_
         simp only [qqT, List.take_zero, qqD, List.drop_zero]
         iterate 9
           apply pc_step rfl
           · intro w4 hb4 K hK
             have f0 : w4.cell? ⟨w.heap.size, 0, none⟩ = some (.int .i64 sz) := (hD0.below hb4 hD0.lt).cell 0
             have f1 : w4.cell? ⟨w.heap.size, 1, none⟩ = some (sv bp) := (hD0.below hb4 hD0.lt).cell 1
             have f2 : w4.cell? ⟨w.heap.size, 2, none⟩ = some (sv bc) := (hD0.below hb4 hD0.lt).cell 2
             have g0 : w4.cell? ⟨w.heap.size + 1, 0, none⟩ = some (.int .i64 r) := (hD1.below hb4 hD1.lt).cell 0
             have g1 : w4.cell? ⟨w.heap.size + 1, 1, none⟩ = some (.int .i64 c) := (hD1.below hb4 hD1.lt).cell 1
             go_wp2_with (first | (go_at_call 404; (with_reducible refine (ka1 _).mono ?_); rintro e w5 ⟨rfl, hb5⟩) | (go_at_call 232; (with_reducible refine (ko1 _).mono ?_); rintro e w5 ⟨rfl, hb5⟩))
             all_goals first | exact hb4 | exact hb4.trans (hb5.mono hb4.size) | exact hb4.trans (hd5.below.mono hb4.size)
           simp only [Act.put, qqS, qqC, qqZ]
         refine pc_nil ?_
         intro w4 hb4
         have own4 := own_call own1 hb4
         have hE0 := hD0.below hb4 hD0.lt
         have hE1 := hD1.below hb4 hD1.lt
         have hb8 := hb7.trans (hb4.mono hb7.size)
         have hBz4 := Nat.le_trans hBz hb4.size
         clear hD0 hD1 own1 hb7 hb4 hBz
       · go_wp2_with (fail)
         go_ret
         have hfin : SN = l := by rw [hSl.out, show 32 - j = (31 - j) + 1 by omega, hst.out]; simp
         exact ⟨_, rfl, own_base (own_cast own4 (by rw [hL.out, hfin]) (by rw [hfin, HLL.out])) (by omega), hb8⟩
       · have hj29' := hj29 (by trivial)
         have g0 : w4.cell? ⟨w.heap.size + 1, 0, none⟩ = some (.int .i64 r) := hE1.cell 0
         have g1 : w4.cell? ⟨w.heap.size + 1, 1, none⟩ = some (.int .i64 c) := hE1.cell 1
         have hlit := run_lit1 sqT (.agg #[.int .i64 (r + n), .int .i64 (c)]) #[.int .i64 (r + n), .int .i64 (c)] rfl rfl (by omega)
         have hz8 := hb8.size
         go_wp2_with (first
           | (go_at_call 404; refine (ka1 _).mono ?_; rintro e w6 ⟨rfl, hb6⟩
              have own6 := own_call own4 hb6
              have hbz6 := Nat.le_trans hBz4 hb6.size)
           | (at_builtin; refine wpList_app sqT rfl (.tmp 35) (.tmp 43) rfl _ j _ rfl B own6 [.int .i64 (r + n), .int .i64 (c)] rfl (by simp [Value.oneCell']) rfl (by omega) (by omega) hbz6 ?_; intro v7 w7 own7 hg7 hat7))
         go_roundw
         case rel => exact ⟨j + 1, l ++ [n], by omega, by rw [hnx.out], by rw [List.length_append, HLL.out]; rfl, Lib.hid (by rw [hSl.out, show 32 - j = (31 - j) + 1 by omega, hst.out, hnx.out, show 32 - (j + 1) = 31 - j by omega]; simp), own_cast own7 (by rw [List.map_append, sqC_append, List.map_cons, List.map_nil, hsj.out, sqC_one]) rfl, (hE0.below hb6 hE0.lt).grown hg7 (fun h => by have := (own6.lt _ h.symm).1; omega), (hE1.below hb6 hE1.lt).grown hg7 (fun h => by have := (own6.lt _ h.symm).1; omega), Below.own (hb8.trans (hb6.mono hz8)) (Nat.le_trans hz8 hb6.size) own6 (by omega) hg7, Nat.le_trans hbz6 hg7.size⟩
         case measure => simp [intOf]; omega
   · have hbd' := hbd (by trivial)
     go_wp2_with (fail)
     go_roundw
     case rel => exact ⟨m + 1, by omega, congrArg (Value.int .i64) (by omega), Lib.hid (by rw [hBFm.out, show 16 - m = (15 - m) + 1 by omega, hst.out, show 16 - (m + 1) = 15 - m by omega]; rfl), hB04, hB14, hb5⟩
     case measure => simp [intOf]; omega
end Go.Proofs.YtdkckikobefekaaGreatDoor
