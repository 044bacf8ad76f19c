/-
  The walk of the law FnExactCheckMoves (the laws package). PRINTED BY wip/mk122.py (with wip/L122.head); The walk of the law FnExactCheckMoves at every argument (the laws package); What comes in: lexicons, boards, tile sets; the row's wrap; What comes in: lists of moves; five arguments.
  Conditions: strings of common size; the slices lie in memory; the library's variable MaxLen reads as a number; the slices lie in memory; the library's variable MaxLen reads as a number; none.
-/
import Derived.Test.YtdkckikobefekaaGreatDoorM19
import Derived.Test.YtdkckikobefekaaGreatDoorM28
import Derived.Test.YtdkckikobefekaaGreatDoorM16
import Derived.Test.YtdkckikobefekaaGreatDoorM07
import Derived.ProofKit
import Derived.Lay
import Derived.LaidMore
import Derived.Carry
import Derived.SizedLaws
import Derived.Deep.Strs
import Derived.Lib.SmallJoins
import Derived.Shelf.Vars
import Derived.ShapedOpen
import Derived.ChangeSlices
import Derived.Deep.Slices
namespace Go.Proofs.YtdkckikobefekaaGreatDoor
open Go.RowKit RegP RegL RegV
set_option maxHeartbeats 4000000
set_option maxRecDepth 100000
theorem law_check (A : Option Addr) (c : Nat) (lex : List Str) (t : TS) (A1 A2 : Option Addr) (c1 c2 : Nat) (b : Bd) (rack : Str) (A5 : Option Addr) (c5 : Nat) (ls : List Mv) (w : World) (hm : MaxOk w) (hr : Reads w w.heap.size 1 A lex.length (lex.map sv)) (hi : TsIn w t A1 A2) (h5 : Reads w w.heap.size 5 A5 ls.length (mvsC ls)) (hf5 : 0 < ls.length → ∀ ad, A5 = some ad → ad = ⟨ad.block, ad.off, none⟩) (hln : lex.length ≤ 2 ^ 20) (hls : ∀ x ∈ lex, x.length ≤ 2 ^ 20) (htl : t.letters.length ≤ 2 ^ 20) (htv : t.values.length ≤ 2 ^ 20) (htc : t.counts.length ≤ 2 ^ 20) (hrk : rack.length ≤ 2 ^ 20) (l1 : Int) (hl1 : szS lex (2 ^ 20) = l1) (hl0 : 0 ≤ l1) (hl2 : l1 ≤ 2 ^ 20) (l2 : Int) (hl3 : szT t l1 = l2) (hl4 : 0 ≤ l2) (hl5 : l2 ≤ 2 ^ 20) (l3 : Int) (hl6 : szB b l2 = l3) (hl7 : 0 ≤ l3) (hl8 : l3 ≤ 2 ^ 20) (l4 : Int) (hl9 : szS (wordsM ls) l3 = l4) (hl10 : 0 ≤ l4) (hlsn : ls.length ≤ 2 ^ 20) (hlsw : ∀ x ∈ ls, x.1.word.length ≤ 2 ^ 20) :
   Calls Tryz.prog 3 #[.agg #[.slice A lex.length c], t.v A1 c1 A2 c2, b.v, sv rack, .slice A5 ls.length c5] w fun e w' => e = .returned (.bool true) ∧ Below w.heap.size w w' := by
 obtain ⟨hbp, hbc⟩ := szB_bd (b := b) (l := l2) (by omega)
 have ksl := fun (W : World) (hW : Below w.heap.size w W) => szLexicon_any A c lex (2 ^ 20) W ((hr.below hW).more hW.size) (by omega) (fun x hx => by have := hls x hx; omega) (by decide) (by decide)
 have kst := fun W => szTileSet_any t A1 A2 c1 c2 l1 W (by omega) (by omega) (by omega) hl0 (by omega)
 have ksb := fun W => szBoard_any b l2 W hl4 (by omega) (by omega) (by omega)
 rw [hl1] at ksl
 rw [hl3] at kst
 rw [hl6] at ksb
 have ksm := fun (W : World) (hW : Below w.heap.size w W) => szMoveS_any A5 c5 ls l3 W ((h5.below hW).more hW.size) hf5 (by omega) (fun x hx => by have := hlsw x hx; omega) hl7 (by omega)
 rw [hl9] at ksm
 have ktm := fun (W : World) (hW : Below w.heap.size w W) => toMoveS_any A5 c5 ls W ((h5.below hW).more hW.size) hf5 (by omega)
 have ktl := fun (W : World) (hW : Below w.heap.size w W) => toLexicon_any A c lex W ((hr.below hW).more hW.size) (by omega)
 have ktt := fun (W : World) (hW : Below w.heap.size w W) => toTileSet_any t A1 A2 c1 c2 W (hi.below hW) (by omega) (by omega)
 have ktb := fun W => toBoard_any b W
 have ksp := fun (Ax : Option Addr) (cx : Nat) (A1 A2 : Option Addr) (c1 c2 : Nat) (A6 : Option Addr) (c6 : Nat) (W : World) (hi : TsIn W t A1 A2) (h : Reads W W.heap.size 1 Ax lex.length (lex.map sv)) (h6 : Reads W W.heap.size 5 A6 ls.length (mvsC ls)) hf6 => sCheckMoves_any rack t A1 A2 c1 c2 b Ax cx lex A6 c6 ls W hi h h6 hf6 (by omega) (by omega) (fun x hx => by have := hls x hx; omega) (by omega) (by omega) (by omega) (by omega) (by omega) (by omega)
 have kim := fun (Ax : Option Addr) (cx : Nat) (A1 A2 : Option Addr) (c1 c2 : Nat) (A6 : Option Addr) (c6 : Nat) (W : World) (hW : Below w.heap.size w W) (hi : TsIn W t A1 A2) (h : Reads W W.heap.size 1 Ax lex.length (lex.map sv)) (hA : Plain0 Ax) (h6 : Reads W W.heap.size 5 A6 ls.length (mvsC ls)) hf6 => iCheckMoves_any Ax cx lex t A1 A2 c1 c2 b rack A6 c6 ls W (hm.below hW) hi h hA h6 hf6 (by omega) (by omega) (fun x hx => by have := hls x hx; omega) (by omega) (by omega) (by omega) (by omega) (by omega) (by omega)
 obtain ⟨R, hR⟩ : ∃ R : Int, R = if movesCode t b lex rack = 0 then (chk (movesL t b lex rack) ls : Int) else 0 := ⟨_, rfl⟩
 obtain ⟨C, hC⟩ : ∃ C, C = movesCode t b lex rack := ⟨_, rfl⟩
 rw [← hR, ← hC] at ksp kim
 clear hR hC hl1 hl3 hl6 hl9 hbp hbc hm hlsw
 obtain ⟨sz, bp, bc⟩ := b
 simp only [Bd.v, TS.v] at *
 obtain ⟨V, hV⟩ : ∃ V, V = lex.map sv := ⟨_, rfl⟩
 have keqx := fun (B1 B2 : Option Addr) (d1 d2 : Nat) (W : World) (h1 : Reads W W.heap.size 1 B1 lex.length (lex.map sv)) (h2 : Reads W W.heap.size 1 B2 lex.length (lex.map sv)) => eqLexicon_any B1 B2 d1 d2 lex lex W h1 h2 (by omega)
 rw [beq_self_eq_true] at keqx
 have keqt := fun (B1 B2 D1 D2 : Option Addr) (d1 d2 d3 d4 : Nat) (W : World) (h1 : TsIn W t B1 B2) (h2 : TsIn W t D1 D2) => eqTileSet_any t t B1 B2 D1 D2 d1 d2 d3 d4 W h1 h2 (by omega) (by omega)
 simp only [eqTB_self, TS.v] at keqt
 rw [← hV] at ktl ksp kim hr keqx
 clear hV
 obtain ⟨XL, hXL⟩ : ∃ XL, XL = mvsC ls := ⟨_, rfl⟩
 have kel := fun (B1 B2 : Option Addr) (d1 d2 : Nat) (W : World) (h1 : Reads W W.heap.size 5 B1 ls.length (mvsC ls)) (h2 : Reads W W.heap.size 5 B2 ls.length (mvsC ls)) hf1 hf2 => eqMoveS_same B1 B2 d1 d2 ls W h1 h2 hf1 hf2 (by omega)
 rw [← hXL] at ktm ksp kim kel h5
 clear hXL
 have hCC : (C != C) = false := by simp
 have hRR : (R != R) = false := by simp
 have hrk' : ¬ (1048576 : Int) < (rack.length : Int) := by omega
 have hl0' : ¬ l1 < 0 := by omega
 have hl4' : ¬ l2 < 0 := by omega
 have hl7' : ¬ l3 < 0 := by omega
 have hl10' : ¬ l4 < 0 := by omega
 obtain ⟨W, hW⟩ : ∃ W, W = ((w.alloc (.cells #[.slice A lex.length c] 24)).alloc (.cells #[sv t.letters, .slice A1 t.values.length c1, .slice A2 t.counts.length c2, .int .i64 t.blanks] 27)).alloc (.cells #[.int .i64 sz, sv bp, sv bc] 29) := ⟨_, rfl⟩
 have hL : LA3 w A c lex.length t A1 c1 A2 c2 sz bp bc W := by
   rw [hW]
   exact ⟨(((Below.refl _ _).alloc (Nat.le_refl _) _).alloc (by simp) _).alloc (by simp; omega) _, ((Blk.new w _ _).alloc _).alloc _, (Blk.new1 w _ _ _).alloc _, Blk.new2 w _ _ _ _⟩
 go_enter Tryz.func3, Tryz.ntmps3
 go_wp2_with (first
   | (go_at_call 11; rw [← hW]; refine (ksl _ hL.low).mono ?_; rintro e w1 ⟨rfl, hb1⟩; have hL1 := hL.call hb1
      have f1 : w1.cell? ⟨w.heap.size + 1, 0, none⟩ = some (sv t.letters) := hL1.ts.cell 0
      have f2 : w1.cell? ⟨w.heap.size + 1, 1, none⟩ = some (.slice A1 t.values.length c1) := hL1.ts.cell 1
      have f3 : w1.cell? ⟨w.heap.size + 1, 2, none⟩ = some (.slice A2 t.counts.length c2) := hL1.ts.cell 2
      have f4 : w1.cell? ⟨w.heap.size + 1, 3, none⟩ = some (.int .i64 t.blanks) := hL1.ts.cell 3)
   | (go_at_call 12; refine (kst _).mono ?_; rintro e w2 ⟨rfl, hb2⟩; have hL2 := hL1.call hb2
      have g1 : w2.cell? ⟨w.heap.size + 1 + 1, 0, none⟩ = some (.int .i64 sz) := hL2.bd.cell 0
      have g2 : w2.cell? ⟨w.heap.size + 1 + 1, 1, none⟩ = some (sv bp) := hL2.bd.cell 1
      have g3 : w2.cell? ⟨w.heap.size + 1 + 1, 2, none⟩ = some (sv bc) := hL2.bd.cell 2)
   | (go_at_call 13; refine (ksb _).mono ?_; rintro e w3a ⟨rfl, hb3⟩; have hL3a := hL2.call hb3)
   | (go_at_call 14; refine (ksm _ hL3a.low).mono ?_; rintro e w3 ⟨rfl, hb3a⟩; have hL3 := hL3a.call hb3a))
 clear hL hL1 hL2 hL3a hb1 hb2 hb3 hb3a f1 f2 f3 f4 g1 g2 g3 ksl kst ksb ksm
 refine wp_region_v 16 15 (SX w3 (T4i w3.heap.size lex.length V t ls.length XL)) (by kernel_rfl) (by kernel_rfl) ⟨fun _ => undef, SX.start⟩ ?_
 simp only [qqT, List.take_zero, qqD, List.drop_zero]
 apply pv_step (fun _ => rfl)
 · intro σ L w1 hS h1 h2 K hK
   clear h2
   have f := hL3.lx.below hS.low hL3.lx.lt
   have f0 : w1.cell? ⟨w.heap.size, 0, none⟩ = some (.slice A lex.length c) := f.cell 0
   go_wp2
   exact hS.keep rfl
 simp only [Act.put, qqS, qqC, qqZ]
 apply pv_free (fun _ => rfl)
 · intro σ L w1 hS h1 h2 K hK
   clear h2
   go_wp2_with (go_at_call 16; refine (ktl _ (hL3.low.trans (hS.low.mono hL3.low.size))).mono ?_; rintro e w5 ⟨v5, rfl, own5, hb5⟩)
   exact hS.put T4i.stab hb5 rfl (PLx.mk (own_base own5 hS.low.size))
 simp only [Act.put, qqS, qqC, qqZ]
 apply pv_step (fun _ => rfl)
 · intro σ L w1 hS h1 h2 K hK
   clear h2
   have f := hL3.ts.below hS.low hL3.ts.lt
   have f0 : w1.cell? ⟨w.heap.size + 1, 0, none⟩ = some (sv t.letters) := f.cell 0
   have f1 : w1.cell? ⟨w.heap.size + 1, 1, none⟩ = some (.slice A1 t.values.length c1) := f.cell 1
   have f2 : w1.cell? ⟨w.heap.size + 1, 2, none⟩ = some (.slice A2 t.counts.length c2) := f.cell 2
   have f3 : w1.cell? ⟨w.heap.size + 1, 3, none⟩ = some (.int .i64 t.blanks) := f.cell 3
   go_wp2
   exact hS.keep rfl
 simp only [Act.put, qqS, qqC, qqZ]
 apply pv_free (fun _ => rfl)
 · intro σ L w1 hS h1 h2 K hK
   clear h2
   go_wp2_with (go_at_call 17; refine (ktt _ (hL3.low.trans (hS.low.mono hL3.low.size))).mono ?_; rintro e w5 ⟨v5, v6, rfl, own5, hb5⟩)
   exact hS.put T4i.stab hb5 rfl (PTs.mk (own5.base hS.low.size))
 simp only [Act.put, qqS, qqC, qqZ]
 apply pv_step (fun _ => rfl)
 · intro σ L w1 hS h1 h2 K hK
   clear h2
   have f := hL3.bd.below hS.low hL3.bd.lt
   have f0 : w1.cell? ⟨w.heap.size + 1 + 1, 0, none⟩ = some (.int .i64 sz) := f.cell 0
   have f1 : w1.cell? ⟨w.heap.size + 1 + 1, 1, none⟩ = some (sv bp) := f.cell 1
   have f2 : w1.cell? ⟨w.heap.size + 1 + 1, 2, none⟩ = some (sv bc) := f.cell 2
   go_wp2
   exact hS.keep rfl
 simp only [Act.put, qqS, qqC, qqZ]
 apply pv_step (v := .agg #[.int .i64 sz, sv bp, sv bc]) (fun _ => rfl)
 · intro σ L w1 hS h1 h2 K hK
   clear h2
   simp only [Act.put, qqS, qqC, qqZ] at hK
   go_wp2_with (go_at_call 18; refine (ktb _).mono ?_; rintro e w5 ⟨rfl, hb5⟩)
   exact (hS.below T4i.stab hb5).keep rfl
 simp only [Act.put, qqS, qqC, qqZ]
 apply pv_step (fun _ => rfl)
 · intro σ L w1 hS h1 h2 K hK
   clear h2
   go_wp2
   exact hS.keep rfl
 simp only [Act.put, qqS, qqC, qqZ]
 apply pv_step (fun _ => rfl)
 · intro σ L w1 hS h1 h2 K hK
   clear h2
   go_wp2
   exact hS.keep rfl
 simp only [Act.put, qqS, qqC, qqZ]
 apply pv_free (fun _ => rfl)
 · intro σ L w1 hS h1 h2 K hK
   clear h2
   go_wp2_with (go_at_call 19; refine (ktm _ (hL3.low.trans (hS.low.mono hL3.low.size))).mono ?_; rintro e w5 ⟨v5, rfl, own5, hb5⟩)
   exact hS.put T4i.stab hb5 rfl (own_base own5 hS.low.size)
 simp only [Act.put, qqS, qqC, qqZ]
 apply pv_step (v := .tuple #[.int .i64 R, .int .i64 C]) (fun _ => rfl)
 · intro σ L w1 hS h1 h2 K hK
   have hl := h2 1 (List.contains_iff_mem.1 (by kernel_rfl))
   have ht := h2 3 (List.contains_iff_mem.1 (by kernel_rfl))
   have hk8 := h2 8 (List.contains_iff_mem.1 (by kernel_rfl))
   clear h2
   simp only [Act.put, qqS, qqC, qqZ] at hK
   obtain ⟨vL, eL, ownL⟩ := hS.get (i := 1) rfl hl
   obtain ⟨v1, v2, eT, ownT⟩ := hS.get (i := 3) rfl ht
   have ownK := hS.get (i := 8) rfl hk8
   change w1.ownsRow _ _ _ _ _ _ at ownK
   obtain ⟨vK, hvK⟩ : ∃ vK, vK = σ 8 := ⟨_, rfl⟩
   rw [← hvK] at ownK
   obtain ⟨D1, d1, D2, d2, rfl, rfl⟩ := ownT.form
   obtain ⟨Ax, cx, rfl, -, hrx, hfx⟩ := own_form ownL
   obtain ⟨A6, c6, rfl, -, hr6, hf6⟩ := own_form ownK
   simp only [eL, eT, ← hvK] at hK ⊢
   clear hvK
   go_wp2_with (go_at_call 15; refine (ksp Ax cx D1 D2 d1 d2 A6 c6 _ ownT.in_ hrx hr6 hf6).mono ?_; rintro e w5 ⟨rfl, hb5⟩)
   exact (hS.below T4i.stab hb5).keep rfl
 simp only [Act.put, qqS, qqC, qqZ]
 apply pv_step (fun _ => rfl)
 · intro σ L w1 hS h1 h2 K hK
   clear h2
   go_wp2
   exact hS.keep rfl
 simp only [Act.put, qqS, qqC, qqZ]
 apply pv_step (fun _ => rfl)
 · intro σ L w1 hS h1 h2 K hK
   clear h2
   go_wp2
   exact hS.keep rfl
 simp only [Act.put, qqS, qqC, qqZ]
 apply pv_step (fun _ => rfl)
 · intro σ L w1 hS h1 h2 K hK
   clear h2
   go_wp2
   exact hS.keep rfl
 simp only [Act.put, qqS, qqC, qqZ]
 apply pv_step (fun _ => rfl)
 · intro σ L w1 hS h1 h2 K hK
   clear h2
   go_wp2
   exact hS.keep rfl
 simp only [Act.put, qqS, qqC, qqZ]
 apply pv_step (fun _ => rfl)
 · intro σ L w1 hS h1 h2 K hK
   clear h2
   go_wp2
   exact hS.keep rfl
 simp only [Act.put, qqS, qqC, qqZ]
 refine pv_nil fun σ w4 hS => ?_
 have hbw4 := hS.low
 clear hS
 generalize σ 1 = s1
 generalize σ 3 = s3
 generalize σ 8 = s8
 have hL4 := hL3.call hbw4
 have f0 : w4.cell? ⟨w.heap.size, 0, none⟩ = some (.slice A lex.length c) := hL4.lx.cell 0
 clear hbw4
 go_wp2_with (first
   | (go_at_call 16; refine (ktl _ hL4.low).mono ?_; rintro e w5 ⟨vx, rfl, ownx, hb5⟩; obtain ⟨Ax, cx, rfl, -, -, hfx⟩ := own_form ownx
      obtain ⟨gx, hgx⟩ : ∃ gx, gx = w5.heap.size := ⟨_, rfl⟩
      obtain ⟨w6, hw6⟩ : ∃ w6, w6 = w5.alloc (.cells #[.slice Ax lex.length cx] 37) := ⟨_, rfl⟩
      have hb6 : Below w5.heap.size w5 w6 := by rw [hw6]; exact (Below.refl _ _).alloc (Nat.le_refl _) _
      have hx6 : Blk w6 gx 37 #[.slice Ax lex.length cx] := by rw [hw6, hgx]; exact Blk.new _ _ _
      have hL6 := (hL4.call hb5).call hb6
      have ownx6 := own_call ownx hb6
      have hL5 := hL4.call hb5
      have f1 : w5.cell? ⟨w.heap.size + 1, 0, none⟩ = some (sv t.letters) := hL5.ts.cell 0
      have f2 : w5.cell? ⟨w.heap.size + 1, 1, none⟩ = some (.slice A1 t.values.length c1) := hL5.ts.cell 1
      have f3 : w5.cell? ⟨w.heap.size + 1, 2, none⟩ = some (.slice A2 t.counts.length c2) := hL5.ts.cell 2
      have f4 : w5.cell? ⟨w.heap.size + 1, 3, none⟩ = some (.int .i64 t.blanks) := hL5.ts.cell 3
      have f5 := hL5.ts.lt
      have f6 : w.heap.size + 1 ≠ w5.heap.size := by omega)
   | (go_at_call 17; rw [← hw6]; refine (ktt _ hL6.low).mono ?_; rintro e w7 ⟨v1, v2, rfl, ownt, hb7⟩; obtain ⟨D1, d1, D2, d2, rfl, rfl⟩ := ownt.form
      obtain ⟨gt, hgt⟩ : ∃ gt, gt = w7.heap.size := ⟨_, rfl⟩
      obtain ⟨w7b, hw8⟩ : ∃ w8, w8 = w7.alloc (.cells #[sv t.letters, .slice D1 t.values.length d1, .slice D2 t.counts.length d2, .int .i64 t.blanks] 39) := ⟨_, rfl⟩
      have hb8 : Below w7.heap.size w7 w7b := by rw [hw8]; exact (Below.refl _ _).alloc (Nat.le_refl _) _
      have ht7 : Blk w7b gt 39 #[sv t.letters, .slice D1 t.values.length d1, .slice D2 t.counts.length d2, .int .i64 t.blanks] := by rw [hw8, hgt]; exact Blk.new _ _ _
      have hL7 := (hL6.call hb7).call hb8)
   | (go_at_call 19; rw [← hw8]; refine (ktm _ hL7.low).mono ?_; rintro e w8 ⟨v6, rfl, ownl, hb9⟩; obtain ⟨E6, e6, rfl, -, -, hf6⟩ := own_form ownl))
 rw [← hgt, ← hgx]
 have ht8 := ht7.below hb9 ht7.lt
 have hL8 := hL7.call hb9
 have hx7 := (hx6.below hb7 hx6.lt).below hb8 (hx6.below hb7 hx6.lt).lt
 have hx8 := hx7.below hb9 hx7.lt
 have ownx8 := own_call (own_call (own_call ownx6 hb7) hb8) hb9
 have ownt8 := (ownt.below hb8).below hb9
 have hp8 : Plain0 Ax := fun ad h => by
   obtain ⟨g, rfl⟩ := hfx ad h
   rfl
 clear hw6 hgx hw8 hgt hb5 hb6 hb7 hb8 hb9 hL3 hL4 hL5 hL6 hL7 hx6 hx7 ht7 ownx ownx6 ownt f0 f1 f2 f3 f4 f5 f6
 refine wp_region_v 13 12 (SX w8 (fun _ => none)) (by kernel_rfl) (by kernel_rfl) ⟨fun _ => undef, SX.start⟩ ?_
 simp only [qqT, List.take_zero, qqD, List.drop_zero]
 apply pv_step (fun _ => rfl)
 · intro σ L w1 hS h1 h2 K hK
   clear h2
   have f := hx8.below hS.low hx8.lt
   have f0 : w1.cell? ⟨gx, 0, none⟩ = some (.slice Ax lex.length cx) := f.cell 0
   go_wp2
   exact hS.keep rfl
 simp only [Act.put, qqS, qqC, qqZ]
 apply pv_step (fun _ => rfl)
 · intro σ L w1 hS h1 h2 K hK
   clear h2
   have f := ht8.below hS.low ht8.lt
   have f0 : w1.cell? ⟨gt, 0, none⟩ = some (sv t.letters) := f.cell 0
   have f1 : w1.cell? ⟨gt, 1, none⟩ = some (.slice D1 t.values.length d1) := f.cell 1
   have f2 : w1.cell? ⟨gt, 2, none⟩ = some (.slice D2 t.counts.length d2) := f.cell 2
   have f3 : w1.cell? ⟨gt, 3, none⟩ = some (.int .i64 t.blanks) := f.cell 3
   go_wp2
   exact hS.keep rfl
 simp only [Act.put, qqS, qqC, qqZ]
 apply pv_step (fun _ => rfl)
 · intro σ L w1 hS h1 h2 K hK
   clear h2
   have f := hL8.bd.below hS.low hL8.bd.lt
   have f0 : w1.cell? ⟨w.heap.size + 1 + 1, 0, none⟩ = some (.int .i64 sz) := f.cell 0
   have f1 : w1.cell? ⟨w.heap.size + 1 + 1, 1, none⟩ = some (sv bp) := f.cell 1
   have f2 : w1.cell? ⟨w.heap.size + 1 + 1, 2, none⟩ = some (sv bc) := f.cell 2
   go_wp2
   exact hS.keep rfl
 simp only [Act.put, qqS, qqC, qqZ]
 apply pv_step (v := .agg #[.int .i64 sz, sv bp, sv bc]) (fun _ => rfl)
 · intro σ L w1 hS h1 h2 K hK
   clear h2
   simp only [Act.put, qqS, qqC, qqZ] at hK
   go_wp2_with (go_at_call 18; refine (ktb _).mono ?_; rintro e w5 ⟨rfl, hb5⟩)
   exact (hS.below (fun _ _ h => by cases h) hb5).keep rfl
 simp only [Act.put, qqS, qqC, qqZ]
 apply pv_step (fun _ => rfl)
 · intro σ L w1 hS h1 h2 K hK
   clear h2
   go_wp2
   exact hS.keep rfl
 simp only [Act.put, qqS, qqC, qqZ]
 apply pv_step (fun _ => rfl)
 · intro σ L w1 hS h1 h2 K hK
   clear h2
   go_wp2
   exact hS.keep rfl
 simp only [Act.put, qqS, qqC, qqZ]
 apply pv_step (v := .tuple #[.int .i64 R, .int .i64 C]) (fun _ => rfl)
 · intro σ L w1 hS h1 h2 K hK
   clear h2
   simp only [Act.put, qqS, qqC, qqZ] at hK
   go_wp2_with (go_at_call 20; refine (kim Ax cx D1 D2 d1 d2 E6 e6 _ (hL8.low.trans (hS.low.mono hL8.low.size)) (ownt8.below hS.low).in_ (Reads.of_own (own_call ownx8 hS.low)) hp8 (Reads.of_own (own_call ownl hS.low)) hf6).mono ?_; rintro e w5 ⟨rfl, hb5⟩)
   exact (hS.below (fun _ _ h => by cases h) hb5).keep rfl
 simp only [Act.put, qqS, qqC, qqZ]
 apply pv_step (fun _ => rfl)
 · intro σ L w1 hS h1 h2 K hK
   clear h2
   go_wp2
   exact hS.keep rfl
 simp only [Act.put, qqS, qqC, qqZ]
 apply pv_step (fun _ => rfl)
 · intro σ L w1 hS h1 h2 K hK
   clear h2
   go_wp2
   exact hS.keep rfl
 simp only [Act.put, qqS, qqC, qqZ]
 apply pv_step (fun _ => rfl)
 · intro σ L w1 hS h1 h2 K hK
   clear h2
   go_wp2
   exact hS.keep rfl
 simp only [Act.put, qqS, qqC, qqZ]
 apply pv_step (fun _ => rfl)
 · intro σ L w1 hS h1 h2 K hK
   clear h2
   go_wp2
   exact hS.keep rfl
 simp only [Act.put, qqS, qqC, qqZ]
 apply pv_step (fun _ => rfl)
 · intro σ L w1 hS h1 h2 K hK
   clear h2
   go_wp2
   exact hS.keep rfl
 simp only [Act.put, qqS, qqC, qqZ]
 refine pv_nil fun σ w9 hS => ?_
 have hbw9 := hS.low
 clear hS
 have hL10 := hL8.call hbw9
 have hx10 := hx8.below hbw9 hx8.lt
 have ht10 := ht8.below hbw9 ht8.lt
 have ownx10 := own_call ownx8 hbw9
 have ownl10 := own_call ownl hbw9
 have ownt10 := ownt8.below hbw9
 clear hL8 hx8 ht8 ownx8 ownt8 ownl hbw9 ksp
 go_wp2_with (fail)
 refine wp_region_v 6 5 (SX w9 (TL w9.heap.size lex.length V)) (by kernel_rfl) (by kernel_rfl) ⟨fun _ => undef, SX.start⟩ ?_
 simp only [qqT, List.take_zero, qqD, List.drop_zero]
 apply pv_step (fun _ => rfl)
 · intro σ L w1 hS h1 h2 K hK
   clear h2
   have f := hx10.below hS.low hx10.lt
   have f0 : w1.cell? ⟨gx, 0, none⟩ = some (.slice Ax lex.length cx) := f.cell 0
   go_wp2
   exact hS.keep rfl
 simp only [Act.put, qqS, qqC, qqZ]
 apply pv_step (fun _ => rfl)
 · intro σ L w1 hS h1 h2 K hK
   clear h2
   have f := hL10.lx.below hS.low hL10.lx.lt
   have f0 : w1.cell? ⟨w.heap.size, 0, none⟩ = some (.slice A lex.length c) := f.cell 0
   go_wp2
   exact hS.keep rfl
 simp only [Act.put, qqS, qqC, qqZ]
 apply pv_free (fun _ => rfl)
 · intro σ L w1 hS h1 h2 K hK
   clear h2
   go_wp2_with (go_at_call 16; refine (ktl _ (hL10.low.trans (hS.low.mono hL10.low.size))).mono ?_; rintro e w5 ⟨v5, rfl, own5, hb5⟩)
   exact hS.put TL.stab hb5 rfl (PLx.mk (own_base own5 hS.low.size))
 simp only [Act.put, qqS, qqC, qqZ]
 apply pv_step (v := .bool true) (fun _ => rfl)
 · intro σ L w1 hS h1 h2 K hK
   have hl := h2 2 (List.contains_iff_mem.1 (by kernel_rfl))
   clear h2
   obtain ⟨vL, eL, ownL⟩ := hS.get (i := 2) rfl hl
   obtain ⟨By, cy, rfl, -, hry, -⟩ := own_form ownL
   simp only [eL] at hK ⊢
   go_wp2_with (go_at_call 21; refine (keqx _ _ _ _ _ (Reads.of_own (own_call ownx10 hS.low)) hry).mono ?_; rintro e w5 ⟨rfl, hb5⟩)
   exact (hS.below TL.stab hb5).keep rfl
 simp only [Act.put, qqS, qqC, qqZ]
 apply pv_step (fun _ => rfl)
 · intro σ L w1 hS h1 h2 K hK
   clear h2
   go_wp2
   exact hS.keep rfl
 simp only [Act.put, qqS, qqC, qqZ]
 refine pv_nil fun σ w11 hS => ?_
 have hbw11 := hS.low
 clear hS
 generalize σ 2 = s2
 have hL11 := hL10.call hbw11
 have hx11 := hx10.below hbw11 hx10.lt
 have ht11 := ht10.below hbw11 ht10.lt
 have ownx11 := own_call ownx10 hbw11
 have ownl11 := own_call ownl10 hbw11
 have ownt11 := ownt10.below hbw11
 clear hL10 hx10 ht10 ownx10 ownl10 ownt10 hbw11
 go_wp2_with (fail)
 refine wp_region_v 6 5 (SX w11 (TT w11.heap.size t)) (by kernel_rfl) (by kernel_rfl) ⟨fun _ => undef, SX.start⟩ ?_
 simp only [qqT, List.take_zero, qqD, List.drop_zero]
 apply pv_step (fun _ => rfl)
 · intro σ L w1 hS h1 h2 K hK
   clear h2
   have f := ht11.below hS.low ht11.lt
   have f0 : w1.cell? ⟨gt, 0, none⟩ = some (sv t.letters) := f.cell 0
   have f1 : w1.cell? ⟨gt, 1, none⟩ = some (.slice D1 t.values.length d1) := f.cell 1
   have f2 : w1.cell? ⟨gt, 2, none⟩ = some (.slice D2 t.counts.length d2) := f.cell 2
   have f3 : w1.cell? ⟨gt, 3, none⟩ = some (.int .i64 t.blanks) := f.cell 3
   go_wp2
   exact hS.keep rfl
 simp only [Act.put, qqS, qqC, qqZ]
 apply pv_step (fun _ => rfl)
 · intro σ L w1 hS h1 h2 K hK
   clear h2
   have f := hL11.ts.below hS.low hL11.ts.lt
   have f0 : w1.cell? ⟨w.heap.size + 1, 0, none⟩ = some (sv t.letters) := f.cell 0
   have f1 : w1.cell? ⟨w.heap.size + 1, 1, none⟩ = some (.slice A1 t.values.length c1) := f.cell 1
   have f2 : w1.cell? ⟨w.heap.size + 1, 2, none⟩ = some (.slice A2 t.counts.length c2) := f.cell 2
   have f3 : w1.cell? ⟨w.heap.size + 1, 3, none⟩ = some (.int .i64 t.blanks) := f.cell 3
   go_wp2
   exact hS.keep rfl
 simp only [Act.put, qqS, qqC, qqZ]
 apply pv_free (fun _ => rfl)
 · intro σ L w1 hS h1 h2 K hK
   clear h2
   go_wp2_with (go_at_call 17; refine (ktt _ (hL11.low.trans (hS.low.mono hL11.low.size))).mono ?_; rintro e w5 ⟨v5, v6, rfl, own5, hb5⟩)
   exact hS.put TT.stab hb5 rfl (PTs.mk (own5.base hS.low.size))
 simp only [Act.put, qqS, qqC, qqZ]
 apply pv_step (v := .bool true) (fun _ => rfl)
 · intro σ L w1 hS h1 h2 K hK
   have hl := h2 2 (List.contains_iff_mem.1 (by kernel_rfl))
   clear h2
   obtain ⟨v1, v2, eT, ownT⟩ := hS.get (i := 2) rfl hl
   obtain ⟨E1, x1, E2, x2, rfl, rfl⟩ := ownT.form
   simp only [eT] at hK ⊢
   go_wp2_with (go_at_call 22; refine (keqt _ _ _ _ _ _ _ _ _ (ownt11.below hS.low).in_ ownT.in_).mono ?_; rintro e w5 ⟨rfl, hb5⟩)
   exact (hS.below TT.stab hb5).keep rfl
 simp only [Act.put, qqS, qqC, qqZ]
 apply pv_step (fun _ => rfl)
 · intro σ L w1 hS h1 h2 K hK
   clear h2
   go_wp2
   exact hS.keep rfl
 simp only [Act.put, qqS, qqC, qqZ]
 refine pv_nil fun σ w12 hS => ?_
 have hbw12 := hS.low
 clear hS
 generalize σ 2 = s2
 have hL12 := hL11.call hbw12
 have hx12 := hx11.below hbw12 hx11.lt
 have ht12 := ht11.below hbw12 ht11.lt
 have ownx12 := own_call ownx11 hbw12
 have ownl12 := own_call ownl11 hbw12
 have ownt12 := ownt11.below hbw12
 clear hL11 hx11 ht11 ownx11 ownl11 ownt11 hbw12
 go_wp2_with (first
   | (go_at_call 19; refine (ktm _ hL12.low).mono ?_; rintro e w13 ⟨v6, rfl, ownk, hb12⟩; obtain ⟨K6, k6, rfl, -, -, hfk⟩ := own_form ownk
      have hL13 := hL12.call hb12
      have ownl13 := own_call ownl12 hb12)
   | (go_at_call 23; (with_reducible refine (kel _ _ _ _ _ (Reads.of_own ownl13) (Reads.of_own ownk) hf6 hfk).mono ?_); rintro e w14 ⟨rfl, hb14⟩
      have hL14 := hL13.call hb14))
 go_ret
 exact ⟨rfl, hL14.low⟩
set_option maxHeartbeats 2000000
theorem law_check_any (A : Option Addr) (c : Nat) (lex : List Str) (t : TS) (A1 A2 : Option Addr) (c1 c2 : Nat) (b : Bd) (rack : Str) (A5 : Option Addr) (c5 : Nat) (ls : List Mv) (w : World) (hm : MaxOk w) (hr : Reads w w.heap.size 1 A lex.length (lex.map sv)) (hi : TsIn w t A1 A2) (h5 : Reads w w.heap.size 5 A5 ls.length (mvsC ls)) (hf5 : 0 < ls.length → ∀ ad, A5 = some ad → ad = ⟨ad.block, ad.off, none⟩) (hlsn : ls.length ≤ 9223372036854775807) (hlsw : ∀ x ∈ ls, x.1.word.length ≤ 9223372036854775807) (hln : lex.length ≤ 9223372036854775807) (hls : ∀ x ∈ lex, x.length ≤ 9223372036854775807) (htl : t.letters.length ≤ 9223372036854775807) (htv : t.values.length ≤ 9223372036854775807) (htc : t.counts.length ≤ 9223372036854775807) (hbp : b.prem.length ≤ 9223372036854775807) (hbc : b.cells.length ≤ 9223372036854775807) :
   Calls Tryz.prog 3 #[.agg #[.slice A lex.length c], t.v A1 c1 A2 c2, b.v, sv rack, .slice A5 ls.length c5] w fun e w' => e = .returned (.bool true) ∧ Below w.heap.size w w' := by
 obtain ⟨W, hW⟩ : ∃ W, W = ((w.alloc (.cells #[.slice A lex.length c] 24)).alloc (.cells #[sv t.letters, .slice A1 t.values.length c1, .slice A2 t.counts.length c2, .int .i64 t.blanks] 27)).alloc (.cells #[.int .i64 b.size, sv b.prem, sv b.cells] 29) := ⟨_, rfl⟩
 have hL : LA3 w A c lex.length t A1 c1 A2 c2 b.size b.prem b.cells W := by
   rw [hW]
   exact ⟨(((Below.refl _ _).alloc (Nat.le_refl _) _).alloc (by simp) _).alloc (by simp; omega) _, ((Blk.new w _ _).alloc _).alloc _, (Blk.new1 w _ _ _).alloc _, Blk.new2 w _ _ _ _⟩
 by_cases hrk : rack.length ≤ 2 ^ 20
 · have hrk' : ¬ (1048576 : Int) < (rack.length : Int) := by omega
   have hge := szS_ge lex (2 ^ 20)
   have ksl := fun (W : World) (hW : Below w.heap.size w W) => szLexicon_any A c lex (2 ^ 20) W ((hr.below hW).more hW.size) hln hls (by decide) (by decide)
   by_cases h1 : 0 ≤ szS lex (2 ^ 20)
   · obtain ⟨g1, g2, g3⟩ := szS_bd h1
     have kst := fun W => szTileSet_any t A1 A2 c1 c2 (szS lex (2 ^ 20)) W htl htv htc h1 (by omega)
     by_cases h2 : 0 ≤ szT t (szS lex (2 ^ 20))
     · obtain ⟨u1, u2, u3, u4⟩ := szT_bd h2
       have ksb := fun W => szBoard_any b (szT t (szS lex (2 ^ 20))) W h2 (by omega) hbp hbc
       by_cases h3 : 0 ≤ szB b (szT t (szS lex (2 ^ 20)))
       · have v4 : szB b (szT t (szS lex (2 ^ 20))) ≤ szT t (szS lex (2 ^ 20)) := by
           unfold szB at h3 ⊢
           split at h3
           · omega
           · split at h3
             · omega
             · rename_i n1 n2
               rw [if_neg n1, if_neg n2]
               omega
         have ksm := fun (W : World) (hW : Below w.heap.size w W) => szMoveS_any A5 c5 ls (szB b (szT t (szS lex (2 ^ 20)))) W ((h5.below hW).more hW.size) hf5 hlsn hlsw h3 (by omega)
         have hge4 := szS_ge (wordsM ls) (szB b (szT t (szS lex (2 ^ 20))))
         by_cases h4 : 0 ≤ szS (wordsM ls) (szB b (szT t (szS lex (2 ^ 20))))
         · obtain ⟨m1, m2, m3⟩ := szS_bd h4
           have m1' : (ls.length : Int) ≤ szB b (szT t (szS lex (2 ^ 20))) := by unfold wordsM at m1; rw [List.length_map] at m1; exact m1
           exact law_check A c lex t A1 A2 c1 c2 b rack A5 c5 ls w hm hr hi h5 hf5 (by omega) (fun x hx => by have := g2 x hx; omega) (by omega) (by omega) (by omega) hrk _ rfl h1 g3 _ rfl h2 (by omega) _ rfl h3 (by omega) _ rfl h4 (by omega) (fun x hx => by have := m2 x.1.word (List.mem_map.2 ⟨x, hx, rfl⟩); omega)
         · obtain ⟨l1, hl1⟩ : ∃ l1, l1 = szS lex (2 ^ 20) := ⟨_, rfl⟩
           rw [← hl1] at ksl kst ksb ksm h1 h2 h3 h4
           obtain ⟨l2, hl2⟩ : ∃ l2, l2 = szT t l1 := ⟨_, rfl⟩
           rw [← hl2] at kst ksb ksm h2 h3 h4
           obtain ⟨l3, hl3⟩ : ∃ l3, l3 = szB b l2 := ⟨_, rfl⟩
           rw [← hl3] at ksb ksm h3 h4
           obtain ⟨l4, hl4⟩ : ∃ l4, l4 = szS (wordsM ls) l3 := ⟨_, rfl⟩
           rw [← hl4] at ksm h4
           have h4' : l4 < 0 := by omega
           have h3' : ¬ l3 < 0 := by omega
           have h2' : ¬ l2 < 0 := by omega
           have h1' : ¬ l1 < 0 := by omega
           clear hl1 hl2 hl3 hl4 hge hge4 g1 g2 g3 u1 u2 u3 u4 v4 hr hi h5 hf5 hls hlsn hlsw htl htv htc hbp hbc hm
           obtain ⟨sz, bp, bc⟩ := b
           simp only [Bd.v, TS.v] at *
           go_enter Tryz.func3, Tryz.ntmps3
           go_wp2_with (first
             | (go_at_call 11; rw [← hW]; refine (ksl _ hL.low).mono ?_; rintro e w1 ⟨rfl, hb1⟩; have hL1 := hL.call hb1
                have f1 : w1.cell? ⟨w.heap.size + 1, 0, none⟩ = some (sv t.letters) := hL1.ts.cell 0
                have f2 : w1.cell? ⟨w.heap.size + 1, 1, none⟩ = some (.slice A1 t.values.length c1) := hL1.ts.cell 1
                have f3 : w1.cell? ⟨w.heap.size + 1, 2, none⟩ = some (.slice A2 t.counts.length c2) := hL1.ts.cell 2
                have f4 : w1.cell? ⟨w.heap.size + 1, 3, none⟩ = some (.int .i64 t.blanks) := hL1.ts.cell 3)
             | (go_at_call 12; refine (kst _).mono ?_; rintro e w2 ⟨rfl, hb2⟩; have hL2 := hL1.call hb2
                have g1 : w2.cell? ⟨w.heap.size + 1 + 1, 0, none⟩ = some (.int .i64 sz) := hL2.bd.cell 0
                have g2 : w2.cell? ⟨w.heap.size + 1 + 1, 1, none⟩ = some (sv bp) := hL2.bd.cell 1
                have g3 : w2.cell? ⟨w.heap.size + 1 + 1, 2, none⟩ = some (sv bc) := hL2.bd.cell 2)
             | (go_at_call 13; refine (ksb _).mono ?_; rintro e w3 ⟨rfl, hb3⟩; have hL3 := hL2.call hb3)
             | (go_at_call 14; refine (ksm _ hL3.low).mono ?_; rintro e w4 ⟨rfl, hb4⟩; have hL4 := hL3.call hb4))
           go_ret
           exact ⟨rfl, hL4.low⟩
       · obtain ⟨l1, hl1⟩ : ∃ l1, l1 = szS lex (2 ^ 20) := ⟨_, rfl⟩
         rw [← hl1] at ksl kst ksb h1 h2 h3
         obtain ⟨l2, hl2⟩ : ∃ l2, l2 = szT t l1 := ⟨_, rfl⟩
         rw [← hl2] at kst ksb h2 h3
         obtain ⟨l3, hl3⟩ : ∃ l3, l3 = szB b l2 := ⟨_, rfl⟩
         rw [← hl3] at ksb h3
         have h3' : l3 < 0 := by omega
         have h2' : ¬ l2 < 0 := by omega
         have h1' : ¬ l1 < 0 := by omega
         clear hl1 hl2 hl3 hge g1 g2 g3 u1 u2 u3 u4 hr hi h5 hf5 hls hlsn hlsw htl htv htc hbp hbc hm
         obtain ⟨sz, bp, bc⟩ := b
         simp only [Bd.v, TS.v] at *
         go_enter Tryz.func3, Tryz.ntmps3
         go_wp2_with (first
           | (go_at_call 11; rw [← hW]; refine (ksl _ hL.low).mono ?_; rintro e w1 ⟨rfl, hb1⟩; have hL1 := hL.call hb1
              have f1 : w1.cell? ⟨w.heap.size + 1, 0, none⟩ = some (sv t.letters) := hL1.ts.cell 0
              have f2 : w1.cell? ⟨w.heap.size + 1, 1, none⟩ = some (.slice A1 t.values.length c1) := hL1.ts.cell 1
              have f3 : w1.cell? ⟨w.heap.size + 1, 2, none⟩ = some (.slice A2 t.counts.length c2) := hL1.ts.cell 2
              have f4 : w1.cell? ⟨w.heap.size + 1, 3, none⟩ = some (.int .i64 t.blanks) := hL1.ts.cell 3)
           | (go_at_call 12; refine (kst _).mono ?_; rintro e w2 ⟨rfl, hb2⟩; have hL2 := hL1.call hb2
              have g1 : w2.cell? ⟨w.heap.size + 1 + 1, 0, none⟩ = some (.int .i64 sz) := hL2.bd.cell 0
              have g2 : w2.cell? ⟨w.heap.size + 1 + 1, 1, none⟩ = some (sv bp) := hL2.bd.cell 1
              have g3 : w2.cell? ⟨w.heap.size + 1 + 1, 2, none⟩ = some (sv bc) := hL2.bd.cell 2)
           | (go_at_call 13; refine (ksb _).mono ?_; rintro e w3 ⟨rfl, hb3⟩; have hL3 := hL2.call hb3))
         go_ret
         exact ⟨rfl, hL3.low⟩
     · obtain ⟨l1, hl1⟩ : ∃ l1, l1 = szS lex (2 ^ 20) := ⟨_, rfl⟩
       rw [← hl1] at ksl kst h1 h2
       obtain ⟨l2, hl2⟩ : ∃ l2, l2 = szT t l1 := ⟨_, rfl⟩
       rw [← hl2] at kst h2
       have h2' : l2 < 0 := by omega
       have h1' : ¬ l1 < 0 := by omega
       clear hl1 hl2 hge g1 g2 g3 hr hi h5 hf5 hls hlsn hlsw htl htv htc hbp hbc hm
       obtain ⟨sz, bp, bc⟩ := b
       simp only [Bd.v, TS.v] at *
       go_enter Tryz.func3, Tryz.ntmps3
       go_wp2_with (first
         | (go_at_call 11; rw [← hW]; refine (ksl _ hL.low).mono ?_; rintro e w1 ⟨rfl, hb1⟩; have hL1 := hL.call hb1
            have f1 : w1.cell? ⟨w.heap.size + 1, 0, none⟩ = some (sv t.letters) := hL1.ts.cell 0
            have f2 : w1.cell? ⟨w.heap.size + 1, 1, none⟩ = some (.slice A1 t.values.length c1) := hL1.ts.cell 1
            have f3 : w1.cell? ⟨w.heap.size + 1, 2, none⟩ = some (.slice A2 t.counts.length c2) := hL1.ts.cell 2
            have f4 : w1.cell? ⟨w.heap.size + 1, 3, none⟩ = some (.int .i64 t.blanks) := hL1.ts.cell 3)
         | (go_at_call 12; refine (kst _).mono ?_; rintro e w2 ⟨rfl, hb2⟩; have hL2 := hL1.call hb2))
       go_ret
       exact ⟨rfl, hL2.low⟩
   · obtain ⟨l1, hl1⟩ : ∃ l1, l1 = szS lex (2 ^ 20) := ⟨_, rfl⟩
     rw [← hl1] at ksl h1
     have h1' : l1 < 0 := by omega
     clear hl1 hge hr hi h5 hf5 hls hlsn hlsw htl htv htc hbp hbc hm
     obtain ⟨sz, bp, bc⟩ := b
     simp only [Bd.v, TS.v] at *
     go_enter Tryz.func3, Tryz.ntmps3
     go_wp2_with (go_at_call 11; rw [← hW]; refine (ksl _ hL.low).mono ?_; rintro e w1 ⟨rfl, hb1⟩; have hL1 := hL.call hb1)
     go_ret
     exact ⟨rfl, hL1.low⟩
 · have hrk' : (1048576 : Int) < (rack.length : Int) := by omega
   have hlow := hL.low
   obtain ⟨sz, bp, bc⟩ := b
   simp only [Bd.v, TS.v] at *
   go_enter Tryz.func3, Tryz.ntmps3
   go_wp2_with (fail)
   rw [← hW]
   go_ret
   exact ⟨rfl, hlow⟩
end Go.Proofs.YtdkckikobefekaaGreatDoor
namespace Go.Proofs.YtdkckikobefekaaGreatDoor
open Go.ChangeShapes Go.WideShapes Go.ChangeAt Go.RowKit Go.Joins
open Go.ChangeMaps (open_string shut_string)
open RegP RegL RegV
set_option maxRecDepth 100000
theorem change_shaped_and {H : Type} {enc : TypeId × Value → H} {a : Assume} {C : Checked} {os : Os} {f : FuncId} {fn : Func} {s : ChangeSpec} {conds : List PathCond} {apart fresh handsOn again : Bool} {X : World → Array Value → Prop}
   (hX : ∀ (w w' : World) (args : Array Value), w.heap = w'.heap → X w args → X w' args)
   (own : ownKnob C.prog.godebug = none) (started : os.Started) (noInit : C.prog.inits.idxOf? f = none) (hfn : C.prog.funcs[f]? = some fn)
   (witness : ∃ (w : World) (tape : Tape) (i : Input), w.os = os ∧ (w.forCall tape i).Shaped C.prog ∧ i.vars = [] ∧ Input.okWide C.prog (w.forCall tape i) .any w.heap.size f i ∧
     ((s.pre enc C.prog fn conds apart (w.forCall tape i).memory i.args ∧ X (w.forCall tape i).memory i.args) ∧ sizedMet enc C.prog fn (OpenSpec.ofChange s) apart (w.forCall tape i).memory i.args) ∧ a.holds C.prog (lone (Frame.enter C.prog f i.args .normal) [] (w.forCall tape i)))
   (contract : ∀ (W : World) (base : Nat) (args : Array Value) (ds gs : List (DataW H)) (before : List MemPlace),
     (∀ (j : Nat) t v, fn.params[j]? = some t → args[j]? = some v → Value.okWide C.prog W .any base t v) →
     DataW.Whole enc C.prog fn.params.toList s.vars apart W args.toList ds gs before →
     W.ShapedOpen C.prog → X W args →
     Calls C.prog f args W fun e W' => ∃ v, e = .returned v ∧ s.post enc C.prog fn apart fresh handsOn again W args v W') :
   ReturnsInHanded a C os f .any (fun w args => (s.pre enc C.prog fn conds apart w args ∧ X w args) ∧ sizedMet enc C.prog fn (OpenSpec.ofChange s) apart w args) (s.post enc C.prog fn apart fresh handsOn again) := by
 refine returnsInHanded_of_calls own started noInit witness ?_
 intro w tape i _ hsh _ hok hpre _
 obtain ⟨_, _, _, fn', hfn', _, _, _, _, hval⟩ := hok
 have e : fn' = fn := Option.some.inj (hfn'.symm.trans hfn)
 subst e
 obtain ⟨⟨⟨ds, gs, before, hw, _⟩, hx⟩, _⟩ := hpre
 have hw' := DataW.Whole.of_heap (w' := w.forCall tape i) (by rfl) hw
 refine (contract (w.forCall tape i) w.heap.size i.args ds gs before hval hw' hsh (hX _ _ _ (by rfl) hx)).mono fun e W' ⟨v, he, hp⟩ => ?_
 subst he
 exact ChangeSpec.post_blind hp
theorem max_shaped {W : World} (h : W.ShapedOpen Tryz.prog) : MaxOk W :=
 cell_of_shapedOpen_int (g := 1) (t := 3) (zero := #[.int .i64 0]) (k := .i64) h (of_decide_eq_true (by kernel_rfl)) (by kernel_rfl) rfl (by kernel_rfl) (by kernel_rfl) Tryz.underlying3
theorem ownM : ownKnob Tryz.prog.godebug = none := by kernel_rfl
theorem laidOutM : laidOutB Tryz.prog = true := by kernel_rfl
theorem open_lex {H : Type} {enc : TypeId × Value → H} {W : World} {base : Nat} {v : Value} {d : DataW H} {p : List MemPlace} (hv : Value.okWide Tryz.prog W .any base 24 v) (h : DataW.Trod enc Tryz.prog W 0 (fun _ => true) true 24 v d p) :
   ∃ (A : Option Addr) (c : Nat) (lex : List Str), v = .agg #[.slice A lex.length c] ∧ Reads W W.heap.size 1 A lex.length (lex.map sv) ∧ lex.length ≤ 9223372036854775807 ∧ ∀ x ∈ lex, x.length ≤ 9223372036854775807 := by
 obtain ⟨cs, rfl, hsz⟩ := okWide_struct Tryz.underlying24 hv
 have hc1 : Tryz.prog.cellsOf 24 = 1 := by kernel_rfl
 have hc22 : Tryz.prog.cellsOf 22 = 1 := by kernel_rfl
 rw [hc1] at hsz
 obtain ⟨l⟩ := cs
 match l, hsz with
 | [c0], _ =>
   obtain ⟨fuel, hf⟩ := h
   obtain ⟨y0, n, _, _, hy⟩ := trod_struct1 Tryz.underlying24 hf
   have hy' : DataW.trod enc Tryz.prog W 0 (fun _ => true) true n 22 [c0] = some y0 := by simpa [Value.cells, hc22] using hy
   rcases Deep.open_strs Tryz.underlying22 Tryz.underlying9 (by kernel_rfl) hy' with ⟨h1, _⟩ | ⟨a, len, cap, m, Sx, h1, _, hlc, hcm, hm, _, hcell⟩
   · obtain rfl : c0 = .slice none 0 0 := by injection h1
     exact ⟨none, 0, [], rfl, ⟨rfl, fun h => absurd h (by simp)⟩, by simp, fun x hx => by cases hx⟩
   · obtain rfl : c0 = .slice (some a) len cap := by injection h1
     have hlm : len ≤ m := by rw [hm]; simp; exact hlc
     refine ⟨some a, cap, (List.range len).map fun i => (Sx i).data.toList, by simp, ⟨by simp, fun h0 => ?_⟩, ?_, fun x hx => ?_⟩
     · have hl0 : 0 < len := by simpa using h0
       have hlt : a.block < W.heap.size := by
         have := World.block_lt_of_cell? W _ (hcell 0 (by omega)).1
         rwa [block_of_add] at this
       refine ⟨a, rfl, hlt, fun j u hu => ?_⟩
       have hj : j < len := by
         have := (List.getElem?_eq_some_iff.1 hu).1
         simpa using this
       rw [List.getElem?_map, List.getElem?_map, List.getElem?_range hj] at hu
       simp only [Option.map_some, Option.some.injEq] at hu
       rw [← hu, (hcell j (by omega)).1]
     · have hcm' : cap ≤ 9223372036854775807 := hcm
       rw [List.length_map, List.length_range]
       exact Nat.le_trans hlc hcm'
     · obtain ⟨i, hi, rfl⟩ := List.mem_map.1 hx
       have h2 : (Sx i).size ≤ 9223372036854775807 := (hcell i (by have := List.mem_range.1 hi; omega)).2
       exact h2
theorem open_bd {H : Type} {enc : TypeId × Value → H} {W : World} {base : Nat} {v : Value} {d : DataW H} {p : List MemPlace} (hv : Value.okWide Tryz.prog W .any base 29 v) (h : DataW.Trod enc Tryz.prog W 0 (fun _ => true) true 29 v d p) :
   ∃ b : Bd, v = b.v ∧ b.prem.length ≤ 9223372036854775807 ∧ b.cells.length ≤ 9223372036854775807 := by
 obtain ⟨c0, c1, c2, y0, y1, y2, m, rfl, _, _, hy0, hy1, hy2⟩ := open_agg3 Tryz.underlying29 (by kernel_rfl) (by kernel_rfl) hv h
 obtain ⟨k, e0, _, _⟩ := DataW.trod_int Tryz.underlying2 hy0
 obtain ⟨s1, e1, _, w1⟩ := DataW.trod_string Tryz.underlying9 hy1
 obtain ⟨s2, e2, _, w2⟩ := DataW.trod_string Tryz.underlying9 hy2
 injection e0 with e0
 injection e1 with e1
 injection e2 with e2
 subst e0 e1 e2
 exact ⟨⟨k, s1.data.toList, s2.data.toList⟩, rfl, w1, w2⟩
theorem open_nums {H : Type} {enc : TypeId × Value → H} {W : World} {fuel : Nat} {v : Value} {x : DataW H × List MemPlace} (h : DataW.trod enc Tryz.prog W 0 (fun _ => true) true fuel 25 [v] = some x) :
   ∃ (A : Option Addr) (c : Nat) (xs : List Int), v = .slice A xs.length c ∧ Reads W W.heap.size 1 A xs.length (xs.map xv) ∧ xs.length ≤ 9223372036854775807 := by
 rcases open_ints Tryz.underlying25 Tryz.underlying2 (by kernel_rfl) h with ⟨h1, _⟩ | ⟨a, len, cap, zs, h1, _, hlc, hcm, hz, _, hcell, _⟩
 · obtain rfl : v = .slice none 0 0 := by injection h1
   exact ⟨none, 0, [], rfl, ⟨rfl, fun h => absurd h (by simp)⟩, by simp⟩
 · obtain rfl : v = .slice (some a) len cap := by injection h1
   have hzl : zs.length = cap := by rw [hz]; simp
   have htl : (zs.take len).length = len := by rw [List.length_take]; omega
   refine ⟨some a, cap, zs.take len, by rw [htl], ⟨by simp, fun h0 => ?_⟩, ?_⟩
   · have hl0 : 0 < len := by rw [htl] at h0; exact h0
     have hlt : a.block < W.heap.size := by
       have := World.block_lt_of_cell? W _ (hcell 0 (by omega))
       rwa [block_of_add] at this
     refine ⟨a, rfl, hlt, fun j u hu => ?_⟩
     have hj : j < len := by
       have := (List.getElem?_eq_some_iff.1 hu).1
       rw [List.length_map, htl] at this
       exact this
     rw [List.getElem?_map, List.getElem?_take_of_lt hj, List.getElem?_eq_getElem (by omega)] at hu
     simp only [Option.map_some, Option.some.injEq] at hu
     rw [← hu, hcell j (by omega), List.getD_eq_getElem?_getD, List.getElem?_eq_getElem (by omega)]
     rfl
   · have hcm' : cap ≤ 9223372036854775807 := hcm
     rw [htl]
     omega
theorem open_ts {H : Type} {enc : TypeId × Value → H} {W : World} {base : Nat} {v : Value} {d : DataW H} {p : List MemPlace} (hv : Value.okWide Tryz.prog W .any base 27 v) (h : DataW.Trod enc Tryz.prog W 0 (fun _ => true) true 27 v d p) :
   ∃ (t : TS) (A1 A2 : Option Addr) (c1 c2 : Nat), v = t.v A1 c1 A2 c2 ∧ TsIn W t A1 A2 ∧ t.letters.length ≤ 9223372036854775807 ∧ t.values.length ≤ 9223372036854775807 ∧ t.counts.length ≤ 9223372036854775807 := by
 obtain ⟨c0, c1, c2, c3, y0, y1, y2, y3, m, rfl, _, _, hy0, hy1, hy2, hy3⟩ := open_agg4 Tryz.underlying27 (by kernel_rfl) (by kernel_rfl) hv h
 obtain ⟨s1, e1, _, w1⟩ := DataW.trod_string Tryz.underlying9 hy0
 obtain ⟨A1, d1, xs, rfl, r1, n1⟩ := open_nums hy1
 obtain ⟨A2, d2, ys, rfl, r2, n2⟩ := open_nums hy2
 obtain ⟨k, e3, _, _⟩ := DataW.trod_int Tryz.underlying2 hy3
 injection e1 with e1
 injection e3 with e3
 subst e1 e3
 exact ⟨⟨s1.data.toList, xs, ys, k⟩, A1, A2, d1, d2, rfl, ⟨r1, r2⟩, w1, n1, n2⟩
section
variable {H : Type} {enc : TypeId × Value → H} {P : Program} {w : World} {base : Nat} {spare : Nat → Bool} {held : Bool}
theorem trodAll_five' {t t' t'' t3 t4 : TypeId} {args : Array Value} {ds : List (DataW H)} {ps : List MemPlace} (h : DataW.TrodAll enc P w base spare held [t, t', t'', t3, t4] args.toList ds ps) :
   ∃ v v' v'' v3 v4 d d' d'' d3 d4 p p' p'' p3 p4, args = #[v, v', v'', v3, v4] ∧ ds = [d, d', d'', d3, d4] ∧ ps = p ++ p' ++ p'' ++ p3 ++ p4 ∧ DataW.Trod enc P w base spare held t v d p ∧ DataW.Trod enc P w base spare held t' v' d' p' ∧ DataW.Trod enc P w base spare held t'' v'' d'' p'' ∧ DataW.Trod enc P w base spare held t3 v3 d3 p3 ∧ DataW.Trod enc P w base spare held t4 v4 d4 p4 := by
 obtain ⟨v, vs, d, ds', p, q, hargs, rfl, rfl, hd, hrest⟩ := trodAll_cons h
 obtain ⟨v', vs', d', ds'', p', q', rfl, rfl, rfl, hd', hrest'⟩ := trodAll_cons hrest
 obtain ⟨v'', vs'', d'', ds''', p'', q'', rfl, rfl, rfl, hd'', hrest''⟩ := trodAll_cons hrest'
 obtain ⟨v3, vs3, d3, ds3, p3, q3, rfl, rfl, rfl, hd3, hrest3⟩ := trodAll_cons hrest''
 obtain ⟨v4, vs4, d4, ds4, p4, q4, rfl, rfl, rfl, hd4, hrest4⟩ := trodAll_cons hrest3
 obtain ⟨rfl, rfl, rfl⟩ := trodAll_nil hrest4
 exact ⟨v, v', v'', v3, v4, d, d', d'', d3, d4, p, p', p'', p3, p4, by cases args; simp_all, rfl, by simp, hd, hd', hd'', hd3, hd4⟩
theorem trodAll_mk5' {t t' t'' t3 t4 : TypeId} {v v' v'' v3 v4 : Value} {d d' d'' d3 d4 : DataW H} {p p' p'' p3 p4 : List MemPlace} (h : DataW.Trod enc P w base spare held t v d p) (h' : DataW.Trod enc P w base spare held t' v' d' p')
   (h'' : DataW.Trod enc P w base spare held t'' v'' d'' p'') (h3 : DataW.Trod enc P w base spare held t3 v3 d3 p3) (h4 : DataW.Trod enc P w base spare held t4 v4 d4 p4) : DataW.TrodAll enc P w base spare held [t, t', t'', t3, t4] [v, v', v'', v3, v4] [d, d', d'', d3, d4] (p ++ (p' ++ (p'' ++ (p3 ++ p4)))) :=
 ⟨p, p' ++ (p'' ++ (p3 ++ p4)), h, trodAll_mk4 h' h'' h3 h4, rfl⟩
end
instance : Inhabited Mv := ⟨(⟨0, 0, false, []⟩, 0)⟩
theorem open_mv {H : Type} {enc : TypeId × Value → H} {W : World} {n : Nat} {cs : List Value} {x : DataW H × List MemPlace} (h : DataW.trod enc Tryz.prog W 0 (fun _ => true) true n 116 cs = some x) :
   ∃ m : Mv, cs = mvC m ∧ m.1.word.length ≤ 9223372036854775807 := by
 obtain ⟨y0, y1, k, _, hl, h0, h1⟩ := trod_struct2 Tryz.underlying116 h
 have c1 : Tryz.prog.cellsOf 116 = 5 := by kernel_rfl
 have c2 : Tryz.prog.cellsOf 52 = 4 := by kernel_rfl
 have c3 : Tryz.prog.cellsOf 2 = 1 := by kernel_rfl
 have c4 : Tryz.prog.cellsOf 4 = 1 := by kernel_rfl
 have c5 : Tryz.prog.cellsOf 9 = 1 := by kernel_rfl
 rw [c1] at hl
 match cs, hl with
 | [v0, v1, v2, v3, v4], _ =>
   simp only [c2, c3, List.drop_zero, List.take_succ_cons, List.take_zero, List.drop_succ_cons] at h0 h1
   obtain ⟨z0, z1, z2, z3, k2, _, _, g0, g1, g2, g3⟩ := trod_struct4 Tryz.underlying52 h0
   simp only [c3, c4, c5, List.drop_zero, List.take_succ_cons, List.take_zero, List.drop_succ_cons] at g0 g1 g2 g3
   obtain ⟨a0, e0, _, _⟩ := DataW.trod_int Tryz.underlying2 g0
   obtain ⟨a1, e1, _, _⟩ := DataW.trod_int Tryz.underlying2 g1
   obtain ⟨a2, e2, _⟩ := DataW.trod_bool Tryz.underlying4 g2
   obtain ⟨a3, e3, _, w3⟩ := DataW.trod_string Tryz.underlying9 g3
   obtain ⟨a4, e4, _, _⟩ := DataW.trod_int Tryz.underlying2 h1
   injection e0 with e0
   injection e1 with e1
   injection e2 with e2
   injection e3 with e3
   injection e4 with e4
   subst e0 e1 e2 e3 e4
   exact ⟨(⟨a0, a1, a2, a3.data.toList⟩, a4), rfl, w3⟩
theorem open_mvs {H : Type} {enc : TypeId × Value → H} {W : World} {base : Nat} {v : Value} {d : DataW H} {p : List MemPlace} (hv : Value.okWide Tryz.prog W .any base 30 v) (h : DataW.Trod enc Tryz.prog W 0 (fun _ => true) true 30 v d p) :
   ∃ (A : Option Addr) (c : Nat) (ms : List Mv), v = .slice A ms.length c ∧ Reads W W.heap.size 5 A ms.length (mvsC ms) ∧ (0 < ms.length → ∀ ad, A = some ad → ad = ⟨ad.block, ad.off, none⟩) ∧ ms.length ≤ 9223372036854775807 ∧ ∀ x ∈ ms, x.1.word.length ≤ 9223372036854775807 := by
 have hc : Tryz.prog.cellsOf 116 = 5 := by kernel_rfl
 obtain ⟨fuel, hf⟩ := h
 have slice_of : v.cells.toList = [.slice none 0 0] ∨ (∃ a l c, v.cells.toList = [.slice (some a) l c]) → ∃ A l c, v = .slice A l c ∧ v.cells.toList = [.slice A l c] := by
   intro hx
   cases v with
   | slice A l c => exact ⟨A, l, c, rfl, rfl⟩
   | agg cs =>
     exfalso
     have := hv
     simp [Value.okWide, Cell.okWide, Cell.ok, Tryz.underlying30] at this
   | _ => simp [Value.cells] at hx
 rcases Deep.open_slice Tryz.underlying30 hf with ⟨h1, _⟩ | ⟨a, len, cap, m, k, D, Pl, h1, _, hlc, hcm, hm, _, hcell⟩
 · obtain ⟨A, l, c, rfl, h2⟩ := slice_of (.inl h1)
   rw [h2] at h1
   injection h1 with h1
   injection h1 with e1 e2 e3
   subst e1 e2 e3
   exact ⟨none, 0, [], rfl, ⟨rfl, fun h => absurd h (by simp)⟩, fun h => absurd h (by simp), by simp, fun x hx => by cases hx⟩
 · obtain ⟨A, l, c, rfl, h2⟩ := slice_of (.inr ⟨a, len, cap, h1⟩)
   rw [h2] at h1
   injection h1 with h1
   injection h1 with e1 e2 e3
   subst e1 e2 e3
   have hm' : m = c := hm
   obtain ⟨V, hV⟩ := Deep.choose_lt (n := l) (α := Mv) (p := fun i x => (∀ j u, (mvC x)[j]? = some u → W.cell? ((a.add (i * 5)).add j) = some u) ∧ x.1.word.length ≤ 9223372036854775807) (fun i hi => by
     obtain ⟨cs', g1, g2⟩ := hcell i (by omega)
     obtain ⟨x, rfl, hx⟩ := open_mv g2
     rw [hc] at g1
     obtain ⟨_, _, g3⟩ := World.cells?_some g1
     refine ⟨x, fun j u hu => ?_, hx⟩
     have hj : j < 5 := (List.getElem?_eq_some_iff.1 hu).1
     rw [g3 j hj, hu])
   have hadd : ∀ i j : Nat, (a.add (i * 5)).add j = a.add (i * 5 + j) := fun i j => by
     unfold Addr.add
     split <;> split <;> split <;> simp_all <;> omega
   have hlen : ((List.range l).map V).length = l := by simp
   refine ⟨some a, c, (List.range l).map V, by rw [hlen], ⟨by rw [mvsC_length], fun h0 => ?_⟩, fun h0 ad e => ?_, ?_, fun x hx => ?_⟩
   · rw [hlen] at h0
     have g0 := (hV 0 h0).1 0 _ rfl
     have hlt : a.block < W.heap.size := by
       have := World.block_lt_of_cell? W _ g0
       rwa [block_of_add, block_of_add] at this
     refine ⟨a, rfl, hlt, fun j u hu => ?_⟩
     have hj : j < l * 5 := by
       have := (List.getElem?_eq_some_iff.1 hu).1
       rwa [mvsC_length, hlen] at this
     have e : j = (j / 5) * 5 + j % 5 := by omega
     have hk : j / 5 < ((List.range l).map V).length := by rw [hlen]; omega
     rw [e, mvsC_get _ _ _ hk (by omega)] at hu
     have hvk : ((List.range l).map V)[j / 5] = V (j / 5) := by simp
     rw [hvk] at hu
     have := (hV (j / 5) (by omega)).1 (j % 5) u hu
     rw [hadd] at this
     rw [e]
     exact this
   · injection e with e
     subst e
     rw [hlen] at h0
     have g0 := (hV 0 h0).1 0 _ rfl
     obtain ⟨u, g1⟩ : ∃ u, W.cell? a = some u := ⟨_, by simpa [Addr.add] using g0⟩
     unfold World.cell? at g1
     split at g1
     · split at g1
       · cases g1
       · rename_i hs
         cases hsp : a.spot with
         | none => cases a; simp at hsp; subst hsp; rfl
         | some q => rw [hsp] at hs; simp at hs
     · cases g1
   · have hcm' : c ≤ 9223372036854775807 := hcm
     rw [hlen]
     omega
   · obtain ⟨i, hi, rfl⟩ := List.mem_map.1 hx
     exact (hV i (List.mem_range.1 hi)).2
end Go.Proofs.YtdkckikobefekaaGreatDoor
