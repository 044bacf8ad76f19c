/-
  The walk of the law FnExactMissingMoves (the laws package). PRINTED BY wip/mk117.py (with wip/L117.head); The walk of the law FnExactMissingMoves at every argument (the laws package).
  Conditions: strings of common size; the slices lie in memory; the library's variable MaxLen reads as a number; the slices lie in memory; the library's variable MaxLen reads as a number.
-/
import Derived.Test.YtohopceknpgcnaaGreatDoorM29
namespace Go.Proofs.YtohopceknpgcnaaGreatDoor
open Go.RowKit RegP RegL RegV
set_option maxHeartbeats 4000000
set_option maxRecDepth 100000
theorem law_missing (A : Option Addr) (c : Nat) (lex : List Str) (t : TS) (A1 A2 : Option Addr) (c1 c2 : Nat) (b : Bd) (rack : Str) (A5 : Option Addr) (c5 : Nat) (ls : List Mv) (w : World) (hm : MaxOk w) (hr : Reads w w.heap.size 1 A lex.length (lex.map sv)) (hi : TsIn w t A1 A2) (h5 : Reads w w.heap.size 5 A5 ls.length (mvsC ls)) (hf5 : 0 < ls.length → ∀ ad, A5 = some ad → ad = ⟨ad.block, ad.off, none⟩) (hln : lex.length ≤ 2 ^ 20) (hls : ∀ x ∈ lex, x.length ≤ 2 ^ 20) (htl : t.letters.length ≤ 2 ^ 20) (htv : t.values.length ≤ 2 ^ 20) (htc : t.counts.length ≤ 2 ^ 20) (hrk : rack.length ≤ 2 ^ 20) (l1 : Int) (hl1 : szS lex (2 ^ 20) = l1) (hl0 : 0 ≤ l1) (hl2 : l1 ≤ 2 ^ 20) (l2 : Int) (hl3 : szT t l1 = l2) (hl4 : 0 ≤ l2) (hl5 : l2 ≤ 2 ^ 20) (l3 : Int) (hl6 : szB b l2 = l3) (hl7 : 0 ≤ l3) (hl8 : l3 ≤ 2 ^ 20) (l4 : Int) (hl9 : szS (wordsM ls) l3 = l4) (hl10 : 0 ≤ l4) (hlsn : ls.length ≤ 2 ^ 20) (hlsw : ∀ x ∈ ls, x.1.word.length ≤ 2 ^ 20) :
   Calls Tryz.prog 5 #[.agg #[.slice A lex.length c], t.v A1 c1 A2 c2, b.v, sv rack, .slice A5 ls.length c5] w fun e w' => e = .returned (.bool true) ∧ Below w.heap.size w w' := by
 obtain ⟨hbp, hbc⟩ := szB_bd (b := b) (l := l2) (by omega)
 have ksl := fun (W : World) (hW : Below w.heap.size w W) => szLexicon_any A c lex (2 ^ 20) W ((hr.below hW).more hW.size) (by omega) (fun x hx => by have := hls x hx; omega) (by decide) (by decide)
 have kst := fun W => szTileSet_any t A1 A2 c1 c2 l1 W (by omega) (by omega) (by omega) hl0 (by omega)
 have ksb := fun W => szBoard_any b l2 W hl4 (by omega) (by omega) (by omega)
 rw [hl1] at ksl
 rw [hl3] at kst
 rw [hl6] at ksb
 have ksm := fun (W : World) (hW : Below w.heap.size w W) => szMoveS_any A5 c5 ls l3 W ((h5.below hW).more hW.size) hf5 (by omega) (fun x hx => by have := hlsw x hx; omega) hl7 (by omega)
 rw [hl9] at ksm
 have ktm := fun (W : World) (hW : Below w.heap.size w W) => toMoveS_any A5 c5 ls W ((h5.below hW).more hW.size) hf5 (by omega)
 have ktl := fun (W : World) (hW : Below w.heap.size w W) => toLexicon_any A c lex W ((hr.below hW).more hW.size) (by omega)
 have ktt := fun (W : World) (hW : Below w.heap.size w W) => toTileSet_any t A1 A2 c1 c2 W (hi.below hW) (by omega) (by omega)
 have ktb := fun W => toBoard_any b W
 have ksp := fun (Ax : Option Addr) (cx : Nat) (A1 A2 : Option Addr) (c1 c2 : Nat) (A6 : Option Addr) (c6 : Nat) (W : World) (hi : TsIn W t A1 A2) (h : Reads W W.heap.size 1 Ax lex.length (lex.map sv)) (h6 : Reads W W.heap.size 5 A6 ls.length (mvsC ls)) hf6 => (sMissingMoves_any rack t A1 A2 c1 c2 b Ax cx lex A6 c6 ls W hi h h6 hf6 (by omega) (by omega) (fun x hx => by have := hls x hx; omega) (by omega) (by omega) (by omega) (by omega) (by omega) (by omega)).mono fun e w' h => MissPost.ans h
 have kim := fun (Ax : Option Addr) (cx : Nat) (A1 A2 : Option Addr) (c1 c2 : Nat) (A6 : Option Addr) (c6 : Nat) (W : World) (hW : Below w.heap.size w W) (hi : TsIn W t A1 A2) (h : Reads W W.heap.size 1 Ax lex.length (lex.map sv)) (hA : Plain0 Ax) (h6 : Reads W W.heap.size 5 A6 ls.length (mvsC ls)) hf6 => (iMissingMoves_any Ax cx lex t A1 A2 c1 c2 b rack A6 c6 ls W (hm.below hW) hi h hA h6 hf6 (by omega) (by omega) (fun x hx => by have := hls x hx; omega) (by omega) (by omega) (by omega) (by omega) (by omega) (by omega)).mono fun e w' h => MissPost.ans h
 have hMl := ansO_len t b lex rack ls
 obtain ⟨C, hC⟩ : ∃ C, C = movesCode t b lex rack := ⟨_, rfl⟩
 rw [← hC] at ksp kim hMl
 obtain ⟨Z, hZ⟩ : ∃ Z, Z = ansM C (outM ls (movesL t b lex rack)) := ⟨_, rfl⟩
 rw [← hZ] at ksp kim hMl
 clear hC hZ hl1 hl3 hl6 hl9 hbp hbc hm hlsw
 obtain ⟨sz, bp, bc⟩ := b
 simp only [Bd.v, TS.v] at *
 obtain ⟨V, hV⟩ : ∃ V, V = lex.map sv := ⟨_, rfl⟩
 have keqx := fun (B1 B2 : Option Addr) (d1 d2 : Nat) (W : World) (h1 : Reads W W.heap.size 1 B1 lex.length (lex.map sv)) (h2 : Reads W W.heap.size 1 B2 lex.length (lex.map sv)) => eqLexicon_any B1 B2 d1 d2 lex lex W h1 h2 (by omega)
 rw [beq_self_eq_true] at keqx
 have keqt := fun (B1 B2 D1 D2 : Option Addr) (d1 d2 d3 d4 : Nat) (W : World) (h1 : TsIn W t B1 B2) (h2 : TsIn W t D1 D2) => eqTileSet_any t t B1 B2 D1 D2 d1 d2 d3 d4 W h1 h2 (by omega) (by omega)
 simp only [eqTB_self, TS.v] at keqt
 have kml := fun (v : Value) (base : Nat) (W : World) (h : W.ownsRow base 9 1 v lex.length (lex.map sv)) => markLexicon_any v lex 1 base W h (by omega) (by decide) (by decide)
 rw [← hV] at ktl ksp kim hr keqx kml
 clear hV
 obtain ⟨XL, hXL⟩ : ∃ XL, XL = mvsC ls := ⟨_, rfl⟩
 have kel := fun (B1 B2 : Option Addr) (d1 d2 : Nat) (W : World) (h1 : Reads W W.heap.size 5 B1 ls.length (mvsC ls)) (h2 : Reads W W.heap.size 5 B2 ls.length (mvsC ls)) hf1 hf2 => eqMoveS_same B1 B2 d1 d2 ls W h1 h2 hf1 hf2 (by omega)
 have kmk := fun (v : Value) (base : Nat) (W : World) (h : W.ownsRow base 72 5 v ls.length (mvsC ls)) => markMoveS_any v ls (1 + lex.length + t.values.length + t.counts.length) base W h (by omega) (by omega) (by omega)
 rw [← hXL] at ktm ksp kim kel kmk h5
 clear hXL
 obtain ⟨XV, hXV⟩ : ∃ XV, XV = mvsC Z := ⟨_, rfl⟩
 have kem := fun (B1 B2 : Option Addr) (d1 d2 : Nat) (W : World) (h1 : Reads W W.heap.size 5 B1 Z.length (mvsC Z)) (h2 : Reads W W.heap.size 5 B2 Z.length (mvsC Z)) hf1 hf2 => eqMoveS_same B1 B2 d1 d2 Z W h1 h2 hf1 hf2 (by omega)
 have kmm := fun (v : Value) (base : Nat) (W : World) (h : W.ownsRow base 72 5 v Z.length (mvsC Z)) => markMoveS_any v Z 1 base W h (by omega) (by decide) (by decide)
 have khm := fun (B1 : Option Addr) (d1 : Nat) (W : World) (h : Reads W W.heap.size 5 B1 Z.length (mvsC (marksM 1 Z.length))) hf => heldMoveS_same B1 d1 Z.length 1 W h hf (by omega) (by decide) (by decide)
 have kmt := fun (v1 v2 : Value) (base : Nat) (W : World) (h : TsOwn base t v1 v2 W) => markTileSet_any t v1 v2 (1 + lex.length) base W h (by omega) (by omega) (by omega) (by omega)
 rw [← hXV] at ksp kim kem kmm
 clear hXV
 obtain ⟨MV, hMV⟩ : ∃ MV, MV = mvsC (marksM 1 Z.length) := ⟨_, rfl⟩
 obtain ⟨R1, hR1⟩ : ∃ R1 : Int, R1 = ((1 + lex.length : Nat) : Int) := ⟨_, rfl⟩
 obtain ⟨R2, hR2⟩ : ∃ R2 : Int, R2 = ((1 + lex.length + t.values.length + t.counts.length : Nat) : Int) := ⟨_, rfl⟩
 obtain ⟨R4, hR4⟩ : ∃ R4 : Int, R4 = ((1 + lex.length + t.values.length + t.counts.length + 5 * ls.length : Nat) : Int) := ⟨_, rfl⟩
 rw [← hR4] at kmk
 obtain ⟨R3, hR3⟩ : ∃ R3 : Int, R3 = ((1 + 5 * Z.length : Nat) : Int) := ⟨_, rfl⟩
 rw [← hMV, ← hR3] at kmm khm
 rw [← hR1] at kml kmt
 rw [← hR2] at kmt kmk
 have hR4n : ¬ R4 < 0 := by omega
 have hR2n : ¬ R2 < 0 := by omega
 have hR3n : ¬ R3 < 0 := by omega
 have hRR : (R3 != R3) = false := by simp
 have hCC : (C != C) = false := by simp
 clear hMV hR1 hR2 hR3 hR4
 have hrk' : ¬ (1048576 : Int) < (rack.length : Int) := by omega
 have hl0' : ¬ l1 < 0 := by omega
 have hl4' : ¬ l2 < 0 := by omega
 have hl7' : ¬ l3 < 0 := by omega
 have hl10' : ¬ l4 < 0 := by omega
 obtain ⟨W, hW⟩ : ∃ W, W = ((w.alloc (.cells #[.slice A lex.length c] 24)).alloc (.cells #[sv t.letters, .slice A1 t.values.length c1, .slice A2 t.counts.length c2, .int .i64 t.blanks] 27)).alloc (.cells #[.int .i64 sz, sv bp, sv bc] 29) := ⟨_, rfl⟩
 have hL : LA3 w A c lex.length t A1 c1 A2 c2 sz bp bc W := by
   rw [hW]
   exact ⟨(((Below.refl _ _).alloc (Nat.le_refl _) _).alloc (by simp) _).alloc (by simp; omega) _, ((Blk.new w _ _).alloc _).alloc _, (Blk.new1 w _ _ _).alloc _, Blk.new2 w _ _ _ _⟩
 go_enter Tryz.func5, Tryz.ntmps5
 go_wp2_with (first
   | (go_at_call 6; rw [← hW]; refine (ksl _ hL.low).mono ?_; rintro e w1 ⟨rfl, hb1⟩; have hL1 := hL.call hb1
      have f1 : w1.cell? ⟨w.heap.size + 1, 0, none⟩ = some (sv t.letters) := hL1.ts.cell 0
      have f2 : w1.cell? ⟨w.heap.size + 1, 1, none⟩ = some (.slice A1 t.values.length c1) := hL1.ts.cell 1
      have f3 : w1.cell? ⟨w.heap.size + 1, 2, none⟩ = some (.slice A2 t.counts.length c2) := hL1.ts.cell 2
      have f4 : w1.cell? ⟨w.heap.size + 1, 3, none⟩ = some (.int .i64 t.blanks) := hL1.ts.cell 3)
   | (go_at_call 7; refine (kst _).mono ?_; rintro e w2 ⟨rfl, hb2⟩; have hL2 := hL1.call hb2
      have g1 : w2.cell? ⟨w.heap.size + 1 + 1, 0, none⟩ = some (.int .i64 sz) := hL2.bd.cell 0
      have g2 : w2.cell? ⟨w.heap.size + 1 + 1, 1, none⟩ = some (sv bp) := hL2.bd.cell 1
      have g3 : w2.cell? ⟨w.heap.size + 1 + 1, 2, none⟩ = some (sv bc) := hL2.bd.cell 2)
   | (go_at_call 8; refine (ksb _).mono ?_; rintro e w3a ⟨rfl, hb3⟩; have hL3a := hL2.call hb3)
   | (go_at_call 21; refine (ksm _ hL3a.low).mono ?_; rintro e w3 ⟨rfl, hb3a⟩; have hL3 := hL3a.call hb3a))
 clear hL hL1 hL2 hL3a hb1 hb2 hb3 hb3a f1 f2 f3 f4 g1 g2 g3 ksl kst ksb ksm
 refine wp_region_v 16 15 (SX w3 (T4c w3.heap.size lex.length V t 72 5 Z.length C XV ls.length XL)) (by kernel_rfl) (by kernel_rfl) ⟨fun _ => undef, SX.start⟩ ?_
 simp only [qqT, List.take_zero, qqD, List.drop_zero]
 apply pv_step (fun _ => rfl)
 · intro σ L w1 hS h1 h2 K hK
   clear h2
   have f := hL3.lx.below hS.low hL3.lx.lt
   have f0 : w1.cell? ⟨w.heap.size, 0, none⟩ = some (.slice A lex.length c) := f.cell 0
   go_wp2
   exact hS.keep rfl
 simp only [Act.put, qqS, qqC, qqZ]
 apply pv_free (fun _ => rfl)
 · intro σ L w1 hS h1 h2 K hK
   clear h2
   go_wp2_with (go_at_call 10; refine (ktl _ (hL3.low.trans (hS.low.mono hL3.low.size))).mono ?_; rintro e w5 ⟨v5, rfl, own5, hb5⟩)
   exact hS.put T4c.stab hb5 rfl (PLx.mk (own_base own5 hS.low.size))
 simp only [Act.put, qqS, qqC, qqZ]
 apply pv_step (fun _ => rfl)
 · intro σ L w1 hS h1 h2 K hK
   clear h2
   have f := hL3.ts.below hS.low hL3.ts.lt
   have f0 : w1.cell? ⟨w.heap.size + 1, 0, none⟩ = some (sv t.letters) := f.cell 0
   have f1 : w1.cell? ⟨w.heap.size + 1, 1, none⟩ = some (.slice A1 t.values.length c1) := f.cell 1
   have f2 : w1.cell? ⟨w.heap.size + 1, 2, none⟩ = some (.slice A2 t.counts.length c2) := f.cell 2
   have f3 : w1.cell? ⟨w.heap.size + 1, 3, none⟩ = some (.int .i64 t.blanks) := f.cell 3
   go_wp2
   exact hS.keep rfl
 simp only [Act.put, qqS, qqC, qqZ]
 apply pv_free (fun _ => rfl)
 · intro σ L w1 hS h1 h2 K hK
   clear h2
   go_wp2_with (go_at_call 11; refine (ktt _ (hL3.low.trans (hS.low.mono hL3.low.size))).mono ?_; rintro e w5 ⟨v5, v6, rfl, own5, hb5⟩)
   exact hS.put T4c.stab hb5 rfl (PTs.mk (own5.base hS.low.size))
 simp only [Act.put, qqS, qqC, qqZ]
 apply pv_step (fun _ => rfl)
 · intro σ L w1 hS h1 h2 K hK
   clear h2
   have f := hL3.bd.below hS.low hL3.bd.lt
   have f0 : w1.cell? ⟨w.heap.size + 1 + 1, 0, none⟩ = some (.int .i64 sz) := f.cell 0
   have f1 : w1.cell? ⟨w.heap.size + 1 + 1, 1, none⟩ = some (sv bp) := f.cell 1
   have f2 : w1.cell? ⟨w.heap.size + 1 + 1, 2, none⟩ = some (sv bc) := f.cell 2
   go_wp2
   exact hS.keep rfl
 simp only [Act.put, qqS, qqC, qqZ]
 apply pv_step (v := .agg #[.int .i64 sz, sv bp, sv bc]) (fun _ => rfl)
 · intro σ L w1 hS h1 h2 K hK
   clear h2
   simp only [Act.put, qqS, qqC, qqZ] at hK
   go_wp2_with (go_at_call 12; refine (ktb _).mono ?_; rintro e w5 ⟨rfl, hb5⟩)
   exact (hS.below T4c.stab hb5).keep rfl
 simp only [Act.put, qqS, qqC, qqZ]
 apply pv_step (fun _ => rfl)
 · intro σ L w1 hS h1 h2 K hK
   clear h2
   go_wp2
   exact hS.keep rfl
 simp only [Act.put, qqS, qqC, qqZ]
 apply pv_step (fun _ => rfl)
 · intro σ L w1 hS h1 h2 K hK
   clear h2
   go_wp2
   exact hS.keep rfl
 simp only [Act.put, qqS, qqC, qqZ]
 apply pv_free (fun _ => rfl)
 · intro σ L w1 hS h1 h2 K hK
   clear h2
   go_wp2_with (go_at_call 23; refine (ktm _ (hL3.low.trans (hS.low.mono hL3.low.size))).mono ?_; rintro e w5 ⟨v5, rfl, own5, hb5⟩)
   exact hS.put T4c.stab hb5 rfl (own_base own5 hS.low.size)
 simp only [Act.put, qqS, qqC, qqZ]
 apply pv_free (fun _ => rfl)
 · intro σ L w1 hS h1 h2 K hK
   have hl := h2 1 (List.contains_iff_mem.1 (by kernel_rfl))
   have ht := h2 3 (List.contains_iff_mem.1 (by kernel_rfl))
   have hk8 := h2 8 (List.contains_iff_mem.1 (by kernel_rfl))
   clear h2
   obtain ⟨vL, eL, ownL⟩ := hS.get (i := 1) rfl hl
   obtain ⟨v1, v2, eT, ownT⟩ := hS.get (i := 3) rfl ht
   have ownK := hS.get (i := 8) rfl hk8
   change w1.ownsRow _ _ _ _ _ _ at ownK
   obtain ⟨vK, hvK⟩ : ∃ vK, vK = σ 8 := ⟨_, rfl⟩
   rw [← hvK] at ownK
   obtain ⟨D1, d1, D2, d2, rfl, rfl⟩ := ownT.form
   obtain ⟨Ax, cx, rfl, -, hrx, hfx⟩ := own_form ownL
   obtain ⟨A6, c6, rfl, -, hr6, hf6⟩ := own_form ownK
   simp only [eL, eT, ← hvK] at hK ⊢
   clear hvK
   go_wp2_with (go_at_call 25; refine (ksp Ax cx D1 D2 d1 d2 A6 c6 _ ownT.in_ hrx hr6 hf6).mono ?_; rintro e w5 ⟨v5, rfl, own5, hb5⟩)
   exact hS.put T4c.stab hb5 rfl (PRs.mk (own_base own5 hS.low.size))
 simp only [Act.put, qqS, qqC, qqZ]
 apply pv_free (fun _ => rfl)
 · intro σ L w1 hS h1 h2 K hK
   have hl := h2 9 (List.contains_iff_mem.1 (by kernel_rfl))
   clear h2
   go_wp2
   exact hS.put T4c.stab (Below.refl _ _) rfl (hS.get (i := 9) rfl hl)
 simp only [Act.put, qqS, qqC, qqZ]
 apply pv_free (fun _ => rfl)
 · intro σ L w1 hS h1 h2 K hK
   have hl := h2 10 (List.contains_iff_mem.1 (by kernel_rfl))
   clear h2
   obtain ⟨v9, e9, own9⟩ := hS.get (i := 10) rfl hl
   simp only [e9] at hK ⊢
   go_wp2
   exact hS.put T4c.stab (Below.refl _ _) rfl own9
 simp only [Act.put, qqS, qqC, qqZ]
 apply pv_step (v := .int .i64 C) (fun _ => rfl)
 · intro σ L w1 hS h1 h2 K hK
   have hl := h2 10 (List.contains_iff_mem.1 (by kernel_rfl))
   clear h2
   obtain ⟨v9, e9, own9⟩ := hS.get (i := 10) rfl hl
   simp only [e9] at hK ⊢
   go_wp2
   exact hS.keep rfl
 simp only [Act.put, qqS, qqC, qqZ]
 apply pv_free (fun _ => rfl)
 · intro σ L w1 hS h1 h2 K hK
   have hl := h2 11 (List.contains_iff_mem.1 (by kernel_rfl))
   clear h2
   go_wp2
   exact hS.put T4c.stab (Below.refl _ _) rfl (hS.get (i := 11) rfl hl)
 simp only [Act.put, qqS, qqC, qqZ]
 apply pv_step (fun _ => rfl)
 · intro σ L w1 hS h1 h2 K hK
   clear h2
   go_wp2
   exact hS.keep rfl
 simp only [Act.put, qqS, qqC, qqZ]
 refine pv_nil fun σ w4 hS => ?_
 have ownw := hS.get (i := 13) rfl rfl
 have hbw4 := hS.low
 clear hS
 change w4.ownsRow _ _ _ _ _ _ at ownw
 generalize σ 1 = s1
 generalize σ 3 = s3
 generalize σ 8 = s8
 generalize σ 9 = s9
 generalize σ 10 = s10
 generalize σ 11 = s11
 generalize σ 13 = s13 at ownw ⊢
 obtain ⟨A8, c8, rfl, -, -, hf8⟩ := own_form ownw
 have hL4 := hL3.call hbw4
 have hbase3 : w.heap.size ≤ w3.heap.size := hL3.low.size
 have f0 : w4.cell? ⟨w.heap.size, 0, none⟩ = some (.slice A lex.length c) := hL4.lx.cell 0
 clear hbw4
 go_wp2_with (first
   | (go_at_call 10; refine (ktl _ hL4.low).mono ?_; rintro e w5 ⟨vx, rfl, ownx, hb5⟩; obtain ⟨Ax, cx, rfl, -, -, hfx⟩ := own_form ownx
      obtain ⟨gx, hgx⟩ : ∃ gx, gx = w5.heap.size := ⟨_, rfl⟩
      obtain ⟨w6, hw6⟩ : ∃ w6, w6 = w5.alloc (.cells #[.slice Ax lex.length cx] 36) := ⟨_, rfl⟩
      have hb6 : Below w5.heap.size w5 w6 := by rw [hw6]; exact (Below.refl _ _).alloc (Nat.le_refl _) _
      have hx6 : Blk w6 gx 36 #[.slice Ax lex.length cx] := by rw [hw6, hgx]; exact Blk.new _ _ _
      have hL6 := (hL4.call hb5).call hb6
      have ownx6 := own_call ownx hb6
      have ownw6 := own_call (own_call ownw hb5) hb6
      have hL5 := hL4.call hb5
      have f1 : w5.cell? ⟨w.heap.size + 1, 0, none⟩ = some (sv t.letters) := hL5.ts.cell 0
      have f2 : w5.cell? ⟨w.heap.size + 1, 1, none⟩ = some (.slice A1 t.values.length c1) := hL5.ts.cell 1
      have f3 : w5.cell? ⟨w.heap.size + 1, 2, none⟩ = some (.slice A2 t.counts.length c2) := hL5.ts.cell 2
      have f4 : w5.cell? ⟨w.heap.size + 1, 3, none⟩ = some (.int .i64 t.blanks) := hL5.ts.cell 3
      have f5 := hL5.ts.lt
      have f6 : w.heap.size + 1 ≠ w5.heap.size := by omega)
   | (go_at_call 11; rw [← hw6]; refine (ktt _ hL6.low).mono ?_; rintro e w7 ⟨v1, v2, rfl, ownt, hb7⟩; obtain ⟨D1, d1, D2, d2, rfl, rfl⟩ := ownt.form
      obtain ⟨gt, hgt⟩ : ∃ gt, gt = w7.heap.size := ⟨_, rfl⟩
      obtain ⟨w7b, hw8⟩ : ∃ w8, w8 = w7.alloc (.cells #[sv t.letters, .slice D1 t.values.length d1, .slice D2 t.counts.length d2, .int .i64 t.blanks] 38) := ⟨_, rfl⟩
      have hb8 : Below w7.heap.size w7 w7b := by rw [hw8]; exact (Below.refl _ _).alloc (Nat.le_refl _) _
      have ht7 : Blk w7b gt 38 #[sv t.letters, .slice D1 t.values.length d1, .slice D2 t.counts.length d2, .int .i64 t.blanks] := by rw [hw8, hgt]; exact Blk.new _ _ _
      have hL7 := (hL6.call hb7).call hb8)
   | (go_at_call 23; rw [← hw8]; refine (ktm _ hL7.low).mono ?_; rintro e w8 ⟨v6, rfl, ownl, hb9⟩; obtain ⟨E6, e6, rfl, -, -, hf6⟩ := own_form ownl))
 have hbx : w.heap.size ≤ w4.heap.size := hL4.low.size
 have hbt : w.heap.size ≤ w6.heap.size := hL6.low.size
 have hbl : w.heap.size ≤ w7b.heap.size := hL7.low.size
 rw [← hgt, ← hgx]
 have ht8 := ht7.below hb9 ht7.lt
 have hL8 := hL7.call hb9
 have hx7 := (hx6.below hb7 hx6.lt).below hb8 (hx6.below hb7 hx6.lt).lt
 have hx8 := hx7.below hb9 hx7.lt
 have ownx8 := own_call (own_call (own_call ownx6 hb7) hb8) hb9
 have ownw7 := own_call (own_call ownw6 hb7) hb8
 have ownw8 := own_call ownw7 hb9
 have ownt8 := (ownt.below hb8).below hb9
 have nl8 := RowsAt.new ownw7 ownl (Nat.le_refl _)
 have hp8 : Plain0 Ax := fun ad h => by
   obtain ⟨g, rfl⟩ := hfx ad h
   rfl
 clear hw6 hgx hw8 hgt hb5 hb6 hb7 hb8 hb9 hL3 hL4 hL5 hL6 hL7 hx6 hx7 ht7 ownx ownx6 ownw ownw6 ownw7 ownt f0 f1 f2 f3 f4 f5 f6
 refine wp_region_v 13 12 (SX w8 (T2c w8.heap.size 72 5 Z.length C XV)) (by kernel_rfl) (by kernel_rfl) ⟨fun _ => undef, SX.start⟩ ?_
 simp only [qqT, List.take_zero, qqD, List.drop_zero]
 apply pv_step (fun _ => rfl)
 · intro σ L w1 hS h1 h2 K hK
   clear h2
   have f := hx8.below hS.low hx8.lt
   have f0 : w1.cell? ⟨gx, 0, none⟩ = some (.slice Ax lex.length cx) := f.cell 0
   go_wp2
   exact hS.keep rfl
 simp only [Act.put, qqS, qqC, qqZ]
 apply pv_step (fun _ => rfl)
 · intro σ L w1 hS h1 h2 K hK
   clear h2
   have f := ht8.below hS.low ht8.lt
   have f0 : w1.cell? ⟨gt, 0, none⟩ = some (sv t.letters) := f.cell 0
   have f1 : w1.cell? ⟨gt, 1, none⟩ = some (.slice D1 t.values.length d1) := f.cell 1
   have f2 : w1.cell? ⟨gt, 2, none⟩ = some (.slice D2 t.counts.length d2) := f.cell 2
   have f3 : w1.cell? ⟨gt, 3, none⟩ = some (.int .i64 t.blanks) := f.cell 3
   go_wp2
   exact hS.keep rfl
 simp only [Act.put, qqS, qqC, qqZ]
 apply pv_step (fun _ => rfl)
 · intro σ L w1 hS h1 h2 K hK
   clear h2
   have f := hL8.bd.below hS.low hL8.bd.lt
   have f0 : w1.cell? ⟨w.heap.size + 1 + 1, 0, none⟩ = some (.int .i64 sz) := f.cell 0
   have f1 : w1.cell? ⟨w.heap.size + 1 + 1, 1, none⟩ = some (sv bp) := f.cell 1
   have f2 : w1.cell? ⟨w.heap.size + 1 + 1, 2, none⟩ = some (sv bc) := f.cell 2
   go_wp2
   exact hS.keep rfl
 simp only [Act.put, qqS, qqC, qqZ]
 apply pv_step (v := .agg #[.int .i64 sz, sv bp, sv bc]) (fun _ => rfl)
 · intro σ L w1 hS h1 h2 K hK
   clear h2
   simp only [Act.put, qqS, qqC, qqZ] at hK
   go_wp2_with (go_at_call 12; refine (ktb _).mono ?_; rintro e w5 ⟨rfl, hb5⟩)
   exact (hS.below T2c.stab hb5).keep rfl
 simp only [Act.put, qqS, qqC, qqZ]
 apply pv_step (fun _ => rfl)
 · intro σ L w1 hS h1 h2 K hK
   clear h2
   go_wp2
   exact hS.keep rfl
 simp only [Act.put, qqS, qqC, qqZ]
 apply pv_step (fun _ => rfl)
 · intro σ L w1 hS h1 h2 K hK
   clear h2
   go_wp2
   exact hS.keep rfl
 simp only [Act.put, qqS, qqC, qqZ]
 apply pv_free (fun _ => rfl)
 · intro σ L w1 hS h1 h2 K hK
   clear h2
   go_wp2_with (go_at_call 26; refine (kim Ax cx D1 D2 d1 d2 E6 e6 _ (hL8.low.trans (hS.low.mono hL8.low.size)) (ownt8.below hS.low).in_ (Reads.of_own (own_call ownx8 hS.low)) hp8 (Reads.of_own (own_call ownl hS.low)) hf6).mono ?_; rintro e w5 ⟨v5, rfl, own5, hb5⟩)
   exact hS.put T2c.stab hb5 rfl (PRs.mk (own_base own5 hS.low.size))
 simp only [Act.put, qqS, qqC, qqZ]
 apply pv_free (fun _ => rfl)
 · intro σ L w1 hS h1 h2 K hK
   have hl := h2 6 (List.contains_iff_mem.1 (by kernel_rfl))
   clear h2
   go_wp2
   exact hS.put T2c.stab (Below.refl _ _) rfl (hS.get (i := 6) rfl hl)
 simp only [Act.put, qqS, qqC, qqZ]
 apply pv_free (fun _ => rfl)
 · intro σ L w1 hS h1 h2 K hK
   have hl := h2 7 (List.contains_iff_mem.1 (by kernel_rfl))
   clear h2
   obtain ⟨v9, e9, own9⟩ := hS.get (i := 7) rfl hl
   simp only [e9] at hK ⊢
   go_wp2
   exact hS.put T2c.stab (Below.refl _ _) rfl own9
 simp only [Act.put, qqS, qqC, qqZ]
 apply pv_step (v := .int .i64 C) (fun _ => rfl)
 · intro σ L w1 hS h1 h2 K hK
   have hl := h2 7 (List.contains_iff_mem.1 (by kernel_rfl))
   clear h2
   obtain ⟨v9, e9, own9⟩ := hS.get (i := 7) rfl hl
   simp only [e9] at hK ⊢
   go_wp2
   exact hS.keep rfl
 simp only [Act.put, qqS, qqC, qqZ]
 apply pv_free (fun _ => rfl)
 · intro σ L w1 hS h1 h2 K hK
   have hl := h2 8 (List.contains_iff_mem.1 (by kernel_rfl))
   clear h2
   go_wp2
   exact hS.put T2c.stab (Below.refl _ _) rfl (hS.get (i := 8) rfl hl)
 simp only [Act.put, qqS, qqC, qqZ]
 apply pv_step (fun _ => rfl)
 · intro σ L w1 hS h1 h2 K hK
   clear h2
   go_wp2
   exact hS.keep rfl
 simp only [Act.put, qqS, qqC, qqZ]
 refine pv_nil fun σ w9 hS => ?_
 have owng := hS.get (i := 10) rfl rfl
 have hbw9 := hS.low
 clear hS
 change w9.ownsRow _ _ _ _ _ _ at owng
 generalize σ 6 = s6
 generalize σ 7 = s7
 generalize σ 8 = s8
 generalize σ 10 = s10 at owng ⊢
 obtain ⟨A11, c11, rfl, -, -, hf11⟩ := own_form owng
 have hbg : w.heap.size ≤ w8.heap.size := hL8.low.size
 have hL9 := hL8.call hbw9
 have hx9 := hx8.below hbw9 hx8.lt
 have ht9 := ht8.below hbw9 ht8.lt
 have ng8 := RowsAt.new ownw8 owng (Nat.le_refl _)
 have ngl := RowsAt.new ownl owng (Nat.le_refl _)
 have ownl9 := own_call ownl hbw9
 have ownx9 := own_call ownx8 hbw9
 have ownw9 := own_call ownw8 hbw9
 have ownt9 := ownt8.below hbw9
 clear hL8 hx8 ht8 ownx8 ownw8 ownt8 ownl hbw9 ksp
 go_wp2_with (go_at_call 14; refine (kem _ _ _ _ _ (Reads.of_own owng) (Reads.of_own ownw9) hf11 hf8).mono ?_; rintro e w10 ⟨rfl, hb10⟩)
 have hL10 := hL9.call hb10
 have hx10 := hx9.below hb10 hx9.lt
 have ht10 := ht9.below hb10 ht9.lt
 have ownx10 := own_call ownx9 hb10
 have ownw10 := own_call ownw9 hb10
 have ownl10 := own_call ownl9 hb10
 have owng10 := own_call owng hb10
 have ownt10 := ownt9.below hb10
 clear hL9 hx9 ht9 ownx9 ownw9 ownl9 owng ownt9 hb10
 refine wp_region_v 6 5 (SX w10 (TL w10.heap.size lex.length V)) (by kernel_rfl) (by kernel_rfl) ⟨fun _ => undef, SX.start⟩ ?_
 simp only [qqT, List.take_zero, qqD, List.drop_zero]
 apply pv_step (fun _ => rfl)
 · intro σ L w1 hS h1 h2 K hK
   clear h2
   have f := hx10.below hS.low hx10.lt
   have f0 : w1.cell? ⟨gx, 0, none⟩ = some (.slice Ax lex.length cx) := f.cell 0
   go_wp2
   exact hS.keep rfl
 simp only [Act.put, qqS, qqC, qqZ]
 apply pv_step (fun _ => rfl)
 · intro σ L w1 hS h1 h2 K hK
   clear h2
   have f := hL10.lx.below hS.low hL10.lx.lt
   have f0 : w1.cell? ⟨w.heap.size, 0, none⟩ = some (.slice A lex.length c) := f.cell 0
   go_wp2
   exact hS.keep rfl
 simp only [Act.put, qqS, qqC, qqZ]
 apply pv_free (fun _ => rfl)
 · intro σ L w1 hS h1 h2 K hK
   clear h2
   go_wp2_with (go_at_call 10; refine (ktl _ (hL10.low.trans (hS.low.mono hL10.low.size))).mono ?_; rintro e w5 ⟨v5, rfl, own5, hb5⟩)
   exact hS.put TL.stab hb5 rfl (PLx.mk (own_base own5 hS.low.size))
 simp only [Act.put, qqS, qqC, qqZ]
 apply pv_step (v := .bool true) (fun _ => rfl)
 · intro σ L w1 hS h1 h2 K hK
   have hl := h2 2 (List.contains_iff_mem.1 (by kernel_rfl))
   clear h2
   obtain ⟨vL, eL, ownL⟩ := hS.get (i := 2) rfl hl
   obtain ⟨By, cy, rfl, -, hry, -⟩ := own_form ownL
   simp only [eL] at hK ⊢
   go_wp2_with (go_at_call 15; refine (keqx _ _ _ _ _ (Reads.of_own (own_call ownx10 hS.low)) hry).mono ?_; rintro e w5 ⟨rfl, hb5⟩)
   exact (hS.below TL.stab hb5).keep rfl
 simp only [Act.put, qqS, qqC, qqZ]
 apply pv_step (fun _ => rfl)
 · intro σ L w1 hS h1 h2 K hK
   clear h2
   go_wp2
   exact hS.keep rfl
 simp only [Act.put, qqS, qqC, qqZ]
 refine pv_nil fun σ w11 hS => ?_
 have hbw11 := hS.low
 clear hS
 generalize σ 2 = s2
 have hL11 := hL10.call hbw11
 have hx11 := hx10.below hbw11 hx10.lt
 have ht11 := ht10.below hbw11 ht10.lt
 have ownx11 := own_call ownx10 hbw11
 have ownw11 := own_call ownw10 hbw11
 have ownl11 := own_call ownl10 hbw11
 have owng11 := own_call owng10 hbw11
 have ownt11 := ownt10.below hbw11
 clear hL10 hx10 ht10 ownx10 ownw10 ownl10 owng10 ownt10 hbw11
 go_wp2_with (fail)
 refine wp_region_v 6 5 (SX w11 (TT w11.heap.size t)) (by kernel_rfl) (by kernel_rfl) ⟨fun _ => undef, SX.start⟩ ?_
 simp only [qqT, List.take_zero, qqD, List.drop_zero]
 apply pv_step (fun _ => rfl)
 · intro σ L w1 hS h1 h2 K hK
   clear h2
   have f := ht11.below hS.low ht11.lt
   have f0 : w1.cell? ⟨gt, 0, none⟩ = some (sv t.letters) := f.cell 0
   have f1 : w1.cell? ⟨gt, 1, none⟩ = some (.slice D1 t.values.length d1) := f.cell 1
   have f2 : w1.cell? ⟨gt, 2, none⟩ = some (.slice D2 t.counts.length d2) := f.cell 2
   have f3 : w1.cell? ⟨gt, 3, none⟩ = some (.int .i64 t.blanks) := f.cell 3
   go_wp2
   exact hS.keep rfl
 simp only [Act.put, qqS, qqC, qqZ]
 apply pv_step (fun _ => rfl)
 · intro σ L w1 hS h1 h2 K hK
   clear h2
   have f := hL11.ts.below hS.low hL11.ts.lt
   have f0 : w1.cell? ⟨w.heap.size + 1, 0, none⟩ = some (sv t.letters) := f.cell 0
   have f1 : w1.cell? ⟨w.heap.size + 1, 1, none⟩ = some (.slice A1 t.values.length c1) := f.cell 1
   have f2 : w1.cell? ⟨w.heap.size + 1, 2, none⟩ = some (.slice A2 t.counts.length c2) := f.cell 2
   have f3 : w1.cell? ⟨w.heap.size + 1, 3, none⟩ = some (.int .i64 t.blanks) := f.cell 3
   go_wp2
   exact hS.keep rfl
 simp only [Act.put, qqS, qqC, qqZ]
 apply pv_free (fun _ => rfl)
 · intro σ L w1 hS h1 h2 K hK
   clear h2
   go_wp2_with (go_at_call 11; refine (ktt _ (hL11.low.trans (hS.low.mono hL11.low.size))).mono ?_; rintro e w5 ⟨v5, v6, rfl, own5, hb5⟩)
   exact hS.put TT.stab hb5 rfl (PTs.mk (own5.base hS.low.size))
 simp only [Act.put, qqS, qqC, qqZ]
 apply pv_step (v := .bool true) (fun _ => rfl)
 · intro σ L w1 hS h1 h2 K hK
   have hl := h2 2 (List.contains_iff_mem.1 (by kernel_rfl))
   clear h2
   obtain ⟨v1, v2, eT, ownT⟩ := hS.get (i := 2) rfl hl
   obtain ⟨E1, x1, E2, x2, rfl, rfl⟩ := ownT.form
   simp only [eT] at hK ⊢
   go_wp2_with (go_at_call 16; refine (keqt _ _ _ _ _ _ _ _ _ (ownt11.below hS.low).in_ ownT.in_).mono ?_; rintro e w5 ⟨rfl, hb5⟩)
   exact (hS.below TT.stab hb5).keep rfl
 simp only [Act.put, qqS, qqC, qqZ]
 apply pv_step (fun _ => rfl)
 · intro σ L w1 hS h1 h2 K hK
   clear h2
   go_wp2
   exact hS.keep rfl
 simp only [Act.put, qqS, qqC, qqZ]
 refine pv_nil fun σ w12 hS => ?_
 have hbw12 := hS.low
 clear hS
 generalize σ 2 = s2
 have hL12 := hL11.call hbw12
 have hx12 := hx11.below hbw12 hx11.lt
 have ht12 := ht11.below hbw12 ht11.lt
 have ownx12 := own_call ownx11 hbw12
 have ownw12 := own_call ownw11 hbw12
 have ownl12 := own_call ownl11 hbw12
 have owng12 := own_call owng11 hbw12
 have ownt12 := ownt11.below hbw12
 clear hL11 hx11 ht11 ownx11 ownw11 ownl11 owng11 ownt11 hbw12
 have n8g : Hid (∀ k, (Value.slice A8 Z.length c8).ownBlock = some k → (Value.slice A11 Z.length c11).ownBlock ≠ some k) := Lib.hid (fun k hk e => ng8 k e hk)
 have nll : Hid (∀ k, (Value.slice A8 Z.length c8).ownBlock = some k → (Value.slice E6 ls.length e6).ownBlock ≠ some k) := Lib.hid (fun k hk e => nl8 k e hk)
 have ngl' : Hid (∀ k, (Value.slice A11 Z.length c11).ownBlock = some k → (Value.slice E6 ls.length e6).ownBlock ≠ some k) := Lib.hid (fun k hk e => ngl k hk e)
 clear ng8 nl8 ngl
 go_wp2_with (first
   | (go_at_call 23; refine (ktm _ hL12.low).mono ?_; rintro e w12a ⟨v6, rfl, ownk, hb12⟩; obtain ⟨K6, k6, rfl, -, -, hfk⟩ := own_form ownk
      have hL12a := hL12.call hb12
      have hx12a := hx12.below hb12 hx12.lt
      have ht12a := ht12.below hb12 ht12.lt
      have ownx12a := own_call ownx12 hb12
      have ownw12a := own_call ownw12 hb12
      have ownl12a := own_call ownl12 hb12
      have owng12a := own_call owng12 hb12
      have ownt12a := ownt12.below hb12)
   | (go_at_call 14; (with_reducible refine (kel _ _ _ _ _ (Reads.of_own ownl12a) (Reads.of_own ownk) hf6 hfk).mono ?_); rintro e w12b ⟨rfl, hb12b⟩
      have hL12b := hL12a.call hb12b
      have hx12b := hx12a.below hb12b hx12a.lt
      have ht12b := ht12a.below hb12b ht12a.lt
      have ownx12b := own_call ownx12a hb12b
      have ownw12b := own_call ownw12a hb12b
      have ownl12b := own_call ownl12a hb12b
      have owng12b := own_call owng12a hb12b
      have ownt12b := ownt12a.below hb12b
      have f1 : w12b.cell? ⟨gx, 0, none⟩ = some (.slice Ax lex.length cx) := hx12b.cell 0)
   | (go_at_call 17; refine (kml _ _ _ ownx12b).mono ?_; rintro e w13 ⟨rfl, -, hgx13⟩
      have hL13 := hL12b.grow ownx12b hbx (by decide) (by decide) (by decide) hgx13
      have ownw13 := own_grown ownw12b ownx12b (by decide) hgx13
      have ownl13 := own_grown ownl12b ownx12b (by decide) hgx13
      have owng13 := own_grown owng12b ownx12b (by decide) hgx13
      have ownt13 := ownt12b.grown ownx12b (by decide) hgx13
      have ht13 := ht12b.grown hgx13 (fun e => own_blk_ne ownx12b ht12b (by decide) e.symm)
      have f2 : w13.cell? ⟨gt, 0, none⟩ = some (sv t.letters) := ht13.cell 0
      have f3 : w13.cell? ⟨gt, 1, none⟩ = some (.slice D1 t.values.length d1) := ht13.cell 1
      have f4 : w13.cell? ⟨gt, 2, none⟩ = some (.slice D2 t.counts.length d2) := ht13.cell 2
      have f5 : w13.cell? ⟨gt, 3, none⟩ = some (.int .i64 t.blanks) := ht13.cell 3)
   | (go_at_call 18; refine (kmt _ _ _ _ ownt13).mono ?_; rintro e w14 ⟨rfl, hg14⟩
      have hL14 := hL13.g2 ownt13 hbt hg14
      have ownw14 := own_g2 ownw13 (own_diff ownw13 ownt13.1 (by decide)) (own_diff ownw13 ownt13.2.1 (by decide)) hg14
      have owng14 := own_g2 owng13 (own_diff owng13 ownt13.1 (by decide)) (own_diff owng13 ownt13.2.1 (by decide)) hg14
      have ownl14 := own_g2 ownl13 (own_diff ownl13 ownt13.1 (by decide)) (own_diff ownl13 ownt13.2.1 (by decide)) hg14)
   | (go_at_call 19; (with_reducible refine (kmk _ _ _ ownl14).mono ?_); rintro e w14b ⟨rfl, -, hgl14⟩
      have hL14b := hL14.grow ownl14 hbl (by decide) (by decide) (by decide) hgl14
      have ownw14b := own_ob ownw14 nll.out hgl14
      have owng14b := own_ob owng14 ngl'.out hgl14)
   | (go_at_call 14; (with_reducible refine (kem _ _ _ _ _ (Reads.of_own owng14b) (Reads.of_own ownw14b) hf11 hf8).mono ?_); rintro e w15 ⟨rfl, hb15⟩
      have hL15 := hL14b.call hb15
      have ownw15 := own_call ownw14b hb15
      have owng15 := own_call owng14b hb15)
   | (go_at_call 19; refine (kmm _ _ _ owng15).mono ?_; rintro e w16 ⟨rfl, owng16, hgg16⟩
      have hL16 := hL15.grow owng15 hbg (by decide) (by decide) (by decide) hgg16
      have ownw16 := own_ob ownw15 n8g.out hgg16)
   | (go_at_call 20; refine (khm _ _ _ (Reads.of_own owng16) hf11).mono ?_; rintro e w17 ⟨rfl, hb17⟩
      have hL17 := hL16.call hb17
      have ownw17 := own_call ownw16 hb17
      have owng17 := own_call owng16 hb17))
 clear hL12 hL12a hL12b hL13 hL14 hL14b hL15 hL16 hx12a hx12b ht12a ht12b ownx12a ownx12b ownw12a ownw12b ownl12a ownl12b owng12a owng12b ownt12a ownt12b ownl12 ownl13 ownl14 ownw14b owng14b ownk hb12 hb12b hgl14 ownw12 ownw13 ownw14 ownw15 ownw16 owng12 owng13 owng14 owng15 owng16 ownx12 hx12 f1 f2 f3 f4 f5 hgx13 hg14 hgg16 hb15 hb17 ht12 ht13 ownt12 ownt13
 refine wp_region_v 16 15 (SX w17 (T4c w17.heap.size lex.length V t 72 5 Z.length C XV ls.length XL)) (by kernel_rfl) (by kernel_rfl) ⟨fun _ => undef, SX.start⟩ ?_
 simp only [qqT, List.take_zero, qqD, List.drop_zero]
 apply pv_step (fun _ => rfl)
 · intro σ L w1 hS h1 h2 K hK
   clear h2
   have f := hL17.lx.below hS.low hL17.lx.lt
   have f0 : w1.cell? ⟨w.heap.size, 0, none⟩ = some (.slice A lex.length c) := f.cell 0
   go_wp2
   exact hS.keep rfl
 simp only [Act.put, qqS, qqC, qqZ]
 apply pv_free (fun _ => rfl)
 · intro σ L w1 hS h1 h2 K hK
   clear h2
   go_wp2_with (go_at_call 10; refine (ktl _ (hL17.low.trans (hS.low.mono hL17.low.size))).mono ?_; rintro e w5 ⟨v5, rfl, own5, hb5⟩)
   exact hS.put T4c.stab hb5 rfl (PLx.mk (own_base own5 hS.low.size))
 simp only [Act.put, qqS, qqC, qqZ]
 apply pv_step (fun _ => rfl)
 · intro σ L w1 hS h1 h2 K hK
   clear h2
   have f := hL17.ts.below hS.low hL17.ts.lt
   have f0 : w1.cell? ⟨w.heap.size + 1, 0, none⟩ = some (sv t.letters) := f.cell 0
   have f1 : w1.cell? ⟨w.heap.size + 1, 1, none⟩ = some (.slice A1 t.values.length c1) := f.cell 1
   have f2 : w1.cell? ⟨w.heap.size + 1, 2, none⟩ = some (.slice A2 t.counts.length c2) := f.cell 2
   have f3 : w1.cell? ⟨w.heap.size + 1, 3, none⟩ = some (.int .i64 t.blanks) := f.cell 3
   go_wp2
   exact hS.keep rfl
 simp only [Act.put, qqS, qqC, qqZ]
 apply pv_free (fun _ => rfl)
 · intro σ L w1 hS h1 h2 K hK
   clear h2
   go_wp2_with (go_at_call 11; refine (ktt _ (hL17.low.trans (hS.low.mono hL17.low.size))).mono ?_; rintro e w5 ⟨v5, v6, rfl, own5, hb5⟩)
   exact hS.put T4c.stab hb5 rfl (PTs.mk (own5.base hS.low.size))
 simp only [Act.put, qqS, qqC, qqZ]
 apply pv_step (fun _ => rfl)
 · intro σ L w1 hS h1 h2 K hK
   clear h2
   have f := hL17.bd.below hS.low hL17.bd.lt
   have f0 : w1.cell? ⟨w.heap.size + 1 + 1, 0, none⟩ = some (.int .i64 sz) := f.cell 0
   have f1 : w1.cell? ⟨w.heap.size + 1 + 1, 1, none⟩ = some (sv bp) := f.cell 1
   have f2 : w1.cell? ⟨w.heap.size + 1 + 1, 2, none⟩ = some (sv bc) := f.cell 2
   go_wp2
   exact hS.keep rfl
 simp only [Act.put, qqS, qqC, qqZ]
 apply pv_step (v := .agg #[.int .i64 sz, sv bp, sv bc]) (fun _ => rfl)
 · intro σ L w1 hS h1 h2 K hK
   clear h2
   simp only [Act.put, qqS, qqC, qqZ] at hK
   go_wp2_with (go_at_call 12; refine (ktb _).mono ?_; rintro e w5 ⟨rfl, hb5⟩)
   exact (hS.below T4c.stab hb5).keep rfl
 simp only [Act.put, qqS, qqC, qqZ]
 apply pv_step (fun _ => rfl)
 · intro σ L w1 hS h1 h2 K hK
   clear h2
   go_wp2
   exact hS.keep rfl
 simp only [Act.put, qqS, qqC, qqZ]
 apply pv_step (fun _ => rfl)
 · intro σ L w1 hS h1 h2 K hK
   clear h2
   go_wp2
   exact hS.keep rfl
 simp only [Act.put, qqS, qqC, qqZ]
 apply pv_free (fun _ => rfl)
 · intro σ L w1 hS h1 h2 K hK
   clear h2
   go_wp2_with (go_at_call 23; refine (ktm _ (hL17.low.trans (hS.low.mono hL17.low.size))).mono ?_; rintro e w5 ⟨v5, rfl, own5, hb5⟩)
   exact hS.put T4c.stab hb5 rfl (own_base own5 hS.low.size)
 simp only [Act.put, qqS, qqC, qqZ]
 apply pv_free (fun _ => rfl)
 · intro σ L w1 hS h1 h2 K hK
   have hl := h2 1 (List.contains_iff_mem.1 (by kernel_rfl))
   have ht := h2 3 (List.contains_iff_mem.1 (by kernel_rfl))
   have hk8 := h2 8 (List.contains_iff_mem.1 (by kernel_rfl))
   clear h2
   obtain ⟨vL, eL, ownL⟩ := hS.get (i := 1) rfl hl
   obtain ⟨v1, v2, eT, ownT⟩ := hS.get (i := 3) rfl ht
   have ownK := hS.get (i := 8) rfl hk8
   change w1.ownsRow _ _ _ _ _ _ at ownK
   obtain ⟨vK, hvK⟩ : ∃ vK, vK = σ 8 := ⟨_, rfl⟩
   rw [← hvK] at ownK
   obtain ⟨D1, d1, D2, d2, rfl, rfl⟩ := ownT.form
   obtain ⟨Ax, cx, rfl, -, hrx, hfx⟩ := own_form ownL
   obtain ⟨A6, c6, rfl, -, hr6, hf6⟩ := own_form ownK
   simp only [eL, eT, ← hvK] at hK ⊢
   clear hvK
   go_wp2_with (go_at_call 26; refine (kim Ax cx D1 D2 d1 d2 A6 c6 _ (hL17.low.trans (hS.low.mono hL17.low.size)) ownT.in_ hrx (fun ad h => by obtain ⟨g, rfl⟩ := hfx ad h; rfl) hr6 hf6).mono ?_; rintro e w5 ⟨v5, rfl, own5, hb5⟩)
   exact hS.put T4c.stab hb5 rfl (PRs.mk (own_base own5 hS.low.size))
 simp only [Act.put, qqS, qqC, qqZ]
 apply pv_free (fun _ => rfl)
 · intro σ L w1 hS h1 h2 K hK
   have hl := h2 9 (List.contains_iff_mem.1 (by kernel_rfl))
   clear h2
   go_wp2
   exact hS.put T4c.stab (Below.refl _ _) rfl (hS.get (i := 9) rfl hl)
 simp only [Act.put, qqS, qqC, qqZ]
 apply pv_free (fun _ => rfl)
 · intro σ L w1 hS h1 h2 K hK
   have hl := h2 10 (List.contains_iff_mem.1 (by kernel_rfl))
   clear h2
   obtain ⟨v9, e9, own9⟩ := hS.get (i := 10) rfl hl
   simp only [e9] at hK ⊢
   go_wp2
   exact hS.put T4c.stab (Below.refl _ _) rfl own9
 simp only [Act.put, qqS, qqC, qqZ]
 apply pv_step (v := .int .i64 C) (fun _ => rfl)
 · intro σ L w1 hS h1 h2 K hK
   have hl := h2 10 (List.contains_iff_mem.1 (by kernel_rfl))
   clear h2
   obtain ⟨v9, e9, own9⟩ := hS.get (i := 10) rfl hl
   simp only [e9] at hK ⊢
   go_wp2
   exact hS.keep rfl
 simp only [Act.put, qqS, qqC, qqZ]
 apply pv_free (fun _ => rfl)
 · intro σ L w1 hS h1 h2 K hK
   have hl := h2 11 (List.contains_iff_mem.1 (by kernel_rfl))
   clear h2
   go_wp2
   exact hS.put T4c.stab (Below.refl _ _) rfl (hS.get (i := 11) rfl hl)
 simp only [Act.put, qqS, qqC, qqZ]
 apply pv_step (fun _ => rfl)
 · intro σ L w1 hS h1 h2 K hK
   clear h2
   go_wp2
   exact hS.keep rfl
 simp only [Act.put, qqS, qqC, qqZ]
 refine pv_nil fun σ w18 hS => ?_
 have ownh := hS.get (i := 13) rfl rfl
 have hbw18 := hS.low
 clear hS
 change w18.ownsRow _ _ _ _ _ _ at ownh
 generalize σ 1 = s1
 generalize σ 3 = s3
 generalize σ 8 = s8
 generalize σ 9 = s9
 generalize σ 10 = s10
 generalize σ 11 = s11
 generalize σ 13 = s13 at ownh ⊢
 obtain ⟨A16, c16, rfl, -, -, hf16⟩ := own_form ownh
 have ownw18 := own_call ownw17 hbw18
 have owng18 := own_call owng17 hbw18
 have hL18 := hL17.call hbw18
 clear hL17 ownw17 owng17 hbw18
 go_wp2_with (first
   | (go_at_call 14; refine (kem _ _ _ _ _ (Reads.of_own ownh) (Reads.of_own ownw18) hf16 hf8).mono ?_; rintro e w19 ⟨rfl, hb19⟩
      have hL19 := hL18.call hb19
      have owng19 := own_call owng18 hb19)
   | (go_at_call 20; refine (khm _ _ _ (Reads.of_own owng19) hf11).mono ?_; rintro e w20 ⟨rfl, hb20⟩
      have hL20 := hL19.call hb20))
 go_ret
 exact ⟨rfl, hL20.low⟩
set_option maxHeartbeats 2000000
theorem law_missing_any (A : Option Addr) (c : Nat) (lex : List Str) (t : TS) (A1 A2 : Option Addr) (c1 c2 : Nat) (b : Bd) (rack : Str) (A5 : Option Addr) (c5 : Nat) (ls : List Mv) (w : World) (hm : MaxOk w) (hr : Reads w w.heap.size 1 A lex.length (lex.map sv)) (hi : TsIn w t A1 A2) (h5 : Reads w w.heap.size 5 A5 ls.length (mvsC ls)) (hf5 : 0 < ls.length → ∀ ad, A5 = some ad → ad = ⟨ad.block, ad.off, none⟩) (hlsn : ls.length ≤ 9223372036854775807) (hlsw : ∀ x ∈ ls, x.1.word.length ≤ 9223372036854775807) (hln : lex.length ≤ 9223372036854775807) (hls : ∀ x ∈ lex, x.length ≤ 9223372036854775807) (htl : t.letters.length ≤ 9223372036854775807) (htv : t.values.length ≤ 9223372036854775807) (htc : t.counts.length ≤ 9223372036854775807) (hbp : b.prem.length ≤ 9223372036854775807) (hbc : b.cells.length ≤ 9223372036854775807) :
   Calls Tryz.prog 5 #[.agg #[.slice A lex.length c], t.v A1 c1 A2 c2, b.v, sv rack, .slice A5 ls.length c5] w fun e w' => e = .returned (.bool true) ∧ Below w.heap.size w w' := by
 obtain ⟨W, hW⟩ : ∃ W, W = ((w.alloc (.cells #[.slice A lex.length c] 24)).alloc (.cells #[sv t.letters, .slice A1 t.values.length c1, .slice A2 t.counts.length c2, .int .i64 t.blanks] 27)).alloc (.cells #[.int .i64 b.size, sv b.prem, sv b.cells] 29) := ⟨_, rfl⟩
 have hL : LA3 w A c lex.length t A1 c1 A2 c2 b.size b.prem b.cells W := by
   rw [hW]
   exact ⟨(((Below.refl _ _).alloc (Nat.le_refl _) _).alloc (by simp) _).alloc (by simp; omega) _, ((Blk.new w _ _).alloc _).alloc _, (Blk.new1 w _ _ _).alloc _, Blk.new2 w _ _ _ _⟩
 by_cases hrk : rack.length ≤ 2 ^ 20
 · have hrk' : ¬ (1048576 : Int) < (rack.length : Int) := by omega
   have hge := szS_ge lex (2 ^ 20)
   have ksl := fun (W : World) (hW : Below w.heap.size w W) => szLexicon_any A c lex (2 ^ 20) W ((hr.below hW).more hW.size) hln hls (by decide) (by decide)
   by_cases h1 : 0 ≤ szS lex (2 ^ 20)
   · obtain ⟨g1, g2, g3⟩ := szS_bd h1
     have kst := fun W => szTileSet_any t A1 A2 c1 c2 (szS lex (2 ^ 20)) W htl htv htc h1 (by omega)
     by_cases h2 : 0 ≤ szT t (szS lex (2 ^ 20))
     · obtain ⟨u1, u2, u3, u4⟩ := szT_bd h2
       have ksb := fun W => szBoard_any b (szT t (szS lex (2 ^ 20))) W h2 (by omega) hbp hbc
       by_cases h3 : 0 ≤ szB b (szT t (szS lex (2 ^ 20)))
       · have v4 : szB b (szT t (szS lex (2 ^ 20))) ≤ szT t (szS lex (2 ^ 20)) := by
           unfold szB at h3 ⊢
           split at h3
           · omega
           · split at h3
             · omega
             · rename_i n1 n2
               rw [if_neg n1, if_neg n2]
               omega
         have ksm := fun (W : World) (hW : Below w.heap.size w W) => szMoveS_any A5 c5 ls (szB b (szT t (szS lex (2 ^ 20)))) W ((h5.below hW).more hW.size) hf5 hlsn hlsw h3 (by omega)
         have hge4 := szS_ge (wordsM ls) (szB b (szT t (szS lex (2 ^ 20))))
         by_cases h4 : 0 ≤ szS (wordsM ls) (szB b (szT t (szS lex (2 ^ 20))))
         · obtain ⟨m1, m2, m3⟩ := szS_bd h4
           have m1' : (ls.length : Int) ≤ szB b (szT t (szS lex (2 ^ 20))) := by unfold wordsM at m1; rw [List.length_map] at m1; exact m1
           exact law_missing A c lex t A1 A2 c1 c2 b rack A5 c5 ls w hm hr hi h5 hf5 (by omega) (fun x hx => by have := g2 x hx; omega) (by omega) (by omega) (by omega) hrk _ rfl h1 g3 _ rfl h2 (by omega) _ rfl h3 (by omega) _ rfl h4 (by omega) (fun x hx => by have := m2 x.1.word (List.mem_map.2 ⟨x, hx, rfl⟩); omega)
         · obtain ⟨l1, hl1⟩ : ∃ l1, l1 = szS lex (2 ^ 20) := ⟨_, rfl⟩
           rw [← hl1] at ksl kst ksb ksm h1 h2 h3 h4
           obtain ⟨l2, hl2⟩ : ∃ l2, l2 = szT t l1 := ⟨_, rfl⟩
           rw [← hl2] at kst ksb ksm h2 h3 h4
           obtain ⟨l3, hl3⟩ : ∃ l3, l3 = szB b l2 := ⟨_, rfl⟩
           rw [← hl3] at ksb ksm h3 h4
           obtain ⟨l4, hl4⟩ : ∃ l4, l4 = szS (wordsM ls) l3 := ⟨_, rfl⟩
           rw [← hl4] at ksm h4
           have h4' : l4 < 0 := by omega
           have h3' : ¬ l3 < 0 := by omega
           have h2' : ¬ l2 < 0 := by omega
           have h1' : ¬ l1 < 0 := by omega
           clear hl1 hl2 hl3 hl4 hge hge4 g1 g2 g3 u1 u2 u3 u4 v4 hr hi h5 hf5 hls hlsn hlsw htl htv htc hbp hbc hm
           obtain ⟨sz, bp, bc⟩ := b
           simp only [Bd.v, TS.v] at *
           go_enter Tryz.func5, Tryz.ntmps5
           go_wp2_with (first
             | (go_at_call 6; rw [← hW]; refine (ksl _ hL.low).mono ?_; rintro e w1 ⟨rfl, hb1⟩; have hL1 := hL.call hb1
                have f1 : w1.cell? ⟨w.heap.size + 1, 0, none⟩ = some (sv t.letters) := hL1.ts.cell 0
                have f2 : w1.cell? ⟨w.heap.size + 1, 1, none⟩ = some (.slice A1 t.values.length c1) := hL1.ts.cell 1
                have f3 : w1.cell? ⟨w.heap.size + 1, 2, none⟩ = some (.slice A2 t.counts.length c2) := hL1.ts.cell 2
                have f4 : w1.cell? ⟨w.heap.size + 1, 3, none⟩ = some (.int .i64 t.blanks) := hL1.ts.cell 3)
             | (go_at_call 7; refine (kst _).mono ?_; rintro e w2 ⟨rfl, hb2⟩; have hL2 := hL1.call hb2
                have g1 : w2.cell? ⟨w.heap.size + 1 + 1, 0, none⟩ = some (.int .i64 sz) := hL2.bd.cell 0
                have g2 : w2.cell? ⟨w.heap.size + 1 + 1, 1, none⟩ = some (sv bp) := hL2.bd.cell 1
                have g3 : w2.cell? ⟨w.heap.size + 1 + 1, 2, none⟩ = some (sv bc) := hL2.bd.cell 2)
             | (go_at_call 8; refine (ksb _).mono ?_; rintro e w3 ⟨rfl, hb3⟩; have hL3 := hL2.call hb3)
             | (go_at_call 21; refine (ksm _ hL3.low).mono ?_; rintro e w4 ⟨rfl, hb4⟩; have hL4 := hL3.call hb4))
           go_ret
           exact ⟨rfl, hL4.low⟩
       · obtain ⟨l1, hl1⟩ : ∃ l1, l1 = szS lex (2 ^ 20) := ⟨_, rfl⟩
         rw [← hl1] at ksl kst ksb h1 h2 h3
         obtain ⟨l2, hl2⟩ : ∃ l2, l2 = szT t l1 := ⟨_, rfl⟩
         rw [← hl2] at kst ksb h2 h3
         obtain ⟨l3, hl3⟩ : ∃ l3, l3 = szB b l2 := ⟨_, rfl⟩
         rw [← hl3] at ksb h3
         have h3' : l3 < 0 := by omega
         have h2' : ¬ l2 < 0 := by omega
         have h1' : ¬ l1 < 0 := by omega
         clear hl1 hl2 hl3 hge g1 g2 g3 u1 u2 u3 u4 hr hi h5 hf5 hls hlsn hlsw htl htv htc hbp hbc hm
         obtain ⟨sz, bp, bc⟩ := b
         simp only [Bd.v, TS.v] at *
         go_enter Tryz.func5, Tryz.ntmps5
         go_wp2_with (first
           | (go_at_call 6; rw [← hW]; refine (ksl _ hL.low).mono ?_; rintro e w1 ⟨rfl, hb1⟩; have hL1 := hL.call hb1
              have f1 : w1.cell? ⟨w.heap.size + 1, 0, none⟩ = some (sv t.letters) := hL1.ts.cell 0
              have f2 : w1.cell? ⟨w.heap.size + 1, 1, none⟩ = some (.slice A1 t.values.length c1) := hL1.ts.cell 1
              have f3 : w1.cell? ⟨w.heap.size + 1, 2, none⟩ = some (.slice A2 t.counts.length c2) := hL1.ts.cell 2
              have f4 : w1.cell? ⟨w.heap.size + 1, 3, none⟩ = some (.int .i64 t.blanks) := hL1.ts.cell 3)
           | (go_at_call 7; refine (kst _).mono ?_; rintro e w2 ⟨rfl, hb2⟩; have hL2 := hL1.call hb2
              have g1 : w2.cell? ⟨w.heap.size + 1 + 1, 0, none⟩ = some (.int .i64 sz) := hL2.bd.cell 0
              have g2 : w2.cell? ⟨w.heap.size + 1 + 1, 1, none⟩ = some (sv bp) := hL2.bd.cell 1
              have g3 : w2.cell? ⟨w.heap.size + 1 + 1, 2, none⟩ = some (sv bc) := hL2.bd.cell 2)
           | (go_at_call 8; refine (ksb _).mono ?_; rintro e w3 ⟨rfl, hb3⟩; have hL3 := hL2.call hb3))
         go_ret
         exact ⟨rfl, hL3.low⟩
     · obtain ⟨l1, hl1⟩ : ∃ l1, l1 = szS lex (2 ^ 20) := ⟨_, rfl⟩
       rw [← hl1] at ksl kst h1 h2
       obtain ⟨l2, hl2⟩ : ∃ l2, l2 = szT t l1 := ⟨_, rfl⟩
       rw [← hl2] at kst h2
       have h2' : l2 < 0 := by omega
       have h1' : ¬ l1 < 0 := by omega
       clear hl1 hl2 hge g1 g2 g3 hr hi h5 hf5 hls hlsn hlsw htl htv htc hbp hbc hm
       obtain ⟨sz, bp, bc⟩ := b
       simp only [Bd.v, TS.v] at *
       go_enter Tryz.func5, Tryz.ntmps5
       go_wp2_with (first
         | (go_at_call 6; rw [← hW]; refine (ksl _ hL.low).mono ?_; rintro e w1 ⟨rfl, hb1⟩; have hL1 := hL.call hb1
            have f1 : w1.cell? ⟨w.heap.size + 1, 0, none⟩ = some (sv t.letters) := hL1.ts.cell 0
            have f2 : w1.cell? ⟨w.heap.size + 1, 1, none⟩ = some (.slice A1 t.values.length c1) := hL1.ts.cell 1
            have f3 : w1.cell? ⟨w.heap.size + 1, 2, none⟩ = some (.slice A2 t.counts.length c2) := hL1.ts.cell 2
            have f4 : w1.cell? ⟨w.heap.size + 1, 3, none⟩ = some (.int .i64 t.blanks) := hL1.ts.cell 3)
         | (go_at_call 7; refine (kst _).mono ?_; rintro e w2 ⟨rfl, hb2⟩; have hL2 := hL1.call hb2))
       go_ret
       exact ⟨rfl, hL2.low⟩
   · obtain ⟨l1, hl1⟩ : ∃ l1, l1 = szS lex (2 ^ 20) := ⟨_, rfl⟩
     rw [← hl1] at ksl h1
     have h1' : l1 < 0 := by omega
     clear hl1 hge hr hi h5 hf5 hls hlsn hlsw htl htv htc hbp hbc hm
     obtain ⟨sz, bp, bc⟩ := b
     simp only [Bd.v, TS.v] at *
     go_enter Tryz.func5, Tryz.ntmps5
     go_wp2_with (go_at_call 6; rw [← hW]; refine (ksl _ hL.low).mono ?_; rintro e w1 ⟨rfl, hb1⟩; have hL1 := hL.call hb1)
     go_ret
     exact ⟨rfl, hL1.low⟩
 · have hrk' : (1048576 : Int) < (rack.length : Int) := by omega
   have hlow := hL.low
   obtain ⟨sz, bp, bc⟩ := b
   simp only [Bd.v, TS.v] at *
   go_enter Tryz.func5, Tryz.ntmps5
   go_wp2_with (fail)
   rw [← hW]
   go_ret
   exact ⟨rfl, hlow⟩
end Go.Proofs.YtohopceknpgcnaaGreatDoor
