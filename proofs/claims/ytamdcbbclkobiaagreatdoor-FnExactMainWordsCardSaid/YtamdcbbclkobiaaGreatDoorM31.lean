/-
  The walk of the law FnExactMainWords (the laws package). PRINTED BY wip/mk84.py (with wip/L84.head); The walk of the law FnExactMainWords at every argument (the laws package); FnExactMainWords: whatever the arguments, the law returns true and they read as they did (the row's statement).
  Conditions: as each part below says.
-/
import Derived.Test.YtamdcbbclkobiaaGreatDoorM29
import Derived.Test.YtamdcbbclkobiaaGreatDoorM30
import Derived.Test.YtamdcbbclkobiaaGreatDoorRows
import Derived.ProofKit
import Derived.Lay
import Derived.LaidMore
import Derived.Carry
import Derived.SizedLaws
import Derived.Deep.Strs
import Derived.Lib.SmallJoins
import Derived.Shelf.Vars
import Derived.ShapedOpen
/-
  The walk of the law FnExactMainWords (the laws package). PRINTED BY wip/mk84.py (with wip/L84.head).
  Conditions: strings of common size; the words' slice reads as a list of strings; the library's variable MaxLen reads as a number.
-/
namespace Go.Proofs.YtamdcbbclkobiaaGreatDoor
open Go.RowKit RegP RegL RegV
set_option maxHeartbeats 4000000
set_option maxRecDepth 100000

/-- The arguments lie in the law's own blocks. -/
structure LA (w : World) (A : Option Addr) (c n : Nat) (sz : Int) (bp bc : Str) (wr : World) : Prop where
  low : Below w.heap.size w wr
  lx : Blk wr w.heap.size 24 #[.slice A n c]
  bd : Blk wr (w.heap.size + 1) 26 #[.int .i64 sz, sv bp, sv bc]
section
variable {w wr w' : World} {A : Option Addr} {c n : Nat} {sz : Int} {bp bc : Str}
theorem LA.call (h : LA w A c n sz bp bc wr) (hb : Below wr.heap.size wr w') : LA w A c n sz bp bc w' :=
  ⟨h.low.trans (hb.mono h.low.size), h.lx.below hb h.lx.lt, h.bd.below hb h.bd.lt⟩
theorem LA.grow {base size m : Nat} {v : Value} {xs : List Value} {e : TypeId} (h : LA w A c n sz bp bc wr) (ho : wr.ownsRow base e size v m xs) (hB : w.heap.size ≤ base) (h1 : e ≠ 24) (h2 : e ≠ 26) (hg : wr.grownBy w' v.ownBlock) : LA w A c n sz bp bc w' :=
  ⟨Below.own h.low h.low.size ho hB hg, h.lx.grown hg (fun e => own_blk_ne ho h.lx h1 e.symm), h.bd.grown hg (fun e => own_blk_ne ho h.bd h2 e.symm)⟩
end
theorem own_o {W W' : World} {base e size n : Nat} {v v2 : Value} {xs : List Value} (h : W.ownsRow base e size v n xs) (hne : ∀ k, v.ownBlock = some k → v2.ownBlock ≠ some k) (hg : W.grownBy W' v2.ownBlock) : W'.ownsRow base e size v n xs :=
  own_keep h fun k hk => hg.block k (h.lt k hk).2 (fun e => hne k hk e.symm)
theorem law_main (A : Option Addr) (c : Nat) (lex : List Str) (b : Bd) (rack : Str) (w : World) (hm : MaxOk w) (hr : Reads w w.heap.size 1 A lex.length (lex.map sv)) (hln : lex.length ≤ 2 ^ 20) (hls : ∀ x ∈ lex, x.length ≤ 2 ^ 20) (hrk : rack.length ≤ 2 ^ 20) (l1 : Int) (hl1 : szS lex (2 ^ 20) = l1) (hl0 : 0 ≤ l1) (hl2 : l1 ≤ 2 ^ 20) (l3 : Int) (hl3 : szB b l1 = l3) (hl4 : 0 ≤ l3) :
    Calls Tryz.prog 3 #[.agg #[.slice A lex.length c], b.v, sv rack] w fun e w' => e = .returned (.bool true) ∧ Below w.heap.size w w' := by
  obtain ⟨hbp, hbc⟩ := szB_bd (b := b) (l := l1) (by omega)
  have ksl := fun (W : World) (hW : Below w.heap.size w W) => szLexicon_any A c lex (2 ^ 20) W ((hr.below hW).more hW.size) (by omega) (fun x hx => by have := hls x hx; omega) (by decide) (by decide)
  have ksb := fun W => szBoard_any b l1 W hl0 (by omega) (by omega) (by omega)
  rw [hl1] at ksl
  rw [hl3] at ksb
  have ktl := fun (W : World) (hW : Below w.heap.size w W) => toLexicon_any A c lex W ((hr.below hW).more hW.size) (by omega)
  have ktb := fun W => toBoard_any b W
  have ksp := fun (A1 : Option Addr) (c1 : Nat) (W : World) (h : Reads W W.heap.size 1 A1 lex.length (lex.map sv)) => (sMainWords_any A1 c1 b lex rack W h (by omega) (fun x hx => by have := hls x hx; omega) (by omega) (by omega) (by omega)).mono fun e w' h => MainPost.ans h
  have kim := fun (A1 : Option Addr) (c1 : Nat) (W : World) (hW : Below w.heap.size w W) (h : Reads W W.heap.size 1 A1 lex.length (lex.map sv)) (hA : Plain0 A1) => (iMainWords_any A1 c1 lex b rack W (hm.below hW) h hA (by omega) (fun x hx => by have := hls x hx; omega) (by omega) (by omega) (by omega)).mono fun e w' h => MainPost.ans h
  have hMl := ansL_len (C := playsCode b lex rack) (b := b) (ws := lex) (rack := rack) rfl
  obtain ⟨C, hC⟩ : ∃ C, C = playsCode b lex rack := ⟨_, rfl⟩
  obtain ⟨M, hM⟩ : ∃ M, M = mainL b lex rack := ⟨_, rfl⟩
  rw [← hC, ← hM] at ksp kim hMl
  clear hC hM hl1 hl3 hbp hbc hm
  obtain ⟨sz, bp, bc⟩ := b
  simp only [Bd.v] at *
  have ktl' := ktl
  obtain ⟨V, hV⟩ : ∃ V, V = lex.map sv := ⟨_, rfl⟩
  rw [← hV] at ktl ksp kim hr
  have hVh := Lib.hid hV
  clear hV
  have hrk' : ¬ (1048576 : Int) < (rack.length : Int) := by omega
  have hl0' : ¬ l1 < 0 := by omega
  have hl4' : ¬ l3 < 0 := by omega
  obtain ⟨W, hW⟩ : ∃ W, W = (w.alloc (.cells #[.slice A lex.length c] 24)).alloc (.cells #[.int .i64 sz, sv bp, sv bc] 26) := ⟨_, rfl⟩
  have hL : LA w A c lex.length sz bp bc W := by
    rw [hW]
    exact ⟨((Below.refl _ _).alloc (Nat.le_refl _) _).alloc (by simp) _, (Blk.new w _ _).alloc _, Blk.new1 w _ _ _⟩
  go_enter Tryz.func3, Tryz.ntmps3
  go_wp2_with (first
    | (go_at_call 4; rw [← hW]; refine (ksl _ hL.low).mono ?_; rintro e w1 ⟨rfl, hb1⟩; have hL1 := hL.call hb1
       have f1 : w1.cell? ⟨w.heap.size + 1, 0, none⟩ = some (.int .i64 sz) := hL1.bd.cell 0
       have f2 : w1.cell? ⟨w.heap.size + 1, 1, none⟩ = some (sv bp) := hL1.bd.cell 1
       have f3 : w1.cell? ⟨w.heap.size + 1, 2, none⟩ = some (sv bc) := hL1.bd.cell 2)
    | (go_at_call 5; refine (ksb _).mono ?_; rintro e w2 ⟨rfl, hb2⟩; have hL2 := hL1.call hb2))
  have ZC := Lib.hid hMl
  refine wp_region_v 12 11 (SQ w2 lex.length V 1 5 C M) (by kernel_rfl) (by kernel_rfl) ⟨fun _ => undef, SQ.start⟩ ?_
  simp only [List.take_succ_cons, List.take_zero, List.drop_succ_cons, List.drop_zero]
  apply pv_step (fun _ => rfl)
  · intro σ L w1 hS h1 h2 K hK
    clear h2
    have f0 : w1.cell? ⟨w.heap.size, 0, none⟩ = some (.slice A lex.length c) := (hL2.lx.below hS.low hL2.lx.lt).cell 0
    have f1 : w1.cell? ⟨w.heap.size + 1, 0, none⟩ = some (.int .i64 sz) := (hL2.bd.below hS.low hL2.bd.lt).cell 0
    have f2 : w1.cell? ⟨w.heap.size + 1, 1, none⟩ = some (sv bp) := (hL2.bd.below hS.low hL2.bd.lt).cell 1
    have f3 : w1.cell? ⟨w.heap.size + 1, 2, none⟩ = some (sv bc) := (hL2.bd.below hS.low hL2.bd.lt).cell 2
    go_wp2
    exact hS.keep (by decide) (by decide)
  simp only [Act.put, List.setIfInBounds_toArray, List.set_cons_succ, List.set_cons_zero]
  apply pv_free (fun _ => rfl)
  · intro σ L w1 hS h1 h2 K hK
    clear h2
    go_wp2_with (go_at_call 7; refine (ktl _ (hL2.low.trans (hS.low.mono hL2.low.size))).mono ?_; rintro e w5 ⟨v5, rfl, own5, hb5⟩)
    exact hS.putL (by decide) hb5 ⟨v5, rfl, own_base own5 hS.low.size⟩
  simp only [Act.put, List.setIfInBounds_toArray, List.set_cons_succ, List.set_cons_zero]
  apply pv_step (fun _ => rfl)
  · intro σ L w1 hS h1 h2 K hK
    clear h2
    have f0 : w1.cell? ⟨w.heap.size, 0, none⟩ = some (.slice A lex.length c) := (hL2.lx.below hS.low hL2.lx.lt).cell 0
    have f1 : w1.cell? ⟨w.heap.size + 1, 0, none⟩ = some (.int .i64 sz) := (hL2.bd.below hS.low hL2.bd.lt).cell 0
    have f2 : w1.cell? ⟨w.heap.size + 1, 1, none⟩ = some (sv bp) := (hL2.bd.below hS.low hL2.bd.lt).cell 1
    have f3 : w1.cell? ⟨w.heap.size + 1, 2, none⟩ = some (sv bc) := (hL2.bd.below hS.low hL2.bd.lt).cell 2
    go_wp2
    exact hS.keep (by decide) (by decide)
  simp only [Act.put, List.setIfInBounds_toArray, List.set_cons_succ, List.set_cons_zero]
  apply pv_step (v := .agg #[.int .i64 sz, sv bp, sv bc]) (fun _ => rfl)
  · intro σ L w1 hS h1 h2 K hK
    clear h2
    simp only [Act.put, List.setIfInBounds_toArray, List.set_cons_succ, List.set_cons_zero] at hK
    go_wp2_with (go_at_call 8; refine (ktb _).mono ?_; rintro e w5 ⟨rfl, hb5⟩)
    exact (hS.below hb5).keep (by decide) (by decide)
  simp only [Act.put, List.setIfInBounds_toArray, List.set_cons_succ, List.set_cons_zero]
  apply pv_step (fun _ => rfl)
  · intro σ L w1 hS h1 h2 K hK
    clear h2
    go_wp2
    exact hS.keep (by decide) (by decide)
  simp only [Act.put, List.setIfInBounds_toArray, List.set_cons_succ, List.set_cons_zero]
  apply pv_free (fun _ => rfl)
  · intro σ L w1 hS h1 h2 K hK
    have hl := h2 1 (List.contains_iff_mem.1 (by kernel_rfl))
    clear h2
    obtain ⟨vL, eL, ownL⟩ := hS.lex hl
    obtain ⟨A1, c1, rfl, -, hr1, hf1⟩ := own_form ownL
    simp only [eL] at hK ⊢
    go_wp2_with (go_at_call 6; refine (ksp A1 c1 _ hr1).mono ?_; rintro e w5 ⟨v5, rfl, own5, hb5⟩)
    exact hS.putC (.inl (by decide)) h1 hb5 ⟨v5, rfl, own_base own5 hS.low.size⟩
  simp only [Act.put, List.setIfInBounds_toArray, List.set_cons_succ, List.set_cons_zero]
  apply pv_free (fun _ => rfl)
  · intro σ L w1 hS h1 h2 K hK
    have hl := h2 5 (List.contains_iff_mem.1 (by kernel_rfl))
    clear h2
    go_wp2
    exact hS.putM (.inl (by decide)) hl rfl
  simp only [Act.put, List.setIfInBounds_toArray, List.set_cons_succ, List.set_cons_zero]
  apply pv_free (fun _ => rfl)
  · intro σ L w1 hS h1 h2 K hK
    have hl := h2 6 (List.contains_iff_mem.1 (by kernel_rfl))
    clear h2
    obtain ⟨hc, em⟩ := hS.mv hl
    obtain ⟨vC, eC, -⟩ := hS.call hc
    rw [eC] at em
    simp only [em] at hK ⊢
    go_wp2
    exact hS.putE (.inl (by decide)) hc (by rw [eC]; rfl)
  simp only [Act.put, List.setIfInBounds_toArray, List.set_cons_succ, List.set_cons_zero]
  apply pv_step (v := .int .i64 C) (fun _ => rfl)
  · intro σ L w1 hS h1 h2 K hK
    have hl := h2 6 (List.contains_iff_mem.1 (by kernel_rfl))
    clear h2
    obtain ⟨hc, em⟩ := hS.mv hl
    obtain ⟨vC, eC, -⟩ := hS.call hc
    rw [eC] at em
    simp only [em] at hK ⊢
    go_wp2
    exact hS.keep (by decide) (by decide)
  simp only [Act.put, List.setIfInBounds_toArray, List.set_cons_succ, List.set_cons_zero]
  apply pv_free (fun _ => rfl)
  · intro σ L w1 hS h1 h2 K hK
    have hl := h2 7 (List.contains_iff_mem.1 (by kernel_rfl))
    clear h2
    obtain ⟨hc, ee⟩ := hS.e0 hl
    go_wp2
    exact hS.putA (.inl (by decide)) hc ee
  simp only [Act.put, List.setIfInBounds_toArray, List.set_cons_succ, List.set_cons_zero]
  apply pv_step (fun _ => rfl)
  · intro σ L w1 hS h1 h2 K hK
    clear h2
    go_wp2
    exact hS.keep (by decide) (by decide)
  simp only [Act.put, List.setIfInBounds_toArray, List.set_cons_succ, List.set_cons_zero]
  refine pv_nil fun σ w3 hS => ?_
  obtain ⟨vw3, eC, ownw3⟩ := hS.call rfl
  have em := (hS.mv rfl).2
  have ee := (hS.e0 rfl).2
  have ea := (hS.a0 rfl).2
  rw [eC] at em ee ea
  rw [fstV_two] at ee ea
  obtain ⟨vL, eL, -⟩ := hS.lex rfl
  simp only [eL, eC, em, ee, ea]
  have hbw3 := hS.low
  clear hS eC em ee ea eL
  have hL3 := hL2.call hbw3
  obtain ⟨Z, hZ⟩ : ∃ Z, Z = ansL C M := ⟨_, rfl⟩
  rw [← hZ] at ownw3 hMl
  have hZh := Lib.hid hZ
  clear hZ
  obtain ⟨A8, c8, rfl, -, -, -⟩ := own_form ownw3
  clear hbw3
  have f0 : w3.cell? ⟨w.heap.size, 0, none⟩ = some (.slice A lex.length c) := hL3.lx.cell 0
  go_wp2_with (go_at_call 7; refine (ktl _ hL3.low).mono ?_; rintro e w4 ⟨vx, rfl, ownx, hb4⟩; obtain ⟨A1, c1, rfl, -, -, hf1⟩ := own_form ownx)
  have hL4 := hL3.call hb4
  have hbase3 : w.heap.size ≤ w3.heap.size := hL3.low.size
  obtain ⟨gx, hgx⟩ : ∃ gx, gx = w4.heap.size := ⟨_, rfl⟩
  obtain ⟨w5, hw5⟩ : ∃ w5, w5 = w4.alloc (.cells #[.slice A1 lex.length c1] 31) := ⟨_, rfl⟩
  have hb5 : Below w4.heap.size w4 w5 := by rw [hw5]; exact (Below.refl _ _).alloc (Nat.le_refl _) _
  have hx5 : Blk w5 gx 31 #[.slice A1 lex.length c1] := by rw [hw5, hgx]; exact Blk.new _ _ _
  rw [← hw5, ← hgx]
  clear hw5 hgx
  have hL5 := hL4.call hb5
  have ownx5 := own_call ownx hb5
  have own85 := own_call (own_call ownw3 hb4) hb5
  have nx8 := RowsAt.new ownw3 ownx (Nat.le_refl _)
  have hr5 := Reads.of_own ownx5
  have hp5 : Plain0 A1 := fun ad h => by
    obtain ⟨g, rfl⟩ := hf1 ad h
    rfl
  clear hL hL1 hL2 hL3 hL4 hb4 hb5 hb1 hb2 ownx f0 f1 f2 f3
  refine wp_region_v 12 10 (SQ w5 lex.length V 100 4 C M) (by kernel_rfl) (by kernel_rfl) ⟨fun _ => undef, SQ.start⟩ ?_
  simp only [List.take_succ_cons, List.take_zero, List.drop_succ_cons, List.drop_zero]
  apply pv_step (fun _ => rfl)
  · intro σ L w1 hS h1 h2 K hK
    clear h2
    have f0 : w1.cell? ⟨gx, 0, none⟩ = some (.slice A1 lex.length c1) := (hx5.below hS.low hx5.lt).cell 0
    go_wp2
    exact hS.keep (by decide) (by decide)
  simp only [Act.put, List.setIfInBounds_toArray, List.set_cons_succ, List.set_cons_zero]
  apply pv_step (fun _ => rfl)
  · intro σ L w1 hS h1 h2 K hK
    clear h2
    have f0 : w1.cell? ⟨w.heap.size, 0, none⟩ = some (.slice A lex.length c) := (hL5.lx.below hS.low hL5.lx.lt).cell 0
    have f1 : w1.cell? ⟨w.heap.size + 1, 0, none⟩ = some (.int .i64 sz) := (hL5.bd.below hS.low hL5.bd.lt).cell 0
    have f2 : w1.cell? ⟨w.heap.size + 1, 1, none⟩ = some (sv bp) := (hL5.bd.below hS.low hL5.bd.lt).cell 1
    have f3 : w1.cell? ⟨w.heap.size + 1, 2, none⟩ = some (sv bc) := (hL5.bd.below hS.low hL5.bd.lt).cell 2
    go_wp2
    exact hS.keep (by decide) (by decide)
  simp only [Act.put, List.setIfInBounds_toArray, List.set_cons_succ, List.set_cons_zero]
  apply pv_step (v := .agg #[.int .i64 sz, sv bp, sv bc]) (fun _ => rfl)
  · intro σ L w1 hS h1 h2 K hK
    clear h2
    simp only [Act.put, List.setIfInBounds_toArray, List.set_cons_succ, List.set_cons_zero] at hK
    go_wp2_with (go_at_call 8; refine (ktb _).mono ?_; rintro e w5 ⟨rfl, hb5⟩)
    exact (hS.below hb5).keep (by decide) (by decide)
  simp only [Act.put, List.setIfInBounds_toArray, List.set_cons_succ, List.set_cons_zero]
  apply pv_step (fun _ => rfl)
  · intro σ L w1 hS h1 h2 K hK
    clear h2
    go_wp2
    exact hS.keep (by decide) (by decide)
  simp only [Act.put, List.setIfInBounds_toArray, List.set_cons_succ, List.set_cons_zero]
  apply pv_free (fun _ => rfl)
  · intro σ L w1 hS h1 h2 K hK
    clear h2
    go_wp2_with (go_at_call 9; refine (kim A1 c1 _ (hL5.low.trans (hS.low.mono hL5.low.size)) ((hr5.below hS.low).more hS.low.size) hp5).mono ?_; rintro e w6 ⟨v5, rfl, own5, hb5⟩)
    exact hS.putC (.inr (by decide)) h1 hb5 ⟨v5, rfl, own_base own5 hS.low.size⟩
  simp only [Act.put, List.setIfInBounds_toArray, List.set_cons_succ, List.set_cons_zero]
  apply pv_free (fun _ => rfl)
  · intro σ L w1 hS h1 h2 K hK
    have hl := h2 4 (List.contains_iff_mem.1 (by kernel_rfl))
    clear h2
    go_wp2
    exact hS.putM (.inr (by decide)) hl rfl
  simp only [Act.put, List.setIfInBounds_toArray, List.set_cons_succ, List.set_cons_zero]
  apply pv_free (fun _ => rfl)
  · intro σ L w1 hS h1 h2 K hK
    have hl := h2 5 (List.contains_iff_mem.1 (by kernel_rfl))
    clear h2
    obtain ⟨hc, em⟩ := hS.mv hl
    obtain ⟨vC, eC, -⟩ := hS.call hc
    rw [eC] at em
    simp only [em] at hK ⊢
    go_wp2
    exact hS.putE (.inr (by decide)) hc (by rw [eC]; rfl)
  simp only [Act.put, List.setIfInBounds_toArray, List.set_cons_succ, List.set_cons_zero]
  apply pv_step (v := .int .i64 C) (fun _ => rfl)
  · intro σ L w1 hS h1 h2 K hK
    have hl := h2 5 (List.contains_iff_mem.1 (by kernel_rfl))
    clear h2
    obtain ⟨hc, em⟩ := hS.mv hl
    obtain ⟨vC, eC, -⟩ := hS.call hc
    rw [eC] at em
    simp only [em] at hK ⊢
    go_wp2
    exact hS.keep (by decide) (by decide)
  simp only [Act.put, List.setIfInBounds_toArray, List.set_cons_succ, List.set_cons_zero]
  apply pv_free (fun _ => rfl)
  · intro σ L w1 hS h1 h2 K hK
    have hl := h2 6 (List.contains_iff_mem.1 (by kernel_rfl))
    clear h2
    obtain ⟨hc, ee⟩ := hS.e0 hl
    go_wp2
    exact hS.putA (.inr (by decide)) hc ee
  simp only [Act.put, List.setIfInBounds_toArray, List.set_cons_succ, List.set_cons_zero]
  apply pv_step (fun _ => rfl)
  · intro σ L w1 hS h1 h2 K hK
    clear h2
    go_wp2
    exact hS.keep (by decide) (by decide)
  simp only [Act.put, List.setIfInBounds_toArray, List.set_cons_succ, List.set_cons_zero]
  refine pv_nil fun σ w6 hS => ?_
  obtain ⟨vw6, eC, ownw6⟩ := hS.call rfl
  have em := (hS.mv rfl).2
  have ee := (hS.e0 rfl).2
  have ea := (hS.a0 rfl).2
  rw [eC] at em ee ea
  rw [fstV_two] at ee ea
  simp only [eC, em, ee, ea]
  have hbw6 := hS.low
  clear hS eC em ee ea
  rw [← hZh.out] at ownw6
  obtain ⟨A11, c11, rfl, -, -, -⟩ := own_form ownw6
  have hbg : w.heap.size ≤ w5.heap.size := hL5.low.size
  have hL6 := hL5.call hbw6
  have hx6 := hx5.below hbw6 hx5.lt
  have ngx := RowsAt.new ownx5 ownw6 (Nat.le_refl _)
  have ng8 := RowsAt.new own85 ownw6 (Nat.le_refl _)
  have ownx6 := own_call ownx5 hbw6
  have own86 := own_call own85 hbw6
  have keq := fun (B1 B2 : Option Addr) (d1 d2 : Nat) (W : World) (h1 : Reads W W.heap.size 1 B1 Z.length (Z.map sv)) (h2 : Reads W W.heap.size 1 B2 Z.length (Z.map sv)) => eqStringS_any B1 B2 d1 d2 Z Z W h1 h2 (by omega)
  rw [beq_self_eq_true] at keq
  have keqx := fun (B1 B2 : Option Addr) (d1 d2 : Nat) (W : World) (h1 : Reads W W.heap.size 1 B1 lex.length (lex.map sv)) (h2 : Reads W W.heap.size 1 B2 lex.length (lex.map sv)) => eqLexicon_any B1 B2 d1 d2 lex lex W h1 h2 (by omega)
  rw [beq_self_eq_true, ← hVh.out] at keqx
  have hCC : (C != C) = false := by simp
  obtain ⟨ZV, hZV⟩ : ∃ ZV, ZV = Z.map sv := ⟨_, rfl⟩
  rw [← hZV] at keq ownw6 own86
  have hZVh := Lib.hid hZV
  clear hZV
  clear own85 ownx5 hx5 hL5 hbw6 hr5
  go_wp2_with (go_at_call 10; refine (keq _ _ _ _ _ (Reads.of_own ownw6) (Reads.of_own own86)).mono ?_; rintro e w7 ⟨rfl, hb7⟩)
  have hL7 := hL6.call hb7
  have hx7 := hx6.below hb7 hx6.lt
  have ownx7 := own_call ownx6 hb7
  have own87 := own_call own86 hb7
  have owng7 := own_call ownw6 hb7
  clear ownx6 own86 ownw6 hx6 hL6 hb7
  refine wp_region_v 8 5 (SQ w7 lex.length V 2 100 C M) (by kernel_rfl) (by kernel_rfl) ⟨fun _ => undef, SQ.start⟩ ?_
  simp only [List.take_succ_cons, List.take_zero, List.drop_succ_cons, List.drop_zero]
  iterate 2
    apply pv_step (fun _ => rfl)
    · intro σ L w1 hS h1 h2 K hK
      clear h2
      have f0 : w1.cell? ⟨w.heap.size, 0, none⟩ = some (.slice A lex.length c) := (hL7.lx.below hS.low hL7.lx.lt).cell 0
      have f1 : w1.cell? ⟨gx, 0, none⟩ = some (.slice A1 lex.length c1) := (hx7.below hS.low hx7.lt).cell 0
      go_wp2
      exact hS.keep (by decide) (by decide)
    simp only [Act.put, List.setIfInBounds_toArray, List.set_cons_succ, List.set_cons_zero]
  apply pv_free (fun _ => rfl)
  · intro σ L w1 hS h1 h2 K hK
    clear h2
    go_wp2_with (go_at_call 7; refine (ktl _ (hL7.low.trans (hS.low.mono hL7.low.size))).mono ?_; rintro e w5 ⟨v5, rfl, own5, hb5⟩)
    exact hS.putL (by decide) hb5 ⟨v5, rfl, own_base own5 hS.low.size⟩
  simp only [Act.put, List.setIfInBounds_toArray, List.set_cons_succ, List.set_cons_zero]
  apply pv_step (v := .bool true) (fun _ => rfl)
  · intro σ L w1 hS h1 h2 K hK
    have hl := h2 2 (List.contains_iff_mem.1 (by kernel_rfl))
    clear h2
    obtain ⟨vL, eL, ownL⟩ := hS.lex hl
    obtain ⟨A2, c2, rfl, -, -, -⟩ := own_form ownL
    simp only [eL] at hK ⊢
    go_wp2_with (go_at_call 11; refine (keqx _ _ _ _ _ (Reads.of_own (own_call ownx7 hS.low)) (Reads.of_own ownL)).mono ?_; rintro e w5 ⟨rfl, hb5⟩)
    exact (hS.below hb5).keep (by decide) (by decide)
  simp only [Act.put, List.setIfInBounds_toArray, List.set_cons_succ, List.set_cons_zero]
  apply pv_step (fun _ => rfl)
  · intro σ L w1 hS h1 h2 K hK
    clear h2
    go_wp2
    exact hS.keep (by decide) (by decide)
  simp only [Act.put, List.setIfInBounds_toArray, List.set_cons_succ, List.set_cons_zero]
  refine pv_nil fun σ w8 hS => ?_
  obtain ⟨vL, eL, -⟩ := hS.lex rfl
  simp only [eL]
  have hb8 := hS.low
  clear hS eL
  have hL8 := hL7.call hb8
  have hx8 := hx7.below hb8 hx7.lt
  have ownx8 := own_call ownx7 hb8
  have own88 := own_call own87 hb8
  have owng8 := own_call owng7 hb8
  clear hL7 hx7 ownx7 own87 owng7 hb8
  have kml := fun (base : Nat) (W : World) (h : W.ownsRow base 9 1 (.slice A1 lex.length c1) lex.length (lex.map sv)) => markLexicon_any (.slice A1 lex.length c1) lex 1 base W h (by omega) (by decide) (by decide)
  have kms := fun (base : Nat) (W : World) (h : W.ownsRow base 9 1 (.slice A11 Z.length c11) Z.length (Z.map sv)) => markStringS_any (.slice A11 Z.length c11) Z 1 base W h (by omega) (by decide) (by decide)
  have khs := fun (B1 : Option Addr) (d1 : Nat) (W : World) (h : Reads W W.heap.size 1 B1 Z.length ((marks 1 Z.length).map sv)) => heldStringS_any B1 d1 (marks 1 Z.length) 1 W (by rw [marks_length]; exact h) (by rw [marks_length]; omega) (by decide) (by decide)
  rw [← hVh.out] at kml
  rw [← hZVh.out] at kms
  rw [heldB_marks, if_pos rfl, marks_length] at khs
  obtain ⟨MV, hMV⟩ : ∃ MV, MV = (marks 1 Z.length).map sv := ⟨_, rfl⟩
  obtain ⟨MX, hMX⟩ : ∃ MX, MX = (marks 1 lex.length).map sv := ⟨_, rfl⟩
  obtain ⟨R1, hR1⟩ : ∃ R1 : Int, R1 = ((1 + lex.length : Nat) : Int) := ⟨_, rfl⟩
  obtain ⟨R2, hR2⟩ : ∃ R2 : Int, R2 = ((1 + Z.length : Nat) : Int) := ⟨_, rfl⟩
  rw [← hMV, ← hR2] at kms khs
  rw [← hMX, ← hR1] at kml
  have hR1n : ¬ R1 < 0 := by omega
  have hR2n : ¬ R2 < 0 := by omega
  have hRR : (R2 != R2) = false := by simp
  have n8x : Hid (∀ k, (Value.slice A8 Z.length c8).ownBlock = some k → (Value.slice A1 lex.length c1).ownBlock ≠ some k) := Lib.hid (fun k hk e => nx8 k e hk)
  have n8g : Hid (∀ k, (Value.slice A8 Z.length c8).ownBlock = some k → (Value.slice A11 Z.length c11).ownBlock ≠ some k) := Lib.hid (fun k hk e => ng8 k e hk)
  have ngxh := Lib.hid ngx
  have hB3 := hL8.low.size
  clear hMV hMX hR1 hR2 nx8 ng8 ngx
  have hbx : w.heap.size ≤ w3.heap.size := hbase3
  have f1 : w8.cell? ⟨gx, 0, none⟩ = some (.slice A1 lex.length c1) := hx8.cell 0
  go_wp2_with (first
    | (go_at_call 12; refine (kml _ _ ownx8).mono ?_; rintro e w9 ⟨rfl, ownx9, hgx9⟩
       have hL9 := hL8.grow ownx8 hbx (by decide) (by decide) hgx9
       have own89 := own_o own88 n8x.out hgx9
       have owng9 := own_o owng8 ngxh.out hgx9)
    | (go_at_call 10; refine (keq _ _ _ _ _ (Reads.of_own owng9) (Reads.of_own own89)).mono ?_; rintro e w10 ⟨rfl, hb10⟩
       have hL10 := hL9.call hb10
       have own810 := own_call own89 hb10
       have owng10 := own_call owng9 hb10)
    | (go_at_call 13; refine (kms _ _ owng10).mono ?_; rintro e w11 ⟨rfl, owng11, hgg11⟩
       have hL11 := hL10.grow owng10 hbg (by decide) (by decide) hgg11
       have own811 := own_o own810 n8g.out hgg11)
    | (go_at_call 14; refine (khs _ _ _ (Reads.of_own owng11)).mono ?_; rintro e w12 ⟨rfl, hb12⟩
       have hL12 := hL11.call hb12
       have own812 := own_call own811 hb12
       have owng12 := own_call owng11 hb12))
  clear hL8 hL9 hL10 hL11 own88 own89 own810 own811 owng8 owng9 owng10 owng11 ownx8 ownx9 hx8 f1 hgx9 hgg11 hb10 hb12
  refine wp_region_v 12 11 (SQ w12 lex.length V 1 5 C M) (by kernel_rfl) (by kernel_rfl) ⟨fun _ => undef, SQ.start⟩ ?_
  simp only [List.take_succ_cons, List.take_zero, List.drop_succ_cons, List.drop_zero]
  apply pv_step (fun _ => rfl)
  · intro σ L w1 hS h1 h2 K hK
    clear h2
    have f0 : w1.cell? ⟨w.heap.size, 0, none⟩ = some (.slice A lex.length c) := (hL12.lx.below hS.low hL12.lx.lt).cell 0
    have f1 : w1.cell? ⟨w.heap.size + 1, 0, none⟩ = some (.int .i64 sz) := (hL12.bd.below hS.low hL12.bd.lt).cell 0
    have f2 : w1.cell? ⟨w.heap.size + 1, 1, none⟩ = some (sv bp) := (hL12.bd.below hS.low hL12.bd.lt).cell 1
    have f3 : w1.cell? ⟨w.heap.size + 1, 2, none⟩ = some (sv bc) := (hL12.bd.below hS.low hL12.bd.lt).cell 2
    go_wp2
    exact hS.keep (by decide) (by decide)
  simp only [Act.put, List.setIfInBounds_toArray, List.set_cons_succ, List.set_cons_zero]
  apply pv_free (fun _ => rfl)
  · intro σ L w1 hS h1 h2 K hK
    clear h2
    go_wp2_with (go_at_call 7; refine (ktl _ (hL12.low.trans (hS.low.mono hL12.low.size))).mono ?_; rintro e w5 ⟨v5, rfl, own5, hb5⟩)
    exact hS.putL (by decide) hb5 ⟨v5, rfl, own_base own5 hS.low.size⟩
  simp only [Act.put, List.setIfInBounds_toArray, List.set_cons_succ, List.set_cons_zero]
  apply pv_step (fun _ => rfl)
  · intro σ L w1 hS h1 h2 K hK
    clear h2
    have f0 : w1.cell? ⟨w.heap.size, 0, none⟩ = some (.slice A lex.length c) := (hL12.lx.below hS.low hL12.lx.lt).cell 0
    have f1 : w1.cell? ⟨w.heap.size + 1, 0, none⟩ = some (.int .i64 sz) := (hL12.bd.below hS.low hL12.bd.lt).cell 0
    have f2 : w1.cell? ⟨w.heap.size + 1, 1, none⟩ = some (sv bp) := (hL12.bd.below hS.low hL12.bd.lt).cell 1
    have f3 : w1.cell? ⟨w.heap.size + 1, 2, none⟩ = some (sv bc) := (hL12.bd.below hS.low hL12.bd.lt).cell 2
    go_wp2
    exact hS.keep (by decide) (by decide)
  simp only [Act.put, List.setIfInBounds_toArray, List.set_cons_succ, List.set_cons_zero]
  apply pv_step (v := .agg #[.int .i64 sz, sv bp, sv bc]) (fun _ => rfl)
  · intro σ L w1 hS h1 h2 K hK
    clear h2
    simp only [Act.put, List.setIfInBounds_toArray, List.set_cons_succ, List.set_cons_zero] at hK
    go_wp2_with (go_at_call 8; refine (ktb _).mono ?_; rintro e w5 ⟨rfl, hb5⟩)
    exact (hS.below hb5).keep (by decide) (by decide)
  simp only [Act.put, List.setIfInBounds_toArray, List.set_cons_succ, List.set_cons_zero]
  apply pv_step (fun _ => rfl)
  · intro σ L w1 hS h1 h2 K hK
    clear h2
    go_wp2
    exact hS.keep (by decide) (by decide)
  simp only [Act.put, List.setIfInBounds_toArray, List.set_cons_succ, List.set_cons_zero]
  apply pv_free (fun _ => rfl)
  · intro σ L w1 hS h1 h2 K hK
    have hl := h2 1 (List.contains_iff_mem.1 (by kernel_rfl))
    clear h2
    obtain ⟨vL, eL, ownL⟩ := hS.lex hl
    obtain ⟨A1, c1, rfl, -, hr1, hf1⟩ := own_form ownL
    simp only [eL] at hK ⊢
    go_wp2_with (go_at_call 9; refine (kim A1 c1 _ (hL12.low.trans (hS.low.mono hL12.low.size)) hr1 (fun ad h => by obtain ⟨g, rfl⟩ := hf1 ad h; rfl)).mono ?_; rintro e w5 ⟨v5, rfl, own5, hb5⟩)
    exact hS.putC (.inl (by decide)) h1 hb5 ⟨v5, rfl, own_base own5 hS.low.size⟩
  simp only [Act.put, List.setIfInBounds_toArray, List.set_cons_succ, List.set_cons_zero]
  apply pv_free (fun _ => rfl)
  · intro σ L w1 hS h1 h2 K hK
    have hl := h2 5 (List.contains_iff_mem.1 (by kernel_rfl))
    clear h2
    go_wp2
    exact hS.putM (.inl (by decide)) hl rfl
  simp only [Act.put, List.setIfInBounds_toArray, List.set_cons_succ, List.set_cons_zero]
  apply pv_free (fun _ => rfl)
  · intro σ L w1 hS h1 h2 K hK
    have hl := h2 6 (List.contains_iff_mem.1 (by kernel_rfl))
    clear h2
    obtain ⟨hc, em⟩ := hS.mv hl
    obtain ⟨vC, eC, -⟩ := hS.call hc
    rw [eC] at em
    simp only [em] at hK ⊢
    go_wp2
    exact hS.putE (.inl (by decide)) hc (by rw [eC]; rfl)
  simp only [Act.put, List.setIfInBounds_toArray, List.set_cons_succ, List.set_cons_zero]
  apply pv_step (v := .int .i64 C) (fun _ => rfl)
  · intro σ L w1 hS h1 h2 K hK
    have hl := h2 6 (List.contains_iff_mem.1 (by kernel_rfl))
    clear h2
    obtain ⟨hc, em⟩ := hS.mv hl
    obtain ⟨vC, eC, -⟩ := hS.call hc
    rw [eC] at em
    simp only [em] at hK ⊢
    go_wp2
    exact hS.keep (by decide) (by decide)
  simp only [Act.put, List.setIfInBounds_toArray, List.set_cons_succ, List.set_cons_zero]
  apply pv_free (fun _ => rfl)
  · intro σ L w1 hS h1 h2 K hK
    have hl := h2 7 (List.contains_iff_mem.1 (by kernel_rfl))
    clear h2
    obtain ⟨hc, ee⟩ := hS.e0 hl
    go_wp2
    exact hS.putA (.inl (by decide)) hc ee
  simp only [Act.put, List.setIfInBounds_toArray, List.set_cons_succ, List.set_cons_zero]
  apply pv_step (fun _ => rfl)
  · intro σ L w1 hS h1 h2 K hK
    clear h2
    go_wp2
    exact hS.keep (by decide) (by decide)
  simp only [Act.put, List.setIfInBounds_toArray, List.set_cons_succ, List.set_cons_zero]
  refine pv_nil fun σ w13 hS => ?_
  obtain ⟨vw13, eC, ownw13⟩ := hS.call rfl
  have em := (hS.mv rfl).2
  have ee := (hS.e0 rfl).2
  have ea := (hS.a0 rfl).2
  rw [eC] at em ee ea
  rw [fstV_two] at ee ea
  obtain ⟨vL, eL, -⟩ := hS.lex rfl
  simp only [eL, eC, em, ee, ea]
  have hbw13 := hS.low
  clear hS eC em ee ea eL
  rw [← hZh.out, ← hZVh.out] at ownw13
  obtain ⟨A16, c16, rfl, -, -, -⟩ := own_form ownw13
  have own813 := own_call own812 hbw13
  have owng13 := own_call owng12 hbw13
  have hL13 := hL12.call hbw13
  clear hL12 own812 owng12 hbw13
  go_wp2_with (first
    | (go_at_call 10; refine (keq _ _ _ _ _ (Reads.of_own ownw13) (Reads.of_own own813)).mono ?_; rintro e w14 ⟨rfl, hb14⟩
       have hL14 := hL13.call hb14
       have owng14 := own_call owng13 hb14)
    | (go_at_call 14; refine (khs _ _ _ (Reads.of_own owng14)).mono ?_; rintro e w15 ⟨rfl, hb15⟩
       have hL15 := hL14.call hb15))
  go_ret
  exact ⟨rfl, hL15.low⟩
end Go.Proofs.YtamdcbbclkobiaaGreatDoor
/-
  The walk of the law FnExactMainWords at every argument (the laws package).
  Conditions: the words' slice reads as a list of strings; the library's variable MaxLen reads as a number.
-/
namespace Go.Proofs.YtamdcbbclkobiaaGreatDoor
open Go.RowKit RegP RegL RegV
set_option maxHeartbeats 2000000
set_option maxRecDepth 100000

theorem law_any (A : Option Addr) (c : Nat) (lex : List Str) (b : Bd) (rack : Str) (w : World) (hm : MaxOk w) (hr : Reads w w.heap.size 1 A lex.length (lex.map sv)) (hln : lex.length ≤ 9223372036854775807) (hls : ∀ x ∈ lex, x.length ≤ 9223372036854775807) (hbp : b.prem.length ≤ 9223372036854775807) (hbc : b.cells.length ≤ 9223372036854775807) :
    Calls Tryz.prog 3 #[.agg #[.slice A lex.length c], b.v, sv rack] w fun e w' => e = .returned (.bool true) ∧ Below w.heap.size w w' := by
  have hb0 : Below w.heap.size w ((w.alloc (.cells #[.slice A lex.length c] 24)).alloc (.cells #[.int .i64 b.size, sv b.prem, sv b.cells] 26)) := ((Below.refl _ _).alloc (Nat.le_refl _) _).alloc (by simp) _
  by_cases hrk : rack.length ≤ 2 ^ 20
  · have hge := szS_ge lex (2 ^ 20)
    by_cases h1 : 0 ≤ szS lex (2 ^ 20)
    · obtain ⟨g1, g2, g3⟩ := szS_bd h1
      by_cases h2 : 0 ≤ szB b (szS lex (2 ^ 20))
      · exact law_main A c lex b rack w hm hr (by omega) (fun x hx => by have := g2 x hx; omega) hrk _ rfl h1 g3 _ rfl h2
      · have ksl := fun (W : World) (hW : Below w.heap.size w W) => szLexicon_any A c lex (2 ^ 20) W ((hr.below hW).more hW.size) hln hls (by decide) (by decide)
        have ksb := fun W => szBoard_any b (szS lex (2 ^ 20)) W h1 (by omega) hbp hbc
        obtain ⟨l1, hl1⟩ : ∃ l1, l1 = szS lex (2 ^ 20) := ⟨_, rfl⟩
        rw [← hl1] at ksl ksb h1 h2
        obtain ⟨l3, hl3⟩ : ∃ l3, l3 = szB b l1 := ⟨_, rfl⟩
        rw [← hl3] at ksb h2
        have h2' : l3 < 0 := by omega
        have h1' : ¬ l1 < 0 := by omega
        have hrk' : ¬ (1048576 : Int) < (rack.length : Int) := by omega
        clear hl1 hl3 hge g1 g2 g3 hr hls hbp hbc
        obtain ⟨sz, bp, bc⟩ := b
        simp only [Bd.v] at *
        obtain ⟨W, hW⟩ : ∃ W, W = (w.alloc (.cells #[.slice A lex.length c] 24)).alloc (.cells #[.int .i64 sz, sv bp, sv bc] 26) := ⟨_, rfl⟩
        have hB : Blk W (w.heap.size + 1) 26 #[.int .i64 sz, sv bp, sv bc] := by rw [hW]; exact Blk.new1 w _ _ _
        rw [← hW] at hb0
        go_enter Tryz.func3, Tryz.ntmps3
        go_wp2_with (first
          | (go_at_call 4; rw [← hW]; refine (ksl _ hb0).mono ?_; rintro e w1 ⟨rfl, hb1⟩
             have hB1 := hB.below hb1 hB.lt
             have f1 : w1.cell? ⟨w.heap.size + 1, 0, none⟩ = some (.int .i64 sz) := hB1.cell 0
             have f2 : w1.cell? ⟨w.heap.size + 1, 1, none⟩ = some (sv bp) := hB1.cell 1
             have f3 : w1.cell? ⟨w.heap.size + 1, 2, none⟩ = some (sv bc) := hB1.cell 2
             have ht1 := hb0.trans (hb1.mono hb0.size))
          | (go_at_call 5; refine (ksb _).mono ?_; rintro e w2 ⟨rfl, hb2⟩; have ht2 := ht1.trans (hb2.mono ht1.size)))
        go_ret
        exact ⟨rfl, ht2⟩
    · have ksl := fun (W : World) (hW : Below w.heap.size w W) => szLexicon_any A c lex (2 ^ 20) W ((hr.below hW).more hW.size) hln hls (by decide) (by decide)
      obtain ⟨l1, hl1⟩ : ∃ l1, l1 = szS lex (2 ^ 20) := ⟨_, rfl⟩
      rw [← hl1] at ksl h1
      have h1' : l1 < 0 := by omega
      have hrk' : ¬ (1048576 : Int) < (rack.length : Int) := by omega
      clear hl1 hge hr hls hbp hbc
      obtain ⟨sz, bp, bc⟩ := b
      simp only [Bd.v] at *
      obtain ⟨W, hW⟩ : ∃ W, W = (w.alloc (.cells #[.slice A lex.length c] 24)).alloc (.cells #[.int .i64 sz, sv bp, sv bc] 26) := ⟨_, rfl⟩
      rw [← hW] at hb0
      go_enter Tryz.func3, Tryz.ntmps3
      go_wp2_with (go_at_call 4; rw [← hW]; refine (ksl _ hb0).mono ?_; rintro e w1 ⟨rfl, hb1⟩; have ht1 := hb0.trans (hb1.mono hb0.size))
      go_ret
      exact ⟨rfl, ht1⟩
  · have hrk' : (1048576 : Int) < (rack.length : Int) := by omega
    obtain ⟨sz, bp, bc⟩ := b
    simp only [Bd.v] at *
    go_enter Tryz.func3, Tryz.ntmps3
    go_wp2_with (fail)
    go_ret
    exact ⟨rfl, hb0⟩
end Go.Proofs.YtamdcbbclkobiaaGreatDoor
/-
  FnExactMainWords: whatever the arguments, the law returns true and they read as they did (the row's statement).
  Conditions: none of ours; what the row lists reads as the program's text lays it.
-/
namespace Go.Proofs.YtamdcbbclkobiaaGreatDoor
open Go.ChangeShapes Go.WideShapes Go.ChangeAt Go.RowKit Go.Joins
open Go.ChangeMaps (open_string shut_string)
set_option maxRecDepth 100000

/-- The row's wrap, the world's shape and the listed variables handed on. -/
theorem change_shaped_and {H : Type} {enc : TypeId × Value → H} {a : Assume} {C : Checked} {os : Os} {f : FuncId} {fn : Func} {s : ChangeSpec} {conds : List PathCond} {apart fresh handsOn again : Bool} {X : World → Array Value → Prop}
    (hX : ∀ (w w' : World) (args : Array Value), w.heap = w'.heap → X w args → X w' args)
    (own : ownKnob C.prog.godebug = none) (started : os.Started) (noInit : C.prog.inits.idxOf? f = none) (hfn : C.prog.funcs[f]? = some fn)
    (witness : ∃ (w : World) (tape : Tape) (i : Input), w.os = os ∧ (w.forCall tape i).Shaped C.prog ∧ i.vars = [] ∧ Input.okWide C.prog (w.forCall tape i) .any w.heap.size f i ∧
      ((s.pre enc C.prog fn conds apart (w.forCall tape i).memory i.args ∧ X (w.forCall tape i).memory i.args) ∧ sizedMet enc C.prog fn (OpenSpec.ofChange s) apart (w.forCall tape i).memory i.args) ∧ a.holds C.prog (lone (Frame.enter C.prog f i.args .normal) [] (w.forCall tape i)))
    (contract : ∀ (W : World) (base : Nat) (args : Array Value) (ds gs : List (DataW H)) (before : List MemPlace),
      (∀ (j : Nat) t v, fn.params[j]? = some t → args[j]? = some v → Value.okWide C.prog W .any base t v) →
      DataW.Whole enc C.prog fn.params.toList s.vars apart W args.toList ds gs before →
      W.ShapedOpen C.prog → X W args →
      Calls C.prog f args W fun e W' => ∃ v, e = .returned v ∧ s.post enc C.prog fn apart fresh handsOn again W args v W') :
    ReturnsInHanded a C os f .any (fun w args => (s.pre enc C.prog fn conds apart w args ∧ X w args) ∧ sizedMet enc C.prog fn (OpenSpec.ofChange s) apart w args) (s.post enc C.prog fn apart fresh handsOn again) := by
  refine returnsInHanded_of_calls own started noInit witness ?_
  intro w tape i _ hsh _ hok hpre _
  obtain ⟨_, _, _, fn', hfn', _, _, _, _, hval⟩ := hok
  have e : fn' = fn := Option.some.inj (hfn'.symm.trans hfn)
  subst e
  obtain ⟨⟨⟨ds, gs, before, hw, _⟩, hx⟩, _⟩ := hpre
  have hw' := DataW.Whole.of_heap (w' := w.forCall tape i) (by rfl) hw
  refine (contract (w.forCall tape i) w.heap.size i.args ds gs before hval hw' hsh (hX _ _ _ (by rfl) hx)).mono fun e W' ⟨v, he, hp⟩ => ?_
  subst he
  exact ChangeSpec.post_blind hp
theorem max_shaped {W : World} (h : W.ShapedOpen Tryz.prog) : MaxOk W :=
  cell_of_shapedOpen_int (g := 1) (t := 3) (zero := #[.int .i64 0]) (k := .i64) h (of_decide_eq_true (by kernel_rfl)) (by kernel_rfl) rfl (by kernel_rfl) (by kernel_rfl) Tryz.underlying3
theorem ownM : ownKnob Tryz.prog.godebug = none := by kernel_rfl
theorem laidOutM : laidOutB Tryz.prog = true := by kernel_rfl
theorem bytes_back (s : ByteArray) : (⟨s.data.toList.toArray⟩ : ByteArray) = s := by
  obtain ⟨⟨l⟩⟩ := s
  rfl
/-- A lexicon that came in reads as a list of strings. -/
theorem open_lex {H : Type} {enc : TypeId × Value → H} {W : World} {base : Nat} {v : Value} {d : DataW H} {p : List MemPlace} (hv : Value.okWide Tryz.prog W .any base 24 v) (h : DataW.Trod enc Tryz.prog W 0 (fun _ => true) true 24 v d p) :
    ∃ (A : Option Addr) (c : Nat) (lex : List Str), v = .agg #[.slice A lex.length c] ∧ Reads W W.heap.size 1 A lex.length (lex.map sv) ∧ lex.length ≤ 9223372036854775807 ∧ ∀ x ∈ lex, x.length ≤ 9223372036854775807 := by
  obtain ⟨cs, rfl, hsz⟩ := okWide_struct Tryz.underlying24 hv
  have hc1 : Tryz.prog.cellsOf 24 = 1 := by kernel_rfl
  have hc22 : Tryz.prog.cellsOf 22 = 1 := by kernel_rfl
  rw [hc1] at hsz
  obtain ⟨l⟩ := cs
  match l, hsz with
  | [c0], _ =>
    obtain ⟨fuel, hf⟩ := h
    obtain ⟨y0, n, _, _, hy⟩ := trod_struct1 Tryz.underlying24 hf
    have hy' : DataW.trod enc Tryz.prog W 0 (fun _ => true) true n 22 [c0] = some y0 := by simpa [Value.cells, hc22] using hy
    rcases Deep.open_strs Tryz.underlying22 Tryz.underlying9 (by kernel_rfl) hy' with ⟨h1, _⟩ | ⟨a, len, cap, m, Sx, h1, _, hlc, hcm, hm, _, hcell⟩
    · obtain rfl : c0 = .slice none 0 0 := by injection h1
      exact ⟨none, 0, [], rfl, ⟨rfl, fun h => absurd h (by simp)⟩, by simp, fun x hx => by cases hx⟩
    · obtain rfl : c0 = .slice (some a) len cap := by injection h1
      have hlm : len ≤ m := by rw [hm]; simp; exact hlc
      refine ⟨some a, cap, (List.range len).map fun i => (Sx i).data.toList, by simp, ⟨by simp, fun h0 => ?_⟩, ?_, fun x hx => ?_⟩
      · have hl0 : 0 < len := by simpa using h0
        have hlt : a.block < W.heap.size := by
          have := World.block_lt_of_cell? W _ (hcell 0 (by omega)).1
          rwa [block_of_add] at this
        refine ⟨a, rfl, hlt, fun j u hu => ?_⟩
        have hj : j < len := by
          have := (List.getElem?_eq_some_iff.1 hu).1
          simpa using this
        rw [List.getElem?_map, List.getElem?_map, List.getElem?_range hj] at hu
        simp only [Option.map_some, Option.some.injEq] at hu
        rw [← hu, (hcell j (by omega)).1]
      · have hcm' : cap ≤ 9223372036854775807 := hcm
        rw [List.length_map, List.length_range]
        exact Nat.le_trans hlc hcm'
      · obtain ⟨i, hi, rfl⟩ := List.mem_map.1 hx
        have h2 : (Sx i).size ≤ 9223372036854775807 := (hcell i (by have := List.mem_range.1 hi; omega)).2
        exact h2
/-- A board that came in. -/
theorem open_bd {H : Type} {enc : TypeId × Value → H} {W : World} {base : Nat} {v : Value} {d : DataW H} {p : List MemPlace} (hv : Value.okWide Tryz.prog W .any base 26 v) (h : DataW.Trod enc Tryz.prog W 0 (fun _ => true) true 26 v d p) :
    ∃ b : Bd, v = b.v ∧ b.prem.length ≤ 9223372036854775807 ∧ b.cells.length ≤ 9223372036854775807 := by
  obtain ⟨c0, c1, c2, y0, y1, y2, m, rfl, _, _, hy0, hy1, hy2⟩ := open_agg3 Tryz.underlying26 (by kernel_rfl) (by kernel_rfl) hv h
  obtain ⟨k, e0, _, _⟩ := DataW.trod_int Tryz.underlying2 hy0
  obtain ⟨s1, e1, _, w1⟩ := DataW.trod_string Tryz.underlying9 hy1
  obtain ⟨s2, e2, _, w2⟩ := DataW.trod_string Tryz.underlying9 hy2
  injection e0 with e0
  injection e1 with e1
  injection e2 with e2
  subst e0 e1 e2
  exact ⟨⟨k, s1.data.toList, s2.data.toList⟩, rfl, w1, w2⟩
theorem lifted (os : Os) (started : os.Started) (H : Type) (enc : TypeId × Value → H) :
    ReturnsInHanded {} Tryz.checked os 3 .any (fun w args => (Rows.fnExactMainWordsSpec.pre enc Tryz.prog Tryz.f3 [] false w args ∧ laidMetH Tryz.prog Rows.fnExactMainWordsRow.laid w) ∧ sizedMet enc Tryz.prog Tryz.f3 (OpenSpec.ofChange Rows.fnExactMainWordsSpec) false w args)
      (Rows.fnExactMainWordsSpec.post enc Tryz.prog Tryz.f3 false true false false) := by
  refine change_shaped_and (C := Tryz.checked) (X := fun w _ => laidMetH Tryz.prog Rows.fnExactMainWordsRow.laid w) (fun _ _ _ hh h => h.of_heap hh) ownM started (by kernel_rfl) Tryz.func3
    (ChangeSpec.witness_shaped (enc := enc) (C := Tryz.checked) (os := os) (X := fun w _ => laidMetH Tryz.prog Rows.fnExactMainWordsRow.laid w) false (World.laidAll Tryz.prog os Rows.fnExactMainWordsRow.laid) #[.agg #[.slice none 0 0], .agg #[.int .i64 0, .string ⟨#[]⟩, .string ⟨#[]⟩], .string ⟨#[]⟩] 8 (World.laidAll_os _ _ _)
      (World.shaped_of_ZipB (by kernel_rfl) (by kernel_rfl)) (by kernel_rfl) (by kernel_rfl) (by kernel_rfl)
      (by rw [MakeChecks.laidMetH_plain _ _ _ (by kernel_rfl)]; exact laidMet_laidAll _ (by kernel_rfl) (by kernel_rfl))) ?_
  intro W base args ds gs before hval0 hW hsh _
  have hval : ∀ (j : Nat) t v, Tryz.f3.params[j]? = some t → args[j]? = some v → Value.okWide Tryz.prog W .any base t v := hval0
  have hW' := hW
  obtain ⟨p, q, hA0, hV, rfl, _, _⟩ := hW
  have hA : DataW.TrodAll enc Tryz.prog W 0 (fun _ => true) true Tryz.f3.params.toList args.toList ds p := hA0
  rw [Tryz.params3] at hA hval
  have hlt := DataW.TrodAll.lt hA
  obtain ⟨v0, v1, v2, d0, d1, d2, p0, p1, p2, rfl, rfl, rfl, h0, h1, h2⟩ := trodAll_three hA
  obtain ⟨rfl, rfl⟩ := trodVars_none hV
  obtain ⟨A, c, lex, rfl, hr, hll, hls⟩ := open_lex (hval 0 24 v0 rfl rfl) h0
  obtain ⟨b, rfl, hbp, hbc⟩ := open_bd (hval 1 26 v1 rfl rfl) h1
  obtain ⟨s, hs⟩ : ∃ s : ByteArray, v2 = .string s := okWide_string Tryz.underlying9 (hval 2 9 v2 rfl rfl)
  subst hs
  simp only [List.append_nil] at hW'
  have hl0 : ∀ x ∈ p0, x.block < W.heap.size := fun x hx => hlt x (by simp [hx])
  have hl1 : ∀ x ∈ p1, x.block < W.heap.size := fun x hx => hlt x (by simp [hx])
  have hl2 : ∀ x ∈ p2, x.block < W.heap.size := fun x hx => hlt x (by simp [hx])
  refine Calls.mono (law_any A c lex b s.data.toList W (max_shaped hsh) hr hll hls hbp hbc) fun e W' ⟨he, hb⟩ => ?_
  subst he
  exact ⟨_, rfl, _, _, _, [], _, [], hW', trodAll_mk1 (shut_bool Tryz.underlying4 _),
    trodAll_mk3 (Below.trod laidOutM (by kernel_rfl) (of_decide_eq_true (by kernel_rfl)) h0 hb hl0) (Below.trod laidOutM (by kernel_rfl) (of_decide_eq_true (by kernel_rfl)) h1 hb hl1) (Below.trod laidOutM (by kernel_rfl) (of_decide_eq_true (by kernel_rfl)) h2 hb hl2), rfl, hb.frame _, fun h => by cases h⟩
theorem fnExactMainWords_holds : Rows.FnExactMainWordsSaid :=
  OpenClaim.holds_of_wide 3 Tryz.f3 rfl rfl rfl rfl rfl rfl rfl ⟨rfl, rfl, rfl, rfl, rfl⟩ rfl rfl rfl rfl rfl (by kernel_rfl) Tryz.func3 (by kernel_rfl)
    (of_decide_eq_true (by kernel_rfl)) (by unfold Func.isWrapper; first | (rw [if_pos (by decide +kernel)]; kernel_rfl) | (rw [if_neg (by decide +kernel)]; exact ⟨rfl, rfl⟩))
    (fun os started H enc _ => lifted os started H enc)
#print axioms fnExactMainWords_holds
end Go.Proofs.YtamdcbbclkobiaaGreatDoor
