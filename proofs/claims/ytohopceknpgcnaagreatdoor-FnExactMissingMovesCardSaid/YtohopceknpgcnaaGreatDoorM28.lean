/-
  Contract: TryMoves of the impl package (layer 16); Contracts: moves in a list (layer 16 of both packages); slices.Index, slices.Contains at moves; Contracts: moves in a list (layer 16 of both packages); slices.Index, slices.Contains at moves; Contracts: MissingMoves of both packages (layer 16).
  Conditions: strings of common size; the slices lie in memory; the library's variable MaxLen reads as a number; the slice reads as a list of moves.
-/
import Derived.Test.YtohopceknpgcnaaGreatDoorM26
import Derived.Test.YtohopceknpgcnaaGreatDoorM27
import Derived.Test.YtohopceknpgcnaaGreatDoorM21
import Derived.Laws.StructEq
import Derived.DeepKeys
import Derived.Test.YtohopceknpgcnaaGreatDoorM23
namespace Go.Proofs.YtohopceknpgcnaaGreatDoor
open Go.RowKit RegP RegL RegV
set_option maxHeartbeats 2000000
set_option maxRecDepth 100000
theorem play_bd {b : Bd} {q : Pl} (hf : b.Fit) (hon : OnQ b q) (h : 0 < q.word.length) : (0 ≤ q.row ∧ q.row ≤ 14) ∧ 0 ≤ q.col ∧ q.col ≤ 14 := by
 have h1 := hon 0 h
 obtain ⟨⟨r0, r1⟩, c0, c1⟩ := inB_iff.1 h1
 have h15 := hf.hi
 unfold Pl.sr Pl.sc at *
 cases hd : q.down <;> rw [hd] at r0 r1 c0 c1 <;> simp at r0 r1 c0 c1 <;> omega
theorem scoreOne (t : TS) (A1 A2 : Option Addr) (c1 c2 : Nat) (b : Bd) (lex : List Str) (rack : Str) (ho : TsOk t) (hbd : bdB b = true) (q : Pl) (hq : q ∈ playsL b lex rack) (w : World) (hi : TsIn w t A1 A2) :
   Calls Tryz.prog 34 #[t.v A1 c1 A2 c2, b.v, q.v] w fun e w' => e = .returned (.int .i64 (scoreS t (flatB b q) (flatP q))) ∧ Below w.heap.size w w' := by
 have hok : okB b q = true := by
   have h := playsL_legal q hq
   unfold legalC at h
   by_cases ho : okB b q = true
   · exact ho
   · rw [if_neg ho] at h; cases h
 have hv : validI b q = true := by rw [← okB_validI hbd]; exact hok
 obtain ⟨hon, hw, h2, h12⟩ := validI_facts hv
 obtain ⟨⟨r0, r1⟩, c0, c1'⟩ := play_bd (bdB.fit hbd) hon (by omega)
 rw [score_same hbd hv]
 exact scorePlay_any t A1 A2 c1 c2 b q w hi ho (bdB.fit hbd) (lettB_ascii hw) hon (by omega) (by omega) (by omega) (by omega) (by omega)
theorem iTryMoves_bad (A : Option Addr) (c : Nat) (lex : List Str) (t : TS) (A1 A2 : Option Addr) (c1 c2 : Nat) (b : Bd) (rack : Str) (w : World) (C : Int) (hC : C ≠ 0) (hC1 : movesCode t b lex rack = C) (htb : tsB t = true)
   (kv : ∀ W, Below w.heap.size w W → Calls Tryz.prog 32 #[t.v A1 c1 A2 c2] W fun e w' => e = .returned (.bool (tsB t)) ∧ Below W.heap.size W w')
   (kt : ∀ W, Below w.heap.size w W → Calls Tryz.prog 33 #[.agg #[.slice A lex.length c], b.v, sv rack] W fun e w' => e = .returned (.tuple #[.slice none 0 0, .int .i64 C]) ∧ Below W.heap.size W w') :
   Calls Tryz.prog 13 #[.agg #[.slice A lex.length c], t.v A1 c1 A2 c2, b.v, sv rack] w (MovesPost w t b lex rack) := by
 rw [htb] at kv
 have hend : Hid (∀ w', Below w.heap.size w w' → MovesPost w t b lex rack (.returned (.tuple #[.slice none 0 0, .int .i64 C])) w') := Lib.hid (fun w' h => MovesPost.no hC1 hC h)
 obtain ⟨Ps, hPs⟩ : ∃ Ps, Ps = MovesPost w t b lex rack := ⟨_, rfl⟩
 rw [← hPs] at hend ⊢
 clear hPs hC1 htb
 have hne : (C != 0) = true := by simpa using hC
 have hne2 : (C == 0) = false := by simpa using hC
 obtain ⟨sz, bp, bc⟩ := b
 simp only [Bd.v, TS.v] at *
 obtain ⟨W, hW⟩ : ∃ W, W = ((w.alloc (.cells #[.slice A lex.length c] 36)).alloc (.cells #[sv t.letters, .slice A1 t.values.length c1, .slice A2 t.counts.length c2, .int .i64 t.blanks] 38)).alloc (.cells #[.int .i64 sz, sv bp, sv bc] 40) := ⟨_, rfl⟩
 have hb : Below w.heap.size w W := by rw [hW]; exact (((Below.refl _ _).alloc (Nat.le_refl _) _).alloc (by simp) _).alloc (by simp; omega) _
 have hL : Blk W w.heap.size 36 #[.slice A lex.length c] := by rw [hW]; exact ((Blk.new w _ _).alloc _).alloc _
 have hB : Blk W (w.heap.size + 1 + 1) 40 #[.int .i64 sz, sv bp, sv bc] := by rw [hW]; exact Blk.new2 w _ _ _ _
 go_enter Tryz.func13, Tryz.ntmps13
 go_wp2_with (first
   | (go_at_call 32; rw [← hW]; refine (kv _ hb).mono ?_; rintro e w1 ⟨rfl, hb1⟩
      have hL1 := hL.below hb1 hL.lt
      have hB1 := hB.below hb1 hB.lt
      have hw1 := hb.trans (hb1.mono hb.size)
      have x0 : w1.cell? ⟨w.heap.size, 0, none⟩ = some (.slice A lex.length c) := hL1.cell 0
      have x1 : w1.cell? ⟨w.heap.size + 1 + 1, 0, none⟩ = some (.int .i64 sz) := hB1.cell 0
      have x2 : w1.cell? ⟨w.heap.size + 1 + 1, 1, none⟩ = some (sv bp) := hB1.cell 1
      have x3 : w1.cell? ⟨w.heap.size + 1 + 1, 2, none⟩ = some (sv bc) := hB1.cell 2)
   | (go_at_call 33; refine (kt _ hw1).mono ?_; rintro e w2 ⟨rfl, hb2⟩))
 exact hend.out _ (hw1.trans (hb2.mono hw1.size))
theorem iTryMoves_no (A : Option Addr) (c : Nat) (lex : List Str) (t : TS) (A1 A2 : Option Addr) (c1 c2 : Nat) (b : Bd) (rack : Str) (w : World) (htb : tsB t = false)
   (kv : ∀ W, Below w.heap.size w W → Calls Tryz.prog 32 #[t.v A1 c1 A2 c2] W fun e w' => e = .returned (.bool (tsB t)) ∧ Below W.heap.size W w') :
   Calls Tryz.prog 13 #[.agg #[.slice A lex.length c], t.v A1 c1 A2 c2, b.v, sv rack] w (MovesPost w t b lex rack) := by
 have hC1 : movesCode t b lex rack = 1 := by unfold movesCode; rw [htb]; rfl
 rw [htb] at kv
 have hend : Hid (∀ w', Below w.heap.size w w' → MovesPost w t b lex rack (.returned (.tuple #[.slice none 0 0, .int .i64 1])) w') := Lib.hid (fun w' h => MovesPost.no hC1 (by decide) h)
 obtain ⟨Ps, hPs⟩ : ∃ Ps, Ps = MovesPost w t b lex rack := ⟨_, rfl⟩
 rw [← hPs] at hend ⊢
 clear hPs hC1 htb
 obtain ⟨sz, bp, bc⟩ := b
 simp only [Bd.v, TS.v] at *
 obtain ⟨W, hW⟩ : ∃ W, W = ((w.alloc (.cells #[.slice A lex.length c] 36)).alloc (.cells #[sv t.letters, .slice A1 t.values.length c1, .slice A2 t.counts.length c2, .int .i64 t.blanks] 38)).alloc (.cells #[.int .i64 sz, sv bp, sv bc] 40) := ⟨_, rfl⟩
 have hb : Below w.heap.size w W := by rw [hW]; exact (((Below.refl _ _).alloc (Nat.le_refl _) _).alloc (by simp) _).alloc (by simp; omega) _
 go_enter Tryz.func13, Tryz.ntmps13
 go_wp2_with (go_at_call 32; rw [← hW]; refine (kv _ hb).mono ?_; rintro e w1 ⟨rfl, hb1⟩)
 exact hend.out _ (hb.trans (hb1.mono hb.size))
theorem iTryMoves_good (A : Option Addr) (c : Nat) (lex : List Str) (t : TS) (A1 A2 : Option Addr) (c1 c2 : Nat) (b : Bd) (rack : Str) (w : World) (hC : movesCode t b lex rack = 0) (hpl : (playsL b lex rack).length ≤ 400) (hi : TsIn w t A1 A2) (htb : tsB t = true)
   (ks : ∀ q ∈ playsL b lex rack, ∀ W, TsIn W t A1 A2 → Calls Tryz.prog 34 #[t.v A1 c1 A2 c2, b.v, q.v] W fun e w' => e = .returned (.int .i64 (scoreS t (flatB b q) (flatP q))) ∧ Below W.heap.size W w')
   (kv : ∀ W, Below w.heap.size w W → Calls Tryz.prog 32 #[t.v A1 c1 A2 c2] W fun e w' => e = .returned (.bool (tsB t)) ∧ Below W.heap.size W w')
   (kt : ∀ W, Below w.heap.size w W → Calls Tryz.prog 33 #[.agg #[.slice A lex.length c], b.v, sv rack] W fun e w' => (∃ v, w'.ownsRow W.heap.size 69 4 v (playsL b lex rack).length (psC (playsL b lex rack)) ∧ e = .returned (.tuple #[v, .int .i64 0])) ∧ Below W.heap.size W w') :
   Calls Tryz.prog 13 #[.agg #[.slice A lex.length c], t.v A1 c1 A2 c2, b.v, sv rack] w (MovesPost w t b lex rack) := by
 rw [htb] at kv
 have hend : Hid (∀ v w', w'.ownsRow w.heap.size 72 5 v (movesL t b lex rack).length (mvsC (movesL t b lex rack)) → Below w.heap.size w w' → MovesPost w t b lex rack (.returned (.tuple #[v, .int .i64 0])) w') := Lib.hid (fun v w' h1 h2 => MovesPost.yes hC h1 h2)
 have hstep : Hid (∀ k (h : k < (playsL b lex rack).length), (movesL t b lex rack).take (k + 1) = (movesL t b lex rack).take k ++ [((playsL b lex rack)[k], scoreS t (flatB b (playsL b lex rack)[k]) (flatP (playsL b lex rack)[k]))]) := Lib.hid (movesL_take t b lex rack)
 have hmlen := movesL_length t b lex rack
 have ks' := Lib.hid ks
 obtain ⟨Ps, hPs⟩ : ∃ Ps, Ps = MovesPost w t b lex rack := ⟨_, rfl⟩
 rw [← hPs] at hend ⊢
 obtain ⟨P, hP⟩ : ∃ P, P = playsL b lex rack := ⟨_, rfl⟩
 rw [← hP] at hpl hmlen hstep ks' kt
 obtain ⟨M, hM⟩ : ∃ M, M = movesL t b lex rack := ⟨_, rfl⟩
 rw [← hM] at hmlen hstep hend
 obtain ⟨SS, hSS⟩ : ∃ SS : Pl → Int, SS = fun q => scoreS t (flatB b q) (flatP q) := ⟨_, rfl⟩
 have hSS' : ∀ q, scoreS t (flatB b q) (flatP q) = SS q := fun q => by rw [hSS]
 simp only [hSS'] at hstep ks'
 have hmlen' := Lib.hid hmlen
 clear hPs hP hM hSS hSS' hC htb ks hmlen
 obtain ⟨sz, bp, bc⟩ := b
 simp only [Bd.v, TS.v] at *
 obtain ⟨W, hW⟩ : ∃ W, W = ((w.alloc (.cells #[.slice A lex.length c] 36)).alloc (.cells #[sv t.letters, .slice A1 t.values.length c1, .slice A2 t.counts.length c2, .int .i64 t.blanks] 38)).alloc (.cells #[.int .i64 sz, sv bp, sv bc] 40) := ⟨_, rfl⟩
 have hb : Below w.heap.size w W := by rw [hW]; exact (((Below.refl _ _).alloc (Nat.le_refl _) _).alloc (by simp) _).alloc (by simp; omega) _
 have hL : Blk W w.heap.size 36 #[.slice A lex.length c] := by rw [hW]; exact ((Blk.new w _ _).alloc _).alloc _
 have hT : Blk W (w.heap.size + 1) 38 #[sv t.letters, .slice A1 t.values.length c1, .slice A2 t.counts.length c2, .int .i64 t.blanks] := by rw [hW]; exact (Blk.new1 w _ _ _).alloc _
 have hB : Blk W (w.heap.size + 1 + 1) 40 #[.int .i64 sz, sv bp, sv bc] := by rw [hW]; exact Blk.new2 w _ _ _ _
 go_enter Tryz.func13, Tryz.ntmps13
 go_wp2_with (first
   | (go_at_call 32; rw [← hW]; refine (kv _ hb).mono ?_; rintro e w1 ⟨rfl, hb1⟩
      have hL1 := hL.below hb1 hL.lt
      have hT1 := hT.below hb1 hT.lt
      have hB1 := hB.below hb1 hB.lt
      have hw1 := hb.trans (hb1.mono hb.size)
      have x0 : w1.cell? ⟨w.heap.size, 0, none⟩ = some (.slice A lex.length c) := hL1.cell 0
      have x1 : w1.cell? ⟨w.heap.size + 1 + 1, 0, none⟩ = some (.int .i64 sz) := hB1.cell 0
      have x2 : w1.cell? ⟨w.heap.size + 1 + 1, 1, none⟩ = some (sv bp) := hB1.cell 1
      have x3 : w1.cell? ⟨w.heap.size + 1 + 1, 2, none⟩ = some (sv bc) := hB1.cell 2)
   | (go_at_call 33; refine (kt _ hw1).mono ?_; rintro e w2 ⟨⟨v2, own1, rfl⟩, hb2⟩; obtain ⟨B2, d2, rfl, hd2, hr2, hf2⟩ := own_form own1))
 have hw2 := hw1.trans (hb2.mono hw1.size)
 have hT2 := hT1.below hb2 hT1.lt
 have hB2 := hB1.below hb2 hB1.lt
 have own0 := World.ownsRow_lit (base := w2.heap.size) (size := 5) (e := 72) w2 #[] 0 (Nat.le_refl _) (by unfold maxLen; omega) rfl
 clear hW hb hL hT hB hL1 hT1 hB1 hw1 hb1 hb2 x0 x1 x2 x3 own1 kv kt
 go_loopw [12, 31] (fun o i wr => ∃ k : Nat, k ≤ P.length ∧ i = .int .i64 k ∧ wr.ownsRow w2.heap.size 72 5 o k (mvsC (M.take k)) ∧ Below w2.heap.size w2 wr) (fun _ i _ => P.length - (intOf i).toNat)
 case atStart => exact ⟨0, by omega, rfl, own0, (Below.refl _ _).alloc (Nat.le_refl _) _⟩
 case round =>
   clear own0
   obtain ⟨k, hk, rfl, own2, hbr⟩ := hrel
   by_cases hkl : k < P.length
   · have hkk : (k : Int) < (P.length : Int) := by omega
     have hr3 := (hr2.below hbr).more hbr.size
     obtain ⟨ad, ea, hlt⟩ := hr3.2 (by omega)
     obtain ⟨g, rfl⟩ := hf2 ad ea
     subst ea
     obtain ⟨e0, e1, e2, e3⟩ := hr3.pl hkl
     simp only [Nat.zero_add] at e0 e1 e2 e3
     have hst := Lib.hid (hstep.out k hkl)
     have hsq := ks'.out P[k] (List.getElem_mem _)
     have hg : g < wr.heap.size := hlt.1
     obtain ⟨y, hy⟩ : ∃ y, y = P[k] := ⟨_, rfl⟩
     rw [← hy] at e0 e1 e2 e3 hst hsq
     clear hy
     obtain ⟨R, hR⟩ : ∃ R, R = SS y := ⟨_, rfl⟩
     rw [← hR] at hst hsq
     clear hR
     obtain ⟨yr, yc, yd, ys⟩ := y
     simp only [Pl.v] at hsq e0 e1 e2 e3
     have hwr := hw2.trans (hbr.mono hw2.size)
     clear hr3
     go_wp2_with (fail)
     have hS0 := Blk.new wr 69 #[.int .i64 yr, .int .i64 yc, .bool yd, sv ys]
     have hbs := (Below.refl wr.heap.size wr).alloc (Nat.le_refl _) (.cells #[.int .i64 yr, .int .i64 yc, .bool yd, sv ys] 69)
     obtain ⟨wx, hwx⟩ : ∃ wx, wx = wr.alloc (.cells #[.int .i64 yr, .int .i64 yc, .bool yd, sv ys] 69) := ⟨_, rfl⟩
     rw [← hwx] at hS0 hbs ⊢
     clear hwx
     have hbl := hbr.trans (hbs.mono hbr.size)
     have hown := own_call own2 hbs
     have hTx := hT2.below hbl hT2.lt
     have hBx := hB2.below hbl hB2.lt
     have hwl := hw2.trans (hbl.mono hw2.size)
     clear own2 e0 e1 e2 e3 hwr
     refine wp_region_v 9 9 (SC 7 8 [1, 2, 3, 4, 5] wx (.cells #[.int .i64 yr, .int .i64 yc, .bool yd, sv ys, .int .i64 R] 72) (fun u w' => ∃ w1, Below wx.heap.size wx w1 ∧ w'.ownsRow w2.heap.size 72 5 u (k + 1) (mvsC (M.take k) ++ mvC (⟨yr, yc, yd, ys⟩, R)) ∧ w1.grownBy w' (u12).ownBlock)) (by kernel_rfl) (by kernel_rfl) ⟨fun _ => undef, SC.start⟩ ?_
     simp only [qqT, List.take_zero, qqD, List.drop_zero]
     apply pv_step (fun _ => rfl)
     · intro σ L w' hS h1 h2 K hK
       clear h2
       go_wp2
       exact hS.keep (by decide) (by decide)
     simp only [Act.put, qqS, qqC, qqZ]
     apply pv_step (fun _ => rfl)
     · intro σ L w' hS h1 h2 K hK
       clear h2
       have f := hS0.below (hS.low (by decide) h1) hS0.lt
       have f0 : w'.cell? ⟨wr.heap.size, 0, none⟩ = some (.int .i64 yr) := f.cell 0
       have f1 : w'.cell? ⟨wr.heap.size, 1, none⟩ = some (.int .i64 yc) := f.cell 1
       have f2 : w'.cell? ⟨wr.heap.size, 2, none⟩ = some (.bool yd) := f.cell 2
       have f3 : w'.cell? ⟨wr.heap.size, 3, none⟩ = some (sv ys) := f.cell 3
       go_wp2
       exact hS.keep (by decide) (by decide)
     simp only [Act.put, qqS, qqC, qqZ]
     apply pv_step (fun _ => rfl)
     · intro σ L w' hS h1 h2 K hK
       clear h2
       have f := hTx.below (hS.low (by decide) h1) hTx.lt
       have f0 : w'.cell? ⟨w.heap.size + 1, 0, none⟩ = some (sv t.letters) := f.cell 0
       have f1 : w'.cell? ⟨w.heap.size + 1, 1, none⟩ = some (.slice A1 t.values.length c1) := f.cell 1
       have f2 : w'.cell? ⟨w.heap.size + 1, 2, none⟩ = some (.slice A2 t.counts.length c2) := f.cell 2
       have f3 : w'.cell? ⟨w.heap.size + 1, 3, none⟩ = some (.int .i64 t.blanks) := f.cell 3
       go_wp2
       exact hS.keep (by decide) (by decide)
     simp only [Act.put, qqS, qqC, qqZ]
     apply pv_step (fun _ => rfl)
     · intro σ L w' hS h1 h2 K hK
       clear h2
       have f := hBx.below (hS.low (by decide) h1) hBx.lt
       have f0 : w'.cell? ⟨w.heap.size + 1 + 1, 0, none⟩ = some (.int .i64 sz) := f.cell 0
       have f1 : w'.cell? ⟨w.heap.size + 1 + 1, 1, none⟩ = some (sv bp) := f.cell 1
       have f2 : w'.cell? ⟨w.heap.size + 1 + 1, 2, none⟩ = some (sv bc) := f.cell 2
       go_wp2
       exact hS.keep (by decide) (by decide)
     simp only [Act.put, qqS, qqC, qqZ]
     apply pv_step (fun _ => rfl)
     · intro σ L w' hS h1 h2 K hK
       clear h2
       have f := hS0.below (hS.low (by decide) h1) hS0.lt
       have f0 : w'.cell? ⟨wr.heap.size, 0, none⟩ = some (.int .i64 yr) := f.cell 0
       have f1 : w'.cell? ⟨wr.heap.size, 1, none⟩ = some (.int .i64 yc) := f.cell 1
       have f2 : w'.cell? ⟨wr.heap.size, 2, none⟩ = some (.bool yd) := f.cell 2
       have f3 : w'.cell? ⟨wr.heap.size, 3, none⟩ = some (sv ys) := f.cell 3
       go_wp2
       exact hS.keep (by decide) (by decide)
     simp only [Act.put, qqS, qqC, qqZ]
     apply pv_step (v := .int .i64 R) (fun _ => rfl)
     · intro σ L w' hS h1 h2 K hK
       clear h2
       have hl := hS.low (by decide) h1
       go_wp2_with (go_at_call 34; refine (hsq _ (hi.below (hwl.trans (hl.mono hwl.size)))).mono ?_; rintro e w5 ⟨rfl, hb5⟩)
       exact hS.call (by decide) h1 (by decide) (by decide) hb5
     simp only [Act.put, qqS, qqC, qqZ]
     apply pv_step (fun _ => rfl)
     · intro σ L w' hS h1 h2 K hK
       clear h2
       go_wp2
       exact hS.keep (by decide) (by decide)
     simp only [Act.put, qqS, qqC, qqZ]
     apply pv_free (fun _ => rfl)
     · intro σ L w' hS h1 h2 K hK
       have p1 := h2 1 (List.contains_iff_mem.1 (by kernel_rfl))
       have p2 := h2 2 (List.contains_iff_mem.1 (by kernel_rfl))
       have p3 := h2 3 (List.contains_iff_mem.1 (by kernel_rfl))
       have p4 := h2 4 (List.contains_iff_mem.1 (by kernel_rfl))
       have p5 := h2 5 (List.contains_iff_mem.1 (by kernel_rfl))
       clear h2
       have hS' := hS.tob h1 (by decide) (by simp [p1, p2, p3, p4, p5])
       have hlit := run_lit1 moveT (.agg #[.int .i64 yr, .int .i64 yc, .bool yd, sv ys, .int .i64 R]) #[.int .i64 yr, .int .i64 yc, .bool yd, sv ys, .int .i64 R] rfl rfl (by omega)
       go_wp2
       exact hS'
     simp only [Act.put, qqS, qqC, qqZ]
     apply pv_free (fun _ => rfl)
     · intro σ L w' hS h1 h2 K hK
       have p7 := h2 7 (List.contains_iff_mem.1 (by kernel_rfl))
       have p1 := h2 1 (List.contains_iff_mem.1 (by kernel_rfl))
       have p2 := h2 2 (List.contains_iff_mem.1 (by kernel_rfl))
       have p3 := h2 3 (List.contains_iff_mem.1 (by kernel_rfl))
       have p4 := h2 4 (List.contains_iff_mem.1 (by kernel_rfl))
       have p5 := h2 5 (List.contains_iff_mem.1 (by kernel_rfl))
       clear h2
       obtain ⟨w1, hl1, e1, rfl⟩ := hS.ata h1 p7
       refine oper_app moveT (.tmp 35) (.tmp 42) rfl u12 k _ rfl w2.heap.size (own_call hown hl1) (mvC (⟨yr, yc, yd, ys⟩, R)) rfl (by simp [mvC, Value.oneCell']) w1.heap.size rfl e1 (by omega) (by omega) (Nat.le_trans hbl.size hl1.size) ?_
       intro v1 w1' h11 h12 h13
       exact hK v1 w1' (SC.toa p7 (by simp [p1, p2, p3, p4, p5]) ⟨w1, hl1, h11, h12⟩)
     simp only [Act.put, qqS, qqC, qqZ]
     refine pv_nil fun σ w8 hS => ?_
     obtain ⟨w1, hl1, own8, hg8⟩ := hS.fin rfl
     obtain ⟨v8, hv8⟩ : ∃ v8, v8 = σ 8 := ⟨_, rfl⟩
     rw [← hv8] at own8
     simp only [← hv8]
     clear hS hv8
     have hown1 := own_call hown hl1
     have hb1 := hbl.trans (hl1.mono hbl.size)
     go_wp2_with (fail)
     go_roundw
     case rel => exact ⟨k + 1, by omega, by go_num, own_cast own8 (by rw [hst.out, mvsC_append, mvsC_one]) rfl, Below.own hb1 hb1.size hown1 (Nat.le_refl _) hg8⟩
     case measure => simp [intOf]; omega
   · obtain rfl : k = P.length := by omega
     have hkk : ¬ (P.length : Int) < (P.length : Int) := by omega
     go_wp2_with (fail)
     rw [List.take_of_length_le (by rw [hmlen'.out]; omega)] at own2
     exact hend.out _ _ (own_cast (own_base own2 hw2.size) rfl hmlen'.out.symm) (hw2.trans (hbr.mono hw2.size))
theorem iTryMoves_any (A : Option Addr) (c : Nat) (lex : List Str) (t : TS) (A1 A2 : Option Addr) (c1 c2 : Nat) (b : Bd) (rack : Str) (w : World) (hm : MaxOk w) (hi : TsIn w t A1 A2) (hr : Reads w w.heap.size 1 A lex.length (lex.map sv)) (hA : Plain0 A) (hn : lex.length ≤ 2 ^ 32) (hls : ∀ x ∈ lex, x.length ≤ 2 ^ 40) (hp : b.prem.length ≤ 2 ^ 40) (hcl : b.cells.length ≤ 2 ^ 40) (hrk : rack.length ≤ 2 ^ 32) (hl : t.letters.length ≤ 2 ^ 40) (hv : t.values.length ≤ 2 ^ 40) (hc : t.counts.length ≤ 2 ^ 40) :
   Calls Tryz.prog 13 #[.agg #[.slice A lex.length c], t.v A1 c1 A2 c2, b.v, sv rack] w (MovesPost w t b lex rack) := by
 have kt := fun (W : World) (hW : Below w.heap.size w W) => tryPlays_any A c lex b rack W (hm.below hW) ((hr.below hW).more hW.size) hA hn hls hp hcl hrk
 have kv := fun (W : World) (hW : Below w.heap.size w W) => validTiles_any t A1 A2 c1 c2 W (hi.below hW) hl hv hc
 cases htb : tsB t
 · exact iTryMoves_no A c lex t A1 A2 c1 c2 b rack w htb kv
 · have hmc : movesCode t b lex rack = playsCode b lex rack := by unfold movesCode; rw [htb]; rfl
   cases hok : argsB b lex rack
   · refine iTryMoves_bad A c lex t A1 A2 c1 c2 b rack w 1 (by decide) (by rw [hmc]; unfold playsCode; rw [hok]; rfl) htb kv fun W hW => (kt W hW).mono ?_
     rintro e w' ⟨h1, h2⟩
     rw [hok] at h2
     exact ⟨h2, h1⟩
   · by_cases hbig : 400 < (foundL b lex rack).length
     · refine iTryMoves_bad A c lex t A1 A2 c1 c2 b rack w 5 (by decide) (by rw [hmc]; unfold playsCode; rw [hok, if_pos rfl, if_pos hbig]) htb kv fun W hW => (kt W hW).mono ?_
       rintro e w' ⟨h1, h2⟩
       rw [hok, if_pos rfl, if_pos ((found_many hok).1 hbig)] at h2
       exact ⟨h2, h1⟩
     · have hfp := found_perm hok hbig
       have hbd : bdB b = true := by unfold argsB at hok; simp only [Bool.and_eq_true] at hok; exact hok.2.1
       have hso : sortI (tryI b lex rack) = playsL b lex rack := sort_same hfp.symm
       refine iTryMoves_good A c lex t A1 A2 c1 c2 b rack w (by rw [hmc]; unfold playsCode; rw [hok, if_pos rfl, if_neg hbig]) (by rw [playsL_length]; omega) hi htb (fun q hq W hW => scoreOne t A1 A2 c1 c2 b lex rack (tsB_ok htb) hbd q hq W hW) kv fun W hW => (kt W hW).mono ?_
       rintro e w' ⟨h1, h2⟩
       rw [hok, if_pos rfl, if_neg (fun h => hbig ((found_many hok).2 h))] at h2
       obtain ⟨v, ps', rfl, h3, h4⟩ := h2
       rw [hso] at h3
       exact ⟨⟨v, h3, h4⟩, h1⟩
set_option maxHeartbeats 4000000
def eqPlB (a b : Pl) : Bool := a.row == b.row && (a.col == b.col && (a.down == b.down && a.word == b.word))
def eqMv (a b : Mv) : Bool := eqPlB a.1 b.1 && a.2 == b.2
def inM (l : List Mv) (m : Mv) : Bool := l.any fun x => eqMv x m
theorem eqMv_comm (a b : Mv) : eqMv a b = eqMv b a := by
 unfold eqMv eqPlB
 rw [Bool.eq_iff_iff]
 simp only [Bool.and_eq_true, beq_iff_eq]
 constructor <;> rintro ⟨⟨h1, h2, h3, h4⟩, h5⟩ <;> exact ⟨⟨h1.symm, h2.symm, h3.symm, h4.symm⟩, h5.symm⟩
theorem mv_guard (w : World) (a b : Mv) (x y : Operand) : (eqGuard .eql 72 x y (mvV a) (mvV b)).run Tryz.prog w = .ok () w :=
 run_eqGuard_agg w .eql 72 x y _ _ (by kernel_rfl)
theorem pl_equalIn (w : World) (d : Nat) (a b : Pl) : (Op.equalIn (d + 1 + 1) 69 (.agg #[.int .i64 a.row, .int .i64 a.col, .bool a.down, sv a.word]) (.agg #[.int .i64 b.row, .int .i64 b.col, .bool b.down, sv b.word])).run Tryz.prog w = .ok (eqPlB a b) w := by
 have hp : Tryz.prog.plainKey 2 = true := by kernel_rfl
 have hq : Tryz.prog.plainKey 4 = true := by kernel_rfl
 have hr : Tryz.prog.plainKey 9 = true := by kernel_rfl
 obtain ⟨r, c, dn, s⟩ := a
 obtain ⟨r', c', dn', s'⟩ := b
 have p0 : ∀ (r c : Int) (dn : Bool) (s : Str), (part 2 #[.int .i64 r, .int .i64 c, .bool dn, sv s] 0).run Tryz.prog w = .ok (.int .i64 r) w := fun r c dn s => run_part_plain w hp rfl
 have p1 : ∀ (r c : Int) (dn : Bool) (s : Str), (part 2 #[.int .i64 r, .int .i64 c, .bool dn, sv s] 1).run Tryz.prog w = .ok (.int .i64 c) w := fun r c dn s => run_part_plain w hp rfl
 have p2 : ∀ (r c : Int) (dn : Bool) (s : Str), (part 4 #[.int .i64 r, .int .i64 c, .bool dn, sv s] 2).run Tryz.prog w = .ok (.bool dn) w := fun r c dn s => run_part_plain w hq rfl
 have p3 : ∀ (r c : Int) (dn : Bool) (s : Str), (part 9 #[.int .i64 r, .int .i64 c, .bool dn, sv s] 3).run Tryz.prog w = .ok (sv s) w := fun r c dn s => run_part_plain w hr rfl
 have e0 : ∀ n x y, (Op.equalIn (n+1) 2 (.int .i64 x) (.int .i64 y)).run Tryz.prog w = .ok (x == y) w := fun n x y => run_equalIn_int w n 2 .i64 .i64 x y Tryz.underlying2
 have e1 : ∀ n x y, (Op.equalIn (n+1) 4 (.bool x) (.bool y)).run Tryz.prog w = .ok (x == y) w := fun n x y => run_equalIn_bool' w n 4 x y Tryz.underlying4
 have e2 : ∀ (n : Nat) (x y : Str), (Op.equalIn (n+1) 9 (sv x) (sv y)).run Tryz.prog w = .ok (x == y) w := fun n x y => by
   have h := run_equalIn_string w n 9 ⟨x.toArray⟩ ⟨y.toArray⟩ Tryz.underlying9
   have hx : (⟨x.toArray⟩ : ByteArray).toList = x := by simp [ByteArray.toList_eq]
   have hy : (⟨y.toArray⟩ : ByteArray).toList = y := by simp [ByteArray.toList_eq]
   rw [hx, hy] at h
   exact h
 have hu : Tryz.prog.underlying 69 = some (.struct (Tryz.prog.fieldsOf 69)) := by
   simp only [Program.fieldsOf, Tryz.underlying69]
 rw [run_equalIn_struct w (d + 1) 69 _ _ hu (by kernel_rfl)]
 simp only [Program.fieldsOf, Tryz.underlying69]
 unfold eqPlB
 cases ha : (r == r') <;> cases hb : (c == c') <;> cases hc : (dn == dn') <;> cases hd : (s == s') <;> simp [Op.eqFields, p0, p1, p2, p3, e0, e1, e2, ha, hb, hc, hd, Result.andThen]
theorem mv_eql (w : World) (a b : Mv) : (binOp .eql 72 (mvV a) (mvV b)).run Tryz.prog w = .ok (.bool (eqMv a b)) w := by
 have hp : Tryz.prog.plainKey 2 = true := by kernel_rfl
 obtain ⟨⟨r, c, dn, s⟩, x⟩ := a
 obtain ⟨⟨r', c', dn', s'⟩, x'⟩ := b
 have p4 : ∀ (r c : Int) (dn : Bool) (s : Str) (x : Int), (part 2 #[.int .i64 r, .int .i64 c, .bool dn, sv s, .int .i64 x] 4).run Tryz.prog w = .ok (.int .i64 x) w := fun r c dn s x => run_part_plain w hp rfl
 have pp : ∀ (r c : Int) (dn : Bool) (s : Str) (x : Int), (part 69 #[.int .i64 r, .int .i64 c, .bool dn, sv s, .int .i64 x] 0).run Tryz.prog w = .ok (.agg #[.int .i64 r, .int .i64 c, .bool dn, sv s]) w := fun r c dn s x => rfl
 have e0 : ∀ n x y, (Op.equalIn (n+1) 2 (.int .i64 x) (.int .i64 y)).run Tryz.prog w = .ok (x == y) w := fun n x y => run_equalIn_int w n 2 .i64 .i64 x y Tryz.underlying2
 have e1 := fun d => pl_equalIn w d ⟨r, c, dn, s⟩ ⟨r', c', dn', s'⟩
 simp only at e1
 have hu : Tryz.prog.underlying 72 = some (.struct (Tryz.prog.fieldsOf 72)) := by
   simp only [Program.fieldsOf, Tryz.underlying72]
 unfold mvV eqMv
 rw [run_eql_struct, run_equalIn_struct w 9999 72 _ _ hu (by kernel_rfl)]
 simp only [Program.fieldsOf, Tryz.underlying72]
 cases ha : eqPlB ⟨r, c, dn, s⟩ ⟨r', c', dn', s'⟩ <;> cases hb : (x == x') <;> simp [Op.eqFields, p4, pp, e0 9998, e1 9997, ha, hb, Result.andThen]
theorem l16In_any (A : Option Addr) (c : Nat) (ms : List Mv) (m : Mv) (k : Nat) (w : World) (h : Reads w w.heap.size 5 A ms.length (mvsC ms)) (hf : ∀ ad, A = some ad → ∃ g, ad = ⟨g, 0, none⟩) (hk : k ≤ ms.length) (hn : ms.length ≤ 2 ^ 40) :
   Calls Tryz.prog 42 #[.slice A ms.length c, mvV m, .int .i64 k] w fun e w' => e = .returned (.bool (inM (ms.take k) m)) ∧ Below w.heap.size w w' := by
 obtain ⟨R, hR⟩ : ∃ R, R = inM (ms.take k) m := ⟨_, rfl⟩
 rw [← hR]
 have hR' := Lib.hid hR
 clear hR
 have hst : Hid (∀ j (h : j < k) (h' : j < ms.length), inM ((ms.take k).drop j) m = (eqMv ms[j] m || inM ((ms.take k).drop (j + 1)) m)) := Lib.hid (fun j h h' => by
   rw [drop_cons (ms.take k) j (by rw [List.length_take]; omega)]
   simp [inM])
 have hen : Hid (inM ((ms.take k).drop k) m = false) := Lib.hid (by rw [drop_all _ _ (by rw [List.length_take]; omega)]; rfl)
 have heq0 := fun (w : World) (x : Mv) a b => mv_guard w x m a b
 have heq1 := fun (w : World) (x : Mv) => mv_eql w x m
 obtain ⟨E, hE⟩ : ∃ E : Mv → Bool, E = fun x => eqMv x m := ⟨_, rfl⟩
 have hE' : ∀ x, eqMv x m = E x := fun x => by rw [hE]
 simp only [hE'] at hst heq1
 clear hE hE'
 obtain ⟨⟨mr, mc, md, mw⟩, mx⟩ := m
 simp only [mvV] at heq0 heq1 ⊢
 have hbW := (Below.refl w.heap.size w).alloc (Nat.le_refl _) (.cells #[.int .i64 mr, .int .i64 mc, .bool md, sv mw, .int .i64 mx] 72)
 have hM0 := Blk.new w 72 #[.int .i64 mr, .int .i64 mc, .bool md, sv mw, .int .i64 mx]
 go_enter Tryz.func42, Tryz.ntmps42
 go_wp2_with (fail)
 obtain ⟨W, hW⟩ : ∃ W, W = w.alloc (.cells #[.int .i64 mr, .int .i64 mc, .bool md, sv mw, .int .i64 mx] 72) := ⟨_, rfl⟩
 rw [← hW] at hbW hM0 ⊢
 clear hW
 go_loopw [7] (fun i wr => ∃ j : Nat, j ≤ k ∧ i = .int .i64 j ∧ Hid (R = inM ((ms.take k).drop j) (⟨mr, mc, md, mw⟩, mx)) ∧ Below W.heap.size W wr) (fun i _ => k - (intOf i).toNat)
 case atStart => exact ⟨0, by omega, rfl, Lib.hid (by rw [hR'.out]; rfl), Below.refl _ _⟩
 case round =>
   obtain ⟨j, hj, rfl, he, hb⟩ := hrel
   by_cases hjk : j < k
   · have hjl : j < ms.length := by omega
     have hbw := hbW.trans (hb.mono hbW.size)
     have r1 := (h.below hbw).more hbw.size
     obtain ⟨ad1, e1, hd1, _⟩ := r1.2 (by omega)
     obtain ⟨g, rfl⟩ := hf ad1 e1
     subst e1
     obtain ⟨x0, x1, x2, x3, x4⟩ := r1.mv hjl
     simp only [Nat.zero_add] at x0 x1 x2 x3 x4
     have hst2 : Hid (R = (E ms[j] || inM ((ms.take k).drop (j + 1)) (⟨mr, mc, md, mw⟩, mx))) := Lib.hid (by rw [he.out, hst.out j hjk hjl])
     have q0 := fun (w : World) a b => heq0 w ms[j] a b
     have q1 := fun (w : World) => heq1 w ms[j]
     obtain ⟨x, hx⟩ : ∃ x, x = ms[j] := ⟨_, rfl⟩
     rw [← hx] at x0 x1 x2 x3 x4 q0 q1 hst2
     clear hx r1 heq0 heq1
     obtain ⟨eb, heb⟩ : ∃ eb, eb = E x := ⟨_, rfl⟩
     rw [← heb] at q1 hst2
     clear heb
     obtain ⟨⟨xr, xc, xd, xw⟩, xx⟩ := x
     simp only at x0 x1 x2 x3 x4 q0 q1
     have hg : g < wr.heap.size := hd1
     have hMr := hM0.below hb hM0.lt
     have hjj : (j : Int) < (k : Int) := by omega
     have hjl' : (j : Int) < (ms.length : Int) := by omega
     have hj0 : (0 : Int) ≤ (j : Int) := by omega
     cases eb
     all_goals
       go_wp2_with (fail)
       refine wp_region_b 6 (by kernel_rfl) (by kernel_rfl) ?_
       simp only [qqT, List.take_zero, qqD, List.drop_zero]
       iterate 6
         apply pc_step rfl
         · intro w4 hb4 K hK
           have hM4 := hMr.below hb4 hMr.lt
           have y0 : w4.cell? ⟨w.heap.size, 0, none⟩ = some (.int .i64 mr) := hM4.cell 0
           have y1 : w4.cell? ⟨w.heap.size, 1, none⟩ = some (.int .i64 mc) := hM4.cell 1
           have y2 : w4.cell? ⟨w.heap.size, 2, none⟩ = some (.bool md) := hM4.cell 2
           have y3 : w4.cell? ⟨w.heap.size, 3, none⟩ = some (sv mw) := hM4.cell 3
           have y4 : w4.cell? ⟨w.heap.size, 4, none⟩ = some (.int .i64 mx) := hM4.cell 4
           have a0 := (hb4.cell (p := ⟨g, j * 5, none⟩) hg).trans x0
           have a1 := (hb4.cell (p := ⟨g, j * 5 + 1, none⟩) hg).trans x1
           have a2 := (hb4.cell (p := ⟨g, j * 5 + 2, none⟩) hg).trans x2
           have a3 := (hb4.cell (p := ⟨g, j * 5 + 3, none⟩) hg).trans x3
           have a4 := (hb4.cell (p := ⟨g, j * 5 + 4, none⟩) hg).trans x4
           go_wp2_with (fail)
           all_goals first | exact hb4 | exact hb4.trans (hb5.mono hb4.size) | exact hb4.trans (hd5.below.mono hb4.size)
         simp only [Act.put, qqS, qqC, qqZ]
       refine pc_nil ?_
       intro w4 hb4
       have hb5 := hb.trans (hb4.mono hb.size)
       go_wp2_with (fail)
     · go_roundw
       case rel => exact ⟨j + 1, by omega, by go_num, Lib.hid (by rw [hst2.out]; rfl), hb5⟩
       case measure => simp only [intOf]; omega
     · go_ret
       exact ⟨ret_bool (by rw [hst2.out]; rfl), hbW.trans (hb5.mono hbW.size)⟩
   · obtain rfl : j = k := by omega
     have hjj : ¬ (j : Int) < (j : Int) := by omega
     go_wp2_with (fail)
     go_ret
     exact ⟨ret_bool (by rw [he.out, hen.out]), hbW.trans (hb.mono hbW.size)⟩
theorem index_any (A : Option Addr) (c : Nat) (ms : List Mv) (m : Mv) (w : World) (h : Reads w w.heap.size 5 A ms.length (mvsC ms)) (hf : ∀ ad, A = some ad → ∃ g, ad = ⟨g, 0, none⟩) (hn : ms.length ≤ 2 ^ 40) :
   Calls Tryz.prog 68 #[.slice A ms.length c, mvV m] w fun e w' => (∃ r : Int, e = .returned (.int .i64 r) ∧ decide (0 ≤ r) = inM ms m) ∧ Below w.heap.size w w' := by
 obtain ⟨R, hR⟩ : ∃ R, R = inM ms m := ⟨_, rfl⟩
 rw [← hR]
 have hR' := Lib.hid hR
 clear hR
 have hst : Hid (∀ j (h : j < ms.length), inM (ms.drop j) m = (eqMv m ms[j] || inM (ms.drop (j + 1)) m)) := Lib.hid (fun j h => by
   rw [eqMv_comm m ms[j], drop_cons ms j h]
   rfl)
 have hen : Hid (inM (ms.drop ms.length) m = false) := Lib.hid (by rw [List.drop_length]; rfl)
 have heq0 := fun (w : World) (x : Mv) a b => mv_guard w m x a b
 have heq1 := fun (w : World) (x : Mv) => mv_eql w m x
 obtain ⟨E, hE⟩ : ∃ E : Mv → Bool, E = fun x => eqMv m x := ⟨_, rfl⟩
 have hE' : ∀ x, eqMv m x = E x := fun x => by rw [hE]
 simp only [hE'] at hst heq1
 clear hE hE'
 obtain ⟨⟨mr, mc, md, mw⟩, mx⟩ := m
 simp only [mvV] at heq0 heq1 ⊢
 have hbW := (Below.refl w.heap.size w).alloc (Nat.le_refl _) (.cells #[.int .i64 mr, .int .i64 mc, .bool md, sv mw, .int .i64 mx] 72)
 have hM0 := Blk.new w 72 #[.int .i64 mr, .int .i64 mc, .bool md, sv mw, .int .i64 mx]
 go_enter Tryz.func68, Tryz.ntmps68
 go_wp2_with (fail)
 obtain ⟨W, hW⟩ : ∃ W, W = w.alloc (.cells #[.int .i64 mr, .int .i64 mc, .bool md, sv mw, .int .i64 mx] 72) := ⟨_, rfl⟩
 rw [← hW] at hbW hM0 ⊢
 clear hW
 go_loopw [8] (fun i wr => ∃ j : Nat, j ≤ ms.length ∧ i = .int .i64 j ∧ Hid (R = inM (ms.drop j) (⟨mr, mc, md, mw⟩, mx)) ∧ Below W.heap.size W wr) (fun i _ => ms.length - (intOf i).toNat)
 case atStart => exact ⟨0, by omega, rfl, Lib.hid (by rw [hR'.out]; rfl), Below.refl _ _⟩
 case round =>
   obtain ⟨j, hj, rfl, he, hb⟩ := hrel
   by_cases hjl : j < ms.length
   · have hbw := hbW.trans (hb.mono hbW.size)
     have r1 := (h.below hbw).more hbw.size
     obtain ⟨ad1, e1, hd1, _⟩ := r1.2 (by omega)
     obtain ⟨g, rfl⟩ := hf ad1 e1
     subst e1
     obtain ⟨x0, x1, x2, x3, x4⟩ := r1.mv hjl
     simp only [Nat.zero_add] at x0 x1 x2 x3 x4
     have hst2 : Hid (R = (E ms[j] || inM (ms.drop (j + 1)) (⟨mr, mc, md, mw⟩, mx))) := Lib.hid (by rw [he.out, hst.out j hjl])
     have q0 := fun (w : World) a b => heq0 w ms[j] a b
     have q1 := fun (w : World) => heq1 w ms[j]
     obtain ⟨x, hx⟩ : ∃ x, x = ms[j] := ⟨_, rfl⟩
     rw [← hx] at x0 x1 x2 x3 x4 q0 q1 hst2
     clear hx r1 heq0 heq1
     obtain ⟨eb, heb⟩ : ∃ eb, eb = E x := ⟨_, rfl⟩
     rw [← heb] at q1 hst2
     clear heb
     obtain ⟨⟨xr, xc, xd, xw⟩, xx⟩ := x
     simp only at x0 x1 x2 x3 x4 q0 q1
     have hg : g < wr.heap.size := hd1
     have hMr := hM0.below hb hM0.lt
     have hjl' : (j : Int) < (ms.length : Int) := by omega
     have hj0 : (0 : Int) ≤ (j : Int) := by omega
     cases eb
     all_goals
       go_wp2_with (fail)
       refine wp_region_b 6 (by kernel_rfl) (by kernel_rfl) ?_
       simp only [qqT, List.take_zero, qqD, List.drop_zero]
       iterate 6
         apply pc_step rfl
         · intro w4 hb4 K hK
           have hM4 := hMr.below hb4 hMr.lt
           have y0 : w4.cell? ⟨w.heap.size, 0, none⟩ = some (.int .i64 mr) := hM4.cell 0
           have y1 : w4.cell? ⟨w.heap.size, 1, none⟩ = some (.int .i64 mc) := hM4.cell 1
           have y2 : w4.cell? ⟨w.heap.size, 2, none⟩ = some (.bool md) := hM4.cell 2
           have y3 : w4.cell? ⟨w.heap.size, 3, none⟩ = some (sv mw) := hM4.cell 3
           have y4 : w4.cell? ⟨w.heap.size, 4, none⟩ = some (.int .i64 mx) := hM4.cell 4
           have a0 := (hb4.cell (p := ⟨g, j * 5, none⟩) hg).trans x0
           have a1 := (hb4.cell (p := ⟨g, j * 5 + 1, none⟩) hg).trans x1
           have a2 := (hb4.cell (p := ⟨g, j * 5 + 2, none⟩) hg).trans x2
           have a3 := (hb4.cell (p := ⟨g, j * 5 + 3, none⟩) hg).trans x3
           have a4 := (hb4.cell (p := ⟨g, j * 5 + 4, none⟩) hg).trans x4
           go_wp2_with (fail)
           all_goals first | exact hb4 | exact hb4.trans (hb5.mono hb4.size) | exact hb4.trans (hd5.below.mono hb4.size)
         simp only [Act.put, qqS, qqC, qqZ]
       refine pc_nil ?_
       intro w4 hb4
       have hb5 := hb.trans (hb4.mono hb.size)
       go_wp2_with (fail)
     · go_roundw
       case rel => exact ⟨j + 1, by omega, by go_num, Lib.hid (by rw [hst2.out]; rfl), hb5⟩
       case measure => simp only [intOf]; omega
     · go_ret
       exact ⟨⟨_, rfl, by rw [hst2.out]; simp⟩, hbW.trans (hb5.mono hbW.size)⟩
   · obtain rfl : j = ms.length := by omega
     have hjj : ¬ (ms.length : Int) < (ms.length : Int) := by omega
     go_wp2_with (fail)
     go_ret
     exact ⟨⟨_, rfl, by rw [he.out, hen.out]; rfl⟩, hbW.trans (hb.mono hbW.size)⟩
theorem contains_any (A : Option Addr) (c : Nat) (ms : List Mv) (m : Mv) (w : World) (h : Reads w w.heap.size 5 A ms.length (mvsC ms)) (hf : ∀ ad, A = some ad → ∃ g, ad = ⟨g, 0, none⟩) (hn : ms.length ≤ 2 ^ 40) :
   Calls Tryz.prog 46 #[.slice A ms.length c, mvV m] w fun e w' => e = .returned (.bool (inM ms m)) ∧ Below w.heap.size w w' := by
 have ki := fun (W : World) (hW : Below w.heap.size w W) => index_any A c ms m W ((h.below hW).more hW.size) hf hn
 obtain ⟨R, hR⟩ : ∃ R, R = inM ms m := ⟨_, rfl⟩
 rw [← hR] at ki ⊢
 clear hR h hf
 obtain ⟨⟨mr, mc, md, mw⟩, mx⟩ := m
 simp only [mvV] at *
 have hbW := (Below.refl w.heap.size w).alloc (Nat.le_refl _) (.cells #[.int .i64 mr, .int .i64 mc, .bool md, sv mw, .int .i64 mx] 72)
 go_enter Tryz.func46, Tryz.ntmps46
 go_wp2_with (go_at_call 68; refine (ki _ hbW).mono ?_; rintro e w1 ⟨⟨r, rfl, hr⟩, hb1⟩)
 go_ret
 exact ⟨ret_bool (by rw [← hr]), hbW.trans (hb1.mono hbW.size)⟩
theorem missing_any (gl : Nat) (A : Option Addr) (c : Nat) (ms : List Mv) (m : Mv) (w : World) (hl : Blk w gl 33 #[.slice A ms.length c]) (h : Reads w w.heap.size 5 A ms.length (mvsC ms)) (hf : ∀ ad, A = some ad → ∃ g, ad = ⟨g, 0, none⟩) (hn : ms.length ≤ 2 ^ 40) :
   Calls Tryz.prog 45 #[mvV m, .pointer (some ⟨gl, 0, none⟩)] w fun e w' => e = .returned (.bool (!inM ms m)) ∧ Below w.heap.size w w' := by
 have kc := fun (W : World) (hW : Below w.heap.size w W) => contains_any A c ms m W ((h.below hW).more hW.size) hf hn
 obtain ⟨R, hR⟩ : ∃ R, R = inM ms m := ⟨_, rfl⟩
 rw [← hR] at kc ⊢
 clear hR h hf
 have hlt := hl.lt
 have x0 : w.cell? ⟨gl, 0, none⟩ = some (.slice A ms.length c) := hl.cell 0
 have hne : gl ≠ w.heap.size := by omega
 obtain ⟨⟨mr, mc, md, mw⟩, mx⟩ := m
 simp only [mvV] at *
 have hbW := (Below.refl w.heap.size w).alloc (Nat.le_refl _) (.cells #[.int .i64 mr, .int .i64 mc, .bool md, sv mw, .int .i64 mx] 72)
 go_enter Tryz.func45, Tryz.ntmps45
 go_wp2_with (go_at_call 46; refine (kc _ hbW).mono ?_; rintro e w1 ⟨rfl, hb1⟩)
 go_ret
 exact ⟨rfl, hbW.trans (hb1.mono hbW.size)⟩
def outM (list ms : List Mv) : List Mv := ms.filter fun m => !inM list m
theorem outM_step (list ms : List Mv) (k : Nat) (h : k < ms.length) : outM list (ms.take (k + 1)) = if inM list ms[k] then outM list (ms.take k) else outM list (ms.take k) ++ [ms[k]] := by
 unfold outM
 rw [List.take_succ_eq_append_getElem h, List.filter_append]
 cases hh : inM list ms[k] <;> simp [hh]
theorem outM_length (list ms : List Mv) : (outM list ms).length ≤ ms.length := List.length_filter_le _ _
theorem selectedM_any (gl : Nat) (A Ax : Option Addr) (c cx : Nat) (list ms : List Mv) (w : World) (hl : Blk w gl 33 #[.slice A list.length c]) (h : Reads w w.heap.size 5 A list.length (mvsC list)) (hf : ∀ ad, A = some ad → ∃ g, ad = ⟨g, 0, none⟩) (hn : list.length ≤ 2 ^ 40) (hx : Reads w w.heap.size 5 Ax ms.length (mvsC ms)) (hfx : ∀ ad, Ax = some ad → ∃ g, ad = ⟨g, 0, none⟩) (hml : ms.length ≤ 2 ^ 33) :
   Calls Tryz.prog 44 #[.slice Ax ms.length cx, .func (.func 45) #[] #[.pointer (some ⟨gl, 0, none⟩)]] w fun e w' => ∃ v, e = .returned v ∧ w'.ownsRow w.heap.size 72 5 v (outM list ms).length (mvsC (outM list ms)) ∧ Below w.heap.size w w' := by
 have kc := fun (m : Mv) (W : World) (hW : Below w.heap.size w W) => missing_any gl A c list m W (hl.below hW hl.lt) ((h.below hW).more hW.size) hf hn
 have hst := Lib.hid (outM_step list ms)
 have hln := Lib.hid (fun k => outM_length list (ms.take k))
 have hend : Hid (outM list ms = outM list (ms.take ms.length)) := Lib.hid (by rw [List.take_length])
 have h0 : Hid (outM list (ms.take 0) = []) := Lib.hid rfl
 obtain ⟨WS, hWS⟩ : ∃ WS, WS = outM list := ⟨_, rfl⟩
 obtain ⟨HB, hHB⟩ : ∃ HB, HB = inM list := ⟨_, rfl⟩
 rw [← hWS] at hst hln hend h0 ⊢
 rw [← hHB] at kc hst
 clear hWS hHB h hf
 have ow0 := World.ownsRow_lit (base := w.heap.size) (size := 5) (e := 72) w #[] 0 (Nat.le_refl _) (by unfold maxLen; omega) rfl
 have hb0 := (Below.refl w.heap.size w).alloc (Nat.le_refl _) (.cells #[] 72)
 go_enter Tryz.func44, Tryz.ntmps44
 go_wp2_with (fail)
 go_loopw [5, 11] (fun o i wr => ∃ k : Nat, k ≤ ms.length ∧ i = .int .i64 k ∧ wr.ownsRow w.heap.size 72 5 o (WS (ms.take k)).length (mvsC (WS (ms.take k))) ∧ Below w.heap.size w wr) (fun _ i _ => ms.length - (intOf i).toNat)
 case atStart => exact ⟨0, by omega, rfl, by rw [h0.out]; exact ow0, hb0⟩
 case round =>
   clear ow0 hb0
   obtain ⟨k, hk, rfl, own, hb⟩ := hrel
   by_cases hkl : k < ms.length
   · have r1 := (hx.below hb).more hb.size
     obtain ⟨ad1, e1, hd1, _⟩ := r1.2 (by omega)
     obtain ⟨g, rfl⟩ := hfx ad1 e1
     subst e1
     obtain ⟨x0, x1, x2, x3, x4⟩ := r1.mv hkl
     simp only [Nat.zero_add] at x0 x1 x2 x3 x4
     have hstep := Lib.hid (hst.out k hkl)
     have hl2 := hln.out k
     rw [List.length_take] at hl2
     have kcx := kc ms[k]
     obtain ⟨m, hm⟩ : ∃ m, m = ms[k] := ⟨_, rfl⟩
     rw [← hm] at hstep x0 x1 x2 x3 x4 kcx
     clear hm r1 kc
     have hg : g < wr.heap.size := hd1
     have hkk : (k : Int) < (ms.length : Int) := by omega
     obtain ⟨S, hS⟩ : ∃ S, S = WS (ms.take k) := ⟨_, rfl⟩
     rw [← hS] at own hstep hl2
     clear hS
     have hSl : S.length + 1 ≤ 1099511627776 := by omega
     obtain ⟨hh, hhh⟩ : ∃ h, h = HB m := ⟨_, rfl⟩
     rw [← hhh] at kcx hstep
     clear hhh hl2
     obtain ⟨⟨mr, mc, md, mw⟩, mx⟩ := m
     simp only [mvV] at kcx x0 x1 x2 x3 x4
     have hbs := (Below.refl wr.heap.size wr).alloc (Nat.le_refl _) (.cells #[.int .i64 mr, .int .i64 mc, .bool md, sv mw, .int .i64 mx] 72)
     have hbW := hb.trans (hbs.mono hb.size)
     have hM0 := Blk.new wr 72 #[.int .i64 mr, .int .i64 mc, .bool md, sv mw, .int .i64 mx]
     have kcx := kcx _ hbW
     cases hh
     · have hst2 : Hid (WS (ms.take (k + 1)) = S ++ [(⟨mr, mc, md, mw⟩, mx)]) := Lib.hid (by rw [hstep.out]; rfl)
       clear hstep
       simp only [Bool.not_false] at kcx
       have hlit := run_lit1 moveT (.agg #[.int .i64 mr, .int .i64 mc, .bool md, sv mw, .int .i64 mx]) #[.int .i64 mr, .int .i64 mc, .bool md, sv mw, .int .i64 mx] rfl rfl (by omega)
       go_wp2_with (first
         | (go_at_call 45; refine kcx.mono ?_; rintro e w2 ⟨rfl, hb2⟩
            have hbb := hbs.trans (hb2.mono hbs.size)
            have own2 := own_call own hbb
            have hb3 := hb.trans (hbb.mono hb.size)
            have hz3 := hb3.size
            have hM2 := hM0.below hb2 hM0.lt
            have y0 : w2.cell? ⟨wr.heap.size, 0, none⟩ = some (.int .i64 mr) := hM2.cell 0
            have y1 : w2.cell? ⟨wr.heap.size, 1, none⟩ = some (.int .i64 mc) := hM2.cell 1
            have y2 : w2.cell? ⟨wr.heap.size, 2, none⟩ = some (.bool md) := hM2.cell 2
            have y3 : w2.cell? ⟨wr.heap.size, 3, none⟩ = some (sv mw) := hM2.cell 3
            have y4 : w2.cell? ⟨wr.heap.size, 4, none⟩ = some (.int .i64 mx) := hM2.cell 4)
         | (at_builtin; refine wpList_app moveT rfl (.tmp 18) (.tmp 20) rfl _ S.length _ rfl w.heap.size own2 (mvC (⟨mr, mc, md, mw⟩, mx)) rfl (by simp [mvC, Value.oneCell']) rfl hSl (by omega) hz3 ?_; intro v6 w6 own6 hg6 hat6))
       go_roundw
       case rel => exact ⟨k + 1, by omega, by go_num, own_cast own6 (by rw [hst2.out, mvsC_append, mvsC_one]) (by rw [hst2.out]; simp), Below.own hb3 hz3 own2 (Nat.le_refl _) hg6⟩
       case measure => simp [intOf]; omega
     · have hst2 : Hid (WS (ms.take (k + 1)) = S) := Lib.hid (by rw [hstep.out]; rfl)
       clear hstep
       simp only [Bool.not_true] at kcx
       go_wp2_with (go_at_call 45; refine kcx.mono ?_; rintro e w2 ⟨rfl, hb2⟩; have hbb := hbs.trans (hb2.mono hbs.size))
       go_roundw
       case rel => exact ⟨k + 1, by omega, by go_num, by rw [hst2.out]; exact own_call own hbb, hb.trans (hbb.mono hb.size)⟩
       case measure => simp [intOf]; omega
   · obtain rfl : k = ms.length := by omega
     have hkk : ¬ (ms.length : Int) < (ms.length : Int) := by omega
     go_wp2_with (fail)
     go_ret
     exact ⟨_, rfl, by rw [hend.out]; exact own, hb⟩
def MissPost (w : World) (t : TS) (b : Bd) (ws : List Str) (rack : Str) (list : List Mv) (e : Ending) (w' : World) : Prop :=
 ∃ v, e = .returned (.tuple #[v, .int .i64 (movesCode t b ws rack)]) ∧ (movesCode t b ws rack = 0 → w'.ownsRow w.heap.size 72 5 v (outM list (movesL t b ws rack)).length (mvsC (outM list (movesL t b ws rack)))) ∧ (movesCode t b ws rack ≠ 0 → v = .slice none 0 0) ∧ Below w.heap.size w w'
theorem MissPost.no {w w' : World} {t : TS} {b : Bd} {ws : List Str} {rack : Str} {list : List Mv} {c : Int} (h : movesCode t b ws rack = c) (hc : c ≠ 0) (hb : Below w.heap.size w w') : MissPost w t b ws rack list (.returned (.tuple #[.slice none 0 0, .int .i64 c])) w' :=
 ⟨_, by rw [h], fun h2 => absurd (h ▸ h2) hc, fun _ => rfl, hb⟩
theorem MissPost.yes {w w' : World} {t : TS} {b : Bd} {ws : List Str} {rack : Str} {list : List Mv} {v : Value} (h : movesCode t b ws rack = 0) (hv : w'.ownsRow w.heap.size 72 5 v (outM list (movesL t b ws rack)).length (mvsC (outM list (movesL t b ws rack)))) (hb : Below w.heap.size w w') : MissPost w t b ws rack list (.returned (.tuple #[v, .int .i64 0])) w' :=
 ⟨v, by rw [h], fun _ => hv, fun h2 => absurd h h2, hb⟩
theorem moves_400 {t : TS} {b : Bd} {ws : List Str} {rack : Str} (h : movesCode t b ws rack = 0) : (movesL t b ws rack).length ≤ 400 := by
 unfold movesCode at h
 split at h
 · rw [movesL_length]
   exact plays_400 h
 · cases h
theorem iMissingMoves_any (A : Option Addr) (c : Nat) (lex : List Str) (t : TS) (A1 A2 : Option Addr) (c1 c2 : Nat) (b : Bd) (rack : Str) (A3 : Option Addr) (c3 : Nat) (list : List Mv) (w : World) (hm : MaxOk w) (hi : TsIn w t A1 A2) (hr : Reads w w.heap.size 1 A lex.length (lex.map sv)) (hA : Plain0 A) (h3 : Reads w w.heap.size 5 A3 list.length (mvsC list)) (hf3 : ∀ ad, A3 = some ad → ∃ g, ad = ⟨g, 0, none⟩) (hn3 : list.length ≤ 2 ^ 40) (hn : lex.length ≤ 2 ^ 32) (hls : ∀ x ∈ lex, x.length ≤ 2 ^ 40) (hp : b.prem.length ≤ 2 ^ 40) (hcl : b.cells.length ≤ 2 ^ 40) (hrk : rack.length ≤ 2 ^ 32) (hl : t.letters.length ≤ 2 ^ 40) (hv : t.values.length ≤ 2 ^ 40) (hc : t.counts.length ≤ 2 ^ 40) :
   Calls Tryz.prog 26 #[.agg #[.slice A lex.length c], t.v A1 c1 A2 c2, b.v, sv rack, .slice A3 list.length c3] w (MissPost w t b lex rack list) := by
 have kt := fun (W : World) (hW : Below w.heap.size w W) => iTryMoves_any A c lex t A1 A2 c1 c2 b rack W (hm.below hW) (hi.below hW) ((hr.below hW).more hW.size) hA hn hls hp hcl hrk hl hv hc
 have ks := fun (gl : Nat) (Ax : Option Addr) (cx : Nat) (ms : List Mv) (W : World) (hW : Below w.heap.size w W) (hl : Blk W gl 33 #[.slice A3 list.length c3]) hx hfx hml => selectedM_any gl A3 Ax c3 cx list ms W hl ((h3.below hW).more hW.size) hf3 hn3 hx hfx hml
 clear hm hi hr hA h3 hf3 hn hls hp hcl hrk hl hv hc
 by_cases hC : movesCode t b lex rack = 0
 · have hml := moves_400 hC
   have hend : Hid (∀ v w', w'.ownsRow w.heap.size 72 5 v (outM list (movesL t b lex rack)).length (mvsC (outM list (movesL t b lex rack))) → Below w.heap.size w w' → MissPost w t b lex rack list (.returned (.tuple #[v, .int .i64 0])) w') := Lib.hid (fun v w' h1 h2 => MissPost.yes hC h1 h2)
   have kt := fun W hW => (kt W hW).mono fun e w' (h : MovesPost W t b lex rack e w') => (show ∃ v, e = .returned (.tuple #[v, .int .i64 0]) ∧ w'.ownsRow W.heap.size 72 5 v (movesL t b lex rack).length (mvsC (movesL t b lex rack)) ∧ Below W.heap.size W w' from by
     obtain ⟨v, h1, h2, _, h4⟩ := h
     exact ⟨v, by rw [h1, hC], h2 hC, h4⟩)
   obtain ⟨Ps, hPs⟩ : ∃ Ps, Ps = MissPost w t b lex rack list := ⟨_, rfl⟩
   rw [← hPs] at hend ⊢
   obtain ⟨M, hM⟩ : ∃ M, M = movesL t b lex rack := ⟨_, rfl⟩
   rw [← hM] at hml hend kt
   clear hPs hM hC
   have ks := fun (gl : Nat) (Ax : Option Addr) (cx : Nat) (W : World) hW hl hx hfx => ks gl Ax cx M W hW hl hx hfx (by omega)
   obtain ⟨O, hO⟩ : ∃ O, O = outM list M := ⟨_, rfl⟩
   rw [← hO] at hend ks
   clear hO
   obtain ⟨sz, bp, bc⟩ := b
   simp only [Bd.v, TS.v] at *
   obtain ⟨W, hW⟩ : ∃ W, W = (((w.alloc (.cells #[.slice A lex.length c] 36)).alloc (.cells #[sv t.letters, .slice A1 t.values.length c1, .slice A2 t.counts.length c2, .int .i64 t.blanks] 38)).alloc (.cells #[.int .i64 sz, sv bp, sv bc] 40)).alloc (.cells #[.slice A3 list.length c3] 33) := ⟨_, rfl⟩
   have hb : Below w.heap.size w W := by rw [hW]; exact ((((Below.refl _ _).alloc (Nat.le_refl _) _).alloc (by simp) _).alloc (by simp; omega) _).alloc (by simp; omega) _
   have hL : Blk W (w.heap.size + 1 + 1 + 1) 33 #[.slice A3 list.length c3] := by
     rw [hW]
     have := Blk.new (((w.alloc (.cells #[.slice A lex.length c] 36)).alloc (.cells #[sv t.letters, .slice A1 t.values.length c1, .slice A2 t.counts.length c2, .int .i64 t.blanks] 38)).alloc (.cells #[.int .i64 sz, sv bp, sv bc] 40)) 33 #[.slice A3 list.length c3]
     simpa using this
   go_enter Tryz.func26, Tryz.ntmps26
   go_wp2_with (first
     | (go_at_call 13; rw [← hW]; refine (kt _ hb).mono ?_; rintro e w1 ⟨v1, rfl, own1, hb1⟩; obtain ⟨B1, d1, rfl, hd1, hr1, hf1⟩ := own_form own1
        have hw1 := hb.trans (hb1.mono hb.size)
        have hL1 := hL.below hb1 hL.lt)
     | (go_at_call 44; refine (ks _ _ _ _ hw1 hL1 hr1 hf1).mono ?_; rintro e w2 ⟨v2, rfl, own2, hb2⟩))
   exact hend.out _ _ (own_base own2 hw1.size) (hw1.trans (hb2.mono hw1.size))
 · have hend : Hid (∀ w', Below w.heap.size w w' → MissPost w t b lex rack list (.returned (.tuple #[.slice none 0 0, .int .i64 (movesCode t b lex rack)])) w') := Lib.hid (fun w' h => MissPost.no rfl hC h)
   have kt := fun W hW => (kt W hW).mono fun e w' (h : MovesPost W t b lex rack e w') => (show e = .returned (.tuple #[.slice none 0 0, .int .i64 (movesCode t b lex rack)]) ∧ Below W.heap.size W w' from by
     obtain ⟨v, h1, _, h3, h4⟩ := h
     exact ⟨by rw [h1, h3 hC], h4⟩)
   have hne : (movesCode t b lex rack != 0) = true := by simpa using hC
   have hne2 : (movesCode t b lex rack == 0) = false := by simpa using hC
   obtain ⟨Ps, hPs⟩ : ∃ Ps, Ps = MissPost w t b lex rack list := ⟨_, rfl⟩
   rw [← hPs] at hend ⊢
   obtain ⟨C, hCC⟩ : ∃ C, C = movesCode t b lex rack := ⟨_, rfl⟩
   rw [← hCC] at hend kt hne hne2
   clear hPs hCC hC ks
   obtain ⟨sz, bp, bc⟩ := b
   simp only [Bd.v, TS.v] at *
   obtain ⟨W, hW⟩ : ∃ W, W = (((w.alloc (.cells #[.slice A lex.length c] 36)).alloc (.cells #[sv t.letters, .slice A1 t.values.length c1, .slice A2 t.counts.length c2, .int .i64 t.blanks] 38)).alloc (.cells #[.int .i64 sz, sv bp, sv bc] 40)).alloc (.cells #[.slice A3 list.length c3] 33) := ⟨_, rfl⟩
   have hb : Below w.heap.size w W := by rw [hW]; exact ((((Below.refl _ _).alloc (Nat.le_refl _) _).alloc (by simp) _).alloc (by simp; omega) _).alloc (by simp; omega) _
   go_enter Tryz.func26, Tryz.ntmps26
   go_wp2_with (go_at_call 13; rw [← hW]; refine (kt _ hb).mono ?_; rintro e w1 ⟨rfl, hb1⟩)
   exact hend.out _ (hb.trans (hb1.mono hb.size))
end Go.Proofs.YtohopceknpgcnaaGreatDoor
