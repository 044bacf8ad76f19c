/-
  Contract: TryMoves of the impl package (layer 16); Contracts: moves in a list (layer 16 of both packages); slices.Index, slices.Contains at moves; Contracts: MissingMoves of both packages (layer 16); Contract: CheckMoves of the spec package (layer 16); Contract: CheckMoves of the impl package (layer 16).
  Conditions: strings of common size; the slices lie in memory; the library's variable MaxLen reads as a number; the slice reads as a list of moves; strings of common size; the slices lie in memory.
-/
import Derived.Test.YtdkckikobefekaaGreatDoorM25
import Derived.Test.YtdkckikobefekaaGreatDoorM27
import Derived.Test.YtdkckikobefekaaGreatDoorM19
import Derived.Test.YtdkckikobefekaaGreatDoorM21
import Derived.Test.YtdkckikobefekaaGreatDoorM20
namespace Go.Proofs.YtdkckikobefekaaGreatDoor
open Go.RowKit RegP RegL RegV
set_option maxHeartbeats 2000000
set_option maxRecDepth 100000
theorem play_bd {b : Bd} {q : Pl} (hf : b.Fit) (hon : OnQ b q) (h : 0 < q.word.length) : (0 ≤ q.row ∧ q.row ≤ 14) ∧ 0 ≤ q.col ∧ q.col ≤ 14 := by
 have h1 := hon 0 h
 obtain ⟨⟨r0, r1⟩, c0, c1⟩ := inB_iff.1 h1
 have h15 := hf.hi
 unfold Pl.sr Pl.sc at *
 cases hd : q.down <;> rw [hd] at r0 r1 c0 c1 <;> simp at r0 r1 c0 c1 <;> omega
theorem scoreOne (t : TS) (A1 A2 : Option Addr) (c1 c2 : Nat) (b : Bd) (lex : List Str) (rack : Str) (ho : TsOk t) (hbd : bdB b = true) (q : Pl) (hq : q ∈ playsL b lex rack) (w : World) (hi : TsIn w t A1 A2) :
   Calls Tryz.prog 93 #[t.v A1 c1 A2 c2, b.v, q.v] w fun e w' => e = .returned (.int .i64 (scoreS t (flatB b q) (flatP q))) ∧ Below w.heap.size w w' := by
 have hok : okB b q = true := by
   have h := playsL_legal q hq
   unfold legalC at h
   by_cases ho : okB b q = true
   · exact ho
   · rw [if_neg ho] at h; cases h
 have hv : validI b q = true := by rw [← okB_validI hbd]; exact hok
 obtain ⟨hon, hw, h2, h12⟩ := validI_facts hv
 obtain ⟨⟨r0, r1⟩, c0, c1'⟩ := play_bd (bdB.fit hbd) hon (by omega)
 rw [score_same hbd hv]
 exact scorePlay_any t A1 A2 c1 c2 b q w hi ho (bdB.fit hbd) (lettB_ascii hw) hon (by omega) (by omega) (by omega) (by omega) (by omega)
theorem iTryMoves_bad (A : Option Addr) (c : Nat) (lex : List Str) (t : TS) (A1 A2 : Option Addr) (c1 c2 : Nat) (b : Bd) (rack : Str) (w : World) (C : Int) (hC : C ≠ 0) (hC1 : movesCode t b lex rack = C) (htb : tsB t = true)
   (kv : ∀ W, Below w.heap.size w W → Calls Tryz.prog 140 #[t.v A1 c1 A2 c2] W fun e w' => e = .returned (.bool (tsB t)) ∧ Below W.heap.size W w')
   (kt : ∀ W, Below w.heap.size w W → Calls Tryz.prog 141 #[.agg #[.slice A lex.length c], b.v, sv rack] W fun e w' => e = .returned (.tuple #[.slice none 0 0, .int .i64 C]) ∧ Below W.heap.size W w') :
   Calls Tryz.prog 69 #[.agg #[.slice A lex.length c], t.v A1 c1 A2 c2, b.v, sv rack] w (MovesPost w t b lex rack) := by
 rw [htb] at kv
 have hend : Hid (∀ w', Below w.heap.size w w' → MovesPost w t b lex rack (.returned (.tuple #[.slice none 0 0, .int .i64 C])) w') := Lib.hid (fun w' h => MovesPost.no hC1 hC h)
 obtain ⟨Ps, hPs⟩ : ∃ Ps, Ps = MovesPost w t b lex rack := ⟨_, rfl⟩
 rw [← hPs] at hend ⊢
 clear hPs hC1 htb
 have hne : (C != 0) = true := by simpa using hC
 have hne2 : (C == 0) = false := by simpa using hC
 obtain ⟨sz, bp, bc⟩ := b
 simp only [Bd.v, TS.v] at *
 obtain ⟨W, hW⟩ : ∃ W, W = ((w.alloc (.cells #[.slice A lex.length c] 37)).alloc (.cells #[sv t.letters, .slice A1 t.values.length c1, .slice A2 t.counts.length c2, .int .i64 t.blanks] 39)).alloc (.cells #[.int .i64 sz, sv bp, sv bc] 41) := ⟨_, rfl⟩
 have hb : Below w.heap.size w W := by rw [hW]; exact (((Below.refl _ _).alloc (Nat.le_refl _) _).alloc (by simp) _).alloc (by simp; omega) _
 have hL : Blk W w.heap.size 37 #[.slice A lex.length c] := by rw [hW]; exact ((Blk.new w _ _).alloc _).alloc _
 have hB : Blk W (w.heap.size + 1 + 1) 41 #[.int .i64 sz, sv bp, sv bc] := by rw [hW]; exact Blk.new2 w _ _ _ _
 go_enter Tryz.func69, Tryz.ntmps69
 go_wp2_with (first
   | (go_at_call 140; rw [← hW]; refine (kv _ hb).mono ?_; rintro e w1 ⟨rfl, hb1⟩
      have hL1 := hL.below hb1 hL.lt
      have hB1 := hB.below hb1 hB.lt
      have hw1 := hb.trans (hb1.mono hb.size)
      have x0 : w1.cell? ⟨w.heap.size, 0, none⟩ = some (.slice A lex.length c) := hL1.cell 0
      have x1 : w1.cell? ⟨w.heap.size + 1 + 1, 0, none⟩ = some (.int .i64 sz) := hB1.cell 0
      have x2 : w1.cell? ⟨w.heap.size + 1 + 1, 1, none⟩ = some (sv bp) := hB1.cell 1
      have x3 : w1.cell? ⟨w.heap.size + 1 + 1, 2, none⟩ = some (sv bc) := hB1.cell 2)
   | (go_at_call 141; refine (kt _ hw1).mono ?_; rintro e w2 ⟨rfl, hb2⟩))
 exact hend.out _ (hw1.trans (hb2.mono hw1.size))
theorem iTryMoves_no (A : Option Addr) (c : Nat) (lex : List Str) (t : TS) (A1 A2 : Option Addr) (c1 c2 : Nat) (b : Bd) (rack : Str) (w : World) (htb : tsB t = false)
   (kv : ∀ W, Below w.heap.size w W → Calls Tryz.prog 140 #[t.v A1 c1 A2 c2] W fun e w' => e = .returned (.bool (tsB t)) ∧ Below W.heap.size W w') :
   Calls Tryz.prog 69 #[.agg #[.slice A lex.length c], t.v A1 c1 A2 c2, b.v, sv rack] w (MovesPost w t b lex rack) := by
 have hC1 : movesCode t b lex rack = 1 := by unfold movesCode; rw [htb]; rfl
 rw [htb] at kv
 have hend : Hid (∀ w', Below w.heap.size w w' → MovesPost w t b lex rack (.returned (.tuple #[.slice none 0 0, .int .i64 1])) w') := Lib.hid (fun w' h => MovesPost.no hC1 (by decide) h)
 obtain ⟨Ps, hPs⟩ : ∃ Ps, Ps = MovesPost w t b lex rack := ⟨_, rfl⟩
 rw [← hPs] at hend ⊢
 clear hPs hC1 htb
 obtain ⟨sz, bp, bc⟩ := b
 simp only [Bd.v, TS.v] at *
 obtain ⟨W, hW⟩ : ∃ W, W = ((w.alloc (.cells #[.slice A lex.length c] 37)).alloc (.cells #[sv t.letters, .slice A1 t.values.length c1, .slice A2 t.counts.length c2, .int .i64 t.blanks] 39)).alloc (.cells #[.int .i64 sz, sv bp, sv bc] 41) := ⟨_, rfl⟩
 have hb : Below w.heap.size w W := by rw [hW]; exact (((Below.refl _ _).alloc (Nat.le_refl _) _).alloc (by simp) _).alloc (by simp; omega) _
 go_enter Tryz.func69, Tryz.ntmps69
 go_wp2_with (go_at_call 140; rw [← hW]; refine (kv _ hb).mono ?_; rintro e w1 ⟨rfl, hb1⟩)
 exact hend.out _ (hb.trans (hb1.mono hb.size))
theorem iTryMoves_good (A : Option Addr) (c : Nat) (lex : List Str) (t : TS) (A1 A2 : Option Addr) (c1 c2 : Nat) (b : Bd) (rack : Str) (w : World) (hC : movesCode t b lex rack = 0) (hpl : (playsL b lex rack).length ≤ 400) (hi : TsIn w t A1 A2) (htb : tsB t = true)
   (ks : ∀ q ∈ playsL b lex rack, ∀ W, TsIn W t A1 A2 → Calls Tryz.prog 93 #[t.v A1 c1 A2 c2, b.v, q.v] W fun e w' => e = .returned (.int .i64 (scoreS t (flatB b q) (flatP q))) ∧ Below W.heap.size W w')
   (kv : ∀ W, Below w.heap.size w W → Calls Tryz.prog 140 #[t.v A1 c1 A2 c2] W fun e w' => e = .returned (.bool (tsB t)) ∧ Below W.heap.size W w')
   (kt : ∀ W, Below w.heap.size w W → Calls Tryz.prog 141 #[.agg #[.slice A lex.length c], b.v, sv rack] W fun e w' => (∃ v, w'.ownsRow W.heap.size 61 4 v (playsL b lex rack).length (psC (playsL b lex rack)) ∧ e = .returned (.tuple #[v, .int .i64 0])) ∧ Below W.heap.size W w') :
   Calls Tryz.prog 69 #[.agg #[.slice A lex.length c], t.v A1 c1 A2 c2, b.v, sv rack] w (MovesPost w t b lex rack) := by
 rw [htb] at kv
 have hend : Hid (∀ v w', w'.ownsRow w.heap.size 124 5 v (movesL t b lex rack).length (mvsC (movesL t b lex rack)) → Below w.heap.size w w' → MovesPost w t b lex rack (.returned (.tuple #[v, .int .i64 0])) w') := Lib.hid (fun v w' h1 h2 => MovesPost.yes hC h1 h2)
 have hstep : Hid (∀ k (h : k < (playsL b lex rack).length), (movesL t b lex rack).take (k + 1) = (movesL t b lex rack).take k ++ [((playsL b lex rack)[k], scoreS t (flatB b (playsL b lex rack)[k]) (flatP (playsL b lex rack)[k]))]) := Lib.hid (movesL_take t b lex rack)
 have hmlen := movesL_length t b lex rack
 have ks' := Lib.hid ks
 obtain ⟨Ps, hPs⟩ : ∃ Ps, Ps = MovesPost w t b lex rack := ⟨_, rfl⟩
 rw [← hPs] at hend ⊢
 obtain ⟨P, hP⟩ : ∃ P, P = playsL b lex rack := ⟨_, rfl⟩
 rw [← hP] at hpl hmlen hstep ks' kt
 obtain ⟨M, hM⟩ : ∃ M, M = movesL t b lex rack := ⟨_, rfl⟩
 rw [← hM] at hmlen hstep hend
 obtain ⟨SS, hSS⟩ : ∃ SS : Pl → Int, SS = fun q => scoreS t (flatB b q) (flatP q) := ⟨_, rfl⟩
 have hSS' : ∀ q, scoreS t (flatB b q) (flatP q) = SS q := fun q => by rw [hSS]
 simp only [hSS'] at hstep ks'
 have hmlen' := Lib.hid hmlen
 clear hPs hP hM hSS hSS' hC htb ks hmlen
 obtain ⟨sz, bp, bc⟩ := b
 simp only [Bd.v, TS.v] at *
 obtain ⟨W, hW⟩ : ∃ W, W = ((w.alloc (.cells #[.slice A lex.length c] 37)).alloc (.cells #[sv t.letters, .slice A1 t.values.length c1, .slice A2 t.counts.length c2, .int .i64 t.blanks] 39)).alloc (.cells #[.int .i64 sz, sv bp, sv bc] 41) := ⟨_, rfl⟩
 have hb : Below w.heap.size w W := by rw [hW]; exact (((Below.refl _ _).alloc (Nat.le_refl _) _).alloc (by simp) _).alloc (by simp; omega) _
 have hL : Blk W w.heap.size 37 #[.slice A lex.length c] := by rw [hW]; exact ((Blk.new w _ _).alloc _).alloc _
 have hT : Blk W (w.heap.size + 1) 39 #[sv t.letters, .slice A1 t.values.length c1, .slice A2 t.counts.length c2, .int .i64 t.blanks] := by rw [hW]; exact (Blk.new1 w _ _ _).alloc _
 have hB : Blk W (w.heap.size + 1 + 1) 41 #[.int .i64 sz, sv bp, sv bc] := by rw [hW]; exact Blk.new2 w _ _ _ _
 go_enter Tryz.func69, Tryz.ntmps69
 go_wp2_with (first
   | (go_at_call 140; rw [← hW]; refine (kv _ hb).mono ?_; rintro e w1 ⟨rfl, hb1⟩
      have hL1 := hL.below hb1 hL.lt
      have hT1 := hT.below hb1 hT.lt
      have hB1 := hB.below hb1 hB.lt
      have hw1 := hb.trans (hb1.mono hb.size)
      have x0 : w1.cell? ⟨w.heap.size, 0, none⟩ = some (.slice A lex.length c) := hL1.cell 0
      have x1 : w1.cell? ⟨w.heap.size + 1 + 1, 0, none⟩ = some (.int .i64 sz) := hB1.cell 0
      have x2 : w1.cell? ⟨w.heap.size + 1 + 1, 1, none⟩ = some (sv bp) := hB1.cell 1
      have x3 : w1.cell? ⟨w.heap.size + 1 + 1, 2, none⟩ = some (sv bc) := hB1.cell 2)
   | (go_at_call 141; refine (kt _ hw1).mono ?_; rintro e w2 ⟨⟨v2, own1, rfl⟩, hb2⟩; obtain ⟨B2, d2, rfl, hd2, hr2, hf2⟩ := own_form own1))
 have hw2 := hw1.trans (hb2.mono hw1.size)
 have hT2 := hT1.below hb2 hT1.lt
 have hB2 := hB1.below hb2 hB1.lt
 have own0 := World.ownsRow_lit (base := w2.heap.size) (size := 5) (e := 124) w2 #[] 0 (Nat.le_refl _) (by unfold maxLen; omega) rfl
 clear hW hb hL hT hB hL1 hT1 hB1 hw1 hb1 hb2 x0 x1 x2 x3 own1 kv kt
 go_loopw [12, 31] (fun o i wr => ∃ k : Nat, k ≤ P.length ∧ i = .int .i64 k ∧ wr.ownsRow w2.heap.size 124 5 o k (mvsC (M.take k)) ∧ Below w2.heap.size w2 wr) (fun _ i _ => P.length - (intOf i).toNat)
 case atStart => exact ⟨0, by omega, rfl, own0, (Below.refl _ _).alloc (Nat.le_refl _) _⟩
 case round =>
   clear own0
   obtain ⟨k, hk, rfl, own2, hbr⟩ := hrel
   by_cases hkl : k < P.length
   · have hkk : (k : Int) < (P.length : Int) := by omega
     have hr3 := (hr2.below hbr).more hbr.size
     obtain ⟨ad, ea, hlt⟩ := hr3.2 (by omega)
     obtain ⟨g, rfl⟩ := hf2 ad ea
     subst ea
     obtain ⟨e0, e1, e2, e3⟩ := hr3.pl hkl
     simp only [Nat.zero_add] at e0 e1 e2 e3
     have hst := Lib.hid (hstep.out k hkl)
     have hsq := ks'.out P[k] (List.getElem_mem _)
     have hg : g < wr.heap.size := hlt.1
     obtain ⟨y, hy⟩ : ∃ y, y = P[k] := ⟨_, rfl⟩
     rw [← hy] at e0 e1 e2 e3 hst hsq
     clear hy
     obtain ⟨R, hR⟩ : ∃ R, R = SS y := ⟨_, rfl⟩
     rw [← hR] at hst hsq
     clear hR
     obtain ⟨yr, yc, yd, ys⟩ := y
     simp only [Pl.v] at hsq e0 e1 e2 e3
     have hwr := hw2.trans (hbr.mono hw2.size)
     clear hr3
     go_wp2_with (fail)
     have hS0 := Blk.new wr 61 #[.int .i64 yr, .int .i64 yc, .bool yd, sv ys]
     have hbs := (Below.refl wr.heap.size wr).alloc (Nat.le_refl _) (.cells #[.int .i64 yr, .int .i64 yc, .bool yd, sv ys] 61)
     obtain ⟨wx, hwx⟩ : ∃ wx, wx = wr.alloc (.cells #[.int .i64 yr, .int .i64 yc, .bool yd, sv ys] 61) := ⟨_, rfl⟩
     rw [← hwx] at hS0 hbs ⊢
     clear hwx
     have hbl := hbr.trans (hbs.mono hbr.size)
     have hown := own_call own2 hbs
     have hTx := hT2.below hbl hT2.lt
     have hBx := hB2.below hbl hB2.lt
     have hwl := hw2.trans (hbl.mono hw2.size)
     clear own2 e0 e1 e2 e3 hwr
     refine wp_region_v 9 9 (SC 7 8 [1, 2, 3, 4, 5] wx (.cells #[.int .i64 yr, .int .i64 yc, .bool yd, sv ys, .int .i64 R] 124) (fun u w' => ∃ w1, Below wx.heap.size wx w1 ∧ w'.ownsRow w2.heap.size 124 5 u (k + 1) (mvsC (M.take k) ++ mvC (⟨yr, yc, yd, ys⟩, R)) ∧ w1.grownBy w' (u12).ownBlock)) (by kernel_rfl) (by kernel_rfl) ⟨fun _ => undef, SC.start⟩ ?_
     simp only [qqT, List.take_zero, qqD, List.drop_zero]
     apply pv_step (fun _ => rfl)
     · intro σ L w' hS h1 h2 K hK
       clear h2
       go_wp2
       exact hS.keep (by decide) (by decide)
     simp only [Act.put, qqS, qqC, qqZ]
     apply pv_step (fun _ => rfl)
     · intro σ L w' hS h1 h2 K hK
       clear h2
       have f := hS0.below (hS.low (by decide) h1) hS0.lt
       have f0 : w'.cell? ⟨wr.heap.size, 0, none⟩ = some (.int .i64 yr) := f.cell 0
       have f1 : w'.cell? ⟨wr.heap.size, 1, none⟩ = some (.int .i64 yc) := f.cell 1
       have f2 : w'.cell? ⟨wr.heap.size, 2, none⟩ = some (.bool yd) := f.cell 2
       have f3 : w'.cell? ⟨wr.heap.size, 3, none⟩ = some (sv ys) := f.cell 3
       go_wp2
       exact hS.keep (by decide) (by decide)
     simp only [Act.put, qqS, qqC, qqZ]
     apply pv_step (fun _ => rfl)
     · intro σ L w' hS h1 h2 K hK
       clear h2
       have f := hTx.below (hS.low (by decide) h1) hTx.lt
       have f0 : w'.cell? ⟨w.heap.size + 1, 0, none⟩ = some (sv t.letters) := f.cell 0
       have f1 : w'.cell? ⟨w.heap.size + 1, 1, none⟩ = some (.slice A1 t.values.length c1) := f.cell 1
       have f2 : w'.cell? ⟨w.heap.size + 1, 2, none⟩ = some (.slice A2 t.counts.length c2) := f.cell 2
       have f3 : w'.cell? ⟨w.heap.size + 1, 3, none⟩ = some (.int .i64 t.blanks) := f.cell 3
       go_wp2
       exact hS.keep (by decide) (by decide)
     simp only [Act.put, qqS, qqC, qqZ]
     apply pv_step (fun _ => rfl)
     · intro σ L w' hS h1 h2 K hK
       clear h2
       have f := hBx.below (hS.low (by decide) h1) hBx.lt
       have f0 : w'.cell? ⟨w.heap.size + 1 + 1, 0, none⟩ = some (.int .i64 sz) := f.cell 0
       have f1 : w'.cell? ⟨w.heap.size + 1 + 1, 1, none⟩ = some (sv bp) := f.cell 1
       have f2 : w'.cell? ⟨w.heap.size + 1 + 1, 2, none⟩ = some (sv bc) := f.cell 2
       go_wp2
       exact hS.keep (by decide) (by decide)
     simp only [Act.put, qqS, qqC, qqZ]
     apply pv_step (fun _ => rfl)
     · intro σ L w' hS h1 h2 K hK
       clear h2
       have f := hS0.below (hS.low (by decide) h1) hS0.lt
       have f0 : w'.cell? ⟨wr.heap.size, 0, none⟩ = some (.int .i64 yr) := f.cell 0
       have f1 : w'.cell? ⟨wr.heap.size, 1, none⟩ = some (.int .i64 yc) := f.cell 1
       have f2 : w'.cell? ⟨wr.heap.size, 2, none⟩ = some (.bool yd) := f.cell 2
       have f3 : w'.cell? ⟨wr.heap.size, 3, none⟩ = some (sv ys) := f.cell 3
       go_wp2
       exact hS.keep (by decide) (by decide)
     simp only [Act.put, qqS, qqC, qqZ]
     apply pv_step (v := .int .i64 R) (fun _ => rfl)
     · intro σ L w' hS h1 h2 K hK
       clear h2
       have hl := hS.low (by decide) h1
       go_wp2_with (go_at_call 93; refine (hsq _ (hi.below (hwl.trans (hl.mono hwl.size)))).mono ?_; rintro e w5 ⟨rfl, hb5⟩)
       exact hS.call (by decide) h1 (by decide) (by decide) hb5
     simp only [Act.put, qqS, qqC, qqZ]
     apply pv_step (fun _ => rfl)
     · intro σ L w' hS h1 h2 K hK
       clear h2
       go_wp2
       exact hS.keep (by decide) (by decide)
     simp only [Act.put, qqS, qqC, qqZ]
     apply pv_free (fun _ => rfl)
     · intro σ L w' hS h1 h2 K hK
       have p1 := h2 1 (List.contains_iff_mem.1 (by kernel_rfl))
       have p2 := h2 2 (List.contains_iff_mem.1 (by kernel_rfl))
       have p3 := h2 3 (List.contains_iff_mem.1 (by kernel_rfl))
       have p4 := h2 4 (List.contains_iff_mem.1 (by kernel_rfl))
       have p5 := h2 5 (List.contains_iff_mem.1 (by kernel_rfl))
       clear h2
       have hS' := hS.tob h1 (by decide) (by simp [p1, p2, p3, p4, p5])
       have hlit := run_lit1 moveT (.agg #[.int .i64 yr, .int .i64 yc, .bool yd, sv ys, .int .i64 R]) #[.int .i64 yr, .int .i64 yc, .bool yd, sv ys, .int .i64 R] rfl rfl (by omega)
       go_wp2
       exact hS'
     simp only [Act.put, qqS, qqC, qqZ]
     apply pv_free (fun _ => rfl)
     · intro σ L w' hS h1 h2 K hK
       have p7 := h2 7 (List.contains_iff_mem.1 (by kernel_rfl))
       have p1 := h2 1 (List.contains_iff_mem.1 (by kernel_rfl))
       have p2 := h2 2 (List.contains_iff_mem.1 (by kernel_rfl))
       have p3 := h2 3 (List.contains_iff_mem.1 (by kernel_rfl))
       have p4 := h2 4 (List.contains_iff_mem.1 (by kernel_rfl))
       have p5 := h2 5 (List.contains_iff_mem.1 (by kernel_rfl))
       clear h2
       obtain ⟨w1, hl1, e1, rfl⟩ := hS.ata h1 p7
       refine oper_app moveT (.tmp 35) (.tmp 42) rfl u12 k _ rfl w2.heap.size (own_call hown hl1) (mvC (⟨yr, yc, yd, ys⟩, R)) rfl (by simp [mvC, Value.oneCell']) w1.heap.size rfl e1 (by omega) (by omega) (Nat.le_trans hbl.size hl1.size) ?_
       intro v1 w1' h11 h12 h13
       exact hK v1 w1' (SC.toa p7 (by simp [p1, p2, p3, p4, p5]) ⟨w1, hl1, h11, h12⟩)
     simp only [Act.put, qqS, qqC, qqZ]
     refine pv_nil fun σ w8 hS => ?_
     obtain ⟨w1, hl1, own8, hg8⟩ := hS.fin rfl
     obtain ⟨v8, hv8⟩ : ∃ v8, v8 = σ 8 := ⟨_, rfl⟩
     rw [← hv8] at own8
     simp only [← hv8]
     clear hS hv8
     have hown1 := own_call hown hl1
     have hb1 := hbl.trans (hl1.mono hbl.size)
     go_wp2_with (fail)
     go_roundw
     case rel => exact ⟨k + 1, by omega, by go_num, own_cast own8 (by rw [hst.out, mvsC_append, mvsC_one]) rfl, Below.own hb1 hb1.size hown1 (Nat.le_refl _) hg8⟩
     case measure => simp [intOf]; omega
   · obtain rfl : k = P.length := by omega
     have hkk : ¬ (P.length : Int) < (P.length : Int) := by omega
     go_wp2_with (fail)
     rw [List.take_of_length_le (by rw [hmlen'.out]; omega)] at own2
     exact hend.out _ _ (own_cast (own_base own2 hw2.size) rfl hmlen'.out.symm) (hw2.trans (hbr.mono hw2.size))
theorem iTryMoves_any (A : Option Addr) (c : Nat) (lex : List Str) (t : TS) (A1 A2 : Option Addr) (c1 c2 : Nat) (b : Bd) (rack : Str) (w : World) (hm : MaxOk w) (hi : TsIn w t A1 A2) (hr : Reads w w.heap.size 1 A lex.length (lex.map sv)) (hA : Plain0 A) (hn : lex.length ≤ 2 ^ 32) (hls : ∀ x ∈ lex, x.length ≤ 2 ^ 40) (hp : b.prem.length ≤ 2 ^ 40) (hcl : b.cells.length ≤ 2 ^ 40) (hrk : rack.length ≤ 2 ^ 32) (hl : t.letters.length ≤ 2 ^ 40) (hv : t.values.length ≤ 2 ^ 40) (hc : t.counts.length ≤ 2 ^ 40) :
   Calls Tryz.prog 69 #[.agg #[.slice A lex.length c], t.v A1 c1 A2 c2, b.v, sv rack] w (MovesPost w t b lex rack) := by
 have kt := fun (W : World) (hW : Below w.heap.size w W) => tryPlays_any A c lex b rack W (hm.below hW) ((hr.below hW).more hW.size) hA hn hls hp hcl hrk
 have kv := fun (W : World) (hW : Below w.heap.size w W) => validTiles_any t A1 A2 c1 c2 W (hi.below hW) hl hv hc
 cases htb : tsB t
 · exact iTryMoves_no A c lex t A1 A2 c1 c2 b rack w htb kv
 · have hmc : movesCode t b lex rack = playsCode b lex rack := by unfold movesCode; rw [htb]; rfl
   cases hok : argsB b lex rack
   · refine iTryMoves_bad A c lex t A1 A2 c1 c2 b rack w 1 (by decide) (by rw [hmc]; unfold playsCode; rw [hok]; rfl) htb kv fun W hW => (kt W hW).mono ?_
     rintro e w' ⟨h1, h2⟩
     rw [hok] at h2
     exact ⟨h2, h1⟩
   · by_cases hbig : 400 < (foundL b lex rack).length
     · refine iTryMoves_bad A c lex t A1 A2 c1 c2 b rack w 5 (by decide) (by rw [hmc]; unfold playsCode; rw [hok, if_pos rfl, if_pos hbig]) htb kv fun W hW => (kt W hW).mono ?_
       rintro e w' ⟨h1, h2⟩
       rw [hok, if_pos rfl, if_pos ((found_many hok).1 hbig)] at h2
       exact ⟨h2, h1⟩
     · have hfp := found_perm hok hbig
       have hbd : bdB b = true := by unfold argsB at hok; simp only [Bool.and_eq_true] at hok; exact hok.2.1
       have hso : sortI (tryI b lex rack) = playsL b lex rack := sort_same hfp.symm
       refine iTryMoves_good A c lex t A1 A2 c1 c2 b rack w (by rw [hmc]; unfold playsCode; rw [hok, if_pos rfl, if_neg hbig]) (by rw [playsL_length]; omega) hi htb (fun q hq W hW => scoreOne t A1 A2 c1 c2 b lex rack (tsB_ok htb) hbd q hq W hW) kv fun W hW => (kt W hW).mono ?_
       rintro e w' ⟨h1, h2⟩
       rw [hok, if_pos rfl, if_neg (fun h => hbig ((found_many hok).2 h))] at h2
       obtain ⟨v, ps', rfl, h3, h4⟩ := h2
       rw [hso] at h3
       exact ⟨⟨v, h3, h4⟩, h1⟩
set_option maxHeartbeats 4000000
theorem l16In_any (A : Option Addr) (c : Nat) (ms : List Mv) (m : Mv) (k : Nat) (w : World) (h : Reads w w.heap.size 5 A ms.length (mvsC ms)) (hf : ∀ ad, A = some ad → ∃ g, ad = ⟨g, 0, none⟩) (hk : k ≤ ms.length) (hn : ms.length ≤ 2 ^ 40) :
   Calls Tryz.prog 65 #[.slice A ms.length c, mvV m, .int .i64 k] w fun e w' => e = .returned (.bool (inM (ms.take k) m)) ∧ Below w.heap.size w w' := by
 obtain ⟨R, hR⟩ : ∃ R, R = inM (ms.take k) m := ⟨_, rfl⟩
 rw [← hR]
 have hR' := Lib.hid hR
 clear hR
 have hst : Hid (∀ j (h : j < k) (h' : j < ms.length), inM ((ms.take k).drop j) m = (eqMv ms[j] m || inM ((ms.take k).drop (j + 1)) m)) := Lib.hid (fun j h h' => by
   rw [drop_cons (ms.take k) j (by rw [List.length_take]; omega)]
   simp [inM])
 have hen : Hid (inM ((ms.take k).drop k) m = false) := Lib.hid (by rw [drop_all _ _ (by rw [List.length_take]; omega)]; rfl)
 have heq0 := fun (w : World) (x : Mv) a b => mv_guard w x m a b
 have heq1 := fun (w : World) (x : Mv) => mv_eql w x m
 obtain ⟨E, hE⟩ : ∃ E : Mv → Bool, E = fun x => eqMv x m := ⟨_, rfl⟩
 have hE' : ∀ x, eqMv x m = E x := fun x => by rw [hE]
 simp only [hE'] at hst heq1
 clear hE hE'
 obtain ⟨⟨mr, mc, md, mw⟩, mx⟩ := m
 simp only [mvV] at heq0 heq1 ⊢
 have hbW := (Below.refl w.heap.size w).alloc (Nat.le_refl _) (.cells #[.int .i64 mr, .int .i64 mc, .bool md, sv mw, .int .i64 mx] 124)
 have hM0 := Blk.new w 124 #[.int .i64 mr, .int .i64 mc, .bool md, sv mw, .int .i64 mx]
 go_enter Tryz.func65, Tryz.ntmps65
 go_wp2_with (fail)
 obtain ⟨W, hW⟩ : ∃ W, W = w.alloc (.cells #[.int .i64 mr, .int .i64 mc, .bool md, sv mw, .int .i64 mx] 124) := ⟨_, rfl⟩
 rw [← hW] at hbW hM0 ⊢
 clear hW
 go_loopw [7] (fun i wr => ∃ j : Nat, j ≤ k ∧ i = .int .i64 j ∧ Hid (R = inM ((ms.take k).drop j) (⟨mr, mc, md, mw⟩, mx)) ∧ Below W.heap.size W wr) (fun i _ => k - (intOf i).toNat)
 case atStart => exact ⟨0, by omega, rfl, Lib.hid (by rw [hR'.out]; rfl), Below.refl _ _⟩
 case round =>
   obtain ⟨j, hj, rfl, he, hb⟩ := hrel
   by_cases hjk : j < k
   · have hjl : j < ms.length := by omega
     have hbw := hbW.trans (hb.mono hbW.size)
     have r1 := (h.below hbw).more hbw.size
     obtain ⟨ad1, e1, hd1, _⟩ := r1.2 (by omega)
     obtain ⟨g, rfl⟩ := hf ad1 e1
     subst e1
     obtain ⟨x0, x1, x2, x3, x4⟩ := r1.mv hjl
     simp only [Nat.zero_add] at x0 x1 x2 x3 x4
     have hst2 : Hid (R = (E ms[j] || inM ((ms.take k).drop (j + 1)) (⟨mr, mc, md, mw⟩, mx))) := Lib.hid (by rw [he.out, hst.out j hjk hjl])
     have q0 := fun (w : World) a b => heq0 w ms[j] a b
     have q1 := fun (w : World) => heq1 w ms[j]
     obtain ⟨x, hx⟩ : ∃ x, x = ms[j] := ⟨_, rfl⟩
     rw [← hx] at x0 x1 x2 x3 x4 q0 q1 hst2
     clear hx r1 heq0 heq1
     obtain ⟨eb, heb⟩ : ∃ eb, eb = E x := ⟨_, rfl⟩
     rw [← heb] at q1 hst2
     clear heb
     obtain ⟨⟨xr, xc, xd, xw⟩, xx⟩ := x
     simp only at x0 x1 x2 x3 x4 q0 q1
     have hg : g < wr.heap.size := hd1
     have hMr := hM0.below hb hM0.lt
     have hjj : (j : Int) < (k : Int) := by omega
     have hjl' : (j : Int) < (ms.length : Int) := by omega
     have hj0 : (0 : Int) ≤ (j : Int) := by omega
     cases eb
     all_goals
       go_wp2_with (fail)
       refine wp_region_b 6 (by kernel_rfl) (by kernel_rfl) ?_
       simp only [qqT, List.take_zero, qqD, List.drop_zero]
       iterate 6
         apply pc_step rfl
         · intro w4 hb4 K hK
           have hM4 := hMr.below hb4 hMr.lt
           have y0 : w4.cell? ⟨w.heap.size, 0, none⟩ = some (.int .i64 mr) := hM4.cell 0
           have y1 : w4.cell? ⟨w.heap.size, 1, none⟩ = some (.int .i64 mc) := hM4.cell 1
           have y2 : w4.cell? ⟨w.heap.size, 2, none⟩ = some (.bool md) := hM4.cell 2
           have y3 : w4.cell? ⟨w.heap.size, 3, none⟩ = some (sv mw) := hM4.cell 3
           have y4 : w4.cell? ⟨w.heap.size, 4, none⟩ = some (.int .i64 mx) := hM4.cell 4
           have a0 := (hb4.cell (p := ⟨g, j * 5, none⟩) hg).trans x0
           have a1 := (hb4.cell (p := ⟨g, j * 5 + 1, none⟩) hg).trans x1
           have a2 := (hb4.cell (p := ⟨g, j * 5 + 2, none⟩) hg).trans x2
           have a3 := (hb4.cell (p := ⟨g, j * 5 + 3, none⟩) hg).trans x3
           have a4 := (hb4.cell (p := ⟨g, j * 5 + 4, none⟩) hg).trans x4
           go_wp2_with (fail)
           all_goals first | exact hb4 | exact hb4.trans (hb5.mono hb4.size) | exact hb4.trans (hd5.below.mono hb4.size)
         simp only [Act.put, qqS, qqC, qqZ]
       refine pc_nil ?_
       intro w4 hb4
       have hb5 := hb.trans (hb4.mono hb.size)
       go_wp2_with (fail)
     · go_roundw
       case rel => exact ⟨j + 1, by omega, by go_num, Lib.hid (by rw [hst2.out]; rfl), hb5⟩
       case measure => simp only [intOf]; omega
     · go_ret
       exact ⟨ret_bool (by rw [hst2.out]; rfl), hbW.trans (hb5.mono hbW.size)⟩
   · obtain rfl : j = k := by omega
     have hjj : ¬ (j : Int) < (j : Int) := by omega
     go_wp2_with (fail)
     go_ret
     exact ⟨ret_bool (by rw [he.out, hen.out]), hbW.trans (hb.mono hbW.size)⟩
def outM (list ms : List Mv) : List Mv := ms.filter fun m => !inM list m
def MissPost (w : World) (t : TS) (b : Bd) (ws : List Str) (rack : Str) (list : List Mv) (e : Ending) (w' : World) : Prop :=
 ∃ v, e = .returned (.tuple #[v, .int .i64 (movesCode t b ws rack)]) ∧ (movesCode t b ws rack = 0 → w'.ownsRow w.heap.size 124 5 v (outM list (movesL t b ws rack)).length (mvsC (outM list (movesL t b ws rack)))) ∧ (movesCode t b ws rack ≠ 0 → v = .slice none 0 0) ∧ Below w.heap.size w w'
theorem MissPost.no {w w' : World} {t : TS} {b : Bd} {ws : List Str} {rack : Str} {list : List Mv} {c : Int} (h : movesCode t b ws rack = c) (hc : c ≠ 0) (hb : Below w.heap.size w w') : MissPost w t b ws rack list (.returned (.tuple #[.slice none 0 0, .int .i64 c])) w' :=
 ⟨_, by rw [h], fun h2 => absurd (h ▸ h2) hc, fun _ => rfl, hb⟩
theorem MissPost.yes {w w' : World} {t : TS} {b : Bd} {ws : List Str} {rack : Str} {list : List Mv} {v : Value} (h : movesCode t b ws rack = 0) (hv : w'.ownsRow w.heap.size 124 5 v (outM list (movesL t b ws rack)).length (mvsC (outM list (movesL t b ws rack)))) (hb : Below w.heap.size w w') : MissPost w t b ws rack list (.returned (.tuple #[v, .int .i64 0])) w' :=
 ⟨v, by rw [h], fun _ => hv, fun h2 => absurd h h2, hb⟩
theorem moves_400 {t : TS} {b : Bd} {ws : List Str} {rack : Str} (h : movesCode t b ws rack = 0) : (movesL t b ws rack).length ≤ 400 := by
 unfold movesCode at h
 split at h
 · rw [movesL_length]
   exact plays_400 h
 · cases h
def chkGo (all : List Mv) (pre : List Mv) : List Mv → Nat → Nat
 | [], i => i
 | x :: r, i => if (!inM all x) || inM pre x then i else chkGo all (pre ++ [x]) r (i + 1)
def chk (all list : List Mv) : Nat := chkGo all [] list 0
theorem chk_step (all list : List Mv) (k : Nat) (h : k < list.length) :
   chkGo all (list.take k) (list.drop k) k = if (!inM all list[k]) || inM (list.take k) list[k] then k else chkGo all (list.take (k + 1)) (list.drop (k + 1)) (k + 1) := by
 rw [drop_cons list k h, chkGo, List.take_succ_eq_append_getElem h]
theorem chk_end (all list : List Mv) : chkGo all (list.take list.length) (list.drop list.length) list.length = list.length := by
 rw [List.drop_length]; rfl
theorem ret_two {a b c : Int} (h : a = b) : Ending.returned (.tuple #[.int .i64 a, .int .i64 c]) = .returned (.tuple #[.int .i64 b, .int .i64 c]) := by rw [h]
theorem sCheckMoves_any (rack : Str) (t : TS) (A1 A2 : Option Addr) (c1 c2 : Nat) (b : Bd) (A : Option Addr) (c0 : Nat) (ws : List Str) (A3 : Option Addr) (c3 : Nat) (list : List Mv) (w : World) (hi : TsIn w t A1 A2) (hr : Reads w w.heap.size 1 A ws.length (ws.map sv)) (h3 : Reads w w.heap.size 5 A3 list.length (mvsC list)) (hf3 : ∀ ad, A3 = some ad → ∃ g, ad = ⟨g, 0, none⟩) (hn3 : list.length ≤ 2 ^ 40) (hn : ws.length ≤ 2 ^ 40) (hwl : ∀ x ∈ ws, x.length ≤ 2 ^ 40) (hrk : rack.length ≤ 2 ^ 40) (h1 : b.prem.length ≤ 2 ^ 40) (h2 : b.cells.length ≤ 2 ^ 40) (hl : t.letters.length ≤ 2 ^ 40) (hv : t.values.length ≤ 2 ^ 40) (hc : t.counts.length ≤ 2 ^ 40) :
   Calls Tryz.prog 15 #[.agg #[.slice A ws.length c0], t.v A1 c1 A2 c2, b.v, sv rack, .slice A3 list.length c3] w fun e w' => e = .returned (.tuple #[.int .i64 (if movesCode t b ws rack = 0 then (chk (movesL t b ws rack) list : Int) else 0), .int .i64 (movesCode t b ws rack)]) ∧ Below w.heap.size w w' := by
 have kp := fun (pl pt : Addr) (gb : Nat) (w : World) ht hp hlx => l16Moves_any pl pt gb rack t A1 A2 c1 c2 b A c0 ws w ht hp hlx hn hwl hrk h1 h2 hl hv hc
 have kin := fun (m : Mv) (k : Nat) (hk : k ≤ list.length) (W : World) (hW : Below w.heap.size w W) => l16In_any A3 c3 list m k W ((h3.below hW).more hW.size) hf3 hk hn3
 clear hn hwl hrk h1 h2 hl hv hc
 simp only [TS.v, Bd.v]
 have hL := Blk.new w 37 #[.slice A ws.length c0]
 obtain ⟨W1, hW1⟩ : ∃ W1, W1 = w.alloc (.cells #[.slice A ws.length c0] 37) := ⟨_, rfl⟩
 rw [← hW1] at hL
 have hz1 : W1.heap.size = w.heap.size + 1 := by rw [hW1]; simp
 have hb1 : Below w.heap.size w W1 := by rw [hW1]; exact (Below.refl _ _).alloc (Nat.le_refl _) _
 have hT := TsAt.new (c1 := c1) (c2 := c2) (hi.below hb1) 39
 obtain ⟨W2, hW2⟩ : ∃ W2, W2 = W1.alloc (.cells #[sv t.letters, .slice A1 t.values.length c1, .slice A2 t.counts.length c2, .int .i64 t.blanks] 39) := ⟨_, rfl⟩
 rw [← hW2] at hT
 have hz2 : W2.heap.size = w.heap.size + 2 := by rw [hW2]; simp [hz1]
 have hb2 : Below W1.heap.size W1 W2 := by rw [hW2]; exact (Below.refl _ _).alloc (Nat.le_refl _) _
 have hB := BAt.new W2 b 41
 obtain ⟨W, hW⟩ : ∃ W, W = W2.alloc (.cells #[.int .i64 b.size, sv b.prem, sv b.cells] 41) := ⟨_, rfl⟩
 rw [← hW] at hB
 have hb3 : Below W2.heap.size W2 W := by rw [hW]; exact (Below.refl _ _).alloc (Nat.le_refl _) _
 rw [hz1] at hT
 rw [hz2] at hB
 have hbW : Below w.heap.size w W := (hb1.trans (hb2.mono (by omega))).trans (hb3.mono (by omega))
 have hT := hT.below hb3
 have hLb := (hL.below hb2 hL.lt).below hb3 (hL.below hb2 hL.lt).lt
 have hlx : LxAt W ⟨w.heap.size, 0, none⟩ A c0 ws := ⟨hLb.cell 0, (hr.below hbW).more hbW.size⟩
 have hk := kp _ _ _ W hT hB hlx
 clear kp hT hB hlx hr hL hLb hi
 obtain ⟨R, hR⟩ : ∃ R : Int, R = if movesCode t b ws rack = 0 then (chk (movesL t b ws rack) list : Int) else 0 := ⟨_, rfl⟩
 rw [← hR]
 by_cases hC : movesCode t b ws rack = 0
 · have hml := moves_400 hC
   rw [if_pos hC] at hR
   have hk := hk.mono fun e w' (h : MovesPost W t b ws rack e w') => (show ∃ v, e = .returned (.tuple #[v, .int .i64 0]) ∧ w'.ownsRow W.heap.size 124 5 v (movesL t b ws rack).length (mvsC (movesL t b ws rack)) ∧ Below W.heap.size W w' from by
     obtain ⟨v, h1, h2, _, h4⟩ := h
     exact ⟨v, by rw [h1, hC], h2 hC, h4⟩)
   rw [hC]
   obtain ⟨ms, hM⟩ : ∃ M, M = movesL t b ws rack := ⟨_, rfl⟩
   rw [← hM] at hml hk hR
   clear hM hC
   have hst := Lib.hid (chk_step ms list)
   have hen := Lib.hid (chk_end ms list)
   have hR' := Lib.hid hR
   clear hR
   go_enter Tryz.func15, Tryz.ntmps15
   go_wp2_with (go_at_call 64; rw [← hW1, ← hW2, ← hW]; refine hk.mono ?_; rintro e w1 ⟨v1, rfl, own1, hbw⟩; obtain ⟨B1, d1, rfl, hd1, hr1, hf1⟩ := own_form own1)
   have hw1 := hbW.trans (hbw.mono hbW.size)
   have h31 := (h3.below hw1).more hw1.size
   have kall := fun (m : Mv) (W : World) (hW : Below w1.heap.size w1 W) => l16In_any B1 d1 ms m ms.length W ((hr1.below hW).more hW.size) hf1 (Nat.le_refl _) (by omega)
   simp only [List.take_length] at kall
   clear hW1 hW2 hW hb1 hb2 hb3 hbW hbw hk own1 hz1 hz2
   go_loopw [14] (fun i wr => ∃ k : Nat, k ≤ list.length ∧ i = .int .i64 k ∧ Hid (R = (chkGo ms (list.take k) (list.drop k) k : Int)) ∧ Below w1.heap.size w1 wr) (fun i _ => list.length - (intOf i).toNat)
   case atStart => exact ⟨0, by omega, rfl, Lib.hid (by rw [hR'.out]; rfl), Below.refl _ _⟩
   case round =>
     obtain ⟨k, hk, rfl, he, hb⟩ := hrel
     by_cases hkl : k < list.length
     · have r1 := (h31.below hb).more hb.size
       obtain ⟨ad1, e1, hd1', _⟩ := r1.2 (by omega)
       obtain ⟨g, rfl⟩ := hf3 ad1 e1
       subst e1
       obtain ⟨x0, x1, x2, x3, x4⟩ := r1.mv hkl
       simp only [Nat.zero_add] at x0 x1 x2 x3 x4
       have hst2 : Hid (R = if (!inM ms list[k]) || inM (list.take k) list[k] then (k : Int) else (chkGo ms (list.take (k + 1)) (list.drop (k + 1)) (k + 1) : Int)) := Lib.hid (by
         rw [he.out, hst.out k hkl]
         split <;> rfl)
       have ka := kall list[k]
       have kl := kin list[k] k hk
       obtain ⟨m, hm⟩ : ∃ m, m = list[k] := ⟨_, rfl⟩
       rw [← hm] at hst2 x0 x1 x2 x3 x4 ka kl
       clear hm r1 kin kall
       have hg : g < wr.heap.size := hd1'
       have hkk : (k : Int) < (list.length : Int) := by omega
       have hk0 : (0 : Int) ≤ (k : Int) := by omega
       obtain ⟨p, hp⟩ : ∃ p, p = inM ms m := ⟨_, rfl⟩
       obtain ⟨q, hq⟩ : ∃ q, q = inM (list.take k) m := ⟨_, rfl⟩
       rw [← hp] at ka hst2
       rw [← hq] at kl hst2
       clear hp hq
       obtain ⟨⟨mr, mc, md, mw⟩, mx⟩ := m
       simp only [mvV] at ka kl x0 x1 x2 x3 x4
       have hwr := hw1.trans (hb.mono hw1.size)
       have ka := ka _ hb
       cases p
       · have hRk : Hid (R = (k : Int)) := Lib.hid (by rw [hst2.out]; rfl)
         clear hst2
         go_wp2_with (go_at_call 65; (with_reducible refine ka.mono ?_); rintro e w2 ⟨rfl, hb2⟩)
         go_ret2
         exact ⟨ret_two hRk.out.symm, hwr.trans (hb2.mono hwr.size)⟩
       · cases q
         · have hRk : Hid (R = (chkGo ms (list.take (k + 1)) (list.drop (k + 1)) (k + 1) : Int)) := Lib.hid (by rw [hst2.out]; rfl)
           clear hst2
           go_wp2_with (first
             | (go_at_call 65; (with_reducible refine ka.mono ?_); rintro e w2 ⟨rfl, hb2⟩
                have hwr2 := hwr.trans (hb2.mono hwr.size)
                have y0 := (hb2.cell (p := ⟨g, k * 5, none⟩) hg).trans x0
                have y1 := (hb2.cell (p := ⟨g, k * 5 + 1, none⟩) hg).trans x1
                have y2 := (hb2.cell (p := ⟨g, k * 5 + 2, none⟩) hg).trans x2
                have y3 := (hb2.cell (p := ⟨g, k * 5 + 3, none⟩) hg).trans x3
                have y4 := (hb2.cell (p := ⟨g, k * 5 + 4, none⟩) hg).trans x4)
             | (go_at_call 65; (with_reducible refine (kl _ hwr2).mono ?_); rintro e w3 ⟨rfl, hb3⟩))
           go_roundw
           case rel => exact ⟨k + 1, by omega, by go_num, hRk, (hb.trans (hb2.mono hb.size)).trans (hb3.mono (Nat.le_trans hb.size hb2.size))⟩
           case measure => simp [intOf]; omega
         · have hRk : Hid (R = (k : Int)) := Lib.hid (by rw [hst2.out]; rfl)
           clear hst2
           go_wp2_with (first
             | (go_at_call 65; (with_reducible refine ka.mono ?_); rintro e w2 ⟨rfl, hb2⟩
                have hwr2 := hwr.trans (hb2.mono hwr.size)
                have y0 := (hb2.cell (p := ⟨g, k * 5, none⟩) hg).trans x0
                have y1 := (hb2.cell (p := ⟨g, k * 5 + 1, none⟩) hg).trans x1
                have y2 := (hb2.cell (p := ⟨g, k * 5 + 2, none⟩) hg).trans x2
                have y3 := (hb2.cell (p := ⟨g, k * 5 + 3, none⟩) hg).trans x3
                have y4 := (hb2.cell (p := ⟨g, k * 5 + 4, none⟩) hg).trans x4)
             | (go_at_call 65; (with_reducible refine (kl _ hwr2).mono ?_); rintro e w3 ⟨rfl, hb3⟩))
           go_ret2
           exact ⟨ret_two hRk.out.symm, hwr2.trans (hb3.mono hwr2.size)⟩
     · obtain rfl : k = list.length := by omega
       have hkk : ¬ (list.length : Int) < (list.length : Int) := by omega
       have hRk : Hid (R = (list.length : Int)) := Lib.hid (by rw [he.out, hen.out])
       go_wp2_with (fail)
       go_ret2
       exact ⟨ret_two hRk.out.symm, hw1.trans (hb.mono hw1.size)⟩
 · rw [if_neg hC] at hR
   subst hR
   have hk := hk.mono fun e w' (h : MovesPost W t b ws rack e w') => (show e = .returned (.tuple #[.slice none 0 0, .int .i64 (movesCode t b ws rack)]) ∧ Below W.heap.size W w' from by
     obtain ⟨v, h1, _, h3, h4⟩ := h
     exact ⟨by rw [h1, h3 hC], h4⟩)
   have hne : (movesCode t b ws rack != 0) = true := by simpa using hC
   have hne2 : (movesCode t b ws rack == 0) = false := by simpa using hC
   obtain ⟨C, hCC⟩ : ∃ C, C = movesCode t b ws rack := ⟨_, rfl⟩
   rw [← hCC] at hk hne hne2 ⊢
   clear hCC hC kin
   go_enter Tryz.func15, Tryz.ntmps15
   go_wp2_with (go_at_call 64; rw [← hW1, ← hW2, ← hW]; refine hk.mono ?_; rintro e w1 ⟨rfl, hbw⟩)
   go_ret2
   exact ⟨rfl, hbW.trans (hbw.mono hbW.size)⟩
theorem inM_take (l : List Mv) (k : Nat) (h : k < l.length) (y : Mv) : inM (l.take (k + 1)) y = (inM (l.take k) y || eqMv y l[k]) := by
 rw [List.take_succ_eq_append_getElem h, inM, List.any_append]
 simp [inM, eqMv_comm]
theorem setM_at {w : World} {g : Nat} {o : Obj} (E : List En) (c : Nat) (h : w.heap[g]? = some o) : (setM w g E c).heap[g]? = some (.map (E.map toE).toArray c) := (MapKept.heap_set h).1
theorem below_setM {B : Nat} {a w : World} (h : Below B a w) {g : Nat} (hg : B ≤ g) (E : List En) (c : Nat) : Below B a (setM w g E c) :=
 h.trans ⟨rfl, rfl, rfl, by simp [setM], fun k hk => by
   have : g ≠ k := by omega
   simp [setM, this]⟩
theorem iCheckMoves_any (A : Option Addr) (c : Nat) (lex : List Str) (t : TS) (A1 A2 : Option Addr) (c1 c2 : Nat) (b : Bd) (rack : Str) (A3 : Option Addr) (c3 : Nat) (list : List Mv) (w : World) (hm : MaxOk w) (hi : TsIn w t A1 A2) (hr : Reads w w.heap.size 1 A lex.length (lex.map sv)) (hA : Plain0 A) (h3 : Reads w w.heap.size 5 A3 list.length (mvsC list)) (hf3 : ∀ ad, A3 = some ad → ∃ g, ad = ⟨g, 0, none⟩) (hn3 : list.length ≤ 2 ^ 40) (hn : lex.length ≤ 2 ^ 32) (hls : ∀ x ∈ lex, x.length ≤ 2 ^ 40) (hp : b.prem.length ≤ 2 ^ 40) (hcl : b.cells.length ≤ 2 ^ 40) (hrk : rack.length ≤ 2 ^ 32) (hl : t.letters.length ≤ 2 ^ 40) (hv : t.values.length ≤ 2 ^ 40) (hc : t.counts.length ≤ 2 ^ 40) :
   Calls Tryz.prog 20 #[.agg #[.slice A lex.length c], t.v A1 c1 A2 c2, b.v, sv rack, .slice A3 list.length c3] w fun e w' => e = .returned (.tuple #[.int .i64 (if movesCode t b lex rack = 0 then (chk (movesL t b lex rack) list : Int) else 0), .int .i64 (movesCode t b lex rack)]) ∧ Below w.heap.size w w' := by
 have kt := fun (W : World) (hW : Below w.heap.size w W) => iTryMoves_any A c lex t A1 A2 c1 c2 b rack W (hm.below hW) (hi.below hW) ((hr.below hW).more hW.size) hA hn hls hp hcl hrk hl hv hc
 clear hm hi hr hA hn hls hp hcl hrk hl hv hc
 obtain ⟨R, hR⟩ : ∃ R : Int, R = if movesCode t b lex rack = 0 then (chk (movesL t b lex rack) list : Int) else 0 := ⟨_, rfl⟩
 rw [← hR]
 by_cases hC : movesCode t b lex rack = 0
 · have hml := moves_400 hC
   rw [if_pos hC] at hR
   have kt := fun W hW => (kt W hW).mono fun e w' (h : MovesPost W t b lex rack e w') => (show ∃ v, e = .returned (.tuple #[v, .int .i64 0]) ∧ w'.ownsRow W.heap.size 124 5 v (movesL t b lex rack).length (mvsC (movesL t b lex rack)) ∧ Below W.heap.size W w' from by
     obtain ⟨v, h1, h2, _, h4⟩ := h
     exact ⟨v, by rw [h1, hC], h2 hC, h4⟩)
   rw [hC]
   obtain ⟨ms, hM⟩ : ∃ M, M = movesL t b lex rack := ⟨_, rfl⟩
   rw [← hM] at hml kt hR
   clear hM hC
   have hst := Lib.hid (chk_step ms list)
   have hen := Lib.hid (chk_end ms list)
   have hR' := Lib.hid hR
   clear hR
   obtain ⟨sz, bp, bc⟩ := b
   simp only [Bd.v, TS.v] at *
   obtain ⟨W, hW⟩ : ∃ W, W = ((w.alloc (.cells #[.slice A lex.length c] 37)).alloc (.cells #[sv t.letters, .slice A1 t.values.length c1, .slice A2 t.counts.length c2, .int .i64 t.blanks] 39)).alloc (.cells #[.int .i64 sz, sv bp, sv bc] 41) := ⟨_, rfl⟩
   have hb : Below w.heap.size w W := by rw [hW]; exact (((Below.refl _ _).alloc (Nat.le_refl _) _).alloc (by simp) _).alloc (by simp; omega) _
   go_enter Tryz.func20, Tryz.ntmps20
   go_wp2_with (go_at_call 69; rw [← hW]; refine (kt _ hb).mono ?_; rintro e w1 ⟨v1, rfl, own1, hb1⟩; obtain ⟨B1, d1, rfl, hd1, hr1, hf1⟩ := own_form own1
                have m0 := run_makeMap (P := Tryz.prog) 129 w1)
   have hw1 := hb.trans (hb1.mono hb.size)
   have h31 := (h3.below hw1).more hw1.size
   have hgm : (w1.alloc (.map #[] 0)).heap[w1.heap.size]? = some (.map (([] : List En).map toE).toArray 0) := (MapKept.heap_alloc w1 _).1
   obtain ⟨g, hg⟩ : ∃ g, g = w1.heap.size := ⟨_, rfl⟩
   have hgle : w1.heap.size ≤ g := by omega
   rw [← hg] at hgm ⊢
   clear hW hb hb1 own1 kt h3 hg
   go_loopw [33] (fun i wr => ∃ k : Nat, k ≤ ms.length ∧ i = .int .i64 k ∧ (∃ (E : List En) (cl : Nat), wr.heap[g]? = some (.map (E.map toE).toArray cl) ∧ Hid (∀ x, getE E x = inM (ms.take k) x)) ∧ Below w1.heap.size w1 wr) (fun i _ => ms.length - (intOf i).toNat)
   case atStart => exact ⟨0, by omega, rfl, ⟨[], 0, hgm, Lib.hid (fun x => rfl)⟩, (Below.refl _ _).alloc (Nat.le_refl _) _⟩
   case round =>
     clear hgm
     obtain ⟨k, hk, rfl, ⟨E, cl, hgm, hE⟩, hb⟩ := hrel
     by_cases hkl : k < ms.length
     · have r1 := (hr1.below hb).more hb.size
       obtain ⟨ad1, e1, hd1', _⟩ := r1.2 (by omega)
       obtain ⟨gm, rfl⟩ := hf1 ad1 e1
       subst e1
       obtain ⟨x0, x1, x2, x3, x4⟩ := r1.mv hkl
       simp only [Nat.zero_add] at x0 x1 x2 x3 x4
       have hin := Lib.hid (inM_take ms k hkl)
       obtain ⟨m, hm⟩ : ∃ m, m = ms[k] := ⟨_, rfl⟩
       rw [← hm] at x0 x1 x2 x3 x4 hin
       clear hm r1
       have hgl : g < wr.heap.size := (Array.getElem?_eq_some_iff.1 hgm).1
       obtain ⟨Ws, hWs⟩ : ∃ Ws, Ws = wr.alloc (.cells #[.int .i64 m.1.row, .int .i64 m.1.col, .bool m.1.down, sv m.1.word, .int .i64 m.2] 124) := ⟨_, rfl⟩
       have hgs : Ws.heap[g]? = some (.map (E.map toE).toArray cl) := by rw [hWs]; exact ((MapKept.heap_alloc wr _).2 g hgl).trans hgm
       obtain ⟨c', hupd⟩ := run_upd Ws g E cl m true hgs
       have hbs : Below w1.heap.size w1 Ws := by rw [hWs]; exact hb.alloc hb.size _
       have hE2 : Hid (∀ x, getE (putE E m true cl) x = inM (ms.take (k + 1)) x) := Lib.hid (fun x => by
         rw [getE_put, hE.out, hin.out]
         cases eqMv x m <;> simp)
       have hat := setM_at (putE E m true cl) c' hgs
       have hbl := below_setM hbs hgle (putE E m true cl) c'
       obtain ⟨E', hE'⟩ : ∃ E', E' = putE E m true cl := ⟨_, rfl⟩
       rw [← hE'] at hupd hE2 hat hbl
       clear hE' hgs hE hin
       rw [hWs] at hupd
       obtain ⟨wu, hwu⟩ : ∃ wu, wu = setM Ws g E' c' := ⟨_, rfl⟩
       rw [← hWs, ← hwu, hWs] at hupd
       rw [← hwu] at hat hbl
       clear hwu hWs hbs
       obtain ⟨⟨mr, mc, md, mw⟩, mx⟩ := m
       simp only [mvV] at hupd x0 x1 x2 x3 x4
       have hgz : gm < wr.heap.size := hd1'
       have hkk : (k : Int) < (ms.length : Int) := by omega
       go_wp2_with (fail)
       go_roundw
       case rel => exact ⟨k + 1, by omega, by go_num, ⟨E', c', hat, hE2⟩, hbl⟩
       case measure => simp [intOf]; omega
     · obtain rfl : k = ms.length := by omega
       have hkk : ¬ (ms.length : Int) < (ms.length : Int) := by omega
       have hE1 : Hid (∀ x, getE E x = (inM ms x && !inM (list.take 0) x)) := Lib.hid (fun x => by rw [hE.out, List.take_length]; simp [inM])
       clear hE
       go_wp2_with (fail)
       obtain ⟨wo, hwo⟩ : ∃ wo, wo = wr := ⟨_, rfl⟩
       subst hwo
       go_loopw [42] (fun i wr => ∃ k : Nat, k ≤ list.length ∧ i = .int .i64 k ∧ (∃ (E : List En) (cl : Nat), wr.heap[g]? = some (.map (E.map toE).toArray cl) ∧ Hid (∀ x, getE E x = (inM ms x && !inM (list.take k) x))) ∧ Hid (R = (chkGo ms (list.take k) (list.drop k) k : Int)) ∧ Below w1.heap.size w1 wr) (fun i _ => list.length - (intOf i).toNat)
       case atStart => exact ⟨0, by omega, rfl, ⟨E, cl, hgm, hE1⟩, Lib.hid (by rw [hR'.out]; rfl), hb⟩
       case round =>
         clear hgm hE1 hb
         obtain ⟨k, hk, rfl, ⟨E, cl, hgm, hE⟩, he, hb⟩ := hrel
         by_cases hkl : k < list.length
         · have r1 := (h31.below hb).more hb.size
           obtain ⟨ad1, e1, hd1', _⟩ := r1.2 (by omega)
           obtain ⟨gm, rfl⟩ := hf3 ad1 e1
           subst e1
           obtain ⟨x0, x1, x2, x3, x4⟩ := r1.mv hkl
           simp only [Nat.zero_add] at x0 x1 x2 x3 x4
           have hst2 : Hid (R = if (!inM ms list[k]) || inM (list.take k) list[k] then (k : Int) else (chkGo ms (list.take (k + 1)) (list.drop (k + 1)) (k + 1) : Int)) := Lib.hid (by
             rw [he.out, hst.out k hkl]
             split <;> rfl)
           have hin := Lib.hid (inM_take list k hkl)
           obtain ⟨m, hm⟩ : ∃ m, m = list[k] := ⟨_, rfl⟩
           rw [← hm] at x0 x1 x2 x3 x4 hin hst2
           clear hm r1
           have hgl : g < wr.heap.size := (Array.getElem?_eq_some_iff.1 hgm).1
           obtain ⟨Ws, hWs⟩ : ∃ Ws, Ws = wr.alloc (.cells #[.int .i64 m.1.row, .int .i64 m.1.col, .bool m.1.down, sv m.1.word, .int .i64 m.2] 124) := ⟨_, rfl⟩
           have hgs : Ws.heap[g]? = some (.map (E.map toE).toArray cl) := by rw [hWs]; exact ((MapKept.heap_alloc wr _).2 g hgl).trans hgm
           have hget := run_get Ws g E cl m hgs
           obtain ⟨c', hupd⟩ := run_upd Ws g E cl m false hgs
           have hbs : Below w1.heap.size w1 Ws := by rw [hWs]; exact hb.alloc hb.size _
           have hE2 : Hid (∀ x, getE (putE E m false cl) x = (inM ms x && !inM (list.take (k + 1)) x)) := Lib.hid (fun x => by
             rw [getE_put, hE.out, hin.out]
             cases eqMv x m <;> simp)
           have hat := setM_at (putE E m false cl) c' hgs
           have hbl := below_setM hbs hgle (putE E m false cl) c'
           obtain ⟨E', hE'⟩ : ∃ E', E' = putE E m false cl := ⟨_, rfl⟩
           rw [← hE'] at hupd hE2 hat hbl
           obtain ⟨p, hpp⟩ : ∃ p, p = getE E m := ⟨_, rfl⟩
           have hpq : Hid (p = (inM ms m && !inM (list.take k) m)) := Lib.hid (by rw [hpp, hE.out])
           rw [← hpp] at hget
           clear hpp hE' hgs hE hin
           obtain ⟨wu, hwu⟩ : ∃ wu, wu = setM Ws g E' c' := ⟨_, rfl⟩
           rw [← hwu] at hupd hat hbl
           clear hwu
           rw [hWs] at hupd hget hbs
           clear hWs
           have hcond : Hid ((!inM ms m || inM (list.take k) m) = !p) := Lib.hid (by rw [hpq.out]; cases inM ms m <;> cases inM (list.take k) m <;> rfl)
           have hst3 : Hid (R = if (!p) = true then (k : Int) else (chkGo ms (list.take (k + 1)) (list.drop (k + 1)) (k + 1) : Int)) := Lib.hid (by rw [hst2.out, hcond.out])
           clear hst2 hcond hpq
           obtain ⟨⟨mr, mc, md, mw⟩, mx⟩ := m
           simp only [mvV] at hupd hget hbs x0 x1 x2 x3 x4
           have hgz : gm < wr.heap.size := hd1'
           have hkk : (k : Int) < (list.length : Int) := by omega
           cases p
           · have hRk : Hid (R = (k : Int)) := Lib.hid (by rw [hst3.out]; rfl)
             clear hst3 hupd
             go_wp2_with (fail)
             go_ret2
             exact ⟨ret_two hRk.out.symm, hw1.trans (hbs.mono hw1.size)⟩
           · have hRk : Hid (R = (chkGo ms (list.take (k + 1)) (list.drop (k + 1)) (k + 1) : Int)) := Lib.hid (by rw [hst3.out]; rfl)
             clear hst3 hbs
             go_wp2_with (fail)
             go_roundw
             case rel => exact ⟨k + 1, by omega, by go_num, ⟨E', c', hat, hE2⟩, hRk, hbl⟩
             case measure => simp [intOf]; omega
         · obtain rfl : k = list.length := by omega
           have hkk : ¬ (list.length : Int) < (list.length : Int) := by omega
           have hRk : Hid (R = (list.length : Int)) := Lib.hid (by rw [he.out, hen.out])
           go_wp2_with (fail)
           go_ret2
           exact ⟨ret_two hRk.out.symm, hw1.trans (hb.mono hw1.size)⟩
 · rw [if_neg hC] at hR
   subst hR
   have kt := fun W hW => (kt W hW).mono fun e w' (h : MovesPost W t b lex rack e w') => (show e = .returned (.tuple #[.slice none 0 0, .int .i64 (movesCode t b lex rack)]) ∧ Below W.heap.size W w' from by
     obtain ⟨v, h1, _, h3, h4⟩ := h
     exact ⟨by rw [h1, h3 hC], h4⟩)
   have hne : (movesCode t b lex rack != 0) = true := by simpa using hC
   have hne2 : (movesCode t b lex rack == 0) = false := by simpa using hC
   obtain ⟨C, hCC⟩ : ∃ C, C = movesCode t b lex rack := ⟨_, rfl⟩
   rw [← hCC] at kt hne hne2 ⊢
   clear hCC hC
   obtain ⟨sz, bp, bc⟩ := b
   simp only [Bd.v, TS.v] at *
   obtain ⟨W, hW⟩ : ∃ W, W = ((w.alloc (.cells #[.slice A lex.length c] 37)).alloc (.cells #[sv t.letters, .slice A1 t.values.length c1, .slice A2 t.counts.length c2, .int .i64 t.blanks] 39)).alloc (.cells #[.int .i64 sz, sv bp, sv bc] 41) := ⟨_, rfl⟩
   have hb : Below w.heap.size w W := by rw [hW]; exact (((Below.refl _ _).alloc (Nat.le_refl _) _).alloc (by simp) _).alloc (by simp; omega) _
   go_enter Tryz.func20, Tryz.ntmps20
   go_wp2_with (go_at_call 69; rw [← hW]; refine (kt _ hb).mono ?_; rintro e w1 ⟨rfl, hb1⟩)
   go_ret2
   exact ⟨rfl, hb.trans (hb1.mono hb.size)⟩
end Go.Proofs.YtdkckikobefekaaGreatDoor
