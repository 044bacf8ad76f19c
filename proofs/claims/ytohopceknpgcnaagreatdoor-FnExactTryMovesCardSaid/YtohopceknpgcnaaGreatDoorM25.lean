/-
  Contract: TryMoves of the impl package (layer 16); Contract: the size of a list of strings (the laws package); Contracts: the sizes of a lexicon and of a board, the impl package's board of a board (the laws package); Contract: equal lists of strings (the laws package); Contract: the impl package's board of a board (the laws package); Contract: the text of a mark (the laws package); Contracts: a copy of a list of strings, of a lexicon (the laws package); Contracts: marks laid into a list of strings, into a lexicon (the laws package); The state of the law's regions that call a function of three arguments: a copied lexicon, the answer, its parts.
  Conditions: as each part below says.
-/
import Derived.Test.YtohopceknpgcnaaGreatDoorM23
import Derived.Test.YtohopceknpgcnaaGreatDoorM24
import Derived.Test.YtohopceknpgcnaaGreatDoorM20
import Derived.Test.YtohopceknpgcnaaGreatDoorM05
import Derived.Test.YtohopceknpgcnaaGreatDoorM04
import Derived.Great.BuildSlice
import Derived.Lib.Builder
import Derived.Lib.UnsafeStr
import Derived.Laws.Externs
import Derived.RegionTactic
import Derived.Laws.Rows
import Derived.Laws.Tables
import Derived.Lib.OthersKept
import Derived.Test.YtohopceknpgcnaaGreatDoorM09
import Derived.Test.YtohopceknpgcnaaGreatDoorM16
import Derived.Test.YtohopceknpgcnaaGreatDoorM07
/-
  Contract: TryMoves of the impl package (layer 16).
  Conditions: strings of common size; the slices lie in memory; the library's variable MaxLen reads as a number.
-/
namespace Go.Proofs.YtohopceknpgcnaaGreatDoor
open Go.RowKit RegP RegL RegV
set_option maxHeartbeats 2000000
set_option maxRecDepth 100000

theorem play_bd {b : Bd} {q : Pl} (hf : b.Fit) (hon : OnQ b q) (h : 0 < q.word.length) : (0 ≤ q.row ∧ q.row ≤ 14) ∧ 0 ≤ q.col ∧ q.col ≤ 14 := by
  have h1 := hon 0 h
  obtain ⟨⟨r0, r1⟩, c0, c1⟩ := inB_iff.1 h1
  have h15 := hf.hi
  unfold Pl.sr Pl.sc at *
  cases hd : q.down <;> rw [hd] at r0 r1 c0 c1 <;> simp at r0 r1 c0 c1 <;> omega
/-- Every legal play has one score in both packages. -/
theorem scoreOne (t : TS) (A1 A2 : Option Addr) (c1 c2 : Nat) (b : Bd) (lex : List Str) (rack : Str) (ho : TsOk t) (hbd : bdB b = true) (q : Pl) (hq : q ∈ playsL b lex rack) (w : World) (hi : TsIn w t A1 A2) :
    Calls Tryz.prog 34 #[t.v A1 c1 A2 c2, b.v, q.v] w fun e w' => e = .returned (.int .i64 (scoreS t (flatB b q) (flatP q))) ∧ Below w.heap.size w w' := by
  have hok : okB b q = true := by
    have h := playsL_legal q hq
    unfold legalC at h
    by_cases ho : okB b q = true
    · exact ho
    · rw [if_neg ho] at h; cases h
  have hv : validI b q = true := by rw [← okB_validI hbd]; exact hok
  obtain ⟨hon, hw, h2, h12⟩ := validI_facts hv
  obtain ⟨⟨r0, r1⟩, c0, c1'⟩ := play_bd (bdB.fit hbd) hon (by omega)
  rw [score_same hbd hv]
  exact scorePlay_any t A1 A2 c1 c2 b q w hi ho (bdB.fit hbd) (lettB_ascii hw) hon (by omega) (by omega) (by omega) (by omega) (by omega)
theorem iTryMoves_bad (A : Option Addr) (c : Nat) (lex : List Str) (t : TS) (A1 A2 : Option Addr) (c1 c2 : Nat) (b : Bd) (rack : Str) (w : World) (C : Int) (hC : C ≠ 0) (hC1 : movesCode t b lex rack = C) (htb : tsB t = true)
    (kv : ∀ W, Below w.heap.size w W → Calls Tryz.prog 32 #[t.v A1 c1 A2 c2] W fun e w' => e = .returned (.bool (tsB t)) ∧ Below W.heap.size W w')
    (kt : ∀ W, Below w.heap.size w W → Calls Tryz.prog 33 #[.agg #[.slice A lex.length c], b.v, sv rack] W fun e w' => e = .returned (.tuple #[.slice none 0 0, .int .i64 C]) ∧ Below W.heap.size W w') :
    Calls Tryz.prog 13 #[.agg #[.slice A lex.length c], t.v A1 c1 A2 c2, b.v, sv rack] w (MovesPost w t b lex rack) := by
  rw [htb] at kv
  have hend : Hid (∀ w', Below w.heap.size w w' → MovesPost w t b lex rack (.returned (.tuple #[.slice none 0 0, .int .i64 C])) w') := Lib.hid (fun w' h => MovesPost.no hC1 hC h)
  obtain ⟨Ps, hPs⟩ : ∃ Ps, Ps = MovesPost w t b lex rack := ⟨_, rfl⟩
  rw [← hPs] at hend ⊢
  clear hPs hC1 htb
  have hne : (C != 0) = true := by simpa using hC
  have hne2 : (C == 0) = false := by simpa using hC
  obtain ⟨sz, bp, bc⟩ := b
  simp only [Bd.v, TS.v] at *
  obtain ⟨W, hW⟩ : ∃ W, W = ((w.alloc (.cells #[.slice A lex.length c] 36)).alloc (.cells #[sv t.letters, .slice A1 t.values.length c1, .slice A2 t.counts.length c2, .int .i64 t.blanks] 38)).alloc (.cells #[.int .i64 sz, sv bp, sv bc] 40) := ⟨_, rfl⟩
  have hb : Below w.heap.size w W := by rw [hW]; exact (((Below.refl _ _).alloc (Nat.le_refl _) _).alloc (by simp) _).alloc (by simp; omega) _
  have hL : Blk W w.heap.size 36 #[.slice A lex.length c] := by rw [hW]; exact ((Blk.new w _ _).alloc _).alloc _
  have hB : Blk W (w.heap.size + 1 + 1) 40 #[.int .i64 sz, sv bp, sv bc] := by rw [hW]; exact Blk.new2 w _ _ _ _
  go_enter Tryz.func13, Tryz.ntmps13
  go_wp2_with (first
    | (go_at_call 32; rw [← hW]; refine (kv _ hb).mono ?_; rintro e w1 ⟨rfl, hb1⟩
       have hL1 := hL.below hb1 hL.lt
       have hB1 := hB.below hb1 hB.lt
       have hw1 := hb.trans (hb1.mono hb.size)
       have x0 : w1.cell? ⟨w.heap.size, 0, none⟩ = some (.slice A lex.length c) := hL1.cell 0
       have x1 : w1.cell? ⟨w.heap.size + 1 + 1, 0, none⟩ = some (.int .i64 sz) := hB1.cell 0
       have x2 : w1.cell? ⟨w.heap.size + 1 + 1, 1, none⟩ = some (sv bp) := hB1.cell 1
       have x3 : w1.cell? ⟨w.heap.size + 1 + 1, 2, none⟩ = some (sv bc) := hB1.cell 2)
    | (go_at_call 33; refine (kt _ hw1).mono ?_; rintro e w2 ⟨rfl, hb2⟩))
  exact hend.out _ (hw1.trans (hb2.mono hw1.size))
theorem iTryMoves_no (A : Option Addr) (c : Nat) (lex : List Str) (t : TS) (A1 A2 : Option Addr) (c1 c2 : Nat) (b : Bd) (rack : Str) (w : World) (htb : tsB t = false)
    (kv : ∀ W, Below w.heap.size w W → Calls Tryz.prog 32 #[t.v A1 c1 A2 c2] W fun e w' => e = .returned (.bool (tsB t)) ∧ Below W.heap.size W w') :
    Calls Tryz.prog 13 #[.agg #[.slice A lex.length c], t.v A1 c1 A2 c2, b.v, sv rack] w (MovesPost w t b lex rack) := by
  have hC1 : movesCode t b lex rack = 1 := by unfold movesCode; rw [htb]; rfl
  rw [htb] at kv
  have hend : Hid (∀ w', Below w.heap.size w w' → MovesPost w t b lex rack (.returned (.tuple #[.slice none 0 0, .int .i64 1])) w') := Lib.hid (fun w' h => MovesPost.no hC1 (by decide) h)
  obtain ⟨Ps, hPs⟩ : ∃ Ps, Ps = MovesPost w t b lex rack := ⟨_, rfl⟩
  rw [← hPs] at hend ⊢
  clear hPs hC1 htb
  obtain ⟨sz, bp, bc⟩ := b
  simp only [Bd.v, TS.v] at *
  obtain ⟨W, hW⟩ : ∃ W, W = ((w.alloc (.cells #[.slice A lex.length c] 36)).alloc (.cells #[sv t.letters, .slice A1 t.values.length c1, .slice A2 t.counts.length c2, .int .i64 t.blanks] 38)).alloc (.cells #[.int .i64 sz, sv bp, sv bc] 40) := ⟨_, rfl⟩
  have hb : Below w.heap.size w W := by rw [hW]; exact (((Below.refl _ _).alloc (Nat.le_refl _) _).alloc (by simp) _).alloc (by simp; omega) _
  go_enter Tryz.func13, Tryz.ntmps13
  go_wp2_with (go_at_call 32; rw [← hW]; refine (kv _ hb).mono ?_; rintro e w1 ⟨rfl, hb1⟩)
  exact hend.out _ (hb.trans (hb1.mono hb.size))
theorem iTryMoves_good (A : Option Addr) (c : Nat) (lex : List Str) (t : TS) (A1 A2 : Option Addr) (c1 c2 : Nat) (b : Bd) (rack : Str) (w : World) (hC : movesCode t b lex rack = 0) (hpl : (playsL b lex rack).length ≤ 400) (hi : TsIn w t A1 A2) (htb : tsB t = true)
    (ks : ∀ q ∈ playsL b lex rack, ∀ W, TsIn W t A1 A2 → Calls Tryz.prog 34 #[t.v A1 c1 A2 c2, b.v, q.v] W fun e w' => e = .returned (.int .i64 (scoreS t (flatB b q) (flatP q))) ∧ Below W.heap.size W w')
    (kv : ∀ W, Below w.heap.size w W → Calls Tryz.prog 32 #[t.v A1 c1 A2 c2] W fun e w' => e = .returned (.bool (tsB t)) ∧ Below W.heap.size W w')
    (kt : ∀ W, Below w.heap.size w W → Calls Tryz.prog 33 #[.agg #[.slice A lex.length c], b.v, sv rack] W fun e w' => (∃ v, w'.ownsRow W.heap.size 69 4 v (playsL b lex rack).length (psC (playsL b lex rack)) ∧ e = .returned (.tuple #[v, .int .i64 0])) ∧ Below W.heap.size W w') :
    Calls Tryz.prog 13 #[.agg #[.slice A lex.length c], t.v A1 c1 A2 c2, b.v, sv rack] w (MovesPost w t b lex rack) := by
  rw [htb] at kv
  have hend : Hid (∀ v w', w'.ownsRow w.heap.size 72 5 v (movesL t b lex rack).length (mvsC (movesL t b lex rack)) → Below w.heap.size w w' → MovesPost w t b lex rack (.returned (.tuple #[v, .int .i64 0])) w') := Lib.hid (fun v w' h1 h2 => MovesPost.yes hC h1 h2)
  have hstep : Hid (∀ k (h : k < (playsL b lex rack).length), (movesL t b lex rack).take (k + 1) = (movesL t b lex rack).take k ++ [((playsL b lex rack)[k], scoreS t (flatB b (playsL b lex rack)[k]) (flatP (playsL b lex rack)[k]))]) := Lib.hid (movesL_take t b lex rack)
  have hmlen := movesL_length t b lex rack
  have ks' := Lib.hid ks
  obtain ⟨Ps, hPs⟩ : ∃ Ps, Ps = MovesPost w t b lex rack := ⟨_, rfl⟩
  rw [← hPs] at hend ⊢
  obtain ⟨P, hP⟩ : ∃ P, P = playsL b lex rack := ⟨_, rfl⟩
  rw [← hP] at hpl hmlen hstep ks' kt
  obtain ⟨M, hM⟩ : ∃ M, M = movesL t b lex rack := ⟨_, rfl⟩
  rw [← hM] at hmlen hstep hend
  obtain ⟨SS, hSS⟩ : ∃ SS : Pl → Int, SS = fun q => scoreS t (flatB b q) (flatP q) := ⟨_, rfl⟩
  have hSS' : ∀ q, scoreS t (flatB b q) (flatP q) = SS q := fun q => by rw [hSS]
  simp only [hSS'] at hstep ks'
  have hmlen' := Lib.hid hmlen
  clear hPs hP hM hSS hSS' hC htb ks hmlen
  obtain ⟨sz, bp, bc⟩ := b
  simp only [Bd.v, TS.v] at *
  obtain ⟨W, hW⟩ : ∃ W, W = ((w.alloc (.cells #[.slice A lex.length c] 36)).alloc (.cells #[sv t.letters, .slice A1 t.values.length c1, .slice A2 t.counts.length c2, .int .i64 t.blanks] 38)).alloc (.cells #[.int .i64 sz, sv bp, sv bc] 40) := ⟨_, rfl⟩
  have hb : Below w.heap.size w W := by rw [hW]; exact (((Below.refl _ _).alloc (Nat.le_refl _) _).alloc (by simp) _).alloc (by simp; omega) _
  have hL : Blk W w.heap.size 36 #[.slice A lex.length c] := by rw [hW]; exact ((Blk.new w _ _).alloc _).alloc _
  have hT : Blk W (w.heap.size + 1) 38 #[sv t.letters, .slice A1 t.values.length c1, .slice A2 t.counts.length c2, .int .i64 t.blanks] := by rw [hW]; exact (Blk.new1 w _ _ _).alloc _
  have hB : Blk W (w.heap.size + 1 + 1) 40 #[.int .i64 sz, sv bp, sv bc] := by rw [hW]; exact Blk.new2 w _ _ _ _
  go_enter Tryz.func13, Tryz.ntmps13
  go_wp2_with (first
    | (go_at_call 32; rw [← hW]; refine (kv _ hb).mono ?_; rintro e w1 ⟨rfl, hb1⟩
       have hL1 := hL.below hb1 hL.lt
       have hT1 := hT.below hb1 hT.lt
       have hB1 := hB.below hb1 hB.lt
       have hw1 := hb.trans (hb1.mono hb.size)
       have x0 : w1.cell? ⟨w.heap.size, 0, none⟩ = some (.slice A lex.length c) := hL1.cell 0
       have x1 : w1.cell? ⟨w.heap.size + 1 + 1, 0, none⟩ = some (.int .i64 sz) := hB1.cell 0
       have x2 : w1.cell? ⟨w.heap.size + 1 + 1, 1, none⟩ = some (sv bp) := hB1.cell 1
       have x3 : w1.cell? ⟨w.heap.size + 1 + 1, 2, none⟩ = some (sv bc) := hB1.cell 2)
    | (go_at_call 33; refine (kt _ hw1).mono ?_; rintro e w2 ⟨⟨v2, own1, rfl⟩, hb2⟩; obtain ⟨B2, d2, rfl, hd2, hr2, hf2⟩ := own_form own1))
  have hw2 := hw1.trans (hb2.mono hw1.size)
  have hT2 := hT1.below hb2 hT1.lt
  have hB2 := hB1.below hb2 hB1.lt
  have own0 := World.ownsRow_lit (base := w2.heap.size) (size := 5) (e := 72) w2 #[] 0 (Nat.le_refl _) (by unfold maxLen; omega) rfl
  clear hW hb hL hT hB hL1 hT1 hB1 hw1 hb1 hb2 x0 x1 x2 x3 own1 kv kt
  go_loopw [12, 31] (fun o i wr => ∃ k : Nat, k ≤ P.length ∧ i = .int .i64 k ∧ wr.ownsRow w2.heap.size 72 5 o k (mvsC (M.take k)) ∧ Below w2.heap.size w2 wr) (fun _ i _ => P.length - (intOf i).toNat)
  case atStart => exact ⟨0, by omega, rfl, own0, (Below.refl _ _).alloc (Nat.le_refl _) _⟩
  case round =>
    clear own0
    obtain ⟨k, hk, rfl, own2, hbr⟩ := hrel
    by_cases hkl : k < P.length
    · have hkk : (k : Int) < (P.length : Int) := by omega
      have hr3 := (hr2.below hbr).more hbr.size
      obtain ⟨ad, ea, hlt⟩ := hr3.2 (by omega)
      obtain ⟨g, rfl⟩ := hf2 ad ea
      subst ea
      obtain ⟨e0, e1, e2, e3⟩ := hr3.pl hkl
      simp only [Nat.zero_add] at e0 e1 e2 e3
      have hst := Lib.hid (hstep.out k hkl)
      have hsq := ks'.out P[k] (List.getElem_mem _)
      have hg : g < wr.heap.size := hlt.1
      obtain ⟨y, hy⟩ : ∃ y, y = P[k] := ⟨_, rfl⟩
      rw [← hy] at e0 e1 e2 e3 hst hsq
      clear hy
      obtain ⟨R, hR⟩ : ∃ R, R = SS y := ⟨_, rfl⟩
      rw [← hR] at hst hsq
      clear hR
      obtain ⟨yr, yc, yd, ys⟩ := y
      simp only [Pl.v] at hsq e0 e1 e2 e3
      have hwr := hw2.trans (hbr.mono hw2.size)
      clear hr3
      go_wp2_with (fail)
      have hS0 := Blk.new wr 69 #[.int .i64 yr, .int .i64 yc, .bool yd, sv ys]
      have hbs := (Below.refl wr.heap.size wr).alloc (Nat.le_refl _) (.cells #[.int .i64 yr, .int .i64 yc, .bool yd, sv ys] 69)
      obtain ⟨wx, hwx⟩ : ∃ wx, wx = wr.alloc (.cells #[.int .i64 yr, .int .i64 yc, .bool yd, sv ys] 69) := ⟨_, rfl⟩
      rw [← hwx] at hS0 hbs ⊢
      clear hwx
      have hbl := hbr.trans (hbs.mono hbr.size)
      have hown := own_call own2 hbs
      have hTx := hT2.below hbl hT2.lt
      have hBx := hB2.below hbl hB2.lt
      have hwl := hw2.trans (hbl.mono hw2.size)
      clear own2 e0 e1 e2 e3 hwr
      refine wp_region_v 9 9 (SC 7 8 [1, 2, 3, 4, 5] wx (.cells #[.int .i64 yr, .int .i64 yc, .bool yd, sv ys, .int .i64 R] 72) (fun u w' => ∃ w1, Below wx.heap.size wx w1 ∧ w'.ownsRow w2.heap.size 72 5 u (k + 1) (mvsC (M.take k) ++ mvC (⟨yr, yc, yd, ys⟩, R)) ∧ w1.grownBy w' (u12).ownBlock)) (by kernel_rfl) (by kernel_rfl) ⟨fun _ => undef, SC.start⟩ ?_
      simp only [List.take_succ_cons, List.take_zero, List.drop_succ_cons, List.drop_zero]
      apply pv_step (fun _ => rfl)
      · intro σ L w' hS h1 h2 K hK
        clear h2
        go_wp2
        exact hS.keep (by decide) (by decide)
      simp only [Act.put, List.setIfInBounds_toArray, List.set_cons_succ, List.set_cons_zero]
      apply pv_step (fun _ => rfl)
      · intro σ L w' hS h1 h2 K hK
        clear h2
        have f := hS0.below (hS.low (by decide) h1) hS0.lt
        have f0 : w'.cell? ⟨wr.heap.size, 0, none⟩ = some (.int .i64 yr) := f.cell 0
        have f1 : w'.cell? ⟨wr.heap.size, 1, none⟩ = some (.int .i64 yc) := f.cell 1
        have f2 : w'.cell? ⟨wr.heap.size, 2, none⟩ = some (.bool yd) := f.cell 2
        have f3 : w'.cell? ⟨wr.heap.size, 3, none⟩ = some (sv ys) := f.cell 3
        go_wp2
        exact hS.keep (by decide) (by decide)
      simp only [Act.put, List.setIfInBounds_toArray, List.set_cons_succ, List.set_cons_zero]
      apply pv_step (fun _ => rfl)
      · intro σ L w' hS h1 h2 K hK
        clear h2
        have f := hTx.below (hS.low (by decide) h1) hTx.lt
        have f0 : w'.cell? ⟨w.heap.size + 1, 0, none⟩ = some (sv t.letters) := f.cell 0
        have f1 : w'.cell? ⟨w.heap.size + 1, 1, none⟩ = some (.slice A1 t.values.length c1) := f.cell 1
        have f2 : w'.cell? ⟨w.heap.size + 1, 2, none⟩ = some (.slice A2 t.counts.length c2) := f.cell 2
        have f3 : w'.cell? ⟨w.heap.size + 1, 3, none⟩ = some (.int .i64 t.blanks) := f.cell 3
        go_wp2
        exact hS.keep (by decide) (by decide)
      simp only [Act.put, List.setIfInBounds_toArray, List.set_cons_succ, List.set_cons_zero]
      apply pv_step (fun _ => rfl)
      · intro σ L w' hS h1 h2 K hK
        clear h2
        have f := hBx.below (hS.low (by decide) h1) hBx.lt
        have f0 : w'.cell? ⟨w.heap.size + 1 + 1, 0, none⟩ = some (.int .i64 sz) := f.cell 0
        have f1 : w'.cell? ⟨w.heap.size + 1 + 1, 1, none⟩ = some (sv bp) := f.cell 1
        have f2 : w'.cell? ⟨w.heap.size + 1 + 1, 2, none⟩ = some (sv bc) := f.cell 2
        go_wp2
        exact hS.keep (by decide) (by decide)
      simp only [Act.put, List.setIfInBounds_toArray, List.set_cons_succ, List.set_cons_zero]
      apply pv_step (fun _ => rfl)
      · intro σ L w' hS h1 h2 K hK
        clear h2
        have f := hS0.below (hS.low (by decide) h1) hS0.lt
        have f0 : w'.cell? ⟨wr.heap.size, 0, none⟩ = some (.int .i64 yr) := f.cell 0
        have f1 : w'.cell? ⟨wr.heap.size, 1, none⟩ = some (.int .i64 yc) := f.cell 1
        have f2 : w'.cell? ⟨wr.heap.size, 2, none⟩ = some (.bool yd) := f.cell 2
        have f3 : w'.cell? ⟨wr.heap.size, 3, none⟩ = some (sv ys) := f.cell 3
        go_wp2
        exact hS.keep (by decide) (by decide)
      simp only [Act.put, List.setIfInBounds_toArray, List.set_cons_succ, List.set_cons_zero]
      apply pv_step (v := .int .i64 R) (fun _ => rfl)
      · intro σ L w' hS h1 h2 K hK
        clear h2
        have hl := hS.low (by decide) h1
        go_wp2_with (go_at_call 34; refine (hsq _ (hi.below (hwl.trans (hl.mono hwl.size)))).mono ?_; rintro e w5 ⟨rfl, hb5⟩)
        exact hS.call (by decide) h1 (by decide) (by decide) hb5
      simp only [Act.put, List.setIfInBounds_toArray, List.set_cons_succ, List.set_cons_zero]
      apply pv_step (fun _ => rfl)
      · intro σ L w' hS h1 h2 K hK
        clear h2
        go_wp2
        exact hS.keep (by decide) (by decide)
      simp only [Act.put, List.setIfInBounds_toArray, List.set_cons_succ, List.set_cons_zero]
      apply pv_free (fun _ => rfl)
      · intro σ L w' hS h1 h2 K hK
        have p1 := h2 1 (List.contains_iff_mem.1 (by kernel_rfl))
        have p2 := h2 2 (List.contains_iff_mem.1 (by kernel_rfl))
        have p3 := h2 3 (List.contains_iff_mem.1 (by kernel_rfl))
        have p4 := h2 4 (List.contains_iff_mem.1 (by kernel_rfl))
        have p5 := h2 5 (List.contains_iff_mem.1 (by kernel_rfl))
        clear h2
        have hS' := hS.tob h1 (by decide) (by simp [p1, p2, p3, p4, p5])
        have hlit := run_lit1 moveT (.agg #[.int .i64 yr, .int .i64 yc, .bool yd, sv ys, .int .i64 R]) #[.int .i64 yr, .int .i64 yc, .bool yd, sv ys, .int .i64 R] rfl rfl (by omega)
        go_wp2
        exact hS'
      simp only [Act.put, List.setIfInBounds_toArray, List.set_cons_succ, List.set_cons_zero]
      apply pv_free (fun _ => rfl)
      · intro σ L w' hS h1 h2 K hK
        have p7 := h2 7 (List.contains_iff_mem.1 (by kernel_rfl))
        have p1 := h2 1 (List.contains_iff_mem.1 (by kernel_rfl))
        have p2 := h2 2 (List.contains_iff_mem.1 (by kernel_rfl))
        have p3 := h2 3 (List.contains_iff_mem.1 (by kernel_rfl))
        have p4 := h2 4 (List.contains_iff_mem.1 (by kernel_rfl))
        have p5 := h2 5 (List.contains_iff_mem.1 (by kernel_rfl))
        clear h2
        obtain ⟨w1, hl1, e1, rfl⟩ := hS.ata h1 p7
        refine oper_app moveT (.tmp 35) (.tmp 42) rfl u12 k _ rfl w2.heap.size (own_call hown hl1) (mvC (⟨yr, yc, yd, ys⟩, R)) rfl (by simp [mvC, Value.oneCell']) w1.heap.size rfl e1 (by omega) (by omega) (Nat.le_trans hbl.size hl1.size) ?_
        intro v1 w1' h11 h12 h13
        exact hK v1 w1' (SC.toa p7 (by simp [p1, p2, p3, p4, p5]) ⟨w1, hl1, h11, h12⟩)
      simp only [Act.put, List.setIfInBounds_toArray, List.set_cons_succ, List.set_cons_zero]
      refine pv_nil fun σ w8 hS => ?_
      obtain ⟨w1, hl1, own8, hg8⟩ := hS.fin rfl
      obtain ⟨v8, hv8⟩ : ∃ v8, v8 = σ 8 := ⟨_, rfl⟩
      rw [← hv8] at own8
      simp only [← hv8]
      clear hS hv8
      have hown1 := own_call hown hl1
      have hb1 := hbl.trans (hl1.mono hbl.size)
      go_wp2_with (fail)
      go_roundw
      case rel => exact ⟨k + 1, by omega, by go_num, own_cast own8 (by rw [hst.out, mvsC_append, mvsC_one]) rfl, Below.own hb1 hb1.size hown1 (Nat.le_refl _) hg8⟩
      case measure => simp [intOf]; omega
    · obtain rfl : k = P.length := by omega
      have hkk : ¬ (P.length : Int) < (P.length : Int) := by omega
      go_wp2_with (fail)
      rw [List.take_of_length_le (by rw [hmlen'.out]; omega)] at own2
      exact hend.out _ _ (own_cast (own_base own2 hw2.size) rfl hmlen'.out.symm) (hw2.trans (hbr.mono hw2.size))
theorem iTryMoves_any (A : Option Addr) (c : Nat) (lex : List Str) (t : TS) (A1 A2 : Option Addr) (c1 c2 : Nat) (b : Bd) (rack : Str) (w : World) (hm : MaxOk w) (hi : TsIn w t A1 A2) (hr : Reads w w.heap.size 1 A lex.length (lex.map sv)) (hA : Plain0 A) (hn : lex.length ≤ 2 ^ 32) (hls : ∀ x ∈ lex, x.length ≤ 2 ^ 40) (hp : b.prem.length ≤ 2 ^ 40) (hcl : b.cells.length ≤ 2 ^ 40) (hrk : rack.length ≤ 2 ^ 32) (hl : t.letters.length ≤ 2 ^ 40) (hv : t.values.length ≤ 2 ^ 40) (hc : t.counts.length ≤ 2 ^ 40) :
    Calls Tryz.prog 13 #[.agg #[.slice A lex.length c], t.v A1 c1 A2 c2, b.v, sv rack] w (MovesPost w t b lex rack) := by
  have kt := fun (W : World) (hW : Below w.heap.size w W) => tryPlays_any A c lex b rack W (hm.below hW) ((hr.below hW).more hW.size) hA hn hls hp hcl hrk
  have kv := fun (W : World) (hW : Below w.heap.size w W) => validTiles_any t A1 A2 c1 c2 W (hi.below hW) hl hv hc
  cases htb : tsB t
  · exact iTryMoves_no A c lex t A1 A2 c1 c2 b rack w htb kv
  · have hmc : movesCode t b lex rack = playsCode b lex rack := by unfold movesCode; rw [htb]; rfl
    cases hok : argsB b lex rack
    · refine iTryMoves_bad A c lex t A1 A2 c1 c2 b rack w 1 (by decide) (by rw [hmc]; unfold playsCode; rw [hok]; rfl) htb kv fun W hW => (kt W hW).mono ?_
      rintro e w' ⟨h1, h2⟩
      rw [hok] at h2
      exact ⟨h2, h1⟩
    · by_cases hbig : 400 < (foundL b lex rack).length
      · refine iTryMoves_bad A c lex t A1 A2 c1 c2 b rack w 5 (by decide) (by rw [hmc]; unfold playsCode; rw [hok, if_pos rfl, if_pos hbig]) htb kv fun W hW => (kt W hW).mono ?_
        rintro e w' ⟨h1, h2⟩
        rw [hok, if_pos rfl, if_pos ((found_many hok).1 hbig)] at h2
        exact ⟨h2, h1⟩
      · have hfp := found_perm hok hbig
        have hbd : bdB b = true := by unfold argsB at hok; simp only [Bool.and_eq_true] at hok; exact hok.2.1
        have hso : sortI (tryI b lex rack) = playsL b lex rack := sort_same hfp.symm
        refine iTryMoves_good A c lex t A1 A2 c1 c2 b rack w (by rw [hmc]; unfold playsCode; rw [hok, if_pos rfl, if_neg hbig]) (by rw [playsL_length]; omega) hi htb (fun q hq W hW => scoreOne t A1 A2 c1 c2 b lex rack (tsB_ok htb) hbd q hq W hW) kv fun W hW => (kt W hW).mono ?_
        rintro e w' ⟨h1, h2⟩
        rw [hok, if_pos rfl, if_neg (fun h => hbig ((found_many hok).2 h))] at h2
        obtain ⟨v, ps', rfl, h3, h4⟩ := h2
        rw [hso] at h3
        exact ⟨⟨v, h3, h4⟩, h1⟩
end Go.Proofs.YtohopceknpgcnaaGreatDoor
/-
  Contract: the size of a list of strings (the laws package).
  Conditions: the slice reads as a list of strings; strings and the room of common size.
-/
namespace Go.Proofs.YtohopceknpgcnaaGreatDoor
open Go.RowKit RegP RegL RegV
set_option maxHeartbeats 2000000
set_option maxRecDepth 100000

def szGo : List Str → Int → Int
  | [], l => l
  | x :: r, l => if l - x.length < 0 then -1 else szGo r (l - x.length)
def szS (a : List Str) (l : Int) : Int := if l - a.length < 0 then -1 else szGo a (l - a.length)
theorem szStringS_any (A : Option Addr) (c : Nat) (a : List Str) (l : Int) (w : World) (h : Reads w w.heap.size 1 A a.length (a.map sv)) (hn : a.length ≤ 9223372036854775807) (hs : ∀ x ∈ a, x.length ≤ 9223372036854775807) (h0 : 0 ≤ l) (h1 : l ≤ 2 ^ 40) :
    Calls Tryz.prog 27 #[.slice A a.length c, .int .i64 l] w fun e w' => e = .returned (.int .i64 (szS a l)) ∧ Below w.heap.size w w' := by
  have hdef : Hid (szS a l = if l - a.length < 0 then -1 else szGo a (l - a.length)) := Lib.hid rfl
  obtain ⟨R, hR⟩ : ∃ R, R = szS a l := ⟨_, rfl⟩
  rw [← hR] at hdef ⊢
  clear hR
  by_cases hl : l - (a.length : Int) < 0
  · have hR : R = -1 := by rw [hdef.out, if_pos hl]
    subst hR
    go_enter Tryz.func27, Tryz.ntmps27
    go_wp2_with (fail)
    go_ret
    exact ⟨rfl, Below.refl _ _⟩
  · have hR : Hid (R = szGo a (l - a.length)) := Lib.hid (by rw [hdef.out, if_neg hl])
    clear hdef
    obtain ⟨l1, hl1⟩ : ∃ l1, l1 = l - (a.length : Int) := ⟨_, rfl⟩
    have hl0 : 0 ≤ l1 := by omega
    have hl2 : l1 ≤ 2 ^ 40 := by omega
    have hs' := Lib.hid hs
    have hl1' := Lib.hid hl1
    rw [← hl1] at hR hl
    clear hs
    go_enter Tryz.func27, Tryz.ntmps27
    go_wp2_with (fail)
    go_loopw [1, 5] (fun lv i wr => ∃ (k : Nat) (m : Int), k ≤ a.length ∧ i = .int .i64 k ∧ lv = .int .i64 m ∧ 0 ≤ m ∧ m ≤ 2 ^ 40 ∧ Hid (R = szGo (a.drop k) m) ∧ Below w.heap.size w wr) (fun _ i _ => a.length - (intOf i).toNat)
    case atStart => exact ⟨0, l1, by omega, rfl, by rw [hl1'.out], hl0, hl2, Lib.hid (by rw [hR.out]; rfl), Below.refl _ _⟩
    case round =>
      clear hl1 hl0 hl2 hR hl
      obtain ⟨k, m, hk, rfl, rfl, hm0, hm1, he, hb⟩ := hrel
      by_cases hkl : k < a.length
      · obtain ⟨ad, rfl, hd1, hc1⟩ := (h.below hb).el hkl
        have hst : Hid (R = if m - (a[k]).length < 0 then -1 else szGo (a.drop (k + 1)) (m - (a[k]).length)) := Lib.hid (by rw [he.out, drop_cons a k hkl]; rfl)
        have hxl := hs'.out _ (List.getElem_mem hkl)
        obtain ⟨x, hx⟩ : ∃ x, x = a[k] := ⟨_, rfl⟩
        rw [← hx] at hst hc1 hxl
        clear hx
        have hkk : (k : Int) < (a.length : Int) := by omega
        have hk0 : (0 : Int) ≤ (k : Int) := by omega
        have hz1 : ad.block < wr.heap.size := Nat.lt_of_lt_of_le hd1 hb.size
        by_cases hneg : m - (x.length : Int) < 0
        · have hR2 : R = -1 := by rw [hst.out, if_pos hneg]
          subst hR2
          go_wp2_with (fail)
          go_ret
          exact ⟨rfl, hb⟩
        · have hst2 : Hid (R = szGo (a.drop (k + 1)) (m - x.length)) := Lib.hid (by rw [hst.out, if_neg hneg])
          go_wp2_with (fail)
          go_roundw
          case rel => exact ⟨k + 1, m - x.length, by omega, by go_num, rfl, by omega, by omega, hst2, hb⟩
          case measure => simp [intOf]; omega
      · obtain rfl : k = a.length := by omega
        have hkk : ¬ (a.length : Int) < (a.length : Int) := by omega
        have hRt : Hid (R = m) := Lib.hid (by rw [he.out, List.drop_length]; rfl)
        go_wp2_with (fail)
        go_ret
        exact ⟨ret_int hRt.out.symm, hb⟩
end Go.Proofs.YtohopceknpgcnaaGreatDoor
/-
  Contracts: the sizes of a lexicon and of a board, the impl package's board of a board (the laws package).
  Conditions: the words' slice reads as a list of strings; numbers of common size.
-/
namespace Go.Proofs.YtohopceknpgcnaaGreatDoor
open Go.RowKit RegP RegL RegV
set_option maxHeartbeats 2000000
set_option maxRecDepth 100000

theorem szS_ge (a : List Str) (l : Int) : -1 ≤ szS a l := by
  have key : ∀ (a : List Str) (l : Int), 0 ≤ l → -1 ≤ szGo a l := by
    intro a
    induction a with
    | nil => intro l h; simp only [szGo]; omega
    | cons x r ih =>
      intro l h
      simp only [szGo]
      split
      · omega
      · exact ih _ (by omega)
  unfold szS
  split
  · omega
  · exact key _ _ (by omega)
theorem szLexicon_any (A : Option Addr) (c : Nat) (a : List Str) (l : Int) (w : World) (h : Reads w w.heap.size 1 A a.length (a.map sv)) (hn : a.length ≤ 9223372036854775807) (hs : ∀ x ∈ a, x.length ≤ 9223372036854775807) (h0 : 0 ≤ l) (h1 : l ≤ 2 ^ 40) :
    Calls Tryz.prog 6 #[.agg #[.slice A a.length c], .int .i64 l] w fun e w' => e = .returned (.int .i64 (szS a l)) ∧ Below w.heap.size w w' := by
  have k1 := fun (W : World) (hW : Below w.heap.size w W) => szStringS_any A c a l W ((h.below hW).more hW.size) hn hs h0 h1
  have hge := szS_ge a l
  obtain ⟨R, hR⟩ : ∃ R, R = szS a l := ⟨_, rfl⟩
  rw [← hR] at k1 hge ⊢
  clear hR h hs
  have hb := (Below.refl w.heap.size w).alloc (Nat.le_refl _) (.cells #[.slice A a.length c] 24)
  by_cases hneg : R < 0
  · obtain rfl : R = -1 := by omega
    go_enter Tryz.func6, Tryz.ntmps6
    go_wp2_with (go_at_call 27; refine (k1 _ hb).mono ?_; rintro e w1 ⟨rfl, hb1⟩)
    go_ret
    exact ⟨rfl, hb.trans (hb1.mono hb.size)⟩
  · go_enter Tryz.func6, Tryz.ntmps6
    go_wp2_with (go_at_call 27; refine (k1 _ hb).mono ?_; rintro e w1 ⟨rfl, hb1⟩)
    go_ret
    exact ⟨rfl, hb.trans (hb1.mono hb.size)⟩
def szB (b : Bd) (l : Int) : Int := if l - b.prem.length < 0 then -1 else if l - b.prem.length - b.cells.length < 0 then -1 else l - b.prem.length - b.cells.length
theorem szBoard_any (b : Bd) (l : Int) (w : World) (h0 : 0 ≤ l) (h1 : l ≤ 2 ^ 40) (hp : b.prem.length ≤ 9223372036854775807) (hc : b.cells.length ≤ 9223372036854775807) :
    Calls Tryz.prog 8 #[b.v, .int .i64 l] w fun e w' => e = .returned (.int .i64 (szB b l)) ∧ Below w.heap.size w w' := by
  have hdef : Hid (szB b l = if l - b.prem.length < 0 then -1 else if l - b.prem.length - b.cells.length < 0 then -1 else l - b.prem.length - b.cells.length) := Lib.hid rfl
  obtain ⟨R, hR⟩ : ∃ R, R = szB b l := ⟨_, rfl⟩
  rw [← hR] at hdef ⊢
  clear hR
  obtain ⟨sz, bp, bc⟩ := b
  simp only [Bd.v] at *
  have hb := (Below.refl w.heap.size w).alloc (Nat.le_refl _) (.cells #[.int .i64 sz, sv bp, sv bc] 29)
  by_cases n1 : l - (bp.length : Int) < 0
  · have hR : R = -1 := by rw [hdef.out, if_pos n1]
    subst hR
    go_enter Tryz.func8, Tryz.ntmps8
    go_wp2_with (fail)
    go_ret
    exact ⟨rfl, hb⟩
  · by_cases n2 : l - (bp.length : Int) - (bc.length : Int) < 0
    · have hR : R = -1 := by rw [hdef.out, if_neg n1, if_pos n2]
      subst hR
      go_enter Tryz.func8, Tryz.ntmps8
      go_wp2_with (fail)
      go_ret
      exact ⟨rfl, hb⟩
    · have hR : R = l - bp.length - bc.length := by rw [hdef.out, if_neg n1, if_neg n2]
      subst hR
      clear hdef
      go_enter Tryz.func8, Tryz.ntmps8
      go_wp2_with (fail)
      go_ret
      exact ⟨rfl, hb⟩
end Go.Proofs.YtohopceknpgcnaaGreatDoor
/-
  Contract: equal lists of strings (the laws package).
  Conditions: both slices read as lists of strings.
-/
namespace Go.Proofs.YtohopceknpgcnaaGreatDoor
open Go.RowKit RegP RegL RegV
set_option maxHeartbeats 2000000
set_option maxRecDepth 100000

theorem eqStringS_any (A1 A2 : Option Addr) (c1 c2 : Nat) (a b : List Str) (w : World) (h1 : Reads w w.heap.size 1 A1 a.length (a.map sv)) (h2 : Reads w w.heap.size 1 A2 b.length (b.map sv)) (hn : a.length ≤ 2 ^ 40) :
    Calls Tryz.prog 36 #[.slice A1 a.length c1, .slice A2 b.length c2] w fun e w' => e = .returned (.bool (a == b)) ∧ Below w.heap.size w w' := by
  obtain ⟨R, hR⟩ : ∃ R, R = (a == b) := ⟨_, rfl⟩
  rw [← hR]
  have hR' := Lib.hid hR
  clear hR
  by_cases hl : a.length = b.length
  · have hl1 : ((a.length : Int) != (b.length : Int)) = false := by rw [hl]; simp
    have hl' := Lib.hid hl
    clear hl
    go_enter Tryz.func36, Tryz.ntmps36
    go_wp2_with (fail)
    go_loopw [5] (fun i wr => ∃ k : Nat, k ≤ a.length ∧ i = .int .i64 k ∧ Hid (R = (a.drop k == b.drop k)) ∧ Below w.heap.size w wr) (fun i _ => a.length - (intOf i).toNat)
    case atStart => exact ⟨0, by omega, rfl, Lib.hid (by rw [hR'.out]; rfl), Below.refl _ _⟩
    case round =>
      obtain ⟨k, hk, rfl, he, hb⟩ := hrel
      by_cases hkl : k < a.length
      · have hkb : k < b.length := by rw [← hl'.out]; exact hkl
        obtain ⟨ad1, rfl, hd1, hc1⟩ := (h1.below hb).el hkl
        obtain ⟨ad2, rfl, hd2, hc2⟩ := (h2.below hb).el hkb
        have hst : Hid (R = (a[k] == b[k] && (a.drop (k + 1) == b.drop (k + 1)))) := Lib.hid (by rw [he.out, drop_cons a k hkl, drop_cons b k hkb]; rfl)
        obtain ⟨x, hx⟩ : ∃ x, x = a[k] := ⟨_, rfl⟩
        obtain ⟨y, hy⟩ : ∃ y, y = b[k] := ⟨_, rfl⟩
        rw [← hx] at hst hc1
        rw [← hy] at hst hc2
        clear hx hy
        have hkk : (k : Int) < (a.length : Int) := by omega
        have hkk2 : (k : Int) < (b.length : Int) := by omega
        have hk0 : (0 : Int) ≤ (k : Int) := by omega
        have hz1 : ad1.block < wr.heap.size := Nat.lt_of_lt_of_le hd1 hb.size
        have hz2 : ad2.block < wr.heap.size := Nat.lt_of_lt_of_le hd2 hb.size
        obtain ⟨t, ht⟩ : ∃ t, t = (x == y) := ⟨_, rfl⟩
        rw [← ht] at hst
        have ht' : (x == y) = t := ht.symm
        clear ht
        cases t
        all_goals
          go_wp2_with (fail)
          refine wp_region_b 9 (by kernel_rfl) (by kernel_rfl) ?_
          simp only [List.take_succ_cons, List.take_zero, List.drop_succ_cons, List.drop_zero]
          iterate 9
            apply pc_step rfl
            · intro w4 hb4 K hK
              have e1 : w4.cell? (ad1.add k) = some (sv x) := (hb4.cell (by rw [block_of_add]; exact hz1)).trans hc1
              have e2 : w4.cell? (ad2.add k) = some (sv y) := (hb4.cell (by rw [block_of_add]; exact hz2)).trans hc2
              go_wp2_with (fail)
              first | exact hb4 | exact hb4.trans (hb5.mono hb4.size) | exact hb4.trans (hd5.below.mono hb4.size)
            simp only [Act.put, List.setIfInBounds_toArray, List.set_cons_succ, List.set_cons_zero]
          refine pc_nil ?_
          intro w4 hb4
          have hb5 := hb.trans (hb4.mono hb.size)
          clear hb4 hc1 hc2
          go_wp2_with (fail)
        · go_ret
          exact ⟨ret_bool (by rw [hst.out]; rfl), hb5⟩
        · go_roundw
          case rel => exact ⟨k + 1, by omega, by go_num, Lib.hid (by rw [hst.out]; simp), hb5⟩
          case measure => simp [intOf]; omega
      · obtain rfl : k = a.length := by omega
        have hkk : ¬ (a.length : Int) < (a.length : Int) := by omega
        have hRt : Hid (R = true) := Lib.hid (by rw [he.out, List.drop_length, hl'.out, List.drop_length]; rfl)
        go_wp2_with (fail)
        go_ret
        exact ⟨ret_bool hRt.out.symm, hb⟩
  · have hl1 : ((a.length : Int) != (b.length : Int)) = true := by rw [bne_iff_ne]; omega
    have hRf : R = false := by rw [hR'.out, beq_eq_false_iff_ne]; intro e; exact hl (by rw [e])
    subst hRf
    clear hl
    go_enter Tryz.func36, Tryz.ntmps36
    go_wp2_with (fail)
    go_ret
    exact ⟨rfl, Below.refl _ _⟩
end Go.Proofs.YtohopceknpgcnaaGreatDoor
/-
  Contract: the impl package's board of a board (the laws package).
  Conditions: none.
-/
namespace Go.Proofs.YtohopceknpgcnaaGreatDoor
open Go.RowKit RegP RegL RegV
set_option maxHeartbeats 2000000
set_option maxRecDepth 100000

theorem toBoard_any (b : Bd) (w : World) :
    Calls Tryz.prog 12 #[b.v] w fun e w' => e = .returned b.v ∧ Below w.heap.size w w' := by
  obtain ⟨sz, bp, bc⟩ := b
  simp only [Bd.v]
  go_enter Tryz.func12, Tryz.ntmps12
  go_wp2_with (fail)
  exact ret_row (by rfl) (w.heap.size + 1) 40 #[.int .i64 sz, sv bp, sv bc] _ rfl ((Blk.new1 w _ _ _).alloc _) Tryz.underlying40 rfl (by kernel_rfl) rfl ⟨rfl, (((Below.refl _ _).alloc (Nat.le_refl _) _).alloc (by simp) _).alloc (by simp; omega) _⟩
theorem eqLexicon_any (A1 A2 : Option Addr) (c1 c2 : Nat) (a b : List Str) (w : World) (h1 : Reads w w.heap.size 1 A1 a.length (a.map sv)) (h2 : Reads w w.heap.size 1 A2 b.length (b.map sv)) (hn : a.length ≤ 2 ^ 40) :
    Calls Tryz.prog 15 #[.agg #[.slice A1 a.length c1], .agg #[.slice A2 b.length c2]] w fun e w' => e = .returned (.bool (a == b)) ∧ Below w.heap.size w w' := by
  have k1 := fun (W : World) (hW : Below w.heap.size w W) => eqStringS_any A1 A2 c1 c2 a b W ((h1.below hW).more hW.size) ((h2.below hW).more hW.size) hn
  obtain ⟨R, hR⟩ : ∃ R, R = (a == b) := ⟨_, rfl⟩
  rw [← hR] at k1 ⊢
  clear hR h1 h2
  have hb := ((Below.refl w.heap.size w).alloc (Nat.le_refl _) (.cells #[.slice A1 a.length c1] 36)).alloc (by simp) (.cells #[.slice A2 b.length c2] 36)
  cases R
  all_goals
    go_enter Tryz.func15, Tryz.ntmps15
    go_wp2_with (go_at_call 36; refine (k1 _ hb).mono ?_; rintro e w1 ⟨rfl, hb1⟩)
    go_ret
    exact ⟨rfl, hb.trans (hb1.mono hb.size)⟩
end Go.Proofs.YtohopceknpgcnaaGreatDoor
/-
  Contract: the text of a mark (the laws package).
  Conditions: a number of common size.
-/
namespace Go.Proofs.YtohopceknpgcnaaGreatDoor
open Go.RowKit RegP RegL RegV
set_option maxHeartbeats 2000000
set_option maxRecDepth 100000

def digS : Nat → Nat → Str → Str
  | 0, _, out => out
  | f + 1, n, out => if n = 0 then out else digS f (n / 10) (UInt8.ofNat (48 + n % 10) :: out)
theorem digS_zero : ∀ f out, digS f 0 out = out
  | 0, _ => rfl
  | _ + 1, _ => by simp [digS]
def markT (k : Nat) : Str := if k = 0 then [109, 48] else 109 :: digS k k []
theorem markText_any (k : Nat) (w : World) (hk : k ≤ 2 ^ 40) (h0 : 0 < k) :
    Calls Tryz.prog 40 #[.int .i64 k] w fun e w' => e = .returned (sv (markT k)) ∧ Below w.heap.size w w' := by
  have hdef : Hid (markT k = 109 :: digS k k []) := Lib.hid (by rw [markT, if_neg (by omega)])
  obtain ⟨R, hR⟩ : ∃ R, R = markT k := ⟨_, rfl⟩
  obtain ⟨D, hD⟩ : ∃ D, D = digS k k [] := ⟨_, rfl⟩
  rw [← hR] at hdef ⊢
  rw [← hD] at hdef
  have hD' := Lib.hid hD
  clear hR hD
  have hkk : ¬ (k : Int) ≤ 0 := by omega
  go_enter Tryz.func40, Tryz.ntmps40
  go_wp2_with (fail)
  go_loopw [0, 3] (fun kv ov wr => ∃ (f n : Nat) (out : Str), n ≤ f ∧ n ≤ k ∧ kv = .int .i64 n ∧ ov = sv out ∧ out.length + n ≤ 2 ^ 41 ∧ Hid (D = digS f n out) ∧ Below w.heap.size w wr) (fun kv _ _ => (intOf kv).toNat)
  case atStart => exact ⟨k, k, [], by omega, by omega, rfl, rfl, by simp; omega, hD', Below.refl _ _⟩
  case round =>
    obtain ⟨f, n, out, hnf, hnk, rfl, rfl, hol, hd, hb⟩ := hrel
    by_cases hn : 0 < n
    · obtain ⟨f', rfl⟩ : ∃ f', f = f' + 1 := ⟨f - 1, by omega⟩
      have hst : Hid (D = digS f' (n / 10) (UInt8.ofNat (48 + n % 10) :: out)) := Lib.hid (by rw [hd.out, digS, if_neg (by omega)])
      obtain ⟨ch, hch⟩ : ∃ ch, ch = UInt8.ofNat (48 + n % 10) := ⟨_, rfl⟩
      rw [← hch] at hst
      have hcv : ((ch.toNat : Nat) : Int) = 48 + (n : Int) % 10 := by
        rw [hch, UInt8.toNat_ofNat']
        omega
      have hm : (n : Int).tmod 10 = (n : Int) % 10 := Int.tmod_eq_emod_of_nonneg (by omega)
      have hdv : (n : Int).tdiv 10 = ((n / 10 : Nat) : Int) := by rw [Int.tdiv_eq_ediv_of_nonneg (by omega)]; omega
      clear hch
      have hbv : bv ch = .int .u8 (48 + (n : Int) % 10) := by rw [← hcv]
      have hcs := run_string_own (P := Tryz.prog) (wr.alloc (.cells #[bv ch] 5)) 111 9 5 Tryz.underlying111 Tryz.underlying5 Tryz.underlying9 (l := [ch]) (World.ownsRow_lit (base := wr.heap.size) (size := 1) (e := 5) wr #[bv ch] 1 (Nat.le_refl _) (by unfold maxLen; omega) rfl)
      rw [hbv] at hcs
      have hcs' : (convert 111 9 (.slice (some ⟨wr.heap.size, 0, none⟩) 1 1)).run Tryz.prog (wr.alloc (.cells #[.int .u8 (48 + (n : Int) % 10)] 5)) = .ok (sv [ch]) (wr.alloc (.cells #[.int .u8 (48 + (n : Int) % 10)] 5)) := hcs
      clear hcs hbv hcv
      go_wp2_with (fail)
      go_roundw
      case rel => exact ⟨f', n / 10, ch :: out, by omega, by omega, by congr 1, rfl, by simp; omega, hst, hb.alloc hb.size _⟩
      case measure => simp only [intOf]; omega
    · obtain rfl : n = 0 := by omega
      have hDo : Hid (D = out) := Lib.hid (by rw [hd.out, digS_zero])
      go_wp2_with (fail)
      go_ret
      exact ⟨ret_str (by rw [hdef.out, hDo.out]), hb⟩
end Go.Proofs.YtohopceknpgcnaaGreatDoor
/-
  Contracts: a copy of a list of strings, of a lexicon (the laws package).
  Conditions: the slice reads as a list of strings.
-/
namespace Go.Proofs.YtohopceknpgcnaaGreatDoor
open Go.RowKit RegP RegL RegV
set_option maxHeartbeats 2000000
set_option maxRecDepth 100000

/-- A copy, some of it done. -/
def copyTo (a : List Str) (j : Nat) : List Value := (List.range a.length).map fun i => if i < j then sv (a.getD i []) else sv []
theorem copyTo_length (a : List Str) (j : Nat) : (copyTo a j).length = a.length := by simp [copyTo]
theorem copyTo_step (a : List Str) (j : Nat) (h : j < a.length) : (copyTo a j).set j (sv a[j]) = copyTo a (j + 1) := by
  apply List.ext_getElem?
  intro i
  unfold copyTo
  rw [List.getElem?_set]
  by_cases hij : j = i
  · subst hij
    rw [if_pos rfl, List.length_map, List.length_range, if_pos h, List.getElem?_map, List.getElem?_range h]
    simp [List.getD_eq_getElem?_getD, h]
  · rw [if_neg hij]
    by_cases hi : i < a.length
    · rw [List.getElem?_map, List.getElem?_map, List.getElem?_range hi]
      have : (i < j) = (i < j + 1) := by rw [eq_iff_iff]; omega
      simp only [Option.map_some, this]
    · rw [List.getElem?_eq_none (by simp; omega), List.getElem?_eq_none (by simp; omega)]
theorem copyTo_end (a : List Str) : copyTo a a.length = a.map sv := by
  apply List.ext_getElem?
  intro i
  unfold copyTo
  by_cases hi : i < a.length
  · rw [List.getElem?_map, List.getElem?_range hi, List.getElem?_map, List.getElem?_eq_getElem hi]
    simp [List.getD_eq_getElem?_getD, hi]
  · rw [List.getElem?_eq_none (by simp; omega), List.getElem?_eq_none (by simp; omega)]
theorem copyTo_start (a : List Str) : (madeCells (Value.string ⟨#[]⟩).cells (a.length * 1)).toList = copyTo a 0 := by
  apply List.ext_getElem?
  intro i
  unfold copyTo
  by_cases hi : i < a.length
  · rw [List.getElem?_map, List.getElem?_range hi]
    simp [madeCells, hi, Value.cells, Nat.mod_one]
  · rw [List.getElem?_eq_none (by simp [size_madeCells]; omega), List.getElem?_eq_none (by simp; omega)]
theorem toStringS_any (A : Option Addr) (c : Nat) (a : List Str) (w : World) (h : Reads w w.heap.size 1 A a.length (a.map sv)) (hn : a.length ≤ 2 ^ 32) :
    Calls Tryz.prog 30 #[.slice A a.length c] w fun e w' => ∃ v, e = .returned v ∧ w'.ownsRow w.heap.size 9 1 v a.length (a.map sv) ∧ Below w.heap.size w w' := by
  have hst := Lib.hid (copyTo_step a)
  have hen := Lib.hid (copyTo_end a)
  have hcl := Lib.hid (copyTo_length a)
  have hs0 := Lib.hid (copyTo_start a)
  have hi0 : (Tryz.prog.info? 9).map (fun i => (i.zero, i.size, i.bytes)) = some (some (.string ⟨#[]⟩), 1, 16) := by kernel_rfl
  obtain ⟨i, hi, hi2⟩ := Option.map_eq_some_iff.1 hi0
  simp only [Prod.mk.injEq] at hi2
  have hi1 : i.zero = some (.string ⟨#[]⟩) ∧ i.size = 1 ∧ i.bytes = 16 := hi2
  clear hi0 hi2
  have hmx : a.length ≤ maxLen := by unfold maxLen; omega
  have hby : i.bytes * a.length ≤ 281474976710656 := by rw [hi1.2.2]; omega
  go_enter Tryz.func30, Tryz.ntmps30
  go_wp2_with (refine wpList_make_full _ rfl (.tmp 6) (.tmp 6) 22 rfl w.heap.size 9 i (.string ⟨#[]⟩) 1 Tryz.underlying22 hi hi1.1 hi1.2.1 .i64 .i64 (a.length : Int) (a.length : Int) a.length rfl rfl rfl rfl hby hmx (Nat.le_refl _) ?_; intro w1 own1 hg1)
  rw [hs0.out] at own1
  have hb1 : Below w.heap.size w w1 := ⟨hg1.os, hg1.tape, hg1.output, hg1.size, fun k hk => hg1.block k hk (by simp)⟩
  clear hs0 hi hi1 hmx hby hg1
  go_loopw [4] (fun i wr => ∃ j : Nat, j ≤ a.length ∧ i = .int .i64 j ∧ wr.ownsRow w.heap.size 9 1 (.slice (some ⟨w.heap.size, 0, none⟩) a.length a.length) a.length (copyTo a j) ∧ Below w.heap.size w wr) (fun i _ => a.length - (intOf i).toNat)
  case atStart => exact ⟨0, by omega, rfl, own1, hb1⟩
  case round =>
    clear own1 hb1
    obtain ⟨j, hj, rfl, own, hb⟩ := hrel
    by_cases hjl : j < a.length
    · obtain ⟨ad, rfl, hd1, hc1⟩ := (h.below hb).el hjl
      have hstep := Lib.hid (hst.out j hjl)
      obtain ⟨x, hx⟩ : ∃ x, x = a[j] := ⟨_, rfl⟩
      rw [← hx] at hc1 hstep
      clear hx
      have hjj : (j : Int) < (a.length : Int) := by omega
      have hj0 : (0 : Int) ≤ (j : Int) := by omega
      have hcj := own.cellAt j (by omega)
      have hlen : j < (copyTo a j).length := by rw [hcl.out]; exact hjl
      rw [List.getElem?_eq_getElem hlen] at hcj
      obtain ⟨y, hy⟩ : ∃ y, y = (copyTo a j)[j] := ⟨_, rfl⟩
      rw [← hy] at hcj
      clear hy hlen
      have hfj := own.frozenAt j
      obtain ⟨own', hg'⟩ := own.stored j (sv x)
      rw [hstep.out] at own'
      have hb' := hb.setCell (p := ⟨w.heap.size, j, none⟩) (Nat.le_refl _) (sv x)
      go_wp2_with (fail)
      go_roundw
      case rel => exact ⟨j + 1, by omega, by go_num, own', hb'⟩
      case measure => simp only [intOf]; omega
    · obtain rfl : j = a.length := by omega
      rw [hen.out] at own
      go_wp2_with (fail)
      go_ret
      exact ⟨_, rfl, own, hb⟩
theorem toLexicon_any (A : Option Addr) (c : Nat) (a : List Str) (w : World) (h : Reads w w.heap.size 1 A a.length (a.map sv)) (hn : a.length ≤ 2 ^ 32) :
    Calls Tryz.prog 10 #[.agg #[.slice A a.length c]] w fun e w' => ∃ v, e = .returned (.agg #[v]) ∧ w'.ownsRow w.heap.size 9 1 v a.length (a.map sv) ∧ Below w.heap.size w w' := by
  have k1 := fun (W : World) (hW : Below w.heap.size w W) => toStringS_any A c a W ((h.below hW).more hW.size) hn
  obtain ⟨V, hV⟩ : ∃ V, V = a.map sv := ⟨_, rfl⟩
  rw [← hV] at k1 ⊢
  clear hV h
  obtain ⟨W, hW⟩ : ∃ W, W = ((w.alloc (.cells #[.slice A a.length c] 24)).alloc (.cells #[.slice none 0 0] 36)).alloc (.cells #[.slice none 0 0] 36) := ⟨_, rfl⟩
  have hb : Below w.heap.size w W := by rw [hW]; exact (((Below.refl _ _).alloc (Nat.le_refl _) _).alloc (by simp) _).alloc (by simp; omega) _
  have hB1 : Blk W (w.heap.size + 1) 36 #[.slice none 0 0] := by rw [hW]; exact (Blk.new1 w _ _ _).alloc _
  have hB2 : Blk W (w.heap.size + 1 + 1) 36 #[.slice none 0 0] := by rw [hW]; exact Blk.new2 w _ _ _ _
  have hz : W.heap.size = w.heap.size + 3 := by rw [hW]; simp
  go_enter Tryz.func10, Tryz.ntmps10
  go_wp2_with (go_at_call 30; rw [← hW]; refine (k1 _ hb).mono ?_; rintro e w1 ⟨v, rfl, own, hb1⟩
               obtain ⟨A1, c1, rfl, hc1, -⟩ := own_sl own
               have hC1 := hB1.below hb1 hB1.lt
               have hC2 := hB2.below hb1 hB2.lt
               have x1 : w1.cell? ⟨w.heap.size + 1, 0, none⟩ = some (.slice none 0 0) := hC1.cell 0
               have x2 : w1.cell? ⟨w.heap.size + 1 + 1, 0, none⟩ = some (.slice none 0 0) := hC2.cell 0
               have y1 := hC1.frozen 0
               have y2 := hC2.frozen 0
               have z1 := hC1.lt
               have z2 := hC2.lt)
  have hb2 := hb.trans (hb1.mono hb.size)
  have o1 := own_far own (p := ⟨w.heap.size + 1 + 1, 0, none⟩) (own_blk_ne own hC2 (by decide)) (.slice A1 a.length c1)
  have hD1 := hC1.far (p := ⟨w.heap.size + 1 + 1, 0, none⟩) (by simp) (.slice A1 a.length c1)
  have o2 := own_far o1 (p := ⟨w.heap.size + 1, 0, none⟩) (own_blk_ne o1 hD1 (by decide)) (.slice A1 a.length c1)
  have hb3 := (hb2.setCell (p := ⟨w.heap.size + 1 + 1, 0, none⟩) (by simp; omega) (.slice A1 a.length c1)).setCell (p := ⟨w.heap.size + 1, 0, none⟩) (by simp) (.slice A1 a.length c1)
  exact ret_row (by rfl) (w.heap.size + 1) 36 #[.slice A1 a.length c1] _ rfl (hD1.set_ 0 _) Tryz.underlying36 rfl (by kernel_rfl) rfl ⟨_, rfl, own_base o2 hb.size, hb3⟩
end Go.Proofs.YtohopceknpgcnaaGreatDoor
/-
  Contracts: marks laid into a list of strings, into a lexicon (the laws package).
  Conditions: the list is the caller's own; a number of common size.
-/
namespace Go.Proofs.YtohopceknpgcnaaGreatDoor
open Go.RowKit RegP RegL RegV
set_option maxHeartbeats 2000000
set_option maxRecDepth 100000

/-- The marks. -/
def marks (k n : Nat) : List Str := (List.range n).map fun i => markT (k + i)
/-- A list, some marks laid into it. -/
def markTo (a : List Str) (k j : Nat) : List Value := (List.range a.length).map fun i => if i < j then sv (markT (k + i)) else sv (a.getD i [])
theorem markTo_length (a : List Str) (k j : Nat) : (markTo a k j).length = a.length := by simp [markTo]
theorem markTo_step (a : List Str) (k j : Nat) (h : j < a.length) : (markTo a k j).set j (sv (markT (k + j))) = markTo a k (j + 1) := by
  apply List.ext_getElem?
  intro i
  unfold markTo
  rw [List.getElem?_set]
  by_cases hij : j = i
  · subst hij
    rw [if_pos rfl, List.length_map, List.length_range, if_pos h, List.getElem?_map, List.getElem?_range h]
    simp
  · rw [if_neg hij]
    by_cases hi : i < a.length
    · rw [List.getElem?_map, List.getElem?_map, List.getElem?_range hi]
      have : (i < j) = (i < j + 1) := by rw [eq_iff_iff]; omega
      simp only [Option.map_some, this]
    · rw [List.getElem?_eq_none (by simp; omega), List.getElem?_eq_none (by simp; omega)]
theorem markTo_end (a : List Str) (k : Nat) : markTo a k a.length = (marks k a.length).map sv := by
  unfold markTo marks
  rw [List.map_map]
  refine List.map_congr_left fun i hi => ?_
  rw [if_pos (List.mem_range.1 hi)]
  rfl
theorem markTo_start (a : List Str) (k : Nat) : markTo a k 0 = a.map sv := by
  apply List.ext_getElem?
  intro i
  unfold markTo
  by_cases hi : i < a.length
  · rw [List.getElem?_map, List.getElem?_range hi, List.getElem?_map, List.getElem?_eq_getElem hi]
    simp [List.getD_eq_getElem?_getD, hi]
  · rw [List.getElem?_eq_none (by simp; omega), List.getElem?_eq_none (by simp; omega)]
theorem grown_set {W w : World} {g : Nat} (h : W.grownBy w (some g)) (j : Nat) (u : Value) : W.grownBy (w.setCell ⟨g, j, none⟩ u) (some g) :=
  ⟨h.os, h.tape, h.output, by simpa using h.size, fun k hk hne => (Below.heap_setCell w ⟨g, j, none⟩ u k (fun e => hne (by rw [e]))).trans (h.block k hk hne)⟩
theorem grown_call {W w w' : World} {r : Option Nat} (h : W.grownBy w r) (hb : Below w.heap.size w w') : W.grownBy w' r :=
  ⟨hb.os.trans h.os, hb.tape.trans h.tape, hb.output.trans h.output, Nat.le_trans h.size hb.size, fun k hk hne => (hb.block k (Nat.lt_of_lt_of_le hk h.size)).trans (h.block k hk hne)⟩
theorem markStringS_any (v : Value) (a : List Str) (k base : Nat) (w : World) (own0 : w.ownsRow base 9 1 v a.length (a.map sv)) (hn : a.length ≤ 2 ^ 32) (hk : k ≤ 2 ^ 32) (h0 : 0 < k) :
    Calls Tryz.prog 38 #[v, .int .i64 k] w fun e w' => e = .returned (.int .i64 ((k + a.length : Nat) : Int)) ∧ w'.ownsRow base 9 1 v a.length ((marks k a.length).map sv) ∧ w.grownBy w' v.ownBlock := by
  have hst := Lib.hid (markTo_step a k)
  have hen := Lib.hid (markTo_end a k)
  have hcl := Lib.hid (markTo_length a k)
  rw [← markTo_start a k] at own0
  obtain ⟨R, hR⟩ : ∃ R : Int, R = ((k + a.length : Nat) : Int) := ⟨_, rfl⟩
  rw [← hR]
  have hR' := Lib.hid hR
  clear hR
  rcases Nat.eq_zero_or_pos a.length with hz | hz
  · obtain ⟨A, c, hv, -, -⟩ := own_sl own0
    rw [hz] at hv
    subst hv
    have hRk : R = (k : Int) := by rw [hR'.out, hz]; rfl
    have hres : w.ownsRow base 9 1 (.slice A 0 c) a.length ((marks k a.length).map sv) := by rw [← hen.out, hz]; rw [hz] at own0; exact own0
    clear own0
    go_enter Tryz.func38, Tryz.ntmps38
    go_wp2_with (fail)
    go_loopw [1, 5] (fun kv i wr => kv = .int .i64 (k : Int) ∧ i = .int .i64 0 ∧ wr = w) (fun _ _ _ => 0)
    case atStart => exact ⟨rfl, rfl, rfl⟩
    case round =>
      obtain ⟨rfl, rfl, rfl⟩ := hrel
      go_wp2_with (fail)
      go_ret
      exact ⟨ret_int hRk.symm, hres, ⟨rfl, rfl, rfl, Nat.le_refl _, fun _ _ _ => rfl⟩⟩
  · obtain ⟨g, cap, hv, hbg, hlt⟩ := own0.form hz
    subst hv
    clear hz
    have hgr0 : w.grownBy w (some g) := ⟨rfl, rfl, rfl, Nat.le_refl _, fun _ _ _ => rfl⟩
    go_enter Tryz.func38, Tryz.ntmps38
    go_wp2_with (fail)
    go_loopw [1, 5] (fun kv i wr => ∃ j : Nat, j ≤ a.length ∧ i = .int .i64 j ∧ kv = .int .i64 ((k + j : Nat) : Int) ∧ wr.ownsRow base 9 1 (.slice (some ⟨g, 0, none⟩) a.length cap) a.length (markTo a k j) ∧ w.grownBy wr (some g)) (fun _ i _ => a.length - (intOf i).toNat)
    case atStart => exact ⟨0, by omega, rfl, rfl, own0, hgr0⟩
    case round =>
      clear own0 hgr0
      obtain ⟨j, hj, rfl, rfl, own, hgr⟩ := hrel
      by_cases hjl : j < a.length
      · have hstep := Lib.hid (hst.out j hjl)
        have km := fun w => markText_any (k + j) w (by omega) (by omega)
        obtain ⟨y, hy⟩ : ∃ y, y = markT (k + j) := ⟨_, rfl⟩
        rw [← hy] at hstep km
        clear hy
        have hjj : (j : Int) < (a.length : Int) := by omega
        have hj0 : (0 : Int) ≤ (j : Int) := by omega
        obtain ⟨m, hm⟩ : ∃ m : Int, m = ((k + j : Nat) : Int) := ⟨_, rfl⟩
        have hm1 : ((k + (j + 1) : Nat) : Int) = m + 1 := by omega
        have hm2 : 0 ≤ m := by omega
        have hm3 : m ≤ 17179869184 := by omega
        rw [← hm] at km ⊢
        have hm1' := Lib.hid hm1
        clear hm hm1
        have hlen : j < (markTo a k j).length := by rw [hcl.out]; exact hjl
        obtain ⟨z, hz⟩ : ∃ z, z = (markTo a k j)[j] := ⟨_, rfl⟩
        have hcz : (markTo a k j)[j]? = some z := by rw [List.getElem?_eq_getElem hlen, hz]
        clear hz hlen
        go_wp2_with (go_at_call 40; refine (km _).mono ?_; rintro e w5 ⟨rfl, hb5⟩
                     have own5 := own_call own hb5
                     have hcj : w5.cell? ⟨g, j, none⟩ = some z := (own5.cellAt j (by omega)).trans hcz
                     have hfj := own5.frozenAt j)
        have hs := (own5.stored j (sv y)).1
        rw [hstep.out] at hs
        go_roundw
        case rel => exact ⟨j + 1, by omega, by go_num, by rw [hm1'.out], hs, grown_set (grown_call hgr hb5) j _⟩
        case measure => simp only [intOf]; omega
      · obtain rfl : j = a.length := by omega
        rw [hen.out] at own
        go_wp2_with (fail)
        go_ret
        exact ⟨ret_int (by rw [hR'.out]), own, hgr⟩
theorem markLexicon_any (v : Value) (a : List Str) (k base : Nat) (w : World) (own0 : w.ownsRow base 9 1 v a.length (a.map sv)) (hn : a.length ≤ 2 ^ 32) (hk : k ≤ 2 ^ 32) (h0 : 0 < k) :
    Calls Tryz.prog 17 #[.agg #[v], .int .i64 k] w fun e w' => e = .returned (.int .i64 ((k + a.length : Nat) : Int)) ∧ w'.ownsRow base 9 1 v a.length ((marks k a.length).map sv) ∧ w.grownBy w' v.ownBlock := by
  have k1 := fun (W : World) (hW : W.ownsRow base 9 1 v a.length (a.map sv)) => markStringS_any v a k base W hW hn hk h0
  obtain ⟨M, hM⟩ : ∃ M, M = (marks k a.length).map sv := ⟨_, rfl⟩
  obtain ⟨V, hV⟩ : ∃ V, V = a.map sv := ⟨_, rfl⟩
  rw [← hM, ← hV] at k1
  rw [← hM]
  rw [← hV] at own0
  clear hM hV
  obtain ⟨R, hR⟩ : ∃ R : Int, R = ((k + a.length : Nat) : Int) := ⟨_, rfl⟩
  rw [← hR] at k1 ⊢
  clear hR
  obtain ⟨A, c, rfl, -, -⟩ := own_sl own0
  obtain ⟨W, hW⟩ : ∃ W, W = w.alloc (.cells #[.slice A a.length c] 36) := ⟨_, rfl⟩
  have own1 : W.ownsRow base 9 1 (.slice A a.length c) a.length V := by rw [hW]; exact own_call own0 ((Below.refl _ _).alloc (Nat.le_refl _) _)
  have hz : w.heap.size ≤ W.heap.size := by rw [hW]; simp
  have hbk : ∀ k, k < w.heap.size → W.heap[k]? = w.heap[k]? := fun k hk => by rw [hW]; exact Below.heap_alloc w _ k hk
  have ho : W.os = w.os ∧ W.tape = w.tape ∧ W.output = w.output := by rw [hW]; exact ⟨rfl, rfl, rfl⟩
  go_enter Tryz.func17, Tryz.ntmps17
  go_wp2_with (go_at_call 38; rw [← hW]; refine (k1 _ own1).mono ?_; rintro e w1 ⟨rfl, own2, hg⟩)
  go_ret
  exact ⟨rfl, own2, ⟨hg.os.trans ho.1, hg.tape.trans ho.2.1, hg.output.trans ho.2.2, Nat.le_trans hz hg.size, fun k hk hne => (hg.block k (Nat.lt_of_lt_of_le hk hz) hne).trans (hbk k hk)⟩⟩
end Go.Proofs.YtohopceknpgcnaaGreatDoor
/-
  The state of the law's regions that call a function of three arguments: a copied lexicon, the answer, its parts.
  Conditions: none.
-/
namespace Go.Proofs.YtohopceknpgcnaaGreatDoor
open Go.RowKit RegP RegL RegV

/-- The first of two results. -/
def fstV : Value → Value
  | .tuple a => a.getD 0 undef
  | _ => undef
/-- The answer's list. -/
def ansL (C : Int) (M : List Str) : List Str := if C = 0 then M else []
structure SQ (W : World) (n : Nat) (V : List Value) (iL ic : Nat) (C : Int) (M : List Str) (σ : Nat → Value) (L : Nat → Bool) (w : World) : Prop where
  low : Below W.heap.size W w
  lex : L iL = true → ∃ v, σ iL = .agg #[v] ∧ w.ownsRow W.heap.size 9 1 v n V
  call : L ic = true → ∃ v, σ ic = .tuple #[v, .int .i64 C] ∧ w.ownsRow W.heap.size 9 1 v (ansL C M).length ((ansL C M).map sv)
  mv : L (ic + 1) = true → L ic = true ∧ σ (ic + 1) = σ ic
  e0 : L (ic + 2) = true → L ic = true ∧ σ (ic + 2) = fstV (σ ic)
  a0 : L (ic + 4) = true → L ic = true ∧ σ (ic + 4) = fstV (σ ic)
section
variable {W w w' : World} {n : Nat} {V : List Value} {iL ic i : Nat} {C : Int} {M : List Str} {σ : Nat → Value} {L : Nat → Bool}
theorem SQ.start : SQ W n V iL ic C M σ (fun _ => false) W.drew := ⟨(Below.refl _ _).drew, (fun h => by cases h), (fun h => by cases h), (fun h => by cases h), (fun h => by cases h), (fun h => by cases h)⟩
theorem SQ.below (h : SQ W n V iL ic C M σ L w) (hb : Below w.heap.size w w') : SQ W n V iL ic C M σ L w' :=
  ⟨h.low.trans (hb.mono h.low.size), fun e => by
    obtain ⟨v, h1, h2⟩ := h.lex e
    exact ⟨v, h1, own_call h2 hb⟩, fun e => by
    obtain ⟨v, h1, h2⟩ := h.call e
    exact ⟨v, h1, own_call h2 hb⟩, h.mv, h.e0, h.a0⟩
theorem SQ.keep (h : SQ W n V iL ic C M σ L w) (h1 : i ≠ iL) (h2 : i < ic ∨ i = ic + 3 ∨ ic + 4 < i) : SQ W n V iL ic C M σ (upd L i) w :=
  ⟨h.low, fun e => h.lex (by rwa [upd_ne L h1.symm] at e), fun e => h.call (by rwa [upd_ne L (by omega)] at e), fun e => by
    rw [upd_ne L (by omega)] at e; rw [upd_ne L (by omega)]; exact h.mv e, fun e => by
    rw [upd_ne L (by omega)] at e; rw [upd_ne L (by omega)]; exact h.e0 e, fun e => by
    rw [upd_ne L (by omega)] at e; rw [upd_ne L (by omega)]; exact h.a0 e⟩
end
theorem szGo_bd : ∀ (a : List Str) (l : Int), 0 ≤ szGo a l → (∀ x ∈ a, (x.length : Int) ≤ l) ∧ szGo a l ≤ l
  | [], l, h => ⟨fun x hx => (by cases hx), Int.le_refl _⟩
  | x :: r, l, h => by
    rw [szGo] at h ⊢
    split at h
    · omega
    · rename_i hl
      rw [if_neg hl]
      obtain ⟨h1, h2⟩ := szGo_bd r _ h
      refine ⟨fun y hy => ?_, by omega⟩
      rcases List.mem_cons.1 hy with e | hy
      · subst e; omega
      · have := h1 y hy; omega
theorem szS_bd {a : List Str} {l : Int} (h : 0 ≤ szS a l) : (a.length : Int) ≤ l ∧ (∀ x ∈ a, (x.length : Int) ≤ l) ∧ szS a l ≤ l := by
  unfold szS at h ⊢
  split at h
  · omega
  · rename_i hl
    rw [if_neg hl]
    obtain ⟨h1, h2⟩ := szGo_bd a _ h
    exact ⟨by omega, fun x hx => by have := h1 x hx; omega, by omega⟩
theorem szB_bd {b : Bd} {l : Int} (h : 0 ≤ szB b l) : (b.prem.length : Int) ≤ l ∧ (b.cells.length : Int) ≤ l := by
  unfold szB at h
  split at h
  · omega
  · split at h
    · omega
    · omega
end Go.Proofs.YtohopceknpgcnaaGreatDoor
