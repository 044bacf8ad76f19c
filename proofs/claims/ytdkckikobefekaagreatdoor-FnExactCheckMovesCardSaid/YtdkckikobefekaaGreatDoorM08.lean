/-
  Contracts: how plays touch the letters on a board (layer 12 of the spec package); Contract: a play that places one tile and forms two words (layer 12 of the spec package); Contract: whether a play is legal (layer 12 of the spec package); Contract: a word with letters for its new squares (layer 16 of the spec package); Contract: the letters that a word needs from a square on to the right (layer 16 of the spec package).
  Conditions: a board that is valid lies at the head of a block; the play is valid on it; a board that is valid lies at the head of a block, a lexicon at an address; a board that is valid lies at an address; the word lies on it; there are letters enough; a board that is valid lies at an address.
-/
import Derived.Test.YtdkckikobefekaaGreatDoorM02
import Derived.Test.YtdkckikobefekaaGreatDoorM06
import Derived.Test.YtdkckikobefekaaGreatDoorM07
import Derived.Test.YtdkckikobefekaaGreatDoorM04
namespace Go.Proofs.YtdkckikobefekaaGreatDoor
open Go.RowKit RegP RegL RegV
set_option maxHeartbeats 400000
theorem isEmpty_iff' (l : Str) (v : Bool) (h : l.isEmpty = v) : (l = []) = (v = true) := by rw [← h]; simp [List.isEmpty_iff]
def touchB (b : Bd) (q : Pl) : Bool :=
 if lettersS b = [] then (decide ((flatP q).row = b.size / 2) && (decide ((flatP q).col ≤ b.size / 2) && decide (b.size / 2 < (flatP q).col + q.word.length)))
 else decide ((freshL (flatB b q) (flatP q)).length < q.word.length) || decide (1 < (formedL (flatB b q) (flatP q)).length)
theorem l12Touches_any (g : Nat) {o : Nat} (b : Bd) (q : Pl) (w : World) (hp : BAt w ⟨g, o, none⟩ b) (hf : b.Fit) (hon : OnB (flatB b q) (flatP q)) (hl : q.word.length ≤ 2 ^ 37) (hc0 : 0 ≤ (flatP q).col ∧ (flatP q).col ≤ 100) :
   Calls Tryz.prog 145 #[.pointer (some ⟨g, o, none⟩), q.v] w fun e w' => e = .returned (.bool (touchB b q)) ∧ Below w.heap.size w w' := by
 have hdef : Hid (touchB b q = _) := Lib.hid (by rw [touchB])
 have hwf := flatP_word q
 have hcl : b.cells.length ≤ 2 ^ 38 := by
   have h1 := hf.cells; have h5 := hf.lo; have h15 := hf.hi
   have := (mul_bounds (r := 0) (c := 0) h5 h15 (by omega) (by omega) (by omega) (by omega)).2.2.2.2
   omega
 have h5 := hf.lo
 have h15 := hf.hi
 have hfl := l12Flat_any g (o := o) b q
 have hfit : (flatB b q).Fit := flatB_fit hf
 have hwl : (flatP q).word.length ≤ 2 ^ 37 := by rw [hwf]; exact hl
 have hFl := freshTo_length (flatB b q) (flatP q) (flatP q).word.length
 change (freshL (flatB b q) (flatP q)).length ≤ _ at hFl
 have hGl := formedL_length (flatB b q) (flatP q)
 have hfo := fun p w hp => l12Formed_any p (flatB b q) (flatP q) w hp hfit hon hwl
 have hfr := fun p w hp => l12Fresh_any p (flatB b q) (flatP q) w hp hfit hon (by omega)
 obtain ⟨F, hF⟩ : ∃ F, F = formedL (flatB b q) (flatP q) := ⟨_, rfl⟩
 obtain ⟨G, hG⟩ : ∃ G, G = freshL (flatB b q) (flatP q) := ⟨_, rfl⟩
 rw [← hF] at hdef hfo hGl
 rw [← hG] at hdef hfr hFl
 obtain ⟨q', hq'⟩ : ∃ q', q' = flatP q := ⟨_, rfl⟩
 obtain ⟨b', hb'⟩ : ∃ b', b' = flatB b q := ⟨_, rfl⟩
 rw [← hq'] at hc0 hwf hdef hwl hFl hGl
 rw [← hq', ← hb'] at hfl hfo hfr
 clear hF hG hq' hb' hfit hon
 obtain ⟨S, hS⟩ : ∃ S, S = touchB b q := ⟨_, rfl⟩
 rw [← hS] at hdef ⊢
 clear hS
 have hql : Hid (q'.word.length = q.word.length) := Lib.hid (by rw [hwf])
 have hwf' := Lib.hid hwf
 clear hwf
 obtain ⟨r, c, dn, s⟩ := q
 simp only [Bd.v, Pl.v] at hfl hfo hfr ⊢
 simp only at hl hdef hql
 obtain ⟨hc0, hc1⟩ := hc0
 have hpW := hp.alloc (.cells #[.int .i64 r, .int .i64 c, .bool dn, sv s] 61)
 have hbW := (Below.refl w.heap.size w).alloc (Nat.le_refl _) (.cells #[.int .i64 r, .int .i64 c, .bool dn, sv s] 61)
 obtain ⟨W, hW⟩ : ∃ W, W = w.alloc (.cells #[.int .i64 r, .int .i64 c, .bool dn, sv s] 61) := ⟨_, rfl⟩
 rw [← hW] at hpW hbW
 have hd2 : b.size.tdiv 2 = b.size / 2 := Int.tdiv_eq_ediv_of_nonneg (by omega)
 have hz0 := hbW.size
 cases hle : (lettersS b).isEmpty
 · go_enter Tryz.func145, Tryz.ntmps145
   go_wp2_with (first
     | (go_at_call 80; rw [← hW]; refine (hfl W hpW hf).mono ?_; rintro e w1 ⟨rfl, hb1⟩)
     | (go_at_call 192; refine (l11Letters_any ⟨g, o, none⟩ b _ ((((hpW.below hb1 hpW.lt)).alloc _).alloc _) hcl).mono ?_; rintro e w2 ⟨rfl, hb2⟩))
   have hw1 := hbW.trans (hb1.mono hbW.size)
   have hw1a := (hw1.alloc hw1.size (.cells #[.int .i64 b'.size, sv b'.prem, sv b'.cells] 41))
   have hw1b := hw1a.alloc hw1a.size (.cells #[.int .i64 q'.row, .int .i64 q'.col, .bool q'.down, sv q'.word] 61)
   have hw2 := hw1b.trans (hb2.mono hw1b.size)
   have hB' : BAt w2 ⟨w1.heap.size, 0, none⟩ b' := ((BAt.new w1 b' 41).alloc _).below hb2 (by simp; omega)
   have hP' : Blk w2 (w1.heap.size + 1) 61 _ := (Blk.new1 w1 _ _ _).below hb2 (by simp)
   have e0 : w2.cell? ⟨w1.heap.size + 1, 0, none⟩ = some (.int .i64 q'.row) := hP'.cell 0
   have e1 : w2.cell? ⟨w1.heap.size + 1, 1, none⟩ = some (.int .i64 q'.col) := hP'.cell 1
   have e2 : w2.cell? ⟨w1.heap.size + 1, 2, none⟩ = some (.bool q'.down) := hP'.cell 2
   have e3 : w2.cell? ⟨w1.heap.size + 1, 3, none⟩ = some (sv q'.word) := hP'.cell 3
   clear hfl hb1 hb2 hw1 hw1a hw1b hpW
   have hP'' := hP'
   have hwW2 : w2.heap.size ≤ w2.heap.size := Nat.le_refl _
   by_cases hlt : G.length < q'.word.length
   · have hlt' : decide ((G.length : Int) < (q'.word.length : Int)) = true := by simp; omega
     refine wp_region_v 9 14 (SV w2 [(1, G.length)]) (by kernel_rfl) (by kernel_rfl) ⟨fun _ => undef, SV.start⟩ ?_
     simp only [qqT, List.take_zero, qqD, List.drop_zero]
     apply pv_step (fun _ => rfl)
     · intro σ L w' hS h1 h2 K hK
       clear h2
       have hb := hS.low
       have f0 : w'.cell? ⟨w1.heap.size + 1, 0, none⟩ = _ := (hb.cell hP'.lt).trans e0
       have f1 : w'.cell? ⟨w1.heap.size + 1, 1, none⟩ = _ := (hb.cell hP'.lt).trans e1
       have f2 : w'.cell? ⟨w1.heap.size + 1, 2, none⟩ = _ := (hb.cell hP'.lt).trans e2
       have f3 : w'.cell? ⟨w1.heap.size + 1, 3, none⟩ = _ := (hb.cell hP'.lt).trans e3
       go_wp2
       exact hS.keep (by simp)
     simp only [Act.put, qqS, qqC, qqZ]
     apply pv_free (fun _ => rfl)
     · intro σ L w' hS h1 h2 K hK
       clear h2
       have hb := hS.low
       go_wp2_with (go_at_call 149; refine (hfr ⟨w1.heap.size, 0, none⟩ _ (hB'.below hb hB'.lt)).mono ?_; rintro e w3 ⟨v3, rfl, own3, hb3⟩; obtain ⟨A3, c3, rfl, _, _⟩ := own_sl own3)
       exact (hS.call hb3).put (by simp)
     simp only [Act.put, qqS, qqC, qqZ]
     apply pv_step (fun _ => rfl)
     · intro σ L w' hS h1 h2 K hK
       obtain ⟨A1, c1, hs1⟩ := hS.sl (1, G.length) (by simp) (h2 1 (List.contains_iff_mem.1 (by kernel_rfl)))
       clear h2
       simp only at hs1
       simp only [hs1] at hK ⊢
       go_wp2
       exact hS.keep (by simp)
     simp only [Act.put, qqS, qqC, qqZ]
     iterate 5
       apply pv_step (fun _ => rfl)
       · intro σ L w' hS h1 h2 K hK
         clear h2
         have hb := hS.low
         have f0 : w'.cell? ⟨w1.heap.size + 1, 0, none⟩ = _ := (hb.cell hP'.lt).trans e0
         have f1 : w'.cell? ⟨w1.heap.size + 1, 1, none⟩ = _ := (hb.cell hP'.lt).trans e1
         have f2 : w'.cell? ⟨w1.heap.size + 1, 2, none⟩ = _ := (hb.cell hP'.lt).trans e2
         have f3 : w'.cell? ⟨w1.heap.size + 1, 3, none⟩ = _ := (hb.cell hP'.lt).trans e3
         go_wp2
         exact hS.keep (by simp)
       simp only [Act.put, qqS, qqC, qqZ]
     iterate 4
       apply pv_skip (fun _ => rfl) (fun σ L w hS h1 => hS.keep (by simp))
       simp only [Act.put, qqS, qqC, qqZ]
     iterate 2
       apply pv_step (fun _ => rfl)
       · intro σ L w' hS h1 h2 K hK
         clear h2
         have hb := hS.low
         have f0 : w'.cell? ⟨w1.heap.size + 1, 0, none⟩ = _ := (hb.cell hP'.lt).trans e0
         have f1 : w'.cell? ⟨w1.heap.size + 1, 1, none⟩ = _ := (hb.cell hP'.lt).trans e1
         have f2 : w'.cell? ⟨w1.heap.size + 1, 2, none⟩ = _ := (hb.cell hP'.lt).trans e2
         have f3 : w'.cell? ⟨w1.heap.size + 1, 3, none⟩ = _ := (hb.cell hP'.lt).trans e3
         go_wp2
         exact hS.keep (by simp)
       simp only [Act.put, qqS, qqC, qqZ]
     refine pv_nil ?_
     intro σ w' hS
     go_wp2
     go_ret
     exact ⟨ret_bool (by rw [hdef.out, if_neg (by simp [isEmpty_iff' _ _ hle]), ← hql.out, decide_eq_true hlt]; rfl), hw2.trans (hS.low.mono hw2.size)⟩
   · have hlt' : decide ((G.length : Int) < (q'.word.length : Int)) = false := by simp; omega
     refine wp_region_v 9 14 (SV w2 [(1, G.length), (9, F.length)]) (by kernel_rfl) (by kernel_rfl) ⟨fun _ => undef, SV.start⟩ ?_
     simp only [qqT, List.take_zero, qqD, List.drop_zero]
     apply pv_step (fun _ => rfl)
     · intro σ L w' hS h1 h2 K hK
       clear h2
       have hb := hS.low
       have f0 : w'.cell? ⟨w1.heap.size + 1, 0, none⟩ = _ := (hb.cell hP'.lt).trans e0
       have f1 : w'.cell? ⟨w1.heap.size + 1, 1, none⟩ = _ := (hb.cell hP'.lt).trans e1
       have f2 : w'.cell? ⟨w1.heap.size + 1, 2, none⟩ = _ := (hb.cell hP'.lt).trans e2
       have f3 : w'.cell? ⟨w1.heap.size + 1, 3, none⟩ = _ := (hb.cell hP'.lt).trans e3
       go_wp2
       exact hS.keep (by simp)
     simp only [Act.put, qqS, qqC, qqZ]
     apply pv_free (fun _ => rfl)
     · intro σ L w' hS h1 h2 K hK
       clear h2
       have hb := hS.low
       go_wp2_with (go_at_call 149; refine (hfr ⟨w1.heap.size, 0, none⟩ _ (hB'.below hb hB'.lt)).mono ?_; rintro e w3 ⟨v3, rfl, own3, hb3⟩; obtain ⟨A3, c3, rfl, _, _⟩ := own_sl own3)
       exact (hS.call hb3).put (by simp)
     simp only [Act.put, qqS, qqC, qqZ]
     apply pv_step (fun _ => rfl)
     · intro σ L w' hS h1 h2 K hK
       obtain ⟨A1, c1, hs1⟩ := hS.sl (1, G.length) (by simp) (h2 1 (List.contains_iff_mem.1 (by kernel_rfl)))
       clear h2
       simp only at hs1
       simp only [hs1] at hK ⊢
       go_wp2
       exact hS.keep (by simp)
     simp only [Act.put, qqS, qqC, qqZ]
     iterate 6
       apply pv_step (fun _ => rfl)
       · intro σ L w' hS h1 h2 K hK
         clear h2
         have hb := hS.low
         have f0 : w'.cell? ⟨w1.heap.size + 1, 0, none⟩ = _ := (hb.cell hP'.lt).trans e0
         have f1 : w'.cell? ⟨w1.heap.size + 1, 1, none⟩ = _ := (hb.cell hP'.lt).trans e1
         have f2 : w'.cell? ⟨w1.heap.size + 1, 2, none⟩ = _ := (hb.cell hP'.lt).trans e2
         have f3 : w'.cell? ⟨w1.heap.size + 1, 3, none⟩ = _ := (hb.cell hP'.lt).trans e3
         go_wp2
         exact hS.keep (by simp)
       simp only [Act.put, qqS, qqC, qqZ]
     apply pv_free (fun _ => rfl)
     · intro σ L w' hS h1 h2 K hK
       clear h2
       have hb := hS.low
       go_wp2_with (go_at_call 217; refine (hfo ⟨w1.heap.size, 0, none⟩ _ (hB'.below hb hB'.lt)).mono ?_; rintro e w3 ⟨v3, rfl, own3, hb3⟩; obtain ⟨A3, c3, rfl, _, _⟩ := own_sl own3)
       exact (hS.call hb3).put (by simp)
     simp only [Act.put, qqS, qqC, qqZ]
     apply pv_step (fun _ => rfl)
     · intro σ L w' hS h1 h2 K hK
       obtain ⟨A1, c1, hs1⟩ := hS.sl (9, F.length) (by simp) (h2 9 (List.contains_iff_mem.1 (by kernel_rfl)))
       clear h2
       simp only at hs1
       simp only [hs1] at hK ⊢
       go_wp2
       exact hS.keep (by simp)
     simp only [Act.put, qqS, qqC, qqZ]
     iterate 3
       apply pv_step (fun _ => rfl)
       · intro σ L w' hS h1 h2 K hK
         clear h2
         have hb := hS.low
         have f0 : w'.cell? ⟨w1.heap.size + 1, 0, none⟩ = _ := (hb.cell hP'.lt).trans e0
         have f1 : w'.cell? ⟨w1.heap.size + 1, 1, none⟩ = _ := (hb.cell hP'.lt).trans e1
         have f2 : w'.cell? ⟨w1.heap.size + 1, 2, none⟩ = _ := (hb.cell hP'.lt).trans e2
         have f3 : w'.cell? ⟨w1.heap.size + 1, 3, none⟩ = _ := (hb.cell hP'.lt).trans e3
         go_wp2
         exact hS.keep (by simp)
       simp only [Act.put, qqS, qqC, qqZ]
     refine pv_nil ?_
     intro σ w' hS
     go_wp2
     go_ret
     exact ⟨ret_bool (by rw [hdef.out, if_neg (by simp [isEmpty_iff' _ _ hle]), ← hql.out, decide_eq_false hlt]; simp; omega), hw2.trans (hS.low.mono hw2.size)⟩
 · have hnil : lettersS b = [] := by simpa [List.isEmpty_iff] using hle
   have hdef2 : Hid (S = (decide (q'.row = b.size / 2) && (decide (q'.col ≤ b.size / 2) && decide (b.size / 2 < q'.col + (q'.word.length : Int))))) := Lib.hid (by rw [hdef.out, if_pos hnil, hql.out])
   clear hdef hnil
   by_cases g1 : q'.row = b.size / 2
   · have g1' : (q'.row == b.size / 2) = true := by simp [g1]
     have G1 := Lib.hid g1
     clear g1
     by_cases g2 : q'.col ≤ b.size / 2
     · have g2' : decide (q'.col ≤ b.size / 2) = true := by simp [g2]
       go_enter Tryz.func145, Tryz.ntmps145
       go_wp2_with (first
         | (go_at_call 80; rw [← hW]; refine (hfl W hpW hf).mono ?_; rintro e w1 ⟨rfl, hb1⟩)
         | (go_at_call 192; refine (l11Letters_any ⟨g, o, none⟩ b _ ((((hpW.below hb1 hpW.lt)).alloc _).alloc _) hcl).mono ?_; rintro e w2 ⟨rfl, hb2⟩
            have hw1 := hbW.trans (hb1.mono hbW.size)
            have hw1a := (hw1.alloc hw1.size (.cells #[.int .i64 b'.size, sv b'.prem, sv b'.cells] 41))
            have hw1b := hw1a.alloc hw1a.size (.cells #[.int .i64 q'.row, .int .i64 q'.col, .bool q'.down, sv q'.word] 61)
            have hw2 := hw1b.trans (hb2.mono hw1b.size)
            have d0 : w2.cell? ⟨g, o, none⟩ = some (.int .i64 b.size) := (hp.below hw2 hp.lt).1
            have hP' : Blk w2 (w1.heap.size + 1) 61 _ := (Blk.new1 w1 _ _ _).below hb2 (by simp)
            have e0 : w2.cell? ⟨w1.heap.size + 1, 0, none⟩ = some (.int .i64 q'.row) := hP'.cell 0
            have e1 : w2.cell? ⟨w1.heap.size + 1, 1, none⟩ = some (.int .i64 q'.col) := hP'.cell 1
            have e2 : w2.cell? ⟨w1.heap.size + 1, 2, none⟩ = some (.bool q'.down) := hP'.cell 2
            have e3 : w2.cell? ⟨w1.heap.size + 1, 3, none⟩ = some (sv q'.word) := hP'.cell 3))
       go_ret
       exact ⟨ret_bool (by rw [hdef2.out, decide_eq_true G1.out, g2']; rfl), hw2⟩
     · have g2' : decide (q'.col ≤ b.size / 2) = false := by simp [g2]
       go_enter Tryz.func145, Tryz.ntmps145
       go_wp2_with (first
         | (go_at_call 80; rw [← hW]; refine (hfl W hpW hf).mono ?_; rintro e w1 ⟨rfl, hb1⟩)
         | (go_at_call 192; refine (l11Letters_any ⟨g, o, none⟩ b _ ((((hpW.below hb1 hpW.lt)).alloc _).alloc _) hcl).mono ?_; rintro e w2 ⟨rfl, hb2⟩
            have hw1 := hbW.trans (hb1.mono hbW.size)
            have hw1a := (hw1.alloc hw1.size (.cells #[.int .i64 b'.size, sv b'.prem, sv b'.cells] 41))
            have hw1b := hw1a.alloc hw1a.size (.cells #[.int .i64 q'.row, .int .i64 q'.col, .bool q'.down, sv q'.word] 61)
            have hw2 := hw1b.trans (hb2.mono hw1b.size)
            have d0 : w2.cell? ⟨g, o, none⟩ = some (.int .i64 b.size) := (hp.below hw2 hp.lt).1
            have hP' : Blk w2 (w1.heap.size + 1) 61 _ := (Blk.new1 w1 _ _ _).below hb2 (by simp)
            have e0 : w2.cell? ⟨w1.heap.size + 1, 0, none⟩ = some (.int .i64 q'.row) := hP'.cell 0
            have e1 : w2.cell? ⟨w1.heap.size + 1, 1, none⟩ = some (.int .i64 q'.col) := hP'.cell 1
            have e2 : w2.cell? ⟨w1.heap.size + 1, 2, none⟩ = some (.bool q'.down) := hP'.cell 2
            have e3 : w2.cell? ⟨w1.heap.size + 1, 3, none⟩ = some (sv q'.word) := hP'.cell 3))
       go_ret
       exact ⟨ret_bool (by rw [hdef2.out, g2']; simp), hw2⟩
   · have g1' : (q'.row == b.size / 2) = false := by simp [g1]
     have G1 := Lib.hid g1
     clear g1
     go_enter Tryz.func145, Tryz.ntmps145
     go_wp2_with (first
       | (go_at_call 80; rw [← hW]; refine (hfl W hpW hf).mono ?_; rintro e w1 ⟨rfl, hb1⟩)
       | (go_at_call 192; refine (l11Letters_any ⟨g, o, none⟩ b _ ((((hpW.below hb1 hpW.lt)).alloc _).alloc _) hcl).mono ?_; rintro e w2 ⟨rfl, hb2⟩
          have hw1 := hbW.trans (hb1.mono hbW.size)
          have hw1a := (hw1.alloc hw1.size (.cells #[.int .i64 b'.size, sv b'.prem, sv b'.cells] 41))
          have hw1b := hw1a.alloc hw1a.size (.cells #[.int .i64 q'.row, .int .i64 q'.col, .bool q'.down, sv q'.word] 61)
          have hw2 := hw1b.trans (hb2.mono hw1b.size)
          have d0 : w2.cell? ⟨g, o, none⟩ = some (.int .i64 b.size) := (hp.below hw2 hp.lt).1
          have hP' : Blk w2 (w1.heap.size + 1) 61 _ := (Blk.new1 w1 _ _ _).below hb2 (by simp)
          have e0 : w2.cell? ⟨w1.heap.size + 1, 0, none⟩ = some (.int .i64 q'.row) := hP'.cell 0
          have e1 : w2.cell? ⟨w1.heap.size + 1, 1, none⟩ = some (.int .i64 q'.col) := hP'.cell 1
          have e2 : w2.cell? ⟨w1.heap.size + 1, 2, none⟩ = some (.bool q'.down) := hP'.cell 2
          have e3 : w2.cell? ⟨w1.heap.size + 1, 3, none⟩ = some (sv q'.word) := hP'.cell 3))
     go_ret
     exact ⟨ret_bool (by rw [hdef2.out, decide_eq_false G1.out]; rfl), hw2⟩
def doubleB (b : Bd) (q : Pl) : Bool := q.down && (decide ((freshL (flatB b q) (flatP q)).length = 1) && decide (1 < (formedL (flatB b q) (flatP q)).length))
theorem l12Double_any (g : Nat) {o : Nat} (b : Bd) (q : Pl) (w : World) (hp : BAt w ⟨g, o, none⟩ b) (hf : b.Fit) (hon : OnB (flatB b q) (flatP q)) (hl : q.word.length ≤ 2 ^ 37) :
   Calls Tryz.prog 146 #[.pointer (some ⟨g, o, none⟩), q.v] w fun e w' => e = .returned (.bool (doubleB b q)) ∧ Below w.heap.size w w' := by
 have hdef : Hid (doubleB b q = _) := Lib.hid (by rw [doubleB])
 have hwf := flatP_word q
 have hfl := l12Flat_any g (o := o) b q
 have hfit : (flatB b q).Fit := flatB_fit hf
 have hwl : (flatP q).word.length ≤ 2 ^ 37 := by rw [hwf]; exact hl
 have hFl := freshTo_length (flatB b q) (flatP q) (flatP q).word.length
 change (freshL (flatB b q) (flatP q)).length ≤ _ at hFl
 have hGl := formedL_length (flatB b q) (flatP q)
 have hfo := fun p w hp => l12Formed_any p (flatB b q) (flatP q) w hp hfit hon hwl
 have hfr := fun p w hp => l12Fresh_any p (flatB b q) (flatP q) w hp hfit hon (by omega)
 obtain ⟨F, hF⟩ : ∃ F, F = formedL (flatB b q) (flatP q) := ⟨_, rfl⟩
 obtain ⟨G, hG⟩ : ∃ G, G = freshL (flatB b q) (flatP q) := ⟨_, rfl⟩
 rw [← hF] at hdef hfo hGl
 rw [← hG] at hdef hfr hFl
 obtain ⟨q', hq'⟩ : ∃ q', q' = flatP q := ⟨_, rfl⟩
 obtain ⟨b', hb'⟩ : ∃ b', b' = flatB b q := ⟨_, rfl⟩
 rw [← hq'] at hwl hFl hGl
 rw [← hq', ← hb'] at hfl hfo hfr
 clear hF hG hq' hb' hfit hon hwf
 obtain ⟨S, hS⟩ : ∃ S, S = doubleB b q := ⟨_, rfl⟩
 rw [← hS] at hdef ⊢
 clear hS
 obtain ⟨r, c, dn, s⟩ := q
 simp only [Bd.v, Pl.v] at hfl hfo hfr ⊢
 simp only at hl hdef
 have hpW := hp.alloc (.cells #[.int .i64 r, .int .i64 c, .bool dn, sv s] 61)
 have hbW := (Below.refl w.heap.size w).alloc (Nat.le_refl _) (.cells #[.int .i64 r, .int .i64 c, .bool dn, sv s] 61)
 have hbx := (Blk.new w 61 #[.int .i64 r, .int .i64 c, .bool dn, sv s])
 cases dn
 · go_enter Tryz.func146, Tryz.ntmps146
   go_wp2_with (fail)
   go_ret
   exact ⟨ret_bool (by rw [hdef.out]; rfl), hbW⟩
 · obtain ⟨W, hW⟩ : ∃ W, W = w.alloc (.cells #[.int .i64 r, .int .i64 c, .bool true, sv s] 61) := ⟨_, rfl⟩
   rw [← hW] at hpW hbW hbx
   by_cases hG1 : G.length = 1
   · have hg : ((G.length : Int) == 1) = true := by rw [hG1]; rfl
     have HG := Lib.hid hG1
     clear hG1
     go_enter Tryz.func146, Tryz.ntmps146
     go_wp2_with (first
       | (go_at_call 80; rw [← hW]; refine (hfl W hpW hf).mono ?_; rintro e w1 ⟨rfl, hb1⟩
          have hw1 := hbW.trans (hb1.mono hbW.size)
          have hw1a := (hw1.alloc hw1.size (.cells #[.int .i64 b'.size, sv b'.prem, sv b'.cells] 41))
          have hw1b := hw1a.alloc hw1a.size (.cells #[.int .i64 q'.row, .int .i64 q'.col, .bool q'.down, sv q'.word] 61))
       | (go_at_call 149; refine (hfr ⟨w1.heap.size, 0, none⟩ _ ((BAt.new w1 b' 41).alloc _)).mono ?_; rintro e w2 ⟨v2, rfl, own2, hb2⟩
          obtain ⟨A2, c2, rfl, _, _⟩ := own_sl own2
          have hw2 := hw1b.trans (hb2.mono hw1b.size)
          have hB' : BAt w2 ⟨w1.heap.size, 0, none⟩ b' := ((BAt.new w1 b' 41).alloc _).below hb2 (by simp; omega)
          have hP' : Blk w2 (w1.heap.size + 1) 61 _ := (Blk.new1 w1 _ _ _).below hb2 (by simp)
          have e0 : w2.cell? ⟨w1.heap.size + 1, 0, none⟩ = some (.int .i64 q'.row) := hP'.cell 0
          have e1 : w2.cell? ⟨w1.heap.size + 1, 1, none⟩ = some (.int .i64 q'.col) := hP'.cell 1
          have e2 : w2.cell? ⟨w1.heap.size + 1, 2, none⟩ = some (.bool q'.down) := hP'.cell 2
          have e3 : w2.cell? ⟨w1.heap.size + 1, 3, none⟩ = some (sv q'.word) := hP'.cell 3)
       | (go_at_call 217; refine (hfo ⟨w1.heap.size, 0, none⟩ _ hB').mono ?_; rintro e w3 ⟨v3, rfl, own3, hb3⟩
          obtain ⟨A3, c3, rfl, _, _⟩ := own_sl own3
          have hw3 := hw2.trans (hb3.mono hw2.size)))
     go_ret
     exact ⟨ret_bool (by rw [hdef.out, decide_eq_true HG.out]; simp; omega), hw3⟩
   · have hg : ((G.length : Int) == 1) = false := by simp; omega
     have HG := Lib.hid hG1
     clear hG1
     go_enter Tryz.func146, Tryz.ntmps146
     go_wp2_with (first
       | (go_at_call 80; rw [← hW]; refine (hfl W hpW hf).mono ?_; rintro e w1 ⟨rfl, hb1⟩
          have hw1 := hbW.trans (hb1.mono hbW.size)
          have hw1a := (hw1.alloc hw1.size (.cells #[.int .i64 b'.size, sv b'.prem, sv b'.cells] 41))
          have hw1b := hw1a.alloc hw1a.size (.cells #[.int .i64 q'.row, .int .i64 q'.col, .bool q'.down, sv q'.word] 61))
       | (go_at_call 149; refine (hfr ⟨w1.heap.size, 0, none⟩ _ ((BAt.new w1 b' 41).alloc _)).mono ?_; rintro e w2 ⟨v2, rfl, own2, hb2⟩
          obtain ⟨A2, c2, rfl, _, _⟩ := own_sl own2
          have hw2 := hw1b.trans (hb2.mono hw1b.size)))
     go_ret
     exact ⟨ret_bool (by rw [hdef.out, decide_eq_false HG.out]; rfl), hw2⟩
set_option maxHeartbeats 1000000
theorem fitsB_on {b : Bd} {q : Pl} (h : fitsB b q = true) : OnB b q ∧ (0 ≤ q.col ∧ q.col ≤ b.size) := by
 simp only [fitsB, Bool.and_eq_true, decide_eq_true_eq] at h
 obtain ⟨h1, h2, _⟩ := h
 obtain ⟨⟨r0, r1⟩, c0, c1⟩ := inB_iff.1 h1
 exact ⟨fun i hi => inB_iff.2 ⟨⟨r0, r1⟩, by omega, by omega⟩, c0, by omega⟩
theorem okB_on {b : Bd} {q : Pl} (h : okB b q = true) : OnB (flatB b q) (flatP q) ∧ (0 ≤ (flatP q).col ∧ (flatP q).col ≤ 100) ∧ q.word.length ≤ 12 := by
 simp only [okB, Bool.and_eq_true] at h
 obtain ⟨h1, h2, h3⟩ := h
 have hf := flatB_fit (q := q) (bdB.fit h1)
 have h15 := hf.hi
 have := fitsB_on h3
 refine ⟨this.1, ⟨this.2.1, by omega⟩, ?_⟩
 simp only [wordB, placedB, inR, Bool.and_eq_true, decide_eq_true_eq] at h2
 omega
def legalC (b : Bd) (ws : List Str) (rack : Str) (q : Pl) : Int :=
 if okB b q then if takeB rack (tilesS (placedS (flatB b q) (flatP q))) then if touchB b q then if doubleB b q then 4 else if 0 < (wrongL b ws q).length then 9 else 0 else 6 else 3 else 2
theorem tilesS_length (s : Str) : (tilesS s).length = s.length := by rw [tilesS, isort_length, List.length_map]
theorem placedS_length (b : Bd) (q : Pl) : (placedS b q).length ≤ q.word.length := by
 rw [placedS, List.length_map]; exact freshTo_length b q q.word.length
theorem l12Legal_any (g : Nat) {o : Nat} (b : Bd) (pl : Addr) (A : Option Addr) (c0 : Nat) (ws : List Str) (rack : Str) (q : Pl) (w : World) (hp : BAt w ⟨g, o, none⟩ b) (hbd : bdB b = true) (hlx : LxAt w pl A c0 ws) (hn : ws.length ≤ 2 ^ 40) (hrk : rack.length ≤ 2 ^ 38) (hl : q.word.length ≤ 2 ^ 37) :
   Calls Tryz.prog 76 #[.pointer (some ⟨g, o, none⟩), .pointer (some pl), sv rack, q.v] w fun e w' => e = .returned (.int .i64 (legalC b ws rack q)) ∧ Below w.heap.size w w' := by
 have hdef : Hid (legalC b ws rack q = _) := Lib.hid (by rw [legalC])
 have hf := bdB.fit hbd
 have h15 := hf.hi
 have h5 := hf.lo
 have hmm := (mul_bounds (r := 0) (c := 0) h5 h15 (by omega) (by omega) (by omega) (by omega)).2.2.2.2
 have hlp : b.prem.length ≤ 2 ^ 40 := by have := hf.prem; omega
 have hlc : b.cells.length ≤ 2 ^ 40 := by have := hf.cells; omega
 have hfl := l12Flat_any g (o := o) b q
 have hfit : (flatB b q).Fit := flatB_fit hf
 have hwf := flatP_word q
 have hwl : (flatP q).word.length ≤ 2 ^ 37 := by rw [hwf]; exact hl
 have hPl : (placedS (flatB b q) (flatP q)).length ≤ 2 ^ 38 := by have := placedS_length (flatB b q) (flatP q); omega
 have hTl : (tilesS (placedS (flatB b q) (flatP q))).length ≤ 2 ^ 38 := by rw [tilesS_length]; exact hPl
 clear hmm h5 h15 hwf
 cases hok : okB b q
 · obtain ⟨S, hS⟩ : ∃ S, S = legalC b ws rack q := ⟨_, rfl⟩
   rw [← hS] at hdef ⊢
   clear hS
   rw [hok] at hdef
   obtain ⟨r, c, dn, s⟩ := q
   have hl38 : (⟨r, c, dn, s⟩ : Pl).word.length ≤ 2 ^ 38 := by omega
   simp only [Pl.v]
   have hpW := hp.alloc (.cells #[.int .i64 r, .int .i64 c, .bool dn, sv s] 61)
   have hbW := (Below.refl w.heap.size w).alloc (Nat.le_refl _) (.cells #[.int .i64 r, .int .i64 c, .bool dn, sv s] 61)
   have hbx := (Blk.new w 61 #[.int .i64 r, .int .i64 c, .bool dn, sv s])
   obtain ⟨W, hW⟩ : ∃ W, W = w.alloc (.cells #[.int .i64 r, .int .i64 c, .bool dn, sv s] 61) := ⟨_, rfl⟩
   rw [← hW] at hpW hbW hbx
   clear hfl hPl hTl hwl
   go_enter Tryz.func76, Tryz.ntmps76
   go_wp2_with (first
     | (go_at_call 144; rw [← hW]; refine (l12Ok_any g b ⟨r, c, dn, s⟩ W hpW hl38 hlp hlc).mono ?_; rw [hok]; rintro e w1 ⟨rfl, hb1⟩
        have hw1 := hbW.trans (hb1.mono hbW.size)
        have hp1 := hp.below hw1 hp.lt
        have hx1 := hbx.below hb1 hbx.lt
        have e0 : w1.cell? ⟨w.heap.size, 0, none⟩ = some (.int .i64 r) := hx1.cell 0
        have e1 : w1.cell? ⟨w.heap.size, 1, none⟩ = some (.int .i64 c) := hx1.cell 1
        have e2 : w1.cell? ⟨w.heap.size, 2, none⟩ = some (.bool dn) := hx1.cell 2
        have e3 : w1.cell? ⟨w.heap.size, 3, none⟩ = some (sv s) := hx1.cell 3))
   go_ret
   exact ⟨ret_int (by rw [hdef.out]; rfl), hw1⟩
 · obtain ⟨hon, hcol, hw12⟩ := okB_on hok
   have hpl := fun p w hp => l12Placed_any p (flatB b q) (flatP q) w hp hfit hon hwl
   have htc := fun w hp => l12Touches_any g (o := o) b q w hp hf hon hl hcol
   have hdb := fun w hp => l12Double_any g (o := o) b q w hp hf hon hl
   have hwr := fun w hp hx => l12Wrong_any g (o := o) b pl A c0 ws q w hp hx hn hf hon hl
   have hWl : (wrongL b ws q).length ≤ 2 ^ 37 := by
     have h1 := List.length_filter_le (fun s => !hasB ws s) (wordsL b q)
     have h2 := formedL_length (flatB b q) (flatP q)
     rw [flatP_word] at h2
     have h3 : (wordsL b q).length = (formedL (flatB b q) (flatP q)).length := by rw [wordsL, List.length_map]
     rw [wrongL]; omega
   obtain ⟨X, hX⟩ : ∃ X, X = placedS (flatB b q) (flatP q) := ⟨_, rfl⟩
   rw [← hX] at hdef hpl hPl hTl
   obtain ⟨U, hU⟩ : ∃ U, U = wrongL b ws q := ⟨_, rfl⟩
   rw [← hU] at hdef hwr hWl
   obtain ⟨tb, htb⟩ : ∃ tb, tb = touchB b q := ⟨_, rfl⟩
   rw [← htb] at hdef htc
   obtain ⟨db, hdbb⟩ : ∃ db, db = doubleB b q := ⟨_, rfl⟩
   rw [← hdbb] at hdef hdb
   obtain ⟨q', hq'⟩ : ∃ q', q' = flatP q := ⟨_, rfl⟩
   obtain ⟨b', hb'⟩ : ∃ b', b' = flatB b q := ⟨_, rfl⟩
   rw [← hq', ← hb'] at hfl hpl
   clear hX hU htb hdbb hq' hb' hfit hon hcol hw12 hwl
   obtain ⟨S, hS⟩ : ∃ S, S = legalC b ws rack q := ⟨_, rfl⟩
   rw [← hS] at hdef ⊢
   clear hS
   rw [hok] at hdef
   obtain ⟨r, c, dn, s⟩ := q
   have hl38 : (⟨r, c, dn, s⟩ : Pl).word.length ≤ 2 ^ 38 := by omega
   simp only [Bd.v, Pl.v] at hfl hpl htc hdb hwr ⊢
   have hpW := hp.alloc (.cells #[.int .i64 r, .int .i64 c, .bool dn, sv s] 61)
   have hbW := (Below.refl w.heap.size w).alloc (Nat.le_refl _) (.cells #[.int .i64 r, .int .i64 c, .bool dn, sv s] 61)
   have hbx := (Blk.new w 61 #[.int .i64 r, .int .i64 c, .bool dn, sv s])
   obtain ⟨W, hW⟩ : ∃ W, W = w.alloc (.cells #[.int .i64 r, .int .i64 c, .bool dn, sv s] 61) := ⟨_, rfl⟩
   rw [← hW] at hpW hbW hbx
   cases htk : takeB rack (tilesS X)
   · rw [htk] at hdef
     go_enter Tryz.func76, Tryz.ntmps76
     go_wp2_with (first
       | (go_at_call 144; rw [← hW]; refine (l12Ok_any g b ⟨r, c, dn, s⟩ W hpW hl38 hlp hlc).mono ?_; rw [hok]; rintro e w1 ⟨rfl, hb1⟩
          have hw1 := hbW.trans (hb1.mono hbW.size)
          have hp1 := hp.below hw1 hp.lt
          have hx1 := hbx.below hb1 hbx.lt
          have e0 : w1.cell? ⟨w.heap.size, 0, none⟩ = some (.int .i64 r) := hx1.cell 0
          have e1 : w1.cell? ⟨w.heap.size, 1, none⟩ = some (.int .i64 c) := hx1.cell 1
          have e2 : w1.cell? ⟨w.heap.size, 2, none⟩ = some (.bool dn) := hx1.cell 2
          have e3 : w1.cell? ⟨w.heap.size, 3, none⟩ = some (sv s) := hx1.cell 3)
       | (go_at_call 80; refine (hfl _ hp1 hf).mono ?_; rintro e w2 ⟨rfl, hb2⟩
          have hw2 := hw1.trans (hb2.mono hw1.size)
          have hx2 := hx1.below hb2 hx1.lt
          have hw2a := (hw2.alloc hw2.size (.cells #[.int .i64 b'.size, sv b'.prem, sv b'.cells] 41))
          have hw2b := hw2a.alloc hw2a.size (.cells #[.int .i64 q'.row, .int .i64 q'.col, .bool q'.down, sv q'.word] 61)
          have hx2b := (hx2.alloc (.cells #[.int .i64 b'.size, sv b'.prem, sv b'.cells] 41)).alloc (.cells #[.int .i64 q'.row, .int .i64 q'.col, .bool q'.down, sv q'.word] 61))
       | (go_at_call 83; refine (hpl ⟨w2.heap.size, 0, none⟩ _ ((BAt.new w2 b' 41).alloc _)).mono ?_; rintro e w3 ⟨rfl, hb3⟩
          have hw3 := hw2b.trans (hb3.mono hw2b.size)
          have hx3 := hx2b.below hb3 hx2b.lt)
       | (go_at_call 82; refine (l03Tiles_any _ _ hPl).mono ?_; rintro e w4 ⟨rfl, hb4⟩
          have hw4 := hw3.trans (hb4.mono hw3.size)
          have hx4 := hx3.below hb4 hx3.lt)
       | (go_at_call 81; refine (l03Take_any _ _ _ hrk hTl).mono ?_; rw [htk]; rintro e w5 ⟨rfl, hb5⟩
          have hw5 := hw4.trans (hb5.mono hw4.size)
          have hp5 := hp.below hw5 hp.lt
          have hx5 := hx4.below hb5 hx4.lt
          have a0 : w5.cell? ⟨w.heap.size, 0, none⟩ = some (.int .i64 r) := hx5.cell 0
          have a1 : w5.cell? ⟨w.heap.size, 1, none⟩ = some (.int .i64 c) := hx5.cell 1
          have a2 : w5.cell? ⟨w.heap.size, 2, none⟩ = some (.bool dn) := hx5.cell 2
          have a3 : w5.cell? ⟨w.heap.size, 3, none⟩ = some (sv s) := hx5.cell 3))
     go_ret
     exact ⟨ret_int (by rw [hdef.out]; rfl), hw5⟩
   · rw [htk] at hdef
     cases hto : tb
     · rw [hto] at hdef
       go_enter Tryz.func76, Tryz.ntmps76
       go_wp2_with (first
         | (go_at_call 144; rw [← hW]; refine (l12Ok_any g b ⟨r, c, dn, s⟩ W hpW hl38 hlp hlc).mono ?_; rw [hok]; rintro e w1 ⟨rfl, hb1⟩
            have hw1 := hbW.trans (hb1.mono hbW.size)
            have hp1 := hp.below hw1 hp.lt
            have hx1 := hbx.below hb1 hbx.lt
            have e0 : w1.cell? ⟨w.heap.size, 0, none⟩ = some (.int .i64 r) := hx1.cell 0
            have e1 : w1.cell? ⟨w.heap.size, 1, none⟩ = some (.int .i64 c) := hx1.cell 1
            have e2 : w1.cell? ⟨w.heap.size, 2, none⟩ = some (.bool dn) := hx1.cell 2
            have e3 : w1.cell? ⟨w.heap.size, 3, none⟩ = some (sv s) := hx1.cell 3)
         | (go_at_call 80; refine (hfl _ hp1 hf).mono ?_; rintro e w2 ⟨rfl, hb2⟩
            have hw2 := hw1.trans (hb2.mono hw1.size)
            have hx2 := hx1.below hb2 hx1.lt
            have hw2a := (hw2.alloc hw2.size (.cells #[.int .i64 b'.size, sv b'.prem, sv b'.cells] 41))
            have hw2b := hw2a.alloc hw2a.size (.cells #[.int .i64 q'.row, .int .i64 q'.col, .bool q'.down, sv q'.word] 61)
            have hx2b := (hx2.alloc (.cells #[.int .i64 b'.size, sv b'.prem, sv b'.cells] 41)).alloc (.cells #[.int .i64 q'.row, .int .i64 q'.col, .bool q'.down, sv q'.word] 61))
         | (go_at_call 83; refine (hpl ⟨w2.heap.size, 0, none⟩ _ ((BAt.new w2 b' 41).alloc _)).mono ?_; rintro e w3 ⟨rfl, hb3⟩
            have hw3 := hw2b.trans (hb3.mono hw2b.size)
            have hx3 := hx2b.below hb3 hx2b.lt)
         | (go_at_call 82; refine (l03Tiles_any _ _ hPl).mono ?_; rintro e w4 ⟨rfl, hb4⟩
            have hw4 := hw3.trans (hb4.mono hw3.size)
            have hx4 := hx3.below hb4 hx3.lt)
         | (go_at_call 81; refine (l03Take_any _ _ _ hrk hTl).mono ?_; rw [htk]; rintro e w5 ⟨rfl, hb5⟩
            have hw5 := hw4.trans (hb5.mono hw4.size)
            have hp5 := hp.below hw5 hp.lt
            have hx5 := hx4.below hb5 hx4.lt
            have a0 : w5.cell? ⟨w.heap.size, 0, none⟩ = some (.int .i64 r) := hx5.cell 0
            have a1 : w5.cell? ⟨w.heap.size, 1, none⟩ = some (.int .i64 c) := hx5.cell 1
            have a2 : w5.cell? ⟨w.heap.size, 2, none⟩ = some (.bool dn) := hx5.cell 2
            have a3 : w5.cell? ⟨w.heap.size, 3, none⟩ = some (sv s) := hx5.cell 3)
         | (go_at_call 145; refine (htc _ hp5).mono ?_; rw [hto]; rintro e w6 ⟨rfl, hb6⟩
            have hw6 := hw5.trans (hb6.mono hw5.size)
            have hp6 := hp.below hw6 hp.lt
            have hx6 := hx5.below hb6 hx5.lt
            have m0 : w6.cell? ⟨w.heap.size, 0, none⟩ = some (.int .i64 r) := hx6.cell 0
            have m1 : w6.cell? ⟨w.heap.size, 1, none⟩ = some (.int .i64 c) := hx6.cell 1
            have m2 : w6.cell? ⟨w.heap.size, 2, none⟩ = some (.bool dn) := hx6.cell 2
            have m3 : w6.cell? ⟨w.heap.size, 3, none⟩ = some (sv s) := hx6.cell 3))
       go_ret
       exact ⟨ret_int (by rw [hdef.out]; rfl), hw6⟩
     · rw [hto] at hdef
       cases hdo : db
       · rw [hdo] at hdef
         by_cases hu : 0 < U.length
         · have hu' : (0 : Int) < (U.length : Int) := by omega
           go_enter Tryz.func76, Tryz.ntmps76
           go_wp2_with (first
             | (go_at_call 144; rw [← hW]; refine (l12Ok_any g b ⟨r, c, dn, s⟩ W hpW hl38 hlp hlc).mono ?_; rw [hok]; rintro e w1 ⟨rfl, hb1⟩
                have hw1 := hbW.trans (hb1.mono hbW.size)
                have hp1 := hp.below hw1 hp.lt
                have hx1 := hbx.below hb1 hbx.lt
                have e0 : w1.cell? ⟨w.heap.size, 0, none⟩ = some (.int .i64 r) := hx1.cell 0
                have e1 : w1.cell? ⟨w.heap.size, 1, none⟩ = some (.int .i64 c) := hx1.cell 1
                have e2 : w1.cell? ⟨w.heap.size, 2, none⟩ = some (.bool dn) := hx1.cell 2
                have e3 : w1.cell? ⟨w.heap.size, 3, none⟩ = some (sv s) := hx1.cell 3)
             | (go_at_call 80; refine (hfl _ hp1 hf).mono ?_; rintro e w2 ⟨rfl, hb2⟩
                have hw2 := hw1.trans (hb2.mono hw1.size)
                have hx2 := hx1.below hb2 hx1.lt
                have hw2a := (hw2.alloc hw2.size (.cells #[.int .i64 b'.size, sv b'.prem, sv b'.cells] 41))
                have hw2b := hw2a.alloc hw2a.size (.cells #[.int .i64 q'.row, .int .i64 q'.col, .bool q'.down, sv q'.word] 61)
                have hx2b := (hx2.alloc (.cells #[.int .i64 b'.size, sv b'.prem, sv b'.cells] 41)).alloc (.cells #[.int .i64 q'.row, .int .i64 q'.col, .bool q'.down, sv q'.word] 61))
             | (go_at_call 83; refine (hpl ⟨w2.heap.size, 0, none⟩ _ ((BAt.new w2 b' 41).alloc _)).mono ?_; rintro e w3 ⟨rfl, hb3⟩
                have hw3 := hw2b.trans (hb3.mono hw2b.size)
                have hx3 := hx2b.below hb3 hx2b.lt)
             | (go_at_call 82; refine (l03Tiles_any _ _ hPl).mono ?_; rintro e w4 ⟨rfl, hb4⟩
                have hw4 := hw3.trans (hb4.mono hw3.size)
                have hx4 := hx3.below hb4 hx3.lt)
             | (go_at_call 81; refine (l03Take_any _ _ _ hrk hTl).mono ?_; rw [htk]; rintro e w5 ⟨rfl, hb5⟩
                have hw5 := hw4.trans (hb5.mono hw4.size)
                have hp5 := hp.below hw5 hp.lt
                have hx5 := hx4.below hb5 hx4.lt
                have a0 : w5.cell? ⟨w.heap.size, 0, none⟩ = some (.int .i64 r) := hx5.cell 0
                have a1 : w5.cell? ⟨w.heap.size, 1, none⟩ = some (.int .i64 c) := hx5.cell 1
                have a2 : w5.cell? ⟨w.heap.size, 2, none⟩ = some (.bool dn) := hx5.cell 2
                have a3 : w5.cell? ⟨w.heap.size, 3, none⟩ = some (sv s) := hx5.cell 3)
             | (go_at_call 145; refine (htc _ hp5).mono ?_; rw [hto]; rintro e w6 ⟨rfl, hb6⟩
                have hw6 := hw5.trans (hb6.mono hw5.size)
                have hp6 := hp.below hw6 hp.lt
                have hx6 := hx5.below hb6 hx5.lt
                have m0 : w6.cell? ⟨w.heap.size, 0, none⟩ = some (.int .i64 r) := hx6.cell 0
                have m1 : w6.cell? ⟨w.heap.size, 1, none⟩ = some (.int .i64 c) := hx6.cell 1
                have m2 : w6.cell? ⟨w.heap.size, 2, none⟩ = some (.bool dn) := hx6.cell 2
                have m3 : w6.cell? ⟨w.heap.size, 3, none⟩ = some (sv s) := hx6.cell 3)
             | (go_at_call 146; refine (hdb _ hp6).mono ?_; rw [hdo]; rintro e w7 ⟨rfl, hb7⟩
                have hw7 := hw6.trans (hb7.mono hw6.size)
                have hp7 := hp.below hw7 hp.lt
                have hx7 := hx6.below hb7 hx6.lt
                have n0 : w7.cell? ⟨w.heap.size, 0, none⟩ = some (.int .i64 r) := hx7.cell 0
                have n1 : w7.cell? ⟨w.heap.size, 1, none⟩ = some (.int .i64 c) := hx7.cell 1
                have n2 : w7.cell? ⟨w.heap.size, 2, none⟩ = some (.bool dn) := hx7.cell 2
                have n3 : w7.cell? ⟨w.heap.size, 3, none⟩ = some (sv s) := hx7.cell 3)
             | (go_at_call 147; refine (hwr _ hp7 (hlx.below hw7)).mono ?_; rintro e w8 ⟨v8, rfl, own8, hb8⟩
                obtain ⟨A8, c8, rfl, _, _⟩ := own_sl own8
                have hw8 := hw7.trans (hb8.mono hw7.size)))
           go_ret
           exact ⟨ret_int (by rw [hdef.out]; simp only [if_true, Bool.false_eq_true, if_false]; rw [if_pos hu]), hw8⟩
         · have hu' : decide ((0 : Int) < (U.length : Int)) = false := decide_eq_false (by omega)
           have hu := Lib.hid hu
           go_enter Tryz.func76, Tryz.ntmps76
           go_wp2_with (first
             | (go_at_call 144; rw [← hW]; refine (l12Ok_any g b ⟨r, c, dn, s⟩ W hpW hl38 hlp hlc).mono ?_; rw [hok]; rintro e w1 ⟨rfl, hb1⟩
                have hw1 := hbW.trans (hb1.mono hbW.size)
                have hp1 := hp.below hw1 hp.lt
                have hx1 := hbx.below hb1 hbx.lt
                have e0 : w1.cell? ⟨w.heap.size, 0, none⟩ = some (.int .i64 r) := hx1.cell 0
                have e1 : w1.cell? ⟨w.heap.size, 1, none⟩ = some (.int .i64 c) := hx1.cell 1
                have e2 : w1.cell? ⟨w.heap.size, 2, none⟩ = some (.bool dn) := hx1.cell 2
                have e3 : w1.cell? ⟨w.heap.size, 3, none⟩ = some (sv s) := hx1.cell 3)
             | (go_at_call 80; refine (hfl _ hp1 hf).mono ?_; rintro e w2 ⟨rfl, hb2⟩
                have hw2 := hw1.trans (hb2.mono hw1.size)
                have hx2 := hx1.below hb2 hx1.lt
                have hw2a := (hw2.alloc hw2.size (.cells #[.int .i64 b'.size, sv b'.prem, sv b'.cells] 41))
                have hw2b := hw2a.alloc hw2a.size (.cells #[.int .i64 q'.row, .int .i64 q'.col, .bool q'.down, sv q'.word] 61)
                have hx2b := (hx2.alloc (.cells #[.int .i64 b'.size, sv b'.prem, sv b'.cells] 41)).alloc (.cells #[.int .i64 q'.row, .int .i64 q'.col, .bool q'.down, sv q'.word] 61))
             | (go_at_call 83; refine (hpl ⟨w2.heap.size, 0, none⟩ _ ((BAt.new w2 b' 41).alloc _)).mono ?_; rintro e w3 ⟨rfl, hb3⟩
                have hw3 := hw2b.trans (hb3.mono hw2b.size)
                have hx3 := hx2b.below hb3 hx2b.lt)
             | (go_at_call 82; refine (l03Tiles_any _ _ hPl).mono ?_; rintro e w4 ⟨rfl, hb4⟩
                have hw4 := hw3.trans (hb4.mono hw3.size)
                have hx4 := hx3.below hb4 hx3.lt)
             | (go_at_call 81; refine (l03Take_any _ _ _ hrk hTl).mono ?_; rw [htk]; rintro e w5 ⟨rfl, hb5⟩
                have hw5 := hw4.trans (hb5.mono hw4.size)
                have hp5 := hp.below hw5 hp.lt
                have hx5 := hx4.below hb5 hx4.lt
                have a0 : w5.cell? ⟨w.heap.size, 0, none⟩ = some (.int .i64 r) := hx5.cell 0
                have a1 : w5.cell? ⟨w.heap.size, 1, none⟩ = some (.int .i64 c) := hx5.cell 1
                have a2 : w5.cell? ⟨w.heap.size, 2, none⟩ = some (.bool dn) := hx5.cell 2
                have a3 : w5.cell? ⟨w.heap.size, 3, none⟩ = some (sv s) := hx5.cell 3)
             | (go_at_call 145; refine (htc _ hp5).mono ?_; rw [hto]; rintro e w6 ⟨rfl, hb6⟩
                have hw6 := hw5.trans (hb6.mono hw5.size)
                have hp6 := hp.below hw6 hp.lt
                have hx6 := hx5.below hb6 hx5.lt
                have m0 : w6.cell? ⟨w.heap.size, 0, none⟩ = some (.int .i64 r) := hx6.cell 0
                have m1 : w6.cell? ⟨w.heap.size, 1, none⟩ = some (.int .i64 c) := hx6.cell 1
                have m2 : w6.cell? ⟨w.heap.size, 2, none⟩ = some (.bool dn) := hx6.cell 2
                have m3 : w6.cell? ⟨w.heap.size, 3, none⟩ = some (sv s) := hx6.cell 3)
             | (go_at_call 146; refine (hdb _ hp6).mono ?_; rw [hdo]; rintro e w7 ⟨rfl, hb7⟩
                have hw7 := hw6.trans (hb7.mono hw6.size)
                have hp7 := hp.below hw7 hp.lt
                have hx7 := hx6.below hb7 hx6.lt
                have n0 : w7.cell? ⟨w.heap.size, 0, none⟩ = some (.int .i64 r) := hx7.cell 0
                have n1 : w7.cell? ⟨w.heap.size, 1, none⟩ = some (.int .i64 c) := hx7.cell 1
                have n2 : w7.cell? ⟨w.heap.size, 2, none⟩ = some (.bool dn) := hx7.cell 2
                have n3 : w7.cell? ⟨w.heap.size, 3, none⟩ = some (sv s) := hx7.cell 3)
             | (go_at_call 147; refine (hwr _ hp7 (hlx.below hw7)).mono ?_; rintro e w8 ⟨v8, rfl, own8, hb8⟩
                obtain ⟨A8, c8, rfl, _, _⟩ := own_sl own8
                have hw8 := hw7.trans (hb8.mono hw7.size)))
           go_ret
           exact ⟨ret_int (by rw [hdef.out]; simp only [if_true, Bool.false_eq_true, if_false]; rw [if_neg hu.out]), hw8⟩
       · rw [hdo] at hdef
         go_enter Tryz.func76, Tryz.ntmps76
         go_wp2_with (first
           | (go_at_call 144; rw [← hW]; refine (l12Ok_any g b ⟨r, c, dn, s⟩ W hpW hl38 hlp hlc).mono ?_; rw [hok]; rintro e w1 ⟨rfl, hb1⟩
              have hw1 := hbW.trans (hb1.mono hbW.size)
              have hp1 := hp.below hw1 hp.lt
              have hx1 := hbx.below hb1 hbx.lt
              have e0 : w1.cell? ⟨w.heap.size, 0, none⟩ = some (.int .i64 r) := hx1.cell 0
              have e1 : w1.cell? ⟨w.heap.size, 1, none⟩ = some (.int .i64 c) := hx1.cell 1
              have e2 : w1.cell? ⟨w.heap.size, 2, none⟩ = some (.bool dn) := hx1.cell 2
              have e3 : w1.cell? ⟨w.heap.size, 3, none⟩ = some (sv s) := hx1.cell 3)
           | (go_at_call 80; refine (hfl _ hp1 hf).mono ?_; rintro e w2 ⟨rfl, hb2⟩
              have hw2 := hw1.trans (hb2.mono hw1.size)
              have hx2 := hx1.below hb2 hx1.lt
              have hw2a := (hw2.alloc hw2.size (.cells #[.int .i64 b'.size, sv b'.prem, sv b'.cells] 41))
              have hw2b := hw2a.alloc hw2a.size (.cells #[.int .i64 q'.row, .int .i64 q'.col, .bool q'.down, sv q'.word] 61)
              have hx2b := (hx2.alloc (.cells #[.int .i64 b'.size, sv b'.prem, sv b'.cells] 41)).alloc (.cells #[.int .i64 q'.row, .int .i64 q'.col, .bool q'.down, sv q'.word] 61))
           | (go_at_call 83; refine (hpl ⟨w2.heap.size, 0, none⟩ _ ((BAt.new w2 b' 41).alloc _)).mono ?_; rintro e w3 ⟨rfl, hb3⟩
              have hw3 := hw2b.trans (hb3.mono hw2b.size)
              have hx3 := hx2b.below hb3 hx2b.lt)
           | (go_at_call 82; refine (l03Tiles_any _ _ hPl).mono ?_; rintro e w4 ⟨rfl, hb4⟩
              have hw4 := hw3.trans (hb4.mono hw3.size)
              have hx4 := hx3.below hb4 hx3.lt)
           | (go_at_call 81; refine (l03Take_any _ _ _ hrk hTl).mono ?_; rw [htk]; rintro e w5 ⟨rfl, hb5⟩
              have hw5 := hw4.trans (hb5.mono hw4.size)
              have hp5 := hp.below hw5 hp.lt
              have hx5 := hx4.below hb5 hx4.lt
              have a0 : w5.cell? ⟨w.heap.size, 0, none⟩ = some (.int .i64 r) := hx5.cell 0
              have a1 : w5.cell? ⟨w.heap.size, 1, none⟩ = some (.int .i64 c) := hx5.cell 1
              have a2 : w5.cell? ⟨w.heap.size, 2, none⟩ = some (.bool dn) := hx5.cell 2
              have a3 : w5.cell? ⟨w.heap.size, 3, none⟩ = some (sv s) := hx5.cell 3)
           | (go_at_call 145; refine (htc _ hp5).mono ?_; rw [hto]; rintro e w6 ⟨rfl, hb6⟩
              have hw6 := hw5.trans (hb6.mono hw5.size)
              have hp6 := hp.below hw6 hp.lt
              have hx6 := hx5.below hb6 hx5.lt
              have m0 : w6.cell? ⟨w.heap.size, 0, none⟩ = some (.int .i64 r) := hx6.cell 0
              have m1 : w6.cell? ⟨w.heap.size, 1, none⟩ = some (.int .i64 c) := hx6.cell 1
              have m2 : w6.cell? ⟨w.heap.size, 2, none⟩ = some (.bool dn) := hx6.cell 2
              have m3 : w6.cell? ⟨w.heap.size, 3, none⟩ = some (sv s) := hx6.cell 3)
           | (go_at_call 146; refine (hdb _ hp6).mono ?_; rw [hdo]; rintro e w7 ⟨rfl, hb7⟩
              have hw7 := hw6.trans (hb7.mono hw6.size)
              have hp7 := hp.below hw7 hp.lt
              have hx7 := hx6.below hb7 hx6.lt
              have n0 : w7.cell? ⟨w.heap.size, 0, none⟩ = some (.int .i64 r) := hx7.cell 0
              have n1 : w7.cell? ⟨w.heap.size, 1, none⟩ = some (.int .i64 c) := hx7.cell 1
              have n2 : w7.cell? ⟨w.heap.size, 2, none⟩ = some (.bool dn) := hx7.cell 2
              have n3 : w7.cell? ⟨w.heap.size, 3, none⟩ = some (sv s) := hx7.cell 3))
         go_ret
         exact ⟨ret_int (by rw [hdef.out]; rfl), hw7⟩
set_option maxHeartbeats 400000
def fillGo (b : Bd) (row : Int) : Str → Int → Str → Str
 | [], _, _ => []
 | _ :: r, c, ls => if b.at_ row c == 46 then ls.headD 0 :: fillGo b row r (c + 1) ls.tail else b.at_ row c :: fillGo b row r (c + 1) ls
def dotN (b : Bd) (row : Int) : Str → Int → Nat
 | [], _ => 0
 | _ :: r, c => if b.at_ row c == 46 then dotN b row r (c + 1) + 1 else dotN b row r (c + 1)
theorem fillGo_length (b : Bd) (row : Int) : ∀ (word : Str) (c : Int) (ls : Str), (fillGo b row word c ls).length = word.length
 | [], _, _ => rfl
 | _ :: r, c, ls => by
   rw [fillGo]
   split
   · simp [fillGo_length b row r (c + 1) ls.tail]
   · simp [fillGo_length b row r (c + 1) ls]
theorem l16Fill_any (p : Addr) (b : Bd) (word : Str) (row col : Int) (ls : Str) (w : World) (hp : BAt w p b) (hf : b.Fit) (hon : ∀ i : Nat, i < word.length → b.inB row (col + (i : Int)) = true) (hl : word.length ≤ 2 ^ 37) (hls : ls.length ≤ 2 ^ 37) (hd : dotN b row word col ≤ ls.length) :
   Calls Tryz.prog 311 #[.pointer (some p), sv word, .int .i64 row, .int .i64 col, sv ls] w fun e w' => e = .returned (sv (fillGo b row word col ls)) ∧ Below w.heap.size w w' := by
 have hblt := hp.lt
 have h15 := hf.hi
 go_enter Tryz.func311, Tryz.ntmps311
 go_wp2_with (fail)
 go_loopw [11, 12, 13] (fun o kk i wr => ∃ (j k : Nat) (out : Str), j ≤ word.length ∧ k ≤ j ∧ i = .int .i64 j ∧ kk = .int .i64 k ∧ out.length = j ∧ wr.ownsRow w.heap.size 5 1 o j (out.map bv) ∧ Hid (fillGo b row word col ls = out ++ fillGo b row (word.drop j) (col + (j : Int)) (ls.drop k)) ∧ Hid (k + dotN b row (word.drop j) (col + (j : Int)) ≤ ls.length) ∧ Below w.heap.size w wr) (fun _ _ i _ => word.length - (intOf i).toNat)
 case atStart => exact ⟨0, 0, [], by omega, by omega, rfl, rfl, rfl, World.ownsRow_lit w #[] 0 (Nat.le_refl _) (by unfold maxLen; omega) rfl, by unfold Hid; simp, by unfold Hid; simpa using hd, (Below.refl _ _).alloc (Nat.le_refl _) _⟩
 case round =>
   obtain ⟨j, k, out, hj, hkj, rfl, rfl, hol, hown, he, hdn, hb⟩ := hrel
   have hol' := Lib.hid hol
   clear hol
   have hpr := hp.below hb hblt
   by_cases hlt : j < word.length
   · have hj1 : (j : Int) < (word.length : Int) := by omega
     have hin := hon j hlt
     obtain ⟨⟨r0, r1⟩, c0, c1⟩ := inB_iff.1 hin
     have hcl : col + (j : Int) ≤ 14 := by omega
     have hc0' : -274877906944 ≤ col := by omega
     have hst : Hid (fillGo b row (word.drop j) (col + (j : Int)) (ls.drop k) = if b.at_ row (col + (j : Int)) == 46 then (ls.drop k).headD 0 :: fillGo b row (word.drop (j + 1)) (col + (j : Int) + 1) (ls.drop k).tail else b.at_ row (col + (j : Int)) :: fillGo b row (word.drop (j + 1)) (col + (j : Int) + 1) (ls.drop k)) := Lib.hid (by rw [drop_cons word j hlt]; rfl)
     have hst2 : Hid (dotN b row (word.drop j) (col + (j : Int)) = if b.at_ row (col + (j : Int)) == 46 then dotN b row (word.drop (j + 1)) (col + (j : Int) + 1) + 1 else dotN b row (word.drop (j + 1)) (col + (j : Int) + 1)) := Lib.hid (by rw [drop_cons word j hlt]; rfl)
     have hq : (((b.at_ row (col + (j : Int))).toNat : Int) == 46) = (b.at_ row (col + (j : Int)) == 46) := u8_eq _ 46
     obtain ⟨x, hx⟩ : ∃ x, x = b.at_ row (col + (j : Int)) := ⟨_, rfl⟩
     rw [← hx] at hq hst hst2
     have hx' := Lib.hid hx
     clear hx
     have hsum : Hid (col + ((j + 1 : Nat) : Int) = col + (j : Int) + 1) := Lib.hid (by omega)
     cases hx1 : (x == 46)
     all_goals rw [hx1] at hq hst hst2
     · go_wp2_with (first
         | (go_at_call 225; refine (l11At_any p b row _ _ hpr hf hin).mono ?_; rw [← hx'.out]; rintro e w2 ⟨rfl, hd2⟩; have hb2 := hb.trans (hd2.below.mono hb.size); have hown2 := own_call hown hd2.below)
         | (at_builtin; refine wpList_app byteT rfl (.tmp 35) (.tmp 37) rfl _ _ _ rfl w.heap.size hown2 [bv x] rfl (by simp [Value.oneCell']) rfl (by omega) (by omega) hb2.size ?_; intro v1 w1 hown1 hg1 _))
       go_roundw
       case rel => exact ⟨j + 1, k, out ++ [x], by omega, by omega, by go_num, rfl, by simp [hol'.out], own_cast hown1 (by simp) rfl, Lib.hid (by rw [he.out, hst.out, hsum.out]; simp), Lib.hid (by have := hdn.out; rw [hst2.out] at this; rw [hsum.out]; simpa using this), Below.own hb2 hb2.size hown2 (Nat.le_refl _) hg1⟩
       case measure => simp [intOf]; omega
     · have hkl : k < ls.length := by have := hdn.out; rw [hst2.out] at this; simp only [if_true] at this; omega
       have hk1 : (k : Int) < (ls.length : Int) := by omega
       have hk0 : (0 : Int) ≤ (k : Int) := by omega
       have hhd : Hid ((ls.drop k).headD 0 = ls[k]) := Lib.hid (by rw [drop_cons ls k hkl]; rfl)
       have htl : Hid ((ls.drop k).tail = ls.drop (k + 1)) := Lib.hid (by rw [drop_cons ls k hkl]; rfl)
       go_wp2_with (first
         | (go_at_call 225; refine (l11At_any p b row _ _ hpr hf hin).mono ?_; rw [← hx'.out]; rintro e w2 ⟨rfl, hd2⟩; have hb2 := hb.trans (hd2.below.mono hb.size); have hown2 := own_call hown hd2.below)
         | (at_builtin; refine wpList_app byteT rfl (.tmp 35) (.tmp 37) rfl _ _ _ rfl w.heap.size hown2 [bv ls[k]] rfl (by simp [Value.oneCell']) rfl (by omega) (by omega) hb2.size ?_; intro v1 w1 hown1 hg1 _))
       go_roundw
       case rel => exact ⟨j + 1, k + 1, out ++ [ls[k]], by omega, by omega, by go_num, by go_num, by simp [hol'.out], own_cast hown1 (by simp) rfl, Lib.hid (by rw [he.out, hst.out, hsum.out]; simp only [if_true]; rw [hhd.out, htl.out]; simp), Lib.hid (by have := hdn.out; rw [hst2.out] at this; simp only [if_true] at this; rw [hsum.out]; omega), Below.own hb2 hb2.size hown2 (Nat.le_refl _) hg1⟩
       case measure => simp [intOf]; omega
   · obtain rfl : j = word.length := by omega
     have hcv := run_string_own (P := Tryz.prog) wr 209 9 5 Tryz.underlying209 Tryz.underlying5 Tryz.underlying9 (l := out) (own_cast hown rfl hol'.out.symm)
     go_wp2_with (fail)
     go_ret
     exact ⟨ret_str (by rw [he.out, List.drop_length]; simp [fillGo]), hb⟩
def SM (c : Nat) (W W1 : World) (L : Nat → Bool) (w : World) : Prop := (L c = true ∧ Below W1.heap.size W1 w) ∨ (L c = false ∧ w = W)
section
variable {c i : Nat} {W W1 w w' : World} {L : Nat → Bool}
theorem SM.none_ : SM c W W1 (fun _ => false) W := .inr ⟨rfl, rfl⟩
theorem SM.keep (h : SM c W W1 L w) (hc : i ≠ c) : SM c W W1 (upd L i) w := by
 unfold SM at *
 rw [upd_ne L hc.symm]
 exact h
theorem SM.at0 (h : SM c W W1 L w) (hc : L c = false) : w = W := by
 rcases h with ⟨e, _⟩ | ⟨_, e⟩
 · rw [hc] at e; cases e
 · exact e
theorem SM.to1 : SM c W W1 (upd L c) W1 := .inl ⟨upd_same _ _, Below.refl _ _⟩
theorem SM.at1 (h : SM c W W1 L w) (hc : L c = true) : Below W1.heap.size W1 w := by
 rcases h with ⟨_, e⟩ | ⟨e, _⟩
 · exact e
 · rw [hc] at e; cases e
theorem SM.call (h : SM c W W1 L w) (hc : L c = true) (hb : Below w.heap.size w w') : SM c W W1 L w' :=
 .inl ⟨hc, (h.at1 hc).trans (hb.mono (h.at1 hc).size)⟩
end
def needGo (b : Bd) (row : Int) : Str → Str → Int → Option Str
 | out, [], _ => some out
 | out, x :: r, c => if b.at_ row c == 46 then needGo b row (out ++ [x]) r (c + 1) else if lowC (b.at_ row c) == x then needGo b row out r (c + 1) else none
def needOk (b : Bd) (word : Str) (row col : Int) : Bool :=
 decide (2 ≤ word.length) && (b.inB row col && (b.inB row (col + word.length - 1) && (!b.full row (col - 1) && !b.full row (col + word.length))))
def needS (b : Bd) (word : Str) (row col : Int) : Option Str := if needOk b word row col then needGo b row [] word col else none
def needV (o : Option Str) : Value := match o with | some out => .tuple #[sv out, .bool (!out.isEmpty)] | none => .tuple #[sv [], .bool false]
theorem lowS_one (c x : UInt8) : (lowS [c] == [x]) = (lowC c == x) := by simp [lowS]
theorem l16Need_bad (p : Addr) (b : Bd) (word : Str) (row col : Int) (w : World) (hp : BAt w p b) (hf : b.Fit) (hl : word.length ≤ 2 ^ 37) (hno : needOk b word row col = false) :
   Calls Tryz.prog 308 #[.pointer (some p), sv word, .int .i64 row, .int .i64 col] w fun e w' => e = .returned (needV (needS b word row col)) ∧ Dr w w' := by
 have hres : needV (needS b word row col) = .tuple #[sv [], .bool false] := by rw [needS, hno]; rfl
 rw [hres]
 clear hres
 have hs := hf.size
 have h5 := hf.lo
 have h15 := hf.hi
 by_cases h2 : 2 ≤ word.length
 · have h2' : decide ((word.length : Int) < 2) = false := decide_eq_false (by omega)
   rw [needOk, decide_eq_true h2, Bool.true_and] at hno
   cases hi : b.inB row col
   · go_enter Tryz.func308, Tryz.ntmps308
     go_wp2_with (go_at_call 287; refine (l11In_v p b _ _ _ _ hi hp hs).mono ?_; rintro e w1 ⟨rfl, rfl⟩)
     go_ret2
     exact ⟨rfl, Dr.refl _⟩
   · obtain ⟨⟨r0, r1⟩, c0, c1⟩ := inB_iff.1 hi
     rw [hi, Bool.true_and] at hno
     cases hi2 : b.inB row (col + word.length - 1)
     · go_enter Tryz.func308, Tryz.ntmps308
       go_wp2_with (go_at_call 287; refine (l11In_v p b _ _ _ _ (by first | rw [hi] | rw [hi2]) hp hs).mono ?_; rintro e w1 ⟨rfl, rfl⟩)
       go_ret2
       exact ⟨rfl, Dr.refl _⟩
     · rw [hi2, Bool.true_and] at hno
       cases hf1 : b.full row (col - 1)
       · have hf2 : b.full row (col + word.length) = true := by rw [hf1] at hno; simpa using hno
         go_enter Tryz.func308, Tryz.ntmps308
         go_wp2_with (first
           | (go_at_call 287; refine (l11In_v p b _ _ _ _ (by first | rw [hi] | rw [hi2]) hp hs).mono ?_; rintro e w1 ⟨rfl, rfl⟩)
           | (go_at_call 288; refine (l11Full_v p b _ _ _ _ (by rw [hf2]) (hp.dr hd2) hf).mono ?_; rintro e w3 ⟨rfl, hd3⟩)
           | (go_at_call 288; refine (l11Full_v p b _ _ _ _ (by rw [hf1]) hp hf).mono ?_; rintro e w2 ⟨rfl, hd2⟩))
         go_ret2
         exact ⟨rfl, hd2.trans hd3⟩
       · go_enter Tryz.func308, Tryz.ntmps308
         go_wp2_with (first
           | (go_at_call 287; refine (l11In_v p b _ _ _ _ (by first | rw [hi] | rw [hi2]) hp hs).mono ?_; rintro e w1 ⟨rfl, rfl⟩)
           | (go_at_call 288; refine (l11Full_v p b _ _ _ _ (by rw [hf1]) hp hf).mono ?_; rintro e w2 ⟨rfl, hd2⟩))
         go_ret2
         exact ⟨rfl, hd2⟩
 · have h2' : decide ((word.length : Int) < 2) = true := decide_eq_true (by omega)
   go_enter Tryz.func308, Tryz.ntmps308
   go_wp2_with (fail)
   go_ret2
   exact ⟨rfl, Dr.refl _⟩
end Go.Proofs.YtdkckikobefekaaGreatDoor
