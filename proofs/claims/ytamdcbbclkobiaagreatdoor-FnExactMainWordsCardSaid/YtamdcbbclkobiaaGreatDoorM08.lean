/-
  Contracts: how plays touch the letters on a board (layer 12 of the spec package); Contract: a play that places one tile and forms two words (layer 12 of the spec package).
  Conditions: as each part below says.
-/
import Derived.Test.YtamdcbbclkobiaaGreatDoorM07
import Derived.Test.YtamdcbbclkobiaaGreatDoorM06
/-
  Contracts: how plays touch the letters on a board (layer 12 of the spec package).
  Conditions: a board that is valid lies at the head of a block; the play is valid on it.
-/
namespace Go.Proofs.YtamdcbbclkobiaaGreatDoor
open Go.RowKit RegP RegL RegV
set_option maxHeartbeats 400000

theorem isEmpty_iff' (l : Str) (v : Bool) (h : l.isEmpty = v) : (l = []) = (v = true) := by rw [← h]; simp [List.isEmpty_iff]
def touchB (b : Bd) (q : Pl) : Bool :=
  if lettersS b = [] then (decide ((flatP q).row = b.size / 2) && (decide ((flatP q).col ≤ b.size / 2) && decide (b.size / 2 < (flatP q).col + q.word.length)))
  else decide ((freshL (flatB b q) (flatP q)).length < q.word.length) || decide (1 < (formedL (flatB b q) (flatP q)).length)
theorem l12Touches_any (g : Nat) (b : Bd) (q : Pl) (w : World) (hp : BAt w ⟨g, 0, none⟩ b) (hf : b.Fit) (hon : OnB (flatB b q) (flatP q)) (hl : q.word.length ≤ 2 ^ 37) (hc0 : 0 ≤ (flatP q).col ∧ (flatP q).col ≤ 100) :
    Calls Tryz.prog 154 #[.pointer (some ⟨g, 0, none⟩), q.v] w fun e w' => e = .returned (.bool (touchB b q)) ∧ Below w.heap.size w w' := by
  have hdef : Hid (touchB b q = _) := Lib.hid (by rw [touchB])
  have hwf := flatP_word q
  have hcl : b.cells.length ≤ 2 ^ 38 := by
    have h1 := hf.cells; have h5 := hf.lo; have h15 := hf.hi
    have := (mul_bounds (r := 0) (c := 0) h5 h15 (by omega) (by omega) (by omega) (by omega)).2.2.2.2
    omega
  have h5 := hf.lo
  have h15 := hf.hi
  have hfl := l12Flat_any g b q
  have hfit : (flatB b q).Fit := flatB_fit hf
  have hwl : (flatP q).word.length ≤ 2 ^ 37 := by rw [hwf]; exact hl
  have hFl := freshTo_length (flatB b q) (flatP q) (flatP q).word.length
  change (freshL (flatB b q) (flatP q)).length ≤ _ at hFl
  have hGl := formedL_length (flatB b q) (flatP q)
  have hfo := fun p w hp => l12Formed_any p (flatB b q) (flatP q) w hp hfit hon hwl
  have hfr := fun p w hp => l12Fresh_any p (flatB b q) (flatP q) w hp hfit hon (by omega)
  obtain ⟨F, hF⟩ : ∃ F, F = formedL (flatB b q) (flatP q) := ⟨_, rfl⟩
  obtain ⟨G, hG⟩ : ∃ G, G = freshL (flatB b q) (flatP q) := ⟨_, rfl⟩
  rw [← hF] at hdef hfo hGl
  rw [← hG] at hdef hfr hFl
  obtain ⟨q', hq'⟩ : ∃ q', q' = flatP q := ⟨_, rfl⟩
  obtain ⟨b', hb'⟩ : ∃ b', b' = flatB b q := ⟨_, rfl⟩
  rw [← hq'] at hc0 hwf hdef hwl hFl hGl
  rw [← hq', ← hb'] at hfl hfo hfr
  clear hF hG hq' hb' hfit hon
  obtain ⟨S, hS⟩ : ∃ S, S = touchB b q := ⟨_, rfl⟩
  rw [← hS] at hdef ⊢
  clear hS
  have hql : Hid (q'.word.length = q.word.length) := Lib.hid (by rw [hwf])
  have hwf' := Lib.hid hwf
  clear hwf
  obtain ⟨r, c, dn, s⟩ := q
  simp only [Bd.v, Pl.v] at hfl hfo hfr ⊢
  simp only at hl hdef hql
  obtain ⟨hc0, hc1⟩ := hc0
  have hpW := hp.alloc (.cells #[.int .i64 r, .int .i64 c, .bool dn, sv s] 48)
  have hbW := (Below.refl w.heap.size w).alloc (Nat.le_refl _) (.cells #[.int .i64 r, .int .i64 c, .bool dn, sv s] 48)
  obtain ⟨W, hW⟩ : ∃ W, W = w.alloc (.cells #[.int .i64 r, .int .i64 c, .bool dn, sv s] 48) := ⟨_, rfl⟩
  rw [← hW] at hpW hbW
  have hd2 : b.size.tdiv 2 = b.size / 2 := Int.tdiv_eq_ediv_of_nonneg (by omega)
  have hz0 := hbW.size
  cases hle : (lettersS b).isEmpty
  · go_enter Tryz.func154, Tryz.ntmps154
    go_wp2_with (first
      | (go_at_call 151; rw [← hW]; refine (hfl W hpW hf).mono ?_; rintro e w1 ⟨rfl, hb1⟩)
      | (go_at_call 180; refine (l11Letters_any ⟨g, 0, none⟩ b _ ((((hpW.below hb1 hpW.lt)).alloc _).alloc _) hcl).mono ?_; rintro e w2 ⟨rfl, hb2⟩))
    have hw1 := hbW.trans (hb1.mono hbW.size)
    have hw1a := (hw1.alloc hw1.size (.cells #[.int .i64 b'.size, sv b'.prem, sv b'.cells] 33))
    have hw1b := hw1a.alloc hw1a.size (.cells #[.int .i64 q'.row, .int .i64 q'.col, .bool q'.down, sv q'.word] 48)
    have hw2 := hw1b.trans (hb2.mono hw1b.size)
    have hB' : BAt w2 ⟨w1.heap.size, 0, none⟩ b' := ((BAt.new w1 b' 33).alloc _).below hb2 (by simp; omega)
    have hP' : Blk w2 (w1.heap.size + 1) 48 _ := (Blk.new1 w1 _ _ _).below hb2 (by simp)
    have e0 : w2.cell? ⟨w1.heap.size + 1, 0, none⟩ = some (.int .i64 q'.row) := hP'.cell 0
    have e1 : w2.cell? ⟨w1.heap.size + 1, 1, none⟩ = some (.int .i64 q'.col) := hP'.cell 1
    have e2 : w2.cell? ⟨w1.heap.size + 1, 2, none⟩ = some (.bool q'.down) := hP'.cell 2
    have e3 : w2.cell? ⟨w1.heap.size + 1, 3, none⟩ = some (sv q'.word) := hP'.cell 3
    clear hfl hb1 hb2 hw1 hw1a hw1b hpW
    have hP'' := hP'
    have hwW2 : w2.heap.size ≤ w2.heap.size := Nat.le_refl _
    by_cases hlt : G.length < q'.word.length
    · have hlt' : decide ((G.length : Int) < (q'.word.length : Int)) = true := by simp; omega
      refine wp_region_v 9 14 (SV w2 [(1, G.length)]) (by kernel_rfl) (by kernel_rfl) ⟨fun _ => undef, SV.start⟩ ?_
      simp only [List.take_succ_cons, List.take_zero, List.drop_succ_cons, List.drop_zero]
      apply pv_step (fun _ => rfl)
      · intro σ L w' hS h1 h2 K hK
        clear h2
        have hb := hS.low
        have f0 : w'.cell? ⟨w1.heap.size + 1, 0, none⟩ = _ := (hb.cell hP'.lt).trans e0
        have f1 : w'.cell? ⟨w1.heap.size + 1, 1, none⟩ = _ := (hb.cell hP'.lt).trans e1
        have f2 : w'.cell? ⟨w1.heap.size + 1, 2, none⟩ = _ := (hb.cell hP'.lt).trans e2
        have f3 : w'.cell? ⟨w1.heap.size + 1, 3, none⟩ = _ := (hb.cell hP'.lt).trans e3
        go_wp2
        exact hS.keep (by simp)
      simp only [Act.put, List.setIfInBounds_toArray, List.set_cons_succ, List.set_cons_zero]
      apply pv_free (fun _ => rfl)
      · intro σ L w' hS h1 h2 K hK
        clear h2
        have hb := hS.low
        go_wp2_with (go_at_call 179; refine (hfr ⟨w1.heap.size, 0, none⟩ _ (hB'.below hb hB'.lt)).mono ?_; rintro e w3 ⟨v3, rfl, own3, hb3⟩; obtain ⟨A3, c3, rfl, _, _⟩ := own_sl own3)
        exact (hS.call hb3).put (by simp)
      simp only [Act.put, List.setIfInBounds_toArray, List.set_cons_succ, List.set_cons_zero]
      apply pv_step (fun _ => rfl)
      · intro σ L w' hS h1 h2 K hK
        obtain ⟨A1, c1, hs1⟩ := hS.sl (1, G.length) (by simp) (h2 1 (List.contains_iff_mem.1 (by kernel_rfl)))
        clear h2
        simp only at hs1
        simp only [hs1] at hK ⊢
        go_wp2
        exact hS.keep (by simp)
      simp only [Act.put, List.setIfInBounds_toArray, List.set_cons_succ, List.set_cons_zero]
      iterate 5
        apply pv_step (fun _ => rfl)
        · intro σ L w' hS h1 h2 K hK
          clear h2
          have hb := hS.low
          have f0 : w'.cell? ⟨w1.heap.size + 1, 0, none⟩ = _ := (hb.cell hP'.lt).trans e0
          have f1 : w'.cell? ⟨w1.heap.size + 1, 1, none⟩ = _ := (hb.cell hP'.lt).trans e1
          have f2 : w'.cell? ⟨w1.heap.size + 1, 2, none⟩ = _ := (hb.cell hP'.lt).trans e2
          have f3 : w'.cell? ⟨w1.heap.size + 1, 3, none⟩ = _ := (hb.cell hP'.lt).trans e3
          go_wp2
          exact hS.keep (by simp)
        simp only [Act.put, List.setIfInBounds_toArray, List.set_cons_succ, List.set_cons_zero]
      iterate 4
        apply pv_skip (fun _ => rfl) (fun σ L w hS h1 => hS.keep (by simp))
        simp only [Act.put, List.setIfInBounds_toArray, List.set_cons_succ, List.set_cons_zero]
      iterate 2
        apply pv_step (fun _ => rfl)
        · intro σ L w' hS h1 h2 K hK
          clear h2
          have hb := hS.low
          have f0 : w'.cell? ⟨w1.heap.size + 1, 0, none⟩ = _ := (hb.cell hP'.lt).trans e0
          have f1 : w'.cell? ⟨w1.heap.size + 1, 1, none⟩ = _ := (hb.cell hP'.lt).trans e1
          have f2 : w'.cell? ⟨w1.heap.size + 1, 2, none⟩ = _ := (hb.cell hP'.lt).trans e2
          have f3 : w'.cell? ⟨w1.heap.size + 1, 3, none⟩ = _ := (hb.cell hP'.lt).trans e3
          go_wp2
          exact hS.keep (by simp)
        simp only [Act.put, List.setIfInBounds_toArray, List.set_cons_succ, List.set_cons_zero]
      refine pv_nil ?_
      intro σ w' hS
      go_wp2
      go_ret
      exact ⟨ret_bool (by rw [hdef.out, if_neg (by simp [isEmpty_iff' _ _ hle]), ← hql.out, decide_eq_true hlt]; rfl), hw2.trans (hS.low.mono hw2.size)⟩
    · have hlt' : decide ((G.length : Int) < (q'.word.length : Int)) = false := by simp; omega
      refine wp_region_v 9 14 (SV w2 [(1, G.length), (9, F.length)]) (by kernel_rfl) (by kernel_rfl) ⟨fun _ => undef, SV.start⟩ ?_
      simp only [List.take_succ_cons, List.take_zero, List.drop_succ_cons, List.drop_zero]
      apply pv_step (fun _ => rfl)
      · intro σ L w' hS h1 h2 K hK
        clear h2
        have hb := hS.low
        have f0 : w'.cell? ⟨w1.heap.size + 1, 0, none⟩ = _ := (hb.cell hP'.lt).trans e0
        have f1 : w'.cell? ⟨w1.heap.size + 1, 1, none⟩ = _ := (hb.cell hP'.lt).trans e1
        have f2 : w'.cell? ⟨w1.heap.size + 1, 2, none⟩ = _ := (hb.cell hP'.lt).trans e2
        have f3 : w'.cell? ⟨w1.heap.size + 1, 3, none⟩ = _ := (hb.cell hP'.lt).trans e3
        go_wp2
        exact hS.keep (by simp)
      simp only [Act.put, List.setIfInBounds_toArray, List.set_cons_succ, List.set_cons_zero]
      apply pv_free (fun _ => rfl)
      · intro σ L w' hS h1 h2 K hK
        clear h2
        have hb := hS.low
        go_wp2_with (go_at_call 179; refine (hfr ⟨w1.heap.size, 0, none⟩ _ (hB'.below hb hB'.lt)).mono ?_; rintro e w3 ⟨v3, rfl, own3, hb3⟩; obtain ⟨A3, c3, rfl, _, _⟩ := own_sl own3)
        exact (hS.call hb3).put (by simp)
      simp only [Act.put, List.setIfInBounds_toArray, List.set_cons_succ, List.set_cons_zero]
      apply pv_step (fun _ => rfl)
      · intro σ L w' hS h1 h2 K hK
        obtain ⟨A1, c1, hs1⟩ := hS.sl (1, G.length) (by simp) (h2 1 (List.contains_iff_mem.1 (by kernel_rfl)))
        clear h2
        simp only at hs1
        simp only [hs1] at hK ⊢
        go_wp2
        exact hS.keep (by simp)
      simp only [Act.put, List.setIfInBounds_toArray, List.set_cons_succ, List.set_cons_zero]
      iterate 6
        apply pv_step (fun _ => rfl)
        · intro σ L w' hS h1 h2 K hK
          clear h2
          have hb := hS.low
          have f0 : w'.cell? ⟨w1.heap.size + 1, 0, none⟩ = _ := (hb.cell hP'.lt).trans e0
          have f1 : w'.cell? ⟨w1.heap.size + 1, 1, none⟩ = _ := (hb.cell hP'.lt).trans e1
          have f2 : w'.cell? ⟨w1.heap.size + 1, 2, none⟩ = _ := (hb.cell hP'.lt).trans e2
          have f3 : w'.cell? ⟨w1.heap.size + 1, 3, none⟩ = _ := (hb.cell hP'.lt).trans e3
          go_wp2
          exact hS.keep (by simp)
        simp only [Act.put, List.setIfInBounds_toArray, List.set_cons_succ, List.set_cons_zero]
      apply pv_free (fun _ => rfl)
      · intro σ L w' hS h1 h2 K hK
        clear h2
        have hb := hS.low
        go_wp2_with (go_at_call 181; refine (hfo ⟨w1.heap.size, 0, none⟩ _ (hB'.below hb hB'.lt)).mono ?_; rintro e w3 ⟨v3, rfl, own3, hb3⟩; obtain ⟨A3, c3, rfl, _, _⟩ := own_sl own3)
        exact (hS.call hb3).put (by simp)
      simp only [Act.put, List.setIfInBounds_toArray, List.set_cons_succ, List.set_cons_zero]
      apply pv_step (fun _ => rfl)
      · intro σ L w' hS h1 h2 K hK
        obtain ⟨A1, c1, hs1⟩ := hS.sl (9, F.length) (by simp) (h2 9 (List.contains_iff_mem.1 (by kernel_rfl)))
        clear h2
        simp only at hs1
        simp only [hs1] at hK ⊢
        go_wp2
        exact hS.keep (by simp)
      simp only [Act.put, List.setIfInBounds_toArray, List.set_cons_succ, List.set_cons_zero]
      iterate 3
        apply pv_step (fun _ => rfl)
        · intro σ L w' hS h1 h2 K hK
          clear h2
          have hb := hS.low
          have f0 : w'.cell? ⟨w1.heap.size + 1, 0, none⟩ = _ := (hb.cell hP'.lt).trans e0
          have f1 : w'.cell? ⟨w1.heap.size + 1, 1, none⟩ = _ := (hb.cell hP'.lt).trans e1
          have f2 : w'.cell? ⟨w1.heap.size + 1, 2, none⟩ = _ := (hb.cell hP'.lt).trans e2
          have f3 : w'.cell? ⟨w1.heap.size + 1, 3, none⟩ = _ := (hb.cell hP'.lt).trans e3
          go_wp2
          exact hS.keep (by simp)
        simp only [Act.put, List.setIfInBounds_toArray, List.set_cons_succ, List.set_cons_zero]
      refine pv_nil ?_
      intro σ w' hS
      go_wp2
      go_ret
      exact ⟨ret_bool (by rw [hdef.out, if_neg (by simp [isEmpty_iff' _ _ hle]), ← hql.out, decide_eq_false hlt]; simp; omega), hw2.trans (hS.low.mono hw2.size)⟩
  · have hnil : lettersS b = [] := by simpa [List.isEmpty_iff] using hle
    have hdef2 : Hid (S = (decide (q'.row = b.size / 2) && (decide (q'.col ≤ b.size / 2) && decide (b.size / 2 < q'.col + (q'.word.length : Int))))) := Lib.hid (by rw [hdef.out, if_pos hnil, hql.out])
    clear hdef hnil
    by_cases g1 : q'.row = b.size / 2
    · have g1' : (q'.row == b.size / 2) = true := by simp [g1]
      have G1 := Lib.hid g1
      clear g1
      by_cases g2 : q'.col ≤ b.size / 2
      · have g2' : decide (q'.col ≤ b.size / 2) = true := by simp [g2]
        go_enter Tryz.func154, Tryz.ntmps154
        go_wp2_with (first
          | (go_at_call 151; rw [← hW]; refine (hfl W hpW hf).mono ?_; rintro e w1 ⟨rfl, hb1⟩)
          | (go_at_call 180; refine (l11Letters_any ⟨g, 0, none⟩ b _ ((((hpW.below hb1 hpW.lt)).alloc _).alloc _) hcl).mono ?_; rintro e w2 ⟨rfl, hb2⟩
             have hw1 := hbW.trans (hb1.mono hbW.size)
             have hw1a := (hw1.alloc hw1.size (.cells #[.int .i64 b'.size, sv b'.prem, sv b'.cells] 33))
             have hw1b := hw1a.alloc hw1a.size (.cells #[.int .i64 q'.row, .int .i64 q'.col, .bool q'.down, sv q'.word] 48)
             have hw2 := hw1b.trans (hb2.mono hw1b.size)
             have d0 : w2.cell? ⟨g, 0, none⟩ = some (.int .i64 b.size) := (hp.below hw2 hp.lt).1
             have hP' : Blk w2 (w1.heap.size + 1) 48 _ := (Blk.new1 w1 _ _ _).below hb2 (by simp)
             have e0 : w2.cell? ⟨w1.heap.size + 1, 0, none⟩ = some (.int .i64 q'.row) := hP'.cell 0
             have e1 : w2.cell? ⟨w1.heap.size + 1, 1, none⟩ = some (.int .i64 q'.col) := hP'.cell 1
             have e2 : w2.cell? ⟨w1.heap.size + 1, 2, none⟩ = some (.bool q'.down) := hP'.cell 2
             have e3 : w2.cell? ⟨w1.heap.size + 1, 3, none⟩ = some (sv q'.word) := hP'.cell 3))
        go_ret
        exact ⟨ret_bool (by rw [hdef2.out, decide_eq_true G1.out, g2']; rfl), hw2⟩
      · have g2' : decide (q'.col ≤ b.size / 2) = false := by simp [g2]
        go_enter Tryz.func154, Tryz.ntmps154
        go_wp2_with (first
          | (go_at_call 151; rw [← hW]; refine (hfl W hpW hf).mono ?_; rintro e w1 ⟨rfl, hb1⟩)
          | (go_at_call 180; refine (l11Letters_any ⟨g, 0, none⟩ b _ ((((hpW.below hb1 hpW.lt)).alloc _).alloc _) hcl).mono ?_; rintro e w2 ⟨rfl, hb2⟩
             have hw1 := hbW.trans (hb1.mono hbW.size)
             have hw1a := (hw1.alloc hw1.size (.cells #[.int .i64 b'.size, sv b'.prem, sv b'.cells] 33))
             have hw1b := hw1a.alloc hw1a.size (.cells #[.int .i64 q'.row, .int .i64 q'.col, .bool q'.down, sv q'.word] 48)
             have hw2 := hw1b.trans (hb2.mono hw1b.size)
             have d0 : w2.cell? ⟨g, 0, none⟩ = some (.int .i64 b.size) := (hp.below hw2 hp.lt).1
             have hP' : Blk w2 (w1.heap.size + 1) 48 _ := (Blk.new1 w1 _ _ _).below hb2 (by simp)
             have e0 : w2.cell? ⟨w1.heap.size + 1, 0, none⟩ = some (.int .i64 q'.row) := hP'.cell 0
             have e1 : w2.cell? ⟨w1.heap.size + 1, 1, none⟩ = some (.int .i64 q'.col) := hP'.cell 1
             have e2 : w2.cell? ⟨w1.heap.size + 1, 2, none⟩ = some (.bool q'.down) := hP'.cell 2
             have e3 : w2.cell? ⟨w1.heap.size + 1, 3, none⟩ = some (sv q'.word) := hP'.cell 3))
        go_ret
        exact ⟨ret_bool (by rw [hdef2.out, g2']; simp), hw2⟩
    · have g1' : (q'.row == b.size / 2) = false := by simp [g1]
      have G1 := Lib.hid g1
      clear g1
      go_enter Tryz.func154, Tryz.ntmps154
      go_wp2_with (first
        | (go_at_call 151; rw [← hW]; refine (hfl W hpW hf).mono ?_; rintro e w1 ⟨rfl, hb1⟩)
        | (go_at_call 180; refine (l11Letters_any ⟨g, 0, none⟩ b _ ((((hpW.below hb1 hpW.lt)).alloc _).alloc _) hcl).mono ?_; rintro e w2 ⟨rfl, hb2⟩
           have hw1 := hbW.trans (hb1.mono hbW.size)
           have hw1a := (hw1.alloc hw1.size (.cells #[.int .i64 b'.size, sv b'.prem, sv b'.cells] 33))
           have hw1b := hw1a.alloc hw1a.size (.cells #[.int .i64 q'.row, .int .i64 q'.col, .bool q'.down, sv q'.word] 48)
           have hw2 := hw1b.trans (hb2.mono hw1b.size)
           have d0 : w2.cell? ⟨g, 0, none⟩ = some (.int .i64 b.size) := (hp.below hw2 hp.lt).1
           have hP' : Blk w2 (w1.heap.size + 1) 48 _ := (Blk.new1 w1 _ _ _).below hb2 (by simp)
           have e0 : w2.cell? ⟨w1.heap.size + 1, 0, none⟩ = some (.int .i64 q'.row) := hP'.cell 0
           have e1 : w2.cell? ⟨w1.heap.size + 1, 1, none⟩ = some (.int .i64 q'.col) := hP'.cell 1
           have e2 : w2.cell? ⟨w1.heap.size + 1, 2, none⟩ = some (.bool q'.down) := hP'.cell 2
           have e3 : w2.cell? ⟨w1.heap.size + 1, 3, none⟩ = some (sv q'.word) := hP'.cell 3))
      go_ret
      exact ⟨ret_bool (by rw [hdef2.out, decide_eq_false G1.out]; rfl), hw2⟩
end Go.Proofs.YtamdcbbclkobiaaGreatDoor
/-
  Contract: a play that places one tile and forms two words (layer 12 of the spec package).
  Conditions: a board that is valid lies at the head of a block; the play is valid on it.
-/
namespace Go.Proofs.YtamdcbbclkobiaaGreatDoor
open Go.RowKit RegP RegL RegV
set_option maxHeartbeats 400000

def doubleB (b : Bd) (q : Pl) : Bool := q.down && (decide ((freshL (flatB b q) (flatP q)).length = 1) && decide (1 < (formedL (flatB b q) (flatP q)).length))
theorem l12Double_any (g : Nat) (b : Bd) (q : Pl) (w : World) (hp : BAt w ⟨g, 0, none⟩ b) (hf : b.Fit) (hon : OnB (flatB b q) (flatP q)) (hl : q.word.length ≤ 2 ^ 37) :
    Calls Tryz.prog 155 #[.pointer (some ⟨g, 0, none⟩), q.v] w fun e w' => e = .returned (.bool (doubleB b q)) ∧ Below w.heap.size w w' := by
  have hdef : Hid (doubleB b q = _) := Lib.hid (by rw [doubleB])
  have hwf := flatP_word q
  have hfl := l12Flat_any g b q
  have hfit : (flatB b q).Fit := flatB_fit hf
  have hwl : (flatP q).word.length ≤ 2 ^ 37 := by rw [hwf]; exact hl
  have hFl := freshTo_length (flatB b q) (flatP q) (flatP q).word.length
  change (freshL (flatB b q) (flatP q)).length ≤ _ at hFl
  have hGl := formedL_length (flatB b q) (flatP q)
  have hfo := fun p w hp => l12Formed_any p (flatB b q) (flatP q) w hp hfit hon hwl
  have hfr := fun p w hp => l12Fresh_any p (flatB b q) (flatP q) w hp hfit hon (by omega)
  obtain ⟨F, hF⟩ : ∃ F, F = formedL (flatB b q) (flatP q) := ⟨_, rfl⟩
  obtain ⟨G, hG⟩ : ∃ G, G = freshL (flatB b q) (flatP q) := ⟨_, rfl⟩
  rw [← hF] at hdef hfo hGl
  rw [← hG] at hdef hfr hFl
  obtain ⟨q', hq'⟩ : ∃ q', q' = flatP q := ⟨_, rfl⟩
  obtain ⟨b', hb'⟩ : ∃ b', b' = flatB b q := ⟨_, rfl⟩
  rw [← hq'] at hwl hFl hGl
  rw [← hq', ← hb'] at hfl hfo hfr
  clear hF hG hq' hb' hfit hon hwf
  obtain ⟨S, hS⟩ : ∃ S, S = doubleB b q := ⟨_, rfl⟩
  rw [← hS] at hdef ⊢
  clear hS
  obtain ⟨r, c, dn, s⟩ := q
  simp only [Bd.v, Pl.v] at hfl hfo hfr ⊢
  simp only at hl hdef
  have hpW := hp.alloc (.cells #[.int .i64 r, .int .i64 c, .bool dn, sv s] 48)
  have hbW := (Below.refl w.heap.size w).alloc (Nat.le_refl _) (.cells #[.int .i64 r, .int .i64 c, .bool dn, sv s] 48)
  have hbx := (Blk.new w 48 #[.int .i64 r, .int .i64 c, .bool dn, sv s])
  cases dn
  · go_enter Tryz.func155, Tryz.ntmps155
    go_wp2_with (fail)
    go_ret
    exact ⟨ret_bool (by rw [hdef.out]; rfl), hbW⟩
  · obtain ⟨W, hW⟩ : ∃ W, W = w.alloc (.cells #[.int .i64 r, .int .i64 c, .bool true, sv s] 48) := ⟨_, rfl⟩
    rw [← hW] at hpW hbW hbx
    by_cases hG1 : G.length = 1
    · have hg : ((G.length : Int) == 1) = true := by rw [hG1]; rfl
      have HG := Lib.hid hG1
      clear hG1
      go_enter Tryz.func155, Tryz.ntmps155
      go_wp2_with (first
        | (go_at_call 151; rw [← hW]; refine (hfl W hpW hf).mono ?_; rintro e w1 ⟨rfl, hb1⟩
           have hw1 := hbW.trans (hb1.mono hbW.size)
           have hw1a := (hw1.alloc hw1.size (.cells #[.int .i64 b'.size, sv b'.prem, sv b'.cells] 33))
           have hw1b := hw1a.alloc hw1a.size (.cells #[.int .i64 q'.row, .int .i64 q'.col, .bool q'.down, sv q'.word] 48))
        | (go_at_call 179; refine (hfr ⟨w1.heap.size, 0, none⟩ _ ((BAt.new w1 b' 33).alloc _)).mono ?_; rintro e w2 ⟨v2, rfl, own2, hb2⟩
           obtain ⟨A2, c2, rfl, _, _⟩ := own_sl own2
           have hw2 := hw1b.trans (hb2.mono hw1b.size)
           have hB' : BAt w2 ⟨w1.heap.size, 0, none⟩ b' := ((BAt.new w1 b' 33).alloc _).below hb2 (by simp; omega)
           have hP' : Blk w2 (w1.heap.size + 1) 48 _ := (Blk.new1 w1 _ _ _).below hb2 (by simp)
           have e0 : w2.cell? ⟨w1.heap.size + 1, 0, none⟩ = some (.int .i64 q'.row) := hP'.cell 0
           have e1 : w2.cell? ⟨w1.heap.size + 1, 1, none⟩ = some (.int .i64 q'.col) := hP'.cell 1
           have e2 : w2.cell? ⟨w1.heap.size + 1, 2, none⟩ = some (.bool q'.down) := hP'.cell 2
           have e3 : w2.cell? ⟨w1.heap.size + 1, 3, none⟩ = some (sv q'.word) := hP'.cell 3)
        | (go_at_call 181; refine (hfo ⟨w1.heap.size, 0, none⟩ _ hB').mono ?_; rintro e w3 ⟨v3, rfl, own3, hb3⟩
           obtain ⟨A3, c3, rfl, _, _⟩ := own_sl own3
           have hw3 := hw2.trans (hb3.mono hw2.size)))
      go_ret
      exact ⟨ret_bool (by rw [hdef.out, decide_eq_true HG.out]; simp; omega), hw3⟩
    · have hg : ((G.length : Int) == 1) = false := by simp; omega
      have HG := Lib.hid hG1
      clear hG1
      go_enter Tryz.func155, Tryz.ntmps155
      go_wp2_with (first
        | (go_at_call 151; rw [← hW]; refine (hfl W hpW hf).mono ?_; rintro e w1 ⟨rfl, hb1⟩
           have hw1 := hbW.trans (hb1.mono hbW.size)
           have hw1a := (hw1.alloc hw1.size (.cells #[.int .i64 b'.size, sv b'.prem, sv b'.cells] 33))
           have hw1b := hw1a.alloc hw1a.size (.cells #[.int .i64 q'.row, .int .i64 q'.col, .bool q'.down, sv q'.word] 48))
        | (go_at_call 179; refine (hfr ⟨w1.heap.size, 0, none⟩ _ ((BAt.new w1 b' 33).alloc _)).mono ?_; rintro e w2 ⟨v2, rfl, own2, hb2⟩
           obtain ⟨A2, c2, rfl, _, _⟩ := own_sl own2
           have hw2 := hw1b.trans (hb2.mono hw1b.size)))
      go_ret
      exact ⟨ret_bool (by rw [hdef.out, decide_eq_false HG.out]; rfl), hw2⟩
end Go.Proofs.YtamdcbbclkobiaaGreatDoor
