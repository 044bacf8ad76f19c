/-
  Contract: whether a play is valid on a board (layer 12 of the impl package); What stands ahead of the letters that a word needs: a state of a region that stores one struct; one rune as a string; Contract: the letters that a word needs at a place (layer 16 of the impl package).
  Conditions: as each part below says.
-/
import Derived.Test.YtamdcbbclkobiaaGreatDoorM12
import Derived.Test.YtamdcbbclkobiaaGreatDoorM18
/-
  Contract: whether a play is valid on a board (layer 12 of the impl package).
  Conditions: a board of a size from 5 to 15; ASCII letters; numbers of common size.
-/
namespace Go.Proofs.YtamdcbbclkobiaaGreatDoor
open Go.RowKit RegP RegL RegV
set_option maxHeartbeats 2000000
set_option maxRecDepth 100000

/-- Is the i-th square free, or does it bear the i-th letter? -/
def cellQ (b : Bd) (q : Pl) (i : Nat) : UInt8 := b.cell (q.sr i) (q.sc i)
def fitQ (b : Bd) (q : Pl) (i : Nat) : Bool := cellQ b q i == 46 || cellQ b q i == q.word.getD i 0
def fitTo (b : Bd) (q : Pl) (k : Nat) : Bool := (List.range k).all (fitQ b q)
def freeTo (b : Bd) (q : Pl) (k : Nat) : Bool := (List.range k).any fun i => cellQ b q i == 46
/-- Is a play valid on a board? -/
def validI (b : Bd) (q : Pl) : Bool :=
  wordB q.word && b.inB q.row q.col && b.inB (q.sr ((q.word.length : Int) - 1)) (q.sc ((q.word.length : Int) - 1)) &&
  !b.let_ (q.sr (-1)) (q.sc (-1)) && !b.let_ (q.sr q.word.length) (q.sc q.word.length) && fitTo b q q.word.length && freeTo b q q.word.length
theorem fitTo_succ (b : Bd) (q : Pl) (k : Nat) : fitTo b q (k + 1) = (fitTo b q k && fitQ b q k) := by simp [fitTo, List.range_succ]
theorem freeTo_succ (b : Bd) (q : Pl) (k : Nat) : freeTo b q (k + 1) = (freeTo b q k || (cellQ b q k == 46)) := by simp [freeTo, List.range_succ]
theorem fitTo_no (b : Bd) (q : Pl) {k n : Nat} (h : k < n) (hk : fitQ b q k = false) : fitTo b q n = false := by
  unfold fitTo
  rw [List.all_eq_false]
  exact ⟨k, List.mem_range.2 h, by simp [hk]⟩
theorem validOn_any (b : Bd) (q : Pl) (w : World) (hf : b.Fit) (hs : sizeB b.size = true) (ha : asciiB q.word = true) (hl : q.word.length ≤ 2 ^ 32) (h1 : -400000000000 ≤ q.row) (h2 : q.row ≤ 400000000000) (h3 : -400000000000 ≤ q.col) (h4 : q.col ≤ 400000000000) :
    Calls Tryz.prog 63 #[q.v, b.v] w fun e w' => e = .returned (.bool (validI b q)) ∧ Below w.heap.size w w' := by
  have km := fun w => isMain_any q.word w (by omega) ha
  have ki := fun (r c : Int) w => inside_any b r c w hs
  have ko := fun (r c : Int) w => on_any b r c w hf
  have kc := fun (r c : Int) w => cell_any b r c w hf
  have ks := fun (n : Int) (w : World) (h5 : -500000000000 ≤ n) (h6 : n ≤ 500000000000) => square_any q n w (by omega) (by omega) (by omega) (by omega) h5 h6
  have hdef : Hid (validI b q = (wordB q.word && b.inB q.row q.col && b.inB (q.sr ((q.word.length : Int) - 1)) (q.sc ((q.word.length : Int) - 1)) &&
    !b.let_ (q.sr (-1)) (q.sc (-1)) && !b.let_ (q.sr q.word.length) (q.sc q.word.length) && fitTo b q q.word.length && freeTo b q q.word.length)) := Lib.hid rfl
  have hfs := Lib.hid (fitTo_succ b q)
  have hrs := Lib.hid (freeTo_succ b q)
  have hfn := Lib.hid (fun k (h : k < q.word.length) (hk : fitQ b q k = false) => fitTo_no b q h hk)
  have hfq : Hid (∀ k, fitQ b q k = (cellQ b q k == 46 || cellQ b q k == q.word.getD k 0)) := Lib.hid (fun k => rfl)
  have hcq : Hid (∀ k : Nat, cellQ b q k = b.cell (q.sr k) (q.sc k)) := Lib.hid (fun k => rfl)
  have hf0 : Hid (fitTo b q 0 = true) := Lib.hid rfl
  have hr0 : Hid (freeTo b q 0 = false) := Lib.hid rfl
  obtain ⟨R, hR⟩ : ∃ R, R = validI b q := ⟨_, rfl⟩
  obtain ⟨FT, hFT⟩ : ∃ FT, FT = fitTo b q := ⟨_, rfl⟩
  obtain ⟨RT, hRT⟩ : ∃ RT, RT = freeTo b q := ⟨_, rfl⟩
  obtain ⟨FQ, hFQ⟩ : ∃ FQ, FQ = fitQ b q := ⟨_, rfl⟩
  obtain ⟨CQ, hCQ⟩ : ∃ CQ, CQ = cellQ b q := ⟨_, rfl⟩
  obtain ⟨MW, hMW⟩ : ∃ MW, MW = wordB q.word := ⟨_, rfl⟩
  obtain ⟨I0, hI0⟩ : ∃ I0, I0 = b.inB q.row q.col := ⟨_, rfl⟩
  obtain ⟨lr, hlr⟩ : ∃ lr, lr = q.sr ((q.word.length : Int) - 1) := ⟨_, rfl⟩
  obtain ⟨lc, hlc⟩ : ∃ lc, lc = q.sc ((q.word.length : Int) - 1) := ⟨_, rfl⟩
  obtain ⟨br, hbr⟩ : ∃ br, br = q.sr (-1) := ⟨_, rfl⟩
  obtain ⟨bc', hbc'⟩ : ∃ bc', bc' = q.sc (-1) := ⟨_, rfl⟩
  obtain ⟨ar, har⟩ : ∃ ar, ar = q.sr (q.word.length : Int) := ⟨_, rfl⟩
  obtain ⟨ac, hac⟩ : ∃ ac, ac = q.sc (q.word.length : Int) := ⟨_, rfl⟩
  obtain ⟨I1, hI1⟩ : ∃ I1, I1 = b.inB lr lc := ⟨_, rfl⟩
  obtain ⟨O1, hO1⟩ : ∃ O1, O1 = b.let_ br bc' := ⟨_, rfl⟩
  obtain ⟨O2, hO2⟩ : ∃ O2, O2 = b.let_ ar ac := ⟨_, rfl⟩
  have hwl : MW = true → 2 ≤ q.word.length := fun h => by
    rw [hMW] at h
    unfold wordB at h
    simp only [Bool.and_eq_true, decide_eq_true_eq] at h
    omega
  have ki0 := fun w => ki q.row q.col w
  have ki1 := fun w => ki lr lc w
  have ko1 := fun w => ko br bc' w
  have ko2 := fun w => ko ar ac w
  have ks1 := fun w => ks ((q.word.length : Int) - 1) w (by omega) (by omega)
  have ks2 := fun w => ks (-1) w (by omega) (by omega)
  have ks3 := fun w => ks (q.word.length : Int) w (by omega) (by omega)
  have ksk := Lib.hid (fun (k : Nat) (h : k < q.word.length) w => ks (k : Int) w (by omega) (by omega))
  rw [← hlr, ← hlc] at hdef ks1
  rw [← hbr, ← hbc'] at hdef ks2
  rw [← har, ← hac] at hdef ks3
  rw [← hI0] at hdef ki0
  rw [← hI1] at hdef ki1
  rw [← hO1] at hdef ko1
  rw [← hO2] at hdef ko2
  rw [← hMW] at hdef km
  rw [← hR] at hdef ⊢
  rw [← hFT] at hdef hfs hfn hf0
  rw [← hRT] at hdef hrs hr0
  rw [← hFQ] at hfs hfn hfq
  rw [← hCQ] at hrs hfq hcq
  have kc' := Lib.hid kc
  clear hR hFT hRT hFQ hCQ hMW hI0 hlr hlc hbr hbc' har hac hI1 hO1 hO2 ki ko kc ks hf hs ha h1 h2 h3 h4
  obtain ⟨sz, bp, bc⟩ := b
  obtain ⟨qr, qc, qd, qw⟩ := q
  simp only [Bd.v, Pl.v, sqV] at *
  have hP := (Blk.new w 48 #[.int .i64 qr, .int .i64 qc, .bool qd, sv qw]).alloc (.cells #[.int .i64 sz, sv bp, sv bc] 33)
  have hB := Blk.new1 w (.cells #[.int .i64 qr, .int .i64 qc, .bool qd, sv qw] 48) 33 #[.int .i64 sz, sv bp, sv bc]
  have hbW := ((Below.refl w.heap.size w).alloc (Nat.le_refl _) (.cells #[.int .i64 qr, .int .i64 qc, .bool qd, sv qw] 48)).alloc (by simp) (.cells #[.int .i64 sz, sv bp, sv bc] 33)
  obtain ⟨W, hW⟩ : ∃ W, W = (w.alloc (.cells #[.int .i64 qr, .int .i64 qc, .bool qd, sv qw] 48)).alloc (.cells #[.int .i64 sz, sv bp, sv bc] 33) := ⟨_, rfl⟩
  rw [← hW] at hP hB hbW
  cases MW
  · have hR : R = false := by rw [hdef.out]; rfl
    subst hR
    clear hdef
    go_enter Tryz.func63, Tryz.ntmps63
    go_wp2_with (go_at_call 109; rw [← hW]; refine (km _).mono ?_; rintro e w1 ⟨rfl, hb1⟩)
    go_ret
    exact ⟨rfl, hbW.trans (hb1.mono hbW.size)⟩
  have hw2 := hwl rfl
  clear hwl
  cases I0
  · have hR : R = false := by rw [hdef.out]; rfl
    subst hR
    clear hdef
    go_enter Tryz.func63, Tryz.ntmps63
    go_wp2_with (first
      | (go_at_call 109; rw [← hW]; refine (km _).mono ?_; rintro e w1 ⟨rfl, hb1⟩
         have hP1 := hP.below hb1 hP.lt
         have hB1 := hB.below hb1 hB.lt
         have c0 : w1.cell? ⟨w.heap.size, 0, none⟩ = some (.int .i64 qr) := hP1.cell 0
         have c1 : w1.cell? ⟨w.heap.size, 1, none⟩ = some (.int .i64 qc) := hP1.cell 1
         have d0 : w1.cell? ⟨w.heap.size + 1, 0, none⟩ = some (.int .i64 sz) := hB1.cell 0
         have d1 : w1.cell? ⟨w.heap.size + 1, 1, none⟩ = some (sv bp) := hB1.cell 1
         have d2 : w1.cell? ⟨w.heap.size + 1, 2, none⟩ = some (sv bc) := hB1.cell 2)
      | (go_at_call 60; refine (ki0 _).mono ?_; rintro e w2 ⟨rfl, hb2⟩))
    go_ret
    have h12 := hbW.trans (hb1.mono hbW.size)
    exact ⟨rfl, h12.trans (hb2.mono h12.size)⟩
  have hR : Hid (R = (I1 && !O1 && !O2 && FT qw.length && RT qw.length)) := Lib.hid (by rw [hdef.out]; rfl)
  clear hdef
  have hq1 : ((qw.length : Int) - 1) ≤ 2 ^ 32 := by omega
  go_enter Tryz.func63, Tryz.ntmps63
  go_wp2_with (first
    | (go_at_call 109; rw [← hW]; refine (km _).mono ?_; rintro e w1 ⟨rfl, hb1⟩
       have hP1 := hP.below hb1 hP.lt
       have hB1 := hB.below hb1 hB.lt
       have c0 : w1.cell? ⟨w.heap.size, 0, none⟩ = some (.int .i64 qr) := hP1.cell 0
       have c1 : w1.cell? ⟨w.heap.size, 1, none⟩ = some (.int .i64 qc) := hP1.cell 1
       have d0 : w1.cell? ⟨w.heap.size + 1, 0, none⟩ = some (.int .i64 sz) := hB1.cell 0
       have d1 : w1.cell? ⟨w.heap.size + 1, 1, none⟩ = some (sv bp) := hB1.cell 1
       have d2 : w1.cell? ⟨w.heap.size + 1, 2, none⟩ = some (sv bc) := hB1.cell 2)
    | (go_at_call 60; refine (ki0 _).mono ?_; rintro e w2 ⟨rfl, hb2⟩
       have hP2 := hP1.below hb2 hP1.lt
       have hB2 := hB1.below hb2 hB1.lt
       have e0 : w2.cell? ⟨w.heap.size, 0, none⟩ = some (.int .i64 qr) := hP2.cell 0
       have e1 : w2.cell? ⟨w.heap.size, 1, none⟩ = some (.int .i64 qc) := hP2.cell 1
       have e2 : w2.cell? ⟨w.heap.size, 2, none⟩ = some (.bool qd) := hP2.cell 2
       have e3 : w2.cell? ⟨w.heap.size, 3, none⟩ = some (sv qw) := hP2.cell 3)
    | (go_at_call 61; refine (ks1 _).mono ?_; rintro e w3 ⟨rfl, hb3⟩))
  have h12 := hbW.trans (hb1.mono hbW.size)
  have h13 := (h12.trans (hb2.mono h12.size))
  have h14 := h13.trans (hb3.mono h13.size)
  have hP3 := hP2.below hb3 hP2.lt
  have hB3 := hB2.below hb3 hB2.lt
  obtain ⟨W3, hW3⟩ : ∃ W3, W3 = w3.alloc (.cells #[.int .i64 lr, .int .i64 lc] 87) := ⟨_, rfl⟩
  have hL3 : Blk W3 w3.heap.size 87 #[.int .i64 lr, .int .i64 lc] := by rw [hW3]; exact Blk.new _ _ _
  have hP3 : Blk W3 w.heap.size 48 #[.int .i64 qr, .int .i64 qc, .bool qd, sv qw] := by rw [hW3]; exact hP3.alloc _
  have hB3 : Blk W3 (w.heap.size + 1) 33 #[.int .i64 sz, sv bp, sv bc] := by rw [hW3]; exact hB3.alloc _
  have h15 : Below w.heap.size w W3 := by rw [hW3]; exact h14.alloc h14.size _
  rw [← hW3]
  clear hW3 h12 h13 h14 hb1 hb2 hb3 hP1 hP2 hB1 hB2 c0 c1 d0 d1 d2 e0 e1 e2 e3 hP hB hbW
  cases I1
  · have hR : R = false := by rw [hR.out]; rfl
    subst hR
    refine wp_region_b 22 (by kernel_rfl) (by kernel_rfl) ?_
    simp only [List.take_succ_cons, List.take_zero, List.drop_succ_cons, List.drop_zero]
    iterate 8
      apply pc_step rfl
      · intro w4 hb4 K hK
        have hL4 := hL3.below hb4 hL3.lt
        have hP4 := hP3.below hb4 hP3.lt
        have hB4 := hB3.below hb4 hB3.lt
        have f0 : w4.cell? ⟨w3.heap.size, 0, none⟩ = some (.int .i64 lr) := hL4.cell 0
        have f1 : w4.cell? ⟨w3.heap.size, 1, none⟩ = some (.int .i64 lc) := hL4.cell 1
        have e0 : w4.cell? ⟨w.heap.size, 0, none⟩ = some (.int .i64 qr) := hP4.cell 0
        have e1 : w4.cell? ⟨w.heap.size, 1, none⟩ = some (.int .i64 qc) := hP4.cell 1
        have e2 : w4.cell? ⟨w.heap.size, 2, none⟩ = some (.bool qd) := hP4.cell 2
        have e3 : w4.cell? ⟨w.heap.size, 3, none⟩ = some (sv qw) := hP4.cell 3
        have d0 : w4.cell? ⟨w.heap.size + 1, 0, none⟩ = some (.int .i64 sz) := hB4.cell 0
        have d1 : w4.cell? ⟨w.heap.size + 1, 1, none⟩ = some (sv bp) := hB4.cell 1
        have d2 : w4.cell? ⟨w.heap.size + 1, 2, none⟩ = some (sv bc) := hB4.cell 2
        go_wp2_with (first | (go_at_call 60; (with_reducible refine (ki1 _).mono ?_); rintro e w5 ⟨rfl, hb5⟩) | (go_at_call 61; (with_reducible refine (ks2 _).mono ?_); rintro e w5 ⟨rfl, hb5⟩) | (go_at_call 61; (with_reducible refine (ks3 _).mono ?_); rintro e w5 ⟨rfl, hb5⟩) | (go_at_call 110; (with_reducible refine (ko1 _).mono ?_); rintro e w5 ⟨rfl, hb5⟩) | (go_at_call 110; (with_reducible refine (ko2 _).mono ?_); rintro e w5 ⟨rfl, hb5⟩))
        first | exact hb4 | exact hb4.trans (hb5.mono hb4.size) | exact hb4.trans (hd5.below.mono hb4.size)
      simp only [Act.put, List.setIfInBounds_toArray, List.set_cons_succ, List.set_cons_zero]
    iterate 4
      apply pc_skip rfl
      simp only [Act.put, List.setIfInBounds_toArray, List.set_cons_succ, List.set_cons_zero]
    iterate 2
      apply pc_step rfl
      · intro w4 hb4 K hK
        have hL4 := hL3.below hb4 hL3.lt
        have hP4 := hP3.below hb4 hP3.lt
        have hB4 := hB3.below hb4 hB3.lt
        have f0 : w4.cell? ⟨w3.heap.size, 0, none⟩ = some (.int .i64 lr) := hL4.cell 0
        have f1 : w4.cell? ⟨w3.heap.size, 1, none⟩ = some (.int .i64 lc) := hL4.cell 1
        have e0 : w4.cell? ⟨w.heap.size, 0, none⟩ = some (.int .i64 qr) := hP4.cell 0
        have e1 : w4.cell? ⟨w.heap.size, 1, none⟩ = some (.int .i64 qc) := hP4.cell 1
        have e2 : w4.cell? ⟨w.heap.size, 2, none⟩ = some (.bool qd) := hP4.cell 2
        have e3 : w4.cell? ⟨w.heap.size, 3, none⟩ = some (sv qw) := hP4.cell 3
        have d0 : w4.cell? ⟨w.heap.size + 1, 0, none⟩ = some (.int .i64 sz) := hB4.cell 0
        have d1 : w4.cell? ⟨w.heap.size + 1, 1, none⟩ = some (sv bp) := hB4.cell 1
        have d2 : w4.cell? ⟨w.heap.size + 1, 2, none⟩ = some (sv bc) := hB4.cell 2
        go_wp2_with (first | (go_at_call 60; (with_reducible refine (ki1 _).mono ?_); rintro e w5 ⟨rfl, hb5⟩) | (go_at_call 61; (with_reducible refine (ks2 _).mono ?_); rintro e w5 ⟨rfl, hb5⟩) | (go_at_call 61; (with_reducible refine (ks3 _).mono ?_); rintro e w5 ⟨rfl, hb5⟩) | (go_at_call 110; (with_reducible refine (ko1 _).mono ?_); rintro e w5 ⟨rfl, hb5⟩) | (go_at_call 110; (with_reducible refine (ko2 _).mono ?_); rintro e w5 ⟨rfl, hb5⟩))
        first | exact hb4 | exact hb4.trans (hb5.mono hb4.size) | exact hb4.trans (hd5.below.mono hb4.size)
      simp only [Act.put, List.setIfInBounds_toArray, List.set_cons_succ, List.set_cons_zero]
    iterate 7
      apply pc_skip rfl
      simp only [Act.put, List.setIfInBounds_toArray, List.set_cons_succ, List.set_cons_zero]
    iterate 1
      apply pc_step rfl
      · intro w4 hb4 K hK
        have hL4 := hL3.below hb4 hL3.lt
        have hP4 := hP3.below hb4 hP3.lt
        have hB4 := hB3.below hb4 hB3.lt
        have f0 : w4.cell? ⟨w3.heap.size, 0, none⟩ = some (.int .i64 lr) := hL4.cell 0
        have f1 : w4.cell? ⟨w3.heap.size, 1, none⟩ = some (.int .i64 lc) := hL4.cell 1
        have e0 : w4.cell? ⟨w.heap.size, 0, none⟩ = some (.int .i64 qr) := hP4.cell 0
        have e1 : w4.cell? ⟨w.heap.size, 1, none⟩ = some (.int .i64 qc) := hP4.cell 1
        have e2 : w4.cell? ⟨w.heap.size, 2, none⟩ = some (.bool qd) := hP4.cell 2
        have e3 : w4.cell? ⟨w.heap.size, 3, none⟩ = some (sv qw) := hP4.cell 3
        have d0 : w4.cell? ⟨w.heap.size + 1, 0, none⟩ = some (.int .i64 sz) := hB4.cell 0
        have d1 : w4.cell? ⟨w.heap.size + 1, 1, none⟩ = some (sv bp) := hB4.cell 1
        have d2 : w4.cell? ⟨w.heap.size + 1, 2, none⟩ = some (sv bc) := hB4.cell 2
        go_wp2_with (first | (go_at_call 60; (with_reducible refine (ki1 _).mono ?_); rintro e w5 ⟨rfl, hb5⟩) | (go_at_call 61; (with_reducible refine (ks2 _).mono ?_); rintro e w5 ⟨rfl, hb5⟩) | (go_at_call 61; (with_reducible refine (ks3 _).mono ?_); rintro e w5 ⟨rfl, hb5⟩) | (go_at_call 110; (with_reducible refine (ko1 _).mono ?_); rintro e w5 ⟨rfl, hb5⟩) | (go_at_call 110; (with_reducible refine (ko2 _).mono ?_); rintro e w5 ⟨rfl, hb5⟩))
        first | exact hb4 | exact hb4.trans (hb5.mono hb4.size) | exact hb4.trans (hd5.below.mono hb4.size)
      simp only [Act.put, List.setIfInBounds_toArray, List.set_cons_succ, List.set_cons_zero]
    refine pc_nil ?_
    intro w4 hb4
    go_wp2_with (fail)
    go_ret
    exact ⟨rfl, h15.trans (hb4.mono h15.size)⟩
  cases O1
  case true =>
    have hR : R = false := by rw [hR.out]; rfl
    subst hR
    refine wp_region_b 22 (by kernel_rfl) (by kernel_rfl) ?_
    simp only [List.take_succ_cons, List.take_zero, List.drop_succ_cons, List.drop_zero]
    iterate 14
      apply pc_step rfl
      · intro w4 hb4 K hK
        have hL4 := hL3.below hb4 hL3.lt
        have hP4 := hP3.below hb4 hP3.lt
        have hB4 := hB3.below hb4 hB3.lt
        have f0 : w4.cell? ⟨w3.heap.size, 0, none⟩ = some (.int .i64 lr) := hL4.cell 0
        have f1 : w4.cell? ⟨w3.heap.size, 1, none⟩ = some (.int .i64 lc) := hL4.cell 1
        have e0 : w4.cell? ⟨w.heap.size, 0, none⟩ = some (.int .i64 qr) := hP4.cell 0
        have e1 : w4.cell? ⟨w.heap.size, 1, none⟩ = some (.int .i64 qc) := hP4.cell 1
        have e2 : w4.cell? ⟨w.heap.size, 2, none⟩ = some (.bool qd) := hP4.cell 2
        have e3 : w4.cell? ⟨w.heap.size, 3, none⟩ = some (sv qw) := hP4.cell 3
        have d0 : w4.cell? ⟨w.heap.size + 1, 0, none⟩ = some (.int .i64 sz) := hB4.cell 0
        have d1 : w4.cell? ⟨w.heap.size + 1, 1, none⟩ = some (sv bp) := hB4.cell 1
        have d2 : w4.cell? ⟨w.heap.size + 1, 2, none⟩ = some (sv bc) := hB4.cell 2
        go_wp2_with (first | (go_at_call 60; (with_reducible refine (ki1 _).mono ?_); rintro e w5 ⟨rfl, hb5⟩) | (go_at_call 61; (with_reducible refine (ks2 _).mono ?_); rintro e w5 ⟨rfl, hb5⟩) | (go_at_call 61; (with_reducible refine (ks3 _).mono ?_); rintro e w5 ⟨rfl, hb5⟩) | (go_at_call 110; (with_reducible refine (ko1 _).mono ?_); rintro e w5 ⟨rfl, hb5⟩) | (go_at_call 110; (with_reducible refine (ko2 _).mono ?_); rintro e w5 ⟨rfl, hb5⟩))
        first | exact hb4 | exact hb4.trans (hb5.mono hb4.size) | exact hb4.trans (hd5.below.mono hb4.size)
      simp only [Act.put, List.setIfInBounds_toArray, List.set_cons_succ, List.set_cons_zero]
    iterate 7
      apply pc_skip rfl
      simp only [Act.put, List.setIfInBounds_toArray, List.set_cons_succ, List.set_cons_zero]
    iterate 1
      apply pc_step rfl
      · intro w4 hb4 K hK
        have hL4 := hL3.below hb4 hL3.lt
        have hP4 := hP3.below hb4 hP3.lt
        have hB4 := hB3.below hb4 hB3.lt
        have f0 : w4.cell? ⟨w3.heap.size, 0, none⟩ = some (.int .i64 lr) := hL4.cell 0
        have f1 : w4.cell? ⟨w3.heap.size, 1, none⟩ = some (.int .i64 lc) := hL4.cell 1
        have e0 : w4.cell? ⟨w.heap.size, 0, none⟩ = some (.int .i64 qr) := hP4.cell 0
        have e1 : w4.cell? ⟨w.heap.size, 1, none⟩ = some (.int .i64 qc) := hP4.cell 1
        have e2 : w4.cell? ⟨w.heap.size, 2, none⟩ = some (.bool qd) := hP4.cell 2
        have e3 : w4.cell? ⟨w.heap.size, 3, none⟩ = some (sv qw) := hP4.cell 3
        have d0 : w4.cell? ⟨w.heap.size + 1, 0, none⟩ = some (.int .i64 sz) := hB4.cell 0
        have d1 : w4.cell? ⟨w.heap.size + 1, 1, none⟩ = some (sv bp) := hB4.cell 1
        have d2 : w4.cell? ⟨w.heap.size + 1, 2, none⟩ = some (sv bc) := hB4.cell 2
        go_wp2_with (first | (go_at_call 60; (with_reducible refine (ki1 _).mono ?_); rintro e w5 ⟨rfl, hb5⟩) | (go_at_call 61; (with_reducible refine (ks2 _).mono ?_); rintro e w5 ⟨rfl, hb5⟩) | (go_at_call 61; (with_reducible refine (ks3 _).mono ?_); rintro e w5 ⟨rfl, hb5⟩) | (go_at_call 110; (with_reducible refine (ko1 _).mono ?_); rintro e w5 ⟨rfl, hb5⟩) | (go_at_call 110; (with_reducible refine (ko2 _).mono ?_); rintro e w5 ⟨rfl, hb5⟩))
        first | exact hb4 | exact hb4.trans (hb5.mono hb4.size) | exact hb4.trans (hd5.below.mono hb4.size)
      simp only [Act.put, List.setIfInBounds_toArray, List.set_cons_succ, List.set_cons_zero]
    refine pc_nil ?_
    intro w4 hb4
    go_wp2_with (fail)
    go_ret
    exact ⟨rfl, h15.trans (hb4.mono h15.size)⟩
  case false =>
    have hR : Hid (R = (!O2 && FT qw.length && RT qw.length)) := Lib.hid (by rw [hR.out]; rfl)
    refine wp_region_b 22 (by kernel_rfl) (by kernel_rfl) ?_
    simp only [List.take_succ_cons, List.take_zero, List.drop_succ_cons, List.drop_zero]
    iterate 22
      apply pc_step rfl
      · intro w4 hb4 K hK
        have hL4 := hL3.below hb4 hL3.lt
        have hP4 := hP3.below hb4 hP3.lt
        have hB4 := hB3.below hb4 hB3.lt
        have f0 : w4.cell? ⟨w3.heap.size, 0, none⟩ = some (.int .i64 lr) := hL4.cell 0
        have f1 : w4.cell? ⟨w3.heap.size, 1, none⟩ = some (.int .i64 lc) := hL4.cell 1
        have e0 : w4.cell? ⟨w.heap.size, 0, none⟩ = some (.int .i64 qr) := hP4.cell 0
        have e1 : w4.cell? ⟨w.heap.size, 1, none⟩ = some (.int .i64 qc) := hP4.cell 1
        have e2 : w4.cell? ⟨w.heap.size, 2, none⟩ = some (.bool qd) := hP4.cell 2
        have e3 : w4.cell? ⟨w.heap.size, 3, none⟩ = some (sv qw) := hP4.cell 3
        have d0 : w4.cell? ⟨w.heap.size + 1, 0, none⟩ = some (.int .i64 sz) := hB4.cell 0
        have d1 : w4.cell? ⟨w.heap.size + 1, 1, none⟩ = some (sv bp) := hB4.cell 1
        have d2 : w4.cell? ⟨w.heap.size + 1, 2, none⟩ = some (sv bc) := hB4.cell 2
        go_wp2_with (first | (go_at_call 60; (with_reducible refine (ki1 _).mono ?_); rintro e w5 ⟨rfl, hb5⟩) | (go_at_call 61; (with_reducible refine (ks2 _).mono ?_); rintro e w5 ⟨rfl, hb5⟩) | (go_at_call 61; (with_reducible refine (ks3 _).mono ?_); rintro e w5 ⟨rfl, hb5⟩) | (go_at_call 110; (with_reducible refine (ko1 _).mono ?_); rintro e w5 ⟨rfl, hb5⟩) | (go_at_call 110; (with_reducible refine (ko2 _).mono ?_); rintro e w5 ⟨rfl, hb5⟩))
        first | exact hb4 | exact hb4.trans (hb5.mono hb4.size) | exact hb4.trans (hd5.below.mono hb4.size)
      simp only [Act.put, List.setIfInBounds_toArray, List.set_cons_succ, List.set_cons_zero]
    refine pc_nil ?_
    intro w4 hb4
    have h16 := h15.trans (hb4.mono h15.size)
    have hP4 := hP3.below hb4 hP3.lt
    have hB4 := hB3.below hb4 hB3.lt
    clear hb4 hP3 hB3 hL3 h15
    cases O2
    · have hR : Hid (R = (FT qw.length && RT qw.length)) := Lib.hid (by rw [hR.out]; rfl)
      go_wp2_with (fail)
      go_loopw [6, 7] (fun fr i wr => ∃ k : Nat, k ≤ qw.length ∧ i = .int .i64 k ∧ fr = .bool (RT k) ∧ FT k = true ∧ Below w4.heap.size w4 wr) (fun _ i _ => qw.length - (intOf i).toNat)
      case atStart => exact ⟨0, by omega, rfl, by rw [hr0.out], hf0.out, Below.refl _ _⟩
      case round =>
        obtain ⟨k, hk, rfl, rfl, hft, hbr⟩ := hrel
        have hP5 := hP4.below hbr hP4.lt
        have hB5 := hB4.below hbr hB4.lt
        have hpz := hP5.lt
        have hbz := hB5.lt
        have e0 : wr.cell? ⟨w.heap.size, 0, none⟩ = some (.int .i64 qr) := hP5.cell 0
        have e1 : wr.cell? ⟨w.heap.size, 1, none⟩ = some (.int .i64 qc) := hP5.cell 1
        have e2 : wr.cell? ⟨w.heap.size, 2, none⟩ = some (.bool qd) := hP5.cell 2
        have e3 : wr.cell? ⟨w.heap.size, 3, none⟩ = some (sv qw) := hP5.cell 3
        have hbb := h16.trans (hbr.mono h16.size)
        by_cases hkl : k < qw.length
        · have ksq := ksk.out k hkl
          have hkk : (k : Int) < (qw.length : Int) := by omega
          have hcc := kc'.out (Pl.sr ⟨qr, qc, qd, qw⟩ k) (Pl.sc ⟨qr, qc, qd, qw⟩ k)
          rw [← hcq.out k] at hcc
          have hfqk := Lib.hid (hfq.out k)
          have hfs1 := Lib.hid (hfs.out k)
          have hrs1 := Lib.hid (hrs.out k)
          have hfn1 := Lib.hid (hfn.out k hkl)
          obtain ⟨sr, hsr⟩ : ∃ sr, sr = Pl.sr ⟨qr, qc, qd, qw⟩ k := ⟨_, rfl⟩
          obtain ⟨sc, hsc⟩ : ∃ sc, sc = Pl.sc ⟨qr, qc, qd, qw⟩ k := ⟨_, rfl⟩
          obtain ⟨ch, hch⟩ : ∃ ch, ch = CQ k := ⟨_, rfl⟩
          rw [← hsr] at ksq hcc
          rw [← hsc] at ksq hcc
          rw [← hch] at hcc hfqk hrs1
          have hget : qw.getD k 0 = qw[k] := by rw [List.getD_eq_getElem?_getD, List.getElem?_eq_getElem hkl]; rfl
          rw [hget] at hfqk
          obtain ⟨x, hx⟩ : ∃ x, x = qw[k] := ⟨_, rfl⟩
          have hx' := Lib.hid hx
          rw [← hx] at hfqk
          clear hsr hsc hch hget hx
          by_cases hc46 : ch = 46
          · subst hc46
            have hfs2 : Hid (FT (k + 1) = true) := Lib.hid (by rw [hfs1.out, hft, hfqk.out]; rfl)
            have hrs2 : Hid (RT (k + 1) = true) := Lib.hid (by rw [hrs1.out]; simp)
            clear hft
            go_wp2_with (first
              | (go_at_call 61; refine (ksq _).mono ?_; rintro e w5 ⟨rfl, hb5⟩
                 have hB6 := hB5.below hb5 hB5.lt
                 have d0 : w5.cell? ⟨w.heap.size + 1, 0, none⟩ = some (.int .i64 sz) := hB6.cell 0
                 have d1 : w5.cell? ⟨w.heap.size + 1, 1, none⟩ = some (sv bp) := hB6.cell 1
                 have d2 : w5.cell? ⟨w.heap.size + 1, 2, none⟩ = some (sv bc) := hB6.cell 2
                 have hbz2 := hB6.lt
                 have hne : w.heap.size + 1 ≠ w5.heap.size := by omega
                 have hb6 := (hbr.trans (hb5.mono hbr.size)).alloc (hbr.trans (hb5.mono hbr.size)).size (.cells #[.int .i64 sr, .int .i64 sc] 87))
              | (go_at_call 62; refine (hcc _).mono ?_; rintro e w6 ⟨rfl, hb7⟩
                 have hb8 := hb6.trans (hb7.mono hb6.size)))
            go_roundw
            case rel => exact ⟨k + 1, by omega, by go_num, by rw [hrs2.out], hfs2.out, hb8⟩
            case measure => simp [intOf]; omega
          · have hn46 : ((ch.toNat : Int) == 46) = false := by rw [beq_eq_false_iff_ne]; intro h; exact hc46 (UInt8.toNat_inj.1 (by have : (46 : UInt8).toNat = 46 := rfl; omega))
            have hrs2 : Hid (RT (k + 1) = RT k) := Lib.hid (by rw [hrs1.out, beq_false_of_ne hc46, Bool.or_false])
            by_cases hcx : ch = x
            · subst hcx
              have hfs2 : Hid (FT (k + 1) = true) := Lib.hid (by rw [hfs1.out, hft, hfqk.out]; simp)
              clear hft
              go_wp2_with (first
                | (go_at_call 61; refine (ksq _).mono ?_; rintro e w5 ⟨rfl, hb5⟩
                   have hB6 := hB5.below hb5 hB5.lt
                   have hP6 := hP5.below hb5 hP5.lt
                   have d0 : w5.cell? ⟨w.heap.size + 1, 0, none⟩ = some (.int .i64 sz) := hB6.cell 0
                   have d1 : w5.cell? ⟨w.heap.size + 1, 1, none⟩ = some (sv bp) := hB6.cell 1
                   have d2 : w5.cell? ⟨w.heap.size + 1, 2, none⟩ = some (sv bc) := hB6.cell 2
                   have hbz2 := hB6.lt
                   have hne : w.heap.size + 1 ≠ w5.heap.size := by omega
                   have hb6 := (hbr.trans (hb5.mono hbr.size)).alloc (hbr.trans (hb5.mono hbr.size)).size (.cells #[.int .i64 sr, .int .i64 sc] 87))
                | (go_at_call 62; refine (hcc _).mono ?_; rintro e w6 ⟨rfl, hb7⟩
                   have hb8 := hb6.trans (hb7.mono hb6.size)
                   have hP8 := (hP6.alloc (.cells #[.int .i64 sr, .int .i64 sc] 87)).below hb7 (by simp; have := hP6.lt; omega)
                   have e3 : w6.cell? ⟨w.heap.size, 3, none⟩ = some (sv qw) := hP8.cell 3))
              any_goals (exfalso; rename_i hA; rw [← hx'.out, bne_self_eq_false] at hA; contradiction)
              go_roundw
              case rel => exact ⟨k + 1, by omega, by go_num, by rw [hrs2.out], hfs2.out, hb8⟩
              case measure => simp [intOf]; omega
            · have hno : FQ k = false := by rw [hfqk.out, beq_false_of_ne hc46, beq_false_of_ne hcx]; rfl
              have hR2 : R = false := by rw [hR.out, hfn1.out hno]; rfl
              have hv : ((ch.toNat : Int) != ((qw[k]).toNat : Int)) = true := by rw [← hx'.out, bne_iff_ne]; intro h; exact hcx (UInt8.toNat_inj.1 (by omega))
              subst hR2
              clear hR hno hft hrs2
              go_wp2_with (first
                | (go_at_call 61; refine (ksq _).mono ?_; rintro e w5 ⟨rfl, hb5⟩
                   have hB6 := hB5.below hb5 hB5.lt
                   have hP6 := hP5.below hb5 hP5.lt
                   have d0 : w5.cell? ⟨w.heap.size + 1, 0, none⟩ = some (.int .i64 sz) := hB6.cell 0
                   have d1 : w5.cell? ⟨w.heap.size + 1, 1, none⟩ = some (sv bp) := hB6.cell 1
                   have d2 : w5.cell? ⟨w.heap.size + 1, 2, none⟩ = some (sv bc) := hB6.cell 2
                   have hbz2 := hB6.lt
                   have hne : w.heap.size + 1 ≠ w5.heap.size := by omega
                   have hb6 := (hbr.trans (hb5.mono hbr.size)).alloc (hbr.trans (hb5.mono hbr.size)).size (.cells #[.int .i64 sr, .int .i64 sc] 87))
                | (go_at_call 62; refine (hcc _).mono ?_; rintro e w6 ⟨rfl, hb7⟩
                   have hb8 := hb6.trans (hb7.mono hb6.size)
                   have hP8 := (hP6.alloc (.cells #[.int .i64 sr, .int .i64 sc] 87)).below hb7 (by simp; have := hP6.lt; omega)
                   have e3 : w6.cell? ⟨w.heap.size, 3, none⟩ = some (sv qw) := hP8.cell 3))
              go_ret
              exact ⟨rfl, h16.trans (hb8.mono h16.size)⟩
        · obtain rfl : k = qw.length := by omega
          have hkk : ¬ (qw.length : Int) < (qw.length : Int) := by omega
          have hR2 : Hid (R = RT qw.length) := Lib.hid (by rw [hR.out, hft]; rfl)
          go_wp2_with (fail)
          go_ret
          exact ⟨ret_bool hR2.out.symm, hbb⟩
    · have hR : R = false := by rw [hR.out]; rfl
      subst hR
      go_wp2_with (fail)
      go_ret
      exact ⟨rfl, h16⟩
end Go.Proofs.YtamdcbbclkobiaaGreatDoor
/-
  What stands ahead of the letters that a word needs: a state of a region that stores one struct; one rune as a string.
  Conditions: none.
-/
namespace Go.Proofs.YtamdcbbclkobiaaGreatDoor
open Go.RowKit RegP RegL RegV

theorem encode_ascii (c : UInt8) (h : c.toNat < 128) : Utf8.encode (c.toNat : Int) = ⟨[c].toArray⟩ := by
  have hv : Utf8.valid (c.toNat : Int) = true := by unfold Utf8.valid; simp; omega
  unfold Utf8.encode
  have h1 : ((c.toNat : Int)).toNat < 128 := by omega
  simp only [hv, if_true, h1]
  simp
theorem ret_slot_row_slot {P : Program} {fn : Func} {R : Ending → World → Prop} {a : Act} {w : World} {o p q : Tmp} {ty : TypeId} {u v : Value} (h : fn.results = #[.tmp o, .cell p ty, .tmp q]) (g : Nat) (t : TypeId) (cs : Array Value) (d : TypeDesc)
    (ho : a.tmps.getD o undef = u) (hp : a.tmps.getD p undef = .pointer (some ⟨g, 0, none⟩)) (hg : Blk w g t cs) (hu : P.underlying ty = some d)
    (hd : (match d with | .struct _ | .array _ _ => true | _ => false) = true) (hi : (P.info? ty).map (·.size) = some cs.size)
    (hq : a.tmps.getD q undef = v) (hdf : a.defers = [])
    (hR : R (.returned (.tuple #[u, .agg cs, v])) w) : bodyPost P fn R .ret a w := by
  have e0 : a.tmps[o]?.getD undef = u := by simpa using ho
  have e1 : a.tmps[p]?.getD undef = .pointer (some ⟨g, 0, none⟩) := by simpa using hp
  have e2 : a.tmps[q]?.getD undef = v := by simpa using hq
  refine bodyPost_ret (v := .tuple #[u, .agg cs, v]) ?_ hdf hR
  simp [results, h, e0, e1, e2, asAddr, run_loadVar_row w g t ty cs (0, 0) d hg hu hd hi]
/-- One struct in block g, stored by op i of a region; all else as it was. -/
structure SP (W : World) (g : Nat) (t : TypeId) (i : Nat) (r r' : Array Value) (L : Nat → Bool) (w : World) : Prop where
  gr : W.grownBy w (some g)
  blk : Blk w g t (if L i then r' else r)
section
variable {W w w' : World} {g i k : Nat} {t : TypeId} {r r' : Array Value} {L : Nat → Bool}
theorem SP.start (h : Blk W g t r) : SP W g t i r r' (fun _ => false) W := ⟨⟨rfl, rfl, rfl, Nat.le_refl _, fun _ _ _ => rfl⟩, h⟩
theorem SP.keep (h : SP W g t i r r' L w) (h1 : k ≠ i) : SP W g t i r r' (upd L k) w := ⟨h.gr, by rw [upd_ne L h1.symm]; exact h.blk⟩
theorem SP.call (h : SP W g t i r r' L w) (hb : Below w.heap.size w w') : SP W g t i r r' L w' :=
  ⟨⟨hb.os.trans h.gr.os, hb.tape.trans h.gr.tape, hb.output.trans h.gr.output, Nat.le_trans h.gr.size hb.size, fun k hk hne => (hb.block k (Nat.lt_of_lt_of_le hk h.gr.size)).trans (h.gr.block k hk hne)⟩, h.blk.below hb h.blk.lt⟩
theorem SP.other (h : SP W g t i r r' L w) {g' : Nat} {t' : TypeId} {cs : Array Value} (hb : Blk W g' t' cs) (hne : g' ≠ g) : Blk w g' t' cs := hb.grown h.gr (fun e => hne (Option.some.inj e))
theorem SP.own (h : SP W g t i r r' L w) {base e size n : Nat} {v : Value} {xs : List Value} (ho : W.ownsRow base e size v n xs) (hne : v.ownBlock ≠ some g) : w.ownsRow base e size v n xs :=
  own_keep ho fun k hk => h.gr.block k (ho.lt k hk).2 (fun e' => hne (hk.trans e'))
theorem grown_setCell (h : W.grownBy w (some g)) (j : Nat) (u : Value) : W.grownBy (w.setCell ⟨g, j, none⟩ u) (some g) :=
  ⟨h.os, h.tape, h.output, by simpa using h.size, fun k hk hne => (Below.heap_setCell w ⟨g, j, none⟩ u k (fun e => hne (by rw [e]))).trans (h.block k hk hne)⟩
theorem SP.put {a0 a1 a2 a3 x0 x1 x2 x3 : Value} (h : SP W g t i #[a0, a1, a2, a3] #[x0, x1, x2, x3] L w) (hL : L i = false) :
    SP W g t i #[a0, a1, a2, a3] #[x0, x1, x2, x3] (upd L i) ((((w.setCell ⟨g, 0, none⟩ x0).setCell ⟨g, 1, none⟩ x1).setCell ⟨g, 2, none⟩ x2).setCell ⟨g, 3, none⟩ x3) := by
  have hb := h.blk
  rw [hL] at hb
  refine ⟨grown_setCell (grown_setCell (grown_setCell (grown_setCell h.gr _ _) _ _) _ _) _ _, ?_⟩
  rw [upd_same]
  exact (((hb.set_ 0 x0).set_ 1 x1).set_ 2 x2).set_ 3 x3
end
/-- What a square gives: its letter, or the word's. -/
def takeC (b : Bd) (q : Pl) (word : Str) (i : Nat) : UInt8 := if cellQ b q i == 46 then word.getD i 0 else cellQ b q i
def takeOk (b : Bd) (q : Pl) (word : Str) (i : Nat) : Bool := !(takeC b q word i == 0) && (lowC (takeC b q word i) == word.getD i 0)
def okTo (b : Bd) (q : Pl) (word : Str) (k : Nat) : Bool := (List.range k).all (takeOk b q word)
def putTo (b : Bd) (q : Pl) (word : Str) (k : Nat) : Str := (List.range k).map (takeC b q word)
def letTo (b : Bd) (q : Pl) (word : Str) (k : Nat) : Str := ((List.range k).filter fun i => cellQ b q i == 46).map fun i => word.getD i 0
theorem okTo_succ (b : Bd) (q : Pl) (word : Str) (k : Nat) : okTo b q word (k + 1) = (okTo b q word k && takeOk b q word k) := by simp [okTo, List.range_succ]
theorem putTo_succ (b : Bd) (q : Pl) (word : Str) (k : Nat) : putTo b q word (k + 1) = putTo b q word k ++ [takeC b q word k] := by simp [putTo, List.range_succ]
theorem letTo_succ (b : Bd) (q : Pl) (word : Str) (k : Nat) : letTo b q word (k + 1) = if cellQ b q k == 46 then letTo b q word k ++ [word.getD k 0] else letTo b q word k := by
  unfold letTo
  rw [List.range_succ, List.filter_append]
  cases h : (cellQ b q k == 46) <;> simp [h]
theorem okTo_no (b : Bd) (q : Pl) (word : Str) {k n : Nat} (h : k < n) (hk : takeOk b q word k = false) : okTo b q word n = false := by
  unfold okTo
  rw [List.all_eq_false]
  exact ⟨k, List.mem_range.2 h, by simp [hk]⟩
theorem putTo_length (b : Bd) (q : Pl) (word : Str) (k : Nat) : (putTo b q word k).length = k := by simp [putTo]
theorem letTo_length (b : Bd) (q : Pl) (word : Str) (k : Nat) : (letTo b q word k).length ≤ k := by
  unfold letTo
  rw [List.length_map]
  exact Nat.le_trans (List.length_filter_le _ _) (by simp)
/-- The play of a word at a place, the letters on the board there. -/
def putQ (b : Bd) (word : Str) (r c : Int) (d : Bool) : Pl := ⟨r, c, d, putTo b ⟨r, c, d, []⟩ word word.length⟩
/-- Does a word stand at a place? -/
def standB (b : Bd) (word : Str) (r c : Int) (d : Bool) : Bool := longB word && b.inB r c && okTo b ⟨r, c, d, []⟩ word word.length
def needI (b : Bd) (word : Str) (r c : Int) (d : Bool) : Value :=
  if standB b word r c d then .tuple #[sv (letTo b ⟨r, c, d, []⟩ word word.length), (putQ b word r c d).v, .bool (validI b (putQ b word r c d))]
  else .tuple #[sv [], .agg #[.int .i64 0, .int .i64 0, .bool false, sv []], .bool false]
end Go.Proofs.YtamdcbbclkobiaaGreatDoor
/-
  Contract: the letters that a word needs at a place (layer 16 of the impl package).
  Conditions: a board of a size from 5 to 15; ASCII letters; numbers of common size.
-/
namespace Go.Proofs.YtamdcbbclkobiaaGreatDoor
open Go.RowKit RegP RegL RegV
set_option maxHeartbeats 2000000
set_option maxRecDepth 100000

theorem cellQ_ascii {b : Bd} (h : asciiB b.cells = true) (q : Pl) (i : Nat) : (cellQ b q i).toNat < 128 := by
  unfold cellQ Bd.cell
  split
  · exact asciiB_getD h _
  · decide
theorem takeC_ascii {b : Bd} (h : asciiB b.cells = true) (q : Pl) {word : Str} (hw : asciiB word = true) (i : Nat) : (takeC b q word i).toNat < 128 := by
  unfold takeC
  split
  · exact asciiB_getD hw _
  · exact cellQ_ascii h q i
theorem putTo_ascii {b : Bd} (h : asciiB b.cells = true) (q : Pl) {word : Str} (hw : asciiB word = true) (k : Nat) : asciiB (putTo b q word k) = true := by
  refine List.all_eq_true.2 fun c hc => ?_
  obtain ⟨i, _, rfl⟩ := List.mem_map.1 hc
  simpa using takeC_ascii h q hw i
theorem needs_bad (b : Bd) (word : Str) (r c : Int) (d : Bool) (w : World) (hs : sizeB b.size = true) (hl : word.length ≤ 2 ^ 32) (hno : (longB word && b.inB r c) = false) :
    Calls Tryz.prog 34 #[b.v, sv word, .int .i64 r, .int .i64 c, .bool d] w fun e w' => e = .returned (needI b word r c d) ∧ Below w.heap.size w w' := by
  have kl := fun w => isLong_any word w (by omega)
  have ki := fun w => inside_any b r c w hs
  have hres : needI b word r c d = .tuple #[.string ⟨#[]⟩, .agg #[.int .i64 0, .int .i64 0, .bool false, .string ⟨#[]⟩], .bool false] := by
    unfold needI standB; rw [hno]; rfl
  rw [hres]
  obtain ⟨LB, hLB⟩ : ∃ LB, LB = longB word := ⟨_, rfl⟩
  obtain ⟨IB, hIB⟩ : ∃ IB, IB = b.inB r c := ⟨_, rfl⟩
  rw [← hLB] at kl hno
  rw [← hIB] at ki hno
  clear hLB hIB hres hs
  obtain ⟨n, bp, bc⟩ := b
  simp only [Bd.v] at *
  obtain ⟨W0, hW0⟩ : ∃ W0, W0 = ((w.alloc (.cells #[.int .i64 n, sv bp, sv bc] 33)).alloc (.cells #[.int .i64 0, .int .i64 0, .bool false, .string ⟨#[]⟩] 48)).alloc (.cells #[.int .i64 r, .int .i64 c, .bool d, .string ⟨#[]⟩] 48) := ⟨_, rfl⟩
  have hB0 : Blk W0 w.heap.size 33 #[.int .i64 n, sv bp, sv bc] := by rw [hW0]; exact ((Blk.new w _ _).alloc _).alloc _
  have hB1 : Blk W0 (w.heap.size + 1) 48 #[.int .i64 0, .int .i64 0, .bool false, .string ⟨#[]⟩] := by rw [hW0]; exact (Blk.new1 w _ _ _).alloc _
  have hb0 : Below w.heap.size w W0 := by rw [hW0]; exact ((((Below.refl _ _).alloc (Nat.le_refl _) _).alloc (by simp) _).alloc (by simp; omega) _)
  cases LB
  · go_enter Tryz.func34, Tryz.ntmps34
    go_wp2_with (first
      | (go_at_call 53; rw [← hW0]; refine (kl _).mono ?_; rintro e w1 ⟨rfl, hb1⟩
         have hC1 := hB1.below hb1 hB1.lt
         have f0 := hC1.frozen
         have x0 : w1.cell? ⟨w.heap.size + 1, 0, none⟩ = some (.int .i64 0) := hC1.cell 0
         have x1 : w1.cell? ⟨w.heap.size + 1, 1, none⟩ = some (.int .i64 0) := hC1.cell 1
         have x2 : w1.cell? ⟨w.heap.size + 1, 2, none⟩ = some (.bool false) := hC1.cell 2
         have x3 : w1.cell? ⟨w.heap.size + 1, 3, none⟩ = some (.string ⟨#[]⟩) := hC1.cell 3
         have hlt2 : w.heap.size + 1 < w1.heap.size := hC1.lt))
    have hbb := hb0.trans (hb1.mono hb0.size)
    exact ret_slot_row_slot (by rfl) (w.heap.size + 1) 48 #[.int .i64 0, .int .i64 0, .bool false, .string ⟨#[]⟩] _ rfl rfl ((((hC1.set_ 0 _).set_ 1 _).set_ 2 _).set_ 3 _) Tryz.underlying48 rfl (by kernel_rfl) rfl rfl ⟨rfl, (((hbb.setCell (by simp <;> omega) _).setCell (by simp <;> omega) _).setCell (by simp <;> omega) _).setCell (by simp <;> omega) _⟩
  · simp only [Bool.true_and] at hno
    subst hno
    go_enter Tryz.func34, Tryz.ntmps34
    go_wp2_with (first
      | (go_at_call 53; rw [← hW0]; refine (kl _).mono ?_; rintro e w1 ⟨rfl, hb1⟩
         have hA1 := hB0.below hb1 hB0.lt
         have hC1 := hB1.below hb1 hB1.lt
         have b0 : w1.cell? ⟨w.heap.size, 0, none⟩ = some (.int .i64 n) := hA1.cell 0
         have b1 : w1.cell? ⟨w.heap.size, 1, none⟩ = some (sv bp) := hA1.cell 1
         have b2 : w1.cell? ⟨w.heap.size, 2, none⟩ = some (sv bc) := hA1.cell 2
         have hbb := hb0.trans (hb1.mono hb0.size))
      | (go_at_call 60; refine (ki _).mono ?_; rintro e w2 ⟨rfl, hb2⟩
         have hD1 := hC1.below hb2 hC1.lt
         have f0 := hD1.frozen
         have x0 : w2.cell? ⟨w.heap.size + 1, 0, none⟩ = some (.int .i64 0) := hD1.cell 0
         have x1 : w2.cell? ⟨w.heap.size + 1, 1, none⟩ = some (.int .i64 0) := hD1.cell 1
         have x2 : w2.cell? ⟨w.heap.size + 1, 2, none⟩ = some (.bool false) := hD1.cell 2
         have x3 : w2.cell? ⟨w.heap.size + 1, 3, none⟩ = some (.string ⟨#[]⟩) := hD1.cell 3
         have hlt2 : w.heap.size + 1 < w2.heap.size := hD1.lt))
    have hb3 := hbb.trans (hb2.mono hbb.size)
    exact ret_slot_row_slot (by rfl) (w.heap.size + 1) 48 #[.int .i64 0, .int .i64 0, .bool false, .string ⟨#[]⟩] _ rfl rfl ((((hD1.set_ 0 _).set_ 1 _).set_ 2 _).set_ 3 _) Tryz.underlying48 rfl (by kernel_rfl) rfl rfl ⟨rfl, (((hb3.setCell (by simp <;> omega) _).setCell (by simp <;> omega) _).setCell (by simp <;> omega) _).setCell (by simp <;> omega) _⟩
end Go.Proofs.YtamdcbbclkobiaaGreatDoor
