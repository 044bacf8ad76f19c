/-
  Contracts: squares of boards and of plays (layers 11 and 12 of the impl package); Contracts: the squares of a play (layer 12 of the impl package); Contract: the new squares of a play (layer 12 of the impl package).
  Conditions: as each part below says.
-/
import Derived.Test.YtamdcbbclkobiaaGreatDoorM10
import Derived.Lib.Builder
import Derived.Lib.UnsafeStr
import Derived.Laws.Externs
import Derived.RegionTactic
import Derived.Laws.Rows
import Derived.Laws.Tables
import Derived.Lib.OthersKept
/-
  Contracts: squares of boards and of plays (layers 11 and 12 of the impl package).
  Conditions: the board has a size from 5 to 15.
-/
namespace Go.Proofs.YtamdcbbclkobiaaGreatDoor
open Go.RowKit RegP RegL RegV
set_option maxHeartbeats 1000000

theorem inside_any (b : Bd) (r c : Int) (w : World) (hs : sizeB b.size = true) :
    Calls Tryz.prog 60 #[b.v, .int .i64 r, .int .i64 c] w fun e w' => e = .returned (.bool (b.inB r c)) ∧ Below w.heap.size w w' := by
  have hsz := hs
  unfold sizeB inR at hsz
  simp only [Bool.and_eq_true, decide_eq_true_eq] at hsz
  obtain ⟨h5, h15⟩ := hsz
  have hdef : Hid (b.inB r c = (inR r 0 (b.size - 1) && inR c 0 (b.size - 1))) := Lib.hid rfl
  have k1 := fun w => within_any r 0 (b.size - 1) w
  have k2 := fun w => within_any c 0 (b.size - 1) w
  obtain ⟨R, hR⟩ : ∃ R, R = b.inB r c := ⟨_, rfl⟩
  rw [← hR] at hdef ⊢
  clear hR hs
  obtain ⟨n, p, s⟩ := b
  simp only [Bd.v] at *
  have hbW := (Below.refl w.heap.size w).alloc (Nat.le_refl _) (.cells #[.int .i64 n, sv p, sv s] 33)
  cases e1 : inR r 0 (n - 1)
  · rw [e1] at k1 hdef
    go_enter Tryz.func60, Tryz.ntmps60
    go_wp2_with (go_at_call 103; refine (k1 _).mono ?_; rintro e w' ⟨rfl, rfl⟩)
    go_ret
    exact ⟨ret_bool (by rw [hdef.out]; rfl), hbW⟩
  · rw [e1] at k1 hdef
    go_enter Tryz.func60, Tryz.ntmps60
    go_wp2_with (first
      | (go_at_call 103; (with_reducible refine (k1 _).mono ?_); rintro e w' ⟨rfl, rfl⟩)
      | (go_at_call 103; (with_reducible refine (k2 _).mono ?_); rintro e w' ⟨rfl, rfl⟩))
    go_ret
    exact ⟨ret_bool (by rw [hdef.out]; rfl), hbW⟩
/-- The cell of a square, or 0. -/
def Bd.cell (b : Bd) (r c : Int) : UInt8 := if b.inB r c then b.at_ r c else 0
/-- Is there a letter on a square? -/
def Bd.let_ (b : Bd) (r c : Int) : Bool := !(b.cell r c == 0) && !(b.cell r c == 46)
theorem cell_any (b : Bd) (r c : Int) (w : World) (hf : b.Fit) :
    Calls Tryz.prog 62 #[b.v, .int .i64 r, .int .i64 c] w fun e w' => e = .returned (bv (b.cell r c)) ∧ Below w.heap.size w w' := by
  have h5 := hf.lo
  have h15 := hf.hi
  have hcl := hf.cells
  have k1 := fun w => inside_any b r c w hf.size
  have hdef : Hid (b.cell r c = if b.inB r c then b.at_ r c else 0) := Lib.hid rfl
  have hat : Hid (b.at_ r c = b.cells.getD (r * b.size + c).toNat 0) := Lib.hid rfl
  have hin : b.inB r c = true → (0 ≤ r ∧ r ≤ b.size - 1) ∧ (0 ≤ c ∧ c ≤ b.size - 1) := fun h => inB_iff.1 h
  obtain ⟨I, hI⟩ : ∃ I, I = b.inB r c := ⟨_, rfl⟩
  obtain ⟨R, hR⟩ : ∃ R, R = b.cell r c := ⟨_, rfl⟩
  obtain ⟨T, hT⟩ : ∃ T, T = b.at_ r c := ⟨_, rfl⟩
  rw [← hI] at k1 hdef hin
  rw [← hR] at hdef ⊢
  rw [← hT] at hdef hat
  clear hI hR hT hf
  obtain ⟨n, p, s⟩ := b
  simp only [Bd.v] at *
  have hbW := (Below.refl w.heap.size w).alloc (Nat.le_refl _) (.cells #[.int .i64 n, sv p, sv s] 33)
  have hB := Blk.new w 33 #[.int .i64 n, sv p, sv s]
  cases I
  · go_enter Tryz.func62, Tryz.ntmps62
    go_wp2_with (go_at_call 60; refine (k1 _).mono ?_; rintro e w1 ⟨rfl, hb1⟩)
    go_ret
    exact ⟨by rw [hdef.out]; rfl, hbW.trans (hb1.mono (by simp))⟩
  · obtain ⟨⟨r0, r1⟩, c0, c1⟩ := hin rfl
    obtain ⟨m0, m1, m2, m3, m4⟩ := mul_bounds h5 h15 r0 r1 c0 c1
    have hcl' := Lib.hid hcl
    have hlt : r * n + c < (s.length : Int) := by omega
    clear hcl
    have hsum : r * n + c ≤ 1000 := by omega
    have hnat : (r * n + c).toNat < s.length := by omega
    have hget : Hid (s[(r * n + c).toNat] = T) := Lib.hid (by rw [hat.out, List.getD_eq_getElem?_getD, List.getElem?_eq_getElem hnat]; rfl)
    go_enter Tryz.func62, Tryz.ntmps62
    go_wp2_with (go_at_call 60; refine (k1 _).mono ?_; rintro e w1 ⟨rfl, hb1⟩
                 have hB1 := hB.below hb1 hB.lt
                 have d0 : w1.cell? ⟨w.heap.size, 0, none⟩ = some (.int .i64 n) := hB1.cell 0
                 have d2 : w1.cell? ⟨w.heap.size, 2, none⟩ = some (sv s) := hB1.cell 2)
    go_ret
    exact ⟨by rw [hdef.out]; simp only [if_true]; rw [← hget.out]; rfl, hbW.trans (hb1.mono (by simp))⟩
theorem letter_any (b : Bd) (r c : Int) (w : World) (hf : b.Fit) :
    Calls Tryz.prog 161 #[b.v, .int .i64 r, .int .i64 c] w fun e w' => e = .returned (.bool (b.let_ r c)) ∧ Below w.heap.size w w' := by
  have k1 := fun w => cell_any b r c w hf
  have hdef : Hid (b.let_ r c = (!(b.cell r c == 0) && !(b.cell r c == 46))) := Lib.hid rfl
  obtain ⟨R, hR⟩ : ∃ R, R = b.let_ r c := ⟨_, rfl⟩
  obtain ⟨x, hx⟩ : ∃ x, x = b.cell r c := ⟨_, rfl⟩
  rw [← hR] at hdef ⊢
  rw [← hx] at hdef k1
  clear hR hx
  obtain ⟨n, p, s⟩ := b
  simp only [Bd.v] at *
  have hbW := (Below.refl w.heap.size w).alloc (Nat.le_refl _) (.cells #[.int .i64 n, sv p, sv s] 33)
  have q0 : ((x.toNat : Int) == 0) = (x == 0) := u8_eq x 0
  have q1 : ((x.toNat : Int) != 0) = !(x == 0) := by rw [bne, q0]
  have q2 : ((x.toNat : Int) != 46) = !(x == 46) := congrArg (fun t => !t) (u8_eq x 46)
  clear q0
  cases e1 : x == 0
  all_goals cases e2 : x == 46
  all_goals
    rw [e1] at q1 hdef
    rw [e2] at q2 hdef
    go_enter Tryz.func161, Tryz.ntmps161
    go_wp2_with (go_at_call 62; refine (k1 _).mono ?_; rintro e w1 ⟨rfl, hb1⟩)
    go_ret
    exact ⟨ret_bool (by rw [hdef.out]; rfl), hbW.trans (hb1.mono (by simp))⟩
def sqV (r c : Int) : Value := .agg #[.int .i64 r, .int .i64 c]
theorem on_any (b : Bd) (r c : Int) (w : World) (hf : b.Fit) :
    Calls Tryz.prog 110 #[b.v, sqV r c] w fun e w' => e = .returned (.bool (b.let_ r c)) ∧ Below w.heap.size w w' := by
  have k1 := fun w => letter_any b r c w hf
  obtain ⟨R, hR⟩ : ∃ R, R = b.let_ r c := ⟨_, rfl⟩
  rw [← hR] at k1 ⊢
  clear hR
  obtain ⟨n, p, s⟩ := b
  simp only [Bd.v, sqV] at *
  have hbW := ((Below.refl w.heap.size w).alloc (Nat.le_refl _) (.cells #[.int .i64 n, sv p, sv s] 33)).alloc (by simp) (.cells #[.int .i64 r, .int .i64 c] 87)
  go_enter Tryz.func110, Tryz.ntmps110
  go_wp2_with (go_at_call 161; refine (k1 _).mono ?_; rintro e w1 ⟨rfl, hb1⟩)
  go_ret
  exact ⟨rfl, hbW.trans (hb1.mono (by simp; omega))⟩

/-- The value of a direction. -/
def dirV (down : Bool) : Value := .iface (if down then 182 else 183) (.agg #[])
theorem directionOf_any (down : Bool) (w : World) :
    Calls Tryz.prog 108 #[.bool down] w fun e w' => e = .returned (dirV down) ∧ w = w' := by
  cases down
  all_goals
    go_enter Tryz.func108, Tryz.ntmps108
    go_wp2_with (fail)
    go_ret
    exact ⟨rfl, rfl⟩
theorem at_right (r c n : Int) (w : World) (h1 : -1000000000000 ≤ c + n) (h2 : c + n ≤ 1000000000000) :
    Calls Tryz.prog 222 #[.agg #[], .int .i64 r, .int .i64 c, .int .i64 n] w fun e w' => e = .returned (sqV r (c + n)) ∧ Below w.heap.size w w' := by
  go_enter Tryz.func222, Tryz.ntmps222
  go_wp2_with (fail)
  exact bodyPost_ret (v := sqV r (c + n)) (by simp [results, Tryz.results222, go_sem, sqV]) rfl ⟨rfl, (((Below.refl _ _).alloc (Nat.le_refl _) _).alloc (by simp) _)⟩
theorem at_down (r c n : Int) (w : World) (h1 : -1000000000000 ≤ r + n) (h2 : r + n ≤ 1000000000000) :
    Calls Tryz.prog 220 #[.agg #[], .int .i64 r, .int .i64 c, .int .i64 n] w fun e w' => e = .returned (sqV (r + n) c) ∧ Below w.heap.size w w' := by
  go_enter Tryz.func220, Tryz.ntmps220
  go_wp2_with (fail)
  exact bodyPost_ret (v := sqV (r + n) c) (by simp [results, Tryz.results220, go_sem, sqV]) rfl ⟨rfl, (((Below.refl _ _).alloc (Nat.le_refl _) _).alloc (by simp) _)⟩
theorem cross_right (w : World) : Calls Tryz.prog 223 #[.agg #[]] w fun e w' => e = .returned (dirV true) ∧ Below w.heap.size w w' := by
  go_enter Tryz.func223, Tryz.ntmps223
  go_wp2_with (fail)
  go_ret
  exact ⟨rfl, (Below.refl _ _).alloc (Nat.le_refl _) _⟩
theorem cross_down (w : World) : Calls Tryz.prog 221 #[.agg #[]] w fun e w' => e = .returned (dirV false) ∧ Below w.heap.size w w' := by
  go_enter Tryz.func221, Tryz.ntmps221
  go_wp2_with (fail)
  go_ret
  exact ⟨rfl, (Below.refl _ _).alloc (Nat.le_refl _) _⟩
end Go.Proofs.YtamdcbbclkobiaaGreatDoor
/-
  Contracts: the squares of a play (layer 12 of the impl package).
  Conditions: numbers of common size.
-/
namespace Go.Proofs.YtamdcbbclkobiaaGreatDoor
open Go.RowKit RegP RegL RegV
set_option maxHeartbeats 1000000

theorem nil_at (d : Bool) (w : World) : (nilAhead 338 (if d then 182 else 183) (.agg #[]) "loop.example/g00911/impl.at").run Tryz.prog w = .ok (some false) w := by cases d <;> kernel_rfl
theorem meth_at (d : Bool) (w : World) : (method 338 (if d then 182 else 183) (.agg #[]) "loop.example/g00911/impl.at").run Tryz.prog w = .ok (if d then 220 else 222, .agg #[]) w := by cases d <;> kernel_rfl
theorem nil_cross (d : Bool) (w : World) : (nilAhead 338 (if d then 182 else 183) (.agg #[]) "loop.example/g00911/impl.cross").run Tryz.prog w = .ok (some false) w := by cases d <;> kernel_rfl
theorem meth_cross (d : Bool) (w : World) : (method 338 (if d then 182 else 183) (.agg #[]) "loop.example/g00911/impl.cross").run Tryz.prog w = .ok (if d then 221 else 223, .agg #[]) w := by cases d <;> kernel_rfl

/-- The row and the column of the n-th square. -/
def Pl.sr (q : Pl) (n : Int) : Int := if q.down then q.row + n else q.row
def Pl.sc (q : Pl) (n : Int) : Int := if q.down then q.col else q.col + n
theorem square_any (q : Pl) (n : Int) (w : World) (h1 : -500000000000 ≤ q.row) (h2 : q.row ≤ 500000000000) (h3 : -500000000000 ≤ q.col) (h4 : q.col ≤ 500000000000) (h5 : -500000000000 ≤ n) (h6 : n ≤ 500000000000) :
    Calls Tryz.prog 61 #[q.v, .int .i64 n] w fun e w' => e = .returned (sqV (q.sr n) (q.sc n)) ∧ Below w.heap.size w w' := by
  obtain ⟨r, c, d, s⟩ := q
  simp only [Pl.v, Pl.sr, Pl.sc] at *
  have hB := (Blk.new w 48 #[.int .i64 r, .int .i64 c, .bool d, sv s]).alloc (.cells #[.int .i64 0, .int .i64 0] 87)
  have hC := Blk.new1 w (.cells #[.int .i64 r, .int .i64 c, .bool d, sv s] 48) 87 #[.int .i64 0, .int .i64 0]
  have hbW := ((Below.refl w.heap.size w).alloc (Nat.le_refl _) (.cells #[.int .i64 r, .int .i64 c, .bool d, sv s] 48)).alloc (by simp) (.cells #[.int .i64 0, .int .i64 0] 87)
  obtain ⟨W, hW⟩ : ∃ W, W = (w.alloc (.cells #[.int .i64 r, .int .i64 c, .bool d, sv s] 48)).alloc (.cells #[.int .i64 0, .int .i64 0] 87) := ⟨_, rfl⟩
  rw [← hW] at hB hC hbW
  cases d
  · have hn := fun w => nil_at false w
    have hm := fun w => meth_at false w
    have hd : ∀ w, Calls Tryz.prog 108 #[.bool false] w fun e w' => e = .returned (.iface 183 (.agg #[])) ∧ w = w' := fun w => directionOf_any false w
    have ha : ∀ w, Calls Tryz.prog 222 #[.agg #[], .int .i64 r, .int .i64 c, .int .i64 n] w fun e w' => e = .returned (sqV r (c + n)) ∧ Below w.heap.size w w' := fun w => at_right r c n w (by omega) (by omega)
    simp only [Bool.false_eq_true, if_false] at hn hm ⊢
    simp only [sqV] at ha
    go_enter Tryz.func61, Tryz.ntmps61
    go_wp2_with (fail)
    rw [← hW]
    clear hW
    refine wp_region_b 9 (by kernel_rfl) (by kernel_rfl) ?_
    simp only [List.take_succ_cons, List.take_zero, List.drop_succ_cons, List.drop_zero]
    iterate 9
      apply pc_step rfl
      · intro w4 hb4 K hK
        have hB4 := hB.below hb4 hB.lt
        have d0 : w4.cell? ⟨w.heap.size, 0, none⟩ = some (.int .i64 r) := hB4.cell 0
        have d1 : w4.cell? ⟨w.heap.size, 1, none⟩ = some (.int .i64 c) := hB4.cell 1
        have d2 : w4.cell? ⟨w.heap.size, 2, none⟩ = some (.bool false) := hB4.cell 2
        go_wp2_with (first | (go_at_call 108; (with_reducible refine (hd _).mono ?_); rintro e w5 ⟨rfl, rfl⟩) | (go_at_call 222; (with_reducible refine (ha _).mono ?_); rintro e w5 ⟨rfl, hb5⟩))
        first | exact hb4 | exact hb4.trans (hb5.mono hb4.size) | exact hb4.trans (hd5.below.mono hb4.size)
      simp only [Act.put, List.setIfInBounds_toArray, List.set_cons_succ, List.set_cons_zero]
    refine pc_nil ?_
    intro w4 hb4
    have hC4 := hC.below hb4 hC.lt
    have c0 : w4.cell? ⟨w.heap.size + 1, 0, none⟩ = some (.int .i64 0) := hC4.cell 0
    have c1 : w4.cell? ⟨w.heap.size + 1, 1, none⟩ = some (.int .i64 0) := hC4.cell 1
    have e0 : w4.frozen? ⟨w.heap.size + 1, 0, none⟩ = false := hC4.frozen 0
    have e1 : w4.frozen? ⟨w.heap.size + 1, 1, none⟩ = false := hC4.frozen 1
    have hz : w.heap.size + 1 < w4.heap.size := hC4.lt
    go_wp2_with (fail)
    exact ret_row (by rfl) (w.heap.size + 1) 87 #[.int .i64 r, .int .i64 (c + n)] _ rfl ((hC4.set_ 0 _).set_ 1 _) Tryz.underlying87 rfl (by kernel_rfl) rfl ⟨rfl, (((hbW.trans (hb4.mono hbW.size)).setCell (by simp) _).setCell (by simp) _)⟩
  · have hn := fun w => nil_at true w
    have hm := fun w => meth_at true w
    have hd : ∀ w, Calls Tryz.prog 108 #[.bool true] w fun e w' => e = .returned (.iface 182 (.agg #[])) ∧ w = w' := fun w => directionOf_any true w
    have ha : ∀ w, Calls Tryz.prog 220 #[.agg #[], .int .i64 r, .int .i64 c, .int .i64 n] w fun e w' => e = .returned (sqV (r + n) c) ∧ Below w.heap.size w w' := fun w => at_down r c n w (by omega) (by omega)
    simp only [if_true] at hn hm ⊢
    simp only [sqV] at ha
    go_enter Tryz.func61, Tryz.ntmps61
    go_wp2_with (fail)
    rw [← hW]
    clear hW
    refine wp_region_b 9 (by kernel_rfl) (by kernel_rfl) ?_
    simp only [List.take_succ_cons, List.take_zero, List.drop_succ_cons, List.drop_zero]
    iterate 9
      apply pc_step rfl
      · intro w4 hb4 K hK
        have hB4 := hB.below hb4 hB.lt
        have d0 : w4.cell? ⟨w.heap.size, 0, none⟩ = some (.int .i64 r) := hB4.cell 0
        have d1 : w4.cell? ⟨w.heap.size, 1, none⟩ = some (.int .i64 c) := hB4.cell 1
        have d2 : w4.cell? ⟨w.heap.size, 2, none⟩ = some (.bool true) := hB4.cell 2
        go_wp2_with (first | (go_at_call 108; (with_reducible refine (hd _).mono ?_); rintro e w5 ⟨rfl, rfl⟩) | (go_at_call 220; (with_reducible refine (ha _).mono ?_); rintro e w5 ⟨rfl, hb5⟩))
        first | exact hb4 | exact hb4.trans (hb5.mono hb4.size) | exact hb4.trans (hd5.below.mono hb4.size)
      simp only [Act.put, List.setIfInBounds_toArray, List.set_cons_succ, List.set_cons_zero]
    refine pc_nil ?_
    intro w4 hb4
    have hC4 := hC.below hb4 hC.lt
    have c0 : w4.cell? ⟨w.heap.size + 1, 0, none⟩ = some (.int .i64 0) := hC4.cell 0
    have c1 : w4.cell? ⟨w.heap.size + 1, 1, none⟩ = some (.int .i64 0) := hC4.cell 1
    have e0 : w4.frozen? ⟨w.heap.size + 1, 0, none⟩ = false := hC4.frozen 0
    have e1 : w4.frozen? ⟨w.heap.size + 1, 1, none⟩ = false := hC4.frozen 1
    have hz : w.heap.size + 1 < w4.heap.size := hC4.lt
    go_wp2_with (fail)
    exact ret_row (by rfl) (w.heap.size + 1) 87 #[.int .i64 (r + n), .int .i64 c] _ rfl ((hC4.set_ 0 _).set_ 1 _) Tryz.underlying87 rfl (by kernel_rfl) rfl ⟨rfl, (((hbW.trans (hb4.mono hbW.size)).setCell (by simp) _).setCell (by simp) _)⟩
end Go.Proofs.YtamdcbbclkobiaaGreatDoor
/-
  Contract: the new squares of a play (layer 12 of the impl package).
  Conditions: a board of a size from 5 to 15; the play's letters are ASCII; numbers of common size.
-/
namespace Go.Proofs.YtamdcbbclkobiaaGreatDoor
open Go.RowKit RegP RegL RegV
set_option maxHeartbeats 1000000
set_option maxRecDepth 100000

theorem sqT : SlT Tryz.prog 93 87 (.agg #[.int .i64 0, .int .i64 0]) 2 16 := ⟨Tryz.underlying93, by kernel_rfl, rfl, by decide⟩
theorem intT : SlT Tryz.prog 94 3 (.int .i64 0) 1 8 := ⟨Tryz.underlying94, by kernel_rfl, rfl, by decide⟩
/-- Squares as cells. -/
def sqC (l : List (Int × Int)) : List Value := l.flatMap fun s => [.int .i64 s.1, .int .i64 s.2]
theorem sqC_append (a b : List (Int × Int)) : sqC (a ++ b) = sqC a ++ sqC b := by simp [sqC]
theorem sqC_one (s : Int × Int) : sqC [s] = [.int .i64 s.1, .int .i64 s.2] := by simp [sqC]
theorem sqC_length (a : List (Int × Int)) : (sqC a).length = a.length * 2 := by
  induction a with
  | nil => rfl
  | cons p r ih => show ([_, _] ++ sqC r).length = _; rw [List.length_append, ih, List.length_cons]; simp; omega
def newTo (b : Bd) (q : Pl) (m : Nat) : List Nat := (List.range m).filter fun i : Nat => !b.let_ (q.sr i) (q.sc i)
def newL (b : Bd) (q : Pl) : List Nat := newTo b q q.word.length
def sqL (q : Pl) (l : List Nat) : List (Int × Int) := l.map fun i : Nat => (q.sr (i : Int), q.sc (i : Int))
theorem newTo_length (b : Bd) (q : Pl) (m : Nat) : (newTo b q m).length ≤ m := by
  have := List.length_filter_le (fun i : Nat => !b.let_ (q.sr i) (q.sc i)) (List.range m)
  rwa [List.length_range] at this
theorem newTo_step (b : Bd) (q : Pl) (k : Nat) : newTo b q (k + 1) = if b.let_ (q.sr k) (q.sc k) then newTo b q k else newTo b q k ++ [k] := by
  unfold newTo
  rw [List.range_succ, List.filter_append]
  cases h : b.let_ (q.sr k) (q.sc k) <;> simp [h]
def asciiB (s : Str) : Bool := s.all fun c => decide (c.toNat < 128)
theorem own_iterAt {w : World} {base e size n : Nat} {v : Value} {xs : List Value} (h : w.ownsRow base e size v n xs) {k : Nat} {s : ByteArray} {pos pos' : Nat} (hk : w.heap[k]? = some (.stringIter s pos)) : (w.iterAt k s pos').ownsRow base e size v n xs := by
  refine own_keep h fun j hj => Lib.iterAt_other w k j s pos' fun e => ?_
  subst e
  rcases h.2 with ⟨rfl, _⟩ | ⟨g, cap, cur, rfl, _, hh, _⟩
  · cases hj
  · have : g = j := by simpa [Value.ownBlock] using hj
    subst this
    rw [hk] at hh; cases hh
theorem Blk.iterAt {w : World} {g : Nat} {t : TypeId} {cs : Array Value} (h : Blk w g t cs) {k : Nat} {s : ByteArray} {pos pos' : Nat} (hk : w.heap[k]? = some (.stringIter s pos)) : Blk (w.iterAt k s pos') g t cs := by
  unfold Blk at *
  rw [Lib.iterAt_other w k g s pos' (fun e => by subst e; rw [hk] at h; cases h)]; exact h
theorem iter_below {w w' : World} {k : Nat} {s : ByteArray} {pos : Nat} (hk : w.heap[k]? = some (.stringIter s pos)) (hb : Below w.heap.size w w') : w'.heap[k]? = some (.stringIter s pos) := by
  have hlt : k < w.heap.size := (Array.getElem?_eq_some_iff.1 hk).1
  rw [hb.block k hlt]; exact hk
theorem iter_grown {w w' : World} {k : Nat} {s : ByteArray} {pos base e size n : Nat} {v : Value} {xs : List Value} (hk : w.heap[k]? = some (.stringIter s pos)) (hown : w.ownsRow base e size v n xs) (hg : w.grownBy w' v.ownBlock) : w'.heap[k]? = some (.stringIter s pos) := by
  have hlt : k < w.heap.size := (Array.getElem?_eq_some_iff.1 hk).1
  rw [hg.block k hlt ?_]; exact hk
  intro e
  rcases hown.2 with ⟨rfl, _⟩ | ⟨g, cap, cur, rfl, _, hh, _⟩
  · cases e
  · have : k = g := by simpa [Value.ownBlock] using e
    subst this
    rw [hk] at hh; cases hh
/-- A row of another element type, behind an append. -/
theorem own_grown {w w' : World} {base base2 e e2 size size2 n n2 : Nat} {v v2 : Value} {xs xs2 : List Value} (h : w.ownsRow base e size v n xs) (h2 : w.ownsRow base2 e2 size2 v2 n2 xs2) (hne : e ≠ e2) (hg : w.grownBy w' v2.ownBlock) : w'.ownsRow base e size v n xs := by
  refine own_keep h fun k hk => hg.block k (h.lt k hk).2 fun e' => ?_
  rcases h.2 with ⟨rfl, _⟩ | ⟨g, cap, cur, rfl, _, hh, _⟩
  · cases hk
  · have hgk : g = k := by simpa [Value.ownBlock] using hk
    subst hgk
    exact (own_blk_ne (t := e) (cs := cur) h2 hh (Ne.symm hne)) e'.symm
theorem newSquares_any (b : Bd) (q : Pl) (w : World) (hf : b.Fit) (ha : asciiB q.word = true) (hl : q.word.length ≤ 2 ^ 32) (h1 : -400000000000 ≤ q.row) (h2 : q.row ≤ 400000000000) (h3 : -400000000000 ≤ q.col) (h4 : q.col ≤ 400000000000) :
    Calls Tryz.prog 65 #[b.v, q.v] w fun e w' => ∃ v1 v2, e = .returned (.tuple #[v1, v2]) ∧ w'.ownsRow w.heap.size 87 2 v1 (newL b q).length (sqC (sqL q (newL b q))) ∧ w'.ownsRow w.heap.size 3 1 v2 (newL b q).length ((newL b q).map iv) ∧ Below w.heap.size w w' := by
  have ksq := fun (n : Nat) (h : n < q.word.length) (w : World) => square_any q n w (by omega) (by omega) (by omega) (by omega) (by omega) (by omega)
  have kon := fun (n : Nat) (w : World) => on_any b (q.sr n) (q.sc n) w hf
  have hasc : ∀ (k : Nat) (h : k < q.word.length), (q.word[k]).toNat < 128 := fun k h => by
    have := List.all_eq_true.1 ha _ (List.getElem_mem h)
    simpa using this
  have hst := fun k => newTo_step b q k
  have hNl := fun k => newTo_length b q k
  have hend : Hid (newL b q = newTo b q q.word.length) := Lib.hid rfl
  obtain ⟨NL, hNL⟩ : ∃ NL, NL = newL b q := ⟨_, rfl⟩
  rw [← hNL] at hend ⊢
  obtain ⟨NT, hNT⟩ : ∃ NT, NT = newTo b q := ⟨_, rfl⟩
  rw [← hNT] at hst hNl hend
  have hst' := Lib.hid hst
  have hNl' := Lib.hid hNl
  have hasc' := Lib.hid hasc
  have ksq' := Lib.hid ksq
  clear hNL hNT hst hNl hasc ksq ha
  simp only [Bd.v, Pl.v, sqV] at *
  have hpl : Hid (∀ k, sqL q (NT (k + 1)) = if b.let_ (q.sr k) (q.sc k) then sqL q (NT k) else sqL q (NT k) ++ [(q.sr k, q.sc k)]) := Lib.hid (fun k => by
    rw [hst'.out k]
    cases b.let_ (q.sr k) (q.sc k) <;> simp [sqL])
  obtain ⟨W, hW⟩ : ∃ W, W = ((((w.alloc (.cells #[.int .i64 b.size, sv b.prem, sv b.cells] 33)).alloc (.cells #[.int .i64 q.row, .int .i64 q.col, .bool q.down, sv q.word] 48)).alloc (.cells #[] 87)).alloc (.cells #[] 3)).iter ⟨q.word.toArray⟩ 0 := ⟨_, rfl⟩
  have hz0 : (w.alloc (.cells #[.int .i64 b.size, sv b.prem, sv b.cells] 33)).heap.size = w.heap.size + 1 := by simp
  have hB0 : Blk W w.heap.size 33 #[.int .i64 b.size, sv b.prem, sv b.cells] := by rw [hW]; exact ((((Blk.new w _ _).alloc _).alloc _).alloc _).alloc _
  have hB1 : Blk W (w.heap.size + 1) 48 #[.int .i64 q.row, .int .i64 q.col, .bool q.down, sv q.word] := by rw [hW]; exact (((Blk.new1 w _ _ _).alloc _).alloc _).alloc _
  have hbW : Below w.heap.size w W := by rw [hW]; exact (((((Below.refl _ _).alloc (Nat.le_refl _) _).alloc (by simp) _).alloc (by simp; omega) _).alloc (by simp; omega) _).alloc (by simp; omega) _
  have own1 : W.ownsRow w.heap.size 87 2 (.slice (some ⟨w.heap.size + 1 + 1, 0, none⟩) 0 0) 0 (sqC (sqL q (NT 0))) := by
    have h0 : NT 0 = [] := List.eq_nil_of_length_eq_zero (by have := hNl'.out 0; omega)
    rw [h0, hW]
    have := World.ownsRow_lit (base := w.heap.size) (size := 2) (e := 87) ((w.alloc (.cells #[.int .i64 b.size, sv b.prem, sv b.cells] 33)).alloc (.cells #[.int .i64 q.row, .int .i64 q.col, .bool q.down, sv q.word] 48)) #[] 0 (by simp; omega) (by unfold maxLen; omega) rfl
    have h2 := (this.alloc (.cells #[] 3)).alloc (.stringIter ⟨q.word.toArray⟩ 0)
    simp only [World.iter]
    show World.ownsRow _ _ _ _ _ _ []
    simpa using h2
  have own2 : W.ownsRow w.heap.size 3 1 (.slice (some ⟨w.heap.size + 1 + 1 + 1, 0, none⟩) 0 0) 0 ((NT 0).map iv) := by
    have h0 : NT 0 = [] := List.eq_nil_of_length_eq_zero (by have := hNl'.out 0; omega)
    rw [h0, hW]
    have := World.ownsRow_lit (base := w.heap.size) (size := 1) (e := 3) (((w.alloc (.cells #[.int .i64 b.size, sv b.prem, sv b.cells] 33)).alloc (.cells #[.int .i64 q.row, .int .i64 q.col, .bool q.down, sv q.word] 48)).alloc (.cells #[] 87)) #[] 0 (by simp; omega) (by unfold maxLen; omega) rfl
    have h2 := this.alloc (.stringIter ⟨q.word.toArray⟩ 0)
    simp only [World.iter]
    show World.ownsRow _ _ _ _ _ _ []
    simpa using h2
  have hit : W.heap[w.heap.size + 1 + 1 + 1 + 1]? = some (.stringIter ⟨q.word.toArray⟩ 0) := by
    rw [hW]
    have := World.iter_heap ((((w.alloc (.cells #[.int .i64 b.size, sv b.prem, sv b.cells] 33)).alloc (.cells #[.int .i64 q.row, .int .i64 q.col, .bool q.down, sv q.word] 48)).alloc (.cells #[] 87)).alloc (.cells #[] 3)) ⟨q.word.toArray⟩ 0
    simpa using this
  have h0l : Hid ((NT 0).length = 0) := Lib.hid (by have := hNl'.out 0; omega)
  go_enter Tryz.func65, Tryz.ntmps65
  go_wp2_with (fail)
  rw [← hW]
  clear hW hz0
  go_loopw [6, 7] (fun o1 o2 wr => ∃ k : Nat, k ≤ q.word.length ∧ wr.heap[w.heap.size + 1 + 1 + 1 + 1]? = some (.stringIter ⟨q.word.toArray⟩ k) ∧ wr.ownsRow w.heap.size 87 2 o1 (NT k).length (sqC (sqL q (NT k))) ∧ wr.ownsRow w.heap.size 3 1 o2 (NT k).length ((NT k).map iv) ∧ Blk wr w.heap.size 33 #[.int .i64 b.size, sv b.prem, sv b.cells] ∧ Blk wr (w.heap.size + 1) 48 #[.int .i64 q.row, .int .i64 q.col, .bool q.down, sv q.word] ∧ Below w.heap.size w wr) (fun _ _ wr => q.word.length - wr.iterPos (w.heap.size + 1 + 1 + 1 + 1))
  case atStart => exact ⟨0, by omega, hit, own_cast own1 rfl h0l.out.symm, own_cast own2 rfl h0l.out.symm, hB0, hB1, hbW⟩
  case round =>
    clear hit own1 own2 hB0 hB1 hbW h0l
    obtain ⟨k, hk, hit, own1, own2, hB0, hB1, hb⟩ := hrel
    by_cases hlt : k < q.word.length
    · have hnx : ∀ ty, (Instr.next (.pointer (some ⟨w.heap.size + 1 + 1 + 1 + 1, 0, none⟩)) true ty).run Tryz.prog wr = .ok (.tuple #[.bool true, .int .i64 k, .int .i32 (q.word[k]).toNat]) (wr.iterAt (w.heap.size + 1 + 1 + 1 + 1) ⟨q.word.toArray⟩ (k + 1)) := fun ty =>
        Lib.run_next_ascii_at wr _ ⟨q.word.toArray⟩ k ty hit (by simpa [ByteArray.size] using hlt) (hasc'.out k hlt)
      obtain ⟨W1, hW1⟩ : ∃ W1, W1 = wr.iterAt (w.heap.size + 1 + 1 + 1 + 1) ⟨q.word.toArray⟩ (k + 1) := ⟨_, rfl⟩
      have own1' := own_iterAt (pos' := k + 1) own1 hit
      rw [← hW1] at own1'
      have own2' := own_iterAt (pos' := k + 1) own2 hit
      rw [← hW1] at own2'
      have hB0' : Blk W1 w.heap.size 33 #[.int .i64 b.size, sv b.prem, sv b.cells] := by rw [hW1]; exact hB0.iterAt hit
      have hB1' : Blk W1 (w.heap.size + 1) 48 #[.int .i64 q.row, .int .i64 q.col, .bool q.down, sv q.word] := by rw [hW1]; exact hB1.iterAt hit
      have hit' : W1.heap[w.heap.size + 1 + 1 + 1 + 1]? = some (.stringIter ⟨q.word.toArray⟩ (k + 1)) := by rw [hW1]; exact Lib.iterAt_heap wr _ _ k _ hit
      have hb' : Below w.heap.size w W1 := by rw [hW1]; exact Lib.below_iterAt hb (by omega) _ _
      rw [← hW1] at hnx
      clear hW1 own1 own2 hB0 hB1 hb
      have hNk := hNl'.out k
      have ks := ksq'.out k hlt
      have ko := fun w => kon k w
      have hstep := Lib.hid (hst'.out k)
      have hsq := Lib.hid (hpl.out k)
      obtain ⟨sr, hsr⟩ : ∃ sr, sr = q.sr k := ⟨_, rfl⟩
      obtain ⟨sc, hsc⟩ : ∃ sc, sc = q.sc k := ⟨_, rfl⟩
      rw [← hsr, ← hsc] at ks ko hstep hsq
      clear hsr hsc
      obtain ⟨N, hN⟩ : ∃ N, N = NT k := ⟨_, rfl⟩
      rw [← hN] at own1' own2' hNk hstep hsq
      clear hN
      have hNl2 : N.length + 1 ≤ 1099511627776 := by omega
      obtain ⟨lt, hlt2⟩ : ∃ lt, lt = b.let_ sr sc := ⟨_, rfl⟩
      rw [← hlt2] at ko hstep hsq
      clear hlt2
      have d0 : W1.cell? ⟨w.heap.size + 1, 0, none⟩ = some (.int .i64 q.row) := hB1'.cell 0
      have d1 : W1.cell? ⟨w.heap.size + 1, 1, none⟩ = some (.int .i64 q.col) := hB1'.cell 1
      have d2 : W1.cell? ⟨w.heap.size + 1, 2, none⟩ = some (.bool q.down) := hB1'.cell 2
      have d3 : W1.cell? ⟨w.heap.size + 1, 3, none⟩ = some (sv q.word) := hB1'.cell 3
      cases lt
      · have hlit := run_lit1 sqT (.agg #[.int .i64 sr, .int .i64 sc]) #[.int .i64 sr, .int .i64 sc] rfl rfl (by omega)
        go_wp2_with (first
          | (go_at_call 61; refine (ks _).mono ?_; rintro e w2 ⟨rfl, hb2⟩
             have hB02 := hB0'.below hb2 hB0'.lt
             have c0 : w2.cell? ⟨w.heap.size, 0, none⟩ = some (.int .i64 b.size) := hB02.cell 0
             have c1 : w2.cell? ⟨w.heap.size, 1, none⟩ = some (sv b.prem) := hB02.cell 1
             have c2 : w2.cell? ⟨w.heap.size, 2, none⟩ = some (sv b.cells) := hB02.cell 2
             have hlt0 := hB02.lt
             have hne0 : w.heap.size ≠ w2.heap.size := by omega)
          | (go_at_call 110; refine (ko _).mono ?_; rintro e w3 ⟨rfl, hb3⟩
             have hb23 := (hb2.alloc hb2.size (.cells #[.int .i64 sr, .int .i64 sc] 87)).trans (hb3.mono (by have := hb2.size; simp; omega))
             have hC := (Blk.new w2 87 #[.int .i64 sr, .int .i64 sc]).below hb3 (by simp)
             have e0 : w3.cell? ⟨w2.heap.size, 0, none⟩ = some (.int .i64 sr) := hC.cell 0
             have e1 : w3.cell? ⟨w2.heap.size, 1, none⟩ = some (.int .i64 sc) := hC.cell 1
             have own13 := own_call own1' hb23
             have own23 := own_call own2' hb23
             have hB03 := hB0'.below hb23 hB0'.lt
             have hB13 := hB1'.below hb23 hB1'.lt
             have hit3 := iter_below hit' hb23
             have hbb := hb'.trans (hb23.mono hb'.size)
             have hbz := hbb.size)
          | (at_builtin; refine wpList_app sqT rfl (.tmp 25) (.tmp 27) rfl _ N.length _ rfl w.heap.size own13 [.int .i64 sr, .int .i64 sc] rfl (by simp [Value.oneCell']) rfl hNl2 (by omega) hbz ?_; intro v4 w4 own4 hg4 hat4
             have own24 := own_grown own23 own13 (by decide) hg4
             have hbz4 := Nat.le_trans hbz hg4.size)
          | (at_builtin; refine wpList_app intT rfl (.tmp 29) (.tmp 31) rfl _ N.length _ rfl w.heap.size own24 [iv k] rfl (by simp [Value.oneCell', iv]) rfl hNl2 (by omega) hbz4 ?_; intro v5 w5 own5 hg5 hat5))
        have hit5 := iter_grown (iter_grown hit3 own13 hg4) own24 hg5
        go_roundw
        case rel => exact ⟨k + 1, by omega, hit5, own_cast (own_grown own4 own24 (by decide) hg5) (by rw [hsq.out]; simp [sqC_append, sqC_one]) (by rw [hstep.out]; simp), own_cast own5 (by rw [hstep.out]; simp) (by rw [hstep.out]; simp), (hB03.grown hg4 (fun h => own_blk_ne own13 hB03 (by decide) h.symm)).grown hg5 (fun h => own_blk_ne own24 (hB03.grown hg4 (fun h => own_blk_ne own13 hB03 (by decide) h.symm)) (by decide) h.symm), (hB13.grown hg4 (fun h => own_blk_ne own13 hB13 (by decide) h.symm)).grown hg5 (fun h => own_blk_ne own24 (hB13.grown hg4 (fun h => own_blk_ne own13 hB13 (by decide) h.symm)) (by decide) h.symm), Below.own (Below.own hbb hbz own13 (Nat.le_refl _) hg4) hbz4 own24 (Nat.le_refl _) hg5⟩
        case measure => simp only [World.iterPos, hit5, hit]; omega
      · go_wp2_with (first
          | (go_at_call 61; refine (ks _).mono ?_; rintro e w2 ⟨rfl, hb2⟩
             have hB02 := hB0'.below hb2 hB0'.lt
             have c0 : w2.cell? ⟨w.heap.size, 0, none⟩ = some (.int .i64 b.size) := hB02.cell 0
             have c1 : w2.cell? ⟨w.heap.size, 1, none⟩ = some (sv b.prem) := hB02.cell 1
             have c2 : w2.cell? ⟨w.heap.size, 2, none⟩ = some (sv b.cells) := hB02.cell 2
             have hlt0 := hB02.lt
             have hne0 : w.heap.size ≠ w2.heap.size := by omega)
          | (go_at_call 110; refine (ko _).mono ?_; rintro e w3 ⟨rfl, hb3⟩
             have hb23 := (hb2.alloc hb2.size (.cells #[.int .i64 sr, .int .i64 sc] 87)).trans (hb3.mono (by have := hb2.size; simp; omega))
             have hC := (Blk.new w2 87 #[.int .i64 sr, .int .i64 sc]).below hb3 (by simp)
             have e0 : w3.cell? ⟨w2.heap.size, 0, none⟩ = some (.int .i64 sr) := hC.cell 0
             have e1 : w3.cell? ⟨w2.heap.size, 1, none⟩ = some (.int .i64 sc) := hC.cell 1
             have own13 := own_call own1' hb23
             have own23 := own_call own2' hb23
             have hB03 := hB0'.below hb23 hB0'.lt
             have hB13 := hB1'.below hb23 hB1'.lt
             have hit3 := iter_below hit' hb23
             have hbb := hb'.trans (hb23.mono hb'.size)
             have hbz := hbb.size))
        go_roundw
        case rel => exact ⟨k + 1, by omega, hit3, own_cast own13 (by rw [hsq.out]; simp) (by rw [hstep.out]; simp), own_cast own23 (by rw [hstep.out]; simp) (by rw [hstep.out]; simp), hB03, hB13, hbb⟩
        case measure => simp only [World.iterPos, hit3, hit]; omega
    · obtain rfl : k = q.word.length := by omega
      have hnx : ∀ ty, (Instr.next (.pointer (some ⟨w.heap.size + 1 + 1 + 1 + 1, 0, none⟩)) true ty).run Tryz.prog wr = .ok (.tuple #[.bool false]) wr := fun ty =>
        Lib.run_next_end_at wr _ ⟨q.word.toArray⟩ _ ty hit (by simp [ByteArray.size])
      rw [← hend.out] at own1 own2
      go_wp2_with (fail)
      go_ret2
      exact ⟨_, _, rfl, own1, own2, hb⟩
end Go.Proofs.YtamdcbbclkobiaaGreatDoor
