/-
  Contracts: boards of the spec package (layer 11); Contracts: transposed boards and plays (layers 11 and 12 of the spec package); Contracts: plays (layer 12 of the spec package); Contracts: which plays are valid (layer 12 of the spec package).
  Conditions: as each part below says.
-/
import Derived.Test.YtamdcbbclkobiaaGreatDoorM04
import Derived.Test.YtamdcbbclkobiaaGreatDoorM02
import Derived.Lib.SlicesCompact
import Derived.Deep.DeepCutAuto
import Derived.Test.YtamdcbbclkobiaaGreatDoorM03
/-
  Contracts: boards of the spec package (layer 11).
  Conditions: a board lies at an address; the squares that are read are on the board.
-/
namespace Go.Proofs.YtamdcbbclkobiaaGreatDoor
open Go.RowKit RegP RegL
set_option maxHeartbeats 400000

structure Bd where
  size : Int
  prem : Str
  cells : Str
def Bd.v (b : Bd) : Value := .agg #[.int .i64 b.size, sv b.prem, sv b.cells]
structure Pl where
  row : Int
  col : Int
  down : Bool
  word : Str
def Pl.v (p : Pl) : Value := .agg #[.int .i64 p.row, .int .i64 p.col, .bool p.down, sv p.word]
/-- A board lies at an address; a play does. -/
def BAt (w : World) (p : Addr) (b : Bd) : Prop := w.cell? p = some (.int .i64 b.size) ∧ w.cell? { block := p.block, off := p.off + 1 } = some (sv b.prem) ∧ w.cell? { block := p.block, off := p.off + 2 } = some (sv b.cells)
theorem BAt.lt {w : World} {p : Addr} {b : Bd} (h : BAt w p b) : p.block < w.heap.size := World.block_lt_of_cell? w p h.1
theorem BAt.below {w w' : World} {p : Addr} {b : Bd} {B : Nat} (h : BAt w p b) (hb : Below B w w') (hp : p.block < B) : BAt w' p b :=
  ⟨(hb.cell hp).trans h.1, (hb.cell (p := { block := p.block, off := p.off + 1 }) hp).trans h.2.1, (hb.cell (p := { block := p.block, off := p.off + 2 }) hp).trans h.2.2⟩
theorem BAt.dr {w w' : World} {p : Addr} {b : Bd} (h : BAt w p b) (hb : Dr w w') : BAt w' p b := h.below hb.below h.lt
def cellB (c : UInt8) : Bool := (c == 46) || smallB c || capB c
def premB (c : UInt8) : Bool := (c == 46) || (c == 50) || (c == 51) || (c == 100) || (c == 116)

theorem l11Cell_any (c : UInt8) (w : World) :
    Calls Tryz.prog 46 #[bv c] w fun e w' => e = .returned (.bool (cellB c)) ∧ w = w' := by
  unfold cellB
  have hq : ((c.toNat : Int) == 46) = (c == 46) := u8_eq c 46
  cases h : (c == 46) <;> rw [h] at hq <;> cases h1 : smallB c
  all_goals
    go_enter Tryz.func46, Tryz.ntmps46
    go_wp2_with (first
      | (go_at_call 92; refine (l01Small_any _ _).mono ?_; rw [h1]; rintro e w' ⟨rfl, rfl⟩)
      | (go_at_call 29; refine (l03Capital_any _ _).mono ?_; rintro e w' ⟨rfl, rfl⟩))
    go_ret
    exact ⟨by simp, rfl⟩
theorem l11Premium_any (c : UInt8) (w : World) :
    Calls Tryz.prog 47 #[bv c] w fun e w' => e = .returned (.bool (premB c)) ∧ w = w' := by
  unfold premB
  have q0 : ((c.toNat : Int) == 46) = (c == 46) := u8_eq c 46
  have q1 : ((c.toNat : Int) == 50) = (c == 50) := u8_eq c 50
  have q2 : ((c.toNat : Int) == 51) = (c == 51) := u8_eq c 51
  have q3 : ((c.toNat : Int) == 100) = (c == 100) := u8_eq c 100
  have q4 : ((c.toNat : Int) == 116) = (c == 116) := u8_eq c 116
  generalize (c == 46) = b0 at *
  generalize (c == 50) = b1 at *
  generalize (c == 51) = b2 at *
  generalize (c == 100) = b3 at *
  generalize (c == 116) = b4 at *
  cases b0
  · cases b1
    · cases b2
      · cases b3
        all_goals
          go_enter Tryz.func47, Tryz.ntmps47
          go_wp2_with (fail)
          go_ret
          exact ⟨by simp, rfl⟩
      · go_enter Tryz.func47, Tryz.ntmps47
        go_wp2_with (fail)
        go_ret
        exact ⟨by simp, rfl⟩
    · go_enter Tryz.func47, Tryz.ntmps47
      go_wp2_with (fail)
      go_ret
      exact ⟨by simp, rfl⟩
  · go_enter Tryz.func47, Tryz.ntmps47
    go_wp2_with (fail)
    go_ret
    exact ⟨by simp, rfl⟩
def sizeB (n : Int) : Bool := inR n 5 15
theorem l11Size_any (n : Int) (w : World) :
    Calls Tryz.prog 45 #[.int .i64 n] w fun e w' => e = .returned (.bool (sizeB n)) ∧ w = w' := by
  go_enter Tryz.func45, Tryz.ntmps45
  go_wp2_with (go_at_call 91; refine (l00In_any _ _ _ _).mono ?_; rintro e w' ⟨rfl, rfl⟩)
  go_ret
  exact ⟨rfl, rfl⟩
theorem l11In_any (p : Addr) (b : Bd) (r c : Int) (w : World) (hp : BAt w p b) (hs : sizeB b.size = true) :
    Calls Tryz.prog 144 #[.pointer (some p), .int .i64 r, .int .i64 c] w fun e w' => e = .returned (.bool (inR r 0 (b.size - 1) && inR c 0 (b.size - 1))) ∧ w = w' := by
  have hb := hs
  have h0 := hp.1
  simp only [sizeB, inR, Bool.and_eq_true, decide_eq_true_eq] at hb
  obtain ⟨hb1, hb2⟩ := hb
  cases hr : inR r 0 (b.size - 1)
  all_goals
    go_enter Tryz.func144, Tryz.ntmps144
    go_wp2_with (go_at_call 91; refine (l00In_any _ _ _ _).mono ?_; (try rw [hr]); rintro e w' ⟨rfl, rfl⟩)
    go_ret
    exact ⟨by simp, rfl⟩
def Bd.inB (b : Bd) (r c : Int) : Bool := inR r 0 (b.size - 1) && inR c 0 (b.size - 1)
def Bd.at_ (b : Bd) (r c : Int) : UInt8 := b.cells.getD (r * b.size + c).toNat 0
def Bd.full (b : Bd) (r c : Int) : Bool := b.inB r c && !(b.at_ r c == 46)
/-- what a valid board meets -/
structure Bd.Fit (b : Bd) : Prop where
  lo : 5 ≤ b.size
  hi : b.size ≤ 15
  prem : (b.prem.length : Int) = b.size * b.size
  cells : (b.cells.length : Int) = b.size * b.size
theorem inB_iff {b : Bd} {r c : Int} : b.inB r c = true ↔ (0 ≤ r ∧ r ≤ b.size - 1) ∧ (0 ≤ c ∧ c ≤ b.size - 1) := by
  simp [Bd.inB, inR]
theorem mul_bounds {n r c : Int} (h5 : 5 ≤ n) (h15 : n ≤ 15) (r0 : 0 ≤ r) (r1 : r ≤ n - 1) (c0 : 0 ≤ c) (c1 : c ≤ n - 1) :
    0 ≤ r * n ∧ r * n ≤ 210 ∧ 0 ≤ r * n + c ∧ r * n + c < n * n ∧ n * n ≤ 225 := by
  have h1 : r * n ≤ (n - 1) * n := Int.mul_le_mul_of_nonneg_right r1 (by omega)
  have h2 : 0 ≤ r * n := Int.mul_nonneg r0 (by omega)
  have h3 : (n - 1) * n = n * n - n := by rw [Int.sub_mul, Int.one_mul]
  have h4 : n * n ≤ 15 * n := Int.mul_le_mul_of_nonneg_right h15 (by omega)
  omega
theorem l11At_any (p : Addr) (b : Bd) (r c : Int) (w : World) (hp : BAt w p b) (hf : b.Fit) (hi : b.inB r c = true) :
    Calls Tryz.prog 146 #[.pointer (some p), .int .i64 r, .int .i64 c] w fun e w' => e = .returned (bv (b.at_ r c)) ∧ Dr w w' := by
  have h0 := hp.1
  have h2 := hp.2.2
  obtain ⟨⟨r0, r1⟩, c0, c1⟩ := inB_iff.1 hi
  obtain ⟨m0, m1, m2, m3, m4⟩ := mul_bounds hf.lo hf.hi r0 r1 c0 c1
  have h5 := hf.lo
  have h15 := hf.hi
  have hlen := hf.cells
  have m5 : r * b.size + c < (b.cells.length : Int) := by omega
  have m6 : IntKind.i64.wrap (r * b.size) = r * b.size := IntWalk.i64_in _ (by omega)
  obtain ⟨k, hk⟩ : ∃ k : Nat, r * b.size + c = (k : Int) := ⟨(r * b.size + c).toNat, by omega⟩
  have hat : b.at_ r c = b.cells.getD k 0 := by rw [Bd.at_, hk]; rfl
  have m7 : IntKind.i64.wrap (r * b.size + c) = (k : Int) := by rw [hk]; exact IntWalk.i64_in _ (by omega)
  have hkl : k < b.cells.length := by omega
  have m8 : (k : Int) < (b.cells.length : Int) := by omega
  have m9 : (0 : Int) ≤ k := by omega
  rw [hat, show b.cells.getD k 0 = b.cells[k] by simp [List.getD, List.getElem?_eq_getElem hkl]]
  clear hat hk m5 hlen m3
  go_enter Tryz.func146, Tryz.ntmps146
  go_wp2_with (fail)
  go_quiet (fail)
  go_wp2
  go_ret
  exact ⟨rfl, ⟨_, rfl⟩⟩
theorem l11Full_any (p : Addr) (b : Bd) (r c : Int) (w : World) (hp : BAt w p b) (hf : b.Fit) (hs : sizeB b.size = true) :
    Calls Tryz.prog 145 #[.pointer (some p), .int .i64 r, .int .i64 c] w fun e w' => e = .returned (.bool (b.full r c)) ∧ Dr w w' := by
  have hfull : b.full r c = (b.inB r c && !(b.at_ r c == 46)) := rfl
  cases hi : b.inB r c
  · go_enter Tryz.func145, Tryz.ntmps145
    go_wp2_with (go_at_call 144; refine (l11In_any p b _ _ _ hp hs).mono ?_; rw [show (inR r 0 (b.size - 1) && inR c 0 (b.size - 1)) = false from hi]; rintro e w' ⟨rfl, rfl⟩)
    go_ret
    exact ⟨ret_bool (by rw [hfull, hi]; rfl), Dr.refl _⟩
  · have hq : (((b.at_ r c).toNat : Int) == 46) = (b.at_ r c == 46) := u8_eq (b.at_ r c) 46
    go_enter Tryz.func145, Tryz.ntmps145
    go_wp2_with (first
      | (go_at_call 144; refine (l11In_any p b _ _ _ hp hs).mono ?_; rw [show (inR r 0 (b.size - 1) && inR c 0 (b.size - 1)) = true from hi]; rintro e w' ⟨rfl, rfl⟩)
      | (go_at_call 146; refine (l11At_any p b _ _ _ hp hf hi).mono ?_; rintro e w' ⟨rfl, hd⟩))
    go_ret
    exact ⟨ret_bool (by rw [hfull, hi, bne, hq]; rfl), hd⟩
def okFrom : Str → Str → Bool
  | [], _ => true
  | _, [] => true
  | c :: r, p :: q => cellB c && premB p && okFrom r q
def bdB (b : Bd) : Bool := sizeB b.size && (decide ((b.prem.length : Int) = b.size * b.size) && (decide ((b.cells.length : Int) = b.size * b.size) && okFrom b.cells b.prem))
theorem okFrom_eq : ∀ (c p : Str), c.length = p.length → okFrom c p = (p.all premB && c.all cellB)
  | [], [], _ => rfl
  | [], _ :: _, h => by simp at h
  | _ :: _, [], h => by simp at h
  | c :: r, p :: q, h => by
    rw [okFrom, okFrom_eq r q (by simpa using h), List.all_cons, List.all_cons]
    cases cellB c <;> cases premB p <;> cases List.all q premB <;> rfl
theorem bdB.fit {b : Bd} (h : bdB b = true) : b.Fit := by
  simp only [bdB, sizeB, inR, Bool.and_eq_true, decide_eq_true_eq] at h
  exact ⟨h.1.1, h.1.2, h.2.1, h.2.2.1⟩
theorem okFrom_step (c p : Str) (k : Nat) (h1 : k < c.length) (h2 : k < p.length) : okFrom (c.drop k) (p.drop k) = (cellB c[k] && premB p[k] && okFrom (c.drop (k + 1)) (p.drop (k + 1))) := by
  rw [drop_cons c k h1, drop_cons p k h2]; rfl
theorem l11Ok_any (p : Addr) (b : Bd) (w : World) (hp : BAt w p b) (h1 : b.prem.length ≤ 2 ^ 40) (h2 : b.cells.length ≤ 2 ^ 40) :
    Calls Tryz.prog 26 #[.pointer (some p)] w fun e w' => e = .returned (.bool (bdB b)) ∧ Dr w w' := by
  have hp0 := hp.1
  have hp1 := hp.2.1
  have hp2 := hp.2.2
  cases hs : sizeB b.size
  · go_enter Tryz.func26, Tryz.ntmps26
    go_wp2_with (fail)
    go_quiet ((go_at_call 45; exact quiet_eq (hs ▸ l11Size_any _ _)))
    go_wp2
    go_ret
    exact ⟨ret_bool (by rw [bdB, hs]; rfl), ⟨_, rfl⟩⟩
  · have hb := hs
    simp only [sizeB, inR, Bool.and_eq_true, decide_eq_true_eq] at hb
    obtain ⟨hb1, hb2⟩ := hb
    obtain ⟨m0, m1, _, _, m4⟩ := mul_bounds (r := b.size - 1) (c := 0) hb1 hb2 (by omega) (by omega) (by omega) (by omega)
    have m5 : 0 ≤ b.size * b.size := Int.mul_nonneg (by omega) (by omega)
    have m6 : IntKind.i64.wrap (b.size * b.size) = b.size * b.size := IntWalk.i64_in _ (by omega)
    clear m0 m1
    obtain ⟨q, hq⟩ : ∃ q, q = decide ((b.prem.length : Int) = b.size * b.size) := ⟨_, rfl⟩
    have hqd : ((b.prem.length : Int) != b.size * b.size) = !q := by rw [hq]; rfl
    obtain ⟨q2, hq2⟩ : ∃ q, q = decide ((b.cells.length : Int) = b.size * b.size) := ⟨_, rfl⟩
    have hqd2 : ((b.cells.length : Int) != b.size * b.size) = !q2 := by rw [hq2]; rfl
    have Hq := Lib.hid hq
    have Hq2 := Lib.hid hq2
    clear hq hq2
    cases q
    · go_enter Tryz.func26, Tryz.ntmps26
      go_wp2_with (fail)
      go_quiet ((go_at_call 45; exact quiet_eq (hs ▸ l11Size_any _ _)))
      go_wp2
      go_ret
      exact ⟨ret_bool (by rw [bdB, hs, ← Hq.out]; rfl), ⟨_, rfl⟩⟩
    · cases q2
      · go_enter Tryz.func26, Tryz.ntmps26
        go_wp2_with (fail)
        go_quiet ((go_at_call 45; exact quiet_eq (hs ▸ l11Size_any _ _)))
        go_wp2
        go_ret
        exact ⟨ret_bool (by rw [bdB, hs, ← Hq.out, ← Hq2.out]; rfl), ⟨_, rfl⟩⟩
      · go_enter Tryz.func26, Tryz.ntmps26
        go_wp2_with (fail)
        go_quiet ((go_at_call 45; exact quiet_eq (hs ▸ l11Size_any _ _)))
        have hlen : b.cells.length = b.prem.length := by
          have e1 : (b.prem.length : Int) = b.size * b.size := of_decide_eq_true Hq.out.symm
          have e2 : (b.cells.length : Int) = b.size * b.size := of_decide_eq_true Hq2.out.symm
          omega
        have Hlen := Lib.hid hlen
        clear hlen m4 m5 m6 hqd hqd2
        go_wp2_with (fail)
        go_loopw [3] (fun i wr => ∃ k : Nat, k ≤ b.cells.length ∧ i = .int .i64 k ∧ Hid (okFrom b.cells b.prem = okFrom (b.cells.drop k) (b.prem.drop k)) ∧ Dr w wr) (fun i _ => b.cells.length - (intOf i).toNat)
        case atStart => exact ⟨0, by omega, rfl, rfl, ⟨_, rfl⟩⟩
        case round =>
          obtain ⟨k, hk, rfl, he, hd⟩ := hrel
          obtain ⟨hp0, hp1, hp2⟩ := hp.dr hd
          by_cases hlt : k < b.cells.length
          · have hlt2 : k < b.prem.length := by rw [← Hlen.out]; exact hlt
            have hst := Lib.hid (okFrom_step b.cells b.prem k hlt hlt2)
            have j0 : (k : Int) < (b.cells.length : Int) := by omega
            have j1 : (k : Int) < (b.prem.length : Int) := by omega
            have j2 : (0 : Int) ≤ k := by omega
            obtain ⟨c, hc⟩ : ∃ c, c = b.cells[k] := ⟨_, rfl⟩
            cases hx : cellB b.cells[k]
            · go_wp2_with (go_at_call 46; refine (l11Cell_any _ _).mono ?_; rw [hx]; rintro e w' ⟨rfl, rfl⟩)
              go_ret
              exact ⟨ret_bool (by rw [bdB, hs, ← Hq.out, ← Hq2.out, he.out, hst.out, hx]; rfl), hd⟩
            · cases hy : premB b.prem[k]
              all_goals
                go_wp2_with (first
                  | (go_at_call 46; refine (l11Cell_any _ _).mono ?_; rw [hx]; rintro e w' ⟨rfl, rfl⟩)
                  | (go_at_call 47; refine (l11Premium_any _ _).mono ?_; rw [hy]; rintro e w' ⟨rfl, rfl⟩))
              · go_ret
                exact ⟨ret_bool (by rw [bdB, hs, ← Hq.out, ← Hq2.out, he.out, hst.out, hx, hy]; rfl), hd⟩
              · go_roundw
                case rel => exact ⟨k + 1, by omega, by go_num, Lib.hid (by rw [he.out, hst.out, hx, hy]; rfl), hd⟩
                case measure => simp [intOf]; omega
          · obtain rfl : k = b.cells.length := by omega
            go_wp2_with (fail)
            go_ret
            exact ⟨ret_bool (by rw [bdB, hs, ← Hq.out, ← Hq2.out, he.out, List.drop_length]; rfl), hd⟩
end Go.Proofs.YtamdcbbclkobiaaGreatDoor
/-
  Contracts: transposed boards and plays (layers 11 and 12 of the spec package).
  Conditions: a board that is valid lies at an address.
-/
namespace Go.Proofs.YtamdcbbclkobiaaGreatDoor
open Go.RowKit RegP RegL
set_option maxHeartbeats 400000

def turnTo (n : Nat) (s : Str) (m : Nat) : Str := (List.range m).map fun i => s.getD ((i % n) * n + i / n) 0
def turnS (n : Nat) (s : Str) : Str := turnTo n s (n * n)
theorem turnTo_length (n : Nat) (s : Str) (m : Nat) : (turnTo n s m).length = m := by simp [turnTo]
theorem turnTo_step (n : Nat) (s : Str) (c r : Nat) (h : r < n) (hl : r * n + c < s.length) : turnTo n s (c * n + r + 1) = turnTo n s (c * n + r) ++ [s[r * n + c]] := by
  have e1 : (c * n + r) % n = r := by rw [Nat.mul_comm, Nat.mul_add_mod, Nat.mod_eq_of_lt h]
  have e2 : (c * n + r) / n = c := by rw [Nat.mul_comm, Nat.mul_add_div (by omega), Nat.div_eq_of_lt h, Nat.add_zero]
  rw [turnTo, List.range_succ, List.map_append, ← turnTo, List.map_cons, List.map_nil, e1, e2]
  congr 2
  simp [List.getD, List.getElem?_eq_getElem hl]

theorem l11Turn_any (n : Nat) (s : Str) (w : World) (h5 : 5 ≤ n) (h15 : n ≤ 15) (hs : s.length = n * n) :
    Calls Tryz.prog 94 #[.int .i64 n, sv s] w fun e w' => e = .returned (sv (turnS n s)) ∧ Below w.heap.size w w' := by
  have Hs := Lib.hid hs
  clear hs
  go_enter Tryz.func94, Tryz.ntmps94
  go_wp2_with (fail)
  go_loopw [5, 6] (fun o i wr => ∃ c : Nat, c ≤ n ∧ i = .int .i64 c ∧ wr.ownsRow w.heap.size 5 1 o (c * n) ((turnTo n s (c * n)).map bv) ∧ Below w.heap.size w wr) (fun _ i _ => n - (intOf i).toNat)
  case atStart => exact ⟨0, by omega, rfl, own_cast (World.ownsRow_lit w #[] 0 (Nat.le_refl _) (by unfold maxLen; omega) rfl) (by simp [turnTo]) (by simp), (Below.refl _ _).alloc (Nat.le_refl _) _⟩
  case round =>
    obtain ⟨c, hc, rfl, hown, hw⟩ := hrel
    by_cases hcl : c < n
    · have hc1 : (c : Int) < (n : Int) := by omega
      go_wp2_with (fail)
      go_loopw [5, 7] (fun o i wr => ∃ r : Nat, r ≤ n ∧ i = .int .i64 r ∧ wr.ownsRow w.heap.size 5 1 o (c * n + r) ((turnTo n s (c * n + r)).map bv) ∧ Below w.heap.size w wr) (fun _ i _ => n - (intOf i).toNat)
      case atStart => exact ⟨0, by omega, rfl, hown, hw⟩
      case round =>
        obtain ⟨r, hr, rfl, hown, hw⟩ := hrel
        by_cases hrl : r < n
        · have hr1 : (r : Int) < (n : Int) := by omega
          obtain ⟨m0, m1, m2, m3, m4⟩ := mul_bounds (n := (n : Int)) (r := (r : Int)) (c := (c : Int)) (by omega) (by omega) (by omega) (by omega) (by omega) (by omega)
          obtain ⟨k, hk⟩ : ∃ k : Nat, k = r * n + c := ⟨_, rfl⟩
          have hkl : k < s.length := by rw [Hs.out]; rw [hk]; have : ((r * n + c : Nat) : Int) < ((n * n : Nat) : Int) := by push_cast; exact m3
                                        omega
          have hst : Hid (turnTo n s (c * n + r + 1) = turnTo n s (c * n + r) ++ [s[k]]) := Lib.hid (by subst hk; exact turnTo_step n s c r hrl hkl)
          have m6 : IntKind.i64.wrap ((r : Int) * (n : Int)) = ((r : Int) * (n : Int)) := IntWalk.i64_in _ (by omega)
          have m7 : IntKind.i64.wrap ((r : Int) * (n : Int) + c) = (k : Int) := by rw [hk]; push_cast; exact IntWalk.i64_in _ (by omega)
          have m8 : (k : Int) < (s.length : Int) := by omega
          have m9 : (0 : Int) ≤ k := by omega
          have hcn : c * n ≤ 225 := by have := Nat.mul_le_mul (show c ≤ 15 by omega) h15; omega
          clear m0 m1 m2 m3 m4 hk
          go_wp2_with (at_builtin; refine wpList_app byteT rfl (.tmp 19) (.tmp 27) rfl _ _ _ rfl w.heap.size hown [bv s[k]] rfl (by simp [Value.oneCell']) rfl (by omega) (by omega) hw.size ?_; intro v1 w1 hown1 hg1 _)
          go_roundw
          case rel => exact ⟨r + 1, by omega, by go_num, own_cast hown1 (by rw [← Nat.add_assoc, hst.out, List.map_append]; rfl) rfl, Below.own hw hw.size hown (Nat.le_refl _) hg1⟩
          case measure => simp [intOf]; omega
        · obtain rfl : r = n := by omega
          go_wp2_with (fail)
          go_roundw
          case rel => exact ⟨c + 1, by omega, by go_num, own_cast hown (by rw [Nat.add_mul, Nat.one_mul]) (by rw [Nat.add_mul, Nat.one_mul]), hw⟩
          case measure => simp [intOf]; omega
    · obtain rfl : c = n := by omega
      have hcv := run_string_own (P := Tryz.prog) wr 57 9 5 Tryz.underlying57 Tryz.underlying5 Tryz.underlying9 (l := turnS c s) (own_cast hown rfl (by rw [turnS, turnTo_length]))
      go_wp2
      go_ret
      exact ⟨rfl, hw⟩
def Bd.tr (b : Bd) : Bd := ⟨b.size, turnS b.size.toNat b.prem, turnS b.size.toNat b.cells⟩
theorem l11Transpose_any (p : Addr) (b : Bd) (w : World) (hp : BAt w p b) (hf : b.Fit) :
    Calls Tryz.prog 49 #[.pointer (some p)] w fun e w' => e = .returned b.tr.v ∧ Below w.heap.size w w' := by
  obtain ⟨n, hn⟩ : ∃ n : Nat, b.size = (n : Int) := ⟨b.size.toNat, by have := hf.lo; omega⟩
  have n5 : 5 ≤ n := by have := hf.lo; omega
  have n15 : n ≤ 15 := by have := hf.hi; omega
  have hlp : Hid (b.prem.length = n * n) := by have := hf.prem; rw [hn] at this; exact Lib.hid (by exact_mod_cast this)
  have hlc : Hid (b.cells.length = n * n) := by have := hf.cells; rw [hn] at this; exact Lib.hid (by exact_mod_cast this)
  have hp' := hp
  obtain ⟨hp0, hp1, hp2⟩ := hp
  rw [hn] at hp0
  have hlt := hp'.lt
  have htr : Hid (b.tr.v = .agg #[.int .i64 n, sv (turnS n b.prem), sv (turnS n b.cells)]) := Lib.hid (by rw [Bd.v, Bd.tr, hn]; rfl)
  clear hn
  go_enter Tryz.func49, Tryz.ntmps49
  go_wp2_with (fail)
  refine wp_region_b 23 (by kernel_rfl) (by kernel_rfl) ?_
  simp only [List.take_succ_cons, List.take_zero, List.drop_succ_cons, List.drop_zero]
  iterate 23
    apply pc_step rfl
    · intro w1 hb K hK
      have hz := hb.size
      simp at hz
      have hbp := hb.cell (p := p) (by simp; omega)
      have hbp1 := hb.cell (p := { block := p.block, off := p.off + 1 }) (by simp; omega)
      have hbp2 := hb.cell (p := { block := p.block, off := p.off + 2 }) (by simp; omega)
      go_wp2_with (go_at_call 94; refine (l11Turn_any n _ _ n5 n15 (by first | rw [hlp.out] | rw [hlc.out])).mono ?_; rintro e w2 ⟨rfl, hb2⟩)
      first | exact hb | exact hb.trans (hb2.mono hb.size)
    simp only [Act.put, List.setIfInBounds_toArray, List.set_cons_succ, List.set_cons_zero]
  refine pc_nil ?_
  intro w1 hb
  have hbc := bcell hb
  have hbs := hb.size
  simp at hbs
  go_wp2
  have hblk := (Blk.new w 33 _).below hb (by simp)
  have hrow := ((hblk.set_ 0 (.int .i64 n)).set_ 1 (sv (turnS n b.prem))).set_ 2 (sv (turnS n b.cells))
  refine ret_row (p := 2) (ty := 33) rfl w.heap.size 33 _ _ rfl hrow Tryz.underlying33 rfl (by kernel_rfl) rfl ⟨?_, ?_⟩
  · rw [htr.out]; rfl
  · exact ((((Below.refl _ _).alloc (Nat.le_refl _) _).trans (hb.mono (by simp))).setCell (Nat.le_refl _) _).setCell (Nat.le_refl _) _ |>.setCell (Nat.le_refl _) _
end Go.Proofs.YtamdcbbclkobiaaGreatDoor
/-
  Contracts: plays (layer 12 of the spec package).
  Conditions: a board that is valid lies at an address; a play's numbers are those of an int64.
-/
namespace Go.Proofs.YtamdcbbclkobiaaGreatDoor
open Go.RowKit RegP RegL
set_option maxHeartbeats 400000

theorem ret_row2 {P : Program} {fn : Func} {R : Ending → World → Prop} {a : Act} {w : World} {p q : Tmp} {ty ty' : TypeId} (h : fn.results = #[.cell p ty, .cell q ty']) (g g' : Nat) (t t' : TypeId) (cs cs' : Array Value) (d d' : TypeDesc)
    (hp : a.tmps.getD p undef = .pointer (some ⟨g, 0, none⟩)) (hg : Blk w g t cs) (hu : P.underlying ty = some d)
    (hd : (match d with | .struct _ | .array _ _ => true | _ => false) = true) (hi : (P.info? ty).map (·.size) = some cs.size)
    (hp' : a.tmps.getD q undef = .pointer (some ⟨g', 0, none⟩)) (hg' : Blk w g' t' cs') (hu' : P.underlying ty' = some d')
    (hd' : (match d' with | .struct _ | .array _ _ => true | _ => false) = true) (hi' : (P.info? ty').map (·.size) = some cs'.size) (hdf : a.defers = [])
    (hR : R (.returned (.tuple #[.agg cs, .agg cs'])) w) : bodyPost P fn R .ret a w := by
  have e1 : a.tmps[p]?.getD undef = .pointer (some ⟨g, 0, none⟩) := by simpa using hp
  have e2 : a.tmps[q]?.getD undef = .pointer (some ⟨g', 0, none⟩) := by simpa using hp'
  refine bodyPost_ret (v := .tuple #[.agg cs, .agg cs']) ?_ hdf hR
  simp [results, h, e1, e2, asAddr, run_loadVar_row w g t ty cs (0, 0) d hg hu hd hi, run_loadVar_row w g' t' ty' cs' (0, 0) d' hg' hu' hd' hi']

theorem Blk.new1 (w : World) (o : Obj) (t : TypeId) (cs : Array Value) : Blk ((w.alloc o).alloc (.cells cs t)) (w.heap.size + 1) t cs := by
  have := Blk.new (w.alloc o) t cs
  rwa [show (w.alloc o).heap.size = w.heap.size + 1 by simp] at this

theorem Blk.new2 (w : World) (o o' : Obj) (t : TypeId) (cs : Array Value) : Blk (((w.alloc o).alloc o').alloc (.cells cs t)) (w.heap.size + 1 + 1) t cs := by
  have := Blk.new ((w.alloc o).alloc o') t cs
  rwa [show ((w.alloc o).alloc o').heap.size = w.heap.size + 1 + 1 by simp] at this

def Pl.tr (p : Pl) : Pl := ⟨p.col, p.row, !p.down, p.word⟩
theorem l12Turn_any (p : Pl) (w : World) :
    Calls Tryz.prog 99 #[p.v] w fun e w' => e = .returned p.tr.v ∧ Below w.heap.size w w' := by
  unfold Pl.v
  go_enter Tryz.func99, Tryz.ntmps99
  go_wp2_with (fail)
  refine ret_row (p := 2) (ty := 48) rfl (w.heap.size + 1) 48 _ _ rfl (Blk.new1 w _ _ _) Tryz.underlying48 rfl (by kernel_rfl) rfl ⟨rfl, ?_⟩
  exact ((Below.refl _ _).alloc (Nat.le_refl _) _).alloc (by simp) _
def flatB (b : Bd) (q : Pl) : Bd := if q.down then b.tr else b
def flatP (q : Pl) : Pl := if q.down then q.tr else q
/-- Two results that lie in variables, stored by ops i and j of a region; a boxed argument below them. -/
structure SF (w : World) (i j : Nat) (bx r r' q q' : Array Value) (L : Nat → Bool) (w' : World) : Prop where
  low : Below w.heap.size w w'
  box : Blk w' w.heap.size 48 bx
  one : Blk w' (w.heap.size + 1) 33 (if L i then r' else r)
  two : Blk w' (w.heap.size + 1 + 1) 48 (if L j then q' else q)
section
variable {w w1 w2 : World} {i j k : Nat} {bx r r' q q' : Array Value} {L : Nat → Bool}
theorem SF.keep (h : SF w i j bx r r' q q' L w1) (h1 : k ≠ i) (h2 : k ≠ j) : SF w i j bx r r' q q' (upd L k) w1 := by
  refine ⟨h.low, h.box, ?_, ?_⟩
  · rw [upd_ne L h1.symm]; exact h.one
  · rw [upd_ne L h2.symm]; exact h.two
theorem SF.call (h : SF w i j bx r r' q q' L w1) (hb : Below w1.heap.size w1 w2) : SF w i j bx r r' q q' L w2 :=
  ⟨h.low.trans (hb.mono h.low.size), h.box.below hb h.box.lt, h.one.below hb h.one.lt, h.two.below hb h.two.lt⟩
theorem SF.at_ (h : SF w i j bx r r' q q' L w1) : (∀ o, w1.cell? ⟨w.heap.size, o, none⟩ = bx[o]?) := h.box.cell
theorem SF.put1 (hij : i ≠ j) (h2 : Below w.heap.size w w2) (hb : Blk w2 w.heap.size 48 bx) (hr : Blk w2 (w.heap.size + 1) 33 r') (hq : Blk w2 (w.heap.size + 1 + 1) 48 (if L j then q' else q)) : SF w i j bx r r' q q' (upd L i) w2 := by
  refine ⟨h2, hb, ?_, ?_⟩
  · rw [upd_same]; exact hr
  · rw [upd_ne L hij.symm]; exact hq
theorem SF.put2 (hij : i ≠ j) (h2 : Below w.heap.size w w2) (hb : Blk w2 w.heap.size 48 bx) (hr : Blk w2 (w.heap.size + 1) 33 (if L i then r' else r)) (hq : Blk w2 (w.heap.size + 1 + 1) 48 q') : SF w i j bx r r' q q' (upd L j) w2 := by
  refine ⟨h2, hb, ?_, ?_⟩
  · rw [upd_ne L hij]; exact hr
  · rw [upd_same]; exact hq
theorem SF.board {a0 a1 a2 x0 x1 x2 : Value} (h : SF w i j bx #[a0, a1, a2] #[x0, x1, x2] q q' L w1) (hij : i ≠ j) (hL : L i = false) :
    SF w i j bx #[a0, a1, a2] #[x0, x1, x2] q q' (upd L i) (((w1.setCell { block := w.heap.size + 1, off := 0 } x0).setCell { block := w.heap.size + 1, off := 1 } x1).setCell { block := w.heap.size + 1, off := 2 } x2) := by
  have h1 := h.one
  rw [hL] at h1
  have hne : w.heap.size ≠ w.heap.size + 1 := by omega
  have hne2 : w.heap.size + 1 + 1 ≠ w.heap.size + 1 := by omega
  exact SF.put1 hij (((h.low.setCell (by simp) _).setCell (by simp) _).setCell (by simp) _) (((h.box.far hne _).far hne _).far hne _) (((h1.set_ 0 x0).set_ 1 x1).set_ 2 x2) (((h.two.far hne2 _).far hne2 _).far hne2 _)
theorem SF.play {a0 a1 a2 a3 x0 x1 x2 x3 : Value} (h : SF w i j bx r r' #[a0, a1, a2, a3] #[x0, x1, x2, x3] L w1) (hij : i ≠ j) (hL : L j = false) :
    SF w i j bx r r' #[a0, a1, a2, a3] #[x0, x1, x2, x3] (upd L j) ((((w1.setCell { block := w.heap.size + 1 + 1, off := 0 } x0).setCell { block := w.heap.size + 1 + 1, off := 1 } x1).setCell { block := w.heap.size + 1 + 1, off := 2 } x2).setCell { block := w.heap.size + 1 + 1, off := 3 } x3) := by
  have h1 := h.two
  rw [hL] at h1
  have hne : w.heap.size ≠ w.heap.size + 1 + 1 := by omega
  have hne2 : w.heap.size + 1 ≠ w.heap.size + 1 + 1 := by omega
  exact SF.put2 hij ((((h.low.setCell (by simp; omega) _).setCell (by simp; omega) _).setCell (by simp; omega) _).setCell (by simp; omega) _) ((((h.box.far hne _).far hne _).far hne _).far hne _) ((((h.one.far hne2 _).far hne2 _).far hne2 _).far hne2 _) ((((h1.set_ 0 x0).set_ 1 x1).set_ 2 x2).set_ 3 x3)
end
theorem l12Flat_any (g : Nat) (b : Bd) (q : Pl) (w : World) (hp : BAt w ⟨g, 0, none⟩ b) (hf : b.Fit) :
    Calls Tryz.prog 151 #[.pointer (some ⟨g, 0, none⟩), q.v] w fun e w' => e = .returned (.tuple #[(flatB b q).v, (flatP q).v]) ∧ Below w.heap.size w w' := by
  have hlt : g < w.heap.size := hp.lt
  have hp' := hp
  have hp0 : w.cell? ⟨g, 0, none⟩ = some (.int .i64 b.size) := hp.1
  have hp1 : w.cell? ⟨g, 1, none⟩ = some (sv b.prem) := hp.2.1
  have hp2 : w.cell? ⟨g, 2, none⟩ = some (sv b.cells) := hp.2.2
  clear hp
  obtain ⟨pr, pc, pd, pw⟩ := q
  cases pd
  · go_enter Tryz.func151, Tryz.ntmps151
    simp only [Pl.v]
    go_wp2_with (fail)
    refine wp_region_l 9 6 (SF w 4 5 #[.int .i64 pr, .int .i64 pc, .bool false, sv pw] #[.int .i64 0, sv [], sv []] #[.int .i64 b.size, sv b.prem, sv b.cells] #[.int .i64 0, .int .i64 0, .bool false, sv []] #[.int .i64 pr, .int .i64 pc, .bool false, sv pw]) (by kernel_rfl) (by kernel_rfl) ?_ ?_
    · refine ⟨((((Below.refl w.heap.size w).alloc (Nat.le_refl _) _).alloc (by simp) _).alloc (by simp; omega) _).drew, ?_, ?_, ?_⟩
      · exact (((Blk.new w _ _).alloc _).alloc _).drew
      · exact ((Blk.new1 w _ _ _).alloc _).drew
      · exact (Blk.new2 w _ _ _ _).drew
    simp only [List.take_succ_cons, List.take_zero, List.drop_succ_cons, List.drop_zero]
    iterate 4
      apply pl_step rfl
      · intro L w1 hS h1 h2 K hK
        clear h2
        have hbw := hS.low
        have c0 : w1.cell? ⟨g, 0, none⟩ = _ := (hbw.cell hlt).trans hp0
        have c1 : w1.cell? ⟨g, 1, none⟩ = _ := (hbw.cell hlt).trans hp1
        have c2 : w1.cell? ⟨g, 2, none⟩ = _ := (hbw.cell hlt).trans hp2
        have d0 : w1.cell? ⟨w.heap.size, 0, none⟩ = some (.int .i64 pr) := hS.at_ 0
        have d1 : w1.cell? ⟨w.heap.size, 1, none⟩ = some (.int .i64 pc) := hS.at_ 1
        have d2 : w1.cell? ⟨w.heap.size, 2, none⟩ = some (.bool false) := hS.at_ 2
        have d3 : w1.cell? ⟨w.heap.size, 3, none⟩ = some (sv pw) := hS.at_ 3
        go_wp2_with (fail)
        exact hS.keep (by decide) (by decide)
      simp only [Act.put, List.setIfInBounds_toArray, List.set_cons_succ, List.set_cons_zero]
    apply pl_step (v := undef) rfl
    · intro L w1 hS h1 h2 K hK
      clear h2
      have hB := hS.one
      rw [h1] at hB
      have e0 : w1.cell? ⟨w.heap.size + 1, 0, none⟩ = some (.int .i64 0) := hB.cell 0
      have e1 : w1.cell? ⟨w.heap.size + 1, 1, none⟩ = some (sv []) := hB.cell 1
      have e2 : w1.cell? ⟨w.heap.size + 1, 2, none⟩ = some (sv []) := hB.cell 2
      have f0 := hB.frozen
      go_wp2_with (fail)
      exact hS.board (by decide) h1
    simp only [Act.put]
    apply pl_step (v := undef) rfl
    · intro L w1 hS h1 h2 K hK
      clear h2
      have hB := hS.two
      rw [h1] at hB
      have e0 : w1.cell? ⟨w.heap.size + 1 + 1, 0, none⟩ = some (.int .i64 0) := hB.cell 0
      have e1 : w1.cell? ⟨w.heap.size + 1 + 1, 1, none⟩ = some (.int .i64 0) := hB.cell 1
      have e2 : w1.cell? ⟨w.heap.size + 1 + 1, 2, none⟩ = some (.bool false) := hB.cell 2
      have e3 : w1.cell? ⟨w.heap.size + 1 + 1, 3, none⟩ = some (sv []) := hB.cell 3
      have f0 := hB.frozen
      go_wp2_with (fail)
      exact hS.play (by decide) h1
    simp only [Act.put]
    refine pl_nil ?_
    intro w1 hS
    go_wp2
    exact ret_row2 (p := 4) (q := 5) (ty := 33) (ty' := 48) rfl (w.heap.size + 1) (w.heap.size + 1 + 1) 33 48 _ _ _ _ rfl hS.one Tryz.underlying33 rfl (by kernel_rfl) rfl hS.two Tryz.underlying48 rfl (by kernel_rfl) rfl ⟨rfl, hS.low⟩
  · go_enter Tryz.func151, Tryz.ntmps151
    simp only [Pl.v]
    go_wp2_with (fail)
    refine wp_region_l 9 6 (SF w 4 5 #[.int .i64 pr, .int .i64 pc, .bool true, sv pw] #[.int .i64 0, sv [], sv []] #[.int .i64 b.tr.size, sv b.tr.prem, sv b.tr.cells] #[.int .i64 0, .int .i64 0, .bool false, sv []] #[.int .i64 pc, .int .i64 pr, .bool false, sv pw]) (by kernel_rfl) (by kernel_rfl) ?_ ?_
    · refine ⟨((((Below.refl w.heap.size w).alloc (Nat.le_refl _) _).alloc (by simp) _).alloc (by simp; omega) _).drew, ?_, ?_, ?_⟩
      · exact (((Blk.new w _ _).alloc _).alloc _).drew
      · exact ((Blk.new1 w _ _ _).alloc _).drew
      · exact (Blk.new2 w _ _ _ _).drew
    simp only [List.take_succ_cons, List.take_zero, List.drop_succ_cons, List.drop_zero]
    iterate 4
      apply pl_step rfl
      · intro L w1 hS h1 h2 K hK
        clear h2
        have hbw := hS.low
        have d0 : w1.cell? ⟨w.heap.size, 0, none⟩ = some (.int .i64 pr) := hS.at_ 0
        have d1 : w1.cell? ⟨w.heap.size, 1, none⟩ = some (.int .i64 pc) := hS.at_ 1
        have d2 : w1.cell? ⟨w.heap.size, 2, none⟩ = some (.bool true) := hS.at_ 2
        have d3 : w1.cell? ⟨w.heap.size, 3, none⟩ = some (sv pw) := hS.at_ 3
        go_wp2_with (first
          | (go_at_call 49; refine (l11Transpose_any _ b _ (hp'.below hbw hlt) hf).mono ?_; rintro e w2 ⟨rfl, hb2⟩)
          | (go_at_call 99; refine (l12Turn_any ⟨pr, pc, true, pw⟩ _).mono ?_; rintro e w2 ⟨rfl, hb2⟩))
        first | exact hS.keep (by decide) (by decide) | exact (hS.call hb2).keep (by decide) (by decide)
      simp only [Act.put, List.setIfInBounds_toArray, List.set_cons_succ, List.set_cons_zero]
    apply pl_step (v := undef) rfl
    · intro L w1 hS h1 h2 K hK
      clear h2
      have hB := hS.one
      rw [h1] at hB
      have e0 : w1.cell? ⟨w.heap.size + 1, 0, none⟩ = some (.int .i64 0) := hB.cell 0
      have e1 : w1.cell? ⟨w.heap.size + 1, 1, none⟩ = some (sv []) := hB.cell 1
      have e2 : w1.cell? ⟨w.heap.size + 1, 2, none⟩ = some (sv []) := hB.cell 2
      have f0 := hB.frozen
      unfold Bd.v
      go_wp2_with (fail)
      exact hS.board (by decide) h1
    simp only [Act.put]
    apply pl_step (v := undef) rfl
    · intro L w1 hS h1 h2 K hK
      clear h2
      have hB := hS.two
      rw [h1] at hB
      have e0 : w1.cell? ⟨w.heap.size + 1 + 1, 0, none⟩ = some (.int .i64 0) := hB.cell 0
      have e1 : w1.cell? ⟨w.heap.size + 1 + 1, 1, none⟩ = some (.int .i64 0) := hB.cell 1
      have e2 : w1.cell? ⟨w.heap.size + 1 + 1, 2, none⟩ = some (.bool false) := hB.cell 2
      have e3 : w1.cell? ⟨w.heap.size + 1 + 1, 3, none⟩ = some (sv []) := hB.cell 3
      have f0 := hB.frozen
      unfold Pl.v Pl.tr
      go_wp2_with (fail)
      exact hS.play (by decide) h1
    simp only [Act.put]
    refine pl_nil ?_
    intro w1 hS
    go_wp2
    exact ret_row2 (p := 4) (q := 5) (ty := 33) (ty' := 48) rfl (w.heap.size + 1) (w.heap.size + 1 + 1) 33 48 _ _ _ _ rfl hS.one Tryz.underlying33 rfl (by kernel_rfl) rfl hS.two Tryz.underlying48 rfl (by kernel_rfl) rfl ⟨rfl, hS.low⟩
end Go.Proofs.YtamdcbbclkobiaaGreatDoor
/-
  Contracts: which plays are valid (layer 12 of the spec package).
  Conditions: a board lies at an address; a play's numbers are those of an int64.
-/
namespace Go.Proofs.YtamdcbbclkobiaaGreatDoor
open Go.RowKit RegP RegL
set_option maxHeartbeats 400000

theorem Dr.trans {a b c : World} (h : Dr a b) (h2 : Dr b c) : Dr a c := by
  obtain ⟨n, rfl⟩ := h
  obtain ⟨m, rfl⟩ := h2
  exact ⟨n + m, by rw [World.drewN_drewN]⟩
theorem BAt.drewN {w : World} {p : Addr} {b : Bd} (h : BAt w p b) (n : Nat) : BAt (w.drewN n) p b := h.dr ⟨n, rfl⟩
theorem BAt.alloc {w : World} {p : Addr} {b : Bd} (h : BAt w p b) (o : Obj) : BAt (w.alloc o) p b := h.below ((Below.refl _ _).alloc (Nat.le_refl _) _) h.lt
theorem Bd.Fit.size {b : Bd} (h : b.Fit) : sizeB b.size = true := by
  have := h.lo; have := h.hi
  simp [sizeB, inR]; omega
def wordB (s : Str) : Bool := decide (1 < s.length) && placedB s
theorem l12Word_any (s : Str) (w : World) (hl : s.length ≤ 2 ^ 38) :
    Calls Tryz.prog 176 #[sv s] w fun e w' => e = .returned (.bool (wordB s)) ∧ w = w' := by
  by_cases h : 1 < s.length
  · have h' : (1 : Int) < (s.length : Int) := by omega
    go_enter Tryz.func176, Tryz.ntmps176
    go_wp2_with (go_at_call 191; refine (l03Placed_any _ _ hl).mono ?_; rintro e w' ⟨rfl, hb⟩)
    go_ret
    exact ⟨ret_bool (by rw [wordB, decide_eq_true h]; rfl), hb⟩
  · have h' : decide ((1 : Int) < (s.length : Int)) = false := by simp; omega
    go_enter Tryz.func176, Tryz.ntmps176
    go_wp2_with (fail)
    go_ret
    exact ⟨ret_bool (by rw [wordB, decide_eq_false h]; rfl), rfl⟩

theorem l11Full_v (p : Addr) (b : Bd) (r c : Int) (w : World) (v : Bool) (hv : b.full r c = v) (hp : BAt w p b) (hf : b.Fit) :
    Calls Tryz.prog 145 #[.pointer (some p), .int .i64 r, .int .i64 c] w fun e w' => e = .returned (.bool v) ∧ Dr w w' := hv ▸ l11Full_any p b r c w hp hf hf.size
theorem l11In_v (p : Addr) (b : Bd) (r c : Int) (w : World) (v : Bool) (hv : b.inB r c = v) (hp : BAt w p b) (hs : sizeB b.size = true) :
    Calls Tryz.prog 144 #[.pointer (some p), .int .i64 r, .int .i64 c] w fun e w' => e = .returned (.bool v) ∧ w = w' := hv ▸ l11In_any p b r c w hp hs
def fitGo (b : Bd) (row : Int) : Bool → Str → Int → Bool
  | fresh, [], _ => fresh
  | fresh, x :: r, c => if b.at_ row c == 46 then fitGo b row true r (c + 1) else if b.at_ row c == x then fitGo b row fresh r (c + 1) else false
def fitsB (b : Bd) (q : Pl) : Bool :=
  b.inB q.row q.col && (decide (q.col + q.word.length ≤ b.size) && (!b.full q.row (q.col - 1) && (!b.full q.row (q.col + q.word.length) && fitGo b q.row false q.word q.col)))
theorem l12Fits_any (p : Addr) (b : Bd) (q : Pl) (w : World) (hp : BAt w p b) (hf : b.Fit) (hl : q.word.length ≤ 2 ^ 38) :
    Calls Tryz.prog 177 #[.pointer (some p), q.v] w fun e w' => e = .returned (.bool (fitsB b q)) ∧ Below w.heap.size w w' := by
  obtain ⟨r, c, dn, s⟩ := q
  have hdef : fitsB b ⟨r, c, dn, s⟩ = (b.inB r c && (decide (c + s.length ≤ b.size) && (!b.full r (c - 1) && (!b.full r (c + s.length) && fitGo b r false s c)))) := rfl
  rw [hdef]
  clear hdef
  have h0 := hp.1
  have hs := hf.size
  have hblt := hp.lt
  have h5 := hf.lo
  have h15 := hf.hi
  simp only at hl
  cases hi : b.inB r c
  · go_enter Tryz.func177, Tryz.ntmps177
    simp only [Pl.v]
    go_wp2_with (fail)
    go_quiet ((go_at_call 144; exact quiet_eq (l11In_v p b _ _ _ _ hi ((hp.alloc _).drewN _) hs)))
    go_wp2
    go_ret
    exact ⟨rfl, below_drewN ((Below.refl _ _).alloc (Nat.le_refl _) _) _⟩
  · obtain ⟨⟨r0, r1⟩, c0, c1⟩ := inB_iff.1 hi
    have m1 : IntKind.i64.wrap (c + (s.length : Int)) = c + (s.length : Int) := IntWalk.i64_in _ (by omega)
    have m2 : IntKind.i64.wrap (c - 1) = c - 1 := IntWalk.i64_in _ (by omega)
    by_cases hn : c + (s.length : Int) ≤ b.size
    · have hn' : decide (b.size < c + (s.length : Int)) = false := by simp; omega
      cases hf1 : b.full r (c - 1)
      · cases hf2 : b.full r (c + s.length)
        all_goals
          go_enter Tryz.func177, Tryz.ntmps177
          simp only [Pl.v]
          go_wp2_with (fail)
          go_quiet (first
            | ((go_at_call 144; exact quiet_eq (l11In_v p b _ _ _ _ hi ((hp.alloc _).drewN _) hs)))
            | ((go_at_call 145; exact quiet_dr (l11Full_v p b _ _ _ _ (by first | rw [hf1] | rw [hf2]) ((hp.alloc _).drewN _) hf))))
        · have hend : (true && (decide (c + (s.length : Int) ≤ b.size) && (!false && (!false && fitGo b r false s c)))) = fitGo b r false s c := by simp [hn]
          have hend' := Lib.hid hend
          clear hend hn' m1 m2 hf1 hf2
          have hbx := (Blk.new w 48 #[.int .i64 r, .int .i64 c, .bool dn, sv s])
          have hpW := hp.alloc (.cells #[.int .i64 r, .int .i64 c, .bool dn, sv s] 48)
          have hbW := (Below.refl w.heap.size w).alloc (Nat.le_refl _) (.cells #[.int .i64 r, .int .i64 c, .bool dn, sv s] 48)
          obtain ⟨W, hW⟩ : ∃ W, W = w.alloc (.cells #[.int .i64 r, .int .i64 c, .bool dn, sv s] 48) := ⟨_, rfl⟩
          rw [← hW] at hbx hpW hbW
          rw [← hW]
          clear hW
          go_wp2_with (fail)
          go_loopw [6, 7] (fun fr i wr => ∃ (k : Nat) (f : Bool), k ≤ s.length ∧ i = .int .i64 k ∧ fr = .bool f ∧ Hid (fitGo b r false s c = fitGo b r f (s.drop k) (c + k)) ∧ Dr W wr) (fun _ i _ => s.length - (intOf i).toNat)
          case atStart => exact ⟨0, false, by omega, rfl, rfl, by unfold Hid; simp, ⟨_, rfl⟩⟩
          case round =>
            obtain ⟨k, f, hk, rfl, rfl, he, hd⟩ := hrel
            have hpr := hpW.dr hd
            have hbr := hbx.below hd.below hbx.lt
            have e0 : wr.cell? ⟨w.heap.size, 0, none⟩ = some (.int .i64 r) := hbr.cell 0
            have e1 : wr.cell? ⟨w.heap.size, 1, none⟩ = some (.int .i64 c) := hbr.cell 1
            have e3 : wr.cell? ⟨w.heap.size, 3, none⟩ = some (sv s) := hbr.cell 3
            by_cases hlt : k < s.length
            · have hk1 : (k : Int) < (s.length : Int) := by omega
              have hk0 : (0 : Int) ≤ (k : Int) := by omega
              have hik : b.inB r (c + k) = true := inB_iff.2 ⟨⟨r0, r1⟩, by omega, by omega⟩
              have hst : Hid (fitGo b r f (s.drop k) (c + k) = if b.at_ r (c + k) == 46 then fitGo b r true (s.drop (k + 1)) (c + k + 1) else if b.at_ r (c + k) == s[k] then fitGo b r f (s.drop (k + 1)) (c + k + 1) else false) := Lib.hid (by rw [drop_cons s k hlt]; rfl)
              have hq : (((b.at_ r (c + k)).toNat : Int) == 46) = (b.at_ r (c + k) == 46) := u8_eq _ 46
              have hq2 := u8_eq (b.at_ r (c + k)) s[k]
              obtain ⟨x, hx⟩ : ∃ x, x = b.at_ r (c + k) := ⟨_, rfl⟩
              rw [← hx] at hq hq2 hst
              have hx' := Lib.hid hx
              clear hx
              cases hx1 : (x == 46)
              · cases hx2 : (x == s[k])
                all_goals
                  rw [hx1] at hq
                  rw [hx2] at hq2
                  go_wp2_with (go_at_call 146; refine (l11At_any p b r _ _ hpr hf hik).mono ?_; rw [← hx'.out]; rintro e w2 ⟨rfl, hd2⟩; have e3' : w2.cell? ⟨w.heap.size, 3, none⟩ = some (sv s) := (hbr.below hd2.below hbr.lt).cell 3)
                · go_ret
                  exact ⟨ret_bool (by rw [hend'.out, he.out, hst.out, if_neg (by rw [hx1]; decide), if_neg (by rw [hx2]; decide)]), hbW.trans ((hd.trans hd2).below.mono hbW.size)⟩
                · go_roundw
                  case rel => exact ⟨k + 1, f, by omega, by go_num, rfl, Lib.hid (by rw [he.out, hst.out, if_neg (by rw [hx1]; decide), if_pos (by rw [hx2]), Int.natCast_add, Int.add_assoc]; rfl), hd.trans hd2⟩
                  case measure => simp [intOf]; omega
              · rw [hx1] at hq
                go_wp2_with (go_at_call 146; refine (l11At_any p b r _ _ hpr hf hik).mono ?_; rw [← hx'.out]; rintro e w2 ⟨rfl, hd2⟩)
                go_roundw
                case rel => exact ⟨k + 1, true, by omega, by go_num, rfl, Lib.hid (by rw [he.out, hst.out, if_pos (by rw [hx1]), Int.natCast_add, Int.add_assoc]; rfl), hd.trans hd2⟩
                case measure => simp [intOf]; omega
            · obtain rfl : k = s.length := by omega
              go_wp2_with (fail)
              go_ret
              exact ⟨ret_bool (by rw [hend'.out, he.out, List.drop_length]; rfl), hbW.trans (hd.below.mono hbW.size)⟩
        · go_wp2
          go_ret
          exact ⟨ret_bool (by simp), below_drewN ((Below.refl _ _).alloc (Nat.le_refl _) _) _⟩
      · go_enter Tryz.func177, Tryz.ntmps177
        simp only [Pl.v]
        go_wp2_with (fail)
        go_quiet (first
            | ((go_at_call 144; exact quiet_eq (l11In_v p b _ _ _ _ hi ((hp.alloc _).drewN _) hs)))
            | ((go_at_call 145; exact quiet_dr (l11Full_v p b _ _ _ _ (by first | rw [hf1] | rw [hf2]) ((hp.alloc _).drewN _) hf))))
        go_wp2
        go_ret
        exact ⟨ret_bool (by simp), below_drewN ((Below.refl _ _).alloc (Nat.le_refl _) _) _⟩
    · have hn' : decide (b.size < c + (s.length : Int)) = true := by simp; omega
      go_enter Tryz.func177, Tryz.ntmps177
      simp only [Pl.v]
      go_wp2_with (fail)
      go_quiet ((go_at_call 144; exact quiet_eq (l11In_v p b _ _ _ _ hi ((hp.alloc _).drewN _) hs)))
      go_wp2
      go_ret
      exact ⟨ret_bool (by simp [show ¬ (c + (s.length : Int) ≤ b.size) from by omega]), below_drewN ((Below.refl _ _).alloc (Nat.le_refl _) _) _⟩
end Go.Proofs.YtamdcbbclkobiaaGreatDoor
