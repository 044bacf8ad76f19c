/-
  Contracts: letters, words, long words, lexicons (layers 1 and 5 of both packages); Contracts: lexicons (layer 5 of both packages); Words for rows that a call makes: append of new elements, bytes made of a string and stored into, strings made of bytes; Contracts: piles of the reference (layer 3 of the spec package).
  Conditions: as each part below says.
-/
import Derived.Test.YtamdcbbclkobiaaGreatDoorM01
import Derived.Deep.QuietTactic
import Derived.BigQuiet
/-
  Contracts: letters, words, long words, lexicons (layers 1 and 5 of both packages).
  Conditions: lengths at most 2^40.
-/
namespace Go.Proofs.YtamdcbbclkobiaaGreatDoor
open Go.RowKit RegP
set_option maxHeartbeats 400000

/-! ### The plain words -/
def smallB (c : UInt8) : Bool := decide (97 ≤ (c.toNat : Int)) && decide ((c.toNat : Int) ≤ 122)
def capB (c : UInt8) : Bool := decide (65 ≤ (c.toNat : Int)) && decide ((c.toNat : Int) ≤ 90)
def inR (x lo hi : Int) : Bool := decide (lo ≤ x) && decide (x ≤ hi)
def isWordB (l : Str) : Bool := l.all smallB && inR l.length 1 12
def longB (l : Str) : Bool := decide (2 ≤ l.length) && isWordB l
def sLt (a b : Str) : Bool := Op.bytesLess a b
def incB : List Str → Bool
  | [] => true
  | [_] => true
  | a :: b :: r => sLt a b && incB (b :: r)
def lexFrom : Option Str → List Str → Bool
  | _, [] => true
  | none, a :: r => longB a && lexFrom (some a) r
  | some q, a :: r => longB a && sLt q a && lexFrom (some a) r
def prevOf (ws : List Str) (k : Nat) : Option Str := if k = 0 then none else ws[k - 1]?
def lexB (ws : List Str) : Bool := lexFrom none ws && decide (ws.length ≤ 200)

theorem sLe_eq : ∀ x y : Str, (Op.bytesLess x y || x == y) = !Op.bytesLess y x
  | [], [] => rfl
  | [], _ :: _ => rfl
  | _ :: _, [] => rfl
  | a :: x, b :: y => by
    have ih := sLe_eq x y
    simp only [Op.bytesLess, List.cons_beq_cons]
    by_cases h : a = b
    · subst h
      have : decide (a < a) = false := by simp
      simp only [this, beq_self_eq_true, Bool.true_and, Bool.false_or]
      exact ih
    · have h1 : (a == b) = false := by simp [h]
      have h2 : (b == a) = false := by simp [Ne.symm h]
      have h3 : decide (a < b) = !decide (b < a) := by
        rw [Bool.eq_iff_iff]
        simp only [decide_eq_true_eq, Bool.not_eq_true', decide_eq_false_iff_not, UInt8.lt_iff_toNat_lt]
        have : a.toNat ≠ b.toNat := fun e => h (UInt8.toNat_inj.1 e)
        omega
      simp [h1, h2, h3]

/-! ### Letters -/
theorem small_any (c : UInt8) (w : World) :
    Calls Tryz.prog 105 #[bv c] w fun e w' => e = .returned (.bool (smallB c)) ∧ w = w' := by
  go_enter Tryz.func105, Tryz.ntmps105
  go_wp2
  all_goals (go_ret; exact ⟨by unfold smallB; congr 2; simp [*] <;> omega, rfl⟩)
theorem capital_any (c : UInt8) (w : World) :
    Calls Tryz.prog 106 #[bv c] w fun e w' => e = .returned (.bool (capB c)) ∧ w = w' := by
  go_enter Tryz.func106, Tryz.ntmps106
  go_wp2
  all_goals (go_ret; exact ⟨by unfold capB; congr 2; simp [*] <;> omega, rfl⟩)
theorem l01Small_any (c : UInt8) (w : World) :
    Calls Tryz.prog 92 #[bv c] w fun e w' => e = .returned (.bool (smallB c)) ∧ w = w' := by
  go_enter Tryz.func92, Tryz.ntmps92
  go_wp2
  all_goals (go_ret; exact ⟨by unfold smallB; congr 2; simp [*] <;> omega, rfl⟩)
theorem l03Capital_any (c : UInt8) (w : World) :
    Calls Tryz.prog 29 #[bv c] w fun e w' => e = .returned (.bool (capB c)) ∧ w = w' := by
  go_enter Tryz.func29, Tryz.ntmps29
  go_wp2
  all_goals (go_ret; exact ⟨by unfold capB; congr 2; simp [*] <;> omega, rfl⟩)
theorem l00In_any (x lo hi : Int) (w : World) :
    Calls Tryz.prog 91 #[.int .i64 x, .int .i64 lo, .int .i64 hi] w fun e w' => e = .returned (.bool (inR x lo hi)) ∧ w = w' := by
  go_enter Tryz.func91, Tryz.ntmps91
  go_wp2
  all_goals (go_ret; exact ⟨by unfold inR; congr 2; simp [*] <;> omega, rfl⟩)
theorem within_any (x lo hi : Int) (w : World) :
    Calls Tryz.prog 103 #[.int .i64 x, .int .i64 lo, .int .i64 hi] w fun e w' => e = .returned (.bool (inR x lo hi)) ∧ w = w' := by
  go_enter Tryz.func103, Tryz.ntmps103
  go_wp2
  all_goals (go_ret; exact ⟨by unfold inR; congr 2; simp [*] <;> omega, rfl⟩)

/-! ### Words -/
theorem sIsWord_any (l : Str) (w : World) (hl : l.length ≤ 2 ^ 40) :
    Calls Tryz.prog 90 #[sv l] w fun e w' => e = .returned (.bool (isWordB l)) ∧ w = w' := by
  go_enter Tryz.func90, Tryz.ntmps90
  go_wp2_with (fail)
  go_loop [3] (fun i => ∃ k : Nat, k ≤ l.length ∧ i = .int .i64 k ∧ Hid (l.all smallB = (l.drop k).all smallB)) (fun i => l.length - (intOf i).toNat)
  case atStart => exact ⟨0, by omega, rfl, rfl⟩
  case round =>
    obtain ⟨k, hk, rfl, he⟩ := hrel
    by_cases hlt : k < l.length
    · have hd := Lib.hid (drop_cons l k hlt)
      cases hc : smallB l[k]
      all_goals
        go_wp2_with (go_at_call 92; refine (l01Small_any _ _).mono ?_; rintro e w' ⟨rfl, rfl⟩)
      · go_ret
        exact ⟨by rw [isWordB, he.out, hd.out, List.all_cons, hc]; simp, rfl⟩
      · go_round
        case rel => exact ⟨k + 1, by omega, by go_num, Lib.hid (by rw [he.out, hd.out, List.all_cons, hc]; simp)⟩
        case measure => simp [intOf]; omega
    · rw [drop_all l k (by omega)] at he
      go_wp2_with (go_at_call 91; refine (l00In_any _ _ _ _).mono ?_; rintro e w' ⟨rfl, rfl⟩)
      go_ret
      exact ⟨by rw [isWordB, he.out]; simp, rfl⟩
theorem l05Long_any (l : Str) (w : World) (hl : l.length ≤ 2 ^ 40) :
    Calls Tryz.prog 44 #[sv l] w fun e w' => e = .returned (.bool (longB l)) ∧ w = w' := by
  go_enter Tryz.func44, Tryz.ntmps44
  by_cases h : 1 < l.length
  · go_wp2_with (go_at_call 90; refine (sIsWord_any _ _ hl).mono ?_; rintro e w' ⟨rfl, rfl⟩)
    go_ret
    exact ⟨by unfold longB; simp; omega, rfl⟩
  · go_wp2_with (go_at_call 90; refine (sIsWord_any _ _ hl).mono ?_; rintro e w' ⟨rfl, rfl⟩)
    go_ret
    exact ⟨by unfold longB; simp; omega, rfl⟩
theorem onlySmall_any (l : Str) (w : World) (hl : l.length ≤ 2 ^ 40) :
    Calls Tryz.prog 158 #[sv l] w fun e w' => e = .returned (.bool (l.all smallB)) ∧ Below w.heap.size w w' := by
  have kb := fun (w : World) => run_bytes_of_string (P := Tryz.prog) w 9 57 5 ⟨l.toArray⟩ Tryz.underlying9 Tryz.underlying57 Tryz.underlying5
  have kc : ∀ (f : Nat × Nat) (j : Nat) (hj : j < l.length), (w.alloc (Obj.cells (bytesRow ⟨l.toArray⟩ (grownCap w l.length 0 5)) 5 f)).cell? ⟨w.heap.size, j, none⟩ = some (.int .u8 (l[j].toNat : Int)) := by
    intro f j hj
    rw [World.cell?_alloc_mark, bytesRow_at _ _ _ (by simpa using hj)]
    simp
  have kf : Below w.heap.size w (w.alloc (Obj.cells (bytesRow ⟨l.toArray⟩ (grownCap w l.length 0 5)) 5 ((bytesRow ⟨l.toArray⟩ (grownCap w l.length 0 5)).size, (bytesRow ⟨l.toArray⟩ (grownCap w l.length 0 5)).size + 1))) := (Below.refl _ _).alloc (Nat.le_refl _) _
  go_enter Tryz.func158, Tryz.ntmps158
  go_wp2_with (fail)
  generalize (bytesRow { data := l.toArray } (grownCap w l.length 0 5)) = row at *
  go_loop [8] (fun i => ∃ k : Nat, k ≤ l.length ∧ i = .int .i64 k ∧ Hid (l.all smallB = (l.drop k).all smallB)) (fun i => l.length - (intOf i).toNat)
  case atStart => exact ⟨0, by omega, rfl, rfl⟩
  case round =>
    obtain ⟨k, hk, rfl, he⟩ := hrel
    by_cases hlt : k < l.length
    · have hd := Lib.hid (drop_cons l k hlt)
      have kc1 := kc (row.size, row.size + 1) k hlt
      clear kc
      cases hc : smallB l[k]
      all_goals
        go_wp2_with (go_at_call 105; refine (small_any _ _).mono ?_; rintro e w' ⟨rfl, rfl⟩)
      · go_ret
        exact ⟨by rw [he.out, hd.out, List.all_cons, hc]; simp, kf.drew⟩
      · go_round
        case rel => exact ⟨k + 1, by omega, by go_num, Lib.hid (by rw [he.out, hd.out, List.all_cons, hc]; simp)⟩
        case measure => simp [intOf]; omega
    · rw [drop_all l k (by omega)] at he
      go_wp2
      go_ret
      exact ⟨by rw [he.out]; simp, kf.drew⟩
theorem iIsWord_any (l : Str) (w : World) (hl : l.length ≤ 2 ^ 40) :
    Calls Tryz.prog 102 #[sv l] w fun e w' => e = .returned (.bool (isWordB l)) ∧ Below w.heap.size w w' := by
  go_enter Tryz.func102, Tryz.ntmps102
  by_cases h : 1 ≤ l.length
  · by_cases h2 : l.length ≤ 12
    · go_wp2_with (go_at_call 158; refine (onlySmall_any _ _ hl).mono ?_; rintro e w' ⟨rfl, hb⟩)
      go_ret
      exact ⟨ret_bool (by unfold isWordB inR; simp; omega), hb⟩
    · go_wp2_with (go_at_call 158; refine (onlySmall_any _ _ hl).mono ?_; rintro e w' ⟨rfl, hb⟩)
      go_ret
      exact ⟨ret_bool (by unfold isWordB inR; simp; omega), Below.refl _ _⟩
  · go_wp2_with (go_at_call 158; refine (onlySmall_any _ _ hl).mono ?_; rintro e w' ⟨rfl, hb⟩)
    go_ret
    exact ⟨ret_bool (by unfold isWordB inR; simp; omega), Below.refl _ _⟩
theorem isLong_any (l : Str) (w : World) (hl : l.length ≤ 2 ^ 40) :
    Calls Tryz.prog 53 #[sv l] w fun e w' => e = .returned (.bool (longB l)) ∧ Below w.heap.size w w' := by
  go_enter Tryz.func53, Tryz.ntmps53
  by_cases h : 2 ≤ l.length
  · go_wp2_with (go_at_call 102; refine (iIsWord_any _ _ hl).mono ?_; rintro e w' ⟨rfl, hb⟩)
    go_ret
    exact ⟨ret_bool (by unfold longB; simp; omega), hb⟩
  · go_wp2_with (go_at_call 102; refine (iIsWord_any _ _ hl).mono ?_; rintro e w' ⟨rfl, hb⟩)
    go_ret
    exact ⟨ret_bool (by unfold longB; simp; omega), Below.refl _ _⟩
end Go.Proofs.YtamdcbbclkobiaaGreatDoor
/-
  Contracts: lexicons (layer 5 of both packages).
  Conditions: each word at most 2^40 letters, at most 2^40 words.
-/
namespace Go.Proofs.YtamdcbbclkobiaaGreatDoor
open Go.RowKit RegP
set_option maxHeartbeats 400000

theorem incB_drop (ws : List Str) (k : Nat) (hk : 1 ≤ k) (h : k < ws.length) : incB (ws.drop (k - 1)) = (sLt ws[k - 1] ws[k] && incB (ws.drop k)) := by
  rw [drop_cons ws (k - 1) (by omega)]
  have e : ws.drop (k - 1 + 1) = ws[k] :: ws.drop (k + 1) := by rw [show k - 1 + 1 = k from by omega]; exact drop_cons ws k h
  rw [e, incB, ← drop_cons ws k h]
theorem incB_end (ws : List Str) (k : Nat) (hk : 1 ≤ k) (h : ws.length ≤ k) : incB (ws.drop (k - 1)) = true := by
  by_cases h1 : k - 1 < ws.length
  · rw [drop_cons ws (k - 1) h1, drop_all ws _ (by omega)]; rfl
  · rw [drop_all ws _ (by omega)]; rfl

theorem lexFrom_eq (ws : List Str) : lexFrom none ws = (incB ws && ws.all longB) := by
  have key : ∀ (r : List Str) (a : Str), lexFrom (some a) r = (incB (a :: r) && r.all longB) := by
    intro r
    induction r with
    | nil => intro a; rfl
    | cons b r ih => intro a; simp only [lexFrom, ih, incB, List.all_cons]; cases longB b <;> cases sLt a b <;> simp
  cases ws with
  | nil => rfl
  | cons a r => simp only [lexFrom, key, List.all_cons]; cases longB a <;> simp
theorem below_drewN {B : Nat} {a w : World} (h : Below B a w) (n : Nat) : Below B a (w.drewN n) := ⟨h.os, h.tape, h.output, h.size, h.block⟩

theorem increasing_any (A : Option Addr) (c : Nat) (ws : List Str) (w : World) (hr : Reads w w.heap.size 1 A ws.length (ws.map sv)) (hn : ws.length ≤ 2 ^ 40) :
    Calls Tryz.prog 52 #[.slice A ws.length c] w fun e w' => e = .returned (.bool (incB ws)) ∧ Below w.heap.size w w' := by
  go_enter Tryz.func52, Tryz.ntmps52
  go_wp2_with (fail)
  go_loopw [3] (fun i wr => ∃ k : Nat, 1 ≤ k ∧ k ≤ ws.length + 1 ∧ i = .int .i64 k ∧ Hid (incB ws = incB (ws.drop (k - 1))) ∧ Below w.heap.size w wr) (fun i _ => ws.length + 1 - (intOf i).toNat)
  case atStart => exact ⟨1, by omega, by omega, rfl, rfl, Below.refl _ _⟩
  case round =>
    obtain ⟨k, hk1, hk2, rfl, he, hb⟩ := hrel
    by_cases hlt : k < ws.length
    · obtain ⟨ad, rfl, _, hc0⟩ := (hr.below hb).el (k := k - 1) (by omega)
      obtain ⟨ad', e1, _, hc1⟩ := (hr.below hb).el (k := k) hlt
      cases e1
      have hd := Lib.hid (incB_drop ws k hk1 hlt)
      generalize ws[k - 1] = x at *
      generalize ws[k] = y at *
      cases hxy : Op.bytesLess x y
      · go_wp2_with (fail)
        go_quiet (fail)
        go_wp2
        go_ret
        exact ⟨ret_bool (by rw [he.out, hd.out, sLt, hxy]; rfl), below_drewN hb _⟩
      · go_wp2_with (fail)
        go_quiet (fail)
        go_wp2
        go_roundw
        case rel => exact ⟨k + 1, by omega, by omega, by go_num, Lib.hid (by rw [he.out, hd.out, sLt, hxy]; rfl), below_drewN hb _⟩
        case measure => simp [intOf]; omega
    · have he2 := Lib.hid (incB_end ws k hk1 (by omega))
      go_wp2
      go_ret
      exact ⟨ret_bool (by rw [he.out, he2.out]), hb⟩

theorem iValidLexicon_any (A : Option Addr) (c : Nat) (ws : List Str) (w : World) (hr : Reads w w.heap.size 1 A ws.length (ws.map sv)) (hn : ws.length ≤ 2 ^ 40) (hs : ∀ x ∈ ws, x.length ≤ 2 ^ 40) :
    Calls Tryz.prog 30 #[.agg #[.slice A ws.length c]] w fun e w' => e = .returned (.bool (lexB ws)) ∧ Below w.heap.size w w' := by
  have hlex : lexB ws = (incB ws && ws.all longB && decide (ws.length ≤ 200)) := by unfold lexB; rw [lexFrom_eq]
  have Hlex := Lib.hid hlex
  clear hlex
  by_cases h200 : 200 < ws.length
  · go_enter Tryz.func30, Tryz.ntmps30
    go_wp2_with (fail)
    go_ret
    exact ⟨ret_bool (by rw [Hlex.out]; simp; omega), (Below.refl _ _).alloc (Nat.le_refl _) _⟩
  cases hinc : incB ws
  · go_enter Tryz.func30, Tryz.ntmps30
    go_wp2_with (go_at_call 52; refine (increasing_any _ _ ws _ (hr.alloc (Nat.le_refl _) _ |>.more (by simp)) hn).mono ?_; rintro e w' ⟨rfl, hb⟩)
    go_ret
    exact ⟨ret_bool (by rw [Hlex.out, hinc]; simp), ((Below.refl _ _).alloc (Nat.le_refl _) _).trans (hb.mono (by simp))⟩
  · go_enter Tryz.func30, Tryz.ntmps30
    go_wp2_with (go_at_call 52; refine (increasing_any _ _ ws _ (hr.alloc (Nat.le_refl _) _ |>.more (by simp)) hn).mono ?_; rintro e w' ⟨rfl, hb⟩; have hbc := bcell hb)
    have hr1 : Reads w' w.heap.size 1 A ws.length (ws.map sv) := (hr.alloc (Nat.le_refl _) _).below' hb (by simp)
    have hb1 : Below w.heap.size w w' := ((Below.refl _ _).alloc (Nat.le_refl _) _).trans (hb.mono (by simp))
    clear hbc hb
    go_loopw [18] (fun i wr => ∃ k : Nat, k ≤ ws.length ∧ i = .int .i64 k ∧ Hid (ws.all longB = (ws.drop k).all longB) ∧ Below w.heap.size w wr) (fun i _ => ws.length - (intOf i).toNat)
    case atStart => exact ⟨0, by omega, rfl, rfl, hb1⟩
    case round =>
      obtain ⟨k, hk, rfl, he, hb2⟩ := hrel
      by_cases hlt : k < ws.length
      · obtain ⟨ad, rfl, _, hc0⟩ := (hr.below hb2).el (k := k) hlt
        have hd := Lib.hid (drop_cons ws k hlt)
        have hx := hs ws[k] (List.getElem_mem _)
        generalize ws[k] = x at *
        cases hxl : longB x
        all_goals
          go_wp2_with (go_at_call 53; refine (isLong_any _ _ hx).mono ?_; rintro e w3 ⟨rfl, hb3⟩)
        · go_ret
          exact ⟨ret_bool (by rw [Hlex.out, he.out, hd.out, List.all_cons, hxl]; simp), hb2.trans (hb3.mono hb2.size)⟩
        · go_roundw
          case rel => exact ⟨k + 1, by omega, by go_num, Lib.hid (by rw [he.out, hd.out, List.all_cons, hxl]; simp), hb2.trans (hb3.mono hb2.size)⟩
          case measure => simp [intOf]; omega
      · rw [drop_all ws k (by omega)] at he
        go_wp2
        go_ret
        exact ⟨ret_bool (by rw [Hlex.out, hinc, he.out]; simp; omega), hb2⟩

theorem l05Ok_any (A : Option Addr) (c : Nat) (ws : List Str) (p : Addr) (w : World) (hp : w.cell? p = some (.slice A ws.length c)) (hr : Reads w w.heap.size 1 A ws.length (ws.map sv)) (hn : ws.length ≤ 2 ^ 40) (hs : ∀ x ∈ ws, x.length ≤ 2 ^ 40) :
    Calls Tryz.prog 25 #[.pointer (some p)] w fun e w' => e = .returned (.bool (lexB ws)) ∧ Below w.heap.size w w' := by
  go_enter Tryz.func25, Tryz.ntmps25
  go_wp2_with (fail)
  go_loopw [3] (fun i wr => ∃ k : Nat, k ≤ ws.length ∧ i = .int .i64 k ∧ Hid (lexFrom none ws = lexFrom (prevOf ws k) (ws.drop k)) ∧ Below w.heap.size w wr) (fun i _ => ws.length - (intOf i).toNat)
  case atStart => exact ⟨0, by omega, rfl, rfl, Below.refl _ _⟩
  case round =>
    obtain ⟨k, hk, rfl, he, hb2⟩ := hrel
    have hp1 : wr.cell? p = some (.slice A ws.length c) := (hb2.cell (World.block_lt_of_cell? w p hp)).trans hp
    by_cases hlt : k < ws.length
    · obtain ⟨ad, rfl, _, hc0⟩ := (hr.below hb2).el (k := k) hlt
      have hd := Lib.hid (drop_cons ws k hlt)
      have hx := hs ws[k] (List.getElem_mem _)
      cases hxl : longB ws[k]
      · go_wp2_with (fail)
        go_quiet ((go_at_call 44; exact Calls.quiet_of_same ((l05Long_any _ _ hx).mono fun _ _ ⟨a, b⟩ => ⟨a, b.symm⟩)))
        go_wp2
        go_ret
        exact ⟨ret_bool (by rw [lexB, he.out, hd.out]; cases prevOf ws k <;> simp [lexFrom, hxl]), below_drewN hb2 _⟩
      · by_cases h0 : 0 < k
        · obtain ⟨ad', e1, _, hc1⟩ := (hr.below hb2).el (k := k - 1) (by omega)
          cases e1
          have hpv : Hid (prevOf ws k = some ws[k - 1]) := by
            unfold prevOf Hid; rw [if_neg (by omega)]; exact List.getElem?_eq_getElem (by omega)
          generalize ws[k - 1] = y at *
          generalize hxe : ws[k] = x at *
          have hxe' := Lib.hid hxe
          clear hxe
          have hle := sLe_eq x y
          cases hxy : Op.bytesLess y x
          all_goals rw [hxy] at hle
          · go_wp2_with (fail)
            go_quiet ((go_at_call 44; exact Calls.quiet_of_same ((l05Long_any _ _ hx).mono fun _ _ ⟨a, b⟩ => ⟨a, b.symm⟩)))
            go_wp2
            go_ret
            exact ⟨ret_bool (by rw [lexB, he.out, hd.out, hpv.out]; simp [lexFrom, hxl, sLt, hxy]), below_drewN hb2 _⟩
          · go_wp2_with (fail)
            go_quiet ((go_at_call 44; exact Calls.quiet_of_same ((l05Long_any _ _ hx).mono fun _ _ ⟨a, b⟩ => ⟨a, b.symm⟩)))
            go_wp2
            go_roundw
            case rel => exact ⟨k + 1, by omega, by go_num, Lib.hid (by rw [he.out, hd.out, hpv.out, lexFrom, hxl, sLt, hxy]; simp [prevOf, hlt, hxe'.out]), below_drewN hb2 _⟩
            case measure => simp [intOf]; omega
        · have hk0 : k = 0 := by omega
          have hg : decide ((0 : Int) < (k : Int)) = false := by simp; omega
          have hpv : Hid (prevOf ws k = none) := by unfold prevOf Hid; rw [if_pos hk0]
          have hk0' := Lib.hid hk0
          clear hk0
          generalize hxe : ws[k] = x at *
          have hxe' := Lib.hid hxe
          clear hxe
          go_wp2_with (fail)
          go_quiet ((go_at_call 44; exact Calls.quiet_of_same ((l05Long_any _ _ hx).mono fun _ _ ⟨a, b⟩ => ⟨a, b.symm⟩)))
          go_wp2
          go_roundw
          case rel => exact ⟨k + 1, by omega, by go_num, Lib.hid (by rw [he.out, hd.out, hpv.out, lexFrom, hxl]; simp [prevOf, hlt, hxe'.out]), below_drewN hb2 _⟩
          case measure => simp [intOf]; omega
    · rw [drop_all ws k (by omega)] at he
      go_wp2
      go_ret
      exact ⟨ret_bool (by rw [lexB, he.out]; cases prevOf ws k <;> simp [lexFrom] <;> omega), hb2⟩
end Go.Proofs.YtamdcbbclkobiaaGreatDoor
/-
  Words for rows that a call makes: append of new elements, bytes made of a string and stored into, strings made of bytes.
  Conditions: none.
-/
namespace Go.Proofs.YtamdcbbclkobiaaGreatDoor
open Go.RowKit RegP

/-- A slice type T of elements E whose zero is z, of so many cells and bytes. -/
structure SlT (P : Program) (T E : TypeId) (z : Value) (size bytes : Nat) : Prop where
  ht : P.underlying T = some (.slice E)
  hi : (P.info? E).map (fun i => (i.zero, i.size, i.bytes)) = some (some z, size, bytes)
  hz : z.cells.size = size
  pos : 0 < size

section
variable {P : Program} {w w0 w1 w' : World} {base e size n : Nat} {v z : Value} {xs : List Value} {T bytes : Nat}

/-- append of one element that a literal has just laid: '.. append(s, x)'. -/
theorem wpList_app {ops : Array Oper} {rest : List Oper} {o : Oper} {a : Act} {Q : Exit → Act → World → Prop} (hT : SlT P T e z size bytes) (hgd : o.guard = none) (s x : Operand)
    (ho : o.op = .call { callee := .builtin .append, args := #[s, x], argTypes := #[T, T] })
    (v : Value) (n : Nat) (xs : List Value) (hs : a.eval s = v) (base : Nat) (hown : w0.ownsRow base e size v n xs) (us : List Value) (hu : us.length = size) (h1 : ∀ u ∈ us, u.oneCell' = true)
    (hx : a.eval x = .slice (some ⟨w0.heap.size, 0, none⟩) 1 1) (hn : n + 1 ≤ 1099511627776) (hby : bytes ≤ 128) (hbase : base ≤ w0.heap.size)
    (h : ∀ v' w', w'.ownsRow base e size v' (n + 1) (xs ++ us) → w0.grownBy w' v.ownBlock → (v'.ownBlock = v.ownBlock ∨ v'.ownBlock = some (w0.heap.size + 1)) → wpList P ops Q rest (a.put o.dst v') w') :
    wpList P ops Q (o :: rest) a (w0.alloc (.cells us.toArray e)) := by
  cases hq : P.info? e with
  | none => have := hT.hi; rw [hq] at this; cases this
  | some i =>
    have hii := hT.hi
    rw [hq] at hii
    simp only [Option.map_some, Option.some.injEq, Prod.mk.injEq] at hii
    obtain ⟨hz, hsz, hbt⟩ := hii
    refine wpList_append_own_at (w0.alloc (.cells us.toArray e)) hgd s x T ho base e i z size bytes hT.ht hq hz hsz hbt hT.hz hT.pos v n xs hs (hown.alloc _) ⟨w0.heap.size, 0, none⟩ 1 1 us hx (by omega) ?_ h1 ?_ ?_ ?_ ?_
    · intro j u hj
      have hadd : (⟨w0.heap.size, 0, none⟩ : Addr).add j = ⟨w0.heap.size, j, none⟩ := by unfold Addr.add; split <;> simp_all
      rw [hadd, cell_of_row _ _ j us.toArray e (0, 0) (heap_alloc_new w0 _)]
      simpa using hj
    · unfold maxLen; omega
    · have : (n + 1) * bytes ≤ 1099511627776 * 128 := Nat.mul_le_mul hn hby
      omega
    · simp; omega
    · intro v' w' k1 k2 _ k3
      refine h v' w' k1 ⟨k2.os, k2.tape, k2.output, ?_, ?_⟩ ?_
      · have := k2.size; simp at this; omega
      · intro k hk hne
        rw [k2.block k (by simp; omega) hne, Below.heap_alloc w0 _ k hk]
      · rcases k3 with k3 | k3
        · exact .inl k3
        · exact .inr (by simpa using k3)

theorem wpList_app' {ops : Array Oper} {rest : List Oper} {o : Oper} {a : Act} {Q : Exit → Act → World → Prop} (hT : SlT P T e z size bytes) (hgd : o.guard = none) (s x : Operand)
    (ho : o.op = .call { callee := .builtin .append, args := #[s, x], argTypes := #[T, T] })
    (v : Value) (n : Nat) (xs : List Value) (hs : a.eval s = v) (base : Nat) (hown : w0.ownsRow base e size v n xs) (us : List Value) (hu : us.length = size) (h1 : ∀ u ∈ us, u.oneCell' = true)
    (g : Nat) (hg : g = w0.heap.size) (hx : a.eval x = .slice (some ⟨g, 0, none⟩) 1 1) (hn : n + 1 ≤ 1099511627776) (hby : bytes ≤ 128) (hbase : base ≤ w0.heap.size)
    (h : ∀ v' w', w'.ownsRow base e size v' (n + 1) (xs ++ us) → w0.grownBy w' v.ownBlock → (v'.ownBlock = v.ownBlock ∨ v'.ownBlock = some (w0.heap.size + 1)) → wpList P ops Q rest (a.put o.dst v') w') :
    wpList P ops Q (o :: rest) a (w0.alloc (.cells us.toArray e)) := by
  subst hg
  exact wpList_app hT hgd s x ho v n xs hs base hown us hu h1 hx hn hby hbase h

/-- append of a whole slice that reads as a list: '.. append(s, xs...)'. -/
theorem wpList_apps {ops : Array Oper} {rest : List Oper} {o : Oper} {a : Act} {Q : Exit → Act → World → Prop} (hT : SlT P T e z size bytes) (hgd : o.guard = none) (s x : Operand)
    (ho : o.op = .call { callee := .builtin .append, args := #[s, x], argTypes := #[T, T] })
    (v : Value) (n : Nat) (xs : List Value) (hs : a.eval s = v) (base : Nat) (hown : w.ownsRow base e size v n xs) (B : Nat) (A : Option Addr) (m c : Nat) (us : List Value) (hx : a.eval x = .slice A m c) (hr : Reads w B size A m us)
    (h1 : ∀ u ∈ us, u.oneCell' = true) (hn : n + m ≤ 1099511627776) (hby : bytes ≤ 128) (hbase : base ≤ w.heap.size)
    (h : ∀ v' w', w'.ownsRow base e size v' (n + m) (xs ++ us) → w.grownBy w' v.ownBlock → (v'.ownBlock = v.ownBlock ∨ v'.ownBlock = some w.heap.size) → wpList P ops Q rest (a.put o.dst v') w') :
    wpList P ops Q (o :: rest) a w := by
  cases hq : P.info? e with
  | none => have := hT.hi; rw [hq] at this; cases this
  | some i =>
    have hii := hT.hi
    rw [hq] at hii
    simp only [Option.map_some, Option.some.injEq, Prod.mk.injEq] at hii
    obtain ⟨hz, hsz, hbt⟩ := hii
    have hmul : (n + m) * bytes ≤ 140737488355328 := by
      have : (n + m) * bytes ≤ 1099511627776 * 128 := Nat.mul_le_mul hn hby
      omega
    have hml : n + m ≤ maxLen := by unfold maxLen; omega
    rcases A with _ | ad
    · have hm : m = 0 := by
        rcases Nat.eq_zero_or_pos m with h0 | h0
        · exact h0
        · obtain ⟨ad, h, _⟩ := hr.2 h0
          cases h
      subst hm
      have hn' : us = [] := List.eq_nil_of_length_eq_zero (by simpa using hr.1)
      subst hn'
      have hrun : (Builtin.append_ #[T, T] o.type #[v, .slice none 0 c]).run P w = .ok v w := by
        rcases hown.2 with ⟨rfl, rfl⟩ | ⟨g, cap, cur, rfl, _, _, hnc, _⟩
        · simp [Builtin.append_, run_underlying hT.ht, sizeOf, typeInfo, hq, Builtin.lenOf, Builtin.firstCells]
        · simp [Builtin.append_, run_underlying hT.ht, sizeOf, typeInfo, hq, Builtin.lenOf, Builtin.firstCells, hnc, storeCells]
      refine wpList_plain hgd fun K hK => ?_
      unfold Oper.wp execOp
      simp only [ho, resolve, invoke, builtin, Sem.run_bind, Sem.run_pure, Result.andThen_ok, List.map_toArray, List.map_cons, List.map_nil, hs, hx, hrun]
      exact hK _ _ (h v w (by simpa using hown) (World.grownBy.refl w _) (.inl rfl))
    · have hcells : ∀ j u, us[j]? = some u → w.cell? (ad.add j) = some u := by
        intro j u hu
        rcases Nat.eq_zero_or_pos m with h0 | h0
        · subst h0
          have hn' : us = [] := List.eq_nil_of_length_eq_zero (by simpa using hr.1)
          subst hn'
          simp at hu
        · obtain ⟨ad', h, _, hc⟩ := hr.2 h0
          injection h with h
          subst h
          exact hc j u hu
      exact wpList_append_own_at w hgd s x T ho base e i z size bytes hT.ht hq hz hsz hbt hT.hz hT.pos v n xs hs hown ad m c us hx hr.1 hcells h1 hml hmul hbase (fun v' w' k1 k2 _ k3 => h v' w' k1 k2 k3)

/-- What an owned row's growth leaves below. -/
theorem Below.own {B : Nat} {a : World} (hb : Below B a w) (hle : B ≤ w.heap.size) (hown : w.ownsRow base e size v n xs) (hB : B ≤ base) (hg : w.grownBy w' v.ownBlock) : Below B a w' :=
  hb.grown hg hle (fun k hk => Nat.le_trans hB (hown.lt k hk).1)
end

/-- 's[k:]', the model's 'if' under one name. -/
def cutA (c : Nat) (A : Option Addr) (k size : Nat) : Option Addr := if c = k then A else A.map (·.add (k * size))
theorem run_cut {P : Program} {T e size bytes : Nat} {z : Value} (hT : SlT P T e z size bytes) (A : Option Addr) (n c k : Nat) (hk : k ≤ n) (w : World) :
    (Instr.slice T (.slice A n c) (some (.int .i64 (k : Int))) none none).run P w = .ok (.slice (cutA c A k size) (n - k) (c - k)) w := by
  cases hq : P.info? e with
  | none => have := hT.hi; rw [hq] at this; cases this
  | some i =>
    have hii := hT.hi
    rw [hq] at hii
    simp only [Option.map_some, Option.some.injEq, Prod.mk.injEq] at hii
    have hel : P.elem T = e := by simp [Program.elem, hT.ht]
    have ht' : P.underlying T = some (.slice (P.elem T)) := by rw [hel]; exact hT.ht
    rw [run_slice_l (t := T) w A n c ht' .i64 (k : Int) (by omega) (by omega), hel]
    simp [sizeOf, typeInfo, hq, hii.2.1, sliced, cutA]
/-- 's[:k]'. -/
theorem run_pre {P : Program} {T e size bytes : Nat} {z : Value} (hT : SlT P T e z size bytes) (A : Option Addr) (n c k : Nat) (hk : k ≤ c) (w : World) :
    (Instr.slice T (.slice A n c) none (some (.int .i64 (k : Int))) none).run P w = .ok (.slice A k c) w := by
  cases hq : P.info? e with
  | none => have := hT.hi; rw [hq] at this; cases this
  | some i =>
    have hii := hT.hi
    rw [hq] at hii
    simp only [Option.map_some, Option.some.injEq, Prod.mk.injEq] at hii
    have hel : P.elem T = e := by simp [Program.elem, hT.ht]
    have ht' : P.underlying T = some (.slice (P.elem T)) := by rw [hel]; exact hT.ht
    rw [run_slice_h (t := T) w A n c ht' .i64 (k : Int) (by omega) (by omega), hel]
    have h0 : ∀ a : Addr, a.add 0 = a := fun a => by simp [Addr.add]
    cases A <;> simp [sizeOf, typeInfo, hq, hii.2.1, sliced, h0]
theorem Reads.cutA {w : World} {B size n k cap : Nat} {A : Option Addr} {xs : List Value} (h : Reads w B size A n xs) (hk : k ≤ n) (hc : n ≤ cap) :
    Reads w B size (cutA cap A k size) (n - k) (xs.drop (k * size)) := h.cut hk hc
theorem own_cast {w : World} {base e size n n' : Nat} {v : Value} {xs xs' : List Value} (h : w.ownsRow base e size v n xs) (hx : xs = xs') (hn : n = n') : w.ownsRow base e size v n' xs' := by rw [← hn, ← hx]; exact h
theorem own_below {w w' : World} {B base size n : Nat} {e : TypeId} {v : Value} {xs : List Value} (h : w.ownsRow base e size v n xs) (hb : Below B w w') (hB : ∀ k, v.ownBlock = some k → k < B := by intros; omega) : w'.ownsRow base e size v n xs := by
  refine ⟨h.1, h.2.imp id ?_⟩
  rintro ⟨g, cap, cur, rfl, h1, h2, h3⟩
  exact ⟨g, cap, cur, rfl, h1, (hb.block g (hB g rfl)).trans h2, h3⟩
/-- An owned row behind a call: all that it leaves lies below the heap's size. -/
theorem own_call {w w' : World} {base size n : Nat} {e : TypeId} {v : Value} {xs : List Value} (h : w.ownsRow base e size v n xs) (hb : Below w.heap.size w w') : w'.ownsRow base e size v n xs :=
  own_below h hb (fun k hk => (h.lt k hk).2)
theorem one_sv (l : List Str) : ∀ u ∈ l.map sv, u.oneCell' = true := by
  intro u hu
  obtain ⟨x, _, rfl⟩ := List.mem_map.1 hu
  rfl
theorem one_take {l : List Value} (h : ∀ u ∈ l, u.oneCell' = true) (k : Nat) : ∀ u ∈ l.take k, u.oneCell' = true := fun u hu => h u (List.mem_of_mem_take hu)
theorem one_drop {l : List Value} (h : ∀ u ∈ l, u.oneCell' = true) (k : Nat) : ∀ u ∈ l.drop k, u.oneCell' = true := fun u hu => h u (List.mem_of_mem_drop hu)
/-- The slice that an owned row is, with its capacity. -/
theorem own_sl {w : World} {base e size n : Nat} {v : Value} {xs : List Value} (h : w.ownsRow base e size v n xs) : ∃ A c, v = .slice A n c ∧ n ≤ c ∧ Reads w w.heap.size size A n xs := by
  rcases h.2 with ⟨rfl, rfl⟩ | ⟨g, cap, cur, rfl, _, _, hc, _⟩
  · exact ⟨none, 0, rfl, Nat.le_refl _, Reads.of_own h⟩
  · exact ⟨_, cap, rfl, hc, Reads.of_own h⟩
theorem own_lo {w : World} {base e size n c : Nat} {A : Option Addr} {xs : List Value} (h : w.ownsRow base e size (.slice A n c) n xs) : ∀ ad, A = some ad → base ≤ ad.block := by
  rintro ad rfl
  exact (h.lt ad.block rfl).1
/-- len of an owned row. -/
theorem run_len_own {P : Program} (w : World) {T e ty base size n : Nat} {v : Value} {xs : List Value} (ht : P.underlying T = some (.slice e)) (h : w.ownsRow base e size v n xs) (hn : n ≤ maxLen) (w' : World) :
    (Builtin.len_ #[T] ty #[v]).run P w' = .ok (.int .i64 n) w' := by
  unfold maxLen at hn
  rcases h.2 with ⟨rfl, rfl⟩ | ⟨g, cap, cur, rfl, _⟩
  · simp [Builtin.len_, run_underlying ht, go_sem]
  · simp [Builtin.len_, run_underlying ht, go_sem]

/-- A string of an owned row of bytes. -/
theorem run_string_own {P : Program} (w : World) (src dst e : TypeId) (hs : P.underlying src = some (.slice e)) (he : P.underlying e = some (.int .u8)) (hd : P.underlying dst = some .string) {base : Nat} {v : Value} {l : Str} (h : w.ownsRow base e 1 v l.length (l.map bv)) :
    (convert src dst v).run P w = .ok (sv l) w := by
  rcases h.2 with ⟨rfl, h0⟩ | ⟨g, cap, cur, rfl, _⟩
  · rw [run_convert_bytes_nil w src e hs he 0 0 dst hd]
    have : l = [] := List.eq_nil_of_length_eq_zero h0
    subst this; rfl
  · refine run_convert_bytes_back w src dst e ⟨g, 0, none⟩ cap l hs he hd fun j hj => ?_
    have hadd : (⟨g, 0, none⟩ : Addr).add j = ⟨g, j, none⟩ := by unfold Addr.add; split <;> simp_all
    rw [hadd, h.cellAt j (by omega), List.getElem?_map, List.getElem?_eq_getElem hj]; rfl

/-! ### Bytes made of a string: a row whose mark lies behind its cells -/
def BRow (w : World) (base g : Nat) (e : TypeId) (xs : List Value) : Prop :=
  base ≤ g ∧ ∃ cur lo hi, w.heap[g]? = some (.cells cur e (lo, hi)) ∧ xs.length ≤ lo ∧ xs.length ≤ cur.size ∧ cur.toList.take xs.length = xs
section
variable {w w' : World} {base g : Nat} {e : TypeId} {xs : List Value}
theorem BRow.lt (h : BRow w base g e xs) : g < w.heap.size := by
  obtain ⟨_, cur, lo, hi, hh, _⟩ := h
  rcases Nat.lt_or_ge g w.heap.size with hlt | hge
  · exact hlt
  · rw [Array.getElem?_eq_none hge] at hh; cases hh
theorem BRow.cell (h : BRow w base g e xs) {j : Nat} (hj : j < xs.length) : w.cell? ⟨g, j, none⟩ = some xs[j] := by
  obtain ⟨_, cur, lo, hi, hh, _, _, ht⟩ := h
  rw [cell_of_row w g j cur e (lo, hi) hh]
  have : (cur.toList.take xs.length)[j]? = cur.toList[j]? := by rw [List.getElem?_take, if_pos hj]
  rw [ht] at this
  rw [List.getElem?_eq_getElem hj] at this
  simpa using this.symm
theorem BRow.frozen (h : BRow w base g e xs) {j : Nat} (hj : j < xs.length) : w.frozen? ⟨g, j, none⟩ = false := by
  obtain ⟨_, cur, lo, hi, hh, hl, _⟩ := h
  simp [World.frozen?, hh]; omega
theorem BRow.keep (h : BRow w base g e xs) (hk : w'.heap[g]? = w.heap[g]?) : BRow w' base g e xs := by
  obtain ⟨hb, cur, lo, hi, hh, h2⟩ := h
  exact ⟨hb, cur, lo, hi, hk.trans hh, h2⟩
theorem BRow.below {B : Nat} (h : BRow w base g e xs) (hb : Below B w w') (hg : g < B) : BRow w' base g e xs := h.keep (hb.block g hg)
theorem BRow.stored (h : BRow w base g e xs) (j : Nat) (u : Value) : BRow (w.setCell ⟨g, j, none⟩ u) base g e (xs.set j u) := by
  obtain ⟨hb, cur, lo, hi, hh, h1, h2, h3⟩ := h
  refine ⟨hb, cur.setIfInBounds j u, lo, hi, ?_, by simpa using h1, by simpa using h2, ?_⟩
  · simp [World.setCell, Array.getElem?_modify, hh]
  · rw [Array.toList_setIfInBounds, List.length_set, List.take_set, h3]
theorem BRow.of_string (w : World) (l : Str) (cap : Nat) (e : TypeId) : BRow (w.alloc (.cells (bytesRow ⟨l.toArray⟩ cap) e ((bytesRow ⟨l.toArray⟩ cap).size, (bytesRow ⟨l.toArray⟩ cap).size + 1))) w.heap.size w.heap.size e (l.map bv) := by
  refine ⟨Nat.le_refl _, bytesRow ⟨l.toArray⟩ cap, _, _, heap_alloc_new w _, ?_, ?_, ?_⟩
  · simp [bytesRow]
  · simp [bytesRow]
  · simp [bytesRow]
end
/-- A string of such bytes. -/
theorem run_string_brow {P : Program} (w : World) (src dst e : TypeId) (hs : P.underlying src = some (.slice e)) (he : P.underlying e = some (.int .u8)) (hd : P.underlying dst = some .string) {base g n cap : Nat} {l : Str} (h : BRow w base g e (l.map bv)) (hn : n = l.length) :
    (convert src dst (.slice (some ⟨g, 0, none⟩) n cap)).run P w = .ok (sv l) w := by
  subst hn
  refine run_convert_bytes_back w src dst e ⟨g, 0, none⟩ cap l hs he hd fun j hj => ?_
  have hadd : (⟨g, 0, none⟩ : Addr).add j = ⟨g, j, none⟩ := by unfold Addr.add; split <;> simp_all
  rw [hadd, h.cell (by simpa using hj)]; simp
end Go.Proofs.YtamdcbbclkobiaaGreatDoor
/-
  Contracts: piles of the reference (layer 3 of the spec package).
  Conditions: lengths at most 2^20.
-/
namespace Go.Proofs.YtamdcbbclkobiaaGreatDoor
open Go.RowKit RegP
set_option maxHeartbeats 400000

def tileB (c : UInt8) : Bool := (c == 63) || smallB c
def leB (a b : UInt8) : Bool := decide (a.toNat ≤ b.toNat)
def pileFrom : Option UInt8 → Str → Bool
  | _, [] => true
  | none, a :: r => tileB a && pileFrom (some a) r
  | some q, a :: r => tileB a && leB q a && pileFrom (some a) r
def prevC (s : Str) (k : Nat) : Option UInt8 := if k = 0 then none else s[k - 1]?
def pileB (s : Str) : Bool := pileFrom none s && decide (s.length ≤ 120)
def rackB (s : Str) : Bool := pileB s && decide (s.length ≤ 7)
/-- What is left of a pile, and what of the other one was not found. -/
def takeGo : Str → Str → Str × Str
  | [], b => ([], b)
  | x :: a, [] => (x :: (takeGo a []).1, [])
  | x :: a, y :: b => if y = x then takeGo a b else (x :: (takeGo a (y :: b)).1, (takeGo a (y :: b)).2)
theorem takeGo_nil : ∀ a : Str, (takeGo a []).2 = []
  | [] => rfl
  | _ :: _ => rfl
def takeS (a b : Str) : Str := (takeGo a b).1
def takeB (a b : Str) : Bool := (takeGo a b).2.isEmpty

/-- Only draws lie between two worlds. -/
def Dr (w w' : World) : Prop := ∃ n, w' = w.drewN n
theorem Dr.refl (w : World) : Dr w w := ⟨0, rfl⟩
theorem Dr.more {w w' : World} (h : Dr w w') (n : Nat) : Dr w (w'.drewN n) := let ⟨m, e⟩ := h; ⟨m + n, by rw [e, World.drewN_drewN]⟩
theorem Dr.below {w w' : World} (h : Dr w w') : Below w.heap.size w w' := let ⟨m, e⟩ := h; by rw [e]; exact below_drewN (Below.refl _ _) m
theorem quiet_dr {P : Program} {f : FuncId} {args : Array Value} {w : World} {n : Nat} {v : Value} (h : Calls P f args (w.drewN n) fun e w' => e = .returned v ∧ Dr (w.drewN n) w') :
    Calls P f args (w.drewN n) fun e w'' => e = .returned v ∧ ∃ m, w'' = w.drewN m := Calls.quiet_of h
theorem quiet_eq {P : Program} {f : FuncId} {args : Array Value} {w : World} {n : Nat} {v : Value} (h : Calls P f args (w.drewN n) fun e w' => e = .returned v ∧ w.drewN n = w') :
    Calls P f args (w.drewN n) fun e w'' => e = .returned v ∧ ∃ m, w'' = w.drewN m := Calls.quiet_of_same (h.mono fun _ _ ⟨a, b⟩ => ⟨a, b.symm⟩)

theorem World.ownsRow.drewN {w : World} {base e size n : Nat} {v : Value} {xs : List Value} (h : w.ownsRow base e size v n xs) (k : Nat) : (w.drewN k).ownsRow base e size v n xs := h

theorem byteT : SlT Tryz.prog 57 5 (.int .u8 0) 1 1 := ⟨Tryz.underlying57, by kernel_rfl, rfl, by decide⟩
theorem strT : SlT Tryz.prog 22 9 (sv []) 1 16 := ⟨Tryz.underlying22, by kernel_rfl, rfl, by decide⟩

theorem l03Tile_any (c : UInt8) (w : World) :
    Calls Tryz.prog 93 #[bv c] w fun e w' => e = .returned (.bool (tileB c)) ∧ w = w' := by
  unfold tileB
  have hq := u8_eq c 63
  cases h : (c == 63)
  all_goals
    rw [h] at hq
    have hq' : ((c.toNat : Int) == 63) = _ := hq
    clear hq
    go_enter Tryz.func93, Tryz.ntmps93
    go_wp2_with (go_at_call 92; refine (l01Small_any _ _).mono ?_; rintro e w' ⟨rfl, rfl⟩)
    go_ret
    exact ⟨rfl, rfl⟩

theorem l03Pile_any (s : Str) (w : World) (hs : s.length ≤ 2 ^ 40) :
    Calls Tryz.prog 48 #[sv s] w fun e w' => e = .returned (.bool (pileB s)) ∧ Dr w w' := by
  go_enter Tryz.func48, Tryz.ntmps48
  go_wp2_with (fail)
  go_loopw [3] (fun i wr => ∃ k : Nat, k ≤ s.length ∧ i = .int .i64 k ∧ Hid (pileFrom none s = pileFrom (prevC s k) (s.drop k)) ∧ Dr w wr) (fun i _ => s.length - (intOf i).toNat)
  case atStart => exact ⟨0, by omega, rfl, rfl, Dr.refl _⟩
  case round =>
    obtain ⟨k, hk, rfl, he, hw⟩ := hrel
    by_cases hlt : k < s.length
    · have hd := Lib.hid (drop_cons s k hlt)
      have hlt' : (k : Int) < (s.length : Int) := by omega
      have h0' : (0 : Int) ≤ (k : Int) := by omega
      cases hxl : tileB s[k]
      · go_wp2_with (fail)
        go_quiet ((go_at_call 93; exact quiet_eq (l03Tile_any _ _)))
        go_wp2
        go_ret
        exact ⟨ret_bool (by rw [pileB, he.out, hd.out]; cases prevC s k <;> simp [pileFrom, hxl]), hw.more _⟩
      · by_cases h0 : 0 < k
        · have hpv : Hid (prevC s k = some (s[k - 1]'(by omega))) := by
            unfold prevC Hid; rw [if_neg (by omega)]; exact List.getElem?_eq_getElem (by omega)
          have hg : decide ((0 : Int) < (k : Int)) = true := by simp; omega
          have hi1 : (1 : Int) ≤ (k : Int) := by omega
          have hi2 : (k : Int) ≤ (s.length : Int) := by omega
          have hi4 : (0 : Int) ≤ (k : Int) - 1 := by omega
          have hi5 : (k : Int) - 1 < (s.length : Int) := by omega
          have hi3 : ((k : Int) - 1).toNat = k - 1 := by omega
          have hle : decide (s[k].toNat < (s[k - 1]'(by omega)).toNat) = !leB (s[k - 1]'(by omega)) s[k] := by
            unfold leB; rw [Bool.eq_iff_iff]; simp
          cases hxy : leB (s[k - 1]'(by omega)) s[k]
          all_goals
            rw [hxy] at hle
            go_wp2_with (fail)
            go_quiet ((go_at_call 93; exact quiet_eq (l03Tile_any _ _)))
            go_wp2
          · go_ret
            exact ⟨ret_bool (by rw [pileB, he.out, hd.out, hpv.out]; simp [pileFrom, hxl, hxy]), hw.more _⟩
          · go_roundw
            case rel => exact ⟨k + 1, by omega, by go_num, Lib.hid (by rw [he.out, hd.out, hpv.out, pileFrom, hxl, hxy]; simp [prevC, hlt]), hw.more _⟩
            case measure => simp [intOf]; omega
        · have hk0 : k = 0 := by omega
          have hg : decide ((0 : Int) < (k : Int)) = false := by simp; omega
          have hpv : Hid (prevC s k = none) := by unfold prevC Hid; rw [if_pos hk0]
          clear hk0
          go_wp2_with (fail)
          go_quiet ((go_at_call 93; exact quiet_eq (l03Tile_any _ _)))
          go_wp2
          go_roundw
          case rel => exact ⟨k + 1, by omega, by go_num, Lib.hid (by rw [he.out, hd.out, hpv.out, pileFrom, hxl]; simp [prevC, hlt]), hw.more _⟩
          case measure => simp [intOf]; omega
    · rw [drop_all s k (by omega)] at he
      go_wp2
      go_ret
      exact ⟨ret_bool (by rw [pileB, he.out]; cases prevC s k <;> simp [pileFrom] <;> omega), hw⟩
theorem l03Rack_any (s : Str) (w : World) (hs : s.length ≤ 2 ^ 40) :
    Calls Tryz.prog 27 #[sv s] w fun e w' => e = .returned (.bool (rackB s)) ∧ Dr w w' := by
  unfold rackB
  cases h : pileB s
  all_goals
    go_enter Tryz.func27, Tryz.ntmps27
    go_wp2_with (go_at_call 48; refine (l03Pile_any _ _ hs).mono ?_; rintro e w' ⟨rfl, hw⟩)
    go_ret
    exact ⟨ret_bool (by first | (simp; done) | (rw [Bool.eq_iff_iff]; simp; omega)), hw⟩
theorem l03Take_any (s b : Str) (w : World) (hs : s.length ≤ 2 ^ 38) (hb : b.length ≤ 2 ^ 38) :
    Calls Tryz.prog 149 #[sv s, sv b] w fun e w' => e = .returned (.tuple #[sv (takeS s b), .bool (takeB s b)]) ∧ Below w.heap.size w w' := by
  go_enter Tryz.func149, Tryz.ntmps149
  go_wp2_with (fail)
  go_loopw [6, 7, 8] (fun o kk i wr => ∃ (k j : Nat) (out : Str), k ≤ s.length ∧ j ≤ b.length ∧ i = .int .i64 k ∧ kk = .int .i64 j ∧ out.length ≤ k ∧ wr.ownsRow w.heap.size 5 1 o out.length (out.map bv) ∧
    Hid (takeS s b = out ++ takeS (s.drop k) (b.drop j) ∧ (takeGo s b).2 = (takeGo (s.drop k) (b.drop j)).2) ∧ Below w.heap.size w wr) (fun _ _ i _ => s.length - (intOf i).toNat)
  case atStart => exact ⟨0, 0, [], by omega, by omega, rfl, rfl, by simp, World.ownsRow_lit w #[] 0 (Nat.le_refl _) (by unfold maxLen; omega) rfl, ⟨rfl, rfl⟩, (Below.refl _ _).alloc (Nat.le_refl _) _⟩
  case round =>
    obtain ⟨k, j, out, hk, hj, rfl, rfl, hol, hown, he, hw⟩ := hrel
    by_cases hlt : k < s.length
    · have hd := Lib.hid (drop_cons s k hlt)
      have hlt' : (k : Int) < (s.length : Int) := by omega
      have h0' : (0 : Int) ≤ (k : Int) := by omega
      by_cases hjl : j < b.length
      · have hdb := Lib.hid (drop_cons b j hjl)
        have hjl' : (j : Int) < (b.length : Int) := by omega
        have h0j' : (0 : Int) ≤ (j : Int) := by omega
        have hq := u8_eq b[j] s[k]
        cases hxy : (b[j] == s[k])
        all_goals
          rw [hxy] at hq
          go_wp2_with (fail)
          go_quiet (fail)
        · go_wp2_with (at_builtin; refine wpList_app byteT rfl (.tmp 31) (.tmp 35) rfl _ _ _ rfl w.heap.size (World.ownsRow.drewN hown _) [bv s[k]] rfl (by simp [Value.oneCell']) rfl (by omega) (by omega) hw.size ?_; intro v1 w1 hown1 hg1 _)
          go_roundw
          case rel => exact ⟨k + 1, j, out ++ [s[k]], by omega, by omega, by go_num, rfl, by simp; omega, by simpa using hown1, Lib.hid (by
            obtain ⟨h1, h2⟩ := he.out
            rw [h1, h2, takeS, hd.out, hdb.out, takeGo, if_neg (by simpa using hxy), takeS]; simp), Below.own (below_drewN hw _) hw.size (World.ownsRow.drewN hown _) (Nat.le_refl _) hg1⟩
          case measure => simp [intOf]; omega
        · go_wp2
          go_roundw
          case rel => exact ⟨k + 1, j + 1, out, by omega, by omega, by go_num, by go_num, by omega, World.ownsRow.drewN hown _, Lib.hid (by
            obtain ⟨h1, h2⟩ := he.out
            rw [h1, h2, takeS, hd.out, hdb.out, takeGo, if_pos (by simpa using hxy), takeS]; exact ⟨rfl, rfl⟩), below_drewN hw _⟩
          case measure => simp [intOf]; omega
      · have hgf : decide (j < b.length) = false := by simp; omega
        have hgf' : decide ((j : Int) < (b.length : Int)) = false := by simp; omega
        have hbe := Lib.hid (drop_all b j (by omega))
        go_wp2_with (fail)
        go_quiet (fail)
        go_wp2_with (at_builtin; refine wpList_app byteT rfl (.tmp 31) (.tmp 35) rfl _ _ _ rfl w.heap.size (World.ownsRow.drewN hown _) [bv s[k]] rfl (by simp [Value.oneCell']) rfl (by omega) (by omega) hw.size ?_; intro v1 w1 hown1 hg1 _)
        go_roundw
        case rel => exact ⟨k + 1, j, out ++ [s[k]], by omega, by omega, by go_num, rfl, by simp; omega, by simpa using hown1, Lib.hid (by
            obtain ⟨h1, h2⟩ := he.out
            rw [h1, h2, takeS, hd.out, hbe.out, takeGo, takeS]; simp [takeGo_nil]), Below.own (below_drewN hw _) hw.size (World.ownsRow.drewN hown _) (Nat.le_refl _) hg1⟩
        case measure => simp [intOf]; omega
    · rw [drop_all s k (by omega)] at he
      have hcv := run_string_own (P := Tryz.prog) wr 57 9 5 Tryz.underlying57 Tryz.underlying5 Tryz.underlying9 hown
      go_wp2
      go_ret2
      obtain ⟨h1, h2⟩ := he.out
      have hlen : ((j : Int) == (b.length : Int)) = takeB s b := by
        rw [takeB, h2, takeGo, Bool.eq_iff_iff, beq_iff_eq, List.isEmpty_iff, List.drop_eq_nil_iff]; omega
      exact ⟨ret_tup2 (sv_eq (by rw [h1, takeS, takeGo, List.append_nil])) (vb_eq hlen), hw⟩
end Go.Proofs.YtamdcbbclkobiaaGreatDoor
