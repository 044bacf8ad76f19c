/-
  Contracts: sorting of bytes, small letters, tiles (layer 3 of the spec package); Contracts: small letters, tiles of words, what a word needs (layer 3 of the spec package); Contracts: whether a word can be made, insertion into ordered lists, ways (layer 3 of the spec package); Ordered lists of strings in plain Lean: insertion one by one, and sort with compact, give one list: the one that rises and has the same elements.
  Conditions: as each part below says.
-/
import Derived.Test.YtamdcbbclkobiaaGreatDoorM02
import Derived.Lib.SlicesCompact
/-
  Contracts: sorting of bytes, small letters, tiles (layer 3 of the spec package).
  Conditions: lengths at most 2^38.
-/
namespace Go.Proofs.YtamdcbbclkobiaaGreatDoor
open Go.RowKit RegP
set_option maxHeartbeats 400000

def insK (l : Str) (c : UInt8) : Nat → Nat
  | 0 => 0
  | k + 1 => if c.toNat < (l[k]?.getD 0).toNat then insK l c k else k + 1
def insR (l : Str) (c : UInt8) : Str := l.take (insK l c l.length) ++ c :: l.drop (insK l c l.length)
def isort (s : Str) : Str := s.foldl insR []
theorem insR_length (l : Str) (c : UInt8) : (insR l c).length = l.length + 1 := by unfold insR; simp; omega
theorem isort_length (s : Str) : (isort s).length = s.length := by
  have key : ∀ (s l : Str), (s.foldl insR l).length = l.length + s.length := by
    intro s
    induction s with
    | nil => intro l; simp
    | cons a s ih => intro l; rw [List.foldl_cons, ih, insR_length]; simp; omega
  simpa [isort] using key s []
theorem isort_take (s : Str) (k : Nat) (h : k < s.length) : isort (s.take (k + 1)) = insR (isort (s.take k)) s[k] := by
  rw [List.take_succ_eq_append_getElem h, isort, List.foldl_append]; rfl
theorem set_mid {α : Type} (a b : List α) (x y : α) (n : Nat) (h : a.length = n) : (a ++ x :: b).set n y = a ++ y :: b := by
  subst h
  rw [List.set_append_right _ _ (Nat.le_refl _)]
  simp

theorem sort_step (l : Str) (x : UInt8) (j : Nat) (h0 : 0 < j) (_hj : j ≤ l.length) (hjl : j - 1 < l.length) (_h : j ≤ l.length) :
    ((l.take (j - 1) ++ l[j - 1] :: l.drop (j - 1)).map bv) = ((l.take j ++ x :: l.drop j).map bv).set j (bv l[j - 1]) := by
  have hjl' : j - 1 + 1 = j := by omega
  rw [← List.map_set, set_mid _ _ _ _ _ (by simp; omega)]
  have e1 : l.take j = l.take (j - 1) ++ [l[j - 1]] := by rw [← List.take_succ_eq_append_getElem hjl, hjl']
  have e2 : l.drop (j - 1) = l[j - 1] :: l.drop j := by have := drop_cons l (j - 1) hjl; rwa [hjl'] at this
  rw [e1, e2, List.append_assoc]
  rfl

theorem l03Sort_any (s : Str) (w : World) (hs : s.length ≤ 2 ^ 38) :
    Calls Tryz.prog 178 #[sv s] w fun e w' => e = .returned (sv (isort s)) ∧ Below w.heap.size w w' := by
  go_enter Tryz.func178, Tryz.ntmps178
  go_wp2_with (fail)
  go_loopw [3, 4] (fun o i wr => ∃ k : Nat, k ≤ s.length ∧ i = .int .i64 k ∧ wr.ownsRow w.heap.size 5 1 o k ((isort (s.take k)).map bv) ∧ Below w.heap.size w wr) (fun _ i _ => s.length - (intOf i).toNat)
  case atStart => exact ⟨0, by omega, rfl, World.ownsRow_lit w #[] 0 (Nat.le_refl _) (by unfold maxLen; omega) rfl, (Below.refl _ _).alloc (Nat.le_refl _) _⟩
  case round =>
    obtain ⟨k, hk, rfl, hown, hw⟩ := hrel
    by_cases hlt : k < s.length
    · have hlt' : (k : Int) < (s.length : Int) := by omega
      have h0' : (0 : Int) ≤ (k : Int) := by omega
      have hlen : Hid ((isort (s.take k)).length = k) := Lib.hid (by rw [isort_length, List.length_take]; omega)
      have hstep := Lib.hid (isort_take s k hlt)
      have hlenk : (isort (s.take k)).length ≤ k ∧ k ≤ (isort (s.take k)).length := by rw [hlen.out]; omega
      obtain ⟨l, hl⟩ : ∃ l, l = isort (s.take k) := ⟨_, rfl⟩
      rw [← hl] at hown hlen hstep hlenk
      have hl' := Lib.hid hl
      clear hl
      have hln := run_len_own (P := Tryz.prog) (ty := 3) wr Tryz.underlying57 hown (by unfold maxLen; omega)
      go_wp2_with (at_builtin; refine wpList_app byteT rfl (.tmp 15) (.tmp 19) rfl _ _ _ rfl w.heap.size hown [bv s[k]] rfl (by simp [Value.oneCell']) rfl (by omega) (by omega) hw.size ?_; intro v1 w1 hown1 hg1 _)
      have hw1 : Below w.heap.size w w1 := Below.own hw hw.size hown (Nat.le_refl _) hg1
      obtain ⟨g, cap, hv, hgb, hgl⟩ := hown1.form (by omega)
      subst hv
      have hfin : ∀ (j : Nat) (x : UInt8), insK l s[k] k = j → j ≤ k → ((l.take j ++ x :: l.drop j).map bv).set j (bv s[k]) = (isort (s.take (k + 1))).map bv := by
        intro j x hjk hj
        rw [hstep.out, insR, hlen.out, hjk, ← List.map_set, set_mid _ _ _ _ _ (by simp; omega)]
      go_loopw [5] (fun q wr => ∃ (j : Nat) (x : UInt8), j ≤ k ∧ q = .int .i64 j ∧ wr.ownsRow w.heap.size 5 1 (.slice (some ⟨g, 0, none⟩) (k + 1) cap) (k + 1) ((l.take j ++ x :: l.drop j).map bv) ∧
        Hid (insK l s[k] k = insK l s[k] j) ∧ Below w.heap.size w wr) (fun q _ => (intOf q).toNat)
      case atStart => exact ⟨k, s[k], by omega, rfl, by rw [List.take_of_length_le (by omega), List.drop_eq_nil_of_le (by omega)]; simpa using hown1, rfl, hw1⟩
      case round =>
        obtain ⟨j, x, hj, rfl, hown2, he, hw2⟩ := hrel
        by_cases h0 : 0 < j
        · have hg0 : decide ((0 : Int) < (j : Int)) = true := by simp; omega
          have hj1 : (1 : Int) ≤ (j : Int) := by omega
          have hj2 : (0 : Int) ≤ (j : Int) - 1 := by omega
          have hj3 : (j : Int) - 1 < ((k + 1 : Nat) : Int) := by omega
          have hj4 : ((j : Int) - 1).toNat = j - 1 := by omega
          have hj5 : (j : Int) - 1 < (k : Int) + 1 := by omega
          have hj6 : (j : Int) < (k : Int) + 1 := by omega
          have hjl : j - 1 < l.length := by omega
          have hc1 : wr.cell? ⟨g, j - 1, none⟩ = some (bv (l[j - 1]'hjl)) := by
            rw [hown2.cellAt (j - 1) (by omega), List.getElem?_map, List.getElem?_append_left (by simp; omega), List.getElem?_take_of_lt (by omega), List.getElem?_eq_getElem hjl]; rfl
          have hc2 : wr.cell? ⟨g, j, none⟩ = some (bv x) := by
            rw [hown2.cellAt j (by omega), List.getElem?_map, List.getElem?_append_right (by simp; omega)]
            simp [show j - min j l.length = 0 from by omega]
          have hf2 : wr.frozen? ⟨g, j, none⟩ = false := hown2.frozenAt j
          have hins : Hid (insK l s[k] j = if s[k].toNat < (l[j - 1]'hjl).toNat then insK l s[k] (j - 1) else j) := by
            obtain ⟨i, rfl⟩ : ∃ i, j = i + 1 := ⟨j - 1, by omega⟩
            unfold Hid
            rw [insK]
            simp only [Nat.add_sub_cancel] at hjl ⊢
            rw [List.getElem?_eq_getElem hjl]; rfl
          by_cases hgt : s[k].toNat < (l[j - 1]'hjl).toNat
          · have hgt' : decide (s[k].toNat < (l[j - 1]'hjl).toNat) = true := by simpa using hgt
            go_wp2_with (fail)
            go_quiet (fail)
            go_wp2
            go_roundw
            case rel =>
              refine ⟨j - 1, l[j - 1]'hjl, by omega, vi_eq (by omega), ?_, Lib.hid (by rw [he.out, hins.out, if_pos hgt]), (below_drewN hw2 _).setCell (by exact hgb) _⟩
              have h3 := (World.ownsRow.drewN hown2 nq).stored j (bv (l[j - 1]'hjl))
              rw [← sort_step l x j h0 (by omega) hjl (by omega)] at h3
              exact h3.1
            case measure => simp [intOf]; omega
          · have hgt' : decide (s[k].toNat < (l[j - 1]'hjl).toNat) = false := by simpa using hgt
            go_wp2_with (fail)
            go_quiet (fail)
            go_wp2
            go_roundw
            case rel =>
              refine ⟨k + 1, by omega, by go_num, ?_, (below_drewN hw2 _).setCell (by exact hgb) _⟩
              have h3 := (World.ownsRow.drewN hown2 nq).stored j (bv s[k])
              rw [hfin j x (by rw [he.out, hins.out, if_neg hgt]) hj] at h3
              exact h3.1
            case measure => simp [intOf]; omega
        · have hj0 : j = 0 := by omega
          have hg0 : decide ((0 : Int) < (j : Int)) = false := by simp; omega
          have hj6 : (j : Int) < (k : Int) + 1 := by omega
          have hc2 : wr.cell? ⟨g, j, none⟩ = some (bv x) := by
            rw [hown2.cellAt j (by omega), List.getElem?_map, List.getElem?_append_right (by simp; omega)]
            simp [show j - min j l.length = 0 from by omega]
          have hf2 : wr.frozen? ⟨g, j, none⟩ = false := hown2.frozenAt j
          have hins : Hid (insK l s[k] j = j) := by rw [hj0]; rfl
          have hj0' := Lib.hid hj0
          clear hj0
          go_wp2_with (fail)
          go_quiet (fail)
          go_wp2
          go_roundw
          case rel =>
            refine ⟨k + 1, by omega, by go_num, ?_, (below_drewN hw2 _).setCell (by exact hgb) _⟩
            have h3 := (World.ownsRow.drewN hown2 nq).stored j (bv s[k])
            rw [hfin j x (by rw [he.out, hins.out]) hj] at h3
            exact h3.1
          case measure => simp [intOf]; omega
    · obtain rfl : k = s.length := by omega
      rw [List.take_length] at hown
      have hown' : wr.ownsRow w.heap.size 5 1 u3 (isort s).length ((isort s).map bv) := by rw [isort_length]; exact hown
      have hcv := run_string_own (P := Tryz.prog) wr 57 9 5 Tryz.underlying57 Tryz.underlying5 Tryz.underlying9 hown'
      go_wp2
      go_ret
      exact ⟨rfl, hw⟩
end Go.Proofs.YtamdcbbclkobiaaGreatDoor
/-
  Contracts: small letters, tiles of words, what a word needs (layer 3 of the spec package).
  Conditions: lengths at most 2^38.
-/
namespace Go.Proofs.YtamdcbbclkobiaaGreatDoor
open Go.RowKit RegP
set_option maxHeartbeats 400000

def lowC (c : UInt8) : UInt8 := if capB c then c + 32 else c
def blankC (c : UInt8) : UInt8 := if capB c then 63 else c
def lowS (l : Str) : Str := l.map lowC
def tilesS (l : Str) : Str := isort (l.map blankC)
def placedB (l : Str) : Bool := l.all (fun c => smallB c || capB c) && inR l.length 1 12
def needF : Str → Str → Nat
  | _, [] => 0
  | left, c :: r => if takeB left [c] then needF (takeS left [c]) r else needF left r + 1
def blanksN (s : Str) : Nat := s.count 63
def canB (pile word : Str) : Bool := decide (needF pile word ≤ blanksN pile)
theorem takeGo_length : ∀ a b : Str, (takeGo a b).1.length ≤ a.length
  | [], _ => by simp [takeGo]
  | x :: a, [] => by have := takeGo_length a []; simp [takeGo]; omega
  | x :: a, y :: b => by
    have h1 := takeGo_length a b
    have h2 := takeGo_length a (y :: b)
    rw [takeGo]; split <;> simp <;> omega
theorem takeS_length (a b : Str) : (takeS a b).length ≤ a.length := takeGo_length a b
theorem map_step {α β : Type} (f : α → α) (g : α → β) (l : List α) (k : Nat) (h : k < l.length) :
    (((l.take k).map f ++ l.drop k).map g).set k (g (f l[k])) = ((l.take (k + 1)).map f ++ l.drop (k + 1)).map g := by
  rw [drop_cons l k h, ← List.map_set, set_mid _ _ _ _ _ (by simp; omega), List.take_succ_eq_append_getElem h, List.map_append (f := f), List.append_assoc]
  rfl
theorem map_same {α β : Type} (f : α → α) (g : α → β) (l : List α) (k : Nat) (h : k < l.length) (hf : f l[k] = l[k]) :
    ((l.take k).map f ++ l.drop k).map g = ((l.take (k + 1)).map f ++ l.drop (k + 1)).map g := by
  rw [drop_cons l k h, List.take_succ_eq_append_getElem h, List.map_append (f := f), List.append_assoc, List.map_singleton, hf]
  rfl
theorem map_at {α β : Type} (f : α → α) (g : α → β) (l : List α) (k : Nat) (h : k < l.length) (hk : k < (((l.take k).map f ++ l.drop k).map g).length) :
    (((l.take k).map f ++ l.drop k).map g)[k]'hk = g l[k] := by
  rw [List.getElem_map, List.getElem_append_right (by simp; omega)]
  simp [show k - min k l.length = 0 from by omega]
theorem add32 (c : UInt8) (h1 : 65 ≤ (c.toNat : Int)) (h2 : (c.toNat : Int) ≤ 90) : Value.int .u8 ((c.toNat : Int) + 32) = bv (c + 32) := by
  have : (c + 32).toNat = c.toNat + 32 := by rw [UInt8.toNat_add]; simp; omega
  show Value.int .u8 _ = Value.int .u8 ((c + 32).toNat : Int)
  rw [this]; simp

theorem l03Small_any (l : Str) (w : World) (hl : l.length ≤ 2 ^ 38) :
    Calls Tryz.prog 18 #[sv l] w fun e w' => e = .returned (sv (lowS l)) ∧ Below w.heap.size w w' := by
  have kb := fun (w : World) => run_bytes_of_string (P := Tryz.prog) w 9 57 5 ⟨l.toArray⟩ Tryz.underlying9 Tryz.underlying57 Tryz.underlying5
  have kr := Lib.hid (BRow.of_string w l (grownCap w l.length 0 5) 5)
  have kf := Lib.hid ((Below.refl w.heap.size w).alloc (Nat.le_refl _) (Obj.cells (bytesRow ⟨l.toArray⟩ (grownCap w l.length 0 5)) 5 ((bytesRow ⟨l.toArray⟩ (grownCap w l.length 0 5)).size, (bytesRow ⟨l.toArray⟩ (grownCap w l.length 0 5)).size + 1)))
  go_enter Tryz.func18, Tryz.ntmps18
  go_wp2_with (fail)
  go_loopw [4] (fun i wr => ∃ k : Nat, k ≤ l.length ∧ i = .int .i64 k ∧ BRow wr w.heap.size w.heap.size 5 (((l.take k).map lowC ++ l.drop k).map bv) ∧ Below w.heap.size w wr) (fun i _ => l.length - (intOf i).toNat)
  case atStart => exact ⟨0, by omega, rfl, kr.out.keep rfl, kf.out.drew⟩
  case round =>
    clear kb kr kf
    generalize grownCap w l.length 0 5 = cap
    obtain ⟨k, hk, rfl, hown, hw⟩ := hrel
    by_cases hlt : k < l.length
    · have hlt' : (k : Int) < (l.length : Int) := by omega
      have hkl : k < (((l.take k).map lowC ++ l.drop k).map bv).length := by simp; omega
      have hc := hown.cell hkl
      rw [map_at lowC bv l k hlt] at hc
      have hf := hown.frozen hkl
      cases hcap : capB l[k]
      · go_wp2_with (go_at_call 29; refine (l03Capital_any _ _).mono ?_; rintro e w' ⟨rfl, rfl⟩)
        go_roundw
        case rel => exact ⟨k + 1, by omega, by go_num, by rw [← map_same lowC bv l k hlt (by simp [lowC, hcap])]; exact hown, hw⟩
        case measure => simp [intOf]; omega
      · have hcb := hcap
        simp only [capB, Bool.and_eq_true, decide_eq_true_eq] at hcb
        obtain ⟨hcb1, hcb2⟩ := hcb
        go_wp2_with (go_at_call 29; refine (l03Capital_any _ _).mono ?_; rintro e w' ⟨rfl, rfl⟩)
        go_roundw
        case rel =>
          refine ⟨k + 1, by omega, by go_num, ?_, hw.setCell (Nat.le_refl _) _⟩
          rw [← map_step lowC bv l k hlt, add32 _ hcb1 hcb2]
          have := hown.stored k (bv (lowC l[k]))
          simpa [lowC, hcap] using this
        case measure => simp [intOf]; omega
    · obtain rfl : k = l.length := by omega
      have hown' : BRow wr w.heap.size w.heap.size 5 ((lowS l).map bv) := by simpa [lowS] using hown
      have hcv := run_string_brow (P := Tryz.prog) (cap := cap) (n := l.length) wr 57 9 5 Tryz.underlying57 Tryz.underlying5 Tryz.underlying9 hown' (by simp [lowS])
      go_wp2
      go_ret
      exact ⟨rfl, hw⟩
theorem l03Tiles_any (l : Str) (w : World) (hl : l.length ≤ 2 ^ 38) :
    Calls Tryz.prog 152 #[sv l] w fun e w' => e = .returned (sv (tilesS l)) ∧ Below w.heap.size w w' := by
  have kb := fun (w : World) => run_bytes_of_string (P := Tryz.prog) w 9 57 5 ⟨l.toArray⟩ Tryz.underlying9 Tryz.underlying57 Tryz.underlying5
  have kr := Lib.hid (BRow.of_string w l (grownCap w l.length 0 5) 5)
  have kf := Lib.hid ((Below.refl w.heap.size w).alloc (Nat.le_refl _) (Obj.cells (bytesRow ⟨l.toArray⟩ (grownCap w l.length 0 5)) 5 ((bytesRow ⟨l.toArray⟩ (grownCap w l.length 0 5)).size, (bytesRow ⟨l.toArray⟩ (grownCap w l.length 0 5)).size + 1)))
  go_enter Tryz.func152, Tryz.ntmps152
  go_wp2_with (fail)
  go_loopw [4] (fun i wr => ∃ k : Nat, k ≤ l.length ∧ i = .int .i64 k ∧ BRow wr w.heap.size w.heap.size 5 (((l.take k).map blankC ++ l.drop k).map bv) ∧ Below w.heap.size w wr) (fun i _ => l.length - (intOf i).toNat)
  case atStart => exact ⟨0, by omega, rfl, kr.out.keep rfl, kf.out.drew⟩
  case round =>
    clear kb kr kf
    generalize grownCap w l.length 0 5 = cap
    obtain ⟨k, hk, rfl, hown, hw⟩ := hrel
    by_cases hlt : k < l.length
    · have hlt' : (k : Int) < (l.length : Int) := by omega
      have hkl : k < (((l.take k).map blankC ++ l.drop k).map bv).length := by simp; omega
      have hc := hown.cell hkl
      rw [map_at blankC bv l k hlt] at hc
      have hf := hown.frozen hkl
      cases hcap : capB l[k]
      · go_wp2_with (go_at_call 29; refine (l03Capital_any _ _).mono ?_; rintro e w' ⟨rfl, rfl⟩)
        go_roundw
        case rel => exact ⟨k + 1, by omega, by go_num, by rw [← map_same blankC bv l k hlt (by simp [blankC, hcap])]; exact hown, hw⟩
        case measure => simp [intOf]; omega
      · go_wp2_with (go_at_call 29; refine (l03Capital_any _ _).mono ?_; rintro e w' ⟨rfl, rfl⟩)
        go_roundw
        case rel =>
          refine ⟨k + 1, by omega, by go_num, ?_, hw.setCell (Nat.le_refl _) _⟩
          rw [← map_step blankC bv l k hlt]
          have := hown.stored k (bv (blankC l[k]))
          rw [show blankC l[k] = 63 from by simp [blankC, hcap]] at this ⊢
          exact this
        case measure => simp [intOf]; omega
    · obtain rfl : k = l.length := by omega
      have hown' : BRow wr w.heap.size w.heap.size 5 ((l.map blankC).map bv) := by simpa using hown
      have hcv := run_string_brow (P := Tryz.prog) (cap := cap) (n := l.length) wr 57 9 5 Tryz.underlying57 Tryz.underlying5 Tryz.underlying9 hown' (by simp)
      go_wp2_with (go_at_call 178; refine (l03Sort_any (l.map blankC) _ (by simpa using hl)).mono ?_; rintro e w' ⟨rfl, hb⟩)
      go_ret
      exact ⟨rfl, hw.trans (hb.mono hw.size)⟩
theorem l03Placed_any (l : Str) (w : World) (hl : l.length ≤ 2 ^ 38) :
    Calls Tryz.prog 191 #[sv l] w fun e w' => e = .returned (.bool (placedB l)) ∧ w = w' := by
  go_enter Tryz.func191, Tryz.ntmps191
  go_wp2_with (fail)
  go_loop [3] (fun i => ∃ k : Nat, k ≤ l.length ∧ i = .int .i64 k ∧ Hid (l.all (fun c => smallB c || capB c) = (l.drop k).all (fun c => smallB c || capB c))) (fun i => l.length - (intOf i).toNat)
  case atStart => exact ⟨0, by omega, rfl, rfl⟩
  case round =>
    obtain ⟨k, hk, rfl, he⟩ := hrel
    by_cases hlt : k < l.length
    · have hd := Lib.hid (drop_cons l k hlt)
      cases hc : smallB l[k] <;> cases hcc : capB l[k]
      all_goals
        go_wp2_with (first | (go_at_call 92; refine (l01Small_any _ _).mono ?_; rintro e w' ⟨rfl, rfl⟩) | (go_at_call 29; refine (l03Capital_any _ _).mono ?_; rintro e w' ⟨rfl, rfl⟩))
      · go_ret
        exact ⟨by rw [placedB, he.out, hd.out, List.all_cons, hc, hcc]; simp, rfl⟩
      all_goals
        go_round
        case rel => exact ⟨k + 1, by omega, by go_num, Lib.hid (by rw [he.out, hd.out, List.all_cons, hc, hcc]; simp)⟩
        case measure => simp [intOf]; omega
    · rw [drop_all l k (by omega)] at he
      go_wp2_with (go_at_call 91; refine (l00In_any _ _ _ _).mono ?_; rintro e w' ⟨rfl, rfl⟩)
      go_ret
      exact ⟨by rw [placedB, he.out]; simp, rfl⟩
theorem l03Need_any (pile word : Str) (w : World) (hp : pile.length ≤ 2 ^ 38) (hl : word.length ≤ 2 ^ 37) :
    Calls Tryz.prog 147 #[sv pile, sv word] w fun e w' => e = .returned (.int .i64 (needF pile word : Nat)) ∧ Below w.heap.size w w' := by
  go_enter Tryz.func147, Tryz.ntmps147
  go_wp2_with (fail)
  go_loopw [5, 6, 7] (fun lf nd i wr => ∃ (k m : Nat) (left : Str), k ≤ word.length ∧ m ≤ k ∧ left.length ≤ pile.length ∧ i = .int .i64 k ∧ nd = .int .i64 m ∧ lf = sv left ∧ Hid (needF pile word = m + needF left (word.drop k)) ∧ Below w.heap.size w wr) (fun _ _ i _ => word.length - (intOf i).toNat)
  case atStart => exact ⟨0, 0, pile, by omega, by omega, by omega, rfl, rfl, rfl, by simp [Hid], Below.refl _ _⟩
  case round =>
    obtain ⟨k, m, left, hk, hm, hleft, rfl, rfl, rfl, he, hw⟩ := hrel
    by_cases hlt : k < word.length
    · have hd := Lib.hid (drop_cons word k hlt)
      have h1 : (0 : Int) ≤ (k : Int) := by omega
      have h2 : (k : Int) ≤ (k : Int) + 1 := by omega
      have h3 : (k : Int) + 1 ≤ (word.length : Int) := by omega
      have hone : Hid ((word.drop k).take 1 = [word[k]]) := Lib.hid (by rw [drop_cons word k hlt]; rfl)
      have htl := takeS_length left [word[k]]
      cases htb : takeB left [word[k]]
      all_goals
        go_wp2_with (fail)
        rw [hone.out]
        refine (l03Take_any left [word[k]] _ (by omega) (by simp)).mono ?_
        rintro e w2 ⟨rfl, hb⟩
        rw [htb]
        go_wp2
      · go_roundw
        case rel => exact ⟨k + 1, m + 1, left, by omega, by omega, by omega, by go_num, by go_num, rfl, Lib.hid (by rw [he.out, hd.out, needF, htb]; simp; omega), hw.trans (hb.mono hw.size)⟩
        case measure => simp [intOf]; omega
      · go_roundw
        case rel => exact ⟨k + 1, m, takeS left [word[k]], by omega, by omega, by omega, by go_num, rfl, rfl, Lib.hid (by rw [he.out, hd.out, needF, htb]; simp), hw.trans (hb.mono hw.size)⟩
        case measure => simp [intOf]; omega
    · rw [drop_all word k (by omega)] at he
      go_wp2
      go_ret
      exact ⟨ret_int (by rw [he.out]; simp [needF]), hw⟩
theorem l03Blanks_any (s : Str) (w : World) (hl : s.length ≤ 2 ^ 38) :
    Calls Tryz.prog 148 #[sv s] w fun e w' => e = .returned (.int .i64 (blanksN s : Nat)) ∧ w = w' := by
  go_enter Tryz.func148, Tryz.ntmps148
  go_wp2_with (fail)
  go_loop [3, 4] (fun n i => ∃ k m : Nat, k ≤ s.length ∧ m ≤ k ∧ i = .int .i64 k ∧ n = .int .i64 m ∧ Hid (blanksN s = m + blanksN (s.drop k))) (fun _ i => s.length - (intOf i).toNat)
  case atStart => exact ⟨0, 0, by omega, by omega, rfl, rfl, by simp [Hid]⟩
  case round =>
    obtain ⟨k, m, hk, hm, rfl, rfl, he⟩ := hrel
    by_cases hlt : k < s.length
    · have hd := Lib.hid (drop_cons s k hlt)
      have hq := u8_eq s[k] 63
      cases hc : (s[k] == 63)
      all_goals
        rw [hc] at hq
        have hq' : ((s[k].toNat : Int) == 63) = _ := hq
        clear hq
        go_wp2
      · go_round
        case rel => exact ⟨k + 1, m, by omega, by omega, by go_num, rfl, Lib.hid (by rw [he.out, hd.out, blanksN, blanksN, List.count_cons, hc]; simp)⟩
        case measure => simp [intOf]; omega
      · go_round
        case rel => exact ⟨k + 1, m + 1, by omega, by omega, by go_num, by go_num, Lib.hid (by rw [he.out, hd.out, blanksN, blanksN, List.count_cons, hc]; simp; omega)⟩
        case measure => simp [intOf]; omega
    · rw [drop_all s k (by omega)] at he
      go_wp2
      go_ret
      exact ⟨ret_int (by rw [he.out]; simp [blanksN]), rfl⟩
end Go.Proofs.YtamdcbbclkobiaaGreatDoor
/-
  Contracts: whether a word can be made, insertion into ordered lists, ways (layer 3 of the spec package).
  Conditions: lengths at most 2^37.
-/
namespace Go.Proofs.YtamdcbbclkobiaaGreatDoor
open Go.RowKit RegP
set_option maxHeartbeats 400000

theorem l03Can_any (pile word : Str) (w : World) (hp : pile.length ≤ 2 ^ 37) (hl : word.length ≤ 2 ^ 37) :
    Calls Tryz.prog 96 #[sv pile, sv word] w fun e w' => e = .returned (.bool (canB pile word)) ∧ Below w.heap.size w w' := by
  go_enter Tryz.func96, Tryz.ntmps96
  go_wp2_with (first | (go_at_call 147; refine (l03Need_any _ _ _ (by omega) hl).mono ?_; rintro e w2 ⟨rfl, hb⟩) | (go_at_call 148; refine (l03Blanks_any _ _ (by omega)).mono ?_; rintro e w3 ⟨rfl, rfl⟩))
  go_ret
  exact ⟨ret_bool (by unfold canB; rw [Bool.eq_iff_iff]), hb⟩

def insLK (ws : List Str) (t : Str) : Nat → Nat
  | 0 => 0
  | k + 1 => if sLt t (ws[k]?.getD []) then insLK ws t k else k + 1
def insL (ws : List Str) (t : Str) : List Str :=
  if 0 < insLK ws t ws.length ∧ ws[insLK ws t ws.length - 1]? = some t then ws else ws.take (insLK ws t ws.length) ++ t :: ws.drop (insLK ws t ws.length)
theorem insLK_le (ws : List Str) (t : Str) : ∀ k, insLK ws t k ≤ k
  | 0 => Nat.le_refl _
  | k + 1 => by have := insLK_le ws t k; rw [insLK]; split <;> omega
theorem insL_length (ws : List Str) (t : Str) : (insL ws t).length ≤ ws.length + 1 := by
  unfold insL; split
  · omega
  · have := insLK_le ws t ws.length; simp; omega

theorem l03Insert_any (base : Nat) (v : Value) (ws : List Str) (t : Str) (w : World) (hown : w.ownsRow base 9 1 v ws.length (ws.map sv)) (hb : base ≤ w.heap.size) (hn : ws.length ≤ 2 ^ 38) (ht : t.length ≤ 2 ^ 40) :
    Calls Tryz.prog 17 #[v, sv t] w fun e w' => ∃ v', e = .returned v' ∧ w'.ownsRow base 9 1 v' (insL ws t).length ((insL ws t).map sv) ∧ Below w.heap.size w w' := by
  have hkle := insLK_le ws t ws.length
  obtain ⟨A, cap, rfl, hcap, hr⟩ := own_sl hown
  go_enter Tryz.func17, Tryz.ntmps17
  go_wp2_with (fail)
  go_loopw [5] (fun i wr => ∃ k : Nat, k ≤ ws.length ∧ i = .int .i64 k ∧ Hid (insLK ws t ws.length = insLK ws t k) ∧ Dr w wr) (fun i _ => (intOf i).toNat)
  case atStart => exact ⟨ws.length, by omega, rfl, rfl, Dr.refl _⟩
  case round =>
    obtain ⟨k, hk, rfl, he, hw⟩ := hrel
    have hown1 : wr.ownsRow base 9 1 (.slice A ws.length cap) ws.length (ws.map sv) := by obtain ⟨n, rfl⟩ := hw; exact hown
    have hr1 : Reads wr wr.heap.size 1 A ws.length (ws.map sv) := by obtain ⟨n, rfl⟩ := hw; exact hr
    have hbw : base ≤ wr.heap.size := by obtain ⟨n, rfl⟩ := hw; exact hb
    clear hr hown hb
    have hkc : k ≤ cap := by omega
    by_cases h0 : 0 < k
    · have hkl : k - 1 < ws.length := by omega
      obtain ⟨ad, rfl, hadb, hc1⟩ := hr1.el hkl
      have hj1 : (1 : Int) ≤ (k : Int) := by omega
      have hj2 : (0 : Int) ≤ (k : Int) - 1 := by omega
      have hj3 : (k : Int) - 1 < (ws.length : Int) := by omega
      have hj4 : ((k : Int) - 1).toNat = k - 1 := by omega
      have hj5 : (k : Int) ≤ (ws.length : Int) := by omega
      have hins : Hid (insLK ws t k = if sLt t ws[k - 1] then insLK ws t (k - 1) else k) := by
        obtain ⟨i, rfl⟩ : ∃ i, k = i + 1 := ⟨k - 1, by omega⟩
        unfold Hid
        rw [insLK]
        simp only [Nat.add_sub_cancel] at hkl ⊢
        rw [List.getElem?_eq_getElem hkl]; rfl
      have hxe' : Hid (ws[k - 1]? = some ws[k - 1]) := List.getElem?_eq_getElem hkl
      generalize ws[k - 1] = x at *
      have hle := sLe_eq x t
      cases hxy : Op.bytesLess t x
      · rw [hxy] at hle
        have hkk : Hid (insLK ws t ws.length = k) := Lib.hid (by rw [he.out, hins.out, sLt, hxy]; rfl)
        cases hxt : (x == t)
        · have hxt' : (x.toArray == t.toArray) = false := by rw [← hxt]; simp
          have hl2 : Op.bytesLess x t = true := by simpa [hxt] using hle
          have hfin : insL ws t = ws.take k ++ t :: ws.drop k := by
            unfold insL
            rw [hkk.out, if_neg]
            intro h
            rw [hxe'.out] at h
            have := h.2
            simp at this
            rw [this] at hxt
            simp at hxt
          have hfin' := Lib.hid hfin
          clear hfin
          have hw0 := hw.below
          have hrp : Reads (wr.alloc (Obj.cells #[] 9)) wr.heap.size 1 (some ad) k ((ws.take k).map sv) := by
            have := (hr1.pre (k := k) (by omega)).alloc (Nat.le_refl _) (Obj.cells #[] 9)
            simpa using this
          have hone1 := one_sv (ws.take k)
          have hone2 := one_drop (one_sv ws) (k * 1)
          have hrd : ∀ (w1 w2 : World) (v1 : Value), (wr.alloc (Obj.cells #[] 9)).grownBy w1 (some wr.heap.size) → w1.grownBy w2 v1.ownBlock → (v1.ownBlock = some wr.heap.size ∨ v1.ownBlock = some (wr.alloc (Obj.cells #[] 9)).heap.size) →
              Reads w2 wr.heap.size 1 (cutA cap (some ad) k 1) (ws.length - k) ((ws.map sv).drop (k * 1)) := by
            intro w1 w2 v1 g1 g2 ha
            have r1 := (hr1.alloc (Nat.le_refl _) (Obj.cells #[] 9)).grown g1 (by simp) (fun q hq => by simp at hq; omega)
            have r2 := r1.grown g2 (by have := g1.size; simp at this; omega) (fun q hq => by rcases ha with e | e <;> rw [e] at hq <;> simp at hq <;> omega)
            exact r2.cutA (by omega) hcap
          have hrd' := Lib.hid hrd
          clear hrd
          have hcut := fun w => run_cut (P := Tryz.prog) strT (some ad) ws.length cap k (by omega) w
          have hpre := fun w => run_pre (P := Tryz.prog) strT (some ad) ws.length cap k (by omega) w
          go_wp2_with (first
            | (at_builtin; refine wpList_apps strT rfl (.tmp 34) (.tmp 37) rfl (.slice (some ⟨wr.heap.size, 0, none⟩) 0 0) 0 [] rfl base (World.ownsRow_lit wr #[] 0 (by omega) (by unfold maxLen; omega) rfl) wr.heap.size _ k _ ((ws.take k).map sv) rfl hrp hone1 (by omega) (by omega) (by simp; omega) ?_; intro v1 w1 own1 hg1 hat1)
            | (at_builtin; refine wpList_app strT rfl (.tmp 39) (.tmp 41) rfl v1 (0 + k) ([] ++ (ws.take k).map sv) rfl base own1 [sv t] rfl (by simp [Value.oneCell']) rfl (by omega) (by omega) (by have := hg1.size; simp at this; omega) ?_; intro v2 w2 own2 hg2 hat2)
            | (at_builtin; refine wpList_apps strT rfl (.tmp 43) (.tmp 46) rfl v2 (0 + k + 1) ([] ++ (ws.take k).map sv ++ [sv t]) rfl base own2 wr.heap.size _ (ws.length - k) _ ((ws.map sv).drop (k * 1)) rfl (hrd'.out w1 w2 v1 hg1 hg2 hat1) hone2 (by omega) (by omega) (by have h1 := hg1.size; have h2 := hg2.size; simp at h1; omega) ?_; intro v3 w3 own3 hg3 hat3))
          have hfin := hfin'.out
          go_ret
          refine ⟨v3, rfl, own_cast own3 (by rw [hfin]; simp) (by rw [hfin]; simp; omega), ?_⟩
          have b1 : Below w.heap.size w w1 := Below.grown (hw0.alloc hw0.size _) hg1 (by simp; have := hw0.size; omega) (fun q hq => by simp [Value.ownBlock] at hq; have := hw0.size; omega)
          have b2 : Below w.heap.size w w2 := b1.grown hg2 b1.size (fun q hq => by rcases hat1 with e | e <;> rw [e] at hq <;> simp [Value.ownBlock] at hq <;> have := hw0.size <;> omega)
          exact b2.grown hg3 b2.size (fun q hq => by
            have h1 := hg1.size
            have := hw0.size
            simp at h1
            rcases hat2 with e | e <;> rw [e] at hq
            · rcases hat1 with e | e <;> rw [e] at hq <;> simp [Value.ownBlock] at hq <;> omega
            · simp at hq; omega)
        · obtain rfl : x = t := by simpa using hxt
          go_wp2
          go_ret
          refine ⟨.slice (some ad) ws.length cap, rfl, ?_, hw.below⟩
          have hfin : insL ws x = ws := by
            unfold insL
            rw [hkk.out, if_pos ⟨h0, hxe'.out⟩]
          rw [hfin]
          exact hown1
      · rw [hxy] at hle
        go_wp2
        go_roundw
        case rel => exact ⟨k - 1, by omega, vi_eq (by omega), Lib.hid (by rw [he.out, hins.out, sLt, hxy]; rfl), hw⟩
        case measure => simp [intOf]; omega
    · have hg0 : decide ((0 : Int) < (k : Int)) = false := by simp; omega
      have hfin : insL ws t = ws.take k ++ t :: ws.drop k := by
        have hk0 : k = 0 := by omega
        unfold insL
        rw [he.out, hk0]
        simp [insLK]
      have hfin' := Lib.hid hfin
      clear hfin
      have hw0 := hw.below
      have hrp : Reads (wr.alloc (Obj.cells #[] 9)) wr.heap.size 1 A k ((ws.take k).map sv) := by
        have := (hr1.pre (k := k) (by omega)).alloc (Nat.le_refl _) (Obj.cells #[] 9)
        simpa using this
      have hone1 := one_sv (ws.take k)
      have hone2 := one_drop (one_sv ws) (k * 1)
      have hrd : ∀ (w1 w2 : World) (v1 : Value), (wr.alloc (Obj.cells #[] 9)).grownBy w1 (some wr.heap.size) → w1.grownBy w2 v1.ownBlock → (v1.ownBlock = some wr.heap.size ∨ v1.ownBlock = some (wr.alloc (Obj.cells #[] 9)).heap.size) →
          Reads w2 wr.heap.size 1 (cutA cap A k 1) (ws.length - k) ((ws.map sv).drop (k * 1)) := by
        intro w1 w2 v1 g1 g2 ha
        have r1 := (hr1.alloc (Nat.le_refl _) (Obj.cells #[] 9)).grown g1 (by simp) (fun q hq => by simp at hq; omega)
        have r2 := r1.grown g2 (by have := g1.size; simp at this; omega) (fun q hq => by rcases ha with e | e <;> rw [e] at hq <;> simp at hq <;> omega)
        exact r2.cutA (by omega) hcap
      have hrd' := Lib.hid hrd
      clear hrd
      have hcut := fun w => run_cut (P := Tryz.prog) strT A ws.length cap k (by omega) w
      have hpre := fun w => run_pre (P := Tryz.prog) strT A ws.length cap k (by omega) w
      go_wp2_with (first
        | (at_builtin; refine wpList_apps strT rfl (.tmp 34) (.tmp 37) rfl (.slice (some ⟨wr.heap.size, 0, none⟩) 0 0) 0 [] rfl base (World.ownsRow_lit wr #[] 0 (by omega) (by unfold maxLen; omega) rfl) wr.heap.size _ k _ ((ws.take k).map sv) rfl hrp hone1 (by omega) (by omega) (by simp; omega) ?_; intro v1 w1 own1 hg1 hat1)
        | (at_builtin; refine wpList_app strT rfl (.tmp 39) (.tmp 41) rfl v1 (0 + k) ([] ++ (ws.take k).map sv) rfl base own1 [sv t] rfl (by simp [Value.oneCell']) rfl (by omega) (by omega) (by have := hg1.size; simp at this; omega) ?_; intro v2 w2 own2 hg2 hat2)
        | (at_builtin; refine wpList_apps strT rfl (.tmp 43) (.tmp 46) rfl v2 (0 + k + 1) ([] ++ (ws.take k).map sv ++ [sv t]) rfl base own2 wr.heap.size _ (ws.length - k) _ ((ws.map sv).drop (k * 1)) rfl (hrd'.out w1 w2 v1 hg1 hg2 hat1) hone2 (by omega) (by omega) (by have h1 := hg1.size; have h2 := hg2.size; simp at h1; omega) ?_; intro v3 w3 own3 hg3 hat3))
      have hfin := hfin'.out
      go_ret
      refine ⟨v3, rfl, own_cast own3 (by rw [hfin]; simp) (by rw [hfin]; simp; omega), ?_⟩
      have b1 : Below w.heap.size w w1 := Below.grown (hw0.alloc hw0.size _) hg1 (by simp; have := hw0.size; omega) (fun q hq => by simp [Value.ownBlock] at hq; have := hw0.size; omega)
      have b2 : Below w.heap.size w w2 := b1.grown hg2 b1.size (fun q hq => by rcases hat1 with e | e <;> rw [e] at hq <;> simp [Value.ownBlock] at hq <;> have := hw0.size <;> omega)
      exact b2.grown hg3 b2.size (fun q hq => by
        have h1 := hg1.size
        have := hw0.size
        simp at h1
        rcases hat2 with e | e <;> rw [e] at hq
        · rcases hat1 with e | e <;> rw [e] at hq <;> simp [Value.ownBlock] at hq <;> omega
        · simp at hq; omega)

end Go.Proofs.YtamdcbbclkobiaaGreatDoor
/-
  Ordered lists of strings in plain Lean: insertion one by one, and sort with compact, give one list: the one that rises and has the same elements.
  Conditions: none.
-/
namespace Go.Proofs.YtamdcbbclkobiaaGreatDoor

theorem bytesLess_iff : ∀ (x y : List UInt8), Op.bytesLess x y = decide (x < y)
  | [], [] => by simp [Op.bytesLess]
  | _ :: _, [] => by simp [Op.bytesLess]
  | [], _ :: _ => by simp [Op.bytesLess]
  | a :: x, b :: y => by
    rw [Op.bytesLess, bytesLess_iff x y]
    simp only [List.cons_lt_cons_iff]
    by_cases h1 : a < b <;> by_cases h2 : a = b <;> by_cases h3 : x < y <;> simp [h1, h2, h3]
theorem sLt_iff (a b : Str) : sLt a b = true ↔ a < b := by rw [sLt, bytesLess_iff]; exact decide_eq_true_iff
theorem sLt_no (a b : Str) : sLt a b = false ↔ b ≤ a := by rw [sLt, bytesLess_iff, decide_eq_false_iff_not, List.not_lt]

def Inc (l : List Str) : Prop := l.Pairwise (· < ·)
theorem inc_unique : ∀ l l' : List Str, Inc l → Inc l' → (∀ x, x ∈ l ↔ x ∈ l') → l = l'
  | [], [], _, _, _ => rfl
  | [], b :: r, _, _, h => absurd ((h b).2 (List.mem_cons_self ..)) (by simp)
  | a :: l, [], _, _, h => absurd ((h a).1 (List.mem_cons_self ..)) (by simp)
  | a :: l, b :: r, h1, h2, h => by
    obtain ⟨ha, hl⟩ := List.pairwise_cons.1 h1
    obtain ⟨hb, hr⟩ := List.pairwise_cons.1 h2
    have hab : a = b := by
      rcases List.mem_cons.1 ((h a).1 (List.mem_cons_self ..)) with e | e
      · exact e
      · rcases List.mem_cons.1 ((h b).2 (List.mem_cons_self ..)) with e' | e'
        · exact e'.symm
        · exact absurd (List.lt_trans (hb a e) (ha b e')) (List.lt_irrefl _)
    subst hab
    congr 1
    refine inc_unique l r hl hr fun x => ⟨fun hx => ?_, fun hx => ?_⟩
    · rcases List.mem_cons.1 ((h x).1 (List.mem_cons_of_mem _ hx)) with e | e
      · subst e; exact absurd (ha x hx) (List.lt_irrefl _)
      · exact e
    · rcases List.mem_cons.1 ((h x).2 (List.mem_cons_of_mem _ hx)) with e | e
      · subst e; exact absurd (hb x hx) (List.lt_irrefl _)
      · exact e

theorem insLK_spec (ws : List Str) (t : Str) : ∀ k, k ≤ ws.length → (∀ i (hi : i < ws.length), i < k → insLK ws t k ≤ i → t < ws[i]) ∧ (∀ h : insLK ws t k - 1 < ws.length, 0 < insLK ws t k → ws[insLK ws t k - 1] ≤ t)
  | 0, _ => ⟨fun i _ h => absurd h (by omega), fun _ h => by simp [insLK] at h⟩
  | k + 1, hk => by
    obtain ⟨h1, h2⟩ := insLK_spec ws t k (by omega)
    rw [insLK, List.getElem?_eq_getElem (by omega : k < ws.length), Option.getD_some]
    cases hc : sLt t ws[k]
    · simp only [Bool.false_eq_true, if_false]
      exact ⟨fun i _ h h' => absurd h (by omega), fun _ _ => (sLt_no _ _).1 hc⟩
    · simp only [if_true]
      refine ⟨fun i hi h h' => ?_, h2⟩
      by_cases hik : i = k
      · subst hik; exact (sLt_iff _ _).1 hc
      · exact h1 i hi (by omega) h'
theorem mem_insL (ws : List Str) (t x : Str) : x ∈ insL ws t ↔ x ∈ ws ∨ x = t := by
  unfold insL
  split
  · rename_i h
    refine ⟨.inl, fun h' => h'.elim id fun e => ?_⟩
    subst e
    exact List.mem_of_getElem? h.2
  · constructor
    · intro h
      rcases List.mem_append.1 h with h | h
      · exact .inl (List.mem_of_mem_take h)
      · rcases List.mem_cons.1 h with h | h
        · exact .inr h
        · exact .inl (List.mem_of_mem_drop h)
    · rintro (h | h)
      · rw [← List.take_append_drop (insLK ws t ws.length) ws] at h
        rcases List.mem_append.1 h with h | h
        · exact List.mem_append_left _ h
        · exact List.mem_append_right _ (List.mem_cons_of_mem _ h)
      · subst h; exact List.mem_append_right _ (List.mem_cons_self ..)
theorem inc_insL {ws : List Str} (t : Str) (h : Inc ws) : Inc (insL ws t) := by
  unfold insL
  obtain ⟨h1, h2⟩ := insLK_spec ws t ws.length (Nat.le_refl _)
  have hle := insLK_le ws t ws.length
  obtain ⟨m, hm⟩ : ∃ m, m = insLK ws t ws.length := ⟨_, rfl⟩
  rw [← hm] at h1 h2 hle ⊢
  clear hm
  have hp := List.pairwise_iff_getElem.1 h
  split
  · exact h
  · rename_i hno
    have hd : ∀ b ∈ ws.drop m, t < b := by
      intro b hb
      obtain ⟨i, hi, rfl⟩ := List.mem_iff_getElem.1 hb
      rw [List.getElem_drop]
      exact h1 _ _ (by simp at hi; omega) (by omega)
    have ht : ∀ b ∈ ws.take m, b < t := by
      intro b hb
      obtain ⟨i, hi, rfl⟩ := List.mem_iff_getElem.1 hb
      rw [List.getElem_take]
      have him : i < m := by simp at hi; omega
      have hl := h2 (by omega) (by omega)
      have hne : ws[m - 1]'(by omega) ≠ t := fun e => hno ⟨by omega, by rw [List.getElem?_eq_getElem (by omega), e]⟩
      have hlt : ws[m - 1]'(by omega) < t := by
        rcases List.le_iff_lt_or_eq.1 hl with h | h
        · exact h
        · exact absurd h hne
      by_cases he : i = m - 1
      · subst he; exact hlt
      · exact List.lt_trans (hp i (m - 1) (by omega) (by omega) (by omega)) hlt
    refine List.pairwise_append.2 ⟨h.sublist (List.take_sublist _ _), List.pairwise_cons.2 ⟨hd, h.sublist (List.drop_sublist _ _)⟩, fun a ha b hb => ?_⟩
    rcases List.mem_cons.1 hb with e | hb
    · subst e; exact ht a ha
    · exact List.lt_trans (ht a ha) (hd b hb)

/-- The list that rises, of the elements of a list. -/
def canon (l : List Str) : List Str := l.foldl insL []
theorem foldl_insL : ∀ (l ws : List Str), Inc ws → Inc (l.foldl insL ws) ∧ ∀ x, x ∈ l.foldl insL ws ↔ x ∈ ws ∨ x ∈ l
  | [], ws, h => ⟨h, fun x => by simp⟩
  | t :: r, ws, h => by
    obtain ⟨h1, h2⟩ := foldl_insL r (insL ws t) (inc_insL t h)
    refine ⟨h1, fun x => ?_⟩
    rw [List.foldl_cons, h2, mem_insL, List.mem_cons]
    exact or_assoc
theorem canon_inc (l : List Str) : Inc (canon l) := (foldl_insL l [] List.Pairwise.nil).1
theorem mem_canon (l : List Str) (x : Str) : x ∈ canon l ↔ x ∈ l := by rw [canon, (foldl_insL l [] List.Pairwise.nil).2]; simp
theorem canon_unique {l l' : List Str} (h : Inc l') (hm : ∀ x, x ∈ l' ↔ x ∈ l) : l' = canon l := inc_unique _ _ h (canon_inc l) fun x => (hm x).trans (mem_canon l x).symm
theorem canon_perm {l l' : List Str} (h : l.Perm l') : canon l = canon l' := canon_unique (canon_inc l) fun x => (mem_canon l x).trans h.mem_iff
theorem canon_snoc (l : List Str) (x : Str) : canon (l ++ [x]) = insL (canon l) x := by simp [canon]
theorem canon_length (l : List Str) : (canon l).length ≤ l.length := by
  have : ∀ (l ws : List Str), (l.foldl insL ws).length ≤ ws.length + l.length := by
    intro l
    induction l with
    | nil => intro ws; simp
    | cons t r ih => intro ws; have := ih (insL ws t); have := insL_length ws t; simp; omega
  simpa [canon] using this l []

theorem keeps_iff (zs : List Str) (j : Nat) (hj : j < zs.length) : Lib.keeps zs.toArray j = true ↔ j = 0 ∨ zs[j] ≠ zs[j - 1]'(by omega) := by
  simp only [Lib.keeps, decide_eq_true_eq]
  rw [getElem!_pos zs.toArray j (by simpa using hj), getElem!_pos zs.toArray (j - 1) (by simp; omega)]
  rfl
theorem mem_cmp (zs : List Str) (x : Str) : x ∈ Lib.compact zs ↔ x ∈ zs := by
  simp only [Lib.compact, Lib.compactUpTo, List.mem_map, List.mem_filter, List.mem_range]
  constructor
  · rintro ⟨i, ⟨hi, _⟩, rfl⟩
    rw [getElem!_pos zs.toArray i (by simpa using hi)]
    exact List.getElem_mem _
  · intro hx
    obtain ⟨i, hi, rfl⟩ := List.mem_iff_getElem.1 hx
    clear hx
    induction i with
    | zero => exact ⟨0, ⟨hi, (keeps_iff zs 0 hi).2 (.inl rfl)⟩, by rw [getElem!_pos zs.toArray 0 (by simpa using hi)]; rfl⟩
    | succ i ih =>
      by_cases h : zs[i + 1] = zs[i]'(by omega)
      · rw [h]; exact ih (by omega)
      · exact ⟨i + 1, ⟨hi, (keeps_iff zs (i + 1) hi).2 (.inr h)⟩, by rw [getElem!_pos zs.toArray (i + 1) (by simpa using hi)]; rfl⟩
theorem inc_cmp (zs : List Str) (h : zs.Pairwise (· ≤ ·)) : Inc (Lib.compact zs) := by
  have hp := List.pairwise_iff_getElem.1 h
  simp only [Inc, Lib.compact, Lib.compactUpTo]
  rw [List.pairwise_map]
  have hr : (List.range zs.length).Pairwise (· < ·) := List.pairwise_lt_range
  refine (hr.filter (Lib.keeps zs.toArray)).imp_of_mem fun {i j} hi hj hij => ?_
  rw [List.mem_filter, List.mem_range] at hi hj
  rw [getElem!_pos zs.toArray i (by simpa using hi.1), getElem!_pos zs.toArray j (by simpa using hj.1)]
  show zs[i]'hi.1 < zs[j]'hj.1
  have hne : zs[j]'hj.1 ≠ zs[j - 1]'(by omega) := ((keeps_iff zs j hj.1).1 hj.2).resolve_left (by omega)
  have h1 : zs[j - 1]'(by omega) ≤ zs[j]'hj.1 := hp _ _ _ _ (by omega)
  have h2 : zs[i]'hi.1 ≤ zs[j - 1]'(by omega) := by
    by_cases e : i = j - 1
    · subst e; exact List.le_refl _
    · exact hp _ _ _ _ (by omega)
  rcases List.le_iff_lt_or_eq.1 h1 with h1 | h1
  · exact List.lt_of_le_of_lt h2 h1
  · exact absurd h1.symm hne
theorem cmp_sort (l : List Str) : Lib.compact (l.mergeSort fun x y => decide (x ≤ y)) = canon l := by
  refine canon_unique (inc_cmp _ ?_) fun x => ?_
  · have := List.pairwise_mergeSort (le := fun x y : Str => decide (x ≤ y)) (fun a b c h1 h2 => by simp only [decide_eq_true_eq] at *; exact List.le_trans h1 h2) (fun a b => by simp only [Bool.or_eq_true, decide_eq_true_eq]; exact List.le_total a b) l
    exact this.imp fun h => by simpa using h
  · rw [mem_cmp]; exact (List.mergeSort_perm l _).mem_iff
end Go.Proofs.YtamdcbbclkobiaaGreatDoor
