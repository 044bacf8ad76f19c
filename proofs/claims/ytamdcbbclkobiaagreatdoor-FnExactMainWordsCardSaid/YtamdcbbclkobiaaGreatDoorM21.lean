/-
  Contracts: boards (layer 11 of the impl package); Contract: tryPlays where something is not valid (layer 16 of the impl package).
  Conditions: as each part below says.
-/
import Derived.Test.YtamdcbbclkobiaaGreatDoorM11
import Derived.Test.YtamdcbbclkobiaaGreatDoorM15
import Derived.Test.YtamdcbbclkobiaaGreatDoorM13
import Derived.Test.YtamdcbbclkobiaaGreatDoorM14
import Derived.Lib.Builder
import Derived.Lib.UnsafeStr
import Derived.Laws.Externs
import Derived.RegionTactic
import Derived.Laws.Rows
import Derived.Laws.Tables
import Derived.Lib.OthersKept
/-
  Contracts: boards (layer 11 of the impl package).
  Conditions: lengths at most 2^40.
-/
namespace Go.Proofs.YtamdcbbclkobiaaGreatDoor
open Go.RowKit RegP RegL RegV
set_option maxHeartbeats 1000000

theorem sizeOk_any (n : Int) (w : World) :
    Calls Tryz.prog 54 #[.int .i64 n] w fun e w' => e = .returned (.bool (sizeB n)) ∧ w = w' := by
  go_enter Tryz.func54, Tryz.ntmps54
  go_wp2_with (go_at_call 103; refine (within_any _ _ _ _).mono ?_; rintro e w' ⟨rfl, rfl⟩)
  go_ret
  exact ⟨rfl, rfl⟩
theorem cellOk_any (c : UInt8) (w : World) :
    Calls Tryz.prog 57 #[bv c] w fun e w' => e = .returned (.bool (cellB c)) ∧ w = w' := by
  have hq : ((c.toNat : Int) == 46) = (c == 46) := u8_eq c 46
  have hdef : Hid (cellB c = ((c == 46) || smallB c || capB c)) := Lib.hid rfl
  have k1 := fun w => small_any c w
  have k2 := fun w => capital_any c w
  obtain ⟨C, hC⟩ : ∃ C, C = cellB c := ⟨_, rfl⟩
  rw [← hC] at hdef ⊢
  clear hC
  cases h1 : c == 46
  · rw [h1] at hq hdef
    cases h2 : smallB c
    · rw [h2] at k1 hdef
      go_enter Tryz.func57, Tryz.ntmps57
      go_wp2_with (first
        | (go_at_call 105; refine (k1 _).mono ?_; rintro e w' ⟨rfl, rfl⟩)
        | (go_at_call 106; refine (k2 _).mono ?_; rintro e w' ⟨rfl, rfl⟩))
      go_ret
      exact ⟨ret_bool (by rw [hdef.out]; rfl), rfl⟩
    · rw [h2] at k1 hdef
      go_enter Tryz.func57, Tryz.ntmps57
      go_wp2_with (go_at_call 105; refine (k1 _).mono ?_; rintro e w' ⟨rfl, rfl⟩)
      go_ret
      exact ⟨ret_bool (by rw [hdef.out]; rfl), rfl⟩
  · rw [h1] at hq hdef
    go_enter Tryz.func57, Tryz.ntmps57
    go_wp2_with (fail)
    go_ret
    exact ⟨ret_bool (by rw [hdef.out]; rfl), rfl⟩

theorem indexByte_prem (c : UInt8) : decide ((0 : Int) ≤ Lib.indexByte [50, 51, 100, 116, 46] c) = premB c := by
  unfold premB
  simp only [Lib.indexByte]
  by_cases h1 : c = 50
  · subst h1; rfl
  by_cases h2 : c = 51
  · subst h2; rfl
  by_cases h3 : c = 100
  · subst h3; rfl
  by_cases h4 : c = 116
  · subst h4; rfl
  by_cases h5 : c = 46
  · subst h5; rfl
  simp [h1, h2, h3, h4, h5, Ne.symm h1, Ne.symm h2, Ne.symm h3, Ne.symm h4, Ne.symm h5]
theorem premiumOk_any (c : UInt8) (w : World) :
    Calls Tryz.prog 56 #[bv c] w fun e w' => e = .returned (.bool (premB c)) ∧ w = w' := by
  have k1 := fun w => Tryz.strings_IndexByte ⟨#[50, 51, 100, 116, 46]⟩ (c.toNat : Int) w
  have hc : ((c.toNat : Int)).toNat.toUInt8 = c := by simp
  rw [hc] at k1
  have hp := indexByte_prem c
  have hl : (ByteArray.mk #[50, 51, 100, 116, 46]).data.toList = [50, 51, 100, 116, 46] := rfl
  rw [hl] at k1
  obtain ⟨x, hx⟩ : ∃ x, x = Lib.indexByte [50, 51, 100, 116, 46] c := ⟨_, rfl⟩
  rw [← hx] at k1 hp
  have hp' := Lib.hid hp
  clear hp hx hl hc
  go_enter Tryz.func56, Tryz.ntmps56
  go_wp2_with (go_at_call 104; refine (k1 _).mono ?_; rintro e w' ⟨rfl, rfl⟩)
  go_ret
  exact ⟨ret_bool (by rw [← hp'.out]), rfl⟩
theorem allBytes_cell (s : Str) (w : World) (hs : s.length ≤ 2 ^ 40) :
    Calls Tryz.prog 55 #[sv s, .func (.func 57) #[] #[]] w fun e w' => e = .returned (.bool (s.all cellB)) ∧ w = w' := by
  have hF := fun (c : UInt8) (w : World) => cellOk_any c w
  go_enter Tryz.func55, Tryz.ntmps55
  go_wp2_with (fail)
  go_loop [5] (fun i => ∃ k : Nat, k ≤ s.length ∧ i = .int .i64 k ∧ Hid (s.all cellB = (s.drop k).all cellB)) (fun i => s.length - (intOf i).toNat)
  case atStart => exact ⟨0, by omega, rfl, rfl⟩
  case round =>
    obtain ⟨k, hk, rfl, he⟩ := hrel
    by_cases hlt : k < s.length
    · have hd := Lib.hid (drop_cons s k hlt)
      cases hc : cellB s[k]
      all_goals go_wp2_with (go_at_call 57; refine (hF _ _).mono ?_; rw [hc]; rintro e w' ⟨rfl, rfl⟩)
      · go_ret
        exact ⟨by rw [he.out, hd.out, List.all_cons, hc]; simp, rfl⟩
      · go_round
        case rel => exact ⟨k + 1, by omega, by go_num, Lib.hid (by rw [he.out, hd.out, List.all_cons, hc]; simp)⟩
        case measure => simp [intOf]; omega
    · rw [drop_all s k (by omega)] at he
      go_wp2_with (fail)
      go_ret
      exact ⟨by rw [he.out]; simp, rfl⟩
theorem allBytes_prem (s : Str) (w : World) (hs : s.length ≤ 2 ^ 40) :
    Calls Tryz.prog 55 #[sv s, .func (.func 56) #[] #[]] w fun e w' => e = .returned (.bool (s.all premB)) ∧ w = w' := by
  have hF := fun (c : UInt8) (w : World) => premiumOk_any c w
  go_enter Tryz.func55, Tryz.ntmps55
  go_wp2_with (fail)
  go_loop [5] (fun i => ∃ k : Nat, k ≤ s.length ∧ i = .int .i64 k ∧ Hid (s.all premB = (s.drop k).all premB)) (fun i => s.length - (intOf i).toNat)
  case atStart => exact ⟨0, by omega, rfl, rfl⟩
  case round =>
    obtain ⟨k, hk, rfl, he⟩ := hrel
    by_cases hlt : k < s.length
    · have hd := Lib.hid (drop_cons s k hlt)
      cases hc : premB s[k]
      all_goals go_wp2_with (go_at_call 56; refine (hF _ _).mono ?_; rw [hc]; rintro e w' ⟨rfl, rfl⟩)
      · go_ret
        exact ⟨by rw [he.out, hd.out, List.all_cons, hc]; simp, rfl⟩
      · go_round
        case rel => exact ⟨k + 1, by omega, by go_num, Lib.hid (by rw [he.out, hd.out, List.all_cons, hc]; simp)⟩
        case measure => simp [intOf]; omega
    · rw [drop_all s k (by omega)] at he
      go_wp2_with (fail)
      go_ret
      exact ⟨by rw [he.out]; simp, rfl⟩

theorem iValidBoard_any (b : Bd) (w : World) (h1 : b.prem.length ≤ 2 ^ 40) (h2 : b.cells.length ≤ 2 ^ 40) :
    Calls Tryz.prog 31 #[b.v] w fun e w' => e = .returned (.bool (bdB b)) ∧ Below w.heap.size w w' := by
  have hdef : Hid (bdB b = (sizeB b.size && (decide ((b.prem.length : Int) = b.size * b.size) && (decide ((b.cells.length : Int) = b.size * b.size) && okFrom b.cells b.prem)))) := Lib.hid rfl
  have hok := Lib.hid (okFrom_eq b.cells b.prem)
  have k0 := fun w => sizeOk_any b.size w
  have k1 := fun w => allBytes_prem b.prem w h1
  have k2 := fun w => allBytes_cell b.cells w h2
  obtain ⟨R, hR⟩ : ∃ R, R = bdB b := ⟨_, rfl⟩
  rw [← hR] at hdef ⊢
  clear hR
  obtain ⟨n, p, c⟩ := b
  simp only [Bd.v] at *
  have hbW := (Below.refl w.heap.size w).alloc (Nat.le_refl _) (.cells #[.int .i64 n, sv p, sv c] 33)
  cases e0 : sizeB n
  · rw [e0] at k0 hdef
    go_enter Tryz.func31, Tryz.ntmps31
    go_wp2_with (go_at_call 54; refine (k0 _).mono ?_; rintro e w' ⟨rfl, rfl⟩)
    go_ret
    exact ⟨ret_bool (by rw [hdef.out]; rfl), hbW⟩
  · rw [e0] at k0 hdef
    have hsz := e0
    unfold sizeB inR at hsz
    simp only [Bool.and_eq_true, decide_eq_true_eq] at hsz
    obtain ⟨h5, h15⟩ := hsz
    obtain ⟨m0, m1, _, _, m4⟩ := mul_bounds (r := n - 1) (c := 0) h5 h15 (by omega) (by omega) (by omega) (by omega)
    have m5 : 0 ≤ n * n := Int.mul_nonneg (by omega) (by omega)
    clear m0 m1
    obtain ⟨q, hq⟩ : ∃ q, q = decide ((p.length : Int) = n * n) := ⟨_, rfl⟩
    have hqd : ((p.length : Int) != n * n) = !q := by rw [hq]; rfl
    rw [← hq] at hdef
    have Hq := Lib.hid hq
    clear hq
    cases q
    · go_enter Tryz.func31, Tryz.ntmps31
      go_wp2_with (go_at_call 54; refine (k0 _).mono ?_; rintro e w' ⟨rfl, rfl⟩)
      go_ret
      exact ⟨ret_bool (by rw [hdef.out]; rfl), hbW⟩
    · obtain ⟨q2, hq2⟩ : ∃ q, q = decide ((c.length : Int) = (p.length : Int)) := ⟨_, rfl⟩
      have hqd2 : ((c.length : Int) != (p.length : Int)) = !q2 := by rw [hq2]; rfl
      have Hq2 := Lib.hid hq2
      clear hq2
      have hpn : (p.length : Int) = n * n := by have := Hq.out; simpa using this.symm
      have Hpn := Lib.hid hpn
      clear hpn
      cases q2
      · have hne : ¬ (c.length : Int) = n * n := fun h => by have h2 := Hq2.out; have h3 := Hpn.out; simp at h2; omega
        have hres : Hid (R = false) := Lib.hid (by rw [hdef.out, decide_eq_false hne]; simp)
        clear hdef hok hne
        go_enter Tryz.func31, Tryz.ntmps31
        go_wp2_with (go_at_call 54; refine (k0 _).mono ?_; rintro e w' ⟨rfl, rfl⟩)
        go_ret
        exact ⟨ret_bool (by rw [hres.out]), hbW⟩
      · have hcl : c.length = p.length := by have h2 := Hq2.out; simp at h2; omega
        have hres : Hid (R = (p.all premB && c.all cellB)) := Lib.hid (by rw [hdef.out, hok.out hcl, decide_eq_true (by rw [hcl]; exact Hpn.out)]; rfl)
        clear hdef hok hcl
        cases e3 : p.all premB
        · rw [e3] at k1 hres
          go_enter Tryz.func31, Tryz.ntmps31
          go_wp2_with (first
            | (go_at_call 54; refine (k0 _).mono ?_; rintro e w' ⟨rfl, rfl⟩)
            | (go_at_call 55; refine (k1 _).mono ?_; rintro e w' ⟨rfl, rfl⟩))
          go_ret
          exact ⟨ret_bool (by rw [hres.out]; rfl), hbW⟩
        · rw [e3] at k1 hres
          go_enter Tryz.func31, Tryz.ntmps31
          go_wp2_with (first
            | (go_at_call 54; refine (k0 _).mono ?_; rintro e w' ⟨rfl, rfl⟩)
            | (go_at_call 55; (with_reducible refine (k1 _).mono ?_); rintro e w' ⟨rfl, rfl⟩)
            | (go_at_call 55; (with_reducible refine (k2 _).mono ?_); rintro e w' ⟨rfl, rfl⟩))
          go_ret
          exact ⟨ret_bool (by rw [hres.out]; rfl), hbW⟩
end Go.Proofs.YtamdcbbclkobiaaGreatDoor
/-
  Contract: tryPlays where something is not valid (layer 16 of the impl package).
  Conditions: strings of common size; the words' slice reads as a list of strings.
-/
namespace Go.Proofs.YtamdcbbclkobiaaGreatDoor
open Go.RowKit RegP RegL RegV
set_option maxHeartbeats 2000000
set_option maxRecDepth 100000

theorem tryPlays_bad (A : Option Addr) (c : Nat) (lex : List Str) (b : Bd) (rack : Str) (w : World) (hr : Reads w w.heap.size 1 A lex.length (lex.map sv)) (hn : lex.length ≤ 2 ^ 32) (hls : ∀ x ∈ lex, x.length ≤ 2 ^ 40) (hp : b.prem.length ≤ 2 ^ 40) (hcl : b.cells.length ≤ 2 ^ 40) (hrk : rack.length ≤ 2 ^ 32)
    (hno : (lexB lex && (bdB b && rackB rack)) = false) :
    Calls Tryz.prog 20 #[.agg #[.slice A lex.length c], b.v, sv rack] w fun e w' => e = .returned (.tuple #[.slice none 0 0, .int .i64 1]) ∧ Below w.heap.size w w' := by
  have kl := fun (W : World) (hW : Below w.heap.size w W) => iValidLexicon_any A c lex W ((hr.below hW).more hW.size) (by omega) hls
  have kb := fun w => iValidBoard_any b w hp hcl
  have kr := fun w => iValidRack_any rack w (by omega)
  obtain ⟨LB, hLB⟩ : ∃ LB, LB = lexB lex := ⟨_, rfl⟩
  obtain ⟨BB, hBB⟩ : ∃ BB, BB = bdB b := ⟨_, rfl⟩
  obtain ⟨RB, hRB⟩ : ∃ RB, RB = rackB rack := ⟨_, rfl⟩
  rw [← hLB] at kl hno
  rw [← hBB] at kb hno
  rw [← hRB] at kr hno
  clear hLB hBB hRB hr hls
  obtain ⟨sz, bp, bc⟩ := b
  simp only [Bd.v] at *
  obtain ⟨W, hW⟩ : ∃ W, W = (w.alloc (.cells #[.slice A lex.length c] 31)).alloc (.cells #[.int .i64 sz, sv bp, sv bc] 33) := ⟨_, rfl⟩
  have hL : Blk W w.heap.size 31 #[.slice A lex.length c] := by rw [hW]; exact (Blk.new w _ _).alloc _
  have hB : Blk W (w.heap.size + 1) 33 #[.int .i64 sz, sv bp, sv bc] := by rw [hW]; exact Blk.new1 w _ _ _
  have hb : Below w.heap.size w W := by rw [hW]; exact ((Below.refl _ _).alloc (Nat.le_refl _) _).alloc (by simp) _
  cases LB
  · go_enter Tryz.func20, Tryz.ntmps20
    go_wp2_with (go_at_call 30; rw [← hW]; refine (kl _ hb).mono ?_; rintro e w1 ⟨rfl, hb1⟩)
    go_ret2
    exact ⟨rfl, hb.trans (hb1.mono hb.size)⟩
  cases BB
  · go_enter Tryz.func20, Tryz.ntmps20
    go_wp2_with (first
      | (go_at_call 30; rw [← hW]; refine (kl _ hb).mono ?_; rintro e w1 ⟨rfl, hb1⟩
         have hB1 := hB.below hb1 hB.lt
         have d0 : w1.cell? ⟨w.heap.size + 1, 0, none⟩ = some (.int .i64 sz) := hB1.cell 0
         have d1 : w1.cell? ⟨w.heap.size + 1, 1, none⟩ = some (sv bp) := hB1.cell 1
         have d2 : w1.cell? ⟨w.heap.size + 1, 2, none⟩ = some (sv bc) := hB1.cell 2
         have ht1 := hb.trans (hb1.mono hb.size))
      | (go_at_call 31; refine (kb _).mono ?_; rintro e w2 ⟨rfl, hb2⟩))
    go_ret2
    exact ⟨rfl, ht1.trans (hb2.mono ht1.size)⟩
  · obtain rfl : RB = false := by simpa using hno
    go_enter Tryz.func20, Tryz.ntmps20
    go_wp2_with (first
      | (go_at_call 30; rw [← hW]; refine (kl _ hb).mono ?_; rintro e w1 ⟨rfl, hb1⟩
         have hB1 := hB.below hb1 hB.lt
         have d0 : w1.cell? ⟨w.heap.size + 1, 0, none⟩ = some (.int .i64 sz) := hB1.cell 0
         have d1 : w1.cell? ⟨w.heap.size + 1, 1, none⟩ = some (sv bp) := hB1.cell 1
         have d2 : w1.cell? ⟨w.heap.size + 1, 2, none⟩ = some (sv bc) := hB1.cell 2
         have ht1 := hb.trans (hb1.mono hb.size))
      | (go_at_call 31; refine (kb _).mono ?_; rintro e w2 ⟨rfl, hb2⟩; have ht2 := ht1.trans (hb2.mono ht1.size))
      | (go_at_call 32; refine (kr _).mono ?_; rintro e w3 ⟨rfl, hd3⟩))
    go_ret2
    exact ⟨rfl, ht2.trans (hd3.below.mono ht2.size)⟩
end Go.Proofs.YtamdcbbclkobiaaGreatDoor
