/-
  Contracts: tiles, piles and racks (layer 3 of the impl package); Contracts: counts of tiles (layer 3 of the impl package); Contracts: the pile of counts (layer 3 of the impl package); Contracts: counts without others; the tiles that a pile keeps (layer 3 of the impl package); Contracts: piles without tiles, tiles of letters, what a pile can make (layer 3 of the impl package).
  Conditions: as each part below says.
-/
import Derived.Test.YtamdcbbclkobiaaGreatDoorM07
import Derived.Test.YtamdcbbclkobiaaGreatDoorM02
import Derived.Lib.SlicesCompact
import Derived.Deep.DeepCutAuto
import Derived.Great.BuildSlice
import Derived.Test.YtamdcbbclkobiaaGreatDoorM05
import Derived.Lib.Builder
import Derived.Lib.UnsafeStr
import Derived.Laws.Externs
import Derived.RegionTactic
import Derived.Laws.Rows
import Derived.Laws.Tables
import Derived.Test.YtamdcbbclkobiaaGreatDoorM12
/-
  Contracts: tiles, piles and racks (layer 3 of the impl package).
  Conditions: lengths at most 2^40.
-/
namespace Go.Proofs.YtamdcbbclkobiaaGreatDoor
open Go.RowKit RegP RegL RegV
set_option maxHeartbeats 1000000

/-- The index of a tile in counts. -/
def tileK (c : UInt8) : Nat := if c == 63 then 0 else c.toNat - 96
theorem tileK_lt {c : UInt8} (h : tileB c = true) : tileK c < 27 := by
  unfold tileB smallB at h
  unfold tileK
  split
  · omega
  · rename_i hc
    simp only [Bool.or_eq_true, Bool.and_eq_true, decide_eq_true_eq, hc] at h
    simp at h
    omega
theorem place_tile (c : UInt8) (w : World) (h : tileB c = true) :
    Calls Tryz.prog 59 #[bv c] w fun e w' => e = .returned (.int .i64 (tileK c : Nat)) ∧ w = w' := by
  have hq : ((c.toNat : Int) == 63) = (c == 63) := u8_eq c 63
  unfold tileB at h
  obtain ⟨K, hK⟩ : ∃ K, K = tileK c := ⟨_, rfl⟩
  have hdef : Hid (K = if c == 63 then 0 else c.toNat - 96) := Lib.hid hK
  rw [← hK]
  clear hK
  cases h1 : c == 63
  · rw [h1] at hq h hdef
    simp only [Bool.false_or] at h
    have hs := h
    unfold smallB at hs
    simp only [Bool.and_eq_true, decide_eq_true_eq] at hs
    obtain ⟨h97, h122⟩ := hs
    have hsm := fun w => small_any c w
    rw [h] at hsm
    clear h
    go_enter Tryz.func59, Tryz.ntmps59
    go_wp2_with (go_at_call 105; refine (hsm _).mono ?_; rintro e w' ⟨rfl, rfl⟩)
    go_ret
    exact ⟨ret_int (by rw [hdef.out]; simp; omega), rfl⟩
  · rw [h1] at hq hdef
    clear h
    go_enter Tryz.func59, Tryz.ntmps59
    go_wp2_with (fail)
    go_ret
    exact ⟨ret_int (by rw [hdef.out]; rfl), rfl⟩
theorem place_none (c : UInt8) (w : World) (h : tileB c = false) :
    Calls Tryz.prog 59 #[bv c] w fun e w' => e = .returned (.int .i64 (-1)) ∧ w = w' := by
  have hq : ((c.toNat : Int) == 63) = (c == 63) := u8_eq c 63
  unfold tileB at h
  rw [Bool.or_eq_false_iff] at h
  obtain ⟨h1, h2⟩ := h
  rw [h1] at hq
  have hsm := fun w => small_any c w
  rw [h2] at hsm
  clear h1 h2
  go_enter Tryz.func59, Tryz.ntmps59
  go_wp2_with (go_at_call 105; refine (hsm _).mono ?_; rintro e w' ⟨rfl, rfl⟩)
  go_ret
  exact ⟨rfl, rfl⟩
theorem onlyTiles_any (l : Str) (w : World) (hl : l.length ≤ 2 ^ 40) :
    Calls Tryz.prog 107 #[sv l] w fun e w' => e = .returned (.bool (l.all tileB)) ∧ w = w' := by
  go_enter Tryz.func107, Tryz.ntmps107
  go_wp2_with (fail)
  go_loop [3] (fun i => ∃ k : Nat, k ≤ l.length ∧ i = .int .i64 k ∧ Hid (l.all tileB = (l.drop k).all tileB)) (fun i => l.length - (intOf i).toNat)
  case atStart => exact ⟨0, by omega, rfl, rfl⟩
  case round =>
    obtain ⟨k, hk, rfl, he⟩ := hrel
    by_cases hlt : k < l.length
    · have hd := Lib.hid (drop_cons l k hlt)
      cases hc : tileB l[k]
      · go_wp2_with (go_at_call 59; refine (place_none _ _ hc).mono ?_; rintro e w' ⟨rfl, rfl⟩)
        go_ret
        exact ⟨by rw [he.out, hd.out, List.all_cons, hc]; simp, rfl⟩
      · have h0 : (0 : Int) ≤ (tileK l[k] : Int) := by omega
        go_wp2_with (go_at_call 59; refine (place_tile _ _ hc).mono ?_; rintro e w' ⟨rfl, rfl⟩)
        go_round
        case rel => exact ⟨k + 1, by omega, by go_num, Lib.hid (by rw [he.out, hd.out, List.all_cons, hc]; simp)⟩
        case measure => simp [intOf]; omega
    · rw [drop_all l k (by omega)] at he
      go_wp2
      go_ret
      exact ⟨by rw [he.out]; simp, rfl⟩

def ascB : Str → Bool
  | [] => true
  | [_] => true
  | a :: b :: r => leB a b && ascB (b :: r)
theorem ascB_drop (s : Str) (k : Nat) (hk : 1 ≤ k) (h : k < s.length) : ascB (s.drop (k - 1)) = (leB s[k - 1] s[k] && ascB (s.drop k)) := by
  rw [drop_cons s (k - 1) (by omega)]
  have e : s.drop (k - 1 + 1) = s[k] :: s.drop (k + 1) := by rw [show k - 1 + 1 = k from by omega]; exact drop_cons s k h
  rw [e, ascB, ← drop_cons s k h]
theorem ascB_end (s : Str) (k : Nat) (hk : 1 ≤ k) (h : s.length ≤ k) : ascB (s.drop (k - 1)) = true := by
  by_cases h1 : k - 1 < s.length
  · rw [drop_cons s (k - 1) h1, drop_all s _ (by omega)]; rfl
  · rw [drop_all s _ (by omega)]; rfl
theorem pileFrom_eq (s : Str) : pileFrom none s = (s.all tileB && ascB s) := by
  have key : ∀ (r : Str) (a : UInt8), pileFrom (some a) r = (ascB (a :: r) && r.all tileB) := by
    intro r
    induction r with
    | nil => intro a; rfl
    | cons b r ih => intro a; simp only [pileFrom, ih, ascB, List.all_cons]; cases tileB b <;> cases leB a b <;> simp
  cases s with
  | nil => rfl
  | cons a r => simp only [pileFrom, key, List.all_cons]; cases tileB a <;> simp [Bool.and_comm]
theorem iValidPile_any (s : Str) (w : World) (hs : s.length ≤ 2 ^ 40) :
    Calls Tryz.prog 58 #[sv s] w fun e w' => e = .returned (.bool (pileB s)) ∧ Dr w w' := by
  have hdef : Hid (pileB s = (s.all tileB && ascB s && decide (s.length ≤ 120))) := Lib.hid (by rw [pileB, pileFrom_eq])
  have ht := fun w => onlyTiles_any s w hs
  obtain ⟨P, hP⟩ : ∃ P, P = pileB s := ⟨_, rfl⟩
  rw [← hP] at hdef ⊢
  clear hP
  by_cases h120 : 120 < s.length
  · have h120' : (120 : Int) < (s.length : Int) := by omega
    go_enter Tryz.func58, Tryz.ntmps58
    go_wp2_with (fail)
    go_ret
    exact ⟨ret_bool (by rw [hdef.out]; simp; omega), Dr.refl _⟩
  · have h120' : decide ((120 : Int) < (s.length : Int)) = false := decide_eq_false (by omega)
    cases hall : s.all tileB
    · rw [hall] at ht hdef
      go_enter Tryz.func58, Tryz.ntmps58
      go_wp2_with (go_at_call 107; refine (ht _).mono ?_; rintro e w' ⟨rfl, rfl⟩)
      go_ret
      exact ⟨ret_bool (by rw [hdef.out]; rfl), Dr.refl _⟩
    · rw [hall] at ht hdef
      go_enter Tryz.func58, Tryz.ntmps58
      go_wp2_with (go_at_call 107; refine (ht _).mono ?_; rintro e w' ⟨rfl, rfl⟩)
      go_loopw [3] (fun i wr => ∃ k : Nat, 1 ≤ k ∧ k ≤ s.length + 1 ∧ i = .int .i64 k ∧ Hid (ascB s = ascB (s.drop (k - 1))) ∧ Dr w wr) (fun i _ => s.length + 1 - (intOf i).toNat)
      case atStart => exact ⟨1, by omega, by omega, rfl, rfl, Dr.refl _⟩
      case round =>
        obtain ⟨k, hk1, hk2, rfl, he, hw⟩ := hrel
        by_cases hlt : k < s.length
        · have hd := Lib.hid (ascB_drop s k hk1 hlt)
          have hi1 : (1 : Int) ≤ (k : Int) := by omega
          have hi0 : (0 : Int) ≤ (k : Int) := by omega
          have hi2 : (k : Int) < (s.length : Int) := by omega
          have hi4 : (0 : Int) ≤ (k : Int) - 1 := by omega
          have hi5 : (k : Int) - 1 < (s.length : Int) := by omega
          have hi3 : ((k : Int) - 1).toNat = k - 1 := by omega
          have hle : decide (s[k].toNat < (s[k - 1]'(by omega)).toNat) = !leB (s[k - 1]'(by omega)) s[k] := by
            unfold leB; rw [Bool.eq_iff_iff]; simp
          cases hxy : leB (s[k - 1]'(by omega)) s[k]
          all_goals
            rw [hxy] at hle
            go_wp2_with (fail)
            go_quiet (fail)
            go_wp2
          · go_ret
            exact ⟨ret_bool (by rw [hdef.out, he.out, hd.out, hxy]; rfl), hw.more _⟩
          · go_roundw
            case rel => exact ⟨k + 1, by omega, by omega, by go_num, Lib.hid (by rw [he.out, hd.out, hxy]; rfl), hw.more _⟩
            case measure => simp [intOf]; omega
        · have he2 := Lib.hid (ascB_end s k hk1 (by omega))
          go_wp2_with (fail)
          go_ret
          exact ⟨ret_bool (by rw [hdef.out, he.out, he2.out]; simp; omega), hw⟩
theorem iValidRack_any (s : Str) (w : World) (hs : s.length ≤ 2 ^ 40) :
    Calls Tryz.prog 32 #[sv s] w fun e w' => e = .returned (.bool (rackB s)) ∧ Dr w w' := by
  unfold rackB
  by_cases h7 : s.length ≤ 7
  · go_enter Tryz.func32, Tryz.ntmps32
    go_wp2_with (go_at_call 58; refine (iValidPile_any _ _ hs).mono ?_; rintro e w' ⟨rfl, hw⟩)
    go_ret
    exact ⟨ret_bool (by simp [h7]), hw⟩
  · go_enter Tryz.func32, Tryz.ntmps32
    go_wp2_with (fail)
    go_ret
    exact ⟨ret_bool (by simp), Dr.refl _⟩
end Go.Proofs.YtamdcbbclkobiaaGreatDoor
/-
  Contracts: counts of tiles (layer 3 of the impl package).
  Conditions: tiles alone; lengths at most 2^38.
-/
namespace Go.Proofs.YtamdcbbclkobiaaGreatDoor
open Go.RowKit RegP RegL RegV
set_option maxHeartbeats 1000000
set_option maxRecDepth 100000

/-- Counts as a row of cells. -/
def cntA (c : List Int) : Array Value := (c.map (Value.int .i64)).toArray
def incAt (c : List Int) (k : Nat) : List Int := c.set k (c.getD k 0 + 1)
def zeroC : List Int := List.replicate 27 0
def countsL (s : Str) : List Int := s.foldl (fun c x => incAt c (tileK x)) zeroC
theorem incAt_length (c : List Int) (k : Nat) : (incAt c k).length = c.length := by simp [incAt]
theorem countsL_snoc (s : Str) (x : UInt8) : countsL (s ++ [x]) = incAt (countsL s) (tileK x) := by simp [countsL]
theorem foldl_inc_length (s : Str) : ∀ c : List Int, (s.foldl (fun c x => incAt c (tileK x)) c).length = c.length := by
  induction s with
  | nil => intro c; rfl
  | cons x r ih => intro c; rw [List.foldl_cons, ih, incAt_length]
theorem countsL_length (s : Str) : (countsL s).length = 27 := by rw [countsL, foldl_inc_length]; rfl
theorem cntA_size (c : List Int) : (cntA c).size = c.length := by simp [cntA]
theorem cntA_get (c : List Int) (k : Nat) (h : k < c.length) : (cntA c)[k]? = some (.int .i64 (c.getD k 0)) := by
  simp [cntA, List.getD_eq_getElem?_getD, List.getElem?_eq_getElem h]
theorem cntA_set (c : List Int) (k : Nat) (x : Int) : (cntA c).setIfInBounds k (.int .i64 x) = cntA (c.set k x) := by
  simp [cntA, List.map_set]
theorem cntA_one (c : List Int) : (cntA c).all (·.oneCell') = true := by
  simp [cntA, Value.oneCell']
theorem incAt_bd {c : List Int} {m : Int} (h : ∀ j, c.getD j 0 ≤ m ∧ 0 ≤ c.getD j 0) (hm : 0 ≤ m) (k j : Nat) : (incAt c k).getD j 0 ≤ m + 1 ∧ 0 ≤ (incAt c k).getD j 0 := by
  unfold incAt
  have h1 := h j
  have h2 := h k
  rw [List.getD_eq_getElem?_getD, List.getElem?_set]
  split
  · split
    · rw [Option.getD_some]; omega
    · simp; omega
  · rw [← List.getD_eq_getElem?_getD]; omega
theorem foldl_inc_bd (s : Str) : ∀ (c : List Int) (m : Int), 0 ≤ m → (∀ j, c.getD j 0 ≤ m ∧ 0 ≤ c.getD j 0) → ∀ j, (s.foldl (fun c x => incAt c (tileK x)) c).getD j 0 ≤ m + s.length ∧ 0 ≤ (s.foldl (fun c x => incAt c (tileK x)) c).getD j 0 := by
  induction s with
  | nil => intro c m _ h j; simpa using h j
  | cons x r ih =>
    intro c m hm h j
    have := ih (incAt c (tileK x)) (m + 1) (by omega) (fun j => incAt_bd h hm _ j) j
    rw [List.foldl_cons, List.length_cons]
    omega
theorem zeroC_get (j : Nat) : zeroC.getD j 0 = 0 := by
  unfold zeroC
  rw [List.getD_eq_getElem?_getD, List.getElem?_replicate]
  split <;> rfl
theorem countsL_bd (s : Str) (j : Nat) : (countsL s).getD j 0 ≤ s.length ∧ 0 ≤ (countsL s).getD j 0 := by
  have := foldl_inc_bd s zeroC 0 (by omega) (fun j => by rw [zeroC_get]; omega) j
  rw [countsL]; omega

section
variable {w : World} {g g' : Nat} {t t' : TypeId} {old cs cs' : Array Value} {B : Nat} {a : World}
theorem Blk.setRow (h : Blk w g t old) : Blk (w.setRow g cs) g t cs := by
  unfold Blk at h ⊢
  simp [World.setRow, Array.getElem?_modify, h]
theorem Blk.setRow_far (h : Blk w g t cs) (hne : g ≠ g') : Blk (w.setRow g' cs') g t cs := by
  unfold Blk at h ⊢
  simp [World.setRow, Array.getElem?_modify, Ne.symm hne, h]
end
theorem below_setRow {w a : World} {B g : Nat} {cs : Array Value} (h : Below B a w) (hB : B ≤ g) : Below B a (w.setRow g cs) := by
  refine h.trans ⟨rfl, rfl, rfl, by simp [World.setRow], fun k hk => ?_⟩
  have : g ≠ k := by omega
  simp [World.setRow, Array.getElem?_modify, this]
theorem countsOf_any (s : Str) (w : World) (hs : s.length ≤ 2 ^ 38) (ht : s.all tileB = true) :
    Calls Tryz.prog 33 #[sv s] w fun e w' => e = .returned (.agg (cntA (countsL s))) ∧ Below w.heap.size w w' := by
  have hsz : (cntA (countsL s)).size = 27 := by rw [cntA_size, countsL_length]
  have hone := cntA_one (countsL s)
  obtain ⟨X, hX⟩ : ∃ X, X = cntA (countsL s) := ⟨_, rfl⟩
  rw [← hX] at hsz hone ⊢
  have hs27 := Lib.hid hsz
  have hX' := Lib.hid hX
  clear hX hsz
  go_enter Tryz.func33, Tryz.ntmps33
  go_wp2_with (fail)
  obtain ⟨W, hW⟩ : ∃ W, W = (w.alloc (.cells (cntA zeroC) 62)).alloc (.cells (cntA zeroC) 62) := ⟨_, rfl⟩
  have hB0 : Blk W w.heap.size 62 (cntA zeroC) := by rw [hW]; exact (Blk.new w _ _).alloc _
  have hB1 : Blk W (w.heap.size + 1) 62 (cntA zeroC) := by rw [hW]; exact Blk.new1 w _ _ _
  have hbW : Below w.heap.size w W := by rw [hW]; exact ((Below.refl _ _).alloc (Nat.le_refl _) _).alloc (by simp) _
  change Code.wp _ _ _ _ ((w.alloc (.cells (cntA zeroC) 62)).alloc (.cells (cntA zeroC) 62))
  rw [← hW]
  clear hW
  go_loopw [4] (fun i wr => ∃ k : Nat, k ≤ s.length ∧ i = .int .i64 k ∧ Blk wr w.heap.size 62 (cntA zeroC) ∧ Blk wr (w.heap.size + 1) 62 (cntA (countsL (s.take k))) ∧ Below w.heap.size w wr) (fun i _ => s.length - (intOf i).toNat)
  case atStart => exact ⟨0, by omega, rfl, hB0, hB1, hbW⟩
  case round =>
    clear hB0 hB1 hbW
    obtain ⟨k, hk, rfl, hB0, hB1, hb⟩ := hrel
    by_cases hlt : k < s.length
    · have hc : tileB s[k] = true := List.all_eq_true.1 ht _ (List.getElem_mem _)
      have hK := tileK_lt hc
      have kp := fun w => place_tile s[k] w hc
      have hstep : Hid (countsL (s.take (k + 1)) = incAt (countsL (s.take k)) (tileK s[k])) := Lib.hid (by rw [List.take_succ_eq_append_getElem hlt, countsL_snoc])
      have hcl := countsL_length (s.take k)
      have hbd := countsL_bd (s.take k) (tileK s[k])
      obtain ⟨K, hKK⟩ : ∃ K, K = tileK s[k] := ⟨_, rfl⟩
      obtain ⟨C, hC⟩ : ∃ C, C = countsL (s.take k) := ⟨_, rfl⟩
      rw [← hKK] at hK kp hstep hbd
      rw [← hC] at hB1 hstep hcl hbd
      rw [List.length_take] at hbd
      have hget := hB1.cell K
      rw [cntA_get C K (by omega)] at hget
      have hfz := hB1.frozen K
      have hset := hB1.set_ K (.int .i64 (C.getD K 0 + 1))
      rw [cntA_set] at hset
      obtain ⟨x, hx⟩ : ∃ x, x = C.getD K 0 := ⟨_, rfl⟩
      have hinc : Hid (incAt C K = C.set K (x + 1)) := Lib.hid (by rw [hx]; rfl)
      rw [← hx] at hget hset hbd
      have hx0 : 0 ≤ x := hbd.2
      have hx1 : x ≤ 274877906944 := by omega
      have hK0 : (0 : Int) ≤ (K : Int) := by omega
      have hK1 : (K : Int) < 27 := by omega
      have hsz := hB1.lt
      clear hC hKK hx hbd hcl
      go_wp2_with (go_at_call 59; refine (kp _).mono ?_; rintro e w' ⟨rfl, rfl⟩)
      go_roundw
      case rel => exact ⟨k + 1, by omega, by go_num, hB0.far (by simp) _, by rw [hstep.out, hinc.out]; exact hset, hb.setCell (by simp) _⟩
      case measure => simp [intOf]; omega
    · obtain rfl : k = s.length := by omega
      rw [List.take_length] at hB1
      rw [← hX'.out] at hB1
      have hbX := below_setRow (cs := X) hb (Nat.le_refl _)
      have hBX := hB0.setRow (cs := X)
      go_wp2_with (first
        | (refine wpList_load_row rfl 62 (.tmp 3) rfl (w.heap.size + 1) rfl 62 X (0, 0) _ hB1 Tryz.underlying62 rfl (by rw [hs27.out]; kernel_rfl) ?_)
        | (refine wpList_store_row rfl 62 (.tmp 2) (.tmp 19) rfl w.heap.size X rfl rfl 62 (cntA zeroC) hB0 (by rw [hs27.out]; kernel_rfl) (by rw [hs27.out]; rfl) hone ?_))
      exact ret_row (by rfl) w.heap.size 62 X _ rfl hBX Tryz.underlying62 rfl (by rw [hs27.out]; kernel_rfl) rfl ⟨rfl, hbX⟩
end Go.Proofs.YtamdcbbclkobiaaGreatDoor
/-
  Contracts: the pile of counts (layer 3 of the impl package).
  Conditions: counts of common size.
-/
namespace Go.Proofs.YtamdcbbclkobiaaGreatDoor
open Go.RowKit RegP RegL RegV
set_option maxHeartbeats 1000000
set_option maxRecDepth 100000

theorem run_index_cnt (c : List Int) (k : Nat) (w : World) (h : k < 27) (hc : c.length = 27) :
    (Instr.index 62 (.agg (cntA c)) (.int .i64 (k : Int))).run Tryz.prog w = .ok (.int .i64 (c.getD k 0)) w := by
  have hg := cntA_get c k (by omega)
  have hu : Tryz.prog.underlying 62 = some (.array 27 3) := Tryz.underlying62
  have hagg : ∀ w, (isAgg 3).run Tryz.prog w = .ok false w := fun w => by kernel_rfl
  have hsz : ∀ w, (Go.sizeOf 3).run Tryz.prog w = .ok 1 w := fun w => by kernel_rfl
  simp [Instr.index, asIntOf, run_underlying hu, hsz, hagg, hg, part, h]
/-- The tile with an index. -/
def tileC (k : Nat) : UInt8 := if k = 0 then 63 else UInt8.ofNat (96 + k)
theorem tileC_nat (k : Nat) (h : k < 27) (h0 : k ≠ 0) : ((tileC k).toNat : Int) = 96 + k := by
  unfold tileC
  rw [if_neg h0, UInt8.toNat_ofNat']
  omega
theorem tileAt_any (k : Nat) (w : World) (h : k < 27) :
    Calls Tryz.prog 162 #[.int .i64 (k : Int)] w fun e w' => e = .returned (bv (tileC k)) ∧ w = w' := by
  by_cases h0 : k = 0
  · subst h0
    go_enter Tryz.func162, Tryz.ntmps162
    go_wp2_with (fail)
    go_ret
    exact ⟨rfl, rfl⟩
  · have h0' : ((k : Int) == 0) = false := by simp [h0]
    have hn := Lib.hid (tileC_nat k h h0)
    have hk : (k : Int) < 27 := by omega
    have hk1 : (1 : Int) ≤ (k : Int) := by omega
    clear h h0
    go_enter Tryz.func162, Tryz.ntmps162
    go_wp2_with (fail)
    go_ret
    exact ⟨congrArg (fun n => Ending.returned (.int .u8 n)) (by rw [hn.out]; omega), rfl⟩

def pileTo (c : List Int) (k : Nat) : Str := (List.range k).flatMap fun i => List.replicate (c.getD i 0).toNat (tileC i)
def pileL (c : List Int) : Str := pileTo c 27
theorem pileTo_succ (c : List Int) (k : Nat) : pileTo c (k + 1) = pileTo c k ++ List.replicate (c.getD k 0).toNat (tileC k) := by
  simp [pileTo, List.range_succ]
theorem pileTo_le (c : List Int) (k : Nat) : ∀ d, (pileTo c k).length ≤ (pileTo c (k + d)).length
  | 0 => Nat.le_refl _
  | d + 1 => by
    have := pileTo_le c k d
    rw [show k + (d + 1) = (k + d) + 1 by omega, pileTo_succ, List.length_append]; omega
theorem pile_any (c : List Int) (w : World) (hc : c.length = 27) (hnn : ∀ j, 0 ≤ c.getD j 0) (hs : (pileL c).length ≤ 2 ^ 37) :
    Calls Tryz.prog 112 #[.agg (cntA c)] w fun e w' => e = .returned (sv (pileL c)) ∧ Below w.heap.size w w' := by
  have hidx := fun (k : Nat) (h : k < 27) (w : World) => run_index_cnt c k w h hc
  have hsz : (cntA c).size = 27 := by rw [cntA_size, hc]
  obtain ⟨X, hX⟩ : ∃ X, X = cntA c := ⟨_, rfl⟩
  have hPL : Hid (pileL c = pileTo c 27) := Lib.hid rfl
  obtain ⟨PL, hPLe⟩ : ∃ PL, PL = pileL c := ⟨_, rfl⟩
  rw [← hPLe] at hPL hs ⊢
  rw [← hX] at hidx hsz ⊢
  clear hX hPLe
  have hs27 := Lib.hid hsz
  have hidx' := Lib.hid hidx
  clear hsz hidx hc
  go_enter Tryz.func112, Tryz.ntmps112
  go_wp2_with (refine wpList_load_row rfl 62 (.tmp 1) rfl w.heap.size rfl 62 X (0, 0) _ ((Blk.new w 62 X).alloc _) Tryz.underlying62 rfl (by rw [hs27.out]; kernel_rfl) ?_)
  have hB0 : BldAt ((w.alloc (.cells X 62)).alloc (.cells #[.pointer none, .slice none 0 0] 107)) (w.heap.size + 1) w.heap.size (.pointer none) [] :=
    ⟨by omega, _, Blk.new1 w _ _ _, ⟨rfl, .inl ⟨rfl, rfl⟩⟩, fun _ => rfl⟩
  have hb0 : Below w.heap.size w ((w.alloc (.cells X 62)).alloc (.cells #[.pointer none, .slice none 0 0] 107)) := ((Below.refl _ _).alloc (Nat.le_refl _) _).alloc (by simp) _
  have hn' := Lib.hid hnn
  clear hnn
  go_loopw [7] (fun i wr => ∃ (k : Nat) (p : Value), k ≤ 27 ∧ i = .int .i64 k ∧ Hid (p = .pointer none ∨ p = selfP (w.heap.size + 1)) ∧ BldAt wr (w.heap.size + 1) w.heap.size p (pileTo c k) ∧ Below w.heap.size w wr) (fun i _ => 27 - (intOf i).toNat)
  case atStart => exact ⟨0, _, by omega, rfl, .inl rfl, hB0, hb0⟩
  case round =>
    clear hB0 hb0
    obtain ⟨k, p, hk, rfl, hp, hB, hb⟩ := hrel
    by_cases hlt : k < 27
    · have hkk : (k : Int) < 27 := by omega
      have hk0 : (0 : Int) ≤ (k : Int) := by omega
      have hix := hidx'.out k hlt
      have hsucc := pileTo_succ c k
      have hle := pileTo_le c (k + 1) (26 - k)
      rw [show k + 1 + (26 - k) = 27 by omega, ← hPL.out] at hle
      have hsl : Hid ((pileTo c (k + 1)).length = (pileTo c k).length + (c.getD k 0).toNat) := Lib.hid (by rw [hsucc, List.length_append, List.length_replicate])
      have hsc := Lib.hid hsucc
      obtain ⟨n, hn⟩ : ∃ n : Nat, c.getD k 0 = (n : Int) := ⟨(c.getD k 0).toNat, by have := hn'.out k; omega⟩
      have hsc2 : Hid (pileTo c (k + 1) = pileTo c k ++ List.replicate n (tileC k)) := Lib.hid (by rw [hsc.out, hn]; simp)
      have hlen : (pileTo c k).length + n ≤ 137438953472 := by have h := hsl.out; rw [hn] at h; simp at h; omega
      rw [hn] at hix
      have kt := fun w => tileAt_any k w hlt
      obtain ⟨P0, hP0⟩ : ∃ P0, P0 = pileTo c k := ⟨_, rfl⟩
      rw [← hP0] at hB hsc2 hlen
      obtain ⟨t, ht⟩ : ∃ t, t = tileC k := ⟨_, rfl⟩
      rw [← ht] at kt hsc2
      clear hsucc hsc hsl hn hP0 ht hle
      go_wp2_with (fail)
      obtain ⟨wo, rfl⟩ : ∃ wo : World, wo = wr := ⟨_, rfl⟩
      go_loopw [5] (fun i wr => ∃ (m : Nat) (p : Value), m ≤ n ∧ i = .int .i64 m ∧ Hid (p = .pointer none ∨ p = selfP (w.heap.size + 1)) ∧ BldAt wr (w.heap.size + 1) w.heap.size p (P0 ++ List.replicate (n - m) t) ∧ Below w.heap.size w wr) (fun i _ => (intOf i).toNat)
      case atStart => exact ⟨n, p, Nat.le_refl _, rfl, hp, by simpa using hB, hb⟩
      case round =>
        clear hB hb hp
        obtain ⟨m, p, hm, rfl, hp, hB, hb⟩ := hrel
        by_cases hm0 : 0 < m
        · have hm1 : (0 : Int) < (m : Int) := by omega
          have hln : (P0 ++ List.replicate (n - m) t).length ≤ 2 ^ 37 := by simp; omega
          have hstep : Hid (P0 ++ List.replicate (n - (m - 1)) t = (P0 ++ List.replicate (n - m) t) ++ [t]) := Lib.hid (by rw [show n - (m - 1) = (n - m) + 1 by omega, List.replicate_succ', List.append_assoc])
          have hz := hb.size
          have hsub : Hid ((m : Int) - 1 = ((m - 1 : Nat) : Int)) := Lib.hid (by omega)
          obtain ⟨L, hL⟩ : ∃ L, L = P0 ++ List.replicate (n - m) t := ⟨_, rfl⟩
          rw [← hL] at hB hln hstep
          clear hL
          go_wp2_with (first
            | (go_at_call 162; refine (kt _).mono ?_; rintro e w' ⟨rfl, rfl⟩)
            | (go_at_call 75; refine (WriteByte_any (w.heap.size + 1) w.heap.size p L t _ hp.out hB hln hz).mono ?_; rintro e w2 ⟨rfl, hB2, hb2⟩))
          go_roundw
          case rel => exact ⟨m - 1, _, by omega, by rw [hsub.out], .inr rfl, by rw [hstep.out]; exact hB2, hb.trans hb2⟩
          case measure => simp [intOf]; omega
        · obtain rfl : m = 0 := by omega
          go_wp2_with (fail)
          go_roundw
          case rel => exact ⟨k + 1, p, by omega, by go_num, hp, by rw [hsc2.out]; simpa using hB, hb⟩
          case measure => simp [intOf]; omega
    · obtain rfl : k = 27 := by omega
      rw [← hPL.out] at hB
      go_wp2_with (go_at_call 76; refine (String_any (w.heap.size + 1) w.heap.size p PL _ hB).mono ?_; rintro e w2 ⟨rfl, hb2⟩)
      go_ret
      exact ⟨rfl, hb.trans hb2⟩
end Go.Proofs.YtamdcbbclkobiaaGreatDoor
/-
  Contracts: counts without others; the tiles that a pile keeps (layer 3 of the impl package).
  Conditions: counts and lengths of common size; tiles alone.
-/
namespace Go.Proofs.YtamdcbbclkobiaaGreatDoor
open Go.RowKit RegP RegL RegV
set_option maxHeartbeats 1000000
set_option maxRecDepth 100000

/-- Two results: a struct or array in a variable, and a slot. -/
theorem ret_row_slot {P : Program} {fn : Func} {R : Ending → World → Prop} {a : Act} {w : World} {p q : Tmp} {ty : TypeId} {v : Value} (h : fn.results = #[.cell p ty, .tmp q]) (g : Nat) (t : TypeId) (cs : Array Value) (d : TypeDesc)
    (hp : a.tmps.getD p undef = .pointer (some ⟨g, 0, none⟩)) (hg : Blk w g t cs) (hu : P.underlying ty = some d)
    (hd : (match d with | .struct _ | .array _ _ => true | _ => false) = true) (hi : (P.info? ty).map (·.size) = some cs.size)
    (hq : a.tmps.getD q undef = v) (hdf : a.defers = [])
    (hR : R (.returned (.tuple #[.agg cs, v])) w) : bodyPost P fn R .ret a w := by
  have e1 : a.tmps[p]?.getD undef = .pointer (some ⟨g, 0, none⟩) := by simpa using hp
  have e2 : a.tmps[q]?.getD undef = v := by simpa using hq
  refine bodyPost_ret (v := .tuple #[.agg cs, v]) ?_ hdf hR
  simp [results, h, e1, e2, asAddr, run_loadVar_row w g t ty cs (0, 0) d hg hu hd hi]

def subTo (c d : List Int) (k : Nat) : List Int := (List.range 27).map fun i => if i < k then c.getD i 0 - d.getD i 0 else c.getD i 0
def lessOk (c d : List Int) : Bool := (List.range 27).all fun i => decide (d.getD i 0 ≤ c.getD i 0)
def lessR (c d : List Int) : List Int := if lessOk c d then subTo c d 27 else zeroC
theorem subTo_length (c d : List Int) (k : Nat) : (subTo c d k).length = 27 := by simp [subTo]
theorem subTo_get (c d : List Int) (k i : Nat) (h : i < 27) : (subTo c d k).getD i 0 = if i < k then c.getD i 0 - d.getD i 0 else c.getD i 0 := by
  simp [subTo, List.getD_eq_getElem?_getD, List.getElem?_map, List.getElem?_range h]
theorem subTo_zero (c d : List Int) (h : c.length = 27) : subTo c d 0 = c := by
  refine List.ext_getElem (by rw [subTo_length, h]) fun i h1 h2 => ?_
  have := subTo_get c d 0 i (by omega)
  simpa [List.getD_eq_getElem?_getD, List.getElem?_eq_getElem h1, List.getElem?_eq_getElem h2] using this
theorem subTo_step (c d : List Int) (k : Nat) : (subTo c d k).set k (c.getD k 0 - d.getD k 0) = subTo c d (k + 1) := by
  refine List.ext_getElem (by simp [subTo_length]) fun i h1 h2 => ?_
  rw [subTo_length] at h2
  have e1 := subTo_get c d k i h2
  have e2 := subTo_get c d (k + 1) i h2
  rw [List.getElem_set]
  have f1 : (subTo c d k)[i]'(by rw [subTo_length]; exact h2) = (subTo c d k).getD i 0 := by simp [List.getD_eq_getElem?_getD, List.getElem?_eq_getElem (show i < (subTo c d k).length by rw [subTo_length]; exact h2)]
  have f2 : (subTo c d (k + 1))[i]'(by rw [subTo_length]; exact h2) = (subTo c d (k + 1)).getD i 0 := by simp [List.getD_eq_getElem?_getD, List.getElem?_eq_getElem (show i < (subTo c d (k + 1)).length by rw [subTo_length]; exact h2)]
  rw [f1, f2, e1, e2]
  by_cases hik : k = i
  · subst hik; rw [if_pos rfl, if_pos (by omega)]
  · rw [if_neg hik]
    by_cases h3 : i < k
    · rw [if_pos h3, if_pos (by omega)]
    · rw [if_neg h3, if_neg (by omega)]
theorem less_any (c d : List Int) (w : World) (hc : c.length = 27) (hd : d.length = 27) (hcb : ∀ j, 0 ≤ c.getD j 0 ∧ c.getD j 0 ≤ 2 ^ 40) (hdb : ∀ j, 0 ≤ d.getD j 0 ∧ d.getD j 0 ≤ 2 ^ 40) :
    Calls Tryz.prog 111 #[.agg (cntA c), .agg (cntA d)] w fun e w' => e = .returned (.tuple #[.agg (cntA (lessR c d)), .bool (lessOk c d)]) ∧ Below w.heap.size w w' := by
  have hidx := fun (k : Nat) (h : k < 27) (w : World) => run_index_cnt d k w h hd
  have hszC : (cntA c).size = 27 := by rw [cntA_size, hc]
  have hszD : (cntA d).size = 27 := by rw [cntA_size, hd]
  have hs0 := subTo_zero c d hc
  obtain ⟨C, hC⟩ : ∃ C, C = cntA c := ⟨_, rfl⟩
  obtain ⟨D, hD⟩ : ∃ D, D = cntA d := ⟨_, rfl⟩
  have hRdef : Hid (lessR c d = if lessOk c d then subTo c d 27 else zeroC) := Lib.hid rfl
  have hOdef : Hid (lessOk c d = (List.range 27).all fun i => decide (d.getD i 0 ≤ c.getD i 0)) := Lib.hid rfl
  obtain ⟨R, hR⟩ : ∃ R, R = lessR c d := ⟨_, rfl⟩
  obtain ⟨O, hO⟩ : ∃ O, O = lessOk c d := ⟨_, rfl⟩
  rw [← hO] at hRdef hOdef ⊢
  rw [← hR] at hRdef ⊢
  rw [← hD] at hidx hszD ⊢
  rw [← hC] at hszC ⊢
  have hS0 : Hid (C = cntA (subTo c d 0)) := Lib.hid (by rw [hs0, hC])
  have hs27 := Lib.hid hszD
  have hidx' := Lib.hid hidx
  have hcb' := Lib.hid hcb
  have hdb' := Lib.hid hdb
  clear hO hR hD hC hszC hszD hidx hs0 hc hd hcb hdb
  obtain ⟨W, hW⟩ : ∃ W, W = ((w.alloc (.cells C 62)).alloc (.cells D 62)).alloc (.cells (cntA zeroC) 62) := ⟨_, rfl⟩
  have hB0 : Blk W w.heap.size 62 (cntA (subTo c d 0)) := by rw [hW, ← hS0.out]; exact ((Blk.new w _ _).alloc _).alloc _
  have hB1 : Blk W (w.heap.size + 1) 62 D := by rw [hW]; exact (Blk.new1 w _ _ _).alloc _
  have hB2 : Blk W (w.heap.size + 1 + 1) 62 (cntA zeroC) := by rw [hW]; exact Blk.new2 w _ _ _ _
  have hbW : Below w.heap.size w W := by rw [hW]; exact (((Below.refl _ _).alloc (Nat.le_refl _) _).alloc (by simp) _).alloc (by simp; omega) _
  have hW' : ((w.alloc (.cells C 62)).alloc (.cells D 62)).alloc (.cells (cntA zeroC) 62) = W := hW.symm
  clear hW
  go_enter Tryz.func111, Tryz.ntmps111
  go_wp2_with (first
    | (refine wpList_load_row rfl 62 (.tmp 3) rfl (w.heap.size + 1) rfl 62 D (0, 0) _ (by change (((w.alloc (.cells C 62)).alloc (.cells D 62)).alloc (.cells (cntA zeroC) 62)).heap[w.heap.size + 1]? = _; rw [hW']; exact hB1) Tryz.underlying62 rfl (by rw [hs27.out]; kernel_rfl) ?_))
  change Code.wp _ _ _ _ (((w.alloc (.cells C 62)).alloc (.cells D 62)).alloc (.cells (cntA zeroC) 62))
  rw [hW']
  clear hW'
  go_loopw [9] (fun i wr => ∃ k : Nat, k ≤ 27 ∧ i = .int .i64 k ∧ Hid (∀ j, j < k → d.getD j 0 ≤ c.getD j 0) ∧ Blk wr w.heap.size 62 (cntA (subTo c d k)) ∧ Blk wr (w.heap.size + 1 + 1) 62 (cntA zeroC) ∧ Below w.heap.size w wr) (fun i _ => 27 - (intOf i).toNat)
  case atStart => exact ⟨0, by omega, rfl, fun j hj => absurd hj (by omega), hB0, hB2, hbW⟩
  case round =>
    clear hB0 hB1 hB2 hbW
    obtain ⟨k, hk, rfl, hall, hB0, hB2, hb⟩ := hrel
    by_cases hlt : k < 27
    · have hkk : (k : Int) < 27 := by omega
      have hk0 : (0 : Int) ≤ (k : Int) := by omega
      have hix := hidx'.out k hlt
      have hstep := Lib.hid (subTo_step c d k)
      have hg := hB0.cell k
      rw [cntA_get _ _ (by rw [subTo_length]; exact hlt), subTo_get c d k k hlt, if_neg (by omega)] at hg
      have hfz := hB0.frozen k
      have hcx := hcb'.out k
      have hdx := hdb'.out k
      obtain ⟨x, hx⟩ : ∃ x, x = c.getD k 0 := ⟨_, rfl⟩
      obtain ⟨y, hy⟩ : ∃ y, y = d.getD k 0 := ⟨_, rfl⟩
      have hset := hB0.set_ k (.int .i64 (x - y))
      rw [cntA_set, hx, hy, hstep.out, ← hx, ← hy] at hset
      rw [← hx] at hg hcx
      rw [← hy] at hix hdx
      have hc0 := hcx.1
      have hc1 : x ≤ 1099511627776 := hcx.2
      have hd0 := hdx.1
      have hd1 : y ≤ 1099511627776 := hdx.2
      have hcell2 : (wr.setCell ⟨w.heap.size, k, none⟩ (.int .i64 (x - y))).cell? ⟨w.heap.size, k, none⟩ = some (.int .i64 (x - y)) := by
        rw [hset.cell k, cntA_get _ _ (by rw [subTo_length]; exact hlt), subTo_get c d (k + 1) k hlt, if_pos (by omega), hx, hy]
      have hB2' := hB2.far (p := ⟨w.heap.size, k, none⟩) (by simp; omega) (.int .i64 (x - y))
      have hb' := hb.setCell (p := ⟨w.heap.size, k, none⟩) (Nat.le_refl _) (.int .i64 (x - y))
      have hX := Lib.hid hx
      have hY := Lib.hid hy
      clear hstep hcx hdx hx hy
      by_cases hxy : y ≤ x
      · have hxy' : decide (x - y < 0) = false := decide_eq_false (by omega)
        go_wp2_with (fail)
        go_roundw
        case rel => exact ⟨k + 1, by omega, by go_num, Lib.hid (fun j hj => by
          by_cases e : j = k
          · subst e; rw [← hX.out, ← hY.out]; exact hxy
          · exact hall.out j (by omega)), hset, hB2', hb'⟩
        case measure => simp [intOf]; omega
      · have hxy' : x - y < 0 := by omega
        have hO : Hid (O = false) := Lib.hid (by
          rw [hOdef.out]
          apply Bool.eq_false_iff.2
          intro h
          have := List.all_eq_true.1 h k (List.mem_range.2 hlt)
          rw [← hX.out, ← hY.out] at this
          exact hxy (by simpa using this))
        have hR : Hid (R = zeroC) := Lib.hid (by rw [hRdef.out, hO.out]; rfl)
        go_wp2_with (refine wpList_store_row rfl 62 (.tmp 4) (.tmp 23) rfl (w.heap.size + 1 + 1) (cntA zeroC) rfl rfl 62 (cntA zeroC) hB2' (by kernel_rfl) rfl (cntA_one zeroC) ?_)
        exact ret_row_slot (by rfl) (w.heap.size + 1 + 1) 62 (cntA zeroC) _ rfl (hB2'.setRow) Tryz.underlying62 rfl (by kernel_rfl) rfl rfl ⟨by rw [hR.out, hO.out]; rfl, below_setRow hb' (by omega)⟩
    · obtain rfl : k = 27 := by omega
      have hO : Hid (O = true) := Lib.hid (by
        rw [hOdef.out]
        exact List.all_eq_true.2 fun j hj => decide_eq_true (hall.out j (List.mem_range.1 hj)))
      have hR : Hid (R = subTo c d 27) := Lib.hid (by rw [hRdef.out, hO.out]; rfl)
      have hsz : (cntA (subTo c d 27)).size = 27 := by rw [cntA_size, subTo_length]
      have hone := cntA_one (subTo c d 27)
      have hRe : Hid (cntA R = cntA (subTo c d 27)) := Lib.hid (by rw [hR.out])
      obtain ⟨X, hX⟩ : ∃ X, X = cntA (subTo c d 27) := ⟨_, rfl⟩
      rw [← hX] at hB0 hsz hone hRe
      have hsX := Lib.hid hsz
      clear hX hsz
      go_wp2_with (first
        | (refine wpList_load_row rfl 62 (.tmp 2) rfl w.heap.size rfl 62 X (0, 0) _ hB0 Tryz.underlying62 rfl (by rw [hsX.out]; kernel_rfl) ?_)
        | (refine wpList_store_row rfl 62 (.tmp 4) (.tmp 25) rfl (w.heap.size + 1 + 1) X rfl rfl 62 (cntA zeroC) hB2 (by rw [hsX.out]; kernel_rfl) (by rw [hsX.out]; rfl) hone ?_))
      exact ret_row_slot (by rfl) (w.heap.size + 1 + 1) 62 X _ rfl (hB2.setRow) Tryz.underlying62 rfl (by rw [hsX.out]; kernel_rfl) rfl rfl ⟨by rw [hRe.out, hO.out]; rfl, below_setRow hb (by omega)⟩
end Go.Proofs.YtamdcbbclkobiaaGreatDoor
/-
  Contracts: piles without tiles, tiles of letters, what a pile can make (layer 3 of the impl package).
  Conditions: tiles alone; lengths at most 2^36.
-/
namespace Go.Proofs.YtamdcbbclkobiaaGreatDoor
open Go.RowKit RegP RegL RegV
set_option maxHeartbeats 1000000
set_option maxRecDepth 100000

/-- The pile of a pile without the tiles of another one. -/
def withoutS (a b : Str) : Str := pileL (lessR (countsL a) (countsL b))
def withoutB (a b : Str) : Bool := lessOk (countsL a) (countsL b)
theorem pileTo_length (c : List Int) (m : Nat) (h : ∀ j, c.getD j 0 ≤ m) : ∀ k, (pileTo c k).length ≤ k * m
  | 0 => by simp [pileTo]
  | k + 1 => by
    have h1 := pileTo_length c m h k
    have h2 := h k
    rw [pileTo_succ, List.length_append, List.length_replicate, Nat.succ_mul]; omega
theorem lessR_bd {c d : List Int} (hc : ∀ j, 0 ≤ c.getD j 0 ∧ c.getD j 0 ≤ 2 ^ 32) (hd : ∀ j, 0 ≤ d.getD j 0) (j : Nat) : 0 ≤ (lessR c d).getD j 0 ∧ (lessR c d).getD j 0 ≤ 2 ^ 32 := by
  unfold lessR
  split
  · rename_i h
    by_cases hj : j < 27
    · rw [subTo_get c d 27 j hj, if_pos hj]
      have := List.all_eq_true.1 h j (List.mem_range.2 hj)
      have h1 := hc j
      have h2 := hd j
      simp only [decide_eq_true_eq] at this
      omega
    · rw [List.getD_eq_getElem?_getD, List.getElem?_eq_none (by rw [subTo_length]; omega)]
      simp
  · rw [zeroC_get]; omega
theorem lessR_length {c d : List Int} : (lessR c d).length = 27 := by
  unfold lessR
  split
  · exact subTo_length _ _ _
  · rfl
theorem without_any (a b : Str) (w : World) (ha : a.length ≤ 2 ^ 32) (hb : b.length ≤ 2 ^ 32) (hta : a.all tileB = true) (htb : b.all tileB = true) :
    Calls Tryz.prog 66 #[sv a, sv b] w fun e w' => e = .returned (.tuple #[sv (withoutS a b), .bool (withoutB a b)]) ∧ Below w.heap.size w w' := by
  have k1 := fun w => countsOf_any a w (by omega) hta
  have k2 := fun w => countsOf_any b w (by omega) htb
  have hca := fun j => countsL_bd a j
  have hcb := fun j => countsL_bd b j
  have k3 := fun w => less_any (countsL a) (countsL b) w (countsL_length a) (countsL_length b) (fun j => by have := hca j; omega) (fun j => by have := hcb j; omega)
  have hbd := fun j => lessR_bd (c := countsL a) (d := countsL b) (fun j => by have := hca j; omega) (fun j => (hcb j).2) j
  have hln := pileTo_length (lessR (countsL a) (countsL b)) (2 ^ 32) (fun j => by have := (hbd j).2; omega) 27
  have k4 := fun w => pile_any (lessR (countsL a) (countsL b)) w lessR_length (fun j => (hbd j).1) (by show (pileTo _ 27).length ≤ _; omega)
  have hsz : (cntA (lessR (countsL a) (countsL b))).size = 27 := by rw [cntA_size, lessR_length]
  have hone := cntA_one (lessR (countsL a) (countsL b))
  have hS : Hid (withoutS a b = pileL (lessR (countsL a) (countsL b))) := Lib.hid rfl
  have hB : Hid (withoutB a b = lessOk (countsL a) (countsL b)) := Lib.hid rfl
  obtain ⟨S, hSe⟩ : ∃ S, S = withoutS a b := ⟨_, rfl⟩
  obtain ⟨O, hOe⟩ : ∃ O, O = withoutB a b := ⟨_, rfl⟩
  rw [← hSe] at hS ⊢
  rw [← hOe] at hB ⊢
  rw [← hS.out] at k4
  rw [← hB.out] at k3
  obtain ⟨X, hX⟩ : ∃ X, X = cntA (lessR (countsL a) (countsL b)) := ⟨_, rfl⟩
  obtain ⟨X1, hX1⟩ : ∃ X, X = cntA (countsL a) := ⟨_, rfl⟩
  obtain ⟨X2, hX2⟩ : ∃ X, X = cntA (countsL b) := ⟨_, rfl⟩
  rw [← hX] at k3 k4 hsz hone
  rw [← hX1] at k1 k3
  rw [← hX2] at k2 k3
  have hs := Lib.hid hsz
  clear hX hX1 hX2 hSe hOe hS hB hca hcb hbd hln hsz
  go_enter Tryz.func66, Tryz.ntmps66
  go_wp2_with (first
    | (go_at_call 33; (with_reducible refine (k1 _).mono ?_); rintro e w1 ⟨rfl, hb1⟩)
    | (go_at_call 33; (with_reducible refine (k2 _).mono ?_); rintro e w2 ⟨rfl, hb2⟩)
    | (go_at_call 111; refine (k3 _).mono ?_; rintro e w3 ⟨rfl, hb3⟩)
    | (refine wpList_store_row rfl 62 (.tmp 6) (.tmp 14) rfl w3.heap.size X rfl rfl 62 (cntA zeroC) (Blk.new w3 62 (cntA zeroC)) (by rw [hs.out]; kernel_rfl) (by rw [hs.out]; rfl) hone ?_)
    | (refine wpList_load_row rfl 62 (.tmp 6) rfl w3.heap.size rfl 62 X (0, 0) _ ((Blk.new w3 62 (cntA zeroC)).setRow) Tryz.underlying62 rfl (by rw [hs.out]; kernel_rfl) ?_)
    | (go_at_call 112; refine (k4 _).mono ?_; rintro e w4 ⟨rfl, hb4⟩))
  go_ret2
  have hx := hb1.trans ((hb2.trans (hb3.mono hb2.size)).mono hb1.size)
  exact ⟨rfl, (below_setRow (hx.alloc hx.size _) hx.size).trans (hb4.mono (by have := hx.size; simp [World.setRow]; omega))⟩
theorem blankC_tile {c : UInt8} (h : (smallB c || capB c) = true) : tileB (blankC c) = true := by
  unfold blankC
  split
  · rfl
  · rename_i hc
    simp only [hc, Bool.or_false] at h
    unfold tileB; rw [h]; simp
/-- The pile of the tiles of letters. -/
def tilesP (s : Str) : Str := pileL (countsL (s.map blankC))
theorem tilesOf_any (s : Str) (w : World) (hs : s.length ≤ 2 ^ 32) (ht : s.all (fun c => smallB c || capB c) = true) :
    Calls Tryz.prog 113 #[sv s] w fun e w' => e = .returned (sv (tilesP s)) ∧ Below w.heap.size w w' := by
  have hsz : (cntA (countsL (s.map blankC))).size = 27 := by rw [cntA_size, countsL_length]
  have hcb := fun j => countsL_bd (s.map blankC) j
  simp only [List.length_map] at hcb
  have hln := pileTo_length (countsL (s.map blankC)) (2 ^ 32) (fun j => by have := (hcb j).1; omega) 27
  have k4 := fun w => pile_any (countsL (s.map blankC)) w (countsL_length _) (fun j => (hcb j).2) (by show (pileTo _ 27).length ≤ _; omega)
  have hS : Hid (tilesP s = pileL (countsL (s.map blankC))) := Lib.hid rfl
  obtain ⟨S, hSe⟩ : ∃ S, S = tilesP s := ⟨_, rfl⟩
  rw [← hSe] at hS ⊢
  rw [← hS.out] at k4
  obtain ⟨X, hX⟩ : ∃ X, X = cntA (countsL (s.map blankC)) := ⟨_, rfl⟩
  rw [← hX] at hsz k4
  have hs27 := Lib.hid hsz
  have hX' := Lib.hid hX
  clear hX hsz hcb hln hS hSe
  have hB1 := Blk.new w 62 (cntA zeroC)
  have hbW := (Below.refl w.heap.size w).alloc (Nat.le_refl _) (.cells (cntA zeroC) 62)
  go_enter Tryz.func113, Tryz.ntmps113
  go_wp2_with (fail)
  change Code.wp _ _ _ _ (w.alloc (.cells (cntA zeroC) 62))
  go_loopw [4] (fun i wr => ∃ k : Nat, k ≤ s.length ∧ i = .int .i64 k ∧ Blk wr w.heap.size 62 (cntA (countsL ((s.take k).map blankC))) ∧ Below w.heap.size w wr) (fun i _ => s.length - (intOf i).toNat)
  case atStart => exact ⟨0, by omega, rfl, hB1, hbW⟩
  case round =>
    clear hB1 hbW
    obtain ⟨k, hk, rfl, hB1, hb⟩ := hrel
    by_cases hlt : k < s.length
    · have hc := List.all_eq_true.1 ht _ (List.getElem_mem hlt)
      have hTc := blankC_tile hc
      have hK := tileK_lt hTc
      have hstep : Hid (countsL ((s.take (k + 1)).map blankC) = incAt (countsL ((s.take k).map blankC)) (tileK (blankC s[k]))) := Lib.hid (by rw [List.take_succ_eq_append_getElem hlt, List.map_append]; exact countsL_snoc _ _)
      have hcl := countsL_length ((s.take k).map blankC)
      have hbd := countsL_bd ((s.take k).map blankC) (tileK (blankC s[k]))
      have kc := fun w => capital_any s[k] w
      have kp : capB s[k] = false → ∀ w, Calls Tryz.prog 59 #[bv s[k]] w fun e w' => e = .returned (.int .i64 (tileK (blankC s[k]) : Nat)) ∧ w = w' := fun h w => by
        have e : blankC s[k] = s[k] := by unfold blankC; rw [h]; rfl
        rw [e]
        exact place_tile s[k] w (by rw [e] at hTc; exact hTc)
      have kz : capB s[k] = true → tileK (blankC s[k]) = 0 := fun h => by unfold blankC; rw [h]; rfl
      obtain ⟨K, hKK⟩ : ∃ K, K = tileK (blankC s[k]) := ⟨_, rfl⟩
      obtain ⟨C, hC⟩ : ∃ C, C = countsL ((s.take k).map blankC) := ⟨_, rfl⟩
      rw [← hKK] at hK kp hstep hbd kz
      rw [← hC] at hB1 hstep hcl hbd
      rw [List.length_map, List.length_take] at hbd
      have hget := hB1.cell K
      rw [cntA_get C K (by omega)] at hget
      have hfz := hB1.frozen K
      have hset := hB1.set_ K (.int .i64 (C.getD K 0 + 1))
      rw [cntA_set] at hset
      obtain ⟨x, hx⟩ : ∃ x, x = C.getD K 0 := ⟨_, rfl⟩
      have hinc : Hid (incAt C K = C.set K (x + 1)) := Lib.hid (by rw [hx]; rfl)
      rw [← hx] at hget hset hbd
      have hx0 : 0 ≤ x := hbd.2
      have hx1 : x ≤ 274877906944 := by omega
      have hK0 : (0 : Int) ≤ (K : Int) := by omega
      have hK1 : (K : Int) < 27 := by omega
      have hsz := hB1.lt
      clear hC hKK hx hbd hcl
      cases hcap : capB s[k]
      · have kp' := kp hcap
        rw [hcap] at kc
        clear kp kz
        go_wp2_with (first
          | (go_at_call 106; refine (kc _).mono ?_; rintro e w' ⟨rfl, rfl⟩)
          | (go_at_call 59; refine (kp' _).mono ?_; rintro e w' ⟨rfl, rfl⟩))
        go_roundw
        case rel => exact ⟨k + 1, by omega, by go_num, by rw [hstep.out, hinc.out]; exact hset, hb.setCell (by simp) _⟩
        case measure => simp [intOf]; omega
      · obtain rfl := kz hcap
        rw [hcap] at kc
        clear kp kz
        go_wp2_with (first
          | (go_at_call 106; refine (kc _).mono ?_; rintro e w' ⟨rfl, rfl⟩))
        go_roundw
        case rel => exact ⟨k + 1, by omega, by go_num, by rw [hstep.out, hinc.out]; exact hset, hb.setCell (by simp) _⟩
        case measure => simp [intOf]; omega
    · obtain rfl : k = s.length := by omega
      rw [List.take_length, ← hX'.out] at hB1
      go_wp2_with (first
        | (refine wpList_load_row rfl 62 (.tmp 3) rfl w.heap.size rfl 62 X (0, 0) _ hB1 Tryz.underlying62 rfl (by rw [hs27.out]; kernel_rfl) ?_)
        | (go_at_call 112; refine (k4 _).mono ?_; rintro e w4 ⟨rfl, hb4⟩))
      go_ret
      exact ⟨rfl, hb.trans (hb4.mono hb.size)⟩
end Go.Proofs.YtamdcbbclkobiaaGreatDoor
