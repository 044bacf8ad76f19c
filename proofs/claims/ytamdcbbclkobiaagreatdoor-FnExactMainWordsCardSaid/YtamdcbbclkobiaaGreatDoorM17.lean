/-
  Contract: the longest sequence of letters through a square (layer 12 of the impl package).
  Conditions: as each part below says.
-/
import Derived.Test.YtamdcbbclkobiaaGreatDoorM10
import Derived.Test.YtamdcbbclkobiaaGreatDoorM14
/-
  Contract: the longest sequence of letters through a square (layer 12 of the impl package).
  Conditions: a board of a size from 5 to 15; the square is on it.
-/
namespace Go.Proofs.YtamdcbbclkobiaaGreatDoor
open Go.RowKit RegP RegL RegV
set_option maxHeartbeats 1000000
set_option maxRecDepth 100000

def sqAt (d : Bool) (r c n : Int) : Int × Int := if d then (r + n, c) else (r, c + n)
def onAt (b : Bd) (d : Bool) (r c n : Int) : Bool := b.let_ (sqAt d r c n).1 (sqAt d r c n).2
def befN (b : Bd) (d : Bool) (r c : Int) : Nat → Nat → Nat
  | 0, m => m
  | f + 1, m => if onAt b d r c (-(m : Int) - 1) then befN b d r c f (m + 1) else m
def seqGo (b : Bd) (d : Bool) (r c : Int) : Nat → Int → List Int
  | 0, _ => []
  | f + 1, n => if onAt b d r c n then n :: seqGo b d r c f (n + 1) else []
/-- The places of the sequence, the square itself being 0. -/
def seqN (b : Bd) (d : Bool) (r c : Int) : List Int := seqGo b d r c 32 (-(befN b d r c 16 0 : Int))
def seqL (b : Bd) (d : Bool) (r c : Int) : List (Int × Int) := (seqN b d r c).map fun n => sqAt d r c n
theorem let_in {b : Bd} {r c : Int} (h : b.let_ r c = true) : b.inB r c = true := by
  unfold Bd.let_ Bd.cell at h
  cases hi : b.inB r c
  · rw [hi] at h; simp at h
  · rfl
theorem onAt_bd {b : Bd} {d : Bool} {r c n : Int} (hf : b.Fit) (hin : b.inB r c = true) (h : onAt b d r c n = true) : -14 ≤ n ∧ n ≤ 14 := by
  have h1 := let_in h
  obtain ⟨⟨r0, r1⟩, c0, c1⟩ := inB_iff.1 hin
  have h15 := hf.hi
  cases d
  · obtain ⟨⟨_, _⟩, d0, d1⟩ := inB_iff.1 (show b.inB r (c + n) = true from h1); omega
  · obtain ⟨⟨d0, d1⟩, _, _⟩ := inB_iff.1 (show b.inB (r + n) c = true from h1); omega
theorem befN_le {b : Bd} {d : Bool} {r c : Int} (hf : b.Fit) (hin : b.inB r c = true) : befN b d r c 16 0 ≤ 15 := by
  have : ∀ f m, m ≤ 14 → befN b d r c f m ≤ 14 := by
    intro f
    induction f with
    | zero => intro m hm; exact hm
    | succ f ih =>
      intro m hm
      rw [befN]
      split
      · rename_i h
        have := onAt_bd hf hin h
        exact ih (m + 1) (by omega)
      · exact hm
  have := this 16 0 (by omega)
  omega

theorem sequence_false (b : Bd) (r c : Int) (w : World) (hf : b.Fit) (hin : b.inB r c = true) :
    Calls Tryz.prog 164 #[b.v, sqV r c, dirV false] w fun e w' => ∃ v, e = .returned v ∧ w'.ownsRow w.heap.size 87 2 v (seqN b false r c).length (sqC (seqL b false r c)) ∧ Below w.heap.size w w' := by
  have ka : ∀ (n : Int) (w : World), -100 ≤ n → n ≤ 100 → Calls Tryz.prog 222 #[.agg #[], .int .i64 r, .int .i64 c, .int .i64 n] w fun e w' => e = .returned (.agg #[.int .i64 (r), .int .i64 (c + n)]) ∧ Below w.heap.size w w' := by
    obtain ⟨⟨r0, r1⟩, c0, c1⟩ := inB_iff.1 hin
    have := hf.hi
    intro n w h1 h2
    exact at_right r c n w (by omega) (by omega)
  have ko : ∀ (n : Int) (w : World), Calls Tryz.prog 110 #[b.v, .agg #[.int .i64 (r), .int .i64 (c + n)]] w fun e w' => e = .returned (.bool (onAt b false r c n)) ∧ Below w.heap.size w w' := fun n w => on_any b (r) (c + n) w hf
  have hn := fun w => nil_at false w
  have hm := fun w => meth_at false w
  have hx : ∀ n : Int, onAt b false r c n = true → -14 ≤ n ∧ n ≤ 14 := fun n h => onAt_bd hf hin h
  have hx' := Lib.hid hx
  have hbef : Hid (befN b false r c 16 0 ≤ 15) := Lib.hid (befN_le hf hin)
  have hS : Hid (seqN b false r c = seqGo b false r c 32 (-(befN b false r c 16 0 : Int))) := Lib.hid rfl
  have hL : Hid (seqL b false r c = (seqN b false r c).map fun n => sqAt false r c n) := Lib.hid rfl
  have hbs : Hid (∀ f m, befN b false r c (f + 1) m = if onAt b false r c (-(m : Int) - 1) then befN b false r c f (m + 1) else m) := Lib.hid (fun f m => rfl)
  have hss : Hid (∀ f n, seqGo b false r c (f + 1) n = if onAt b false r c n then n :: seqGo b false r c f (n + 1) else []) := Lib.hid (fun f n => rfl)
  have hsa : Hid (∀ n, sqAt false r c n = (r, c + n)) := Lib.hid (fun n => rfl)
  obtain ⟨SL, hSL⟩ : ∃ SL, SL = seqL b false r c := ⟨_, rfl⟩
  obtain ⟨SN, hSN⟩ : ∃ SN, SN = seqN b false r c := ⟨_, rfl⟩
  obtain ⟨BF, hBF⟩ : ∃ BF, BF = befN b false r c := ⟨_, rfl⟩
  obtain ⟨SG, hSG⟩ : ∃ SG, SG = seqGo b false r c := ⟨_, rfl⟩
  obtain ⟨OA, hOA⟩ : ∃ OA, OA = onAt b false r c := ⟨_, rfl⟩
  obtain ⟨SA, hSA⟩ : ∃ SA, SA = sqAt false r c := ⟨_, rfl⟩
  rw [← hSA] at hsa hL
  rw [← hOA] at ko hx' hbs hss
  rw [← hBF] at hbs hS hbef
  rw [← hSG] at hS hss
  rw [← hSN] at hS hL ⊢
  rw [← hSL] at hL ⊢
  clear hSL hSN hBF hSG hOA hSA hx hf hin
  simp only [Bool.false_eq_true, if_false] at hn hm
  simp only [dirV, Bool.false_eq_true, if_false]
  obtain ⟨sz, bp, bc⟩ := b
  simp only [Bd.v, sqV] at *
  have hB0 := (Blk.new w 33 #[.int .i64 sz, sv bp, sv bc]).alloc (.cells #[.int .i64 r, .int .i64 c] 87)
  have hB1 := Blk.new1 w (.cells #[.int .i64 sz, sv bp, sv bc] 33) 87 #[.int .i64 r, .int .i64 c]
  have hbW := ((Below.refl w.heap.size w).alloc (Nat.le_refl _) (.cells #[.int .i64 sz, sv bp, sv bc] 33)).alloc (by simp) (.cells #[.int .i64 r, .int .i64 c] 87)
  go_enter Tryz.func164, Tryz.ntmps164
  go_wp2_with (fail)
  go_loopw [7] (fun i wr => ∃ m : Nat, m ≤ 15 ∧ i = .int .i64 (-(m : Int)) ∧ Hid (BF 16 0 = BF (16 - m) m) ∧ Blk wr w.heap.size 33 #[.int .i64 sz, sv bp, sv bc] ∧ Blk wr (w.heap.size + 1) 87 #[.int .i64 r, .int .i64 c] ∧ Below w.heap.size w wr) (fun i _ => (intOf i + 16).toNat)
  case atStart => exact ⟨0, by omega, rfl, rfl, hB0, hB1, hbW⟩
  case round =>
    clear hB0 hB1 hbW
    obtain ⟨m, hm15, rfl, hBFm, hB0, hB1, hb⟩ := hrel
    have hbd := hx'.out (-(m : Int) - 1)
    have hst := Lib.hid (hbs.out (15 - m) m)
    have ko1 := fun w => ko (-(m : Int) - 1) w
    have ka1 := fun w => ka (-(m : Int) - 1) w (by omega) (by omega)
    obtain ⟨o, ho⟩ : ∃ o, o = OA (-(m : Int) - 1) := ⟨_, rfl⟩
    rw [← ho] at hbd hst ko1
    clear ho
    cases o
    all_goals
      go_wp2_with (fail)
      refine wp_region_b 10 (by kernel_rfl) (by kernel_rfl) ?_
      simp only [List.take_succ_cons, List.take_zero, List.drop_succ_cons, List.drop_zero]
      iterate 10
        apply pc_step rfl
        · intro w4 hb4 K hK
          have f0 : w4.cell? ⟨w.heap.size, 0, none⟩ = some (.int .i64 sz) := (hB0.below hb4 hB0.lt).cell 0
          have f1 : w4.cell? ⟨w.heap.size, 1, none⟩ = some (sv bp) := (hB0.below hb4 hB0.lt).cell 1
          have f2 : w4.cell? ⟨w.heap.size, 2, none⟩ = some (sv bc) := (hB0.below hb4 hB0.lt).cell 2
          have g0 : w4.cell? ⟨w.heap.size + 1, 0, none⟩ = some (.int .i64 r) := (hB1.below hb4 hB1.lt).cell 0
          have g1 : w4.cell? ⟨w.heap.size + 1, 1, none⟩ = some (.int .i64 c) := (hB1.below hb4 hB1.lt).cell 1
          go_wp2_with (first | (go_at_call 222; (with_reducible refine (ka1 _).mono ?_); rintro e w5 ⟨rfl, hb5⟩) | (go_at_call 110; (with_reducible refine (ko1 _).mono ?_); rintro e w5 ⟨rfl, hb5⟩))
          first | exact hb4 | exact hb4.trans (hb5.mono hb4.size) | exact hb4.trans (hd5.below.mono hb4.size)
        simp only [Act.put, List.setIfInBounds_toArray, List.set_cons_succ, List.set_cons_zero]
      refine pc_nil ?_
      intro w4 hb4
      have hB04 := hB0.below hb4 hB0.lt
      have hB14 := hB1.below hb4 hB1.lt
      have hb5 := hb.trans (hb4.mono hb.size)
      clear hB0 hB1 hb hb4
    · go_wp2_with (fail)
      have hBm : Hid (BF 16 0 = m) := Lib.hid (by rw [hBFm.out, show 16 - m = (15 - m) + 1 by omega, hst.out]; rfl)
      have hSm : Hid (SN = SG 32 (-(m : Int))) := Lib.hid (by rw [hS.out, hBm.out])
      have own0 := World.ownsRow_lit (base := w4.heap.size) (size := 2) (e := 87) w4 #[] 0 (Nat.le_refl _) (by unfold maxLen; omega) rfl
      have hBw := hB14.lt
      have hC0 := hB04.alloc (.cells #[] 87)
      have hC1 := hB14.alloc (.cells #[] 87)
      have hb6 := hb5.alloc hb5.size (.cells #[] 87)
      have hBz : w4.heap.size ≤ (w4.alloc (.cells #[] 87)).heap.size := by simp
      obtain ⟨B, hBB⟩ : ∃ B, B = w4.heap.size := ⟨_, rfl⟩
      have hL4 : Value.slice (some ⟨w4.heap.size, 0, none⟩) 0 0 = Value.slice (some ⟨B, 0, none⟩) 0 0 := by rw [hBB]
      have HL4 := Lib.hid hL4
      clear hL4
      rw [← hBB] at own0 hBw hBz
      have hBB' := Lib.hid hBB
      clear hBB
      clear hB04 hB14 hb5 hbd hst ko1 ka1 hBFm hBm hbs hbef
      go_loopw [8, 9] (fun o i wr => ∃ (j : Nat) (l : List Int), j ≤ 31 ∧ i = .int .i64 (-(m : Int) + (j : Int)) ∧ l.length = j ∧ Hid (SN = l ++ SG (32 - j) (-(m : Int) + (j : Int))) ∧ wr.ownsRow B 87 2 o j (sqC (l.map SA)) ∧ Blk wr w.heap.size 33 #[.int .i64 sz, sv bp, sv bc] ∧ Blk wr (w.heap.size + 1) 87 #[.int .i64 r, .int .i64 c] ∧ Below w.heap.size w wr ∧ B ≤ wr.heap.size) (fun _ i _ => (32 - intOf i).toNat)
      case atStart => exact ⟨0, [], by omega, by simp, rfl, by rw [Int.natCast_zero, Int.add_zero]; exact hSm, by rw [HL4.out]; exact own0, hC0, hC1, hb6, hBz⟩
      case round =>
        clear own0 hC0 hC1 hb6 hSm hBz HL4
        obtain ⟨j, l, hj, rfl, hll, hSl, own1, hD0, hD1, hb7, hBz⟩ := hrel
        have HLL := Lib.hid hll
        clear hll
        have hbd := hx'.out (-(m : Int) + (j : Int))
        have hst := Lib.hid (hss.out (31 - j) (-(m : Int) + (j : Int)))
        have hsj := Lib.hid (hsa.out (-(m : Int) + (j : Int)))
        have ko1 := fun w => ko (-(m : Int) + (j : Int)) w
        have ka1 := fun w => ka (-(m : Int) + (j : Int)) w (by omega) (by omega)
        obtain ⟨n, hnn⟩ : ∃ n, n = -(m : Int) + (j : Int) := ⟨_, rfl⟩
        have hnb : -15 ≤ n ∧ n ≤ 31 := by omega
        have hnx : Hid (-(m : Int) + ((j + 1 : Nat) : Int) = n + 1) := Lib.hid (by omega)
        have hj29 : OA n = true → j ≤ 29 := fun h => by have := hx'.out n h; omega
        obtain ⟨o, ho⟩ : ∃ o, o = OA n := ⟨_, rfl⟩
        rw [← ho] at hj29
        rw [← hnn, ← ho] at hbd hst ko1
        rw [← hnn] at ka1 hsj hSl ⊢
        clear ho hnn
        obtain ⟨hn0, hn1⟩ := hnb
        cases o
        all_goals
          go_wp2_with (fail)
          refine wp_region_b 9 (by kernel_rfl) (by kernel_rfl) ?_
          simp only [List.take_succ_cons, List.take_zero, List.drop_succ_cons, List.drop_zero]
          iterate 9
            apply pc_step rfl
            · intro w4 hb4 K hK
              have f0 : w4.cell? ⟨w.heap.size, 0, none⟩ = some (.int .i64 sz) := (hD0.below hb4 hD0.lt).cell 0
              have f1 : w4.cell? ⟨w.heap.size, 1, none⟩ = some (sv bp) := (hD0.below hb4 hD0.lt).cell 1
              have f2 : w4.cell? ⟨w.heap.size, 2, none⟩ = some (sv bc) := (hD0.below hb4 hD0.lt).cell 2
              have g0 : w4.cell? ⟨w.heap.size + 1, 0, none⟩ = some (.int .i64 r) := (hD1.below hb4 hD1.lt).cell 0
              have g1 : w4.cell? ⟨w.heap.size + 1, 1, none⟩ = some (.int .i64 c) := (hD1.below hb4 hD1.lt).cell 1
              go_wp2_with (first | (go_at_call 222; (with_reducible refine (ka1 _).mono ?_); rintro e w5 ⟨rfl, hb5⟩) | (go_at_call 110; (with_reducible refine (ko1 _).mono ?_); rintro e w5 ⟨rfl, hb5⟩))
              first | exact hb4 | exact hb4.trans (hb5.mono hb4.size) | exact hb4.trans (hd5.below.mono hb4.size)
            simp only [Act.put, List.setIfInBounds_toArray, List.set_cons_succ, List.set_cons_zero]
          refine pc_nil ?_
          intro w4 hb4
          have own4 := own_call own1 hb4
          have hE0 := hD0.below hb4 hD0.lt
          have hE1 := hD1.below hb4 hD1.lt
          have hb8 := hb7.trans (hb4.mono hb7.size)
          have hBz4 := Nat.le_trans hBz hb4.size
          clear hD0 hD1 own1 hb7 hb4 hBz
        · go_wp2_with (fail)
          go_ret
          have hfin : SN = l := by rw [hSl.out, show 32 - j = (31 - j) + 1 by omega, hst.out]; simp
          exact ⟨_, rfl, own_base (own_cast own4 (by rw [hL.out, hfin]) (by rw [hfin, HLL.out])) (by omega), hb8⟩
        · have hj29' := hj29 (by trivial)
          have g0 : w4.cell? ⟨w.heap.size + 1, 0, none⟩ = some (.int .i64 r) := hE1.cell 0
          have g1 : w4.cell? ⟨w.heap.size + 1, 1, none⟩ = some (.int .i64 c) := hE1.cell 1
          have hlit := run_lit1 sqT (.agg #[.int .i64 (r), .int .i64 (c + n)]) #[.int .i64 (r), .int .i64 (c + n)] rfl rfl (by omega)
          have hz8 := hb8.size
          go_wp2_with (first
            | (go_at_call 222; refine (ka1 _).mono ?_; rintro e w6 ⟨rfl, hb6⟩
               have own6 := own_call own4 hb6
               have hbz6 := Nat.le_trans hBz4 hb6.size)
            | (at_builtin; refine wpList_app sqT rfl (.tmp 35) (.tmp 43) rfl _ j _ rfl B own6 [.int .i64 (r), .int .i64 (c + n)] rfl (by simp [Value.oneCell']) rfl (by omega) (by omega) hbz6 ?_; intro v7 w7 own7 hg7 hat7))
          go_roundw
          case rel => exact ⟨j + 1, l ++ [n], by omega, by rw [hnx.out], by rw [List.length_append, HLL.out]; rfl, Lib.hid (by rw [hSl.out, show 32 - j = (31 - j) + 1 by omega, hst.out, hnx.out, show 32 - (j + 1) = 31 - j by omega]; simp), own_cast own7 (by rw [List.map_append, sqC_append, List.map_cons, List.map_nil, hsj.out, sqC_one]) rfl, (hE0.below hb6 hE0.lt).grown hg7 (fun h => by have := (own6.lt _ h.symm).1; omega), (hE1.below hb6 hE1.lt).grown hg7 (fun h => by have := (own6.lt _ h.symm).1; omega), Below.own (hb8.trans (hb6.mono hz8)) (Nat.le_trans hz8 hb6.size) own6 (by omega) hg7, Nat.le_trans hbz6 hg7.size⟩
          case measure => simp [intOf]; omega
    · have hbd' := hbd (by trivial)
      go_wp2_with (fail)
      go_roundw
      case rel => exact ⟨m + 1, by omega, congrArg (Value.int .i64) (by omega), Lib.hid (by rw [hBFm.out, show 16 - m = (15 - m) + 1 by omega, hst.out, show 16 - (m + 1) = 15 - m by omega]; rfl), hB04, hB14, hb5⟩
      case measure => simp [intOf]; omega

theorem sequence_true (b : Bd) (r c : Int) (w : World) (hf : b.Fit) (hin : b.inB r c = true) :
    Calls Tryz.prog 164 #[b.v, sqV r c, dirV true] w fun e w' => ∃ v, e = .returned v ∧ w'.ownsRow w.heap.size 87 2 v (seqN b true r c).length (sqC (seqL b true r c)) ∧ Below w.heap.size w w' := by
  have ka : ∀ (n : Int) (w : World), -100 ≤ n → n ≤ 100 → Calls Tryz.prog 220 #[.agg #[], .int .i64 r, .int .i64 c, .int .i64 n] w fun e w' => e = .returned (.agg #[.int .i64 (r + n), .int .i64 (c)]) ∧ Below w.heap.size w w' := by
    obtain ⟨⟨r0, r1⟩, c0, c1⟩ := inB_iff.1 hin
    have := hf.hi
    intro n w h1 h2
    exact at_down r c n w (by omega) (by omega)
  have ko : ∀ (n : Int) (w : World), Calls Tryz.prog 110 #[b.v, .agg #[.int .i64 (r + n), .int .i64 (c)]] w fun e w' => e = .returned (.bool (onAt b true r c n)) ∧ Below w.heap.size w w' := fun n w => on_any b (r + n) (c) w hf
  have hn := fun w => nil_at true w
  have hm := fun w => meth_at true w
  have hx : ∀ n : Int, onAt b true r c n = true → -14 ≤ n ∧ n ≤ 14 := fun n h => onAt_bd hf hin h
  have hx' := Lib.hid hx
  have hbef : Hid (befN b true r c 16 0 ≤ 15) := Lib.hid (befN_le hf hin)
  have hS : Hid (seqN b true r c = seqGo b true r c 32 (-(befN b true r c 16 0 : Int))) := Lib.hid rfl
  have hL : Hid (seqL b true r c = (seqN b true r c).map fun n => sqAt true r c n) := Lib.hid rfl
  have hbs : Hid (∀ f m, befN b true r c (f + 1) m = if onAt b true r c (-(m : Int) - 1) then befN b true r c f (m + 1) else m) := Lib.hid (fun f m => rfl)
  have hss : Hid (∀ f n, seqGo b true r c (f + 1) n = if onAt b true r c n then n :: seqGo b true r c f (n + 1) else []) := Lib.hid (fun f n => rfl)
  have hsa : Hid (∀ n, sqAt true r c n = (r + n, c)) := Lib.hid (fun n => rfl)
  obtain ⟨SL, hSL⟩ : ∃ SL, SL = seqL b true r c := ⟨_, rfl⟩
  obtain ⟨SN, hSN⟩ : ∃ SN, SN = seqN b true r c := ⟨_, rfl⟩
  obtain ⟨BF, hBF⟩ : ∃ BF, BF = befN b true r c := ⟨_, rfl⟩
  obtain ⟨SG, hSG⟩ : ∃ SG, SG = seqGo b true r c := ⟨_, rfl⟩
  obtain ⟨OA, hOA⟩ : ∃ OA, OA = onAt b true r c := ⟨_, rfl⟩
  obtain ⟨SA, hSA⟩ : ∃ SA, SA = sqAt true r c := ⟨_, rfl⟩
  rw [← hSA] at hsa hL
  rw [← hOA] at ko hx' hbs hss
  rw [← hBF] at hbs hS hbef
  rw [← hSG] at hS hss
  rw [← hSN] at hS hL ⊢
  rw [← hSL] at hL ⊢
  clear hSL hSN hBF hSG hOA hSA hx hf hin
  simp only [if_true] at hn hm
  simp only [dirV, if_true]
  obtain ⟨sz, bp, bc⟩ := b
  simp only [Bd.v, sqV] at *
  have hB0 := (Blk.new w 33 #[.int .i64 sz, sv bp, sv bc]).alloc (.cells #[.int .i64 r, .int .i64 c] 87)
  have hB1 := Blk.new1 w (.cells #[.int .i64 sz, sv bp, sv bc] 33) 87 #[.int .i64 r, .int .i64 c]
  have hbW := ((Below.refl w.heap.size w).alloc (Nat.le_refl _) (.cells #[.int .i64 sz, sv bp, sv bc] 33)).alloc (by simp) (.cells #[.int .i64 r, .int .i64 c] 87)
  go_enter Tryz.func164, Tryz.ntmps164
  go_wp2_with (fail)
  go_loopw [7] (fun i wr => ∃ m : Nat, m ≤ 15 ∧ i = .int .i64 (-(m : Int)) ∧ Hid (BF 16 0 = BF (16 - m) m) ∧ Blk wr w.heap.size 33 #[.int .i64 sz, sv bp, sv bc] ∧ Blk wr (w.heap.size + 1) 87 #[.int .i64 r, .int .i64 c] ∧ Below w.heap.size w wr) (fun i _ => (intOf i + 16).toNat)
  case atStart => exact ⟨0, by omega, rfl, rfl, hB0, hB1, hbW⟩
  case round =>
    clear hB0 hB1 hbW
    obtain ⟨m, hm15, rfl, hBFm, hB0, hB1, hb⟩ := hrel
    have hbd := hx'.out (-(m : Int) - 1)
    have hst := Lib.hid (hbs.out (15 - m) m)
    have ko1 := fun w => ko (-(m : Int) - 1) w
    have ka1 := fun w => ka (-(m : Int) - 1) w (by omega) (by omega)
    obtain ⟨o, ho⟩ : ∃ o, o = OA (-(m : Int) - 1) := ⟨_, rfl⟩
    rw [← ho] at hbd hst ko1
    clear ho
    cases o
    all_goals
      go_wp2_with (fail)
      refine wp_region_b 10 (by kernel_rfl) (by kernel_rfl) ?_
      simp only [List.take_succ_cons, List.take_zero, List.drop_succ_cons, List.drop_zero]
      iterate 10
        apply pc_step rfl
        · intro w4 hb4 K hK
          have f0 : w4.cell? ⟨w.heap.size, 0, none⟩ = some (.int .i64 sz) := (hB0.below hb4 hB0.lt).cell 0
          have f1 : w4.cell? ⟨w.heap.size, 1, none⟩ = some (sv bp) := (hB0.below hb4 hB0.lt).cell 1
          have f2 : w4.cell? ⟨w.heap.size, 2, none⟩ = some (sv bc) := (hB0.below hb4 hB0.lt).cell 2
          have g0 : w4.cell? ⟨w.heap.size + 1, 0, none⟩ = some (.int .i64 r) := (hB1.below hb4 hB1.lt).cell 0
          have g1 : w4.cell? ⟨w.heap.size + 1, 1, none⟩ = some (.int .i64 c) := (hB1.below hb4 hB1.lt).cell 1
          go_wp2_with (first | (go_at_call 220; (with_reducible refine (ka1 _).mono ?_); rintro e w5 ⟨rfl, hb5⟩) | (go_at_call 110; (with_reducible refine (ko1 _).mono ?_); rintro e w5 ⟨rfl, hb5⟩))
          first | exact hb4 | exact hb4.trans (hb5.mono hb4.size) | exact hb4.trans (hd5.below.mono hb4.size)
        simp only [Act.put, List.setIfInBounds_toArray, List.set_cons_succ, List.set_cons_zero]
      refine pc_nil ?_
      intro w4 hb4
      have hB04 := hB0.below hb4 hB0.lt
      have hB14 := hB1.below hb4 hB1.lt
      have hb5 := hb.trans (hb4.mono hb.size)
      clear hB0 hB1 hb hb4
    · go_wp2_with (fail)
      have hBm : Hid (BF 16 0 = m) := Lib.hid (by rw [hBFm.out, show 16 - m = (15 - m) + 1 by omega, hst.out]; rfl)
      have hSm : Hid (SN = SG 32 (-(m : Int))) := Lib.hid (by rw [hS.out, hBm.out])
      have own0 := World.ownsRow_lit (base := w4.heap.size) (size := 2) (e := 87) w4 #[] 0 (Nat.le_refl _) (by unfold maxLen; omega) rfl
      have hBw := hB14.lt
      have hC0 := hB04.alloc (.cells #[] 87)
      have hC1 := hB14.alloc (.cells #[] 87)
      have hb6 := hb5.alloc hb5.size (.cells #[] 87)
      have hBz : w4.heap.size ≤ (w4.alloc (.cells #[] 87)).heap.size := by simp
      obtain ⟨B, hBB⟩ : ∃ B, B = w4.heap.size := ⟨_, rfl⟩
      have hL4 : Value.slice (some ⟨w4.heap.size, 0, none⟩) 0 0 = Value.slice (some ⟨B, 0, none⟩) 0 0 := by rw [hBB]
      have HL4 := Lib.hid hL4
      clear hL4
      rw [← hBB] at own0 hBw hBz
      have hBB' := Lib.hid hBB
      clear hBB
      clear hB04 hB14 hb5 hbd hst ko1 ka1 hBFm hBm hbs hbef
      go_loopw [8, 9] (fun o i wr => ∃ (j : Nat) (l : List Int), j ≤ 31 ∧ i = .int .i64 (-(m : Int) + (j : Int)) ∧ l.length = j ∧ Hid (SN = l ++ SG (32 - j) (-(m : Int) + (j : Int))) ∧ wr.ownsRow B 87 2 o j (sqC (l.map SA)) ∧ Blk wr w.heap.size 33 #[.int .i64 sz, sv bp, sv bc] ∧ Blk wr (w.heap.size + 1) 87 #[.int .i64 r, .int .i64 c] ∧ Below w.heap.size w wr ∧ B ≤ wr.heap.size) (fun _ i _ => (32 - intOf i).toNat)
      case atStart => exact ⟨0, [], by omega, by simp, rfl, by rw [Int.natCast_zero, Int.add_zero]; exact hSm, by rw [HL4.out]; exact own0, hC0, hC1, hb6, hBz⟩
      case round =>
        clear own0 hC0 hC1 hb6 hSm hBz HL4
        obtain ⟨j, l, hj, rfl, hll, hSl, own1, hD0, hD1, hb7, hBz⟩ := hrel
        have HLL := Lib.hid hll
        clear hll
        have hbd := hx'.out (-(m : Int) + (j : Int))
        have hst := Lib.hid (hss.out (31 - j) (-(m : Int) + (j : Int)))
        have hsj := Lib.hid (hsa.out (-(m : Int) + (j : Int)))
        have ko1 := fun w => ko (-(m : Int) + (j : Int)) w
        have ka1 := fun w => ka (-(m : Int) + (j : Int)) w (by omega) (by omega)
        obtain ⟨n, hnn⟩ : ∃ n, n = -(m : Int) + (j : Int) := ⟨_, rfl⟩
        have hnb : -15 ≤ n ∧ n ≤ 31 := by omega
        have hnx : Hid (-(m : Int) + ((j + 1 : Nat) : Int) = n + 1) := Lib.hid (by omega)
        have hj29 : OA n = true → j ≤ 29 := fun h => by have := hx'.out n h; omega
        obtain ⟨o, ho⟩ : ∃ o, o = OA n := ⟨_, rfl⟩
        rw [← ho] at hj29
        rw [← hnn, ← ho] at hbd hst ko1
        rw [← hnn] at ka1 hsj hSl ⊢
        clear ho hnn
        obtain ⟨hn0, hn1⟩ := hnb
        cases o
        all_goals
          go_wp2_with (fail)
          refine wp_region_b 9 (by kernel_rfl) (by kernel_rfl) ?_
          simp only [List.take_succ_cons, List.take_zero, List.drop_succ_cons, List.drop_zero]
          iterate 9
            apply pc_step rfl
            · intro w4 hb4 K hK
              have f0 : w4.cell? ⟨w.heap.size, 0, none⟩ = some (.int .i64 sz) := (hD0.below hb4 hD0.lt).cell 0
              have f1 : w4.cell? ⟨w.heap.size, 1, none⟩ = some (sv bp) := (hD0.below hb4 hD0.lt).cell 1
              have f2 : w4.cell? ⟨w.heap.size, 2, none⟩ = some (sv bc) := (hD0.below hb4 hD0.lt).cell 2
              have g0 : w4.cell? ⟨w.heap.size + 1, 0, none⟩ = some (.int .i64 r) := (hD1.below hb4 hD1.lt).cell 0
              have g1 : w4.cell? ⟨w.heap.size + 1, 1, none⟩ = some (.int .i64 c) := (hD1.below hb4 hD1.lt).cell 1
              go_wp2_with (first | (go_at_call 220; (with_reducible refine (ka1 _).mono ?_); rintro e w5 ⟨rfl, hb5⟩) | (go_at_call 110; (with_reducible refine (ko1 _).mono ?_); rintro e w5 ⟨rfl, hb5⟩))
              first | exact hb4 | exact hb4.trans (hb5.mono hb4.size) | exact hb4.trans (hd5.below.mono hb4.size)
            simp only [Act.put, List.setIfInBounds_toArray, List.set_cons_succ, List.set_cons_zero]
          refine pc_nil ?_
          intro w4 hb4
          have own4 := own_call own1 hb4
          have hE0 := hD0.below hb4 hD0.lt
          have hE1 := hD1.below hb4 hD1.lt
          have hb8 := hb7.trans (hb4.mono hb7.size)
          have hBz4 := Nat.le_trans hBz hb4.size
          clear hD0 hD1 own1 hb7 hb4 hBz
        · go_wp2_with (fail)
          go_ret
          have hfin : SN = l := by rw [hSl.out, show 32 - j = (31 - j) + 1 by omega, hst.out]; simp
          exact ⟨_, rfl, own_base (own_cast own4 (by rw [hL.out, hfin]) (by rw [hfin, HLL.out])) (by omega), hb8⟩
        · have hj29' := hj29 (by trivial)
          have g0 : w4.cell? ⟨w.heap.size + 1, 0, none⟩ = some (.int .i64 r) := hE1.cell 0
          have g1 : w4.cell? ⟨w.heap.size + 1, 1, none⟩ = some (.int .i64 c) := hE1.cell 1
          have hlit := run_lit1 sqT (.agg #[.int .i64 (r + n), .int .i64 (c)]) #[.int .i64 (r + n), .int .i64 (c)] rfl rfl (by omega)
          have hz8 := hb8.size
          go_wp2_with (first
            | (go_at_call 220; refine (ka1 _).mono ?_; rintro e w6 ⟨rfl, hb6⟩
               have own6 := own_call own4 hb6
               have hbz6 := Nat.le_trans hBz4 hb6.size)
            | (at_builtin; refine wpList_app sqT rfl (.tmp 35) (.tmp 43) rfl _ j _ rfl B own6 [.int .i64 (r + n), .int .i64 (c)] rfl (by simp [Value.oneCell']) rfl (by omega) (by omega) hbz6 ?_; intro v7 w7 own7 hg7 hat7))
          go_roundw
          case rel => exact ⟨j + 1, l ++ [n], by omega, by rw [hnx.out], by rw [List.length_append, HLL.out]; rfl, Lib.hid (by rw [hSl.out, show 32 - j = (31 - j) + 1 by omega, hst.out, hnx.out, show 32 - (j + 1) = 31 - j by omega]; simp), own_cast own7 (by rw [List.map_append, sqC_append, List.map_cons, List.map_nil, hsj.out, sqC_one]) rfl, (hE0.below hb6 hE0.lt).grown hg7 (fun h => by have := (own6.lt _ h.symm).1; omega), (hE1.below hb6 hE1.lt).grown hg7 (fun h => by have := (own6.lt _ h.symm).1; omega), Below.own (hb8.trans (hb6.mono hz8)) (Nat.le_trans hz8 hb6.size) own6 (by omega) hg7, Nat.le_trans hbz6 hg7.size⟩
          case measure => simp [intOf]; omega
    · have hbd' := hbd (by trivial)
      go_wp2_with (fail)
      go_roundw
      case rel => exact ⟨m + 1, by omega, congrArg (Value.int .i64) (by omega), Lib.hid (by rw [hBFm.out, show 16 - m = (15 - m) + 1 by omega, hst.out, show 16 - (m + 1) = 15 - m by omega]; rfl), hB04, hB14, hb5⟩
      case measure => simp [intOf]; omega
end Go.Proofs.YtamdcbbclkobiaaGreatDoor
