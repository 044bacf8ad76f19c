/-
  Contracts: the size of a tile set, equal tile sets (the laws package); Contracts: a copy of a list of numbers, of a tile set (the laws package); Contracts: marks laid into a list of numbers, into a tile set (the laws package); Contracts: equal plays, moves, lists of moves, where they are the same (the laws package); Contract: marks laid into a list of moves (the laws package); Contract: are the marks held in a list of moves, where they are (the laws package); The state of a region that draws its order and calls functions: of some operations it is told what holds of their values.
  Conditions: as each part below says.
-/
import Derived.Test.YtohopceknpgcnaaGreatDoorM25
import Derived.Test.YtohopceknpgcnaaGreatDoorM09
import Derived.Test.YtohopceknpgcnaaGreatDoorM20
import Derived.Test.YtohopceknpgcnaaGreatDoorM07
/-
  Contracts: the size of a tile set, equal tile sets (the laws package).
  Conditions: the slices lie in memory; numbers of common size.
-/
namespace Go.Proofs.YtohopceknpgcnaaGreatDoor
open Go.RowKit RegP RegL RegV
set_option maxHeartbeats 2000000
set_option maxRecDepth 100000

def szI (n : Nat) (l : Int) : Int := if l - n < 0 then -1 else l - n
def szT (t : TS) (l : Int) : Int :=
  if l - t.letters.length < 0 then -1 else if l - t.letters.length - t.values.length < 0 then -1 else if l - t.letters.length - t.values.length - t.counts.length < 0 then -1 else l - t.letters.length - t.values.length - t.counts.length
theorem szT_bd {t : TS} {l : Int} (h : 0 ≤ szT t l) : (t.letters.length : Int) ≤ l ∧ (t.values.length : Int) ≤ l ∧ (t.counts.length : Int) ≤ l ∧ szT t l ≤ l := by
  unfold szT at h ⊢
  split at h
  · omega
  · split at h
    · omega
    · split at h
      · omega
      · rename_i h1 h2 h3
        rw [if_neg h1, if_neg h2, if_neg h3]
        omega
theorem szInt64S_any (A : Option Addr) (c n : Nat) (l : Int) (w : World) (hn : n ≤ 9223372036854775807) (h0 : 0 ≤ l) (h1 : l ≤ 2 ^ 40) :
    Calls Tryz.prog 28 #[.slice A n c, .int .i64 l] w fun e w' => e = .returned (.int .i64 (szI n l)) ∧ w = w' := by
  unfold szI
  by_cases hl : l - (n : Int) < 0
  · rw [if_pos hl]
    go_enter Tryz.func28, Tryz.ntmps28
    go_wp2_with (fail)
    go_ret
    exact ⟨rfl, rfl⟩
  · rw [if_neg hl]
    go_enter Tryz.func28, Tryz.ntmps28
    go_wp2_with (fail)
    go_ret
    exact ⟨rfl, rfl⟩
theorem szTileSet_any (t : TS) (A1 A2 : Option Addr) (c1 c2 : Nat) (l : Int) (w : World) (hl : t.letters.length ≤ 9223372036854775807) (hv : t.values.length ≤ 9223372036854775807) (hc : t.counts.length ≤ 9223372036854775807) (h0 : 0 ≤ l) (h1 : l ≤ 2 ^ 40) :
    Calls Tryz.prog 7 #[t.v A1 c1 A2 c2, .int .i64 l] w fun e w' => e = .returned (.int .i64 (szT t l)) ∧ Below w.heap.size w w' := by
  obtain ⟨L, V, C, B⟩ := t
  unfold szT
  simp only [TS.v] at *
  have hb := (Below.refl w.heap.size w).alloc (Nat.le_refl _) (.cells #[sv L, .slice A1 V.length c1, .slice A2 C.length c2, .int .i64 B] 27)
  by_cases n1 : l - (L.length : Int) < 0
  · rw [if_pos n1]
    go_enter Tryz.func7, Tryz.ntmps7
    go_wp2_with (fail)
    go_ret
    exact ⟨rfl, hb⟩
  · rw [if_neg n1]
    have kv := fun w => szInt64S_any A1 c1 V.length (l - L.length) w hv (by omega) (by omega)
    unfold szI at kv
    by_cases n2 : l - (L.length : Int) - (V.length : Int) < 0
    · rw [if_pos n2] at kv ⊢
      go_enter Tryz.func7, Tryz.ntmps7
      go_wp2_with (go_at_call 28; refine (kv _).mono ?_; rintro e w1 ⟨rfl, rfl⟩)
      go_ret
      exact ⟨rfl, hb⟩
    · rw [if_neg n2] at kv ⊢
      have kc := fun w => szInt64S_any A2 c2 C.length (l - L.length - V.length) w hc (by omega) (by omega)
      unfold szI at kc
      by_cases n3 : l - (L.length : Int) - (V.length : Int) - (C.length : Int) < 0
      · rw [if_pos n3] at kc ⊢
        go_enter Tryz.func7, Tryz.ntmps7
        go_wp2_with (first
          | (go_at_call 28; (with_reducible refine (kv _).mono ?_); rintro e w1 ⟨rfl, rfl⟩)
          | (go_at_call 28; (with_reducible refine (kc _).mono ?_); rintro e w1 ⟨rfl, rfl⟩))
        go_ret
        exact ⟨rfl, hb⟩
      · rw [if_neg n3] at kc ⊢
        go_enter Tryz.func7, Tryz.ntmps7
        go_wp2_with (first
          | (go_at_call 28; (with_reducible refine (kv _).mono ?_); rintro e w1 ⟨rfl, rfl⟩)
          | (go_at_call 28; (with_reducible refine (kc _).mono ?_); rintro e w1 ⟨rfl, rfl⟩))
        go_ret
        exact ⟨rfl, hb⟩
theorem eqInt64S_any (A1 A2 : Option Addr) (c1 c2 : Nat) (a b : List Int) (w : World) (h1 : Reads w w.heap.size 1 A1 a.length (a.map xv)) (h2 : Reads w w.heap.size 1 A2 b.length (b.map xv)) (hn : a.length ≤ 2 ^ 40) :
    Calls Tryz.prog 37 #[.slice A1 a.length c1, .slice A2 b.length c2] w fun e w' => e = .returned (.bool (a == b)) ∧ Below w.heap.size w w' := by
  obtain ⟨R, hR⟩ : ∃ R, R = (a == b) := ⟨_, rfl⟩
  rw [← hR]
  have hR' := Lib.hid hR
  clear hR
  by_cases hl : a.length = b.length
  · have hl1 : ((a.length : Int) != (b.length : Int)) = false := by rw [hl]; simp
    have hl' := Lib.hid hl
    clear hl
    go_enter Tryz.func37, Tryz.ntmps37
    go_wp2_with (fail)
    go_loopw [5] (fun i wr => ∃ k : Nat, k ≤ a.length ∧ i = .int .i64 k ∧ Hid (R = (a.drop k == b.drop k)) ∧ Below w.heap.size w wr) (fun i _ => a.length - (intOf i).toNat)
    case atStart => exact ⟨0, by omega, rfl, Lib.hid (by rw [hR'.out]; rfl), Below.refl _ _⟩
    case round =>
      obtain ⟨k, hk, rfl, he, hb⟩ := hrel
      by_cases hkl : k < a.length
      · have hkb : k < b.length := by rw [← hl'.out]; exact hkl
        obtain ⟨ad1, rfl, hd1, hc1⟩ := (h1.below hb).el hkl
        obtain ⟨ad2, rfl, hd2, hc2⟩ := (h2.below hb).el hkb
        have hst : Hid (R = (a[k] == b[k] && (a.drop (k + 1) == b.drop (k + 1)))) := Lib.hid (by rw [he.out, drop_cons a k hkl, drop_cons b k hkb]; rfl)
        obtain ⟨x, hx⟩ : ∃ x, x = a[k] := ⟨_, rfl⟩
        obtain ⟨y, hy⟩ : ∃ y, y = b[k] := ⟨_, rfl⟩
        rw [← hx] at hst hc1
        rw [← hy] at hst hc2
        clear hx hy
        have hkk : (k : Int) < (a.length : Int) := by omega
        have hkk2 : (k : Int) < (b.length : Int) := by omega
        have hk0 : (0 : Int) ≤ (k : Int) := by omega
        have hz1 : ad1.block < wr.heap.size := Nat.lt_of_lt_of_le hd1 hb.size
        have hz2 : ad2.block < wr.heap.size := Nat.lt_of_lt_of_le hd2 hb.size
        obtain ⟨t, ht⟩ : ∃ t, t = (x == y) := ⟨_, rfl⟩
        rw [← ht] at hst
        have ht' : (x != y) = !t := by rw [ht]; rfl
        clear ht
        cases t
        all_goals
          have ht2 : (x != y) = _ := ht'
          clear ht'
          go_wp2_with (fail)
          refine wp_region_b 9 (by kernel_rfl) (by kernel_rfl) ?_
          simp only [List.take_succ_cons, List.take_zero, List.drop_succ_cons, List.drop_zero]
          iterate 9
            apply pc_step rfl
            · intro w4 hb4 K hK
              have e1 : w4.cell? (ad1.add k) = some (.int .i64 x) := (hb4.cell (by rw [block_of_add]; exact hz1)).trans hc1
              have e2 : w4.cell? (ad2.add k) = some (.int .i64 y) := (hb4.cell (by rw [block_of_add]; exact hz2)).trans hc2
              go_wp2_with (fail)
              all_goals first | exact hb4 | exact hb4.trans (hb5.mono hb4.size) | exact hb4.trans (hd5.below.mono hb4.size)
            simp only [Act.put, List.setIfInBounds_toArray, List.set_cons_succ, List.set_cons_zero]
          refine pc_nil ?_
          intro w4 hb4
          have hb5 := hb.trans (hb4.mono hb.size)
          clear hb4 hc1 hc2
          go_wp2_with (fail)
        · go_ret
          exact ⟨ret_bool (by rw [hst.out]; rfl), hb5⟩
        · go_roundw
          case rel => exact ⟨k + 1, by omega, by go_num, Lib.hid (by rw [hst.out]; simp), hb5⟩
          case measure => simp [intOf]; omega
      · obtain rfl : k = a.length := by omega
        have hkk : ¬ (a.length : Int) < (a.length : Int) := by omega
        have hRt : Hid (R = true) := Lib.hid (by rw [he.out, List.drop_length, hl'.out, List.drop_length]; rfl)
        go_wp2_with (fail)
        go_ret
        exact ⟨ret_bool hRt.out.symm, hb⟩
  · have hl1 : ((a.length : Int) != (b.length : Int)) = true := by rw [bne_iff_ne]; omega
    have hRf : R = false := by rw [hR'.out, beq_eq_false_iff_ne]; intro e; exact hl (by rw [e])
    subst hRf
    clear hl
    go_enter Tryz.func37, Tryz.ntmps37
    go_wp2_with (fail)
    go_ret
    exact ⟨rfl, Below.refl _ _⟩
/-- Equal tile sets. -/
def eqTB (t u : TS) : Bool := t.letters == u.letters && (t.values == u.values && (t.counts == u.counts && t.blanks == u.blanks))
theorem eqTB_self (t : TS) : eqTB t t = true := by simp [eqTB]
theorem eqTileSet_any (t u : TS) (A1 A2 B1 B2 : Option Addr) (c1 c2 d1 d2 : Nat) (w : World) (h1 : TsIn w t A1 A2) (h2 : TsIn w u B1 B2) (hv : t.values.length ≤ 2 ^ 40) (hc : t.counts.length ≤ 2 ^ 40) :
    Calls Tryz.prog 16 #[t.v A1 c1 A2 c2, u.v B1 d1 B2 d2] w fun e w' => e = .returned (.bool (eqTB t u)) ∧ Below w.heap.size w w' := by
  have k1 := fun (W : World) (hW : Below w.heap.size w W) => eqInt64S_any A1 B1 c1 d1 t.values u.values W ((h1.r1.below hW).more hW.size) ((h2.r1.below hW).more hW.size) hv
  have k2 := fun (W : World) (hW : Below w.heap.size w W) => eqInt64S_any A2 B2 c2 d2 t.counts u.counts W ((h1.r2.below hW).more hW.size) ((h2.r2.below hW).more hW.size) hc
  clear h1 h2 hv hc
  obtain ⟨L, V, C, B⟩ := t
  obtain ⟨L', V', C', B'⟩ := u
  unfold eqTB
  simp only [TS.v] at *
  obtain ⟨e1, he1⟩ : ∃ e, e = (L == L') := ⟨_, rfl⟩
  obtain ⟨e2, he2⟩ : ∃ e, e = (V == V') := ⟨_, rfl⟩
  obtain ⟨e3, he3⟩ : ∃ e, e = (C == C') := ⟨_, rfl⟩
  obtain ⟨e4, he4⟩ : ∃ e, e = (B == B') := ⟨_, rfl⟩
  rw [← he1, ← he2, ← he3, ← he4]
  rw [← he2] at k1
  rw [← he3] at k2
  have he1' : (L == L') = e1 := he1.symm
  have he4' : (B != B') = !e4 := by rw [he4]; rfl
  clear he1 he2 he3 he4
  obtain ⟨W, hW⟩ : ∃ W, W = (w.alloc (.cells #[sv L, .slice A1 V.length c1, .slice A2 C.length c2, .int .i64 B] 38)).alloc (.cells #[sv L', .slice B1 V'.length d1, .slice B2 C'.length d2, .int .i64 B'] 38) := ⟨_, rfl⟩
  have hb : Below w.heap.size w W := by rw [hW]; exact ((Below.refl _ _).alloc (Nat.le_refl _) _).alloc (by simp) _
  have hX : Blk W w.heap.size 38 #[sv L, .slice A1 V.length c1, .slice A2 C.length c2, .int .i64 B] := by rw [hW]; exact (Blk.new w _ _).alloc _
  have hY : Blk W (w.heap.size + 1) 38 #[sv L', .slice B1 V'.length d1, .slice B2 C'.length d2, .int .i64 B'] := by rw [hW]; exact Blk.new1 w _ _ _
  have hor : e1 = false ∨ (e1 = true ∧ e2 = false) ∨ (e1 = true ∧ e2 = true ∧ e3 = false) ∨ (e1 = true ∧ e2 = true ∧ e3 = true ∧ e4 = false) ∨ (e1 = true ∧ e2 = true ∧ e3 = true ∧ e4 = true) := by
    cases e1 <;> cases e2 <;> cases e3 <;> cases e4 <;> simp
  rcases hor with rfl | ⟨rfl, rfl⟩ | ⟨rfl, rfl, rfl⟩ | ⟨rfl, rfl, rfl, rfl⟩ | ⟨rfl, rfl, rfl, rfl⟩
  · go_enter Tryz.func16, Tryz.ntmps16
    go_wp2_with (fail)
    rw [← hW]
    go_ret
    exact ⟨rfl, hb⟩
  all_goals
    have he42 : (B != B') = _ := he4'
    clear he4'
    go_enter Tryz.func16, Tryz.ntmps16
    go_wp2_with (first
      | (go_at_call 37; (try rw [← hW]); (with_reducible refine (k1 _ hb).mono ?_); rintro e w1 ⟨rfl, hb1⟩
         have hb2 := hb.trans (hb1.mono hb.size)
         have hX1 := hX.below hb1 hX.lt
         have hY1 := hY.below hb1 hY.lt
         have x2 : w1.cell? ⟨w.heap.size, 2, none⟩ = some (.slice A2 C.length c2) := hX1.cell 2
         have y2 : w1.cell? ⟨w.heap.size + 1, 2, none⟩ = some (.slice B2 C'.length d2) := hY1.cell 2)
      | (go_at_call 37; (with_reducible refine (k2 _ hb2).mono ?_); rintro e w3 ⟨rfl, hb3⟩
         have hb4 := hb2.trans (hb3.mono hb2.size)
         have hX3 := hX1.below hb3 hX1.lt
         have hY3 := hY1.below hb3 hY1.lt
         have x3 : w3.cell? ⟨w.heap.size, 3, none⟩ = some (.int .i64 B) := hX3.cell 3
         have y3 : w3.cell? ⟨w.heap.size + 1, 3, none⟩ = some (.int .i64 B') := hY3.cell 3))
    go_ret
    first | exact ⟨rfl, hb4⟩ | exact ⟨rfl, hb2⟩
end Go.Proofs.YtohopceknpgcnaaGreatDoor
/-
  Contracts: a copy of a list of numbers, of a tile set (the laws package).
  Conditions: the slices lie in memory.
-/
namespace Go.Proofs.YtohopceknpgcnaaGreatDoor
open Go.RowKit RegP RegL RegV
set_option maxHeartbeats 2000000
set_option maxRecDepth 100000

/-- A copy, some of it done. -/
def copyI (a : List Int) (j : Nat) : List Value := (List.range a.length).map fun i => if i < j then xv (a.getD i 0) else xv 0
theorem copyI_length (a : List Int) (j : Nat) : (copyI a j).length = a.length := by simp [copyI]
theorem copyI_step (a : List Int) (j : Nat) (h : j < a.length) : (copyI a j).set j (xv a[j]) = copyI a (j + 1) := by
  apply List.ext_getElem?
  intro i
  unfold copyI
  rw [List.getElem?_set]
  by_cases hij : j = i
  · subst hij
    rw [if_pos rfl, List.length_map, List.length_range, if_pos h, List.getElem?_map, List.getElem?_range h]
    simp [List.getD_eq_getElem?_getD, h]
  · rw [if_neg hij]
    by_cases hi : i < a.length
    · rw [List.getElem?_map, List.getElem?_map, List.getElem?_range hi]
      have : (i < j) = (i < j + 1) := by rw [eq_iff_iff]; omega
      simp only [Option.map_some, this]
    · rw [List.getElem?_eq_none (by simp; omega), List.getElem?_eq_none (by simp; omega)]
theorem copyI_end (a : List Int) : copyI a a.length = a.map xv := by
  apply List.ext_getElem?
  intro i
  unfold copyI
  by_cases hi : i < a.length
  · rw [List.getElem?_map, List.getElem?_range hi, List.getElem?_map, List.getElem?_eq_getElem hi]
    simp [List.getD_eq_getElem?_getD, hi]
  · rw [List.getElem?_eq_none (by simp; omega), List.getElem?_eq_none (by simp; omega)]
theorem copyI_start (a : List Int) : (madeCells (Value.int .i64 0).cells (a.length * 1)).toList = copyI a 0 := by
  apply List.ext_getElem?
  intro i
  unfold copyI
  by_cases hi : i < a.length
  · rw [List.getElem?_map, List.getElem?_range hi]
    simp [madeCells, hi, Value.cells, Nat.mod_one, xv]
  · rw [List.getElem?_eq_none (by simp [size_madeCells]; omega), List.getElem?_eq_none (by simp; omega)]
theorem toInt64S_any (A : Option Addr) (c : Nat) (a : List Int) (w : World) (h : Reads w w.heap.size 1 A a.length (a.map xv)) (hn : a.length ≤ 2 ^ 32) :
    Calls Tryz.prog 31 #[.slice A a.length c] w fun e w' => ∃ v, e = .returned v ∧ w'.ownsRow w.heap.size 2 1 v a.length (a.map xv) ∧ Below w.heap.size w w' := by
  have hst := Lib.hid (copyI_step a)
  have hen := Lib.hid (copyI_end a)
  have hcl := Lib.hid (copyI_length a)
  have hs0 := Lib.hid (copyI_start a)
  have hi0 : (Tryz.prog.info? 2).map (fun i => (i.zero, i.size, i.bytes)) = some (some (.int .i64 0), 1, 8) := by kernel_rfl
  obtain ⟨i, hi, hi2⟩ := Option.map_eq_some_iff.1 hi0
  simp only [Prod.mk.injEq] at hi2
  have hi1 : i.zero = some (.int .i64 0) ∧ i.size = 1 ∧ i.bytes = 8 := hi2
  clear hi0 hi2
  have hmx : a.length ≤ maxLen := by unfold maxLen; omega
  have hby : i.bytes * a.length ≤ 281474976710656 := by rw [hi1.2.2]; omega
  go_enter Tryz.func31, Tryz.ntmps31
  go_wp2_with (refine wpList_make_full _ rfl (.tmp 6) (.tmp 6) 25 rfl w.heap.size 2 i (.int .i64 0) 1 Tryz.underlying25 hi hi1.1 hi1.2.1 .i64 .i64 (a.length : Int) (a.length : Int) a.length rfl rfl rfl rfl hby hmx (Nat.le_refl _) ?_; intro w1 own1 hg1)
  rw [hs0.out] at own1
  have hb1 : Below w.heap.size w w1 := ⟨hg1.os, hg1.tape, hg1.output, hg1.size, fun k hk => hg1.block k hk (by simp)⟩
  clear hs0 hi hi1 hmx hby hg1
  go_loopw [4] (fun i wr => ∃ j : Nat, j ≤ a.length ∧ i = .int .i64 j ∧ wr.ownsRow w.heap.size 2 1 (.slice (some ⟨w.heap.size, 0, none⟩) a.length a.length) a.length (copyI a j) ∧ Below w.heap.size w wr) (fun i _ => a.length - (intOf i).toNat)
  case atStart => exact ⟨0, by omega, rfl, own1, hb1⟩
  case round =>
    clear own1 hb1
    obtain ⟨j, hj, rfl, own, hb⟩ := hrel
    by_cases hjl : j < a.length
    · obtain ⟨ad, rfl, hd1, hc1⟩ := (h.below hb).el hjl
      have hstep := Lib.hid (hst.out j hjl)
      obtain ⟨x, hx⟩ : ∃ x, x = a[j] := ⟨_, rfl⟩
      rw [← hx] at hc1 hstep
      clear hx
      simp only [xv] at hc1 hstep
      have hjj : (j : Int) < (a.length : Int) := by omega
      have hj0 : (0 : Int) ≤ (j : Int) := by omega
      have hcj := own.cellAt j (by omega)
      have hlen : j < (copyI a j).length := by rw [hcl.out]; exact hjl
      rw [List.getElem?_eq_getElem hlen] at hcj
      obtain ⟨y, hy⟩ : ∃ y, y = (copyI a j)[j] := ⟨_, rfl⟩
      rw [← hy] at hcj
      clear hy hlen
      have hfj := own.frozenAt j
      obtain ⟨own', hg'⟩ := own.stored j (.int .i64 x)
      rw [hstep.out] at own'
      have hb' := hb.setCell (p := ⟨w.heap.size, j, none⟩) (Nat.le_refl _) (.int .i64 x)
      go_wp2_with (fail)
      go_roundw
      case rel => exact ⟨j + 1, by omega, by go_num, own', hb'⟩
      case measure => simp only [intOf]; omega
    · obtain rfl : j = a.length := by omega
      rw [hen.out] at own
      go_wp2_with (fail)
      go_ret
      exact ⟨_, rfl, own, hb⟩
theorem own_low {w : World} {base e size n b : Nat} {v : Value} {xs : List Value} (h : w.ownsRow base e size v n xs) (hb : b < base) : v.ownBlock ≠ some b := fun hk => by
  have := (h.lt b hk).1
  omega
/-- A tile set's copy: its rows are its own, one beside the other. -/
def TsOwn (base : Nat) (t : TS) (v1 v2 : Value) (w : World) : Prop :=
  w.ownsRow base 2 1 v1 t.values.length (t.values.map xv) ∧ w.ownsRow base 2 1 v2 t.counts.length (t.counts.map xv) ∧ ∀ k, v1.ownBlock = some k → v2.ownBlock ≠ some k
theorem toTileSet_any (t : TS) (A1 A2 : Option Addr) (c1 c2 : Nat) (w : World) (h : TsIn w t A1 A2) (hv : t.values.length ≤ 2 ^ 32) (hc : t.counts.length ≤ 2 ^ 32) :
    Calls Tryz.prog 11 #[t.v A1 c1 A2 c2] w fun e w' => ∃ v1 v2, e = .returned (.agg #[sv t.letters, v1, v2, .int .i64 t.blanks]) ∧ TsOwn w.heap.size t v1 v2 w' ∧ Below w.heap.size w w' := by
  have k1 := fun (W : World) (hW : Below w.heap.size w W) => toInt64S_any A1 c1 t.values W ((h.r1.below hW).more hW.size) hv
  have k2 := fun (W : World) (hW : Below w.heap.size w W) => toInt64S_any A2 c2 t.counts W ((h.r2.below hW).more hW.size) hc
  unfold TsOwn
  clear h hv hc
  obtain ⟨L, V, C, B⟩ := t
  simp only [TS.v] at *
  obtain ⟨VV, hVV⟩ : ∃ VV, VV = V.map xv := ⟨_, rfl⟩
  obtain ⟨CC, hCC⟩ : ∃ CC, CC = C.map xv := ⟨_, rfl⟩
  rw [← hVV] at k1
  rw [← hCC] at k2
  rw [← hVV, ← hCC]
  clear hVV hCC
  obtain ⟨W, hW⟩ : ∃ W, W = ((w.alloc (.cells #[sv L, .slice A1 V.length c1, .slice A2 C.length c2, .int .i64 B] 27)).alloc (.cells #[.string ⟨#[]⟩, .slice none 0 0, .slice none 0 0, .int .i64 0] 38)).alloc (.cells #[sv L, .slice none 0 0, .slice none 0 0, .int .i64 0] 38) := ⟨_, rfl⟩
  have hb : Below w.heap.size w W := by rw [hW]; exact (((Below.refl _ _).alloc (Nat.le_refl _) _).alloc (by simp) _).alloc (by simp; omega) _
  have hB0 : Blk W w.heap.size 27 #[sv L, .slice A1 V.length c1, .slice A2 C.length c2, .int .i64 B] := by rw [hW]; exact ((Blk.new w _ _).alloc _).alloc _
  have hB1 : Blk W (w.heap.size + 1) 38 #[.string ⟨#[]⟩, .slice none 0 0, .slice none 0 0, .int .i64 0] := by rw [hW]; exact (Blk.new1 w _ _ _).alloc _
  have hB2 : Blk W (w.heap.size + 1 + 1) 38 #[sv L, .slice none 0 0, .slice none 0 0, .int .i64 0] := by rw [hW]; exact Blk.new2 w _ _ _ _
  go_enter Tryz.func11, Tryz.ntmps11
  go_wp2_with (first
    | (go_at_call 31; rw [← hW]; (with_reducible refine (k1 _ hb).mono ?_); rintro e w1 ⟨v1, rfl, own1, hb1⟩
       obtain ⟨A3, c3, rfl, hc3, -⟩ := own_sl own1
       have hC0 := hB0.below hb1 hB0.lt
       have hC1 := hB1.below hb1 hB1.lt
       have hC2 := hB2.below hb1 hB2.lt
       have x1 : w1.cell? ⟨w.heap.size, 2, none⟩ = some (.slice A2 C.length c2) := hC0.cell 2
       have x2 : w1.cell? ⟨w.heap.size + 1 + 1, 1, none⟩ = some (.slice none 0 0) := hC2.cell 1
       have y2 := hC2.frozen 1
       have z0 := hC0.lt
       have z2 := hC2.lt
       obtain ⟨w2, hw2⟩ : ∃ w2, w2 = w1.setCell ⟨w.heap.size + 1 + 1, 1, none⟩ (.slice A3 V.length c3) := ⟨_, rfl⟩
       have o2 : w2.ownsRow W.heap.size 2 1 (.slice A3 V.length c3) V.length VV := by rw [hw2]; exact own_far own1 (own_blk_ne own1 hC2 (by decide)) _
       have hD0 : Blk w2 w.heap.size 27 #[sv L, .slice A1 V.length c1, .slice A2 C.length c2, .int .i64 B] := by rw [hw2]; exact hC0.far (by simp; omega) _
       have hD1 : Blk w2 (w.heap.size + 1) 38 #[.string ⟨#[]⟩, .slice none 0 0, .slice none 0 0, .int .i64 0] := by rw [hw2]; exact hC1.far (by simp) _
       have hD2 : Blk w2 (w.heap.size + 1 + 1) 38 #[sv L, .slice A3 V.length c3, .slice none 0 0, .int .i64 0] := by rw [hw2]; exact hC2.set_ 1 _
       have hbw2 : Below w.heap.size w w2 := by rw [hw2]; exact (hb.trans (hb1.mono hb.size)).setCell (p := ⟨w.heap.size + 1 + 1, 1, none⟩) (by simp; omega) _)
    | (go_at_call 31; rw [← hw2]; (with_reducible refine (k2 _ hbw2).mono ?_); rintro e w3 ⟨v3, rfl, own3, hb3⟩
       obtain ⟨A4, c4, rfl, hc4, -⟩ := own_sl own3
       have hE0 := hD0.below hb3 hD0.lt
       have hE1 := hD1.below hb3 hD1.lt
       have hE2 := hD2.below hb3 hD2.lt
       have y0 : w3.cell? ⟨w.heap.size + 1 + 1, 0, none⟩ = some (sv L) := hE2.cell 0
       have y1 : w3.cell? ⟨w.heap.size + 1 + 1, 1, none⟩ = some (.slice A3 V.length c3) := hE2.cell 1
       have y3 : w3.cell? ⟨w.heap.size + 1 + 1, 2, none⟩ = some (.slice none 0 0) := hE2.cell 2
       have y4 : w3.cell? ⟨w.heap.size + 1 + 1, 3, none⟩ = some (.int .i64 0) := hE2.cell 3
       have y5 : w3.cell? ⟨w.heap.size, 3, none⟩ = some (.int .i64 B) := hE0.cell 3
       have q0 := hE2.frozen 2
       have q1 := hE2.frozen 3
       have r0 : w3.cell? ⟨w.heap.size + 1, 0, none⟩ = some (.string ⟨#[]⟩) := hE1.cell 0
       have r1 : w3.cell? ⟨w.heap.size + 1, 1, none⟩ = some (.slice none 0 0) := hE1.cell 1
       have r2 : w3.cell? ⟨w.heap.size + 1, 2, none⟩ = some (.slice none 0 0) := hE1.cell 2
       have r3 : w3.cell? ⟨w.heap.size + 1, 3, none⟩ = some (.int .i64 0) := hE1.cell 3
       have q2 := hE1.frozen 0
       have q3 := hE1.frozen 1
       have q4 := hE1.frozen 2
       have q5 := hE1.frozen 3
       have z3 := hE0.lt
       have z4 := hE1.lt
       have z5 := hE2.lt))
  have hz : W.heap.size = w.heap.size + 3 := by rw [hW]; simp
  have hz2 : W.heap.size ≤ w2.heap.size := by rw [hw2]; simp; exact hb1.size
  have p0 := own_call o2 hb3
  have pd : ∀ k, (Value.slice A3 V.length c3).ownBlock = some k → (Value.slice A4 C.length c4).ownBlock ≠ some k := fun k h1 h2 => by
    have := (o2.lt k h1).2
    have := (own3.lt k h2).1
    omega
  have o3 := own_base own3 hz2
  have hbw3 := hbw2.trans (hb3.mono hbw2.size)
  have a1 := hE1.far (p := ⟨w.heap.size + 1 + 1, 2, none⟩) (by simp) (.slice A4 C.length c4)
  have a2 := a1.far (p := ⟨w.heap.size + 1 + 1, 3, none⟩) (by simp) (.int .i64 B)
  have a3 := (((a2.set_ 0 (sv L)).set_ 1 (.slice A3 V.length c3)).set_ 2 (.slice A4 C.length c4)).set_ 3 (.int .i64 B)
  have keep : ∀ {n : Nat} {v : Value} {xs : List Value}, w3.ownsRow W.heap.size 2 1 v n xs → ((((((w3.setCell ⟨w.heap.size + 1 + 1, 2, none⟩ (.slice A4 C.length c4)).setCell ⟨w.heap.size + 1 + 1, 3, none⟩ (.int .i64 B)).setCell ⟨w.heap.size + 1, 0, none⟩ (sv L)).setCell ⟨w.heap.size + 1, 1, none⟩ (.slice A3 V.length c3)).setCell ⟨w.heap.size + 1, 2, none⟩ (.slice A4 C.length c4)).setCell ⟨w.heap.size + 1, 3, none⟩ (.int .i64 B)).ownsRow W.heap.size 2 1 v n xs := fun h => by
    have h1 := own_low h (b := w.heap.size + 1) (by omega)
    have h2 := own_low h (b := w.heap.size + 1 + 1) (by omega)
    exact own_far (own_far (own_far (own_far (own_far (own_far h h2 _) h2 _) h1 _) h1 _) h1 _) h1 _
  have hbe := (((((hbw3.setCell (p := ⟨w.heap.size + 1 + 1, 2, none⟩) (by simp; omega) (.slice A4 C.length c4)).setCell (p := ⟨w.heap.size + 1 + 1, 3, none⟩) (by simp; omega) (.int .i64 B)).setCell (p := ⟨w.heap.size + 1, 0, none⟩) (by simp) (sv L)).setCell (p := ⟨w.heap.size + 1, 1, none⟩) (by simp) (.slice A3 V.length c3)).setCell (p := ⟨w.heap.size + 1, 2, none⟩) (by simp) (.slice A4 C.length c4)).setCell (p := ⟨w.heap.size + 1, 3, none⟩) (by simp) (.int .i64 B)
  exact ret_row (by rfl) (w.heap.size + 1) 38 #[sv L, .slice A3 V.length c3, .slice A4 C.length c4, .int .i64 B] _ rfl a3 Tryz.underlying38 rfl (by kernel_rfl) rfl ⟨_, _, rfl, ⟨own_base (keep p0) hb.size, own_base (keep o3) hb.size, pd⟩, hbe⟩
end Go.Proofs.YtohopceknpgcnaaGreatDoor
/-
  Contracts: marks laid into a list of numbers, into a tile set (the laws package).
  Conditions: the lists are the caller's own; a number of common size.
-/
namespace Go.Proofs.YtohopceknpgcnaaGreatDoor
open Go.RowKit RegP RegL RegV
set_option maxHeartbeats 2000000
set_option maxRecDepth 100000

theorem markInt64S_any (v : Value) (n : Nat) (xs : List Value) (k base : Nat) (w : World) (own0 : w.ownsRow base 2 1 v n xs) (hn : n ≤ 2 ^ 32) (hk : k ≤ 2 ^ 33) (h0 : 0 < k) :
    Calls Tryz.prog 39 #[v, .int .i64 k] w fun e w' => e = .returned (.int .i64 ((k + n : Nat) : Int)) ∧ (∃ ys, w'.ownsRow base 2 1 v n ys) ∧ w.grownBy w' v.ownBlock := by
  have hxl : xs.length = n := by have := own0.1; omega
  obtain ⟨R, hR⟩ : ∃ R : Int, R = ((k + n : Nat) : Int) := ⟨_, rfl⟩
  rw [← hR]
  have hR' := Lib.hid hR
  clear hR
  rcases Nat.eq_zero_or_pos n with hz | hz
  · subst hz
    obtain ⟨A, c, hv, -, -⟩ := own_sl own0
    subst hv
    have hRk : R = (k : Int) := by rw [hR'.out]; rfl
    have hres := own0
    clear own0
    go_enter Tryz.func39, Tryz.ntmps39
    go_wp2_with (fail)
    go_loopw [1, 5] (fun kv i wr => kv = .int .i64 (k : Int) ∧ i = .int .i64 0 ∧ wr = w) (fun _ _ _ => 0)
    case atStart => exact ⟨rfl, rfl, rfl⟩
    case round =>
      obtain ⟨rfl, rfl, rfl⟩ := hrel
      go_wp2_with (fail)
      go_ret
      exact ⟨ret_int hRk.symm, ⟨_, hres⟩, ⟨rfl, rfl, rfl, Nat.le_refl _, fun _ _ _ => rfl⟩⟩
  · obtain ⟨g, cap, hv, hbg, hlt⟩ := own0.form hz
    subst hv
    clear hz
    have hgr0 : w.grownBy w (some g) := ⟨rfl, rfl, rfl, Nat.le_refl _, fun _ _ _ => rfl⟩
    go_enter Tryz.func39, Tryz.ntmps39
    go_wp2_with (fail)
    go_loopw [1, 5] (fun kv i wr => ∃ (j : Nat) (ys : List Value), j ≤ n ∧ i = .int .i64 j ∧ kv = .int .i64 ((k + j : Nat) : Int) ∧ ys.length = n ∧ wr.ownsRow base 2 1 (.slice (some ⟨g, 0, none⟩) n cap) n ys ∧ w.grownBy wr (some g)) (fun _ i _ => n - (intOf i).toNat)
    case atStart => exact ⟨0, xs, by omega, rfl, rfl, hxl, own0, hgr0⟩
    case round =>
      clear own0 hgr0 hxl
      obtain ⟨j, ys, hj, rfl, rfl, hyl, own, hgr⟩ := hrel
      by_cases hjl : j < n
      · have hjj : (j : Int) < (n : Int) := by omega
        have hj0 : (0 : Int) ≤ (j : Int) := by omega
        obtain ⟨m, hm⟩ : ∃ m : Int, m = ((k + j : Nat) : Int) := ⟨_, rfl⟩
        have hm1 : ((k + (j + 1) : Nat) : Int) = m + 1 := by omega
        have hm2 : 0 ≤ m := by omega
        have hm3 : m ≤ 17179869184 := by omega
        rw [← hm]
        have hm1' := Lib.hid hm1
        clear hm hm1
        have hcj := own.cellAt j (by omega)
        rw [List.getElem?_eq_getElem (by omega : j < ys.length)] at hcj
        obtain ⟨y, hy⟩ : ∃ y, y = ys[j] := ⟨_, rfl⟩
        rw [← hy] at hcj
        clear hy
        have hfj := own.frozenAt j
        have hs := (own.stored j (.int .i64 m)).1
        have hyl' := Lib.hid hyl
        clear hyl
        go_wp2_with (fail)
        go_roundw
        case rel => exact ⟨j + 1, _, by omega, by go_num, by rw [hm1'.out], by rw [List.length_set]; exact hyl'.out, hs, grown_set hgr j _⟩
        case measure => simp only [intOf]; omega
      · obtain rfl : j = n := by omega
        go_wp2_with (fail)
        go_ret
        exact ⟨ret_int (by rw [hR'.out]), ⟨_, own⟩, hgr⟩
/-- Two blocks may have changed. -/
structure G2 (w w' : World) (r1 r2 : Option Nat) : Prop where
  os : w'.os = w.os
  tape : w'.tape = w.tape
  output : w'.output = w.output
  size : w.heap.size ≤ w'.heap.size
  block : ∀ k, k < w.heap.size → r1 ≠ some k → r2 ≠ some k → w'.heap[k]? = w.heap[k]?
theorem own_ob {W W' : World} {base e size n : Nat} {v v2 : Value} {xs : List Value} (h : W.ownsRow base e size v n xs) (hne : ∀ k, v.ownBlock = some k → v2.ownBlock ≠ some k) (hg : W.grownBy W' v2.ownBlock) : W'.ownsRow base e size v n xs :=
  own_keep h fun k hk => hg.block k (h.lt k hk).2 (fun e => hne k hk e.symm)
theorem own_g2 {w w' : World} {base e size n : Nat} {v v1 v2 : Value} {xs : List Value} (h : w.ownsRow base e size v n xs) (h1 : ∀ k, v.ownBlock = some k → v1.ownBlock ≠ some k) (h2 : ∀ k, v.ownBlock = some k → v2.ownBlock ≠ some k) (hg : G2 w w' v1.ownBlock v2.ownBlock) : w'.ownsRow base e size v n xs :=
  own_keep h fun k hk => hg.block k (h.lt k hk).2 (h1 k hk) (h2 k hk)
theorem Blk.g2 {w w' : World} {g : Nat} {t : TypeId} {cs : Array Value} {r1 r2 : Option Nat} (h : Blk w g t cs) (hg : G2 w w' r1 r2) (h1 : r1 ≠ some g) (h2 : r2 ≠ some g) : Blk w' g t cs := by
  unfold Blk at h ⊢
  have hlt : g < w.heap.size := Blk.lt h
  rw [hg.block g hlt h1 h2]
  exact h
theorem Below.g2 {B : Nat} {a w w' : World} {r1 r2 : Option Nat} (hb : Below B a w) (hle : B ≤ w.heap.size) (h1 : ∀ k, r1 = some k → B ≤ k) (h2 : ∀ k, r2 = some k → B ≤ k) (hg : G2 w w' r1 r2) : Below B a w' :=
  ⟨hg.os.trans hb.os, hg.tape.trans hb.tape, hg.output.trans hb.output, Nat.le_trans hb.size hg.size, fun k hk => (hg.block k (Nat.lt_of_lt_of_le hk hle) (fun e => by have := h1 k e; omega) (fun e => by have := h2 k e; omega)).trans (hb.block k hk)⟩
theorem TsOwn.below {base : Nat} {t : TS} {v1 v2 : Value} {w w' : World} (h : TsOwn base t v1 v2 w) (hb : Below w.heap.size w w') : TsOwn base t v1 v2 w' := ⟨own_call h.1 hb, own_call h.2.1 hb, h.2.2⟩
theorem markTileSet_any (t : TS) (v1 v2 : Value) (k base : Nat) (w : World) (own : TsOwn base t v1 v2 w) (hv : t.values.length ≤ 2 ^ 32) (hc : t.counts.length ≤ 2 ^ 32) (hk : k ≤ 2 ^ 32) (h0 : 0 < k) :
    Calls Tryz.prog 18 #[.agg #[sv t.letters, v1, v2, .int .i64 t.blanks], .int .i64 k] w fun e w' => e = .returned (.int .i64 ((k + t.values.length + t.counts.length : Nat) : Int)) ∧ G2 w w' v1.ownBlock v2.ownBlock := by
  obtain ⟨own1, own2, hd⟩ := own
  have k1 := fun (W : World) (hW : W.ownsRow base 2 1 v1 t.values.length (t.values.map xv)) => markInt64S_any v1 t.values.length _ k base W hW hv (by omega) h0
  have k2 := fun (W : World) (hW : W.ownsRow base 2 1 v2 t.counts.length (t.counts.map xv)) => markInt64S_any v2 t.counts.length _ (k + t.values.length) base W hW hc (by omega) (by omega)
  obtain ⟨L, V, C, B⟩ := t
  simp only at *
  obtain ⟨VV, hVV⟩ : ∃ VV, VV = V.map xv := ⟨_, rfl⟩
  obtain ⟨CC, hCC⟩ : ∃ CC, CC = C.map xv := ⟨_, rfl⟩
  rw [← hVV] at k1 own1
  rw [← hCC] at k2 own2
  clear hVV hCC
  obtain ⟨R, hR⟩ : ∃ R : Int, R = ((k + V.length + C.length : Nat) : Int) := ⟨_, rfl⟩
  rw [← hR] at k2 ⊢
  obtain ⟨R1, hR1⟩ : ∃ R1 : Int, R1 = ((k + V.length : Nat) : Int) := ⟨_, rfl⟩
  rw [← hR1] at k1 k2
  clear hR hR1
  obtain ⟨A1, c1, rfl, -, -⟩ := own_sl own1
  obtain ⟨A2, c2, rfl, -, -⟩ := own_sl own2
  have hd' := Lib.hid hd
  clear hd
  obtain ⟨W, hW⟩ : ∃ W, W = w.alloc (.cells #[sv L, .slice A1 V.length c1, .slice A2 C.length c2, .int .i64 B] 38) := ⟨_, rfl⟩
  have hbW : Below w.heap.size w W := by rw [hW]; exact (Below.refl _ _).alloc (Nat.le_refl _) _
  have o1 := own_call own1 hbW
  have o2 := own_call own2 hbW
  have hX : Blk W w.heap.size 38 #[sv L, .slice A1 V.length c1, .slice A2 C.length c2, .int .i64 B] := by rw [hW]; exact Blk.new _ _ _
  go_enter Tryz.func18, Tryz.ntmps18
  go_wp2_with (first
    | (go_at_call 39; rw [← hW]; (with_reducible refine (k1 _ o1).mono ?_); rintro e w1 ⟨rfl, ⟨ys, oy⟩, hg1⟩
       have o3 := own_ob o2 (fun k hk e => hd'.out k e hk) hg1
       have hX1 := hX.grown hg1 (fun e => own_blk_ne o1 hX (by decide) e.symm)
       have x2 : w1.cell? ⟨w.heap.size, 2, none⟩ = some (.slice A2 C.length c2) := hX1.cell 2)
    | (go_at_call 39; (with_reducible refine (k2 _ o3).mono ?_); rintro e w2 ⟨rfl, ⟨zs, oz⟩, hg2⟩))
  go_ret
  exact ⟨rfl, hg2.os.trans (hg1.os.trans hbW.os), hg2.tape.trans (hg1.tape.trans hbW.tape), hg2.output.trans (hg1.output.trans hbW.output), Nat.le_trans hbW.size (Nat.le_trans hg1.size hg2.size), fun j hj e1 e2 => (hg2.block j (Nat.lt_of_lt_of_le hj (Nat.le_trans hbW.size hg1.size)) (fun e => e2 e.symm)).trans ((hg1.block j (Nat.lt_of_lt_of_le hj hbW.size) (fun e => e1 e.symm)).trans (hbW.block j hj))⟩
end Go.Proofs.YtohopceknpgcnaaGreatDoor
/-
  Contracts: equal plays, moves, lists of moves, where they are the same (the laws package).
  Conditions: both slices read as one list of moves.
-/
namespace Go.Proofs.YtohopceknpgcnaaGreatDoor
open Go.RowKit RegP RegL RegV
set_option maxHeartbeats 2000000
set_option maxRecDepth 100000

def mvV (m : Mv) : Value := .agg #[.int .i64 m.1.row, .int .i64 m.1.col, .bool m.1.down, sv m.1.word, .int .i64 m.2]
theorem eqPlay_same (q : Pl) (w : World) :
    Calls Tryz.prog 65 #[q.v, q.v] w fun e w' => e = .returned (.bool true) ∧ Below w.heap.size w w' := by
  obtain ⟨r, c, d, s⟩ := q
  simp only [Pl.v]
  have hb := ((Below.refl w.heap.size w).alloc (Nat.le_refl _) (.cells #[.int .i64 r, .int .i64 c, .bool d, sv s] 69)).alloc (by simp) (.cells #[.int .i64 r, .int .i64 c, .bool d, sv s] 69)
  have h1 : (r != r) = false := by simp
  have h2 : (c != c) = false := by simp
  have h3 : (d != d) = false := by simp
  have h4 : (s == s) = true := by simp
  go_enter Tryz.func65, Tryz.ntmps65
  go_wp2_with (fail)
  go_ret
  exact ⟨rfl, hb⟩
theorem eqMove_same (m : Mv) (w : World) :
    Calls Tryz.prog 35 #[mvV m, mvV m] w fun e w' => e = .returned (.bool true) ∧ Below w.heap.size w w' := by
  have kp := fun w => eqPlay_same m.1 w
  obtain ⟨⟨r, c, d, s⟩, x⟩ := m
  simp only [Pl.v, mvV] at *
  obtain ⟨W, hW⟩ : ∃ W, W = (w.alloc (.cells #[.int .i64 r, .int .i64 c, .bool d, sv s, .int .i64 x] 72)).alloc (.cells #[.int .i64 r, .int .i64 c, .bool d, sv s, .int .i64 x] 72) := ⟨_, rfl⟩
  have hb : Below w.heap.size w W := by rw [hW]; exact ((Below.refl _ _).alloc (Nat.le_refl _) _).alloc (by simp) _
  have hX : Blk W w.heap.size 72 #[.int .i64 r, .int .i64 c, .bool d, sv s, .int .i64 x] := by rw [hW]; exact (Blk.new w _ _).alloc _
  have hY : Blk W (w.heap.size + 1) 72 #[.int .i64 r, .int .i64 c, .bool d, sv s, .int .i64 x] := by rw [hW]; exact Blk.new1 w _ _ _
  have h1 : (x != x) = false := by simp
  go_enter Tryz.func35, Tryz.ntmps35
  go_wp2_with (go_at_call 65; rw [← hW]; refine (kp _).mono ?_; rintro e w1 ⟨rfl, hb1⟩
               have hX1 := hX.below hb1 hX.lt
               have hY1 := hY.below hb1 hY.lt
               have x4 : w1.cell? ⟨w.heap.size, 4, none⟩ = some (.int .i64 x) := hX1.cell 4
               have y4 : w1.cell? ⟨w.heap.size + 1, 4, none⟩ = some (.int .i64 x) := hY1.cell 4)
  go_ret
  exact ⟨rfl, hb.trans (hb1.mono hb.size)⟩
theorem eqMoveS_same (A1 A2 : Option Addr) (c1 c2 : Nat) (ms : List Mv) (w : World) (h1 : Reads w w.heap.size 5 A1 ms.length (mvsC ms)) (h2 : Reads w w.heap.size 5 A2 ms.length (mvsC ms)) (hf1 : ∀ ad, A1 = some ad → ∃ g, ad = ⟨g, 0, none⟩) (hf2 : ∀ ad, A2 = some ad → ∃ g, ad = ⟨g, 0, none⟩) (hn : ms.length ≤ 2 ^ 40) :
    Calls Tryz.prog 14 #[.slice A1 ms.length c1, .slice A2 ms.length c2] w fun e w' => e = .returned (.bool true) ∧ Below w.heap.size w w' := by
  have hl1 : ((ms.length : Int) != (ms.length : Int)) = false := by simp
  go_enter Tryz.func14, Tryz.ntmps14
  go_wp2_with (fail)
  go_loopw [5] (fun i wr => ∃ k : Nat, k ≤ ms.length ∧ i = .int .i64 k ∧ Below w.heap.size w wr) (fun i _ => ms.length - (intOf i).toNat)
  case atStart => exact ⟨0, by omega, rfl, Below.refl _ _⟩
  case round =>
    obtain ⟨k, hk, rfl, hb⟩ := hrel
    by_cases hkl : k < ms.length
    · have r1 := (h1.below hb).more hb.size
      have r2 := (h2.below hb).more hb.size
      obtain ⟨ad1, e1, hd1, _⟩ := r1.2 (by omega)
      obtain ⟨g1, rfl⟩ := hf1 ad1 e1
      obtain ⟨ad2, e2, hd2, _⟩ := r2.2 (by omega)
      obtain ⟨g2, rfl⟩ := hf2 ad2 e2
      subst e1 e2
      obtain ⟨x0, x1, x2, x3, x4⟩ := r1.mv hkl
      obtain ⟨y0, y1, y2, y3, y4⟩ := r2.mv hkl
      simp only [Nat.zero_add] at x0 x1 x2 x3 x4 y0 y1 y2 y3 y4
      have km := fun w => eqMove_same ms[k] w
      obtain ⟨m, hm⟩ : ∃ m, m = ms[k] := ⟨_, rfl⟩
      rw [← hm] at km x0 x1 x2 x3 x4 y0 y1 y2 y3 y4
      clear hm r1 r2
      obtain ⟨⟨r, c, d, s⟩, x⟩ := m
      simp only [mvV] at km x0 x1 x2 x3 x4 y0 y1 y2 y3 y4
      have hg1 : g1 < wr.heap.size := hd1
      have hg2 : g2 < wr.heap.size := hd2
      have hkk : (k : Int) < (ms.length : Int) := by omega
      have hk0 : (0 : Int) ≤ (k : Int) := by omega
      go_wp2_with (fail)
      refine wp_region_b 10 (by kernel_rfl) (by kernel_rfl) ?_
      simp only [List.take_succ_cons, List.take_zero, List.drop_succ_cons, List.drop_zero]
      iterate 10
        apply pc_step rfl
        · intro w4 hb4 K hK
          have a0 := (hb4.cell (p := ⟨g1, k * 5, none⟩) hg1).trans x0
          have a1 := (hb4.cell (p := ⟨g1, k * 5 + 1, none⟩) hg1).trans x1
          have a2 := (hb4.cell (p := ⟨g1, k * 5 + 2, none⟩) hg1).trans x2
          have a3 := (hb4.cell (p := ⟨g1, k * 5 + 3, none⟩) hg1).trans x3
          have a4 := (hb4.cell (p := ⟨g1, k * 5 + 4, none⟩) hg1).trans x4
          have b0 := (hb4.cell (p := ⟨g2, k * 5, none⟩) hg2).trans y0
          have b1 := (hb4.cell (p := ⟨g2, k * 5 + 1, none⟩) hg2).trans y1
          have b2 := (hb4.cell (p := ⟨g2, k * 5 + 2, none⟩) hg2).trans y2
          have b3 := (hb4.cell (p := ⟨g2, k * 5 + 3, none⟩) hg2).trans y3
          have b4 := (hb4.cell (p := ⟨g2, k * 5 + 4, none⟩) hg2).trans y4
          go_wp2_with (first | (go_at_call 35; refine (km _).mono ?_; rintro e w5 ⟨rfl, hb5⟩))
          all_goals first | exact hb4 | exact hb4.trans (hb5.mono hb4.size) | exact hb4.trans (hd5.below.mono hb4.size)
        simp only [Act.put, List.setIfInBounds_toArray, List.set_cons_succ, List.set_cons_zero]
      refine pc_nil ?_
      intro w4 hb4
      have hb5 := hb.trans (hb4.mono hb.size)
      go_wp2_with (fail)
      go_roundw
      case rel => exact ⟨k + 1, by omega, by go_num, hb5⟩
      case measure => simp [intOf]; omega
    · obtain rfl : k = ms.length := by omega
      have hkk : ¬ (ms.length : Int) < (ms.length : Int) := by omega
      go_wp2_with (fail)
      go_ret
      exact ⟨rfl, hb⟩
end Go.Proofs.YtohopceknpgcnaaGreatDoor
/-
  Contract: marks laid into a list of moves (the laws package).
  Conditions: the list is the caller's own; a number of common size.
-/
namespace Go.Proofs.YtohopceknpgcnaaGreatDoor
open Go.RowKit RegP RegL RegV
set_option maxHeartbeats 2000000
set_option maxRecDepth 100000

/-- A marked move; the marks. -/
def markMv (k : Nat) : Mv := (⟨(k : Int), (k : Int) + 1, (k + 2) % 3 == 0, markT (k + 3)⟩, (k : Int) + 4)
def marksM (k n : Nat) : List Mv := (List.range n).map fun i => markMv (k + 5 * i)
theorem marksM_length (k n : Nat) : (marksM k n).length = n := by simp [marksM]
theorem marksM_succ (k n : Nat) : marksM k (n + 1) = marksM k n ++ [markMv (k + 5 * n)] := by simp [marksM, List.range_succ]
/-- A list of moves, some marks laid into it. -/
def markToM (ms : List Mv) (k j : Nat) : List Value := mvsC (marksM k j) ++ mvsC (ms.drop j)
theorem markToM_length (ms : List Mv) (k j : Nat) (h : j ≤ ms.length) : (markToM ms k j).length = ms.length * 5 := by
  unfold markToM
  rw [List.length_append, mvsC_length, mvsC_length, marksM_length, List.length_drop]
  omega
theorem set5 (X R : List Value) (o0 o1 o2 o3 o4 a b c d e : Value) (n : Nat) (h : X.length = n) :
    (((((X ++ o0 :: o1 :: o2 :: o3 :: o4 :: R).set n a).set (n + 1) b).set (n + 2) c).set (n + 3) d).set (n + 4) e = X ++ a :: b :: c :: d :: e :: R := by
  subst h
  simp
theorem markToM_step (ms : List Mv) (k j : Nat) (h : j < ms.length) :
    (((((markToM ms k j).set (j * 5) (.int .i64 ((k + 5 * j : Nat) : Int))).set (j * 5 + 1) (.int .i64 (((k + 5 * j : Nat) : Int) + 1))).set (j * 5 + 2) (.bool ((k + 5 * j + 2) % 3 == 0))).set (j * 5 + 3) (sv (markT (k + 5 * j + 3)))).set (j * 5 + 4) (.int .i64 (((k + 5 * j : Nat) : Int) + 4)) = markToM ms k (j + 1) := by
  unfold markToM
  rw [drop_cons ms j h, marksM_succ, mvsC_append, mvsC_one]
  show (((((mvsC (marksM k j) ++ (.int .i64 ms[j].1.row :: .int .i64 ms[j].1.col :: .bool ms[j].1.down :: sv ms[j].1.word :: .int .i64 ms[j].2 :: mvsC (ms.drop (j + 1)))).set (j * 5) _).set (j * 5 + 1) _).set (j * 5 + 2) _).set (j * 5 + 3) _).set (j * 5 + 4) _ = _
  rw [set5 _ _ _ _ _ _ _ _ _ _ _ _ (j * 5) (by rw [mvsC_length, marksM_length])]
  rw [List.append_assoc]
  rfl
theorem markToM_end (ms : List Mv) (k : Nat) : markToM ms k ms.length = mvsC (marksM k ms.length) := by
  unfold markToM
  rw [List.drop_length]
  simp [mvsC]
theorem markToM_start (ms : List Mv) (k : Nat) : markToM ms k 0 = mvsC ms := rfl
theorem markMoveS_any (v : Value) (ms : List Mv) (k base : Nat) (w : World) (own0 : w.ownsRow base 72 5 v ms.length (mvsC ms)) (hn : ms.length ≤ 2 ^ 30) (hk : k ≤ 2 ^ 32) (h0 : 0 < k) :
    Calls Tryz.prog 19 #[v, .int .i64 k] w fun e w' => e = .returned (.int .i64 ((k + 5 * ms.length : Nat) : Int)) ∧ w'.ownsRow base 72 5 v ms.length (mvsC (marksM k ms.length)) ∧ w.grownBy w' v.ownBlock := by
  have hst := Lib.hid (markToM_step ms k)
  have hen := Lib.hid (markToM_end ms k)
  have hcl := Lib.hid (markToM_length ms k)
  rw [← markToM_start ms k] at own0
  obtain ⟨R, hR⟩ : ∃ R : Int, R = ((k + 5 * ms.length : Nat) : Int) := ⟨_, rfl⟩
  rw [← hR]
  have hR' := Lib.hid hR
  clear hR
  rcases Nat.eq_zero_or_pos ms.length with hz | hz
  · obtain ⟨A, c, hv, -, -⟩ := own_sl own0
    rw [hz] at hv
    subst hv
    have hRk : R = (k : Int) := by rw [hR'.out, hz]; rfl
    have hres : w.ownsRow base 72 5 (.slice A 0 c) ms.length (mvsC (marksM k ms.length)) := by rw [← hen.out, hz]; rw [hz] at own0; exact own0
    clear own0
    go_enter Tryz.func19, Tryz.ntmps19
    go_wp2_with (fail)
    go_loopw [1, 5] (fun kv i wr => kv = .int .i64 (k : Int) ∧ i = .int .i64 0 ∧ wr = w) (fun _ _ _ => 0)
    case atStart => exact ⟨rfl, rfl, rfl⟩
    case round =>
      obtain ⟨rfl, rfl, rfl⟩ := hrel
      go_wp2_with (fail)
      go_ret
      exact ⟨ret_int hRk.symm, hres, ⟨rfl, rfl, rfl, Nat.le_refl _, fun _ _ _ => rfl⟩⟩
  · obtain ⟨g, cap, hv, hbg, hlt⟩ := own0.form hz
    subst hv
    clear hz
    have hgr0 : w.grownBy w (some g) := ⟨rfl, rfl, rfl, Nat.le_refl _, fun _ _ _ => rfl⟩
    go_enter Tryz.func19, Tryz.ntmps19
    go_wp2_with (fail)
    go_loopw [1, 5] (fun kv i wr => ∃ j : Nat, j ≤ ms.length ∧ i = .int .i64 j ∧ kv = .int .i64 ((k + 5 * j : Nat) : Int) ∧ wr.ownsRow base 72 5 (.slice (some ⟨g, 0, none⟩) ms.length cap) ms.length (markToM ms k j) ∧ w.grownBy wr (some g)) (fun _ i _ => ms.length - (intOf i).toNat)
    case atStart => exact ⟨0, by omega, rfl, rfl, own0, hgr0⟩
    case round =>
      clear own0 hgr0
      obtain ⟨j, hj, rfl, rfl, own, hgr⟩ := hrel
      by_cases hjl : j < ms.length
      · have hstep := Lib.hid (hst.out j hjl)
        have km := fun w => markText_any (k + 5 * j + 3) w (by omega) (by omega)
        obtain ⟨y, hy⟩ : ∃ y, y = markT (k + 5 * j + 3) := ⟨_, rfl⟩
        rw [← hy] at hstep km
        clear hy
        have hjj : (j : Int) < (ms.length : Int) := by omega
        have hj0 : (0 : Int) ≤ (j : Int) := by omega
        obtain ⟨m, hm⟩ : ∃ m : Int, m = ((k + 5 * j : Nat) : Int) := ⟨_, rfl⟩
        have hm1 : ((k + 5 * (j + 1) : Nat) : Int) = m + 5 := by omega
        have hm2 : 0 ≤ m := by omega
        have hm3 : m ≤ 17179869184 := by omega
        have hm4 : ((k + 5 * j + 3 : Nat) : Int) = m + 1 + 1 + 1 := by omega
        obtain ⟨bb, hbb⟩ : ∃ bb, bb = ((k + 5 * j + 2) % 3 == 0) := ⟨_, rfl⟩
        have hmod : ((m + 1 + 1) % 3 == 0) = bb := by
          rw [hbb, Bool.eq_iff_iff]
          simp
          omega
        rw [← hm, ← hbb] at hstep
        rw [hm4] at km
        rw [← hm]
        have hm1' := Lib.hid hm1
        clear hm hm1 hm4 hbb
        have hyl := hcl.out j hj
        obtain ⟨Y, hY⟩ : ∃ Y, Y = markToM ms k j := ⟨_, rfl⟩
        rw [← hY] at hstep own hyl
        clear hY
        have cell : ∀ i, i < 5 → ∃ z, wr.cell? ⟨g, j * 5 + i, none⟩ = some z := fun i hi => ⟨Y[j * 5 + i]'(by omega), (own.cellAt (j * 5 + i) (by omega)).trans (List.getElem?_eq_getElem _)⟩
        obtain ⟨z0, c0⟩ := cell 0 (by omega)
        obtain ⟨z1, c1⟩ := cell 1 (by omega)
        obtain ⟨z2, c2⟩ := cell 2 (by omega)
        obtain ⟨z3, c3⟩ := cell 3 (by omega)
        obtain ⟨z4, c4⟩ := cell 4 (by omega)
        have f0 := own.frozenAt (j * 5)
        have f1 := own.frozenAt (j * 5 + 1)
        have f2 := own.frozenAt (j * 5 + 2)
        simp only [Nat.add_zero] at c0
        have hyl' := Lib.hid hyl
        clear cell hyl
        have o3 := (((own.stored (j * 5) (.int .i64 m)).1.stored (j * 5 + 1) (.int .i64 (m + 1))).1.stored (j * 5 + 2) (.bool bb)).1
        have hg3 := grown_set (grown_set (grown_set hgr (j * 5) (.int .i64 m)) (j * 5 + 1) (.int .i64 (m + 1))) (j * 5 + 2) (.bool bb)
        obtain ⟨Z, hZ⟩ : ∃ Z, Z = ((Y.set (j * 5) (.int .i64 m)).set (j * 5 + 1) (.int .i64 (m + 1))).set (j * 5 + 2) (.bool bb) := ⟨_, rfl⟩
        have hZl : Z.length = ms.length * 5 := by rw [hZ]; simp only [List.length_set]; exact hyl'.out
        rw [← hZ] at o3 hstep
        clear hZ
        have hst2 : Hid ((Z.set (j * 5 + 3) (sv y)).set (j * 5 + 4) (.int .i64 (m + 1 + 1 + 1 + 1)) = markToM ms k (j + 1)) := Lib.hid (by rw [← hstep.out]; congr 2; omega)
        clear hstep
        go_wp2_with (go_at_call 40; refine (km _).mono ?_; rintro e w5 ⟨rfl, hb5⟩
                     have own5 := own_call o3 hb5
                     have hg5 := grown_call hg3 hb5
                     have d3 : w5.cell? ⟨g, j * 5 + 3, none⟩ = some _ := (own5.cellAt (j * 5 + 3) (by omega)).trans (List.getElem?_eq_getElem (by omega))
                     have d4 : w5.cell? ⟨g, j * 5 + 4, none⟩ = some _ := (own5.cellAt (j * 5 + 4) (by omega)).trans (List.getElem?_eq_getElem (by omega))
                     have f3 := own5.frozenAt (j * 5 + 3)
                     have f4 := own5.frozenAt (j * 5 + 4))
        have hs := ((own5.stored (j * 5 + 3) (sv y)).1.stored (j * 5 + 4) (.int .i64 (m + 1 + 1 + 1 + 1))).1
        rw [hst2.out] at hs
        go_roundw
        case rel => exact ⟨j + 1, by omega, by go_num, by rw [hm1'.out]; congr 1; omega, hs, grown_set (grown_set hg5 _ _) _ _⟩
        case measure => simp only [intOf]; omega
      · obtain rfl : j = ms.length := by omega
        rw [hen.out] at own
        go_wp2_with (fail)
        go_ret
        exact ⟨ret_int (by rw [hR'.out]), own, hgr⟩
end Go.Proofs.YtohopceknpgcnaaGreatDoor
/-
  Contract: are the marks held in a list of moves, where they are (the laws package).
  Conditions: the slice reads as a marked list; a number of common size.
-/
namespace Go.Proofs.YtohopceknpgcnaaGreatDoor
open Go.RowKit RegP RegL RegV
set_option maxHeartbeats 2000000
set_option maxRecDepth 100000

theorem heldMoveS_same (A : Option Addr) (c n k : Nat) (w : World) (h : Reads w w.heap.size 5 A n (mvsC (marksM k n))) (hf : ∀ ad, A = some ad → ∃ g, ad = ⟨g, 0, none⟩) (hn : n ≤ 2 ^ 30) (hk : k ≤ 2 ^ 32) (h0 : 0 < k) :
    Calls Tryz.prog 20 #[.slice A n c, .int .i64 k] w fun e w' => e = .returned (.int .i64 ((k + 5 * n : Nat) : Int)) ∧ Below w.heap.size w w' := by
  have hl := marksM_length k n
  have hget : Hid (∀ j (hj : j < n) (hj' : j < (marksM k n).length), (marksM k n)[j] = markMv (k + 5 * j)) := Lib.hid (fun j hj hj' => by simp [marksM])
  obtain ⟨P, hP⟩ : ∃ P, P = marksM k n := ⟨_, rfl⟩
  rw [← hP] at h hl hget
  clear hP
  obtain ⟨R, hR⟩ : ∃ R : Int, R = ((k + 5 * n : Nat) : Int) := ⟨_, rfl⟩
  rw [← hR]
  have hR' := Lib.hid hR
  have hl' := Lib.hid hl
  clear hR hl
  go_enter Tryz.func20, Tryz.ntmps20
  go_wp2_with (fail)
  go_loopw [1, 5] (fun kv i wr => ∃ j : Nat, j ≤ n ∧ i = .int .i64 j ∧ kv = .int .i64 ((k + 5 * j : Nat) : Int) ∧ Below w.heap.size w wr) (fun _ i _ => n - (intOf i).toNat)
  case atStart => exact ⟨0, by omega, rfl, rfl, Below.refl _ _⟩
  case round =>
    obtain ⟨j, hj, rfl, rfl, hb⟩ := hrel
    by_cases hjl : j < n
    · have r1 := (h.below hb).more hb.size
      obtain ⟨ad1, e1, hd1, _⟩ := r1.2 (by omega)
      obtain ⟨g, rfl⟩ := hf ad1 e1
      subst e1
      rw [← hl'.out] at r1
      obtain ⟨x0, x1, x2, x3, x4⟩ := r1.mv (k := j) (by rw [hl'.out]; exact hjl)
      rw [hget.out j hjl] at x0 x1 x2 x3 x4
      simp only [Nat.zero_add, markMv] at x0 x1 x2 x3 x4
      have km := fun w => markText_any (k + 5 * j + 3) w (by omega) (by omega)
      obtain ⟨y, hy⟩ : ∃ y, y = markT (k + 5 * j + 3) := ⟨_, rfl⟩
      rw [← hy] at x3 km
      clear hy
      have hg : g < wr.heap.size := hd1
      have hjj : (j : Int) < (n : Int) := by omega
      have hj0 : (0 : Int) ≤ (j : Int) := by omega
      obtain ⟨m, hm⟩ : ∃ m : Int, m = ((k + 5 * j : Nat) : Int) := ⟨_, rfl⟩
      have hm1 : ((k + 5 * (j + 1) : Nat) : Int) = m + 1 + 1 + 1 + 1 + 1 := by omega
      have hm2 : 0 ≤ m := by omega
      have hm3 : m ≤ 17179869184 := by omega
      have hm4 : ((k + 5 * j + 3 : Nat) : Int) = m + 1 + 1 + 1 := by omega
      obtain ⟨bb, hbb⟩ : ∃ bb, bb = ((k + 5 * j + 2) % 3 == 0) := ⟨_, rfl⟩
      have hmod : ((m + 1 + 1) % 3 == 0) = bb := by
        rw [hbb, Bool.eq_iff_iff]
        simp
        omega
      rw [← hm] at x0 x1 x4
      rw [show m + 4 = m + 1 + 1 + 1 + 1 by omega] at x4
      rw [← hbb] at x2
      rw [hm4] at km
      rw [← hm]
      have hm1' := Lib.hid hm1
      clear hm hm1 hm4 hbb r1
      have n0 : (m != m) = false := by simp
      have n1 : (m + 1 != m + 1) = false := by simp
      have n2 : (bb != bb) = false := by simp
      have n3 : (y == y) = true := by simp
      have n4 : (m + 1 + 1 + 1 + 1 != m + 1 + 1 + 1 + 1) = false := by simp
      go_wp2_with (fail)
      refine wp_region_b 9 (by kernel_rfl) (by kernel_rfl) ?_
      simp only [List.take_succ_cons, List.take_zero, List.drop_succ_cons, List.drop_zero]
      iterate 9
        apply pc_step rfl
        · intro w4 hb4 K hK
          have a3 := (hb4.cell (p := ⟨g, j * 5 + 3, none⟩) hg).trans x3
          go_wp2_with (first | (go_at_call 40; refine (km _).mono ?_; rintro e w5 ⟨rfl, hb5⟩))
          all_goals first | exact hb4 | exact hb4.trans (hb5.mono hb4.size) | exact hb4.trans (hd5.below.mono hb4.size)
        simp only [Act.put, List.setIfInBounds_toArray, List.set_cons_succ, List.set_cons_zero]
      refine pc_nil ?_
      intro w4 hb4
      have a4 := (hb4.cell (p := ⟨g, j * 5 + 4, none⟩) hg).trans x4
      have hb5 := hb.trans (hb4.mono hb.size)
      go_wp2_with (fail)
      go_roundw
      case rel => exact ⟨j + 1, by omega, by go_num, by rw [hm1'.out], hb5⟩
      case measure => simp only [intOf]; omega
    · obtain rfl : j = n := by omega
      go_wp2_with (fail)
      go_ret
      exact ⟨ret_int (by rw [hR'.out]), hb⟩
end Go.Proofs.YtohopceknpgcnaaGreatDoor
/-
  The state of a region that draws its order and calls functions: of some operations it is told what holds of their values.
  Conditions: none.
-/
namespace Go.Proofs.YtohopceknpgcnaaGreatDoor
namespace RegV
open Go.RowKit RegP RegL

/-- T: what holds of an operation's value. -/
structure SX (W : World) (T : Nat → Option (Value → World → Prop)) (σ : Nat → Value) (L : Nat → Bool) (w : World) : Prop where
  low : Below W.heap.size W w
  cp : ∀ i P, T i = some P → L i = true → P (σ i) w
/-- What is told stays true. -/
def StabX (T : Nat → Option (Value → World → Prop)) : Prop := ∀ i P, T i = some P → ∀ u w w', P u w → Below w.heap.size w w' → P u w'
section
variable {W w w' : World} {T : Nat → Option (Value → World → Prop)} {σ : Nat → Value} {L : Nat → Bool} {i : Nat} {u : Value} {P : Value → World → Prop}
theorem SX.start : SX W T (fun _ => undef) (fun _ => false) W.drew := ⟨(Below.refl _ _).drew, fun _ _ _ h => by cases h⟩
theorem SX.below (h : SX W T σ L w) (hs : StabX T) (hb : Below w.heap.size w w') : SX W T σ L w' :=
  ⟨h.low.trans (hb.mono h.low.size), fun i P hi hL => hs i P hi _ _ _ (h.cp i P hi hL) hb⟩
theorem SX.keep (h : SX W T σ L w) (hi : T i = none) : SX W T σ (upd L i) w :=
  ⟨h.low, fun j P hj hL => by
    have hne : j ≠ i := fun e => by rw [e, hi] at hj; cases hj
    rw [upd_ne L hne] at hL
    exact h.cp j P hj hL⟩
theorem SX.put (h : SX W T σ L w) (hs : StabX T) (hb : Below w.heap.size w w') (hi : T i = some P) (hu : P u w') : SX W T (sub σ i u) (upd L i) w' := by
  have h := h.below hs hb
  refine ⟨h.low, fun j Q hj hL => ?_⟩
  by_cases hne : j = i
  · subst hne
    rw [hi] at hj
    injection hj with hj
    subst hj
    rw [sub_same]
    exact hu
  · rw [upd_ne L hne] at hL
    rw [sub_ne _ _ hne]
    exact h.cp j Q hj hL
theorem SX.get (h : SX W T σ L w) (hi : T i = some P) (hL : L i = true) : P (σ i) w := h.cp i P hi hL
end
end RegV
end Go.Proofs.YtohopceknpgcnaaGreatDoor
