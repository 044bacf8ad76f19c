/-
  Contracts: a copy of a list of strings, of a lexicon (the laws package); Contracts: marks laid into a list of strings, into a lexicon (the laws package); The state of the law's regions that call a function of three arguments: a copied lexicon, the answer, its parts.
  Conditions: as each part below says.
-/
import Derived.Test.YtamdcbbclkobiaaGreatDoorM06
import Derived.Test.YtamdcbbclkobiaaGreatDoorM23
import Derived.Test.YtamdcbbclkobiaaGreatDoorM12
import Derived.Test.YtamdcbbclkobiaaGreatDoorM29
/-
  Contracts: a copy of a list of strings, of a lexicon (the laws package).
  Conditions: the slice reads as a list of strings.
-/
namespace Go.Proofs.YtamdcbbclkobiaaGreatDoor
open Go.RowKit RegP RegL RegV
set_option maxHeartbeats 2000000
set_option maxRecDepth 100000

/-- A copy, some of it done. -/
def copyTo (a : List Str) (j : Nat) : List Value := (List.range a.length).map fun i => if i < j then sv (a.getD i []) else sv []
theorem copyTo_length (a : List Str) (j : Nat) : (copyTo a j).length = a.length := by simp [copyTo]
theorem copyTo_step (a : List Str) (j : Nat) (h : j < a.length) : (copyTo a j).set j (sv a[j]) = copyTo a (j + 1) := by
  apply List.ext_getElem?
  intro i
  unfold copyTo
  rw [List.getElem?_set]
  by_cases hij : j = i
  · subst hij
    rw [if_pos rfl, List.length_map, List.length_range, if_pos h, List.getElem?_map, List.getElem?_range h]
    simp [List.getD_eq_getElem?_getD, h]
  · rw [if_neg hij]
    by_cases hi : i < a.length
    · rw [List.getElem?_map, List.getElem?_map, List.getElem?_range hi]
      have : (i < j) = (i < j + 1) := by rw [eq_iff_iff]; omega
      simp only [Option.map_some, this]
    · rw [List.getElem?_eq_none (by simp; omega), List.getElem?_eq_none (by simp; omega)]
theorem copyTo_end (a : List Str) : copyTo a a.length = a.map sv := by
  apply List.ext_getElem?
  intro i
  unfold copyTo
  by_cases hi : i < a.length
  · rw [List.getElem?_map, List.getElem?_range hi, List.getElem?_map, List.getElem?_eq_getElem hi]
    simp [List.getD_eq_getElem?_getD, hi]
  · rw [List.getElem?_eq_none (by simp; omega), List.getElem?_eq_none (by simp; omega)]
theorem copyTo_start (a : List Str) : (madeCells (Value.string ⟨#[]⟩).cells (a.length * 1)).toList = copyTo a 0 := by
  apply List.ext_getElem?
  intro i
  unfold copyTo
  by_cases hi : i < a.length
  · rw [List.getElem?_map, List.getElem?_range hi]
    simp [madeCells, hi, Value.cells, Nat.mod_one]
  · rw [List.getElem?_eq_none (by simp [size_madeCells]; omega), List.getElem?_eq_none (by simp; omega)]
theorem toStringS_any (A : Option Addr) (c : Nat) (a : List Str) (w : World) (h : Reads w w.heap.size 1 A a.length (a.map sv)) (hn : a.length ≤ 2 ^ 32) :
    Calls Tryz.prog 19 #[.slice A a.length c] w fun e w' => ∃ v, e = .returned v ∧ w'.ownsRow w.heap.size 9 1 v a.length (a.map sv) ∧ Below w.heap.size w w' := by
  have hst := Lib.hid (copyTo_step a)
  have hen := Lib.hid (copyTo_end a)
  have hcl := Lib.hid (copyTo_length a)
  have hs0 := Lib.hid (copyTo_start a)
  have hi0 : (Tryz.prog.info? 9).map (fun i => (i.zero, i.size, i.bytes)) = some (some (.string ⟨#[]⟩), 1, 16) := by kernel_rfl
  obtain ⟨i, hi, hi2⟩ := Option.map_eq_some_iff.1 hi0
  simp only [Prod.mk.injEq] at hi2
  have hi1 : i.zero = some (.string ⟨#[]⟩) ∧ i.size = 1 ∧ i.bytes = 16 := hi2
  clear hi0 hi2
  have hmx : a.length ≤ maxLen := by unfold maxLen; omega
  have hby : i.bytes * a.length ≤ 281474976710656 := by rw [hi1.2.2]; omega
  go_enter Tryz.func19, Tryz.ntmps19
  go_wp2_with (refine wpList_make_full _ rfl (.tmp 6) (.tmp 6) 22 rfl w.heap.size 9 i (.string ⟨#[]⟩) 1 Tryz.underlying22 hi hi1.1 hi1.2.1 .i64 .i64 (a.length : Int) (a.length : Int) a.length rfl rfl rfl rfl hby hmx (Nat.le_refl _) ?_; intro w1 own1 hg1)
  rw [hs0.out] at own1
  have hb1 : Below w.heap.size w w1 := ⟨hg1.os, hg1.tape, hg1.output, hg1.size, fun k hk => hg1.block k hk (by simp)⟩
  clear hs0 hi hi1 hmx hby hg1
  go_loopw [4] (fun i wr => ∃ j : Nat, j ≤ a.length ∧ i = .int .i64 j ∧ wr.ownsRow w.heap.size 9 1 (.slice (some ⟨w.heap.size, 0, none⟩) a.length a.length) a.length (copyTo a j) ∧ Below w.heap.size w wr) (fun i _ => a.length - (intOf i).toNat)
  case atStart => exact ⟨0, by omega, rfl, own1, hb1⟩
  case round =>
    clear own1 hb1
    obtain ⟨j, hj, rfl, own, hb⟩ := hrel
    by_cases hjl : j < a.length
    · obtain ⟨ad, rfl, hd1, hc1⟩ := (h.below hb).el hjl
      have hstep := Lib.hid (hst.out j hjl)
      obtain ⟨x, hx⟩ : ∃ x, x = a[j] := ⟨_, rfl⟩
      rw [← hx] at hc1 hstep
      clear hx
      have hjj : (j : Int) < (a.length : Int) := by omega
      have hj0 : (0 : Int) ≤ (j : Int) := by omega
      have hcj := own.cellAt j (by omega)
      have hlen : j < (copyTo a j).length := by rw [hcl.out]; exact hjl
      rw [List.getElem?_eq_getElem hlen] at hcj
      obtain ⟨y, hy⟩ : ∃ y, y = (copyTo a j)[j] := ⟨_, rfl⟩
      rw [← hy] at hcj
      clear hy hlen
      have hfj := own.frozenAt j
      obtain ⟨own', hg'⟩ := own.stored j (sv x)
      rw [hstep.out] at own'
      have hb' := hb.setCell (p := ⟨w.heap.size, j, none⟩) (Nat.le_refl _) (sv x)
      go_wp2_with (fail)
      go_roundw
      case rel => exact ⟨j + 1, by omega, by go_num, own', hb'⟩
      case measure => simp only [intOf]; omega
    · obtain rfl : j = a.length := by omega
      rw [hen.out] at own
      go_wp2_with (fail)
      go_ret
      exact ⟨_, rfl, own, hb⟩
theorem toLexicon_any (A : Option Addr) (c : Nat) (a : List Str) (w : World) (h : Reads w w.heap.size 1 A a.length (a.map sv)) (hn : a.length ≤ 2 ^ 32) :
    Calls Tryz.prog 7 #[.agg #[.slice A a.length c]] w fun e w' => ∃ v, e = .returned (.agg #[v]) ∧ w'.ownsRow w.heap.size 9 1 v a.length (a.map sv) ∧ Below w.heap.size w w' := by
  have k1 := fun (W : World) (hW : Below w.heap.size w W) => toStringS_any A c a W ((h.below hW).more hW.size) hn
  obtain ⟨V, hV⟩ : ∃ V, V = a.map sv := ⟨_, rfl⟩
  rw [← hV] at k1 ⊢
  clear hV h
  obtain ⟨W, hW⟩ : ∃ W, W = ((w.alloc (.cells #[.slice A a.length c] 24)).alloc (.cells #[.slice none 0 0] 31)).alloc (.cells #[.slice none 0 0] 31) := ⟨_, rfl⟩
  have hb : Below w.heap.size w W := by rw [hW]; exact (((Below.refl _ _).alloc (Nat.le_refl _) _).alloc (by simp) _).alloc (by simp; omega) _
  have hB1 : Blk W (w.heap.size + 1) 31 #[.slice none 0 0] := by rw [hW]; exact (Blk.new1 w _ _ _).alloc _
  have hB2 : Blk W (w.heap.size + 1 + 1) 31 #[.slice none 0 0] := by rw [hW]; exact Blk.new2 w _ _ _ _
  have hz : W.heap.size = w.heap.size + 3 := by rw [hW]; simp
  go_enter Tryz.func7, Tryz.ntmps7
  go_wp2_with (go_at_call 19; rw [← hW]; refine (k1 _ hb).mono ?_; rintro e w1 ⟨v, rfl, own, hb1⟩
               obtain ⟨A1, c1, rfl, hc1, -⟩ := own_sl own
               have hC1 := hB1.below hb1 hB1.lt
               have hC2 := hB2.below hb1 hB2.lt
               have x1 : w1.cell? ⟨w.heap.size + 1, 0, none⟩ = some (.slice none 0 0) := hC1.cell 0
               have x2 : w1.cell? ⟨w.heap.size + 1 + 1, 0, none⟩ = some (.slice none 0 0) := hC2.cell 0
               have y1 := hC1.frozen 0
               have y2 := hC2.frozen 0
               have z1 := hC1.lt
               have z2 := hC2.lt)
  have hb2 := hb.trans (hb1.mono hb.size)
  have o1 := own_far own (p := ⟨w.heap.size + 1 + 1, 0, none⟩) (own_blk_ne own hC2 (by decide)) (.slice A1 a.length c1)
  have hD1 := hC1.far (p := ⟨w.heap.size + 1 + 1, 0, none⟩) (by simp) (.slice A1 a.length c1)
  have o2 := own_far o1 (p := ⟨w.heap.size + 1, 0, none⟩) (own_blk_ne o1 hD1 (by decide)) (.slice A1 a.length c1)
  have hb3 := (hb2.setCell (p := ⟨w.heap.size + 1 + 1, 0, none⟩) (by simp; omega) (.slice A1 a.length c1)).setCell (p := ⟨w.heap.size + 1, 0, none⟩) (by simp) (.slice A1 a.length c1)
  exact ret_row (by rfl) (w.heap.size + 1) 31 #[.slice A1 a.length c1] _ rfl (hD1.set_ 0 _) Tryz.underlying31 rfl (by kernel_rfl) rfl ⟨_, rfl, own_base o2 hb.size, hb3⟩
end Go.Proofs.YtamdcbbclkobiaaGreatDoor
/-
  Contracts: marks laid into a list of strings, into a lexicon (the laws package).
  Conditions: the list is the caller's own; a number of common size.
-/
namespace Go.Proofs.YtamdcbbclkobiaaGreatDoor
open Go.RowKit RegP RegL RegV
set_option maxHeartbeats 2000000
set_option maxRecDepth 100000

/-- The marks. -/
def marks (k n : Nat) : List Str := (List.range n).map fun i => markT (k + i)
theorem marks_length (k n : Nat) : (marks k n).length = n := by simp [marks]
theorem marks_cons (k n : Nat) : marks k (n + 1) = markT k :: marks (k + 1) n := by
  unfold marks
  rw [List.range_succ_eq_map, List.map_cons, List.map_map]
  congr 1
  refine List.map_congr_left fun i _ => ?_
  show markT (k + (i + 1)) = markT (k + 1 + i)
  congr 1
  omega
theorem heldB_marks : ∀ (n k : Nat), heldB (marks k n) k = true
  | 0, _ => rfl
  | n + 1, k => by
    rw [marks_cons, heldB, heldB_marks n (k + 1)]
    simp
/-- A list, some marks laid into it. -/
def markTo (a : List Str) (k j : Nat) : List Value := (List.range a.length).map fun i => if i < j then sv (markT (k + i)) else sv (a.getD i [])
theorem markTo_length (a : List Str) (k j : Nat) : (markTo a k j).length = a.length := by simp [markTo]
theorem markTo_step (a : List Str) (k j : Nat) (h : j < a.length) : (markTo a k j).set j (sv (markT (k + j))) = markTo a k (j + 1) := by
  apply List.ext_getElem?
  intro i
  unfold markTo
  rw [List.getElem?_set]
  by_cases hij : j = i
  · subst hij
    rw [if_pos rfl, List.length_map, List.length_range, if_pos h, List.getElem?_map, List.getElem?_range h]
    simp
  · rw [if_neg hij]
    by_cases hi : i < a.length
    · rw [List.getElem?_map, List.getElem?_map, List.getElem?_range hi]
      have : (i < j) = (i < j + 1) := by rw [eq_iff_iff]; omega
      simp only [Option.map_some, this]
    · rw [List.getElem?_eq_none (by simp; omega), List.getElem?_eq_none (by simp; omega)]
theorem markTo_end (a : List Str) (k : Nat) : markTo a k a.length = (marks k a.length).map sv := by
  unfold markTo marks
  rw [List.map_map]
  refine List.map_congr_left fun i hi => ?_
  rw [if_pos (List.mem_range.1 hi)]
  rfl
theorem markTo_start (a : List Str) (k : Nat) : markTo a k 0 = a.map sv := by
  apply List.ext_getElem?
  intro i
  unfold markTo
  by_cases hi : i < a.length
  · rw [List.getElem?_map, List.getElem?_range hi, List.getElem?_map, List.getElem?_eq_getElem hi]
    simp [List.getD_eq_getElem?_getD, hi]
  · rw [List.getElem?_eq_none (by simp; omega), List.getElem?_eq_none (by simp; omega)]
theorem grown_set {W w : World} {g : Nat} (h : W.grownBy w (some g)) (j : Nat) (u : Value) : W.grownBy (w.setCell ⟨g, j, none⟩ u) (some g) :=
  ⟨h.os, h.tape, h.output, by simpa using h.size, fun k hk hne => (Below.heap_setCell w ⟨g, j, none⟩ u k (fun e => hne (by rw [e]))).trans (h.block k hk hne)⟩
theorem grown_call {W w w' : World} {r : Option Nat} (h : W.grownBy w r) (hb : Below w.heap.size w w') : W.grownBy w' r :=
  ⟨hb.os.trans h.os, hb.tape.trans h.tape, hb.output.trans h.output, Nat.le_trans h.size hb.size, fun k hk hne => (hb.block k (Nat.lt_of_lt_of_le hk h.size)).trans (h.block k hk hne)⟩
theorem markStringS_any (v : Value) (a : List Str) (k base : Nat) (w : World) (own0 : w.ownsRow base 9 1 v a.length (a.map sv)) (hn : a.length ≤ 2 ^ 32) (hk : k ≤ 2 ^ 32) (h0 : 0 < k) :
    Calls Tryz.prog 13 #[v, .int .i64 k] w fun e w' => e = .returned (.int .i64 ((k + a.length : Nat) : Int)) ∧ w'.ownsRow base 9 1 v a.length ((marks k a.length).map sv) ∧ w.grownBy w' v.ownBlock := by
  have hst := Lib.hid (markTo_step a k)
  have hen := Lib.hid (markTo_end a k)
  have hcl := Lib.hid (markTo_length a k)
  rw [← markTo_start a k] at own0
  obtain ⟨R, hR⟩ : ∃ R : Int, R = ((k + a.length : Nat) : Int) := ⟨_, rfl⟩
  rw [← hR]
  have hR' := Lib.hid hR
  clear hR
  rcases Nat.eq_zero_or_pos a.length with hz | hz
  · obtain ⟨A, c, hv, -, -⟩ := own_sl own0
    rw [hz] at hv
    subst hv
    have hRk : R = (k : Int) := by rw [hR'.out, hz]; rfl
    have hres : w.ownsRow base 9 1 (.slice A 0 c) a.length ((marks k a.length).map sv) := by rw [← hen.out, hz]; rw [hz] at own0; exact own0
    clear own0
    go_enter Tryz.func13, Tryz.ntmps13
    go_wp2_with (fail)
    go_loopw [1, 5] (fun kv i wr => kv = .int .i64 (k : Int) ∧ i = .int .i64 0 ∧ wr = w) (fun _ _ _ => 0)
    case atStart => exact ⟨rfl, rfl, rfl⟩
    case round =>
      obtain ⟨rfl, rfl, rfl⟩ := hrel
      go_wp2_with (fail)
      go_ret
      exact ⟨ret_int hRk.symm, hres, ⟨rfl, rfl, rfl, Nat.le_refl _, fun _ _ _ => rfl⟩⟩
  · obtain ⟨g, cap, hv, hbg, hlt⟩ := own0.form hz
    subst hv
    clear hz
    have hgr0 : w.grownBy w (some g) := ⟨rfl, rfl, rfl, Nat.le_refl _, fun _ _ _ => rfl⟩
    go_enter Tryz.func13, Tryz.ntmps13
    go_wp2_with (fail)
    go_loopw [1, 5] (fun kv i wr => ∃ j : Nat, j ≤ a.length ∧ i = .int .i64 j ∧ kv = .int .i64 ((k + j : Nat) : Int) ∧ wr.ownsRow base 9 1 (.slice (some ⟨g, 0, none⟩) a.length cap) a.length (markTo a k j) ∧ w.grownBy wr (some g)) (fun _ i _ => a.length - (intOf i).toNat)
    case atStart => exact ⟨0, by omega, rfl, rfl, own0, hgr0⟩
    case round =>
      clear own0 hgr0
      obtain ⟨j, hj, rfl, rfl, own, hgr⟩ := hrel
      by_cases hjl : j < a.length
      · have hstep := Lib.hid (hst.out j hjl)
        have km := fun w => markText_any (k + j) w (by omega) (by omega)
        obtain ⟨y, hy⟩ : ∃ y, y = markT (k + j) := ⟨_, rfl⟩
        rw [← hy] at hstep km
        clear hy
        have hjj : (j : Int) < (a.length : Int) := by omega
        have hj0 : (0 : Int) ≤ (j : Int) := by omega
        obtain ⟨m, hm⟩ : ∃ m : Int, m = ((k + j : Nat) : Int) := ⟨_, rfl⟩
        have hm1 : ((k + (j + 1) : Nat) : Int) = m + 1 := by omega
        have hm2 : 0 ≤ m := by omega
        have hm3 : m ≤ 17179869184 := by omega
        rw [← hm] at km ⊢
        have hm1' := Lib.hid hm1
        clear hm hm1
        have hlen : j < (markTo a k j).length := by rw [hcl.out]; exact hjl
        obtain ⟨z, hz⟩ : ∃ z, z = (markTo a k j)[j] := ⟨_, rfl⟩
        have hcz : (markTo a k j)[j]? = some z := by rw [List.getElem?_eq_getElem hlen, hz]
        clear hz hlen
        go_wp2_with (go_at_call 24; refine (km _).mono ?_; rintro e w5 ⟨rfl, hb5⟩
                     have own5 := own_call own hb5
                     have hcj : w5.cell? ⟨g, j, none⟩ = some z := (own5.cellAt j (by omega)).trans hcz
                     have hfj := own5.frozenAt j)
        have hs := (own5.stored j (sv y)).1
        rw [hstep.out] at hs
        go_roundw
        case rel => exact ⟨j + 1, by omega, by go_num, by rw [hm1'.out], hs, grown_set (grown_call hgr hb5) j _⟩
        case measure => simp only [intOf]; omega
      · obtain rfl : j = a.length := by omega
        rw [hen.out] at own
        go_wp2_with (fail)
        go_ret
        exact ⟨ret_int (by rw [hR'.out]), own, hgr⟩
theorem markLexicon_any (v : Value) (a : List Str) (k base : Nat) (w : World) (own0 : w.ownsRow base 9 1 v a.length (a.map sv)) (hn : a.length ≤ 2 ^ 32) (hk : k ≤ 2 ^ 32) (h0 : 0 < k) :
    Calls Tryz.prog 12 #[.agg #[v], .int .i64 k] w fun e w' => e = .returned (.int .i64 ((k + a.length : Nat) : Int)) ∧ w'.ownsRow base 9 1 v a.length ((marks k a.length).map sv) ∧ w.grownBy w' v.ownBlock := by
  have k1 := fun (W : World) (hW : W.ownsRow base 9 1 v a.length (a.map sv)) => markStringS_any v a k base W hW hn hk h0
  obtain ⟨M, hM⟩ : ∃ M, M = (marks k a.length).map sv := ⟨_, rfl⟩
  obtain ⟨V, hV⟩ : ∃ V, V = a.map sv := ⟨_, rfl⟩
  rw [← hM, ← hV] at k1
  rw [← hM]
  rw [← hV] at own0
  clear hM hV
  obtain ⟨R, hR⟩ : ∃ R : Int, R = ((k + a.length : Nat) : Int) := ⟨_, rfl⟩
  rw [← hR] at k1 ⊢
  clear hR
  obtain ⟨A, c, rfl, -, -⟩ := own_sl own0
  obtain ⟨W, hW⟩ : ∃ W, W = w.alloc (.cells #[.slice A a.length c] 31) := ⟨_, rfl⟩
  have own1 : W.ownsRow base 9 1 (.slice A a.length c) a.length V := by rw [hW]; exact own_call own0 ((Below.refl _ _).alloc (Nat.le_refl _) _)
  have hz : w.heap.size ≤ W.heap.size := by rw [hW]; simp
  have hbk : ∀ k, k < w.heap.size → W.heap[k]? = w.heap[k]? := fun k hk => by rw [hW]; exact Below.heap_alloc w _ k hk
  have ho : W.os = w.os ∧ W.tape = w.tape ∧ W.output = w.output := by rw [hW]; exact ⟨rfl, rfl, rfl⟩
  go_enter Tryz.func12, Tryz.ntmps12
  go_wp2_with (go_at_call 13; rw [← hW]; refine (k1 _ own1).mono ?_; rintro e w1 ⟨rfl, own2, hg⟩)
  go_ret
  exact ⟨rfl, own2, ⟨hg.os.trans ho.1, hg.tape.trans ho.2.1, hg.output.trans ho.2.2, Nat.le_trans hz hg.size, fun k hk hne => (hg.block k (Nat.lt_of_lt_of_le hk hz) hne).trans (hbk k hk)⟩⟩
end Go.Proofs.YtamdcbbclkobiaaGreatDoor
/-
  The state of the law's regions that call a function of three arguments: a copied lexicon, the answer, its parts.
  Conditions: none.
-/
namespace Go.Proofs.YtamdcbbclkobiaaGreatDoor
open Go.RowKit RegP RegL RegV

/-- The first of two results. -/
def fstV : Value → Value
  | .tuple a => a.getD 0 undef
  | _ => undef
theorem fstV_two (v u : Value) : fstV (.tuple #[v, u]) = v := rfl
/-- The answer's list. -/
def ansL (C : Int) (M : List Str) : List Str := if C = 0 then M else []
structure SQ (W : World) (n : Nat) (V : List Value) (iL ic : Nat) (C : Int) (M : List Str) (σ : Nat → Value) (L : Nat → Bool) (w : World) : Prop where
  low : Below W.heap.size W w
  lex : L iL = true → ∃ v, σ iL = .agg #[v] ∧ w.ownsRow W.heap.size 9 1 v n V
  call : L ic = true → ∃ v, σ ic = .tuple #[v, .int .i64 C] ∧ w.ownsRow W.heap.size 9 1 v (ansL C M).length ((ansL C M).map sv)
  mv : L (ic + 1) = true → L ic = true ∧ σ (ic + 1) = σ ic
  e0 : L (ic + 2) = true → L ic = true ∧ σ (ic + 2) = fstV (σ ic)
  a0 : L (ic + 4) = true → L ic = true ∧ σ (ic + 4) = fstV (σ ic)
section
variable {W w w' : World} {n : Nat} {V : List Value} {iL ic i : Nat} {C : Int} {M : List Str} {σ : Nat → Value} {L : Nat → Bool}
theorem SQ.start : SQ W n V iL ic C M σ (fun _ => false) W.drew := ⟨(Below.refl _ _).drew, (fun h => by cases h), (fun h => by cases h), (fun h => by cases h), (fun h => by cases h), (fun h => by cases h)⟩
theorem SQ.below (h : SQ W n V iL ic C M σ L w) (hb : Below w.heap.size w w') : SQ W n V iL ic C M σ L w' :=
  ⟨h.low.trans (hb.mono h.low.size), fun e => by
    obtain ⟨v, h1, h2⟩ := h.lex e
    exact ⟨v, h1, own_call h2 hb⟩, fun e => by
    obtain ⟨v, h1, h2⟩ := h.call e
    exact ⟨v, h1, own_call h2 hb⟩, h.mv, h.e0, h.a0⟩
theorem SQ.keep (h : SQ W n V iL ic C M σ L w) (h1 : i ≠ iL) (h2 : i < ic ∨ i = ic + 3 ∨ ic + 4 < i) : SQ W n V iL ic C M σ (upd L i) w :=
  ⟨h.low, fun e => h.lex (by rwa [upd_ne L h1.symm] at e), fun e => h.call (by rwa [upd_ne L (by omega)] at e), fun e => by
    rw [upd_ne L (by omega)] at e; rw [upd_ne L (by omega)]; exact h.mv e, fun e => by
    rw [upd_ne L (by omega)] at e; rw [upd_ne L (by omega)]; exact h.e0 e, fun e => by
    rw [upd_ne L (by omega)] at e; rw [upd_ne L (by omega)]; exact h.a0 e⟩
theorem SQ.putL (h : SQ W n V iL ic C M σ L w) (hi : iL < ic) (hb : Below w.heap.size w w') {u : Value} (hu : ∃ v, u = .agg #[v] ∧ w'.ownsRow W.heap.size 9 1 v n V) : SQ W n V iL ic C M (sub σ iL u) (upd L iL) w' := by
  have h := h.below hb
  refine ⟨h.low, fun _ => by rw [sub_same]; exact hu, fun e => ?_, fun e => ?_, fun e => ?_, fun e => ?_⟩
  · rw [upd_ne L (by omega)] at e; rw [sub_ne _ _ (by omega)]; exact h.call e
  · rw [upd_ne L (by omega)] at e; rw [upd_ne L (by omega), sub_ne _ _ (by omega), sub_ne _ _ (by omega)]; exact h.mv e
  · rw [upd_ne L (by omega)] at e; rw [upd_ne L (by omega), sub_ne _ _ (by omega), sub_ne _ _ (by omega)]; exact h.e0 e
  · rw [upd_ne L (by omega)] at e; rw [upd_ne L (by omega), sub_ne _ _ (by omega), sub_ne _ _ (by omega)]; exact h.a0 e
theorem SQ.putC (h : SQ W n V iL ic C M σ L w) (hi : iL < ic ∨ ic + 4 < iL) (hL : L ic = false) (hb : Below w.heap.size w w') {u : Value} (hu : ∃ v, u = .tuple #[v, .int .i64 C] ∧ w'.ownsRow W.heap.size 9 1 v (ansL C M).length ((ansL C M).map sv)) : SQ W n V iL ic C M (sub σ ic u) (upd L ic) w' := by
  have h := h.below hb
  refine ⟨h.low, fun e => ?_, fun _ => by rw [sub_same]; exact hu, fun e => ?_, fun e => ?_, fun e => ?_⟩
  · rw [upd_ne L (by omega)] at e; rw [sub_ne _ _ (by omega)]; exact h.lex e
  · rw [upd_ne L (by omega)] at e; rw [(h.mv e).1] at hL; cases hL
  · rw [upd_ne L (by omega)] at e; rw [(h.e0 e).1] at hL; cases hL
  · rw [upd_ne L (by omega)] at e; rw [(h.a0 e).1] at hL; cases hL
theorem SQ.putM (h : SQ W n V iL ic C M σ L w) (hi : iL < ic ∨ ic + 4 < iL) (hc : L ic = true) {u : Value} (hu : u = σ ic) : SQ W n V iL ic C M (sub σ (ic + 1) u) (upd L (ic + 1)) w := by
  subst hu
  refine ⟨h.low, fun e => ?_, fun e => ?_, fun _ => ?_, fun e => ?_, fun e => ?_⟩
  · rw [upd_ne L (by omega)] at e; rw [sub_ne _ _ (by omega)]; exact h.lex e
  · rw [upd_ne L (by omega)] at e; rw [sub_ne _ _ (by omega)]; exact h.call e
  · rw [upd_ne L (by omega), sub_same, sub_ne _ _ (by omega)]; exact ⟨hc, rfl⟩
  · rw [upd_ne L (by omega)] at e; rw [upd_ne L (by omega), sub_ne _ _ (by omega), sub_ne _ _ (by omega)]; exact h.e0 e
  · rw [upd_ne L (by omega)] at e; rw [upd_ne L (by omega), sub_ne _ _ (by omega), sub_ne _ _ (by omega)]; exact h.a0 e
theorem SQ.putE (h : SQ W n V iL ic C M σ L w) (hi : iL < ic ∨ ic + 4 < iL) (hc : L ic = true) {u : Value} (hu : u = fstV (σ ic)) : SQ W n V iL ic C M (sub σ (ic + 2) u) (upd L (ic + 2)) w := by
  subst hu
  refine ⟨h.low, fun e => ?_, fun e => ?_, fun e => ?_, fun _ => ?_, fun e => ?_⟩
  · rw [upd_ne L (by omega)] at e; rw [sub_ne _ _ (by omega)]; exact h.lex e
  · rw [upd_ne L (by omega)] at e; rw [sub_ne _ _ (by omega)]; exact h.call e
  · rw [upd_ne L (by omega)] at e; rw [upd_ne L (by omega), sub_ne _ _ (by omega), sub_ne _ _ (by omega)]; exact h.mv e
  · rw [upd_ne L (by omega), sub_same, sub_ne _ _ (by omega)]; exact ⟨hc, rfl⟩
  · rw [upd_ne L (by omega)] at e; rw [upd_ne L (by omega), sub_ne _ _ (by omega), sub_ne _ _ (by omega)]; exact h.a0 e
theorem SQ.putA (h : SQ W n V iL ic C M σ L w) (hi : iL < ic ∨ ic + 4 < iL) (hc : L ic = true) {u : Value} (hu : u = fstV (σ ic)) : SQ W n V iL ic C M (sub σ (ic + 4) u) (upd L (ic + 4)) w := by
  subst hu
  refine ⟨h.low, fun e => ?_, fun e => ?_, fun e => ?_, fun e => ?_, fun _ => ?_⟩
  · rw [upd_ne L (by omega)] at e; rw [sub_ne _ _ (by omega)]; exact h.lex e
  · rw [upd_ne L (by omega)] at e; rw [sub_ne _ _ (by omega)]; exact h.call e
  · rw [upd_ne L (by omega)] at e; rw [upd_ne L (by omega), sub_ne _ _ (by omega), sub_ne _ _ (by omega)]; exact h.mv e
  · rw [upd_ne L (by omega)] at e; rw [upd_ne L (by omega), sub_ne _ _ (by omega), sub_ne _ _ (by omega)]; exact h.e0 e
  · rw [upd_ne L (by omega), sub_same, sub_ne _ _ (by omega)]; exact ⟨hc, rfl⟩
end
/-- The answer of MainWords, as one list. -/
theorem MainPost.ans {w w' : World} {b : Bd} {ws : List Str} {rack : Str} {e : Ending} (h : MainPost w b ws rack e w') :
    ∃ v, e = .returned (.tuple #[v, .int .i64 (playsCode b ws rack)]) ∧ w'.ownsRow w.heap.size 9 1 v (ansL (playsCode b ws rack) (mainL b ws rack)).length ((ansL (playsCode b ws rack) (mainL b ws rack)).map sv) ∧ Below w.heap.size w w' := by
  obtain ⟨v, h1, h2, h3, h4⟩ := h
  refine ⟨v, h1, ?_, h4⟩
  unfold ansL
  by_cases hc : playsCode b ws rack = 0
  · rw [if_pos hc]; exact h2 hc
  · rw [if_neg hc, h3 hc]
    exact ⟨rfl, .inl ⟨rfl, rfl⟩⟩
theorem szGo_bd : ∀ (a : List Str) (l : Int), 0 ≤ szGo a l → (∀ x ∈ a, (x.length : Int) ≤ l) ∧ szGo a l ≤ l
  | [], l, h => ⟨fun x hx => (by cases hx), Int.le_refl _⟩
  | x :: r, l, h => by
    rw [szGo] at h ⊢
    split at h
    · omega
    · rename_i hl
      rw [if_neg hl]
      obtain ⟨h1, h2⟩ := szGo_bd r _ h
      refine ⟨fun y hy => ?_, by omega⟩
      rcases List.mem_cons.1 hy with e | hy
      · subst e; omega
      · have := h1 y hy; omega
theorem szS_bd {a : List Str} {l : Int} (h : 0 ≤ szS a l) : (a.length : Int) ≤ l ∧ (∀ x ∈ a, (x.length : Int) ≤ l) ∧ szS a l ≤ l := by
  unfold szS at h ⊢
  split at h
  · omega
  · rename_i hl
    rw [if_neg hl]
    obtain ⟨h1, h2⟩ := szGo_bd a _ h
    exact ⟨by omega, fun x hx => by have := h1 x hx; omega, by omega⟩
theorem szB_bd {b : Bd} {l : Int} (h : 0 ≤ szB b l) : (b.prem.length : Int) ≤ l ∧ (b.cells.length : Int) ≤ l := by
  unfold szB at h
  split at h
  · omega
  · split at h
    · omega
    · omega
theorem ansL_len {C : Int} {b : Bd} {ws : List Str} {rack : Str} (hC : C = playsCode b ws rack) : (ansL C (mainL b ws rack)).length ≤ 400 := by
  unfold ansL
  split
  · rename_i h0
    rw [hC] at h0
    unfold playsCode at h0
    split at h0
    · split at h0
      · cases h0
      · rw [mainL_found]
        refine Nat.le_trans (canon_length _) ?_
        rw [List.length_map]
        omega
    · cases h0
  · simp
end Go.Proofs.YtamdcbbclkobiaaGreatDoor
