/-
  What stands ahead of the ways to make a word: the memory of the search; Contracts: the comparisons of the library that the comparison of plays calls; Contract: the comparison of plays (layers 12 and 15 of the impl package); Contract: the comparison of plays as slices.SortFunc takes it (layer 15 of the impl package); Contract: slices.SortFunc at plays (layer 16 of the impl package); Contracts: whether a lexicon has a word, the wrong words of a play (layers 5 and 12 of the impl package).
  Conditions: as each part below says.
-/
import Derived.Test.YtamdcbbclkobiaaGreatDoorM04
import Derived.Test.YtamdcbbclkobiaaGreatDoorM09
import Derived.Test.YtamdcbbclkobiaaGreatDoorM13
import Derived.Lib.OthersKept
import Derived.Test.YtamdcbbclkobiaaGreatDoorM03
import Derived.Shelf.SlSortCmp.NoneTotal
import Derived.Test.YtamdcbbclkobiaaGreatDoorM10
import Derived.Test.YtamdcbbclkobiaaGreatDoorM15
import Derived.Test.YtamdcbbclkobiaaGreatDoorM11
import Derived.Lib.Builder
import Derived.Lib.UnsafeStr
import Derived.Laws.Externs
import Derived.RegionTactic
import Derived.Laws.Rows
import Derived.Laws.Tables
/-
  What stands ahead of the ways to make a word: the memory of the search.
  Conditions: none.
-/
namespace Go.Proofs.YtamdcbbclkobiaaGreatDoor
open Go.RowKit RegP RegL RegV

/-- All ways to place a word, the head of it being placed. -/
def waysR : List Int → Str → Str → List Str
  | _, pre, [] => [pre]
  | C, pre, x :: r => (if C.getD 0 0 = 0 then [] else waysR (C.set 0 (C.getD 0 0 - 1)) (pre ++ [upC x]) r) ++ (if C.getD (tileK x) 0 = 0 then [] else waysR (C.set (tileK x) (C.getD (tileK x) 0 - 1)) (pre ++ [x]) r)
theorem waysR_length : ∀ (r : Str) (C : List Int) (pre : Str), (waysR C pre r).length ≤ 2 ^ r.length
  | [], _, _ => by simp [waysR]
  | x :: r, C, pre => by
    have h1 := waysR_length r (C.set 0 (C.getD 0 0 - 1)) (pre ++ [upC x])
    have h2 := waysR_length r (C.set (tileK x) (C.getD (tileK x) 0 - 1)) (pre ++ [x])
    rw [waysR, List.length_append, List.length_cons, Nat.pow_succ]
    have key : ∀ (a : Int) (l : List Str), l.length ≤ 2 ^ r.length → (if a = 0 then [] else l).length ≤ 2 ^ r.length := fun a l h => by
      split
      · exact Nat.zero_le _
      · exact h
    have h3 := key (C.getD 0 0) _ h1
    have h4 := key (C.getD (tileK x) 0) _ h2
    omega
/-- The memory of the search. -/
structure WSt (w : World) (gw gy gb gc gf gx cap B : Nat) (word buf : Str) (C : List Int) (o : Value) (ws : List Str) : Prop where
  wd : Blk w gw 9 #[sv word]
  ways : Blk w gy 22 #[o]
  own : w.ownsRow B 9 1 o ws.length (ws.map sv)
  bufp : Blk w gb 57 #[.slice (some ⟨gx, 0, none⟩) word.length cap]
  buf : BRow w B gx 5 (buf.map bv)
  cnt : Blk w gc 62 (cntA C)
  fn : Blk w gf 90 #[.func (.func 64) #[] #[.pointer (some ⟨gw, 0, none⟩), .pointer (some ⟨gy, 0, none⟩), .pointer (some ⟨gb, 0, none⟩), .pointer (some ⟨gc, 0, none⟩), .pointer (some ⟨gf, 0, none⟩)]]
  low : gw < B
theorem BRow.ne_ {w : World} {base g g' : Nat} {e t : TypeId} {xs : List Value} {cs : Array Value} (h : BRow w base g e xs) (h' : Blk w g' t cs) (hne : t ≠ e) : g' ≠ g := by
  rintro rfl
  obtain ⟨_, cur, lo, hi, hh, _⟩ := h
  unfold Blk at h'
  rw [hh] at h'
  injection h' with h'
  injection h' with _ h2 _
  exact hne h2.symm
theorem BRow.ne_own {w : World} {base base' g : Nat} {e e' : TypeId} {xs xs' : List Value} {size n : Nat} {v : Value} (h : BRow w base g e xs) (h' : w.ownsRow base' e' size v n xs') (hne : e' ≠ e) : v.ownBlock ≠ some g := by
  rcases h'.2 with ⟨rfl, _⟩ | ⟨g', cap, cur, rfl, _, hh', _⟩
  · simp [Value.ownBlock]
  · intro e0
    have e0 : g' = g := by simpa [Value.ownBlock] using e0
    subst e0
    obtain ⟨_, cur2, lo, hi, hh, _⟩ := h
    rw [hh] at hh'
    injection hh' with h2
    injection h2 with _ h3 _
    exact hne h3.symm
/-- What a search changes: the ways, the counts, the buffer, and what it makes. -/
structure Fr (w w' : World) (gy gc gx : Nat) (o : Value) : Prop where
  os : w'.os = w.os
  tape : w'.tape = w.tape
  output : w'.output = w.output
  size : w.heap.size ≤ w'.heap.size
  block : ∀ k, k < w.heap.size → k ≠ gy → k ≠ gc → k ≠ gx → some k ≠ o.ownBlock → w'.heap[k]? = w.heap[k]?
section
variable {w w' w1 w2 : World} {gw gy gb gc gf gx cap B : Nat} {word buf : Str} {C : List Int} {o o1 : Value} {ws : List Str}
theorem Fr.refl : Fr w w gy gc gx o := ⟨rfl, rfl, rfl, Nat.le_refl _, fun _ _ _ _ _ _ => rfl⟩
theorem Fr.trans (h : Fr w w1 gy gc gx o) (h2 : Fr w1 w2 gy gc gx o1) (ho : o1.ownBlock = o.ownBlock ∨ ∃ k, o1.ownBlock = some k ∧ w.heap.size ≤ k) : Fr w w2 gy gc gx o :=
  ⟨h2.os.trans h.os, h2.tape.trans h.tape, h2.output.trans h.output, Nat.le_trans h.size h2.size, fun k hk a b c d => (h2.block k (Nat.lt_of_lt_of_le hk h.size) a b c (fun e => by
    rcases ho with e1 | ⟨j, e1, hj⟩
    · exact d (e.trans e1)
    · rw [e1] at e; injection e with e; omega)).trans (h.block k hk a b c d)⟩
theorem Fr.alloc (h : Fr w w1 gy gc gx o) (ob : Obj) : Fr w (w1.alloc ob) gy gc gx o :=
  ⟨h.os, h.tape, h.output, by simpa using Nat.le_succ_of_le h.size, fun k hk a b c d => (Below.heap_alloc w1 ob k (Nat.lt_of_lt_of_le hk h.size)).trans (h.block k hk a b c d)⟩
theorem Fr.drew (h : Fr w w1 gy gc gx o) : Fr w w1.drew gy gc gx o := ⟨h.os, h.tape, h.output, h.size, h.block⟩
theorem Fr.setCell (h : Fr w w1 gy gc gx o) {p : Addr} (hp : p.block = gy ∨ p.block = gc ∨ p.block = gx ∨ w.heap.size ≤ p.block) (u : Value) : Fr w (w1.setCell p u) gy gc gx o :=
  ⟨h.os, h.tape, h.output, by simpa using h.size, fun k hk a b c d => (Below.heap_setCell w1 p u k (fun e => by subst e; omega)).trans (h.block k hk a b c d)⟩
theorem Fr.below (h : Fr w w1 gy gc gx o) (hb : Below w1.heap.size w1 w2) : Fr w w2 gy gc gx o :=
  ⟨hb.os.trans h.os, hb.tape.trans h.tape, hb.output.trans h.output, Nat.le_trans h.size hb.size, fun k hk a b c d => (hb.block k (Nat.lt_of_lt_of_le hk h.size)).trans (h.block k hk a b c d)⟩
theorem Fr.grown (h : Fr w w1 gy gc gx o) (hg : w1.grownBy w2 o1.ownBlock) (ho : o1.ownBlock = o.ownBlock ∨ ∃ k, o1.ownBlock = some k ∧ w.heap.size ≤ k) : Fr w w2 gy gc gx o :=
  ⟨hg.os.trans h.os, hg.tape.trans h.tape, hg.output.trans h.output, Nat.le_trans h.size hg.size, fun k hk a b c d => (hg.block k (Nat.lt_of_lt_of_le hk h.size) (fun e => by
    rcases ho with e1 | ⟨j, e1, hj⟩
    · exact d (e.trans e1)
    · rw [e1] at e; injection e with e; omega)).trans (h.block k hk a b c d)⟩
theorem Fr.blk (h : Fr w w1 gy gc gx o) {g t : Nat} {cs : Array Value} (hb : Blk w g t cs) (h1 : g ≠ gy) (h2 : g ≠ gc) (h3 : g ≠ gx) (h4 : some g ≠ o.ownBlock) : Blk w1 g t cs := (h.block g hb.lt h1 h2 h3 h4).trans hb
theorem WSt.ne (h : WSt w gw gy gb gc gf gx cap B word buf C o ws) : (gw ≠ gy ∧ gw ≠ gb ∧ gw ≠ gc ∧ gw ≠ gf ∧ gw ≠ gx) ∧ (gy ≠ gb ∧ gy ≠ gc ∧ gy ≠ gf ∧ gy ≠ gx) ∧ (gb ≠ gc ∧ gb ≠ gf ∧ gb ≠ gx) ∧ (gc ≠ gf ∧ gc ≠ gx) ∧ gf ≠ gx :=
  ⟨⟨h.wd.ne_ h.ways (by decide), h.wd.ne_ h.bufp (by decide), h.wd.ne_ h.cnt (by decide), h.wd.ne_ h.fn (by decide), h.buf.ne_ h.wd (by decide)⟩, ⟨h.ways.ne_ h.bufp (by decide), h.ways.ne_ h.cnt (by decide), h.ways.ne_ h.fn (by decide), h.buf.ne_ h.ways (by decide)⟩, ⟨h.bufp.ne_ h.cnt (by decide), h.bufp.ne_ h.fn (by decide), h.buf.ne_ h.bufp (by decide)⟩, ⟨h.cnt.ne_ h.fn (by decide), h.buf.ne_ h.cnt (by decide)⟩, h.buf.ne_ h.fn (by decide)⟩
theorem WSt.ownNe (h : WSt w gw gy gb gc gf gx cap B word buf C o ws) : o.ownBlock ≠ some gw ∧ o.ownBlock ≠ some gy ∧ o.ownBlock ≠ some gb ∧ o.ownBlock ≠ some gc ∧ o.ownBlock ≠ some gf ∧ o.ownBlock ≠ some gx :=
  ⟨fun e => by have := (h.own.lt _ e).1; have := h.low; omega, own_blk_ne h.own h.ways (by decide), own_blk_ne h.own h.bufp (by decide), own_blk_ne h.own h.cnt (by decide), own_blk_ne h.own h.fn (by decide), h.buf.ne_own h.own (by decide)⟩
theorem WSt.below (h : WSt w gw gy gb gc gf gx cap B word buf C o ws) (hb : Below w.heap.size w w1) : WSt w1 gw gy gb gc gf gx cap B word buf C o ws :=
  ⟨h.wd.below hb h.wd.lt, h.ways.below hb h.ways.lt, own_call h.own hb, h.bufp.below hb h.bufp.lt, h.buf.below hb h.buf.lt, h.cnt.below hb h.cnt.lt, h.fn.below hb h.fn.lt, h.low⟩
theorem WSt.cset (h : WSt w gw gy gb gc gf gx cap B word buf C o ws) (k : Nat) (v : Int) : WSt (w.setCell ⟨gc, k, none⟩ (.int .i64 v)) gw gy gb gc gf gx cap B word buf (C.set k v) o ws := by
  obtain ⟨⟨a1, a2, a3, a4, a5⟩, ⟨b1, b2, b3, b4⟩, ⟨c1, c2, c3⟩, ⟨d1, d2⟩, e1⟩ := h.ne
  obtain ⟨o1, o2, o3, o4, o5, o6⟩ := h.ownNe
  refine ⟨h.wd.far (p := ⟨gc, k, none⟩) a3 _, h.ways.far (p := ⟨gc, k, none⟩) b2 _, own_far h.own (p := ⟨gc, k, none⟩) o4 _, h.bufp.far (p := ⟨gc, k, none⟩) c1 _, h.buf.keep (Below.heap_setCell w ⟨gc, k, none⟩ _ gx (fun e => d2 e.symm)), ?_, h.fn.far (p := ⟨gc, k, none⟩) (Ne.symm d1) _, h.low⟩
  rw [← cntA_set]
  exact h.cnt.set_ k _
theorem WSt.bset (h : WSt w gw gy gb gc gf gx cap B word buf C o ws) (k : Nat) (v : UInt8) : WSt (w.setCell ⟨gx, k, none⟩ (bv v)) gw gy gb gc gf gx cap B word (buf.set k v) C o ws := by
  obtain ⟨⟨a1, a2, a3, a4, a5⟩, ⟨b1, b2, b3, b4⟩, ⟨c1, c2, c3⟩, ⟨d1, d2⟩, e1⟩ := h.ne
  obtain ⟨o1, o2, o3, o4, o5, o6⟩ := h.ownNe
  refine ⟨h.wd.far (p := ⟨gx, k, none⟩) a5 _, h.ways.far (p := ⟨gx, k, none⟩) b4 _, own_far h.own (p := ⟨gx, k, none⟩) o6 _, h.bufp.far (p := ⟨gx, k, none⟩) c3 _, ?_, h.cnt.far (p := ⟨gx, k, none⟩) d2 _, h.fn.far (p := ⟨gx, k, none⟩) e1 _, h.low⟩
  rw [List.map_set]
  exact h.buf.stored k _
theorem WSt.add (h : WSt w gw gy gb gc gf gx cap B word buf C o ws) {s : Str} (hown : w1.ownsRow B 9 1 o1 (ws.length + 1) (ws.map sv ++ [sv s])) (hg : w.grownBy w1 o.ownBlock) (hat : o1.ownBlock = o.ownBlock ∨ ∃ k, o1.ownBlock = some k ∧ w.heap.size ≤ k) :
    WSt (w1.setCell ⟨gy, 0, none⟩ o1) gw gy gb gc gf gx cap B word buf C o1 (ws ++ [s]) := by
  obtain ⟨⟨a1, a2, a3, a4, a5⟩, ⟨b1, b2, b3, b4⟩, ⟨c1, c2, c3⟩, ⟨d1, d2⟩, e1⟩ := h.ne
  obtain ⟨o1', o2, o3, o4, o5, o6⟩ := h.ownNe
  have hw := h.wd.grown hg (fun e => o1' e.symm)
  have hy := h.ways.grown hg (fun e => o2 e.symm)
  have hbp := h.bufp.grown hg (fun e => o3 e.symm)
  have hb := h.buf.keep (hg.block gx h.buf.lt (fun e => o6 e.symm))
  have hc := h.cnt.grown hg (fun e => o4 e.symm)
  have hf := h.fn.grown hg (fun e => o5 e.symm)
  have hn : o1.ownBlock ≠ some gy := by
    rcases hat with e | ⟨k, e, hk⟩
    · rw [e]; exact o2
    · rw [e]; intro e2; injection e2 with e2; have := h.ways.lt; omega
  exact ⟨hw.far (p := ⟨gy, 0, none⟩) a1 _, hy.set_ 0 o1, own_cast (own_far hown (p := ⟨gy, 0, none⟩) hn _) (by simp) (by simp), hbp.far (p := ⟨gy, 0, none⟩) (Ne.symm b1) _, hb.keep (Below.heap_setCell w1 ⟨gy, 0, none⟩ _ gx (Ne.symm b4)), hc.far (p := ⟨gy, 0, none⟩) (Ne.symm b2) _, hf.far (p := ⟨gy, 0, none⟩) (Ne.symm b3) _, h.low⟩
end
/-- What a search leaves. -/
def WPost (w : World) (gw gy gb gc gf gx cap B : Nat) (word pre : Str) (C : List Int) (o : Value) (ws : List Str) (e : Ending) (w' : World) : Prop :=
  e = .returned (.tuple #[]) ∧ ∃ o' buf', buf'.length = word.length ∧ buf'.take pre.length = pre ∧ WSt w' gw gy gb gc gf gx cap B word buf' C o' ws ∧ Fr w w' gy gc gx o ∧ (o'.ownBlock = o.ownBlock ∨ ∃ k, o'.ownBlock = some k ∧ w.heap.size ≤ k)
end Go.Proofs.YtamdcbbclkobiaaGreatDoor
/-
  Contracts: the comparisons of the library that the comparison of plays calls.
  Conditions: none; for cmp.Or: the slice reads as a list of four numbers.
-/
namespace Go.Proofs.YtamdcbbclkobiaaGreatDoor
open Go.RowKit RegP RegL RegV
set_option maxHeartbeats 1000000
set_option maxRecDepth 100000

def cmpZ (a b : Int) : Int := if a < b then -1 else if b < a then 1 else 0
def cmpT (a b : Str) : Int := if sLt a b then -1 else if sLt b a then 1 else 0
theorem isNaN_int (a : Int) (w : World) : Calls Tryz.prog 169 #[.int .i64 a] w fun e w' => e = .returned (.bool false) ∧ w' = w := by
  go_enter Tryz.func169, Tryz.ntmps169
  go_wp2_with (fail)
  go_ret
  exact ⟨ret_bool (by simp), rfl⟩
theorem isNaN_str (a : Str) (w : World) : Calls Tryz.prog 143 #[sv a] w fun e w' => e = .returned (.bool false) ∧ w' = w := by
  go_enter Tryz.func143, Tryz.ntmps143
  go_wp2_with (fail)
  go_ret
  exact ⟨ret_bool (by simp), rfl⟩
theorem cmpInt_any (a b : Int) (w : World) : Calls Tryz.prog 129 #[.int .i64 a, .int .i64 b] w fun e w' => e = .returned (.int .i64 (cmpZ a b)) ∧ w' = w := by
  by_cases h1 : a < b
  · have hr : cmpZ a b = -1 := by rw [cmpZ, if_pos h1]
    rw [hr]
    go_enter Tryz.func129, Tryz.ntmps129
    go_wp2_with (go_at_call 169; refine (isNaN_int _ _).mono ?_; rintro e w1 ⟨rfl, rfl⟩)
    go_ret
    exact ⟨rfl, rfl⟩
  · by_cases h2 : b < a
    · have hr : cmpZ a b = 1 := by rw [cmpZ, if_neg h1, if_pos h2]
      rw [hr]
      go_enter Tryz.func129, Tryz.ntmps129
      go_wp2_with (go_at_call 169; refine (isNaN_int _ _).mono ?_; rintro e w1 ⟨rfl, rfl⟩)
      go_ret
      exact ⟨rfl, rfl⟩
    · have hr : cmpZ a b = 0 := by rw [cmpZ, if_neg h1, if_neg h2]
      rw [hr]
      go_enter Tryz.func129, Tryz.ntmps129
      go_wp2_with (go_at_call 169; refine (isNaN_int _ _).mono ?_; rintro e w1 ⟨rfl, rfl⟩)
      go_ret
      exact ⟨rfl, rfl⟩
theorem cmpStr_any (a b : Str) (w : World) : Calls Tryz.prog 130 #[sv a, sv b] w fun e w' => e = .returned (.int .i64 (cmpT a b)) ∧ w' = w := by
  cases h1 : sLt a b
  · have h1' : Op.bytesLess a b = false := h1
    cases h2 : sLt b a
    · have hab : a = b := by
        rw [sLt_no] at h1 h2
        exact List.le_antisymm h2 h1
      subst hab
      have hq : (a == a) = true := by simp
      have hr : cmpT a a = 0 := by rw [cmpT, h1]; rfl
      rw [hr]
      go_enter Tryz.func130, Tryz.ntmps130
      go_wp2_with (go_at_call 143; refine (isNaN_str _ _).mono ?_; rintro e w1 ⟨rfl, rfl⟩)
      go_ret
      exact ⟨rfl, rfl⟩
    · have hq : (a == b) = false := by
        rw [beq_eq_false_iff_ne]
        rintro rfl
        rw [h1] at h2; cases h2
      have hr : cmpT a b = 1 := by rw [cmpT, h1, h2]; rfl
      rw [hr]
      go_enter Tryz.func130, Tryz.ntmps130
      go_wp2_with (go_at_call 143; refine (isNaN_str _ _).mono ?_; rintro e w1 ⟨rfl, rfl⟩)
      go_ret
      exact ⟨rfl, rfl⟩
  · have h1' : Op.bytesLess a b = true := h1
    have hr : cmpT a b = -1 := by rw [cmpT, h1]; rfl
    rw [hr]
    go_enter Tryz.func130, Tryz.ntmps130
    go_wp2_with (go_at_call 143; refine (isNaN_str _ _).mono ?_; rintro e w1 ⟨rfl, rfl⟩)
    go_ret
    exact ⟨rfl, rfl⟩
def orZ : List Int → Int
  | [] => 0
  | x :: r => if x = 0 then orZ r else x
theorem cmpOr_any (A : Option Addr) (c : Nat) (xs : List Int) (w : World) (hl : xs.length ≤ 100) (hr : Reads w w.heap.size 1 A xs.length (xs.map fun x => .int .i64 x)) :
    Calls Tryz.prog 128 #[.slice A xs.length c] w fun e w' => e = .returned (.int .i64 (orZ xs)) ∧ w' = w := by
  obtain ⟨R, hR⟩ : ∃ R, R = orZ xs := ⟨_, rfl⟩
  have hR' := Lib.hid hR
  rw [← hR]
  clear hR
  go_enter Tryz.func128, Tryz.ntmps128
  go_wp2_with (fail)
  go_loopw [8] (fun i wr => ∃ k : Nat, k ≤ xs.length ∧ i = .int .i64 k ∧ Hid (R = orZ (xs.drop k)) ∧ wr = w) (fun i _ => xs.length - (intOf i).toNat)
  case atStart => exact ⟨0, by omega, rfl, Lib.hid (by rw [hR'.out]; rfl), rfl⟩
  case round =>
    obtain ⟨k, hk, rfl, he, rfl⟩ := hrel
    by_cases hkl : k < xs.length
    · obtain ⟨ad, rfl, hadb, hc⟩ := hr.el hkl
      have hkk : (k : Int) < (xs.length : Int) := by omega
      have hst : Hid (R = if xs[k] = 0 then orZ (xs.drop (k + 1)) else xs[k]) := Lib.hid (by rw [he.out, drop_cons xs k hkl]; rfl)
      obtain ⟨x, hx⟩ : ∃ x, x = xs[k] := ⟨_, rfl⟩
      rw [← hx] at hst
      have hc' : wr.cell? (ad.add k) = some (.int .i64 x) := by rw [hx]; exact hc
      clear hx hc
      by_cases hz : x = 0
      · subst hz
        go_wp2_with (fail)
        go_roundw
        case rel => exact ⟨k + 1, by omega, by go_num, Lib.hid (by rw [hst.out, if_pos rfl]), trivial⟩
        case measure => simp [intOf]; omega
      · have hz' : (x != 0) = true := by rw [bne_iff_ne]; exact hz
        go_wp2_with (fail)
        go_ret
        exact ⟨ret_int (by rw [hst.out, if_neg hz]), rfl⟩
    · obtain rfl : k = xs.length := by omega
      have hkk : ¬ (xs.length : Int) < (xs.length : Int) := by omega
      have hR0 : Hid (R = 0) := Lib.hid (by rw [he.out, List.drop_length]; rfl)
      go_wp2_with (fail)
      go_ret
      exact ⟨ret_int hR0.out.symm, rfl⟩
end Go.Proofs.YtamdcbbclkobiaaGreatDoor
/-
  Contract: the comparison of plays (layers 12 and 15 of the impl package).
  Conditions: none.
-/
namespace Go.Proofs.YtamdcbbclkobiaaGreatDoor
open Go.RowKit RegP RegL RegV
set_option maxHeartbeats 2000000
set_option maxRecDepth 100000

def dnZ (a b : Bool) : Int := if a = b then 0 else if a then 1 else -1
def cmpP (a b : Pl) : Int := orZ [dnZ a.down b.down, cmpZ a.row b.row, cmpZ a.col b.col, cmpT a.word b.word]
theorem comparePlays_impl (a b : Pl) (w : World) : Calls Tryz.prog 72 #[a.v, b.v] w fun e w' => e = .returned (.int .i64 (cmpP a b)) ∧ ∃ o1, w' = (((w.alloc (.cells #[.int .i64 a.row, .int .i64 a.col, .bool a.down, sv a.word] 48)).alloc (.cells #[.int .i64 b.row, .int .i64 b.col, .bool b.down, sv b.word] 48)).alloc o1).drew := by
  have hdef : cmpP a b = orZ [dnZ a.down b.down, cmpZ a.row b.row, cmpZ a.col b.col, cmpT a.word b.word] := rfl
  obtain ⟨ar, ac, ad, aw⟩ := a
  obtain ⟨br, bc, bd, bw⟩ := b
  simp only [Pl.v] at *
  have k1 := fun w => cmpInt_any ar br w
  have k2 := fun w => cmpInt_any ac bc w
  have k3 := fun w => cmpStr_any aw bw w
  have ko := fun (A : Option Addr) (c : Nat) (W : World) hr => cmpOr_any A c [dnZ ad bd, cmpZ ar br, cmpZ ac bc, cmpT aw bw] W (by simp) hr
  obtain ⟨R, hR⟩ : ∃ R, R = cmpP ⟨ar, ac, ad, aw⟩ ⟨br, bc, bd, bw⟩ := ⟨_, rfl⟩
  rw [← hR] at hdef ⊢
  rw [← hdef] at ko
  obtain ⟨z1, hz1⟩ : ∃ z, z = cmpZ ar br := ⟨_, rfl⟩
  obtain ⟨z2, hz2⟩ : ∃ z, z = cmpZ ac bc := ⟨_, rfl⟩
  obtain ⟨z3, hz3⟩ : ∃ z, z = cmpT aw bw := ⟨_, rfl⟩
  rw [← hz1] at k1 ko
  rw [← hz2] at k2 ko
  rw [← hz3] at k3 ko
  clear hz1 hz2 hz3 hR hdef
  obtain ⟨dz, hdz⟩ : ∃ z, z = dnZ ad bd := ⟨_, rfl⟩
  rw [← hdz] at ko
  have hdz' := Lib.hid hdz
  clear hdz
  obtain ⟨W, hW⟩ : ∃ W, W = (w.alloc (.cells #[.int .i64 ar, .int .i64 ac, .bool ad, sv aw] 48)).alloc (.cells #[.int .i64 br, .int .i64 bc, .bool bd, sv bw] 48) := ⟨_, rfl⟩
  have hA : Blk W w.heap.size 48 #[.int .i64 ar, .int .i64 ac, .bool ad, sv aw] := by rw [hW]; exact (Blk.new w _ _).alloc _
  have hB : Blk W (w.heap.size + 1) 48 #[.int .i64 br, .int .i64 bc, .bool bd, sv bw] := by rw [hW]; exact Blk.new1 w _ _ _
  have a0 : W.cell? ⟨w.heap.size, 0, none⟩ = some (.int .i64 ar) := hA.cell 0
  have a1 : W.cell? ⟨w.heap.size, 1, none⟩ = some (.int .i64 ac) := hA.cell 1
  have a3 : W.cell? ⟨w.heap.size, 3, none⟩ = some (sv aw) := hA.cell 3
  have b0 : W.cell? ⟨w.heap.size + 1, 0, none⟩ = some (.int .i64 br) := hB.cell 0
  have b1 : W.cell? ⟨w.heap.size + 1, 1, none⟩ = some (.int .i64 bc) := hB.cell 1
  have b3 : W.cell? ⟨w.heap.size + 1, 3, none⟩ = some (sv bw) := hB.cell 3
  cases ad <;> cases bd
  all_goals
    go_enter Tryz.func72, Tryz.ntmps72
    go_wp2_with (fail)
    rw [← hW]
    first | (have e : dz = 0 := hdz'.out) | (have e : dz = 1 := hdz'.out) | (have e : dz = -1 := hdz'.out)
    subst e
    have hW' := Lib.hid hW
    clear hW hA hB
    refine wp_region_l 12 16 (fun _ w' => w' = W.drew) (by kernel_rfl) (by kernel_rfl) rfl ?_
    simp only [List.take_succ_cons, List.take_zero, List.drop_succ_cons, List.drop_zero]
    iterate 16
      apply pl_step rfl
      · intro L w1 hS h1 h2 K hK
        clear h1 h2
        have hS : w1 = W.drew := hS
        subst hS
        go_wp2_with (first
          | (go_at_call 129; (with_reducible refine (k1 _).mono ?_); rintro e w5 ⟨rfl, rfl⟩)
          | (go_at_call 129; (with_reducible refine (k2 _).mono ?_); rintro e w5 ⟨rfl, rfl⟩)
          | (go_at_call 130; (with_reducible refine (k3 _).mono ?_); rintro e w5 ⟨rfl, rfl⟩))
        rfl
      simp only [Act.put, List.setIfInBounds_toArray, List.set_cons_succ, List.set_cons_zero]
    refine pl_nil ?_
    intro w1 hS
    have hS : w1 = W.drew := hS
    subst hS
    go_wp2_with (go_at_call 128; refine (ko _ _ _ (Reads.of_own (World.ownsRow_lit (base := W.heap.size) (size := 1) (e := 3) W #[.int .i64 _, .int .i64 z1, .int .i64 z2, .int .i64 z3] 4 (Nat.le_refl _) (by unfold maxLen; omega) rfl)).drew).mono ?_; rintro e w5 ⟨rfl, rfl⟩)
    go_ret
    exact ⟨rfl, _, by rw [hW'.out]⟩
end Go.Proofs.YtamdcbbclkobiaaGreatDoor
/-
  Contract: the comparison of plays as slices.SortFunc takes it (layer 15 of the impl package).
  Conditions: none.
-/
namespace Go.Proofs.YtamdcbbclkobiaaGreatDoor
open Go.RowKit Go.Sort RegP RegL RegV
set_option maxHeartbeats 2000000
set_option maxRecDepth 100000

theorem comparePlays_any (a b : Pl) (w : World) : Calls Tryz.prog 40 #[a.v, b.v] w fun e w' => e = .returned (.int .i64 (cmpP a b)) ∧ ∃ q os, w' = grow (w.drewN q) os := by
  have k1 := fun w => comparePlays_impl a b w
  obtain ⟨R, hR⟩ : ∃ R, R = cmpP a b := ⟨_, rfl⟩
  rw [← hR] at k1 ⊢
  clear hR
  obtain ⟨ar, ac, ad, aw⟩ := a
  obtain ⟨br, bc, bd, bw⟩ := b
  simp only [Pl.v] at *
  go_enter Tryz.func40, Tryz.ntmps40
  go_wp2_with (go_at_call 72; refine (k1 _).mono ?_; rintro e w1 ⟨rfl, o1, rfl⟩)
  go_ret
  refine ⟨rfl, 1, #[.cells #[.int .i64 ar, .int .i64 ac, .bool ad, sv aw] 48, .cells #[.int .i64 br, .int .i64 bc, .bool bd, sv bw] 48, .cells #[.int .i64 ar, .int .i64 ac, .bool ad, sv aw] 48, .cells #[.int .i64 br, .int .i64 bc, .bool bd, sv bw] 48, o1], ?_⟩
  simp only [alloc_eq_grow, grow_grow]
  rfl
/-! ### The order -/
theorem cmpZ_flip (a b : Int) : cmpZ b a = -cmpZ a b := by unfold cmpZ; split <;> split <;> omega
theorem cmpZ_zero {a b : Int} : cmpZ a b = 0 ↔ a = b := by unfold cmpZ; split <;> (try split) <;> omega
theorem cmpT_zero {a b : Str} : cmpT a b = 0 ↔ a = b := by
  unfold cmpT
  constructor
  · intro h
    split at h
    · omega
    · split at h
      · omega
      · rename_i h1 h2
        rw [Bool.not_eq_true, sLt_no] at h1 h2
        exact List.le_antisymm h2 h1
  · rintro rfl
    have : sLt a a = false := by rw [sLt_no]; exact List.le_refl _
    simp [this]
theorem cmpT_lt {a b : Str} : cmpT a b < 0 ↔ a < b := by
  unfold cmpT
  rw [← sLt_iff]
  cases h : sLt a b
  · simp; split <;> omega
  · simp
theorem cmpZ_lt {a b : Int} : cmpZ a b < 0 ↔ a < b := by unfold cmpZ; split <;> (try split) <;> omega
theorem dnZ_zero {a b : Bool} : dnZ a b = 0 ↔ a = b := by cases a <;> cases b <;> simp [dnZ]
theorem dnZ_lt {a b : Bool} : dnZ a b < 0 ↔ (a = false ∧ b = true) := by cases a <;> cases b <;> simp [dnZ]
/-- The order of plays. -/
theorem cmpP_lt (a b : Pl) : cmpP a b < 0 ↔ (a.down = false ∧ b.down = true) ∨ (a.down = b.down ∧ (a.row < b.row ∨ (a.row = b.row ∧ (a.col < b.col ∨ (a.col = b.col ∧ a.word < b.word))))) := by
  unfold cmpP
  simp only [orZ]
  by_cases h1 : dnZ a.down b.down = 0
  · rw [if_pos h1]
    have e1 := dnZ_zero.1 h1
    by_cases h2 : cmpZ a.row b.row = 0
    · rw [if_pos h2]
      have e2 := cmpZ_zero.1 h2
      by_cases h3 : cmpZ a.col b.col = 0
      · rw [if_pos h3]
        have e3 := cmpZ_zero.1 h3
        by_cases h4 : cmpT a.word b.word = 0
        · rw [if_pos h4]
          have e4 := cmpT_zero.1 h4
          simp [e1, e2, e3, e4]
        · rw [if_neg h4, cmpT_lt]; simp [e1, e2, e3]
      · rw [if_neg h3, cmpZ_lt]
        have n3 : a.col ≠ b.col := fun e => h3 (cmpZ_zero.2 e)
        simp [e1, e2, n3]
    · rw [if_neg h2, cmpZ_lt]
      have n2 : a.row ≠ b.row := fun e => h2 (cmpZ_zero.2 e)
      simp [e1, n2]
  · rw [if_neg h1, dnZ_lt]
    have n1 : a.down ≠ b.down := fun e => h1 (dnZ_zero.2 e)
    simp [n1]
theorem ltP_tri (x y : Pl) (h1 : ltOf cmpP x y = false) (h2 : ltOf cmpP y x = false) : x = y := by
  unfold ltOf at h1 h2
  rw [decide_eq_false_iff_not, cmpP_lt] at h1 h2
  have hd : x.down = y.down := by
    cases hx : x.down <;> cases hy : y.down
    · rfl
    · exact absurd (.inl ⟨hx, hy⟩) h1
    · exact absurd (.inl ⟨hy, hx⟩) h2
    · rfl
  have h1' : ¬(x.row < y.row ∨ (x.row = y.row ∧ (x.col < y.col ∨ (x.col = y.col ∧ x.word < y.word)))) := fun h => h1 (.inr ⟨hd, h⟩)
  have h2' : ¬(y.row < x.row ∨ (y.row = x.row ∧ (y.col < x.col ∨ (y.col = x.col ∧ y.word < x.word)))) := fun h => h2 (.inr ⟨hd.symm, h⟩)
  have hr : x.row = y.row := by
    have a : ¬ x.row < y.row := fun h => h1' (.inl h)
    have b : ¬ y.row < x.row := fun h => h2' (.inl h)
    omega
  have hc : x.col = y.col := by
    have a : ¬ x.col < y.col := fun h => h1' (.inr ⟨hr, .inl h⟩)
    have b : ¬ y.col < x.col := fun h => h2' (.inr ⟨hr.symm, .inl h⟩)
    omega
  have hw : x.word = y.word := by
    have a : ¬ x.word < y.word := fun h => h1' (.inr ⟨hr, .inr ⟨hc, h⟩⟩)
    have b : ¬ y.word < x.word := fun h => h2' (.inr ⟨hr.symm, .inr ⟨hc.symm, h⟩⟩)
    exact List.le_antisymm (List.not_lt.1 b) (List.not_lt.1 a)
  cases x; cases y
  simp only at hd hr hc hw
  rw [hd, hr, hc, hw]
theorem ltP_trans (x y z : Pl) (h1 : ltOf cmpP x y = true) (h2 : ltOf cmpP y z = true) : ltOf cmpP x z = true := by
  unfold ltOf at *
  rw [decide_eq_true_eq, cmpP_lt] at *
  rcases h1 with ⟨a, b⟩ | ⟨a, h1⟩
  · rcases h2 with ⟨c, d⟩ | ⟨c, h2⟩
    · rw [b] at c; cases c
    · exact .inl ⟨a, by rw [← c]; exact b⟩
  · rcases h2 with ⟨c, d⟩ | ⟨c, h2⟩
    · exact .inl ⟨by rw [a]; exact c, d⟩
    · refine .inr ⟨a.trans c, ?_⟩
      rcases h1 with h1 | ⟨e1, h1⟩
      · rcases h2 with h2 | ⟨e2, h2⟩
        · exact .inl (by omega)
        · exact .inl (by omega)
      · rcases h2 with h2 | ⟨e2, h2⟩
        · exact .inl (by omega)
        · refine .inr ⟨by omega, ?_⟩
          rcases h1 with h1 | ⟨f1, h1⟩
          · rcases h2 with h2 | ⟨f2, h2⟩
            · exact .inl (by omega)
            · exact .inl (by omega)
          · rcases h2 with h2 | ⟨f2, h2⟩
            · exact .inl (by omega)
            · exact .inr ⟨by omega, List.lt_trans h1 h2⟩
theorem ltP_swo : SWO (ltOf cmpP) := by
  refine ⟨fun x => ?_, fun x y z h1 h2 => ?_, fun x y z h1 h2 => ?_⟩
  · unfold ltOf
    rw [decide_eq_false_iff_not, cmpP_lt]
    intro h
    rcases h with ⟨a, b⟩ | ⟨_, h | ⟨_, h | ⟨_, h⟩⟩⟩
    · rw [a] at b; cases b
    · omega
    · omega
    · exact List.lt_irrefl _ h
  · exact ltP_trans x y z h1 h2
  · cases h : ltOf cmpP x z
    · rfl
    · exfalso
      cases g : ltOf cmpP y x
      · have e := ltP_tri x y h1 g
        subst e
        rw [h] at h2; cases h2
      · rw [ltP_trans y x z g h] at h2; cases h2
end Go.Proofs.YtamdcbbclkobiaaGreatDoor
/-
  Contract: slices.SortFunc at plays (layer 16 of the impl package).
  Conditions: the slice owns its cells.
-/
namespace Go.Proofs.YtamdcbbclkobiaaGreatDoor
open Go.RowKit Go.Sort Go.Lib RegP RegL RegV
set_option maxHeartbeats 2000000

instance : Inhabited Pl := ⟨⟨0, 0, false, []⟩⟩
theorem flatK_ps (ps : List Pl) : flatK plC 4 ps.toArray = (psC ps).toArray := by
  refine ext_get! (by simp [psC_length]) fun t ht => ?_
  have ht' : t < ps.toArray.size * 4 := by simpa using ht
  rw [get_flatK _ _ _ t ht']
  have hs : ps.toArray.size = ps.length := by simp
  have h1 : t / 4 < ps.length := by omega
  have h2 : t % 4 < 4 := Nat.mod_lt _ (by decide)
  have h := psC_get ps (t / 4) (t % 4) h1 h2
  rw [show t / 4 * 4 + t % 4 = t by omega] at h
  have hp : t < (psC ps).length := by rw [psC_length]; omega
  rw [getElem!_pos ps.toArray (t / 4) (by rw [hs]; exact h1), getElem!_pos (psC ps).toArray t (by simpa using hp)]
  rw [List.getElem?_eq_getElem hp] at h
  have h3 : (plC ps[t / 4])[t % 4]? = some (psC ps)[t] := h.symm
  obtain ⟨h4, h5⟩ := List.getElem?_eq_some_iff.1 h3
  simp only [List.getElem_toArray]
  rw [getElem!_pos (plC ps[t / 4]) (t % 4) h4]
  exact h5
theorem holds_own4 {w : World} {base e n g cap : Nat} {xs : List Value} (h : w.ownsRow base e 4 (.slice (some ⟨g, 0, none⟩) n cap) n xs) : Holds id w g 0 xs.toArray := by
  rcases h.2 with ⟨e0, _⟩ | ⟨g', cap', cur, e0, hb, hg, hn, hm, hs, ht⟩
  · cases e0
  · injection e0 with e1 _ e3
    injection e1 with e1
    injection e1 with e1
    subst e1
    intro j hj
    have hj' : j < xs.length := by simpa using hj
    have hl := h.1
    refine ⟨?_, by simp [World.frozen?, hg]⟩
    have e2 : (cur.toList.take (n * 4))[j]? = xs[j]? := by rw [ht]
    rw [List.getElem?_take, if_pos (by omega), Array.getElem?_toList, List.getElem?_eq_getElem hj'] at e2
    simp only [World.cell?, hg, Nat.zero_add]
    simp only [Option.isSome_none, Bool.false_eq_true, if_false]
    rw [e2]
    simp [getElem!_pos, hj']
theorem own_put4 {w : World} {base e n g cap q : Nat} {xs ys : List Value} {os : Array Obj} (h : w.ownsRow base e 4 (.slice (some ⟨g, 0, none⟩) n cap) n xs) (hy : ys.length = n * 4) :
    (grow (putRow id (Sort.ahead w q) g 0 ys.toArray) os).ownsRow base e 4 (.slice (some ⟨g, 0, none⟩) n cap) n ys := by
  have hlt := (h.lt g rfl).2
  rcases h.2 with ⟨e0, _⟩ | ⟨g', cap', cur, e0, hb, hg, hn, hm, hs, ht⟩
  · cases e0
  · injection e0 with e1 _ e3
    injection e1 with e1
    injection e1 with e1
    subst e1; subst e3
    refine ⟨hy, .inr ⟨g, cap, putCells id 0 ys.toArray cur, rfl, hb, ?_, hn, hm, by simpa [putCells] using hs, ?_⟩⟩
    · show ((putRow id (Sort.ahead w q) g 0 ys.toArray).heap ++ os)[g]? = _
      rw [Array.getElem?_append_left (by simpa [putRow, mapBlock, Sort.ahead] using hlt)]
      simp [putRow, mapBlock, Sort.ahead, Array.getElem?_modify, hg, onCells]
    · apply List.ext_getElem?
      intro j
      rw [List.getElem?_take, Array.getElem?_toList]
      by_cases hj : j < n * 4
      · have hjc : j < cur.size := by omega
        rw [if_pos hj]
        simp only [putCells, Array.getElem?_mapIdx, Array.getElem?_eq_getElem hjc, Option.map_some]
        rw [if_pos (by simp; omega), List.getElem?_eq_getElem (by omega)]
        simp [getElem!_pos, show j < ys.length by omega]
      · rw [if_neg hj, List.getElem?_eq_none (by omega)]
theorem grown_put {w : World} {g q : Nat} {d : Array Value} {os : Array Obj} : w.grownBy (grow (putRow id (Sort.ahead w q) g 0 d) os) (some g) := by
  refine ⟨rfl, rfl, rfl, ?_, fun k hk hne => ?_⟩
  · show _ ≤ ((putRow id (Sort.ahead w q) g 0 d).heap ++ os).size
    simp [putRow, mapBlock, Sort.ahead]
  · show ((putRow id (Sort.ahead w q) g 0 d).heap ++ os)[k]? = _
    have hg : g ≠ k := fun e => hne (by rw [e])
    rw [Array.getElem?_append_left (by simpa [putRow, mapBlock, Sort.ahead] using hk)]
    simp [putRow, mapBlock, Sort.ahead, Array.getElem?_modify, hg]
/-- The plays in their order. -/
def sortI (ps : List Pl) : List Pl := ps.mergeSort fun x y => !(ltOf cmpP) y x
theorem sortI_perm (ps : List Pl) : (sortI ps).Perm ps := List.mergeSort_perm _ _
/-- The plays sorted. -/
theorem sortPlays_any (ps : List Pl) (v : Value) (base : Nat) (w : World) (hl : ps.length ≤ 2 ^ 40) (hown : w.ownsRow base 48 4 v ps.length (psC ps)) :
    Calls Tryz.prog 39 #[v, .func (.func 40) #[] #[]] w fun e w' => e = .returned (.tuple #[]) ∧ ∃ ps', ps' = sortI ps ∧ w'.ownsRow base 48 4 v ps'.length (psC ps') ∧ w.grownBy w' v.ownBlock := by
  rcases Nat.eq_zero_or_pos ps.length with h0 | h0
  · obtain rfl : ps = [] := List.eq_nil_of_length_eq_zero h0
    obtain ⟨A, c, rfl, _⟩ := own_sl hown
    have h := AnyF.slices_SortFunc_none Tryz.sortF39 A c (.func (.func 40) #[] #[]) w
    refine Calls.mono h ?_
    rintro e w' ⟨rfl, rfl⟩
    exact ⟨rfl, [], by simp [sortI], hown, ⟨rfl, rfl, rfl, Nat.le_refl _, fun _ _ _ => rfl⟩⟩
  · obtain ⟨g, cap, hv, hbg, hlt⟩ := hown.form h0
    subst hv
    have hH := holds_own4 hown
    rw [← flatK_ps] at hH
    have h := AnyQ.slices_SortFunc_total (α := Pl) Tryz.sortF39 4 (fun w => by kernel_rfl) (fun w => by kernel_rfl) plC (fun _ => rfl) (fun x v hv => by
      simp only [plC, List.mem_cons, List.not_mem_nil, or_false] at hv
      rcases hv with rfl | rfl | rfl | rfl <;> rfl) cmpP ltP_swo 40 #[] g 0 cap ps.toArray w (enters_of Tryz.func40 (by kernel_rfl) rfl) (fun m os dk _ x y => comparePlays_any x y _) hH hlt (by simp; omega) ltP_tri
    have hsz : ps.toArray.size = ps.length := by simp
    rw [hsz] at h
    refine Calls.mono h ?_
    rintro e w' ⟨rfl, n, os, rfl⟩
    refine ⟨rfl, _, rfl, ?_, ?_⟩
    · unfold sortI
      rw [List.length_mergeSort]
      unfold sortWorldK putRowK
      rw [flatK_ps]
      exact own_put4 hown (by rw [psC_length, List.length_mergeSort])
    · unfold sortWorldK putRowK
      exact grown_put
end Go.Proofs.YtamdcbbclkobiaaGreatDoor
/-
  Contracts: whether a lexicon has a word, the wrong words of a play (layers 5 and 12 of the impl package).
  Conditions: the words of the lexicon increase; its slice reads as a list of strings.
-/
namespace Go.Proofs.YtamdcbbclkobiaaGreatDoor
open Go.RowKit RegP RegL RegV
set_option maxHeartbeats 1000000
set_option maxRecDepth 100000

theorem incB_pw : ∀ ws : List Str, incB ws = true → ws.Pairwise (fun a b => a < b)
  | [], _ => .nil
  | [_], _ => by simp
  | a :: b :: r, h => by
    rw [incB, Bool.and_eq_true] at h
    have ih := incB_pw (b :: r) h.2
    have hab := (sLt_iff a b).1 h.1
    refine .cons (fun x hx => ?_) ih
    rcases List.mem_cons.1 hx with rfl | hx
    · exact hab
    · exact List.lt_trans hab ((List.pairwise_cons.1 ih).1 x hx)
theorem firstK_lt : ∀ (ws : List Str) (s : Str) (t : Nat), t < firstK ws s → sLt (ws.getD t []) s = true
  | [], _, t, h => absurd h (Nat.not_lt_zero t)
  | x :: r, s, t, h => by
    rw [firstK] at h
    cases hx : sLt x s <;> rw [hx] at h
    · simp at h
    · cases t with
      | zero => simpa using hx
      | succ t => simpa using firstK_lt r s t (by simp at h; omega)
theorem firstK_ge : ∀ (ws : List Str) (s : Str), ws.Pairwise (fun a b => a < b) → ∀ t, firstK ws s ≤ t → t < ws.length → sLt (ws.getD t []) s = false
  | [], _, _, t, _, h => absurd h (Nat.not_lt_zero t)
  | x :: r, s, hp, t, h, hl => by
    rw [firstK] at h
    cases hx : sLt x s <;> rw [hx] at h
    · cases t with
      | zero => simpa using hx
      | succ t =>
        have hm : r.getD t [] ∈ r := by
          have h2 : t < r.length := by simpa using hl
          rw [List.getD_eq_getElem?_getD, List.getElem?_eq_getElem h2]; exact List.getElem_mem h2
        have := (List.pairwise_cons.1 hp).1 _ hm
        simp only [List.getD_cons_succ]
        rw [sLt_no] at hx ⊢
        exact List.le_of_lt (List.lt_of_le_of_lt hx this)
    · cases t with
      | zero => simp at h
      | succ t => simpa using firstK_ge r s (List.pairwise_cons.1 hp).2 t (by simp at h; omega) (by simpa using hl)
theorem bs_hasB (ws : List Str) (s : Str) (hi : incB ws = true) :
    Lib.bsGo (fun t => sLt (ws.getD t []) s) ws.length 0 ws.length = firstK ws s := by
  have hg : ∀ f lo hi, hi ≤ ws.length → Lib.bsGo (fun t => sLt (ws.getD t []) s) f lo hi = Lib.bsGo (fun t => decide (t < firstK ws s)) f lo hi := by
    intro f
    induction f with
    | zero => intros; rfl
    | succ f ih =>
      intro lo hi hle
      unfold Lib.bsGo
      by_cases h : lo < hi
      · rw [if_pos h, if_pos h]
        have he : sLt (ws.getD ((lo + hi) / 2) []) s = decide ((lo + hi) / 2 < firstK ws s) := by
          by_cases hk : (lo + hi) / 2 < firstK ws s
          · rw [firstK_lt _ _ _ hk, decide_eq_true hk]
          · rw [firstK_ge _ _ (incB_pw ws ‹_›) _ (by omega) (by omega), decide_eq_false hk]
        simp only [he]
        rw [ih _ _ hle, ih _ _ (by omega)]
      · rw [if_neg h, if_neg h]
  rw [hg _ _ _ (Nat.le_refl _)]
  exact Lib.bsGo_spec _ (firstK ws s) (fun t h => by simpa using h) (fun t h => by simpa using h) _ _ _ (by omega) (by omega) (firstK_le ws s)
/-- The first cell of a slice is a plain one. -/
def Plain0 (A : Option Addr) : Prop := ∀ ad, A = some ad → ad = ⟨ad.block, ad.off, none⟩
theorem plain_add {ad : Addr} (hp : ad = ⟨ad.block, ad.off, none⟩) (j : Nat) : ad.add j = ⟨ad.block, ad.off + j, none⟩ := by
  obtain ⟨b, o, x⟩ := ad
  injection hp with _ _ hx
  subst hx
  show (⟨b, o, none⟩ : Addr).add j = ⟨b, o + j, none⟩
  unfold Addr.add; split <;> simp_all
theorem iHas_any (A : Option Addr) (c : Nat) (ws : List Str) (s : Str) (w : World) (hr : Reads w w.heap.size 1 A ws.length (ws.map sv)) (hA : Plain0 A) (hi : incB ws = true) (hn : ws.length ≤ 2 ^ 32) :
    Calls Tryz.prog 119 #[.agg #[.slice A ws.length c], sv s] w fun e w' => e = .returned (.bool (hasB ws s)) ∧ Below w.heap.size w w' := by
  have hbs := bs_hasB ws s hi
  have hdef : hasB ws s = (ws[firstK ws s]? == some s) := rfl
  have hle := firstK_le ws s
  have key : ∀ W, Below w.heap.size w W → Calls Tryz.prog 165 #[.slice A ws.length c, sv s] W fun e w' => (∃ k : Int, e = .returned (.tuple #[.int .i64 k, .bool (hasB ws s)])) ∧ Below W.heap.size W w' := by
    intro W hW
    rcases Nat.eq_zero_or_pos ws.length with h0 | h0
    · have h := Any2.slices_BinarySearch_string_empty Tryz.searchS A c ⟨s.toArray⟩ W
      rw [h0]
      refine Calls.mono h ?_
      rintro e w' ⟨rfl, rfl⟩
      have : ws = [] := List.eq_nil_of_length_eq_zero h0
      subst this
      exact ⟨⟨0, rfl⟩, Below.refl _ _⟩
    · obtain ⟨ad, rfl, _, hc⟩ := hr.2 h0
      have hp := hA ad rfl
      have h := Any2.slices_BinarySearch_string Tryz.searchS ad.block ad.off ws.length c (fun t => ⟨(ws.getD t []).toArray⟩) ⟨s.toArray⟩ W (by omega) (fun j hj => by
        have h1 := hc j (sv ws[j]) (by rw [List.getElem?_map, List.getElem?_eq_getElem hj]; rfl)
        rw [← hW.cell (by rw [block_of_add]; assumption)] at h1
        have e : ad.add j = ⟨ad.block, ad.off + j, none⟩ := plain_add hp j
        rw [e] at h1
        rw [h1]
        simp [List.getD_eq_getElem?_getD, List.getElem?_eq_getElem hj, sv])
      rw [← hp] at h
      have hlt : ∀ x : Str, (ByteArray.mk x.toArray).toList = x := fun x => by rw [Lib.toList_data]
      simp only [hlt] at h
      have hbs' : Lib.bsGo (fun t => Op.bytesLess (ws.getD t []) s) ws.length 0 ws.length = firstK ws s := hbs
      rw [hbs'] at h
      refine Calls.mono h ?_
      rintro e w' ⟨rfl, q, rfl⟩
      refine ⟨⟨(firstK ws s : Int), ?_⟩, ?_⟩
      · have hd : decide (firstK ws s < ws.length ∧ ByteArray.mk (ws.getD (firstK ws s) []).toArray = ByteArray.mk s.toArray) = hasB ws s := by
          rw [hdef, Bool.eq_iff_iff]
          simp only [decide_eq_true_eq, beq_iff_eq, List.getD_eq_getElem?_getD]
          constructor
          · rintro ⟨h1, h2⟩
            have h3 := congrArg (fun x : ByteArray => x.data.toList) h2
            simp only [List.getElem?_eq_getElem h1, Option.getD_some] at h3
            rw [List.getElem?_eq_getElem h1, h3]
          · intro h1
            obtain ⟨h2, h3⟩ := List.getElem?_eq_some_iff.1 h1
            exact ⟨h2, by rw [h1]; rfl⟩
        rw [hd]
      · exact ⟨rfl, rfl, rfl, Nat.le_refl _, fun _ _ => rfl⟩
  clear hbs hdef
  obtain ⟨H, hH⟩ : ∃ H, H = hasB ws s := ⟨_, rfl⟩
  rw [← hH] at key ⊢
  clear hH
  have hbW := (Below.refl w.heap.size w).alloc (Nat.le_refl _) (.cells #[.slice A ws.length c] 31)
  go_enter Tryz.func119, Tryz.ntmps119
  go_wp2_with (go_at_call 165; refine (key _ hbW).mono ?_; rintro e w1 ⟨⟨k, rfl⟩, hb1⟩)
  go_ret
  exact ⟨rfl, hbW.trans (hb1.mono hbW.size)⟩
theorem wrong1_any (g : Nat) (A : Option Addr) (c : Nat) (ws : List Str) (s : Str) (w : World) (hg : w.cell? ⟨g, 0, none⟩ = some (.slice A ws.length c)) (hr : Reads w w.heap.size 1 A ws.length (ws.map sv)) (hA : Plain0 A) (hi : incB ws = true) (hn : ws.length ≤ 2 ^ 32) :
    Calls Tryz.prog 118 #[sv s, .pointer (some ⟨g, 0, none⟩)] w fun e w' => e = .returned (.bool (!hasB ws s)) ∧ Below w.heap.size w w' := by
  have k1 := iHas_any A c ws s w hr hA hi hn
  obtain ⟨H, hH⟩ : ∃ H, H = hasB ws s := ⟨_, rfl⟩
  rw [← hH] at k1 ⊢
  clear hH hr hA hi
  go_enter Tryz.func118, Tryz.ntmps118
  go_wp2_with (go_at_call 119; refine k1.mono ?_; rintro e w1 ⟨rfl, hb1⟩)
  go_ret
  exact ⟨rfl, hb1⟩
end Go.Proofs.YtamdcbbclkobiaaGreatDoor
