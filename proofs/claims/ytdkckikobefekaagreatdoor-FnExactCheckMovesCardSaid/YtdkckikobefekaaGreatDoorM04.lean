/-
  Contracts: boards of the spec package (layer 11); Contracts: which plays are valid (layer 12 of the spec package); Contract: the size of a list of strings (the laws package); Contracts: the sizes of a lexicon and of a board, the impl package's board of a board (the laws package); A slice literal of one struct; rows kept through stores elsewhere; States of a region that draws its order: one that appends to a row of the call's own; one whose free values bear predicates; A region that draws its order, all of whose operations leave what was: the state that asks no more; Contracts: whether a word can be made; what an insertion into an ordered list gives (layer 3 of the spec package); Contracts: the ways to place a word (layer 3 of the spec package).
  Conditions: a board lies at an address; the squares that are read are on the board; a board lies at an address; a play's numbers are those of an int64; the slice reads as a list of strings; strings and the room of common size; the words' slice reads as a list of strings; numbers of common size; none; lengths at most 2^37; words of small letters of at most 20 bytes.
-/
import Derived.Test.YtdkckikobefekaaGreatDoorM01
import Derived.Test.YtdkckikobefekaaGreatDoorM03
import Derived.Lib.SlicesCompact
import Derived.Deep.DeepCutAuto
import Derived.Test.YtdkckikobefekaaGreatDoorM02
import Derived.Great.BuildSlice
import Derived.Lib.Builder
import Derived.Lib.UnsafeStr
import Derived.Laws.Externs
import Derived.RegionTactic
import Derived.Laws.Rows
import Derived.Laws.Tables
import Derived.Lib.OthersKept
namespace Go.Proofs.YtdkckikobefekaaGreatDoor
open Go.RowKit RegP RegL
set_option maxHeartbeats 400000
structure Bd where
 size : Int
 prem : Str
 cells : Str
def Bd.v (b : Bd) : Value := .agg #[.int .i64 b.size, sv b.prem, sv b.cells]
structure Pl where
 row : Int
 col : Int
 down : Bool
 word : Str
def Pl.v (p : Pl) : Value := .agg #[.int .i64 p.row, .int .i64 p.col, .bool p.down, sv p.word]
def BAt (w : World) (p : Addr) (b : Bd) : Prop := w.cell? p = some (.int .i64 b.size) ∧ w.cell? { block := p.block, off := p.off + 1 } = some (sv b.prem) ∧ w.cell? { block := p.block, off := p.off + 2 } = some (sv b.cells)
theorem BAt.lt {w : World} {p : Addr} {b : Bd} (h : BAt w p b) : p.block < w.heap.size := World.block_lt_of_cell? w p h.1
theorem BAt.below {w w' : World} {p : Addr} {b : Bd} {B : Nat} (h : BAt w p b) (hb : Below B w w') (hp : p.block < B) : BAt w' p b :=
 ⟨(hb.cell hp).trans h.1, (hb.cell (p := { block := p.block, off := p.off + 1 }) hp).trans h.2.1, (hb.cell (p := { block := p.block, off := p.off + 2 }) hp).trans h.2.2⟩
theorem BAt.dr {w w' : World} {p : Addr} {b : Bd} (h : BAt w p b) (hb : Dr w w') : BAt w' p b := h.below hb.below h.lt
def cellB (c : UInt8) : Bool := (c == 46) || smallB c || capB c
def premB (c : UInt8) : Bool := (c == 46) || (c == 50) || (c == 51) || (c == 100) || (c == 116)
theorem l11Cell_any (c : UInt8) (w : World) :
   Calls Tryz.prog 262 #[bv c] w fun e w' => e = .returned (.bool (cellB c)) ∧ w = w' := by
 unfold cellB
 have hq : ((c.toNat : Int) == 46) = (c == 46) := u8_eq c 46
 cases h : (c == 46) <;> rw [h] at hq <;> cases h1 : smallB c
 all_goals
   go_enter Tryz.func262, Tryz.ntmps262
   go_wp2_with (first
     | (go_at_call 204; refine (l01Small_any _ _).mono ?_; rw [h1]; rintro e w' ⟨rfl, rfl⟩)
     | (go_at_call 153; refine (l03Capital_any _ _).mono ?_; rintro e w' ⟨rfl, rfl⟩))
   go_ret
   exact ⟨by simp, rfl⟩
theorem l11Premium_any (c : UInt8) (w : World) :
   Calls Tryz.prog 263 #[bv c] w fun e w' => e = .returned (.bool (premB c)) ∧ w = w' := by
 unfold premB
 have q0 : ((c.toNat : Int) == 46) = (c == 46) := u8_eq c 46
 have q1 : ((c.toNat : Int) == 50) = (c == 50) := u8_eq c 50
 have q2 : ((c.toNat : Int) == 51) = (c == 51) := u8_eq c 51
 have q3 : ((c.toNat : Int) == 100) = (c == 100) := u8_eq c 100
 have q4 : ((c.toNat : Int) == 116) = (c == 116) := u8_eq c 116
 generalize (c == 46) = b0 at *
 generalize (c == 50) = b1 at *
 generalize (c == 51) = b2 at *
 generalize (c == 100) = b3 at *
 generalize (c == 116) = b4 at *
 cases b0
 · cases b1
   · cases b2
     · cases b3
       all_goals
         go_enter Tryz.func263, Tryz.ntmps263
         go_wp2_with (fail)
         go_ret
         exact ⟨by simp, rfl⟩
     · go_enter Tryz.func263, Tryz.ntmps263
       go_wp2_with (fail)
       go_ret
       exact ⟨by simp, rfl⟩
   · go_enter Tryz.func263, Tryz.ntmps263
     go_wp2_with (fail)
     go_ret
     exact ⟨by simp, rfl⟩
 · go_enter Tryz.func263, Tryz.ntmps263
   go_wp2_with (fail)
   go_ret
   exact ⟨by simp, rfl⟩
def sizeB (n : Int) : Bool := inR n 5 15
theorem l11Size_any (n : Int) (w : World) :
   Calls Tryz.prog 261 #[.int .i64 n] w fun e w' => e = .returned (.bool (sizeB n)) ∧ w = w' := by
 go_enter Tryz.func261, Tryz.ntmps261
 go_wp2_with (go_at_call 143; refine (l00In_any _ _ _ _).mono ?_; rintro e w' ⟨rfl, rfl⟩)
 go_ret
 exact ⟨rfl, rfl⟩
theorem l11In_any (p : Addr) (b : Bd) (r c : Int) (w : World) (hp : BAt w p b) (hs : sizeB b.size = true) :
   Calls Tryz.prog 287 #[.pointer (some p), .int .i64 r, .int .i64 c] w fun e w' => e = .returned (.bool (inR r 0 (b.size - 1) && inR c 0 (b.size - 1))) ∧ w = w' := by
 have hb := hs
 have h0 := hp.1
 simp only [sizeB, inR, Bool.and_eq_true, decide_eq_true_eq] at hb
 obtain ⟨hb1, hb2⟩ := hb
 cases hr : inR r 0 (b.size - 1)
 all_goals
   go_enter Tryz.func287, Tryz.ntmps287
   go_wp2_with (go_at_call 143; refine (l00In_any _ _ _ _).mono ?_; (try rw [hr]); rintro e w' ⟨rfl, rfl⟩)
   go_ret
   exact ⟨by simp, rfl⟩
def Bd.inB (b : Bd) (r c : Int) : Bool := inR r 0 (b.size - 1) && inR c 0 (b.size - 1)
def Bd.at_ (b : Bd) (r c : Int) : UInt8 := b.cells.getD (r * b.size + c).toNat 0
def Bd.full (b : Bd) (r c : Int) : Bool := b.inB r c && !(b.at_ r c == 46)
structure Bd.Fit (b : Bd) : Prop where
 lo : 5 ≤ b.size
 hi : b.size ≤ 15
 prem : (b.prem.length : Int) = b.size * b.size
 cells : (b.cells.length : Int) = b.size * b.size
theorem inB_iff {b : Bd} {r c : Int} : b.inB r c = true ↔ (0 ≤ r ∧ r ≤ b.size - 1) ∧ (0 ≤ c ∧ c ≤ b.size - 1) := by
 simp [Bd.inB, inR]
theorem mul_bounds {n r c : Int} (h5 : 5 ≤ n) (h15 : n ≤ 15) (r0 : 0 ≤ r) (r1 : r ≤ n - 1) (c0 : 0 ≤ c) (c1 : c ≤ n - 1) :
   0 ≤ r * n ∧ r * n ≤ 210 ∧ 0 ≤ r * n + c ∧ r * n + c < n * n ∧ n * n ≤ 225 := by
 have h1 : r * n ≤ (n - 1) * n := Int.mul_le_mul_of_nonneg_right r1 (by omega)
 have h2 : 0 ≤ r * n := Int.mul_nonneg r0 (by omega)
 have h3 : (n - 1) * n = n * n - n := by rw [Int.sub_mul, Int.one_mul]
 have h4 : n * n ≤ 15 * n := Int.mul_le_mul_of_nonneg_right h15 (by omega)
 omega
theorem l11At_any (p : Addr) (b : Bd) (r c : Int) (w : World) (hp : BAt w p b) (hf : b.Fit) (hi : b.inB r c = true) :
   Calls Tryz.prog 225 #[.pointer (some p), .int .i64 r, .int .i64 c] w fun e w' => e = .returned (bv (b.at_ r c)) ∧ Dr w w' := by
 have h0 := hp.1
 have h2 := hp.2.2
 obtain ⟨⟨r0, r1⟩, c0, c1⟩ := inB_iff.1 hi
 obtain ⟨m0, m1, m2, m3, m4⟩ := mul_bounds hf.lo hf.hi r0 r1 c0 c1
 have h5 := hf.lo
 have h15 := hf.hi
 have hlen := hf.cells
 have m5 : r * b.size + c < (b.cells.length : Int) := by omega
 have m6 : IntKind.i64.wrap (r * b.size) = r * b.size := IntWalk.i64_in _ (by omega)
 obtain ⟨k, hk⟩ : ∃ k : Nat, r * b.size + c = (k : Int) := ⟨(r * b.size + c).toNat, by omega⟩
 have hat : b.at_ r c = b.cells.getD k 0 := by rw [Bd.at_, hk]; rfl
 have m7 : IntKind.i64.wrap (r * b.size + c) = (k : Int) := by rw [hk]; exact IntWalk.i64_in _ (by omega)
 have hkl : k < b.cells.length := by omega
 have m8 : (k : Int) < (b.cells.length : Int) := by omega
 have m9 : (0 : Int) ≤ k := by omega
 rw [hat, show b.cells.getD k 0 = b.cells[k] by simp [List.getD, List.getElem?_eq_getElem hkl]]
 clear hat hk m5 hlen m3
 go_enter Tryz.func225, Tryz.ntmps225
 go_wp2_with (fail)
 go_quiet (fail)
 go_wp2
 go_ret
 exact ⟨rfl, ⟨_, rfl⟩⟩
theorem l11Full_any (p : Addr) (b : Bd) (r c : Int) (w : World) (hp : BAt w p b) (hf : b.Fit) (hs : sizeB b.size = true) :
   Calls Tryz.prog 288 #[.pointer (some p), .int .i64 r, .int .i64 c] w fun e w' => e = .returned (.bool (b.full r c)) ∧ Dr w w' := by
 have hfull : b.full r c = (b.inB r c && !(b.at_ r c == 46)) := rfl
 cases hi : b.inB r c
 · go_enter Tryz.func288, Tryz.ntmps288
   go_wp2_with (go_at_call 287; refine (l11In_any p b _ _ _ hp hs).mono ?_; rw [show (inR r 0 (b.size - 1) && inR c 0 (b.size - 1)) = false from hi]; rintro e w' ⟨rfl, rfl⟩)
   go_ret
   exact ⟨ret_bool (by rw [hfull, hi]; rfl), Dr.refl _⟩
 · have hq : (((b.at_ r c).toNat : Int) == 46) = (b.at_ r c == 46) := u8_eq (b.at_ r c) 46
   go_enter Tryz.func288, Tryz.ntmps288
   go_wp2_with (first
     | (go_at_call 287; refine (l11In_any p b _ _ _ hp hs).mono ?_; rw [show (inR r 0 (b.size - 1) && inR c 0 (b.size - 1)) = true from hi]; rintro e w' ⟨rfl, rfl⟩)
     | (go_at_call 225; refine (l11At_any p b _ _ _ hp hf hi).mono ?_; rintro e w' ⟨rfl, hd⟩))
   go_ret
   exact ⟨ret_bool (by rw [hfull, hi, bne, hq]; rfl), hd⟩
def okFrom : Str → Str → Bool
 | [], _ => true
 | _, [] => true
 | c :: r, p :: q => cellB c && premB p && okFrom r q
def bdB (b : Bd) : Bool := sizeB b.size && (decide ((b.prem.length : Int) = b.size * b.size) && (decide ((b.cells.length : Int) = b.size * b.size) && okFrom b.cells b.prem))
theorem okFrom_eq : ∀ (c p : Str), c.length = p.length → okFrom c p = (p.all premB && c.all cellB)
 | [], [], _ => rfl
 | [], _ :: _, h => by simp at h
 | _ :: _, [], h => by simp at h
 | c :: r, p :: q, h => by
   rw [okFrom, okFrom_eq r q (by simpa using h), List.all_cons, List.all_cons]
   cases cellB c <;> cases premB p <;> cases List.all q premB <;> rfl
theorem bdB.fit {b : Bd} (h : bdB b = true) : b.Fit := by
 simp only [bdB, sizeB, inR, Bool.and_eq_true, decide_eq_true_eq] at h
 exact ⟨h.1.1, h.1.2, h.2.1, h.2.2.1⟩
theorem okFrom_step (c p : Str) (k : Nat) (h1 : k < c.length) (h2 : k < p.length) : okFrom (c.drop k) (p.drop k) = (cellB c[k] && premB p[k] && okFrom (c.drop (k + 1)) (p.drop (k + 1))) := by
 rw [drop_cons c k h1, drop_cons p k h2]; rfl
theorem l11Ok_any (p : Addr) (b : Bd) (w : World) (hp : BAt w p b) (h1 : b.prem.length ≤ 2 ^ 40) (h2 : b.cells.length ≤ 2 ^ 40) :
   Calls Tryz.prog 189 #[.pointer (some p)] w fun e w' => e = .returned (.bool (bdB b)) ∧ Dr w w' := by
 have hp0 := hp.1
 have hp1 := hp.2.1
 have hp2 := hp.2.2
 cases hs : sizeB b.size
 · go_enter Tryz.func189, Tryz.ntmps189
   go_wp2_with (fail)
   go_quiet ((go_at_call 261; exact quiet_eq (hs ▸ l11Size_any _ _)))
   go_wp2
   go_ret
   exact ⟨ret_bool (by rw [bdB, hs]; rfl), ⟨_, rfl⟩⟩
 · have hb := hs
   simp only [sizeB, inR, Bool.and_eq_true, decide_eq_true_eq] at hb
   obtain ⟨hb1, hb2⟩ := hb
   obtain ⟨m0, m1, _, _, m4⟩ := mul_bounds (r := b.size - 1) (c := 0) hb1 hb2 (by omega) (by omega) (by omega) (by omega)
   have m5 : 0 ≤ b.size * b.size := Int.mul_nonneg (by omega) (by omega)
   have m6 : IntKind.i64.wrap (b.size * b.size) = b.size * b.size := IntWalk.i64_in _ (by omega)
   clear m0 m1
   obtain ⟨q, hq⟩ : ∃ q, q = decide ((b.prem.length : Int) = b.size * b.size) := ⟨_, rfl⟩
   have hqd : ((b.prem.length : Int) != b.size * b.size) = !q := by rw [hq]; rfl
   obtain ⟨q2, hq2⟩ : ∃ q, q = decide ((b.cells.length : Int) = b.size * b.size) := ⟨_, rfl⟩
   have hqd2 : ((b.cells.length : Int) != b.size * b.size) = !q2 := by rw [hq2]; rfl
   have Hq := Lib.hid hq
   have Hq2 := Lib.hid hq2
   clear hq hq2
   cases q
   · go_enter Tryz.func189, Tryz.ntmps189
     go_wp2_with (fail)
     go_quiet ((go_at_call 261; exact quiet_eq (hs ▸ l11Size_any _ _)))
     go_wp2
     go_ret
     exact ⟨ret_bool (by rw [bdB, hs, ← Hq.out]; rfl), ⟨_, rfl⟩⟩
   · cases q2
     · go_enter Tryz.func189, Tryz.ntmps189
       go_wp2_with (fail)
       go_quiet ((go_at_call 261; exact quiet_eq (hs ▸ l11Size_any _ _)))
       go_wp2
       go_ret
       exact ⟨ret_bool (by rw [bdB, hs, ← Hq.out, ← Hq2.out]; rfl), ⟨_, rfl⟩⟩
     · go_enter Tryz.func189, Tryz.ntmps189
       go_wp2_with (fail)
       go_quiet ((go_at_call 261; exact quiet_eq (hs ▸ l11Size_any _ _)))
       have hlen : b.cells.length = b.prem.length := by
         have e1 : (b.prem.length : Int) = b.size * b.size := of_decide_eq_true Hq.out.symm
         have e2 : (b.cells.length : Int) = b.size * b.size := of_decide_eq_true Hq2.out.symm
         omega
       have Hlen := Lib.hid hlen
       clear hlen m4 m5 m6 hqd hqd2
       go_wp2_with (fail)
       go_loopw [3] (fun i wr => ∃ k : Nat, k ≤ b.cells.length ∧ i = .int .i64 k ∧ Hid (okFrom b.cells b.prem = okFrom (b.cells.drop k) (b.prem.drop k)) ∧ Dr w wr) (fun i _ => b.cells.length - (intOf i).toNat)
       case atStart => exact ⟨0, by omega, rfl, rfl, ⟨_, rfl⟩⟩
       case round =>
         obtain ⟨k, hk, rfl, he, hd⟩ := hrel
         obtain ⟨hp0, hp1, hp2⟩ := hp.dr hd
         by_cases hlt : k < b.cells.length
         · have hlt2 : k < b.prem.length := by rw [← Hlen.out]; exact hlt
           have hst := Lib.hid (okFrom_step b.cells b.prem k hlt hlt2)
           have j0 : (k : Int) < (b.cells.length : Int) := by omega
           have j1 : (k : Int) < (b.prem.length : Int) := by omega
           have j2 : (0 : Int) ≤ k := by omega
           obtain ⟨c, hc⟩ : ∃ c, c = b.cells[k] := ⟨_, rfl⟩
           cases hx : cellB b.cells[k]
           · go_wp2_with (go_at_call 262; refine (l11Cell_any _ _).mono ?_; rw [hx]; rintro e w' ⟨rfl, rfl⟩)
             go_ret
             exact ⟨ret_bool (by rw [bdB, hs, ← Hq.out, ← Hq2.out, he.out, hst.out, hx]; rfl), hd⟩
           · cases hy : premB b.prem[k]
             all_goals
               go_wp2_with (first
                 | (go_at_call 262; refine (l11Cell_any _ _).mono ?_; rw [hx]; rintro e w' ⟨rfl, rfl⟩)
                 | (go_at_call 263; refine (l11Premium_any _ _).mono ?_; rw [hy]; rintro e w' ⟨rfl, rfl⟩))
             · go_ret
               exact ⟨ret_bool (by rw [bdB, hs, ← Hq.out, ← Hq2.out, he.out, hst.out, hx, hy]; rfl), hd⟩
             · go_roundw
               case rel => exact ⟨k + 1, by omega, by go_num, Lib.hid (by rw [he.out, hst.out, hx, hy]; rfl), hd⟩
               case measure => simp [intOf]; omega
         · obtain rfl : k = b.cells.length := by omega
           go_wp2_with (fail)
           go_ret
           exact ⟨ret_bool (by rw [bdB, hs, ← Hq.out, ← Hq2.out, he.out, List.drop_length]; rfl), hd⟩
theorem Dr.trans {a b c : World} (h : Dr a b) (h2 : Dr b c) : Dr a c := by
 obtain ⟨n, rfl⟩ := h
 obtain ⟨m, rfl⟩ := h2
 exact ⟨n + m, by rw [World.drewN_drewN]⟩
theorem BAt.drewN {w : World} {p : Addr} {b : Bd} (h : BAt w p b) (n : Nat) : BAt (w.drewN n) p b := h.dr ⟨n, rfl⟩
theorem BAt.alloc {w : World} {p : Addr} {b : Bd} (h : BAt w p b) (o : Obj) : BAt (w.alloc o) p b := h.below ((Below.refl _ _).alloc (Nat.le_refl _) _) h.lt
theorem Bd.Fit.size {b : Bd} (h : b.Fit) : sizeB b.size = true := by
 have := h.lo; have := h.hi
 simp [sizeB, inR]; omega
def wordB (s : Str) : Bool := decide (1 < s.length) && placedB s
theorem l12Word_any (s : Str) (w : World) (hl : s.length ≤ 2 ^ 38) :
   Calls Tryz.prog 215 #[sv s] w fun e w' => e = .returned (.bool (wordB s)) ∧ w = w' := by
 by_cases h : 1 < s.length
 · have h' : (1 : Int) < (s.length : Int) := by omega
   go_enter Tryz.func215, Tryz.ntmps215
   go_wp2_with (go_at_call 286; refine (l03Placed_any _ _ hl).mono ?_; rintro e w' ⟨rfl, hb⟩)
   go_ret
   exact ⟨ret_bool (by rw [wordB, decide_eq_true h]; rfl), hb⟩
 · have h' : decide ((1 : Int) < (s.length : Int)) = false := by simp; omega
   go_enter Tryz.func215, Tryz.ntmps215
   go_wp2_with (fail)
   go_ret
   exact ⟨ret_bool (by rw [wordB, decide_eq_false h]; rfl), rfl⟩
theorem l11Full_v (p : Addr) (b : Bd) (r c : Int) (w : World) (v : Bool) (hv : b.full r c = v) (hp : BAt w p b) (hf : b.Fit) :
   Calls Tryz.prog 288 #[.pointer (some p), .int .i64 r, .int .i64 c] w fun e w' => e = .returned (.bool v) ∧ Dr w w' := hv ▸ l11Full_any p b r c w hp hf hf.size
theorem l11In_v (p : Addr) (b : Bd) (r c : Int) (w : World) (v : Bool) (hv : b.inB r c = v) (hp : BAt w p b) (hs : sizeB b.size = true) :
   Calls Tryz.prog 287 #[.pointer (some p), .int .i64 r, .int .i64 c] w fun e w' => e = .returned (.bool v) ∧ w = w' := hv ▸ l11In_any p b r c w hp hs
def fitGo (b : Bd) (row : Int) : Bool → Str → Int → Bool
 | fresh, [], _ => fresh
 | fresh, x :: r, c => if b.at_ row c == 46 then fitGo b row true r (c + 1) else if b.at_ row c == x then fitGo b row fresh r (c + 1) else false
def fitsB (b : Bd) (q : Pl) : Bool :=
 b.inB q.row q.col && (decide (q.col + q.word.length ≤ b.size) && (!b.full q.row (q.col - 1) && (!b.full q.row (q.col + q.word.length) && fitGo b q.row false q.word q.col)))
theorem l12Fits_any (p : Addr) (b : Bd) (q : Pl) (w : World) (hp : BAt w p b) (hf : b.Fit) (hl : q.word.length ≤ 2 ^ 38) :
   Calls Tryz.prog 216 #[.pointer (some p), q.v] w fun e w' => e = .returned (.bool (fitsB b q)) ∧ Below w.heap.size w w' := by
 obtain ⟨r, c, dn, s⟩ := q
 have hdef : fitsB b ⟨r, c, dn, s⟩ = (b.inB r c && (decide (c + s.length ≤ b.size) && (!b.full r (c - 1) && (!b.full r (c + s.length) && fitGo b r false s c)))) := rfl
 rw [hdef]
 clear hdef
 have h0 := hp.1
 have hs := hf.size
 have hblt := hp.lt
 have h5 := hf.lo
 have h15 := hf.hi
 simp only at hl
 cases hi : b.inB r c
 · go_enter Tryz.func216, Tryz.ntmps216
   simp only [Pl.v]
   go_wp2_with (fail)
   go_quiet ((go_at_call 287; exact quiet_eq (l11In_v p b _ _ _ _ hi ((hp.alloc _).drewN _) hs)))
   go_wp2
   go_ret
   exact ⟨rfl, below_drewN ((Below.refl _ _).alloc (Nat.le_refl _) _) _⟩
 · obtain ⟨⟨r0, r1⟩, c0, c1⟩ := inB_iff.1 hi
   have m1 : IntKind.i64.wrap (c + (s.length : Int)) = c + (s.length : Int) := IntWalk.i64_in _ (by omega)
   have m2 : IntKind.i64.wrap (c - 1) = c - 1 := IntWalk.i64_in _ (by omega)
   by_cases hn : c + (s.length : Int) ≤ b.size
   · have hn' : decide (b.size < c + (s.length : Int)) = false := by simp; omega
     cases hf1 : b.full r (c - 1)
     · cases hf2 : b.full r (c + s.length)
       all_goals
         go_enter Tryz.func216, Tryz.ntmps216
         simp only [Pl.v]
         go_wp2_with (fail)
         go_quiet (first
           | ((go_at_call 287; exact quiet_eq (l11In_v p b _ _ _ _ hi ((hp.alloc _).drewN _) hs)))
           | ((go_at_call 288; exact quiet_dr (l11Full_v p b _ _ _ _ (by first | rw [hf1] | rw [hf2]) ((hp.alloc _).drewN _) hf))))
       · have hend : (true && (decide (c + (s.length : Int) ≤ b.size) && (!false && (!false && fitGo b r false s c)))) = fitGo b r false s c := by simp [hn]
         have hend' := Lib.hid hend
         clear hend hn' m1 m2 hf1 hf2
         have hbx := (Blk.new w 61 #[.int .i64 r, .int .i64 c, .bool dn, sv s])
         have hpW := hp.alloc (.cells #[.int .i64 r, .int .i64 c, .bool dn, sv s] 61)
         have hbW := (Below.refl w.heap.size w).alloc (Nat.le_refl _) (.cells #[.int .i64 r, .int .i64 c, .bool dn, sv s] 61)
         obtain ⟨W, hW⟩ : ∃ W, W = w.alloc (.cells #[.int .i64 r, .int .i64 c, .bool dn, sv s] 61) := ⟨_, rfl⟩
         rw [← hW] at hbx hpW hbW
         rw [← hW]
         clear hW
         go_wp2_with (fail)
         go_loopw [6, 7] (fun fr i wr => ∃ (k : Nat) (f : Bool), k ≤ s.length ∧ i = .int .i64 k ∧ fr = .bool f ∧ Hid (fitGo b r false s c = fitGo b r f (s.drop k) (c + k)) ∧ Dr W wr) (fun _ i _ => s.length - (intOf i).toNat)
         case atStart => exact ⟨0, false, by omega, rfl, rfl, by unfold Hid; simp, ⟨_, rfl⟩⟩
         case round =>
           obtain ⟨k, f, hk, rfl, rfl, he, hd⟩ := hrel
           have hpr := hpW.dr hd
           have hbr := hbx.below hd.below hbx.lt
           have e0 : wr.cell? ⟨w.heap.size, 0, none⟩ = some (.int .i64 r) := hbr.cell 0
           have e1 : wr.cell? ⟨w.heap.size, 1, none⟩ = some (.int .i64 c) := hbr.cell 1
           have e3 : wr.cell? ⟨w.heap.size, 3, none⟩ = some (sv s) := hbr.cell 3
           by_cases hlt : k < s.length
           · have hk1 : (k : Int) < (s.length : Int) := by omega
             have hk0 : (0 : Int) ≤ (k : Int) := by omega
             have hik : b.inB r (c + k) = true := inB_iff.2 ⟨⟨r0, r1⟩, by omega, by omega⟩
             have hst : Hid (fitGo b r f (s.drop k) (c + k) = if b.at_ r (c + k) == 46 then fitGo b r true (s.drop (k + 1)) (c + k + 1) else if b.at_ r (c + k) == s[k] then fitGo b r f (s.drop (k + 1)) (c + k + 1) else false) := Lib.hid (by rw [drop_cons s k hlt]; rfl)
             have hq : (((b.at_ r (c + k)).toNat : Int) == 46) = (b.at_ r (c + k) == 46) := u8_eq _ 46
             have hq2 := u8_eq (b.at_ r (c + k)) s[k]
             obtain ⟨x, hx⟩ : ∃ x, x = b.at_ r (c + k) := ⟨_, rfl⟩
             rw [← hx] at hq hq2 hst
             have hx' := Lib.hid hx
             clear hx
             cases hx1 : (x == 46)
             · cases hx2 : (x == s[k])
               all_goals
                 rw [hx1] at hq
                 rw [hx2] at hq2
                 go_wp2_with (go_at_call 225; refine (l11At_any p b r _ _ hpr hf hik).mono ?_; rw [← hx'.out]; rintro e w2 ⟨rfl, hd2⟩; have e3' : w2.cell? ⟨w.heap.size, 3, none⟩ = some (sv s) := (hbr.below hd2.below hbr.lt).cell 3)
               · go_ret
                 exact ⟨ret_bool (by rw [hend'.out, he.out, hst.out, if_neg (by rw [hx1]; decide), if_neg (by rw [hx2]; decide)]), hbW.trans ((hd.trans hd2).below.mono hbW.size)⟩
               · go_roundw
                 case rel => exact ⟨k + 1, f, by omega, by go_num, rfl, Lib.hid (by rw [he.out, hst.out, if_neg (by rw [hx1]; decide), if_pos (by rw [hx2]), Int.natCast_add, Int.add_assoc]; rfl), hd.trans hd2⟩
                 case measure => simp [intOf]; omega
             · rw [hx1] at hq
               go_wp2_with (go_at_call 225; refine (l11At_any p b r _ _ hpr hf hik).mono ?_; rw [← hx'.out]; rintro e w2 ⟨rfl, hd2⟩)
               go_roundw
               case rel => exact ⟨k + 1, true, by omega, by go_num, rfl, Lib.hid (by rw [he.out, hst.out, if_pos (by rw [hx1]), Int.natCast_add, Int.add_assoc]; rfl), hd.trans hd2⟩
               case measure => simp [intOf]; omega
           · obtain rfl : k = s.length := by omega
             go_wp2_with (fail)
             go_ret
             exact ⟨ret_bool (by rw [hend'.out, he.out, List.drop_length]; rfl), hbW.trans (hd.below.mono hbW.size)⟩
       · go_wp2
         go_ret
         exact ⟨ret_bool (by simp), below_drewN ((Below.refl _ _).alloc (Nat.le_refl _) _) _⟩
     · go_enter Tryz.func216, Tryz.ntmps216
       simp only [Pl.v]
       go_wp2_with (fail)
       go_quiet (first
           | ((go_at_call 287; exact quiet_eq (l11In_v p b _ _ _ _ hi ((hp.alloc _).drewN _) hs)))
           | ((go_at_call 288; exact quiet_dr (l11Full_v p b _ _ _ _ (by first | rw [hf1] | rw [hf2]) ((hp.alloc _).drewN _) hf))))
       go_wp2
       go_ret
       exact ⟨ret_bool (by simp), below_drewN ((Below.refl _ _).alloc (Nat.le_refl _) _) _⟩
   · have hn' : decide (b.size < c + (s.length : Int)) = true := by simp; omega
     go_enter Tryz.func216, Tryz.ntmps216
     simp only [Pl.v]
     go_wp2_with (fail)
     go_quiet ((go_at_call 287; exact quiet_eq (l11In_v p b _ _ _ _ hi ((hp.alloc _).drewN _) hs)))
     go_wp2
     go_ret
     exact ⟨ret_bool (by simp [show ¬ (c + (s.length : Int) ≤ b.size) from by omega]), below_drewN ((Below.refl _ _).alloc (Nat.le_refl _) _) _⟩
end Go.Proofs.YtdkckikobefekaaGreatDoor
namespace Go.Proofs.YtdkckikobefekaaGreatDoor
open Go.RowKit RegP RegL RegV
set_option maxHeartbeats 2000000
set_option maxRecDepth 100000
def szGo : List Str → Int → Int
 | [], l => l
 | x :: r, l => if l - x.length < 0 then -1 else szGo r (l - x.length)
def szS (a : List Str) (l : Int) : Int := if l - a.length < 0 then -1 else szGo a (l - a.length)
theorem szStringS_any (A : Option Addr) (c : Nat) (a : List Str) (l : Int) (w : World) (h : Reads w w.heap.size 1 A a.length (a.map sv)) (hn : a.length ≤ 9223372036854775807) (hs : ∀ x ∈ a, x.length ≤ 9223372036854775807) (h0 : 0 ≤ l) (h1 : l ≤ 2 ^ 40) :
   Calls Tryz.prog 61 #[.slice A a.length c, .int .i64 l] w fun e w' => e = .returned (.int .i64 (szS a l)) ∧ Below w.heap.size w w' := by
 have hdef : Hid (szS a l = if l - a.length < 0 then -1 else szGo a (l - a.length)) := Lib.hid rfl
 obtain ⟨R, hR⟩ : ∃ R, R = szS a l := ⟨_, rfl⟩
 rw [← hR] at hdef ⊢
 clear hR
 by_cases hl : l - (a.length : Int) < 0
 · have hR : R = -1 := by rw [hdef.out, if_pos hl]
   subst hR
   go_enter Tryz.func61, Tryz.ntmps61
   go_wp2_with (fail)
   go_ret
   exact ⟨rfl, Below.refl _ _⟩
 · have hR : Hid (R = szGo a (l - a.length)) := Lib.hid (by rw [hdef.out, if_neg hl])
   clear hdef
   obtain ⟨l1, hl1⟩ : ∃ l1, l1 = l - (a.length : Int) := ⟨_, rfl⟩
   have hl0 : 0 ≤ l1 := by omega
   have hl2 : l1 ≤ 2 ^ 40 := by omega
   have hs' := Lib.hid hs
   have hl1' := Lib.hid hl1
   rw [← hl1] at hR hl
   clear hs
   go_enter Tryz.func61, Tryz.ntmps61
   go_wp2_with (fail)
   go_loopw [1, 5] (fun lv i wr => ∃ (k : Nat) (m : Int), k ≤ a.length ∧ i = .int .i64 k ∧ lv = .int .i64 m ∧ 0 ≤ m ∧ m ≤ 2 ^ 40 ∧ Hid (R = szGo (a.drop k) m) ∧ Below w.heap.size w wr) (fun _ i _ => a.length - (intOf i).toNat)
   case atStart => exact ⟨0, l1, by omega, rfl, by rw [hl1'.out], hl0, hl2, Lib.hid (by rw [hR.out]; rfl), Below.refl _ _⟩
   case round =>
     clear hl1 hl0 hl2 hR hl
     obtain ⟨k, m, hk, rfl, rfl, hm0, hm1, he, hb⟩ := hrel
     by_cases hkl : k < a.length
     · obtain ⟨ad, rfl, hd1, hc1⟩ := (h.below hb).el hkl
       have hst : Hid (R = if m - (a[k]).length < 0 then -1 else szGo (a.drop (k + 1)) (m - (a[k]).length)) := Lib.hid (by rw [he.out, drop_cons a k hkl]; rfl)
       have hxl := hs'.out _ (List.getElem_mem hkl)
       obtain ⟨x, hx⟩ : ∃ x, x = a[k] := ⟨_, rfl⟩
       rw [← hx] at hst hc1 hxl
       clear hx
       have hkk : (k : Int) < (a.length : Int) := by omega
       have hk0 : (0 : Int) ≤ (k : Int) := by omega
       have hz1 : ad.block < wr.heap.size := Nat.lt_of_lt_of_le hd1 hb.size
       by_cases hneg : m - (x.length : Int) < 0
       · have hR2 : R = -1 := by rw [hst.out, if_pos hneg]
         subst hR2
         go_wp2_with (fail)
         go_ret
         exact ⟨rfl, hb⟩
       · have hst2 : Hid (R = szGo (a.drop (k + 1)) (m - x.length)) := Lib.hid (by rw [hst.out, if_neg hneg])
         go_wp2_with (fail)
         go_roundw
         case rel => exact ⟨k + 1, m - x.length, by omega, by go_num, rfl, by omega, by omega, hst2, hb⟩
         case measure => simp [intOf]; omega
     · obtain rfl : k = a.length := by omega
       have hkk : ¬ (a.length : Int) < (a.length : Int) := by omega
       have hRt : Hid (R = m) := Lib.hid (by rw [he.out, List.drop_length]; rfl)
       go_wp2_with (fail)
       go_ret
       exact ⟨ret_int hRt.out.symm, hb⟩
theorem szS_ge (a : List Str) (l : Int) : -1 ≤ szS a l := by
 have key : ∀ (a : List Str) (l : Int), 0 ≤ l → -1 ≤ szGo a l := by
   intro a
   induction a with
   | nil => intro l h; simp only [szGo]; omega
   | cons x r ih =>
     intro l h
     simp only [szGo]
     split
     · omega
     · exact ih _ (by omega)
 unfold szS
 split
 · omega
 · exact key _ _ (by omega)
theorem szLexicon_any (A : Option Addr) (c : Nat) (a : List Str) (l : Int) (w : World) (h : Reads w w.heap.size 1 A a.length (a.map sv)) (hn : a.length ≤ 9223372036854775807) (hs : ∀ x ∈ a, x.length ≤ 9223372036854775807) (h0 : 0 ≤ l) (h1 : l ≤ 2 ^ 40) :
   Calls Tryz.prog 11 #[.agg #[.slice A a.length c], .int .i64 l] w fun e w' => e = .returned (.int .i64 (szS a l)) ∧ Below w.heap.size w w' := by
 have k1 := fun (W : World) (hW : Below w.heap.size w W) => szStringS_any A c a l W ((h.below hW).more hW.size) hn hs h0 h1
 have hge := szS_ge a l
 obtain ⟨R, hR⟩ : ∃ R, R = szS a l := ⟨_, rfl⟩
 rw [← hR] at k1 hge ⊢
 clear hR h hs
 have hb := (Below.refl w.heap.size w).alloc (Nat.le_refl _) (.cells #[.slice A a.length c] 24)
 by_cases hneg : R < 0
 · obtain rfl : R = -1 := by omega
   go_enter Tryz.func11, Tryz.ntmps11
   go_wp2_with (go_at_call 61; refine (k1 _ hb).mono ?_; rintro e w1 ⟨rfl, hb1⟩)
   go_ret
   exact ⟨rfl, hb.trans (hb1.mono hb.size)⟩
 · go_enter Tryz.func11, Tryz.ntmps11
   go_wp2_with (go_at_call 61; refine (k1 _ hb).mono ?_; rintro e w1 ⟨rfl, hb1⟩)
   go_ret
   exact ⟨rfl, hb.trans (hb1.mono hb.size)⟩
def szB (b : Bd) (l : Int) : Int := if l - b.prem.length < 0 then -1 else if l - b.prem.length - b.cells.length < 0 then -1 else l - b.prem.length - b.cells.length
theorem szBoard_any (b : Bd) (l : Int) (w : World) (h0 : 0 ≤ l) (h1 : l ≤ 2 ^ 40) (hp : b.prem.length ≤ 9223372036854775807) (hc : b.cells.length ≤ 9223372036854775807) :
   Calls Tryz.prog 13 #[b.v, .int .i64 l] w fun e w' => e = .returned (.int .i64 (szB b l)) ∧ Below w.heap.size w w' := by
 have hdef : Hid (szB b l = if l - b.prem.length < 0 then -1 else if l - b.prem.length - b.cells.length < 0 then -1 else l - b.prem.length - b.cells.length) := Lib.hid rfl
 obtain ⟨R, hR⟩ : ∃ R, R = szB b l := ⟨_, rfl⟩
 rw [← hR] at hdef ⊢
 clear hR
 obtain ⟨sz, bp, bc⟩ := b
 simp only [Bd.v] at *
 have hb := (Below.refl w.heap.size w).alloc (Nat.le_refl _) (.cells #[.int .i64 sz, sv bp, sv bc] 29)
 by_cases n1 : l - (bp.length : Int) < 0
 · have hR : R = -1 := by rw [hdef.out, if_pos n1]
   subst hR
   go_enter Tryz.func13, Tryz.ntmps13
   go_wp2_with (fail)
   go_ret
   exact ⟨rfl, hb⟩
 · by_cases n2 : l - (bp.length : Int) - (bc.length : Int) < 0
   · have hR : R = -1 := by rw [hdef.out, if_neg n1, if_pos n2]
     subst hR
     go_enter Tryz.func13, Tryz.ntmps13
     go_wp2_with (fail)
     go_ret
     exact ⟨rfl, hb⟩
   · have hR : R = l - bp.length - bc.length := by rw [hdef.out, if_neg n1, if_neg n2]
     subst hR
     clear hdef
     go_enter Tryz.func13, Tryz.ntmps13
     go_wp2_with (fail)
     go_ret
     exact ⟨rfl, hb⟩
theorem run_lit1 {P : Program} {T e : TypeId} {z : Value} {size bytes : Nat} (hT : SlT P T e z size bytes) (x : Value) (cs : Array Value) (hcs : x.cells = cs) (hx : cs.size = size) (hs : size ≤ 1000) (w : World) :
   (Instr.buildSlice T 1 #[(0, x)]).run P w = .ok (.slice (some ⟨w.heap.size, 0, none⟩) 1 1) (w.alloc (.cells cs e)) := by
 subst hcs
 cases hq : P.info? e with
 | none => have := hT.hi; rw [hq] at this; cases this
 | some i =>
   have hii := hT.hi
   rw [hq] at hii
   simp only [Option.map_some, Option.some.injEq, Prod.mk.injEq] at hii
   obtain ⟨hz, hsz, hbt⟩ := hii
   have hp := hT.pos
   refine run_buildSlice w T e 1 _ x.cells i z hT.ht hq hz (by rw [hsz]; omega) (by rw [hsz]; omega) ?_
   obtain ⟨r, hr, hrs, hrk⟩ := Go.Great.fill_dense (s := i.size) (by rw [hsz]; exact hp) [x] 0 ((Array.range (1 * i.size)).map (z.cells[· % z.cells.size]!)) (by simp [hsz, hx]) (by simp)
   have hl : (#[((0 : Nat), x)] : Array (Nat × Value)).toList = (([x].zipIdx 0).map fun x => (x.2, x.1)) := rfl
   rw [hl, hr]
   congr 1
   refine Array.ext_getElem? fun k => ?_
   rw [hrk k]
   by_cases hk : k < i.size
   · rw [if_pos ⟨by omega, by simpa using hk⟩, Nat.div_eq_of_lt hk, Nat.mod_eq_of_lt hk]
     rfl
   · rw [if_neg (by simp; omega), Array.getElem?_eq_none (by simp; omega), Array.getElem?_eq_none (by rw [hx]; omega)]
theorem own_keep {w w' : World} {base e size n : Nat} {v : Value} {xs : List Value} (h : w.ownsRow base e size v n xs) (hk : ∀ k, v.ownBlock = some k → w'.heap[k]? = w.heap[k]?) : w'.ownsRow base e size v n xs := by
 refine ⟨h.1, h.2.imp id ?_⟩
 rintro ⟨g, cap, cur, rfl, h1, h2, h3⟩
 exact ⟨g, cap, cur, rfl, h1, (hk g rfl).trans h2, h3⟩
theorem own_far {w : World} {base e size n : Nat} {v : Value} {xs : List Value} (h : w.ownsRow base e size v n xs) {p : Addr} (hp : v.ownBlock ≠ some p.block) (u : Value) : (w.setCell p u).ownsRow base e size v n xs :=
 own_keep h fun k hk => Below.heap_setCell w p u k (fun e => hp (by rw [← e]; exact hk))
end Go.Proofs.YtdkckikobefekaaGreatDoor
namespace Go.Proofs.YtdkckikobefekaaGreatDoor
namespace RegV
open Go.RowKit RegP RegL
def SA (b a : Nat) (pre : List Nat) (W : World) (ob : Obj) (R : Value → World → Prop) (σ : Nat → Value) (L : Nat → Bool) (w : World) : Prop :=
 (L a = true ∧ L b = true ∧ (∀ e ∈ pre, L e = true) ∧ R (σ a) w) ∨ (L a = false ∧ L b = true ∧ w = W.alloc ob) ∨ (L a = false ∧ L b = false ∧ w = W)
section
variable {b a i : Nat} {pre : List Nat} {W w w' : World} {ob : Obj} {R : Value → World → Prop} {σ : Nat → Value} {L : Nat → Bool} {u : Value}
theorem SA.start : SA b a pre W ob R σ (fun _ => false) W := .inr (.inr ⟨rfl, rfl, rfl⟩)
theorem SA.keep (h : SA b a pre W ob R σ L w) (ha : i ≠ a) (hb : i ≠ b) : SA b a pre W ob R σ (upd L i) w := by
 have e1 : upd L i a = L a := upd_ne L (Ne.symm ha)
 have e2 : upd L i b = L b := upd_ne L (Ne.symm hb)
 rcases h with ⟨h1, h2, h3, h4⟩ | ⟨h1, h2, h3⟩ | ⟨h1, h2, h3⟩
 · refine .inl ⟨e1.trans h1, e2.trans h2, fun e he => ?_, h4⟩
   unfold upd; simp [h3 e he]
 · exact .inr (.inl ⟨e1.trans h1, e2.trans h2, h3⟩)
 · exact .inr (.inr ⟨e1.trans h1, e2.trans h2, h3⟩)
theorem SA.early (h : SA b a pre W ob R σ L w) (hi : i ∈ pre) (hL : L i = false) {p : World → Prop} (h0 : p W) (h1 : p (W.alloc ob)) : p w := by
 rcases h with ⟨_, _, h3, _⟩ | ⟨_, _, h3⟩ | ⟨_, _, h3⟩
 · rw [h3 i hi] at hL; cases hL
 · rw [h3]; exact h1
 · rw [h3]; exact h0
theorem SA.cell (h : SA b a pre W ob R σ L w) (hi : i ∈ pre) (hL : L i = false) {ad : Addr} {x : Option Value} (h0 : W.cell? ad = x) (h1 : (W.alloc ob).cell? ad = x) : w.cell? ad = x := h.early (p := fun w => w.cell? ad = x) hi hL h0 h1
theorem SA.atb (h : SA b a pre W ob R σ L w) (hL : L b = false) : w = W := by
 rcases h with ⟨_, h2, _⟩ | ⟨_, h2, _⟩ | ⟨_, _, h3⟩
 · rw [h2] at hL; cases hL
 · rw [h2] at hL; cases hL
 · exact h3
theorem SA.tob (h : SA b a pre W ob R σ L w) (hL : L b = false) (hab : a ≠ b) : SA b a pre W ob R σ (upd L b) (W.alloc ob) := by
 rcases h with ⟨_, h2, _⟩ | ⟨_, h2, _⟩ | ⟨h1, _, _⟩
 · rw [h2] at hL; cases hL
 · rw [h2] at hL; cases hL
 · exact .inr (.inl ⟨(upd_ne L hab).trans h1, upd_same L b, rfl⟩)
theorem SA.ata (h : SA b a pre W ob R σ L w) (hL : L a = false) (hb : L b = true) : w = W.alloc ob := by
 rcases h with ⟨h1, _⟩ | ⟨_, _, h3⟩ | ⟨_, h2, _⟩
 · rw [h1] at hL; cases hL
 · exact h3
 · rw [h2] at hb; cases hb
theorem SA.toa (hb : L b = true) (hp : ∀ e ∈ pre, L e = true) (hR : R u w') : SA b a pre W ob R (sub σ a u) (upd L a) w' := by
 refine .inl ⟨upd_same L a, ?_, fun e he => ?_, by rw [sub_same]; exact hR⟩
 · unfold upd; simp [hb]
 · unfold upd; simp [hp e he]
theorem SA.fin (h : SA b a pre W ob R σ L w) (hL : L a = true) : R (σ a) w := by
 rcases h with ⟨_, _, _, h4⟩ | ⟨h1, _⟩ | ⟨h1, _⟩
 · exact h4
 · rw [h1] at hL; cases hL
 · rw [h1] at hL; cases hL
end
def Stable (p : Value → World → Prop) : Prop := ∀ u w1 w2, Below w1.heap.size w1 w2 → p u w1 → p u w2
structure SG (W : World) (fs : List (Nat × (Value → World → Prop))) (σ : Nat → Value) (L : Nat → Bool) (w' : World) : Prop where
 low : Below W.heap.size W w'
 has : ∀ p ∈ fs, L p.1 = true → p.2 (σ p.1) w'
section
variable {W w1 w2 : World} {fs : List (Nat × (Value → World → Prop))} {σ : Nat → Value} {L : Nat → Bool} {i : Nat} {u : Value}
theorem SG.start : SG W fs σ (fun _ => false) W.drew := ⟨(Below.refl _ _).drew, fun _ _ h => by cases h⟩
theorem SG.keep (h : SG W fs σ L w1) (hi : ∀ p ∈ fs, p.1 ≠ i) : SG W fs σ (upd L i) w1 :=
 ⟨h.low, fun p hp hL => h.has p hp (by rwa [upd_ne L (hi p hp)] at hL)⟩
theorem SG.call (h : SG W fs σ L w1) (hst : ∀ p ∈ fs, Stable p.2) (hb : Below w1.heap.size w1 w2) : SG W fs σ L w2 :=
 ⟨h.low.trans (hb.mono h.low.size), fun p hp hL => hst p hp _ _ _ hb (h.has p hp hL)⟩
theorem SG.put (h : SG W fs σ L w1) (hi : ∀ p ∈ fs, p.1 = i → p.2 u w1) : SG W fs (sub σ i u) (upd L i) w1 := by
 refine ⟨h.low, fun p hp hL => ?_⟩
 by_cases e : p.1 = i
 · have := hi p hp e
   rw [e, sub_same]; exact this
 · rw [sub_ne σ u e]
   exact h.has p hp (by rwa [upd_ne L e] at hL)
end
end RegV
namespace RegV
open Go.RowKit RegP RegL
def SBel (W : World) : (Nat → Bool) → World → Prop := fun _ w => Below W.heap.size W w
end RegV
end Go.Proofs.YtdkckikobefekaaGreatDoor
namespace Go.Proofs.YtdkckikobefekaaGreatDoor
open Go.RowKit RegP
set_option maxHeartbeats 400000
theorem l03Can_any (pile word : Str) (w : World) (hp : pile.length ≤ 2 ^ 37) (hl : word.length ≤ 2 ^ 37) :
   Calls Tryz.prog 309 #[sv pile, sv word] w fun e w' => e = .returned (.bool (canB pile word)) ∧ Below w.heap.size w w' := by
 go_enter Tryz.func309, Tryz.ntmps309
 go_wp2_with (first | (go_at_call 341; refine (l03Need_any _ _ _ (by omega) hl).mono ?_; rintro e w2 ⟨rfl, hb⟩) | (go_at_call 342; refine (l03Blanks_any _ _ (by omega)).mono ?_; rintro e w3 ⟨rfl, rfl⟩))
 go_ret
 exact ⟨ret_bool (by unfold canB; rw [Bool.eq_iff_iff]), hb⟩
end Go.Proofs.YtdkckikobefekaaGreatDoor
namespace Go.Proofs.YtdkckikobefekaaGreatDoor
open Go.RowKit RegP RegL
set_option maxHeartbeats 400000
def upC (c : UInt8) : UInt8 := c - 32
def waysF : Str → Str → List Str
 | _, [] => [[]]
 | p, c :: r => (if takeB p [63] then (waysF (takeS p [63]) r).map (upC c :: ·) else []) ++ (if takeB p [c] then (waysF (takeS p [c]) r).map (c :: ·) else [])
theorem waysF_length : ∀ (p word : Str), (waysF p word).length ≤ 2 ^ word.length
 | _, [] => by simp [waysF]
 | p, c :: r => by
   have h1 := waysF_length (takeS p [63]) r
   have h2 := waysF_length (takeS p [c]) r
   rw [waysF, List.length_append, List.length_cons, Nat.pow_succ]
   split <;> split <;> simp <;> omega
theorem waysF_len : ∀ (p word : Str), ∀ x ∈ waysF p word, x.length = word.length
 | _, [], x, h => by simp [waysF] at h; subst h; rfl
 | p, c :: r, x, h => by
   rw [waysF, List.mem_append] at h
   rcases h with h | h
   · split at h
     · obtain ⟨y, hy, rfl⟩ := List.mem_map.1 h; simp [waysF_len _ _ y hy]
     · cases h
   · split at h
     · obtain ⟨y, hy, rfl⟩ := List.mem_map.1 h; simp [waysF_len _ _ y hy]
     · cases h
theorem run_string_lit {P : Program} (src dst e : TypeId) (hs : P.underlying src = some (.slice e)) (he : P.underlying e = some (.int .u8)) (hd : P.underlying dst = some .string) (w : World) (c : UInt8) :
   (convert src dst (.slice (some ⟨w.heap.size, 0, none⟩) 1 1)).run P (w.alloc (.cells #[bv c] e)) = .ok (sv [c]) (w.alloc (.cells #[bv c] e)) :=
 run_string_own (w.alloc (.cells #[bv c] e)) src dst e hs he hd (base := w.heap.size) (l := [c]) (World.ownsRow_lit w #[bv c] 1 (Nat.le_refl _) (by unfold maxLen; omega) rfl)
theorem ways_loop1 (c : UInt8) (hc : smallB c = true) : Value.int .u8 ((c.toNat : Int) - 97 + 65) = bv (upC c) := by
 simp only [smallB, Bool.and_eq_true, decide_eq_true_eq] at hc
 have : (upC c).toNat = c.toNat - 32 := by unfold upC; rw [UInt8.toNat_sub_of_le]; simp; rw [UInt8.le_iff_toNat_le]; simp; omega
 show _ = Value.int .u8 ((upC c).toNat : Int)
 rw [this]
 refine vi_eq (by omega)
set_option maxHeartbeats 4000000 in
theorem l03Ways_any : ∀ (n : Nat) (word pile : Str) (w : World), word.length = n → n ≤ 20 → word.all smallB = true → pile.length ≤ 2 ^ 37 →
   Calls Tryz.prog 310 #[sv pile, sv word] w fun e w' => ∃ v, e = .returned v ∧ w'.ownsRow w.heap.size 9 1 v (waysF pile word).length ((waysF pile word).map sv) ∧ Below w.heap.size w w' := by
 intro n
 induction n with
 | zero =>
   intro word pile w hn _ _ hp
   obtain rfl : word = [] := List.eq_nil_of_length_eq_zero hn
   go_enter Tryz.func310, Tryz.ntmps310
   go_wp2_with (fail)
   go_ret
   exact ⟨_, rfl, World.ownsRow_lit w #[sv []] 1 (Nat.le_refl _) (by unfold maxLen; omega) rfl, (Below.refl _ _).alloc (Nat.le_refl _) _⟩
 | succ n ih =>
   intro word pile w hn h20 hsm hp
   obtain ⟨c, r, rfl⟩ : ∃ c r, word = c :: r := by cases word with | nil => simp at hn | cons c r => exact ⟨c, r, rfl⟩
   have hr : Hid (r.length = n) := Lib.hid (by simpa using hn)
   have hr20 : r.length ≤ 19 := by rw [hr.out]; omega
   clear hn
   simp only [List.all_cons, Bool.and_eq_true] at hsm
   obtain ⟨hc, hrs⟩ := hsm
   have hcb := hc
   simp only [smallB, Bool.and_eq_true, decide_eq_true_eq] at hcb
   obtain ⟨hcb1, hcb2⟩ := hcb
   have H := Lib.hid ih
   clear ih
   go_enter Tryz.func310, Tryz.ntmps310
   go_wp2_with (fail)
   refine (l03Take_any pile [63] _ (by omega) (by simp)).mono ?_
   obtain ⟨ok, hok⟩ : ∃ ok, ok = takeB pile [63] := ⟨_, rfl⟩
   have hok' := Lib.hid hok
   have hlt := takeS_length pile [63]
   obtain ⟨less, hle⟩ : ∃ less, less = takeS pile [63] := ⟨_, rfl⟩
   have hle' := Lib.hid hle
   rw [← hle] at hlt
   rw [← hok, ← hle]
   clear hok hle
   rintro e w1 ⟨rfl, hb1⟩
   have hw1 : Below w.heap.size w w1 := ((Below.refl _ _).alloc (Nat.le_refl _) _).trans (hb1.mono (by simp))
   have hz1 : w.heap.size < w1.heap.size := by have := hb1.size; simp at this; omega
   have own1 : w1.ownsRow w.heap.size 9 1 (.slice (some ⟨w.heap.size, 0, none⟩) 0 0) 0 [] := own_call (World.ownsRow_lit w #[] 0 (Nat.le_refl _) (by unfold maxLen; omega) rfl) hb1
   go_upto_if 24 with (fail)
   go_cut [5] (fun o wx => ∃ xs : List Str, xs = (if takeB pile [63] then (waysF (takeS pile [63]) r).map (upC c :: ·) else []) ∧ wx.ownsRow w.heap.size 9 1 o xs.length (xs.map sv) ∧ Below w.heap.size w wx)
   case first =>
     cases ok
     · go_wp2_with (fail)
       go_meet
       exact ⟨[], by rw [← hok'.out]; simp, own1, hw1⟩
     · go_wp2_with (fail)
       refine (H.out r less _ hr.out (by omega) hrs (by omega)).mono ?_
       rintro e w2 ⟨v2, rfl, own2, hb2⟩
       have hwl := waysF_length less r
       have hwb : 2 ^ r.length ≤ 2 ^ 19 := Nat.pow_le_pow_right (by omega) hr20
       have hall := waysF_len less r
       obtain ⟨xs, hxs⟩ : ∃ xs, xs = waysF less r := ⟨_, rfl⟩
       rw [← hxs] at own2 hwl hall
       have hxs' := Lib.hid hxs
       clear hxs
       obtain ⟨A2, c2, rfl, hc2, hr2⟩ := own_sl own2
       have own1' := own_call own1 hb2
       have hlo2 := own_lo own2
       have hw2 := hw1.trans (hb2.mono hw1.size)
       have hnw2 : w1.heap.size ≤ w2.heap.size := hb2.size
       clear own1 hb1
       go_wp2_with (fail)
       go_loopw [5, 10] (fun o i wr => ∃ k : Nat, k ≤ xs.length ∧ i = .int .i64 k ∧ wr.ownsRow w.heap.size 9 1 o k (((xs.take k).map (upC c :: ·)).map sv) ∧ Reads wr w2.heap.size 1 A2 xs.length (xs.map sv) ∧ Below w.heap.size w wr ∧ w2.heap.size ≤ wr.heap.size ∧ (∀ q, o.ownBlock = some q → q < w1.heap.size ∨ w2.heap.size ≤ q)) (fun _ i _ => xs.length - (intOf i).toNat)
       case atStart => exact ⟨0, by omega, rfl, own1', hr2, hw2, Nat.le_refl _, fun q hq => by simp [Value.ownBlock] at hq; have := hw1.size; omega⟩
       case round =>
         obtain ⟨k, hk, rfl, own3, hr3, hw3, hz3, hq3⟩ := hrel
         by_cases hkl : k < xs.length
         · obtain ⟨ad, rfl, hadb, hc1⟩ := hr3.el hkl
           have hx1 := hall xs[k] (List.getElem_mem _)
           have hlit := run_string_lit (P := Tryz.prog) 209 9 5 Tryz.underlying209 Tryz.underlying5 Tryz.underlying9
           go_wp2_with (fail)
           obtain ⟨W, hW⟩ : ∃ W, W = wr.drew := ⟨_, rfl⟩
           have hcW : ∀ o1 o2 : Obj, W.cell? (ad.add k) = some (sv xs[k]) ∧ (W.alloc o1).cell? (ad.add k) = some (sv xs[k]) ∧ ((W.alloc o1).alloc o2).cell? (ad.add k) = some (sv xs[k]) := by
             intro o1 o2
             have hbk : (ad.add k).block < W.heap.size := by rw [block_of_add, hW]; show ad.block < wr.heap.size; omega
             have h0 : W.cell? (ad.add k) = some (sv xs[k]) := by rw [hW]; exact hc1
             have h1 : (W.alloc o1).cell? (ad.add k) = some (sv xs[k]) := by rw [World.cell?_alloc_lt _ _ _ hbk]; exact h0
             exact ⟨h0, h1, by rw [World.cell?_alloc_lt _ _ _ (by simp; omega)]; exact h1⟩
           refine wp_region_l 9 12 (S2 11 5 4 W (W.alloc (.cells #[bv (upC c)] 5)) ((W.alloc (.cells #[bv (upC c)] 5)).alloc (.cells #[sv (upC c :: xs[k])] 9))) (by kernel_rfl) (by kernel_rfl) (by rw [← hW]; exact S2.none_) ?_
           have hW' := Lib.hid hW
           clear hW
           simp only [qqT, List.take_zero, qqD, List.drop_zero]
           iterate 4
             apply pl_step rfl
             · intro L w' hS h1 h2 K hK
               clear h2
               go_wp2
               exact hS.keep (by decide) (by decide)
             simp only [Act.put, qqS, qqC, qqZ]
           rw [ways_loop1 c hc]
           -- the literal of one byte
           apply pl_step rfl
           · intro L w' hS h1 h2 K hK
             clear h2
             obtain rfl := hS.at0 h1
             go_wp2
             exact hS.to1 h1 (by decide)
           simp only [Act.put, qqS, qqC, qqZ]
           -- its string
           apply pl_step rfl
           · intro L w' hS h1 h2 K hK
             have h4 : L 4 = true := h2 4 (List.contains_iff_mem.1 (by kernel_rfl))
             clear h2
             obtain rfl := hS.at1 h4 h1
             have hl := hlit W (upC c)
             go_wp2
             exact hS.keep (by decide) (by decide)
           simp only [Act.put, qqS, qqC, qqZ]
           iterate 3
             apply pl_step rfl
             · intro L w' hS h1 h2 K hK
               clear h2
               go_wp2
               exact hS.keep (by decide) (by decide)
             simp only [Act.put, qqS, qqC, qqZ]
           -- the load
           apply pl_step rfl
           · intro L w' hS h1 h2 K hK
             clear h2
             have hc2 : w'.cell? (ad.add k) = some (sv xs[k]) := hS.old (p := fun w' => w'.cell? (ad.add k) = some (sv xs[k])) (hcW default default).1 (hcW _ default).2.1 (hcW _ _).2.2
             go_wp2
             exact hS.keep (by decide) (by decide)
           simp only [Act.put, qqS, qqC, qqZ]
           apply pl_step rfl
           · intro L w' hS h1 h2 K hK
             clear h2
             go_wp2
             exact hS.keep (by decide) (by decide)
           simp only [Act.put, qqS, qqC, qqZ]
           -- the literal of one string
           apply pl_step rfl
           · intro L w' hS h1 h2 K hK
             have h4 : L 4 = true := h2 4 (List.contains_iff_mem.1 (by kernel_rfl))
             have h5 : L 5 = true := h2 5 (List.contains_iff_mem.1 (by kernel_rfl))
             clear h2
             obtain rfl := hS.at1' h4 h1
             go_wp2
             exact S2.to2 h4 h5 (by decide) (by decide)
           simp only [Act.put, qqS, qqC, qqZ]
           refine pl_nil ?_
           intro w' hS
           obtain rfl := hS.at2 rfl
           clear hS hcW hlit
           have own3' : (W.alloc (.cells #[bv (upC c)] 5)).ownsRow w.heap.size 9 1 u5 k (((xs.take k).map (upC c :: ·)).map sv) := by rw [hW'.out]; exact World.ownsRow.alloc own3 _
           have hzW : W.heap.size = wr.heap.size := by rw [hW'.out]; rfl
           have hwW : Below w.heap.size w W := by rw [hW'.out]; exact hw3.drew
           have hrW : Reads W w2.heap.size 1 (some ad) xs.length (xs.map sv) := by rw [hW'.out]; exact hr3.drew
           go_wp2_with (at_builtin; refine wpList_app' strT rfl (.tmp 35) (.tmp 46) rfl u5 k _ rfl w.heap.size own3' [sv (upC c :: xs[k])] rfl (by simp [Value.oneCell']) (W.heap.size + 1) (by simp) rfl (by omega) (by omega) (by have := hwW.size; simp; omega) ?_; intro v4 w4 own4 hg4 hat4)
           go_roundw
           case rel =>
             have hz4 := hg4.size
             try simp at hz4
             refine ⟨k + 1, by omega, by go_num, own_cast own4 (by rw [List.take_succ_eq_append_getElem hkl, List.map_append, List.map_append]; rfl) rfl, ?_, ?_, by omega, ?_⟩
             · exact ((hrW.alloc (by omega) _).grown2 hlo2 hg4 (by simp; omega) (fun q hq => hq3 q hq))
             · exact (hwW.alloc hwW.size _).grown hg4 (by have := hwW.size; simp; omega) (fun q hq => (own3'.lt q hq).1)
             · intro q hq
               rcases hat4 with e | e
               · rw [e] at hq; exact hq3 q hq
               · rw [e] at hq; simp at hq; right; omega
           case measure => simp [intOf]; omega
         · obtain rfl : k = xs.length := by omega
           rw [List.take_length] at own3
           go_wp2_with (fail)
           go_meet
           refine ⟨xs.map (upC c :: ·), ?_, own_cast own3 rfl (by simp), hw3⟩
           rw [← hok'.out, ← hle'.out, hxs'.out]; rfl
   case rest =>
     obtain ⟨ys, hys, ownO, hwO⟩ := hcut
     have hys' := Lib.hid hys
     have hzy : ys.length ≤ 2 ^ r.length := by
       rw [hys]
       have := waysF_length (takeS pile [63]) r
       split
       · simpa using this
       · simp
     have hwb : 2 ^ r.length ≤ 2 ^ 19 := Nat.pow_le_pow_right (by omega) hr20
     clear hys hok' hle' hlt hb1 own1 hz1 hw1
     go_wp2_with (fail)
     refine (l03Take_any pile [c] _ (by omega) (by simp)).mono ?_
     obtain ⟨ok, hok⟩ : ∃ ok, ok = takeB pile [c] := ⟨_, rfl⟩
     have hok' := Lib.hid hok
     have hlt := takeS_length pile [c]
     obtain ⟨less, hle⟩ : ∃ less, less = takeS pile [c] := ⟨_, rfl⟩
     have hle' := Lib.hid hle
     rw [← hle] at hlt
     rw [← hok, ← hle]
     clear hok hle
     rintro e w1 ⟨rfl, hb1⟩
     have own1 := own_call ownO hb1
     have hw1 : Below w.heap.size w w1 := hwO.trans (hb1.mono hwO.size)
     have hend : waysF pile (c :: r) = ys ++ (if ok then (waysF less r).map (c :: ·) else []) := by
       rw [waysF, ← hys'.out, hok'.out, hle'.out]
     have hend' := Lib.hid hend
     clear hend hys' hok' hle' hb1 ownO hwO
     cases ok
     · go_wp2_with (fail)
       go_ret
       exact ⟨_, rfl, own_cast own1 (by rw [hend'.out]; simp) (by rw [hend'.out]; simp), hw1⟩
     · go_wp2_with (fail)
       refine (H.out r less _ hr.out (by omega) hrs (by omega)).mono ?_
       rintro e w2 ⟨v2, rfl, own2, hb2⟩
       have hwl := waysF_length less r
       have hall := waysF_len less r
       obtain ⟨xs, hxs⟩ : ∃ xs, xs = waysF less r := ⟨_, rfl⟩
       rw [← hxs] at own2 hwl hall
       have hxs' := Lib.hid hxs
       clear hxs
       obtain ⟨A2, c2, rfl, hc2, hr2⟩ := own_sl own2
       have own1' := own_call own1 hb2
       have hlo2 := own_lo own2
       have hw2 := hw1.trans (hb2.mono hw1.size)
       have hnw2 : w1.heap.size ≤ w2.heap.size := hb2.size
       have hq0 : ∀ q, u5.ownBlock = some q → q < w1.heap.size ∨ w2.heap.size ≤ q := fun q hq => .inl (own1.lt q hq).2
       clear own1
       go_wp2_with (fail)
       go_loopw [5, 12] (fun o i wr => ∃ k : Nat, k ≤ xs.length ∧ i = .int .i64 k ∧ wr.ownsRow w.heap.size 9 1 o (ys.length + k) (ys.map sv ++ ((xs.take k).map (c :: ·)).map sv) ∧ Reads wr w2.heap.size 1 A2 xs.length (xs.map sv) ∧ Below w.heap.size w wr ∧ w2.heap.size ≤ wr.heap.size ∧ (∀ q, o.ownBlock = some q → q < w1.heap.size ∨ w2.heap.size ≤ q)) (fun _ i _ => xs.length - (intOf i).toNat)
       case atStart => exact ⟨0, by omega, rfl, own_cast own1' (by simp) (by simp), hr2, hw2, Nat.le_refl _, hq0⟩
       case round =>
         obtain ⟨k, hk, rfl, own3, hr3, hw3, hz3, hq3⟩ := hrel
         by_cases hkl : k < xs.length
         · obtain ⟨ad, rfl, hadb, hc1⟩ := hr3.el hkl
           have hx1 := hall xs[k] (List.getElem_mem _)
           go_wp2_with (fail)
           obtain ⟨W, hW⟩ : ∃ W, W = wr.drew := ⟨_, rfl⟩
           have hcW : ∀ o1 : Obj, W.cell? (ad.add k) = some (sv xs[k]) ∧ (W.alloc o1).cell? (ad.add k) = some (sv xs[k]) := by
             intro o1
             have hbk : (ad.add k).block < W.heap.size := by rw [block_of_add, hW]; show ad.block < wr.heap.size; omega
             have h0 : W.cell? (ad.add k) = some (sv xs[k]) := by rw [hW]; exact hc1
             exact ⟨h0, by rw [World.cell?_alloc_lt _ _ _ hbk]; exact h0⟩
           refine wp_region_l 9 9 (S1 8 W (W.alloc (.cells #[sv (c :: xs[k])] 9))) (by kernel_rfl) (by kernel_rfl) (by rw [← hW]; exact S1.none_) ?_
           have hW' := Lib.hid hW
           clear hW
           simp only [qqT, List.take_zero, qqD, List.drop_zero]
           iterate 6
             apply pl_step rfl
             · intro L w' hS h1 h2 K hK
               clear h2
               go_wp2
               exact hS.keep (by decide)
             simp only [Act.put, qqS, qqC, qqZ]
           apply pl_step rfl
           · intro L w' hS h1 h2 K hK
             clear h2
             have hc2 : w'.cell? (ad.add k) = some (sv xs[k]) := hS.old (p := fun w' => w'.cell? (ad.add k) = some (sv xs[k])) (hcW default).1 (hcW _).2
             go_wp2
             exact hS.keep (by decide)
           simp only [Act.put, qqS, qqC, qqZ]
           apply pl_step rfl
           · intro L w' hS h1 h2 K hK
             clear h2
             go_wp2
             exact hS.keep (by decide)
           simp only [Act.put, qqS, qqC, qqZ]
           apply pl_step rfl
           · intro L w' hS h1 h2 K hK
             clear h2
             obtain rfl := hS.at0 h1
             go_wp2
             exact S1.to1
           simp only [Act.put, qqS, qqC, qqZ]
           refine pl_nil ?_
           intro w' hS
           obtain rfl := hS.at1 rfl
           clear hS hcW
           have own3' : W.ownsRow w.heap.size 9 1 u5 (ys.length + k) (ys.map sv ++ ((xs.take k).map (c :: ·)).map sv) := by rw [hW'.out]; exact own3
           have hzW : W.heap.size = wr.heap.size := by rw [hW'.out]; rfl
           have hwW : Below w.heap.size w W := by rw [hW'.out]; exact hw3.drew
           have hrW : Reads W w2.heap.size 1 (some ad) xs.length (xs.map sv) := by rw [hW'.out]; exact hr3.drew
           go_wp2_with (at_builtin; refine wpList_app' strT rfl (.tmp 66) (.tmp 74) rfl u5 (ys.length + k) _ rfl w.heap.size own3' [sv (c :: xs[k])] rfl (by simp [Value.oneCell']) W.heap.size (by simp) rfl (by omega) (by omega) (by have := hwW.size; simp; omega) ?_; intro v4 w4 own4 hg4 hat4)
           go_roundw
           case rel =>
             have hz4 := hg4.size
             refine ⟨k + 1, by omega, by go_num, own_cast own4 (by rw [List.take_succ_eq_append_getElem hkl, List.map_append, List.map_append, List.append_assoc]; rfl) rfl, ?_, ?_, by omega, ?_⟩
             · exact (hrW.grown2 hlo2 hg4 (by omega) (fun q hq => hq3 q hq))
             · exact hwW.grown hg4 (by have := hwW.size; omega) (fun q hq => (own3'.lt q hq).1)
             · intro q hq
               rcases hat4 with e | e
               · rw [e] at hq; exact hq3 q hq
               · rw [e] at hq; simp at hq; right; omega
           case measure => simp [intOf]; omega
         · obtain rfl : k = xs.length := by omega
           rw [List.take_length] at own3
           go_wp2_with (fail)
           go_ret
           refine ⟨_, rfl, own_cast own3 (by rw [hend'.out, ← hxs'.out]; simp) (by rw [hend'.out, ← hxs'.out]; simp), hw3⟩
end Go.Proofs.YtdkckikobefekaaGreatDoor
