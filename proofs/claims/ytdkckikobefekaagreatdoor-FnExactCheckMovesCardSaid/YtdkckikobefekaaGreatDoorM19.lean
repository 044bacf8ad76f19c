/-
  Bounds of scores and of factors, in plain Lean; Moves (plays with scores) as rows of cells; what TryMoves answers; Contracts: equal plays, moves, lists of moves, where they are the same (the laws package); Contract: marks laid into a list of moves (the laws package); Contract: are the marks held in a list of moves, where they are (the laws package); The state of a region that draws its order and calls functions: of some operations it is told what holds of their values; What holds of the values in the regions of the laws on moves; the law's own blocks; the answer of TryMoves as one list; Contracts: the size of a list of moves; a play, a move, a list of moves copied (the laws package); Contract: a copy of a list of moves (the laws package); What holds of the values in the regions of the law on checked moves; Contracts: moves in a list (layer 16 of both packages); slices.Index, slices.Contains at moves.
  Conditions: none; both slices read as one list of moves; the list is the caller's own; a number of common size; the slice reads as a marked list; a number of common size; the slice reads as a list of moves; numbers of common size; the slice reads as a list of moves.
-/
import Derived.Test.YtdkckikobefekaaGreatDoorM18
import Derived.Test.YtdkckikobefekaaGreatDoorM06
import Derived.Test.YtdkckikobefekaaGreatDoorM10
import Derived.Test.YtdkckikobefekaaGreatDoorM05
import Derived.Test.YtdkckikobefekaaGreatDoorM04
import Derived.Test.YtdkckikobefekaaGreatDoorM07
import Derived.Laws.StructEq
import Derived.DeepKeys
namespace Go.Proofs.YtdkckikobefekaaGreatDoor
theorem OnB_len {b : Bd} (hf : b.Fit) {q : Pl} (h : OnB b q) : q.word.length ≤ 15 := by
 rcases Nat.eq_zero_or_pos q.word.length with h0 | h0
 · omega
 · have a0 := h 0 h0
   have a1 := h (q.word.length - 1) (by omega)
   rw [inB_iff] at a0 a1
   have := hf.hi
   omega
theorem wdF_bd (p : UInt8) : 1 ≤ wdF p ∧ wdF p ≤ 3 := by
 unfold wdF
 split
 · omega
 · split <;> omega
theorem ltF_bd (p : UInt8) : 1 ≤ ltF p ∧ ltF p ≤ 3 := by
 unfold ltF
 split
 · omega
 · split <;> omega
theorem wfL_step {l : Str} {k : Nat} (h : k < l.length) : wfL (l.take (k + 1)) = wfL (l.take k) * wdF l[k] := by
 unfold wfL
 rw [List.take_add_one, List.getElem?_eq_getElem h, List.foldl_append]
 rfl
theorem wfL_pow (l : Str) : ∀ k : Nat, 1 ≤ wfL (l.take k) ∧ wfL (l.take k) ≤ 3 ^ k
 | 0 => by simp [wfL]
 | k + 1 => by
   obtain ⟨h1, h2⟩ := wfL_pow l k
   by_cases h : k < l.length
   · rw [wfL_step h]
     obtain ⟨d1, d2⟩ := wdF_bd l[k]
     constructor
     · have := Int.mul_le_mul h1 d1 (by omega) (by omega : (0 : Int) ≤ wfL (l.take k))
       omega
     · rw [Int.pow_succ]
       exact Int.mul_le_mul h2 d2 (by omega) (by omega)
   · rw [List.take_of_length_le (by omega : l.length ≤ k + 1), ← List.take_of_length_le (by omega : l.length ≤ k)]
     rw [Int.pow_succ]
     omega
theorem wfL_bd {l : Str} (hl : l.length ≤ 15) (k : Nat) : 1 ≤ wfL (l.take k) ∧ wfL (l.take k) ≤ 14348907 := by
 by_cases hk : k ≤ 15
 · obtain ⟨h1, h2⟩ := wfL_pow l k
   refine ⟨h1, Int.le_trans h2 ?_⟩
   have h3 : (3 : Nat) ^ k ≤ 3 ^ 15 := Nat.pow_le_pow_right (by omega) hk
   have h4 : (3 : Int) ^ k = ((3 ^ k : Nat) : Int) := by push_cast; rfl
   rw [h4]
   have : (3 : Nat) ^ 15 = 14348907 := by decide
   omega
 · obtain ⟨h1, h2⟩ := wfL_pow l 15
   rw [List.take_of_length_le (by omega)] at h1 h2 ⊢
   exact ⟨h1, by simpa using h2⟩
theorem wfL_all {l : Str} (hl : l.length ≤ 15) : 1 ≤ wfL l ∧ wfL l ≤ 14348907 := by
 have := wfL_bd hl l.length
 rwa [List.take_length] at this
theorem sum_bd {M : Int} (hM : 0 ≤ M) : ∀ {l : List Int}, (∀ x ∈ l, 0 ≤ x ∧ x ≤ M) → 0 ≤ l.sum ∧ l.sum ≤ M * l.length
 | [], _ => by simp
 | x :: r, h => by
   obtain ⟨h1, h2⟩ := h x (List.mem_cons_self ..)
   obtain ⟨h3, h4⟩ := sum_bd hM (l := r) fun y hy => h y (List.mem_cons_of_mem _ hy)
   rw [List.sum_cons, List.length_cons]
   refine ⟨by omega, ?_⟩
   have : M * ((r.length + 1 : Nat) : Int) = M * r.length + M := by push_cast; rw [Int.mul_add, Int.mul_one]
   omega
theorem sum_take_bd {M : Int} (hM : 0 ≤ M) {l : List Int} (h : ∀ x ∈ l, 0 ≤ x ∧ x ≤ M) (k : Nat) : 0 ≤ (l.take k).sum ∧ (l.take k).sum ≤ M * l.length := by
 obtain ⟨h1, h2⟩ := sum_bd hM (l := l.take k) fun x hx => h x (List.mem_of_mem_take hx)
 refine ⟨h1, Int.le_trans h2 (Int.mul_le_mul_of_nonneg_left ?_ hM)⟩
 have := List.length_take_le' k l
 omega
theorem lt_val {t : TS} (ho : TsOk t) (p c : UInt8) : 0 ≤ ltF p * valT t c ∧ ltF p * valT t c ≤ 60 := by
 obtain ⟨h1, h2⟩ := ltF_bd p
 have h3 := ho.lo c
 have h4 := ho.hi c
 refine ⟨Int.mul_nonneg (by omega) h3, ?_⟩
 have := Int.mul_le_mul h2 h4 h3 (by omega : (0 : Int) ≤ 3)
 omega
theorem lsS_mem {t : TS} (ho : TsOk t) (b : Bd) (q : Pl) : ∀ x ∈ lsS t b q, 0 ≤ x ∧ x ≤ 60 := fun x hx => by
 unfold lsS at hx
 obtain ⟨i, _, rfl⟩ := List.mem_map.1 hx
 split
 · exact lt_val ho _ _
 · have h3 := ho.lo (q.word.getD i 0)
   have h4 := ho.hi (q.word.getD i 0)
   omega
theorem lsS_length (t : TS) (b : Bd) (q : Pl) : (lsS t b q).length = q.word.length := by simp [lsS]
theorem mainF_wf (b : Bd) (q : Pl) : mainF b q = wfL ((freshL b q).map fun i : Nat => b.prm q.row (q.col + i)) := by
 unfold mainF wfL
 rw [List.foldl_map]
theorem freshL_15 {b : Bd} (hf : b.Fit) {q : Pl} (h : OnB b q) : (freshL b q).length ≤ 15 := Nat.le_trans (freshTo_length b q _) (OnB_len hf h)
def crE (t : TS) (b : Bd) (q : Pl) (i k : Nat) : Int := if ((upTo b (q.col + i) q.row.toNat : Nat) : Int) + k = q.row then ltF (b.prm q.row (q.col + i)) * valT t (q.word.getD i 0) else valT t ((crossAt b q i).getD k 0)
def crTo (t : TS) (b : Bd) (q : Pl) (i m : Nat) : Int := ((List.range m).map (crE t b q i)).sum
theorem crS_to (t : TS) (b : Bd) (q : Pl) (i : Nat) : crS t b q i = crTo t b q i (crossAt b q i).length * wdF (b.prm q.row (q.col + i)) := rfl
theorem crTo_step (t : TS) (b : Bd) (q : Pl) (i m : Nat) : crTo t b q i (m + 1) = crTo t b q i m + crE t b q i m := by
 unfold crTo
 rw [List.range_succ, List.map_append, List.sum_append]
 simp
theorem crE_bd {t : TS} (ho : TsOk t) (b : Bd) (q : Pl) (i k : Nat) : 0 ≤ crE t b q i k ∧ crE t b q i k ≤ 60 := by
 unfold crE
 split
 · exact lt_val ho _ _
 · have h3 := ho.lo ((crossAt b q i).getD k 0)
   have h4 := ho.hi ((crossAt b q i).getD k 0)
   omega
theorem crTo_bd {t : TS} (ho : TsOk t) (b : Bd) (q : Pl) (i m : Nat) : 0 ≤ crTo t b q i m ∧ crTo t b q i m ≤ 60 * m := by
 obtain ⟨h1, h2⟩ := sum_bd (M := 60) (by omega) (l := (List.range m).map (crE t b q i)) fun x hx => by
   obtain ⟨k, _, rfl⟩ := List.mem_map.1 hx
   exact crE_bd ho b q i k
 rw [List.length_map, List.length_range] at h2
 exact ⟨h1, h2⟩
theorem crS_bd {t : TS} (ho : TsOk t) (b : Bd) (q : Pl) (i : Nat) : 0 ≤ crS t b q i ∧ crS t b q i ≤ 2880 := by
 rw [crS_to]
 obtain ⟨h1, h2⟩ := crTo_bd ho b q i (crossAt b q i).length
 have hl : (crossAt b q i).length ≤ 16 := crossS_length _ _ _ _
 obtain ⟨d1, d2⟩ := wdF_bd (b.prm q.row (q.col + i))
 refine ⟨Int.mul_nonneg h1 (by omega), ?_⟩
 have := Int.mul_le_mul (show crTo t b q i (crossAt b q i).length ≤ 960 by omega) d2 (by omega) (by omega : (0 : Int) ≤ 960)
 omega
theorem main_bd {t : TS} (ho : TsOk t) {b : Bd} (hf : b.Fit) {q : Pl} (h : OnB b q) : 0 ≤ (lsS t b q).sum * mainF b q ∧ (lsS t b q).sum * mainF b q ≤ 13000000000 := by
 obtain ⟨h1, h2⟩ := sum_bd (M := 60) (by omega) (lsS_mem ho b q)
 rw [lsS_length] at h2
 have hl := OnB_len hf h
 obtain ⟨d1, d2⟩ := wfL_all (l := (freshL b q).map fun i : Nat => b.prm q.row (q.col + i)) (by rw [List.length_map]; exact freshL_15 hf h)
 rw [← mainF_wf] at d1 d2
 refine ⟨Int.mul_nonneg h1 (by omega), ?_⟩
 have := Int.mul_le_mul (show (lsS t b q).sum ≤ 900 by omega) d2 (by omega) (by omega : (0 : Int) ≤ 900)
 omega
theorem partsS_mem {t : TS} (ho : TsOk t) {b : Bd} (hf : b.Fit) {q : Pl} (h : OnB b q) : ∀ x ∈ partsS t b q, 0 ≤ x ∧ x ≤ 13000000000 := fun x hx => by
 unfold partsS at hx
 rcases List.mem_cons.1 hx with e | hx
 · subst e; exact main_bd ho hf h
 · obtain ⟨i, _, rfl⟩ := List.mem_map.1 hx
   obtain ⟨h1, h2⟩ := crS_bd ho b q i
   omega
theorem partsS_length {t : TS} {b : Bd} (hf : b.Fit) {q : Pl} (h : OnB b q) : (partsS t b q).length ≤ 16 := by
 unfold partsS
 rw [List.length_cons, List.length_map]
 have h1 := List.length_filter_le (fun i => decide (1 < (crossAt b q i).length)) (freshL b q)
 have h2 := freshL_15 hf h
 omega
def partsTo (t : TS) (b : Bd) (q : Pl) (k : Nat) : List Int := ((lsS t b q).sum * mainF b q) :: (((freshL b q).take k).filter fun i => decide (1 < (crossAt b q i).length)).map (crS t b q)
theorem partsS_to (t : TS) (b : Bd) (q : Pl) : partsS t b q = partsTo t b q (freshL b q).length := by
 unfold partsS partsTo
 rw [List.take_length]
theorem partsTo_step (t : TS) (b : Bd) (q : Pl) (k : Nat) (h : k < (freshL b q).length) : partsTo t b q (k + 1) = if decide (1 < (crossAt b q (freshL b q)[k]).length) then partsTo t b q k ++ [crS t b q (freshL b q)[k]] else partsTo t b q k := by
 unfold partsTo
 rw [List.take_add_one, List.getElem?_eq_getElem h, List.filter_append]
 by_cases hx : 1 < (crossAt b q (freshL b q)[k]).length
 · simp [hx]
 · simp [hx]
end Go.Proofs.YtdkckikobefekaaGreatDoor
namespace Go.Proofs.YtdkckikobefekaaGreatDoor
open Go.RowKit RegP RegL RegV
abbrev Mv := Pl × Int
def mvC (m : Mv) : List Value := [.int .i64 m.1.row, .int .i64 m.1.col, .bool m.1.down, sv m.1.word, .int .i64 m.2]
def mvsC (ms : List Mv) : List Value := ms.flatMap mvC
theorem mvsC_append (a b : List Mv) : mvsC (a ++ b) = mvsC a ++ mvsC b := by simp [mvsC]
theorem mvsC_one (p : Mv) : mvsC [p] = mvC p := by simp [mvsC]
theorem mvsC_length (a : List Mv) : (mvsC a).length = a.length * 5 := by
 induction a with
 | nil => rfl
 | cons p r ih =>
   show (mvC p ++ mvsC r).length = _
   rw [List.length_append, ih, List.length_cons]
   show 5 + r.length * 5 = (r.length + 1) * 5
   omega
theorem mvsC_get (ps : List Mv) (k j : Nat) (h : k < ps.length) (hj : j < 5) : (mvsC ps)[k * 5 + j]? = (mvC ps[k])[j]? := by
 induction ps generalizing k with
 | nil => simp at h
 | cons p r ih =>
   have hl : (mvC p).length = 5 := rfl
   show (mvC p ++ mvsC r)[_]? = _
   cases k with
   | zero => rw [List.getElem?_append_left (by omega)]; simp
   | succ k =>
     rw [List.getElem?_append_right (by omega), hl, show (k + 1) * 5 + j - 5 = k * 5 + j by omega, ih k (by simpa using h)]
     rfl
theorem Reads.mv {w : World} {B g o : Nat} {ps : List Mv} (h : Reads w B 5 (some ⟨g, o, none⟩) ps.length (mvsC ps)) {k : Nat} (hk : k < ps.length) :
   w.cell? ⟨g, o + k * 5, none⟩ = some (.int .i64 ps[k].1.row) ∧ w.cell? ⟨g, o + k * 5 + 1, none⟩ = some (.int .i64 ps[k].1.col) ∧ w.cell? ⟨g, o + k * 5 + 2, none⟩ = some (.bool ps[k].1.down) ∧ w.cell? ⟨g, o + k * 5 + 3, none⟩ = some (sv ps[k].1.word) ∧ w.cell? ⟨g, o + k * 5 + 4, none⟩ = some (.int .i64 ps[k].2) := by
 obtain ⟨ad, e, _, hc⟩ := h.2 (by omega)
 injection e with e
 subst e
 have hadd : ∀ n, (⟨g, o, none⟩ : Addr).add n = ⟨g, o + n, none⟩ := fun n => by unfold Addr.add; split <;> simp_all
 have h0 := hc (k * 5 + 0) _ (by rw [mvsC_get ps k 0 hk (by omega)]; rfl)
 have h1 := hc (k * 5 + 1) _ (by rw [mvsC_get ps k 1 hk (by omega)]; rfl)
 have h2 := hc (k * 5 + 2) _ (by rw [mvsC_get ps k 2 hk (by omega)]; rfl)
 have h3 := hc (k * 5 + 3) _ (by rw [mvsC_get ps k 3 hk (by omega)]; rfl)
 have h4 := hc (k * 5 + 4) _ (by rw [mvsC_get ps k 4 hk (by omega)]; rfl)
 rw [hadd] at h0 h1 h2 h3 h4
 exact ⟨h0, h1, h2, h3, h4⟩
theorem moveT : SlT Tryz.prog 43 124 (.agg #[.int .i64 0, .int .i64 0, .bool false, sv [], .int .i64 0]) 5 48 := ⟨Tryz.underlying43, by kernel_rfl, rfl, by decide⟩
def movesL (t : TS) (b : Bd) (ws : List Str) (rack : Str) : List Mv := (playsL b ws rack).map fun p => (p, scoreS t (flatB b p) (flatP p))
def movesCode (t : TS) (b : Bd) (ws : List Str) (rack : Str) : Int := if tsB t then playsCode b ws rack else 1
theorem movesL_length (t : TS) (b : Bd) (ws : List Str) (rack : Str) : (movesL t b ws rack).length = (playsL b ws rack).length := List.length_map ..
theorem plays_400 {b : Bd} {ws : List Str} {rack : Str} (hc : playsCode b ws rack = 0) : (playsL b ws rack).length ≤ 400 := by
 rw [playsL_length]
 unfold playsCode at hc
 split at hc
 · split at hc
   · cases hc
   · omega
 · cases hc
theorem movesL_take (t : TS) (b : Bd) (ws : List Str) (rack : Str) (k : Nat) (h : k < (playsL b ws rack).length) :
   (movesL t b ws rack).take (k + 1) = (movesL t b ws rack).take k ++ [((playsL b ws rack)[k], scoreS t (flatB b (playsL b ws rack)[k]) (flatP (playsL b ws rack)[k]))] := by
 have h' : k < (movesL t b ws rack).length := by rw [movesL_length]; exact h
 rw [List.take_succ_eq_append_getElem h']
 simp [movesL]
def MovesPost (w : World) (t : TS) (b : Bd) (ws : List Str) (rack : Str) (e : Ending) (w' : World) : Prop :=
 ∃ v, e = .returned (.tuple #[v, .int .i64 (movesCode t b ws rack)]) ∧ (movesCode t b ws rack = 0 → w'.ownsRow w.heap.size 124 5 v (movesL t b ws rack).length (mvsC (movesL t b ws rack))) ∧ (movesCode t b ws rack ≠ 0 → v = .slice none 0 0) ∧ Below w.heap.size w w'
theorem MovesPost.no {w w' : World} {t : TS} {b : Bd} {ws : List Str} {rack : Str} {c : Int} (h : movesCode t b ws rack = c) (hc : c ≠ 0) (hb : Below w.heap.size w w') : MovesPost w t b ws rack (.returned (.tuple #[.slice none 0 0, .int .i64 c])) w' :=
 ⟨_, by rw [h], fun h2 => absurd (h ▸ h2) hc, fun _ => rfl, hb⟩
theorem MovesPost.yes {w w' : World} {t : TS} {b : Bd} {ws : List Str} {rack : Str} {v : Value} (h : movesCode t b ws rack = 0) (hv : w'.ownsRow w.heap.size 124 5 v (movesL t b ws rack).length (mvsC (movesL t b ws rack))) (hb : Below w.heap.size w w') : MovesPost w t b ws rack (.returned (.tuple #[v, .int .i64 0])) w' :=
 ⟨v, by rw [h], fun _ => hv, fun h2 => absurd h h2, hb⟩
set_option maxHeartbeats 2000000
set_option maxRecDepth 100000
def mvV (m : Mv) : Value := .agg #[.int .i64 m.1.row, .int .i64 m.1.col, .bool m.1.down, sv m.1.word, .int .i64 m.2]
theorem eqPlay_same (q : Pl) (w : World) :
   Calls Tryz.prog 142 #[q.v, q.v] w fun e w' => e = .returned (.bool true) ∧ Below w.heap.size w w' := by
 obtain ⟨r, c, d, s⟩ := q
 simp only [Pl.v]
 have hb := ((Below.refl w.heap.size w).alloc (Nat.le_refl _) (.cells #[.int .i64 r, .int .i64 c, .bool d, sv s] 61)).alloc (by simp) (.cells #[.int .i64 r, .int .i64 c, .bool d, sv s] 61)
 have h1 : (r != r) = false := by simp
 have h2 : (c != c) = false := by simp
 have h3 : (d != d) = false := by simp
 have h4 : (s == s) = true := by simp
 go_enter Tryz.func142, Tryz.ntmps142
 go_wp2_with (fail)
 go_ret
 exact ⟨rfl, hb⟩
theorem eqMove_same (m : Mv) (w : World) :
   Calls Tryz.prog 72 #[mvV m, mvV m] w fun e w' => e = .returned (.bool true) ∧ Below w.heap.size w w' := by
 have kp := fun w => eqPlay_same m.1 w
 obtain ⟨⟨r, c, d, s⟩, x⟩ := m
 simp only [Pl.v, mvV] at *
 obtain ⟨W, hW⟩ : ∃ W, W = (w.alloc (.cells #[.int .i64 r, .int .i64 c, .bool d, sv s, .int .i64 x] 124)).alloc (.cells #[.int .i64 r, .int .i64 c, .bool d, sv s, .int .i64 x] 124) := ⟨_, rfl⟩
 have hb : Below w.heap.size w W := by rw [hW]; exact ((Below.refl _ _).alloc (Nat.le_refl _) _).alloc (by simp) _
 have hX : Blk W w.heap.size 124 #[.int .i64 r, .int .i64 c, .bool d, sv s, .int .i64 x] := by rw [hW]; exact (Blk.new w _ _).alloc _
 have hY : Blk W (w.heap.size + 1) 124 #[.int .i64 r, .int .i64 c, .bool d, sv s, .int .i64 x] := by rw [hW]; exact Blk.new1 w _ _ _
 have h1 : (x != x) = false := by simp
 go_enter Tryz.func72, Tryz.ntmps72
 go_wp2_with (go_at_call 142; rw [← hW]; refine (kp _).mono ?_; rintro e w1 ⟨rfl, hb1⟩
              have hX1 := hX.below hb1 hX.lt
              have hY1 := hY.below hb1 hY.lt
              have x4 : w1.cell? ⟨w.heap.size, 4, none⟩ = some (.int .i64 x) := hX1.cell 4
              have y4 : w1.cell? ⟨w.heap.size + 1, 4, none⟩ = some (.int .i64 x) := hY1.cell 4)
 go_ret
 exact ⟨rfl, hb.trans (hb1.mono hb.size)⟩
theorem eqMoveS_same (A1 A2 : Option Addr) (c1 c2 : Nat) (ms : List Mv) (w : World) (h1 : Reads w w.heap.size 5 A1 ms.length (mvsC ms)) (h2 : Reads w w.heap.size 5 A2 ms.length (mvsC ms)) (hf1 : ∀ ad, A1 = some ad → ∃ g, ad = ⟨g, 0, none⟩) (hf2 : ∀ ad, A2 = some ad → ∃ g, ad = ⟨g, 0, none⟩) (hn : ms.length ≤ 2 ^ 40) :
   Calls Tryz.prog 23 #[.slice A1 ms.length c1, .slice A2 ms.length c2] w fun e w' => e = .returned (.bool true) ∧ Below w.heap.size w w' := by
 have hl1 : ((ms.length : Int) != (ms.length : Int)) = false := by simp
 go_enter Tryz.func23, Tryz.ntmps23
 go_wp2_with (fail)
 go_loopw [5] (fun i wr => ∃ k : Nat, k ≤ ms.length ∧ i = .int .i64 k ∧ Below w.heap.size w wr) (fun i _ => ms.length - (intOf i).toNat)
 case atStart => exact ⟨0, by omega, rfl, Below.refl _ _⟩
 case round =>
   obtain ⟨k, hk, rfl, hb⟩ := hrel
   by_cases hkl : k < ms.length
   · have r1 := (h1.below hb).more hb.size
     have r2 := (h2.below hb).more hb.size
     obtain ⟨ad1, e1, hd1, _⟩ := r1.2 (by omega)
     obtain ⟨g1, rfl⟩ := hf1 ad1 e1
     obtain ⟨ad2, e2, hd2, _⟩ := r2.2 (by omega)
     obtain ⟨g2, rfl⟩ := hf2 ad2 e2
     subst e1 e2
     obtain ⟨x0, x1, x2, x3, x4⟩ := r1.mv hkl
     obtain ⟨y0, y1, y2, y3, y4⟩ := r2.mv hkl
     simp only [Nat.zero_add] at x0 x1 x2 x3 x4 y0 y1 y2 y3 y4
     have km := fun w => eqMove_same ms[k] w
     obtain ⟨m, hm⟩ : ∃ m, m = ms[k] := ⟨_, rfl⟩
     rw [← hm] at km x0 x1 x2 x3 x4 y0 y1 y2 y3 y4
     clear hm r1 r2
     obtain ⟨⟨r, c, d, s⟩, x⟩ := m
     simp only [mvV] at km x0 x1 x2 x3 x4 y0 y1 y2 y3 y4
     have hg1 : g1 < wr.heap.size := hd1
     have hg2 : g2 < wr.heap.size := hd2
     have hkk : (k : Int) < (ms.length : Int) := by omega
     have hk0 : (0 : Int) ≤ (k : Int) := by omega
     go_wp2_with (fail)
     refine wp_region_b 10 (by kernel_rfl) (by kernel_rfl) ?_
     simp only [qqT, List.take_zero, qqD, List.drop_zero]
     iterate 10
       apply pc_step rfl
       · intro w4 hb4 K hK
         have a0 := (hb4.cell (p := ⟨g1, k * 5, none⟩) hg1).trans x0
         have a1 := (hb4.cell (p := ⟨g1, k * 5 + 1, none⟩) hg1).trans x1
         have a2 := (hb4.cell (p := ⟨g1, k * 5 + 2, none⟩) hg1).trans x2
         have a3 := (hb4.cell (p := ⟨g1, k * 5 + 3, none⟩) hg1).trans x3
         have a4 := (hb4.cell (p := ⟨g1, k * 5 + 4, none⟩) hg1).trans x4
         have b0 := (hb4.cell (p := ⟨g2, k * 5, none⟩) hg2).trans y0
         have b1 := (hb4.cell (p := ⟨g2, k * 5 + 1, none⟩) hg2).trans y1
         have b2 := (hb4.cell (p := ⟨g2, k * 5 + 2, none⟩) hg2).trans y2
         have b3 := (hb4.cell (p := ⟨g2, k * 5 + 3, none⟩) hg2).trans y3
         have b4 := (hb4.cell (p := ⟨g2, k * 5 + 4, none⟩) hg2).trans y4
         go_wp2_with (first | (go_at_call 72; refine (km _).mono ?_; rintro e w5 ⟨rfl, hb5⟩))
         all_goals first | exact hb4 | exact hb4.trans (hb5.mono hb4.size) | exact hb4.trans (hd5.below.mono hb4.size)
       simp only [Act.put, qqS, qqC, qqZ]
     refine pc_nil ?_
     intro w4 hb4
     have hb5 := hb.trans (hb4.mono hb.size)
     go_wp2_with (fail)
     go_roundw
     case rel => exact ⟨k + 1, by omega, by go_num, hb5⟩
     case measure => simp [intOf]; omega
   · obtain rfl : k = ms.length := by omega
     have hkk : ¬ (ms.length : Int) < (ms.length : Int) := by omega
     go_wp2_with (fail)
     go_ret
     exact ⟨rfl, hb⟩
theorem set5 (X R : List Value) (o0 o1 o2 o3 o4 a b c d e : Value) (n : Nat) (h : X.length = n) :
   (((((X ++ o0 :: o1 :: o2 :: o3 :: o4 :: R).set n a).set (n + 1) b).set (n + 2) c).set (n + 3) d).set (n + 4) e = X ++ a :: b :: c :: d :: e :: R := by
 subst h
 simp
end Go.Proofs.YtdkckikobefekaaGreatDoor
namespace Go.Proofs.YtdkckikobefekaaGreatDoor
namespace RegV
open Go.RowKit RegP RegL
structure SX (W : World) (T : Nat → Option (Value → World → Prop)) (σ : Nat → Value) (L : Nat → Bool) (w : World) : Prop where
 low : Below W.heap.size W w
 cp : ∀ i P, T i = some P → L i = true → P (σ i) w
def StabX (T : Nat → Option (Value → World → Prop)) : Prop := ∀ i P, T i = some P → ∀ u w w', P u w → Below w.heap.size w w' → P u w'
section
variable {W w w' : World} {T : Nat → Option (Value → World → Prop)} {σ : Nat → Value} {L : Nat → Bool} {i : Nat} {u : Value} {P : Value → World → Prop}
theorem SX.start : SX W T (fun _ => undef) (fun _ => false) W.drew := ⟨(Below.refl _ _).drew, fun _ _ _ h => by cases h⟩
theorem SX.below (h : SX W T σ L w) (hs : StabX T) (hb : Below w.heap.size w w') : SX W T σ L w' :=
 ⟨h.low.trans (hb.mono h.low.size), fun i P hi hL => hs i P hi _ _ _ (h.cp i P hi hL) hb⟩
theorem SX.keep (h : SX W T σ L w) (hi : T i = none) : SX W T σ (upd L i) w :=
 ⟨h.low, fun j P hj hL => by
   have hne : j ≠ i := fun e => by rw [e, hi] at hj; cases hj
   rw [upd_ne L hne] at hL
   exact h.cp j P hj hL⟩
theorem SX.put (h : SX W T σ L w) (hs : StabX T) (hb : Below w.heap.size w w') (hi : T i = some P) (hu : P u w') : SX W T (sub σ i u) (upd L i) w' := by
 have h := h.below hs hb
 refine ⟨h.low, fun j Q hj hL => ?_⟩
 by_cases hne : j = i
 · subst hne
   rw [hi] at hj
   injection hj with hj
   subst hj
   rw [sub_same]
   exact hu
 · rw [upd_ne L hne] at hL
   rw [sub_ne _ _ hne]
   exact h.cp j Q hj hL
theorem SX.get (h : SX W T σ L w) (hi : T i = some P) (hL : L i = true) : P (σ i) w := h.cp i P hi hL
end
end RegV
end Go.Proofs.YtdkckikobefekaaGreatDoor
namespace Go.Proofs.YtdkckikobefekaaGreatDoor
open Go.RowKit RegP RegL RegV
def PLx (B n : Nat) (V : List Value) : Value → World → Prop := fun u x => ∃ v, u = .agg #[v] ∧ x.ownsRow B 9 1 v n V
def PTs (B : Nat) (t : TS) : Value → World → Prop := fun u x => ∃ v1 v2, u = .agg #[sv t.letters, v1, v2, .int .i64 t.blanks] ∧ TsOwn B t v1 v2 x
def PRs (B : Nat) (e : TypeId) (size n : Nat) (C : Int) (xs : List Value) : Value → World → Prop := fun u x => ∃ v, u = .tuple #[v, .int .i64 C] ∧ x.ownsRow B e size v n xs
def PAs (B : Nat) (e : TypeId) (size n : Nat) (xs : List Value) : Value → World → Prop := fun u x => x.ownsRow B e size u n xs
theorem PLx.st {B n : Nat} {V : List Value} {u : Value} {w w' : World} (h : PLx B n V u w) (hb : Below w.heap.size w w') : PLx B n V u w' := by
 obtain ⟨v, h1, h2⟩ := h
 exact ⟨v, h1, own_call h2 hb⟩
theorem PTs.st {B : Nat} {t : TS} {u : Value} {w w' : World} (h : PTs B t u w) (hb : Below w.heap.size w w') : PTs B t u w' := by
 obtain ⟨v1, v2, h1, h2⟩ := h
 exact ⟨v1, v2, h1, h2.below hb⟩
theorem PRs.st {B : Nat} {e : TypeId} {size n : Nat} {C : Int} {xs : List Value} {u : Value} {w w' : World} (h : PRs B e size n C xs u w) (hb : Below w.heap.size w w') : PRs B e size n C xs u w' := by
 obtain ⟨v, h1, h2⟩ := h
 exact ⟨v, h1, own_call h2 hb⟩
theorem PAs.st {B : Nat} {e : TypeId} {size n : Nat} {xs : List Value} {u : Value} {w w' : World} (h : PAs B e size n xs u w) (hb : Below w.heap.size w w') : PAs B e size n xs u w' := own_call h hb
theorem PLx.mk {B n : Nat} {V : List Value} {v : Value} {x : World} (h : x.ownsRow B 9 1 v n V) : PLx B n V (.agg #[v]) x := ⟨v, rfl, h⟩
theorem PTs.mk {B : Nat} {t : TS} {v1 v2 : Value} {x : World} (h : TsOwn B t v1 v2 x) : PTs B t (.agg #[sv t.letters, v1, v2, .int .i64 t.blanks]) x := ⟨v1, v2, rfl, h⟩
theorem PRs.mk {B : Nat} {e : TypeId} {size n : Nat} {C : Int} {xs : List Value} {v : Value} {x : World} (h : x.ownsRow B e size v n xs) : PRs B e size n C xs (.tuple #[v, .int .i64 C]) x := ⟨v, rfl, h⟩
theorem TsOwn.base {B B' : Nat} {t : TS} {v1 v2 : Value} {w : World} (h : TsOwn B t v1 v2 w) (hb : B' ≤ B) : TsOwn B' t v1 v2 w := ⟨own_base h.1 hb, own_base h.2.1 hb, h.2.2⟩
def T3c (B n : Nat) (V : List Value) (t : TS) (e : TypeId) (size m : Nat) (C : Int) (xs : List Value) : Nat → Option (Value → World → Prop) := fun i =>
 match i with
 | 1 => some (PLx B n V)
 | 3 => some (PTs B t)
 | 7 => some (PRs B e size m C xs)
 | 8 => some (PRs B e size m C xs)
 | 9 => some (PAs B e size m xs)
 | 11 => some (PAs B e size m xs)
 | _ => none
def T1c (B : Nat) (e : TypeId) (size m : Nat) (C : Int) (xs : List Value) : Nat → Option (Value → World → Prop) := fun i =>
 match i with
 | 5 => some (PRs B e size m C xs)
 | 6 => some (PRs B e size m C xs)
 | 7 => some (PAs B e size m xs)
 | 9 => some (PAs B e size m xs)
 | _ => none
def TL (B n : Nat) (V : List Value) : Nat → Option (Value → World → Prop) := fun i =>
 match i with
 | 2 => some (PLx B n V)
 | _ => none
def TT (B : Nat) (t : TS) : Nat → Option (Value → World → Prop) := fun i =>
 match i with
 | 2 => some (PTs B t)
 | _ => none
theorem T3c.stab {B n : Nat} {V : List Value} {t : TS} {e : TypeId} {size m : Nat} {C : Int} {xs : List Value} : StabX (T3c B n V t e size m C xs) := by
 intro i P h u w w' hP hb
 unfold T3c at h
 split at h <;> first | (injection h with h; subst h; first | exact PLx.st hP hb | exact PTs.st hP hb | exact PRs.st hP hb | exact PAs.st hP hb) | cases h
theorem T1c.stab {B : Nat} {e : TypeId} {size m : Nat} {C : Int} {xs : List Value} : StabX (T1c B e size m C xs) := by
 intro i P h u w w' hP hb
 unfold T1c at h
 split at h <;> first | (injection h with h; subst h; first | exact PRs.st hP hb | exact PAs.st hP hb) | cases h
theorem TL.stab {B n : Nat} {V : List Value} : StabX (TL B n V) := by
 intro i P h u w w' hP hb
 unfold TL at h
 split at h <;> first | (injection h with h; subst h; exact PLx.st hP hb) | cases h
theorem TT.stab {B : Nat} {t : TS} : StabX (TT B t) := by
 intro i P h u w w' hP hb
 unfold TT at h
 split at h <;> first | (injection h with h; subst h; exact PTs.st hP hb) | cases h
structure LA3 (w : World) (A : Option Addr) (c n : Nat) (t : TS) (A1 : Option Addr) (c1 : Nat) (A2 : Option Addr) (c2 : Nat) (sz : Int) (bp bc : Str) (wr : World) : Prop where
 low : Below w.heap.size w wr
 lx : Blk wr w.heap.size 24 #[.slice A n c]
 ts : Blk wr (w.heap.size + 1) 27 #[sv t.letters, .slice A1 t.values.length c1, .slice A2 t.counts.length c2, .int .i64 t.blanks]
 bd : Blk wr (w.heap.size + 1 + 1) 29 #[.int .i64 sz, sv bp, sv bc]
section
variable {w wr w' : World} {A A1 A2 : Option Addr} {c n c1 c2 : Nat} {t : TS} {sz : Int} {bp bc : Str}
theorem LA3.call (h : LA3 w A c n t A1 c1 A2 c2 sz bp bc wr) (hb : Below wr.heap.size wr w') : LA3 w A c n t A1 c1 A2 c2 sz bp bc w' :=
 ⟨h.low.trans (hb.mono h.low.size), h.lx.below hb h.lx.lt, h.ts.below hb h.ts.lt, h.bd.below hb h.bd.lt⟩
theorem LA3.grow {base size m : Nat} {v : Value} {xs : List Value} {e : TypeId} (h : LA3 w A c n t A1 c1 A2 c2 sz bp bc wr) (ho : wr.ownsRow base e size v m xs) (hB : w.heap.size ≤ base) (h1 : e ≠ 24) (h2 : e ≠ 27) (h3 : e ≠ 29) (hg : wr.grownBy w' v.ownBlock) : LA3 w A c n t A1 c1 A2 c2 sz bp bc w' :=
 ⟨Below.own h.low h.low.size ho hB hg, h.lx.grown hg (fun e => own_blk_ne ho h.lx h1 e.symm), h.ts.grown hg (fun e => own_blk_ne ho h.ts h2 e.symm), h.bd.grown hg (fun e => own_blk_ne ho h.bd h3 e.symm)⟩
theorem LA3.g2 {base : Nat} {v1 v2 : Value} {u : TS} (h : LA3 w A c n t A1 c1 A2 c2 sz bp bc wr) (ho : TsOwn base u v1 v2 wr) (hB : w.heap.size ≤ base) (hg : G2 wr w' v1.ownBlock v2.ownBlock) : LA3 w A c n t A1 c1 A2 c2 sz bp bc w' :=
 ⟨Below.g2 h.low h.low.size (fun k hk => Nat.le_trans hB (ho.1.lt k hk).1) (fun k hk => Nat.le_trans hB (ho.2.1.lt k hk).1) hg, h.lx.g2 hg (own_blk_ne ho.1 h.lx (by decide)) (own_blk_ne ho.2.1 h.lx (by decide)), h.ts.g2 hg (own_blk_ne ho.1 h.ts (by decide)) (own_blk_ne ho.2.1 h.ts (by decide)), h.bd.g2 hg (own_blk_ne ho.1 h.bd (by decide)) (own_blk_ne ho.2.1 h.bd (by decide))⟩
end
theorem TsOwn.grown {base base2 e size n : Nat} {t : TS} {v1 v2 v : Value} {xs : List Value} {w w' : World} (h : TsOwn base t v1 v2 w) (h2 : w.ownsRow base2 e size v n xs) (hne : 2 ≠ e) (hg : w.grownBy w' v.ownBlock) : TsOwn base t v1 v2 w' := ⟨own_grown h.1 h2 hne hg, own_grown h.2.1 h2 hne hg, h.2.2⟩
theorem TsOwn.in_ {base : Nat} {t : TS} {A1 A2 : Option Addr} {c1 c2 : Nat} {w : World} (h : TsOwn base t (.slice A1 t.values.length c1) (.slice A2 t.counts.length c2) w) : TsIn w t A1 A2 := ⟨Reads.of_own h.1, Reads.of_own h.2.1⟩
theorem TsOwn.form {base : Nat} {t : TS} {v1 v2 : Value} {w : World} (h : TsOwn base t v1 v2 w) : ∃ A1 c1 A2 c2, v1 = .slice A1 t.values.length c1 ∧ v2 = .slice A2 t.counts.length c2 := by
 obtain ⟨A1, c1, e1, -, -, -⟩ := own_form h.1
 obtain ⟨A2, c2, e2, -, -, -⟩ := own_form h.2.1
 exact ⟨A1, c1, A2, c2, e1, e2⟩
set_option maxHeartbeats 4000000
set_option maxRecDepth 100000
def wordsM (ms : List Mv) : List Str := ms.map fun m => m.1.word
theorem szPlay_any (q : Pl) (l : Int) (w : World) (hq : q.word.length ≤ 9223372036854775807) (h0 : 0 ≤ l) (h1 : l ≤ 2 ^ 40) :
   Calls Tryz.prog 25 #[q.v, .int .i64 l] w fun e w' => e = .returned (.int .i64 (if l - q.word.length < 0 then -1 else l - q.word.length)) ∧ Below w.heap.size w w' := by
 obtain ⟨r, c, d, s⟩ := q
 simp only [Pl.v] at *
 have hb := (Below.refl w.heap.size w).alloc (Nat.le_refl _) (.cells #[.int .i64 r, .int .i64 c, .bool d, sv s] 52)
 by_cases hl : l - (s.length : Int) < 0
 · rw [if_pos hl]
   go_enter Tryz.func25, Tryz.ntmps25
   go_wp2_with (fail)
   go_ret
   exact ⟨rfl, hb⟩
 · rw [if_neg hl]
   go_enter Tryz.func25, Tryz.ntmps25
   go_wp2_with (fail)
   go_ret
   exact ⟨rfl, hb⟩
theorem szMove_any (m : Mv) (l : Int) (w : World) (hq : m.1.word.length ≤ 9223372036854775807) (h0 : 0 ≤ l) (h1 : l ≤ 2 ^ 40) :
   Calls Tryz.prog 63 #[mvV m, .int .i64 l] w fun e w' => e = .returned (.int .i64 (if l - m.1.word.length < 0 then -1 else l - m.1.word.length)) ∧ Below w.heap.size w w' := by
 have kp := fun w => szPlay_any m.1 l w hq h0 h1
 obtain ⟨⟨r, c, d, s⟩, x⟩ := m
 simp only [Pl.v, mvV] at *
 have hb := (Below.refl w.heap.size w).alloc (Nat.le_refl _) (.cells #[.int .i64 r, .int .i64 c, .bool d, sv s, .int .i64 x] 116)
 by_cases hl : l - (s.length : Int) < 0
 · simp only [if_pos hl] at kp ⊢
   go_enter Tryz.func63, Tryz.ntmps63
   go_wp2_with (go_at_call 25; refine (kp _).mono ?_; rintro e w1 ⟨rfl, hb1⟩)
   go_ret
   exact ⟨rfl, hb.trans (hb1.mono hb.size)⟩
 · simp only [if_neg hl] at kp ⊢
   go_enter Tryz.func63, Tryz.ntmps63
   go_wp2_with (go_at_call 25; refine (kp _).mono ?_; rintro e w1 ⟨rfl, hb1⟩)
   go_ret
   exact ⟨rfl, hb.trans (hb1.mono hb.size)⟩
theorem szMoveS_any (A : Option Addr) (c : Nat) (ms : List Mv) (l : Int) (w : World) (h : Reads w w.heap.size 5 A ms.length (mvsC ms)) (hf : 0 < ms.length → ∀ ad, A = some ad → ad = ⟨ad.block, ad.off, none⟩) (hn : ms.length ≤ 9223372036854775807) (hs : ∀ x ∈ ms, x.1.word.length ≤ 9223372036854775807) (h0 : 0 ≤ l) (h1 : l ≤ 2 ^ 40) :
   Calls Tryz.prog 14 #[.slice A ms.length c, .int .i64 l] w fun e w' => e = .returned (.int .i64 (szS (wordsM ms) l)) ∧ Below w.heap.size w w' := by
 have hdef : Hid (szS (wordsM ms) l = if l - ms.length < 0 then -1 else szGo (wordsM ms) (l - ms.length)) := Lib.hid (by unfold szS wordsM; rw [List.length_map])
 obtain ⟨R, hR⟩ : ∃ R, R = szS (wordsM ms) l := ⟨_, rfl⟩
 rw [← hR] at hdef ⊢
 clear hR
 by_cases hl : l - (ms.length : Int) < 0
 · have hR : R = -1 := by rw [hdef.out, if_pos hl]
   subst hR
   go_enter Tryz.func14, Tryz.ntmps14
   go_wp2_with (fail)
   go_ret
   exact ⟨rfl, Below.refl _ _⟩
 · have hR : Hid (R = szGo (wordsM ms) (l - ms.length)) := Lib.hid (by rw [hdef.out, if_neg hl])
   clear hdef
   obtain ⟨l1, hl1⟩ : ∃ l1, l1 = l - (ms.length : Int) := ⟨_, rfl⟩
   have hl0 : 0 ≤ l1 := by omega
   have hl2 : l1 ≤ 2 ^ 40 := by omega
   have hs' := Lib.hid hs
   have hl1' := Lib.hid hl1
   rw [← hl1] at hR hl
   clear hs
   go_enter Tryz.func14, Tryz.ntmps14
   go_wp2_with (fail)
   go_loopw [1, 5] (fun lv i wr => ∃ (k : Nat) (m : Int), k ≤ ms.length ∧ i = .int .i64 k ∧ lv = .int .i64 m ∧ 0 ≤ m ∧ m ≤ 2 ^ 40 ∧ Hid (R = szGo (wordsM (ms.drop k)) m) ∧ Below w.heap.size w wr) (fun _ i _ => ms.length - (intOf i).toNat)
   case atStart => exact ⟨0, l1, by omega, rfl, by rw [hl1'.out], hl0, hl2, Lib.hid (by rw [hR.out]; rfl), Below.refl _ _⟩
   case round =>
     clear hl1 hl0 hl2 hR hl
     obtain ⟨k, m, hk, rfl, rfl, hm0, hm1, he, hb⟩ := hrel
     by_cases hkl : k < ms.length
     · have r1 := (h.below hb).more hb.size
       obtain ⟨ad1, e1, hd1, _⟩ := r1.2 (by omega)
       have hp1 := hf (by omega) ad1 e1
       obtain ⟨g, off, hgo⟩ : ∃ g off, ad1 = ⟨g, off, none⟩ := ⟨_, _, hp1⟩
       subst hgo
       subst e1
       obtain ⟨x0, x1, x2, x3, x4⟩ := r1.mv hkl
       have hst : Hid (R = if m - (ms[k].1.word).length < 0 then -1 else szGo (wordsM (ms.drop (k + 1))) (m - (ms[k].1.word).length)) := Lib.hid (by rw [he.out, drop_cons ms k hkl]; rfl)
       have hxl := hs'.out _ (List.getElem_mem hkl)
       have ksz := fun w => szMove_any ms[k] m w hxl hm0 hm1
       obtain ⟨x, hx⟩ : ∃ x, x = ms[k] := ⟨_, rfl⟩
       rw [← hx] at hst x0 x1 x2 x3 x4 ksz
       clear hx r1 hxl hp1
       obtain ⟨⟨xr, xc, xd, xw⟩, xx⟩ := x
       simp only [mvV] at ksz x0 x1 x2 x3 x4 hst
       have hkk : (k : Int) < (ms.length : Int) := by omega
       have hk0 : (0 : Int) ≤ (k : Int) := by omega
       by_cases hneg : m - (xw.length : Int) < 0
       · have hR2 : R = -1 := by rw [hst.out, if_pos hneg]
         subst hR2
         simp only [if_pos hneg] at ksz
         go_wp2_with (go_at_call 63; refine (ksz _).mono ?_; rintro e w1 ⟨rfl, hb1⟩)
         go_ret
         exact ⟨rfl, hb.trans (hb1.mono hb.size)⟩
       · have hst2 : Hid (R = szGo (wordsM (ms.drop (k + 1))) (m - xw.length)) := Lib.hid (by rw [hst.out, if_neg hneg])
         simp only [if_neg hneg] at ksz
         go_wp2_with (go_at_call 63; refine (ksz _).mono ?_; rintro e w1 ⟨rfl, hb1⟩)
         go_roundw
         case rel => exact ⟨k + 1, m - xw.length, by omega, by go_num, rfl, by omega, by omega, hst2, hb.trans (hb1.mono hb.size)⟩
         case measure => simp [intOf]; omega
     · obtain rfl : k = ms.length := by omega
       have hkk : ¬ (ms.length : Int) < (ms.length : Int) := by omega
       have hRt : Hid (R = m) := Lib.hid (by rw [he.out, List.drop_length]; rfl)
       go_wp2_with (fail)
       go_ret
       exact ⟨ret_int hRt.out.symm, hb⟩
theorem toPlay_any (q : Pl) (w : World) :
   Calls Tryz.prog 28 #[q.v] w fun e w' => e = .returned q.v ∧ Below w.heap.size w w' := by
 obtain ⟨r, c, d, s⟩ := q
 simp only [Pl.v]
 go_enter Tryz.func28, Tryz.ntmps28
 go_wp2_with (fail)
 exact ret_row (by rfl) (w.heap.size + 1) 61 #[.int .i64 r, .int .i64 c, .bool d, sv s] _ rfl ((Blk.new1 w _ _ _).alloc _) Tryz.underlying61 rfl (by kernel_rfl) rfl ⟨rfl, (((Below.refl _ _).alloc (Nat.le_refl _) _).alloc (by simp) _).alloc (by simp; omega) _⟩
theorem toMove_any (m : Mv) (w : World) :
   Calls Tryz.prog 68 #[mvV m] w fun e w' => e = .returned (mvV m) ∧ Below w.heap.size w w' := by
 have kp := fun w => toPlay_any m.1 w
 obtain ⟨⟨r, c, d, s⟩, x⟩ := m
 simp only [Pl.v, mvV] at *
 obtain ⟨W, hW⟩ : ∃ W, W = ((w.alloc (.cells #[.int .i64 r, .int .i64 c, .bool d, sv s, .int .i64 x] 116)).alloc (.cells #[.int .i64 0, .int .i64 0, .bool false, .string ⟨#[]⟩, .int .i64 0] 124)).alloc (.cells #[.int .i64 0, .int .i64 0, .bool false, .string ⟨#[]⟩, .int .i64 0] 124) := ⟨_, rfl⟩
 have hb : Below w.heap.size w W := by rw [hW]; exact (((Below.refl _ _).alloc (Nat.le_refl _) _).alloc (by simp) _).alloc (by simp; omega) _
 have hB0 : Blk W w.heap.size 116 #[.int .i64 r, .int .i64 c, .bool d, sv s, .int .i64 x] := by rw [hW]; exact ((Blk.new w _ _).alloc _).alloc _
 have hB1 : Blk W (w.heap.size + 1) 124 #[.int .i64 0, .int .i64 0, .bool false, .string ⟨#[]⟩, .int .i64 0] := by rw [hW]; exact (Blk.new1 w _ _ _).alloc _
 have hB2 : Blk W (w.heap.size + 1 + 1) 124 #[.int .i64 0, .int .i64 0, .bool false, .string ⟨#[]⟩, .int .i64 0] := by rw [hW]; exact Blk.new2 w _ _ _ _
 go_enter Tryz.func68, Tryz.ntmps68
 go_wp2_with (go_at_call 28; rw [← hW]; refine (kp _).mono ?_; rintro e w1 ⟨rfl, hb1⟩
              have hC0 := hB0.below hb1 hB0.lt
              have hC1 := hB1.below hb1 hB1.lt
              have hC2 := hB2.below hb1 hB2.lt
              have a4 : w1.cell? ⟨w.heap.size, 4, none⟩ = some (.int .i64 x) := hC0.cell 4
              have b0 : w1.cell? ⟨w.heap.size + 1, 0, none⟩ = some (.int .i64 0) := hC1.cell 0
              have b1 : w1.cell? ⟨w.heap.size + 1, 1, none⟩ = some (.int .i64 0) := hC1.cell 1
              have b2 : w1.cell? ⟨w.heap.size + 1, 2, none⟩ = some (.bool false) := hC1.cell 2
              have b3 : w1.cell? ⟨w.heap.size + 1, 3, none⟩ = some (.string ⟨#[]⟩) := hC1.cell 3
              have b4 : w1.cell? ⟨w.heap.size + 1, 4, none⟩ = some (.int .i64 0) := hC1.cell 4
              have c0 : w1.cell? ⟨w.heap.size + 1 + 1, 0, none⟩ = some (.int .i64 0) := hC2.cell 0
              have c1 : w1.cell? ⟨w.heap.size + 1 + 1, 1, none⟩ = some (.int .i64 0) := hC2.cell 1
              have c2 : w1.cell? ⟨w.heap.size + 1 + 1, 2, none⟩ = some (.bool false) := hC2.cell 2
              have c3 : w1.cell? ⟨w.heap.size + 1 + 1, 3, none⟩ = some (.string ⟨#[]⟩) := hC2.cell 3
              have c4 : w1.cell? ⟨w.heap.size + 1 + 1, 4, none⟩ = some (.int .i64 0) := hC2.cell 4
              have p0 := hC1.frozen 0
              have p1 := hC1.frozen 1
              have p2 := hC1.frozen 2
              have p3 := hC1.frozen 3
              have p4 := hC1.frozen 4
              have q0 := hC2.frozen 0
              have q1 := hC2.frozen 1
              have q2 := hC2.frozen 2
              have q3 := hC2.frozen 3
              have q4 := hC2.frozen 4
              have z0 := hC0.lt
              have z1 := hC1.lt
              have z2 := hC2.lt)
 have hb2 := hb.trans (hb1.mono hb.size)
 have d1 := ((((hC1.far (p := ⟨w.heap.size + 1 + 1, 0, none⟩) (by simp) (.int .i64 r)).far (p := ⟨w.heap.size + 1 + 1, 1, none⟩) (by simp) (.int .i64 c)).far (p := ⟨w.heap.size + 1 + 1, 2, none⟩) (by simp) (.bool d)).far (p := ⟨w.heap.size + 1 + 1, 3, none⟩) (by simp) (sv s)).far (p := ⟨w.heap.size + 1 + 1, 4, none⟩) (by simp) (.int .i64 x)
 have d2 := ((((d1.set_ 0 (.int .i64 r)).set_ 1 (.int .i64 c)).set_ 2 (.bool d)).set_ 3 (sv s)).set_ 4 (.int .i64 x)
 have hb3 := ((((hb2.setCell (p := ⟨w.heap.size + 1 + 1, 0, none⟩) (by simp; omega) (.int .i64 r)).setCell (p := ⟨w.heap.size + 1 + 1, 1, none⟩) (by simp; omega) (.int .i64 c)).setCell (p := ⟨w.heap.size + 1 + 1, 2, none⟩) (by simp; omega) (.bool d)).setCell (p := ⟨w.heap.size + 1 + 1, 3, none⟩) (by simp; omega) (sv s)).setCell (p := ⟨w.heap.size + 1 + 1, 4, none⟩) (by simp; omega) (.int .i64 x)
 have hb4 := ((((hb3.setCell (p := ⟨w.heap.size + 1, 0, none⟩) (by simp) (.int .i64 r)).setCell (p := ⟨w.heap.size + 1, 1, none⟩) (by simp) (.int .i64 c)).setCell (p := ⟨w.heap.size + 1, 2, none⟩) (by simp) (.bool d)).setCell (p := ⟨w.heap.size + 1, 3, none⟩) (by simp) (sv s)).setCell (p := ⟨w.heap.size + 1, 4, none⟩) (by simp) (.int .i64 x)
 exact ret_row (by rfl) (w.heap.size + 1) 124 #[.int .i64 r, .int .i64 c, .bool d, sv s, .int .i64 x] _ rfl d2 Tryz.underlying124 rfl (by kernel_rfl) rfl ⟨rfl, hb4⟩
def zeroMv : Mv := (⟨0, 0, false, []⟩, 0)
def copyM (ms : List Mv) (j : Nat) : List Value := mvsC (ms.take j) ++ mvsC (List.replicate (ms.length - j) zeroMv)
theorem copyM_length (ms : List Mv) (j : Nat) (h : j ≤ ms.length) : (copyM ms j).length = ms.length * 5 := by
 unfold copyM
 rw [List.length_append, mvsC_length, mvsC_length, List.length_take, List.length_replicate]
 omega
theorem copyM_step (ms : List Mv) (j : Nat) (h : j < ms.length) :
   (((((copyM ms j).set (j * 5) (.int .i64 ms[j].1.row)).set (j * 5 + 1) (.int .i64 ms[j].1.col)).set (j * 5 + 2) (.bool ms[j].1.down)).set (j * 5 + 3) (sv ms[j].1.word)).set (j * 5 + 4) (.int .i64 ms[j].2) = copyM ms (j + 1) := by
 unfold copyM
 have e : ms.length - j = (ms.length - (j + 1)) + 1 := by omega
 rw [e, List.replicate_succ, List.take_succ_eq_append_getElem h, mvsC_append, mvsC_one]
 show (((((mvsC (ms.take j) ++ (.int .i64 0 :: .int .i64 0 :: .bool false :: sv [] :: .int .i64 0 :: mvsC (List.replicate (ms.length - (j + 1)) zeroMv))).set (j * 5) _).set (j * 5 + 1) _).set (j * 5 + 2) _).set (j * 5 + 3) _).set (j * 5 + 4) _ = _
 rw [set5 _ _ _ _ _ _ _ _ _ _ _ _ (j * 5) (by rw [mvsC_length, List.length_take]; omega)]
 rw [List.append_assoc]
 rfl
theorem copyM_end (ms : List Mv) : copyM ms ms.length = mvsC ms := by
 unfold copyM
 rw [List.take_length, Nat.sub_self]
 simp [mvsC]
theorem copyM_start (ms : List Mv) : (madeCells (Value.agg #[.int .i64 0, .int .i64 0, .bool false, sv [], .int .i64 0]).cells (ms.length * 5)).toList = copyM ms 0 := by
 have e : copyM ms 0 = mvsC (List.replicate ms.length zeroMv) := by unfold copyM; simp [mvsC]
 rw [e]
 apply List.ext_getElem?
 intro i
 by_cases hi : i < ms.length * 5
 · have h1 : i / 5 < (List.replicate ms.length zeroMv).length := by rw [List.length_replicate]; omega
   have h2 : i = (i / 5) * 5 + i % 5 := by omega
   have hr : (mvsC (List.replicate ms.length zeroMv))[i]? = (mvC zeroMv)[i % 5]? := by
     conv => lhs; rw [h2]
     rw [mvsC_get _ _ _ h1 (by omega)]
     simp
   rw [hr]
   have hl : ((madeCells (Value.agg #[.int .i64 0, .int .i64 0, .bool false, sv [], .int .i64 0]).cells (ms.length * 5)).toList)[i]? = some ((#[Value.int .i64 0, .int .i64 0, .bool false, sv [], .int .i64 0] : Array Value)[i % 5]!) := by
     simp [madeCells, hi, Value.cells]
   rw [hl]
   have h5 : i % 5 < 5 := by omega
   generalize i % 5 = q at h5
   match q, h5 with
   | 0, _ => rfl
   | 1, _ => rfl
   | 2, _ => rfl
   | 3, _ => rfl
   | 4, _ => rfl
 · rw [List.getElem?_eq_none (by simp [size_madeCells]; omega), List.getElem?_eq_none (by rw [mvsC_length, List.length_replicate]; omega)]
theorem toMoveS_any (A : Option Addr) (c : Nat) (ms : List Mv) (w : World) (h : Reads w w.heap.size 5 A ms.length (mvsC ms)) (hf : 0 < ms.length → ∀ ad, A = some ad → ad = ⟨ad.block, ad.off, none⟩) (hn : ms.length ≤ 2 ^ 32) :
   Calls Tryz.prog 19 #[.slice A ms.length c] w fun e w' => ∃ v, e = .returned v ∧ w'.ownsRow w.heap.size 124 5 v ms.length (mvsC ms) ∧ Below w.heap.size w w' := by
 have hst := Lib.hid (copyM_step ms)
 have hen := Lib.hid (copyM_end ms)
 have hcl := Lib.hid (copyM_length ms)
 have hs0 := Lib.hid (copyM_start ms)
 have hi0 : (Tryz.prog.info? 124).map (fun i => (i.zero, i.size, i.bytes)) = some (some (.agg #[.int .i64 0, .int .i64 0, .bool false, sv [], .int .i64 0]), 5, 48) := by kernel_rfl
 obtain ⟨i, hi, hi2⟩ := Option.map_eq_some_iff.1 hi0
 simp only [Prod.mk.injEq] at hi2
 have hi1 : i.zero = some (.agg #[.int .i64 0, .int .i64 0, .bool false, sv [], .int .i64 0]) ∧ i.size = 5 ∧ i.bytes = 48 := hi2
 clear hi0 hi2
 have hmx : ms.length ≤ maxLen := by unfold maxLen; omega
 have hby : i.bytes * ms.length ≤ 281474976710656 := by rw [hi1.2.2]; omega
 go_enter Tryz.func19, Tryz.ntmps19
 go_wp2_with (refine wpList_make_full _ rfl (.tmp 6) (.tmp 6) 43 rfl w.heap.size 124 i (.agg #[.int .i64 0, .int .i64 0, .bool false, sv [], .int .i64 0]) 5 Tryz.underlying43 hi hi1.1 hi1.2.1 .i64 .i64 (ms.length : Int) (ms.length : Int) ms.length rfl rfl rfl rfl hby hmx (Nat.le_refl _) ?_; intro w1 own1 hg1)
 rw [hs0.out] at own1
 have hb1 : Below w.heap.size w w1 := ⟨hg1.os, hg1.tape, hg1.output, hg1.size, fun k hk => hg1.block k hk (by simp)⟩
 clear hs0 hi hi1 hmx hby hg1
 go_loopw [4] (fun i wr => ∃ j : Nat, j ≤ ms.length ∧ i = .int .i64 j ∧ wr.ownsRow w.heap.size 124 5 (.slice (some ⟨w.heap.size, 0, none⟩) ms.length ms.length) ms.length (copyM ms j) ∧ Below w.heap.size w wr) (fun i _ => ms.length - (intOf i).toNat)
 case atStart => exact ⟨0, by omega, rfl, own1, hb1⟩
 case round =>
   clear own1 hb1
   obtain ⟨j, hj, rfl, own, hb⟩ := hrel
   by_cases hjl : j < ms.length
   · have r1 := (h.below hb).more hb.size
     obtain ⟨ad1, e1, hd1, _⟩ := r1.2 (by omega)
     have hp1 := hf (by omega) ad1 e1
     obtain ⟨g, off, hgo⟩ : ∃ g off, ad1 = ⟨g, off, none⟩ := ⟨_, _, hp1⟩
     subst hgo
     subst e1
     obtain ⟨x0, x1, x2, x3, x4⟩ := r1.mv hjl
     have hstep := Lib.hid (hst.out j hjl)
     have km := fun w => toMove_any ms[j] w
     obtain ⟨x, hx⟩ : ∃ x, x = ms[j] := ⟨_, rfl⟩
     rw [← hx] at x0 x1 x2 x3 x4 km hstep
     clear hx r1 hp1
     obtain ⟨⟨xr, xc, xd, xw⟩, xx⟩ := x
     simp only [mvV] at km x0 x1 x2 x3 x4 hstep
     have hjj : (j : Int) < (ms.length : Int) := by omega
     have hj0 : (0 : Int) ≤ (j : Int) := by omega
     have hyl := hcl.out j hj
     obtain ⟨Y, hY⟩ : ∃ Y, Y = copyM ms j := ⟨_, rfl⟩
     rw [← hY] at hstep own hyl
     clear hY
     go_wp2_with (go_at_call 68; refine (km _).mono ?_; rintro e w5 ⟨rfl, hb5⟩
                  have own5 := own_call own hb5
                  have d0 : w5.cell? ⟨w.heap.size, j * 5, none⟩ = some _ := (own5.cellAt (j * 5) (by omega)).trans (List.getElem?_eq_getElem (by omega))
                  have d1 : w5.cell? ⟨w.heap.size, j * 5 + 1, none⟩ = some _ := (own5.cellAt (j * 5 + 1) (by omega)).trans (List.getElem?_eq_getElem (by omega))
                  have d2 : w5.cell? ⟨w.heap.size, j * 5 + 2, none⟩ = some _ := (own5.cellAt (j * 5 + 2) (by omega)).trans (List.getElem?_eq_getElem (by omega))
                  have d3 : w5.cell? ⟨w.heap.size, j * 5 + 3, none⟩ = some _ := (own5.cellAt (j * 5 + 3) (by omega)).trans (List.getElem?_eq_getElem (by omega))
                  have d4 : w5.cell? ⟨w.heap.size, j * 5 + 4, none⟩ = some _ := (own5.cellAt (j * 5 + 4) (by omega)).trans (List.getElem?_eq_getElem (by omega))
                  have f0 := own5.frozenAt (j * 5)
                  have f1 := own5.frozenAt (j * 5 + 1)
                  have f2 := own5.frozenAt (j * 5 + 2)
                  have f3 := own5.frozenAt (j * 5 + 3)
                  have f4 := own5.frozenAt (j * 5 + 4))
     have hs := ((((own5.stored (j * 5) (.int .i64 xr)).1.stored (j * 5 + 1) (.int .i64 xc)).1.stored (j * 5 + 2) (.bool xd)).1.stored (j * 5 + 3) (sv xw)).1.stored (j * 5 + 4) (.int .i64 xx)
     have hs := hs.1
     rw [hstep.out] at hs
     have hb6 := hb.trans (hb5.mono hb.size)
     have hb7 := ((((hb6.setCell (p := ⟨w.heap.size, j * 5, none⟩) (Nat.le_refl _) (.int .i64 xr)).setCell (p := ⟨w.heap.size, j * 5 + 1, none⟩) (Nat.le_refl _) (.int .i64 xc)).setCell (p := ⟨w.heap.size, j * 5 + 2, none⟩) (Nat.le_refl _) (.bool xd)).setCell (p := ⟨w.heap.size, j * 5 + 3, none⟩) (Nat.le_refl _) (sv xw)).setCell (p := ⟨w.heap.size, j * 5 + 4, none⟩) (Nat.le_refl _) (.int .i64 xx)
     go_roundw
     case rel => exact ⟨j + 1, by omega, by go_num, hs, hb7⟩
     case measure => simp only [intOf]; omega
   · obtain rfl : j = ms.length := by omega
     rw [hen.out] at own
     go_wp2_with (fail)
     go_ret
     exact ⟨_, rfl, own, hb⟩
def T4i (B n : Nat) (V : List Value) (t : TS) (k : Nat) (ys : List Value) : Nat → Option (Value → World → Prop) := fun i =>
 match i with
 | 1 => some (PLx B n V)
 | 3 => some (PTs B t)
 | 8 => some (PAs B 124 5 k ys)
 | _ => none
theorem T4i.stab {B n : Nat} {V : List Value} {t : TS} {k : Nat} {ys : List Value} : StabX (T4i B n V t k ys) := by
 intro i P h u w w' hP hb
 unfold T4i at h
 split at h <;> first | (injection h with h; subst h; first | exact PLx.st hP hb | exact PTs.st hP hb | exact PAs.st hP hb) | cases h
def eqPlB (a b : Pl) : Bool := a.row == b.row && (a.col == b.col && (a.down == b.down && a.word == b.word))
def eqMv (a b : Mv) : Bool := eqPlB a.1 b.1 && a.2 == b.2
def inM (l : List Mv) (m : Mv) : Bool := l.any fun x => eqMv x m
theorem eqMv_comm (a b : Mv) : eqMv a b = eqMv b a := by
 unfold eqMv eqPlB
 rw [Bool.eq_iff_iff]
 simp only [Bool.and_eq_true, beq_iff_eq]
 constructor <;> rintro ⟨⟨h1, h2, h3, h4⟩, h5⟩ <;> exact ⟨⟨h1.symm, h2.symm, h3.symm, h4.symm⟩, h5.symm⟩
theorem mv_guard (w : World) (a b : Mv) (x y : Operand) : (eqGuard .eql 124 x y (mvV a) (mvV b)).run Tryz.prog w = .ok () w :=
 run_eqGuard_agg w .eql 124 x y _ _ (by kernel_rfl)
theorem pl_equalIn (w : World) (d : Nat) (a b : Pl) : (Op.equalIn (d + 1 + 1) 61 (.agg #[.int .i64 a.row, .int .i64 a.col, .bool a.down, sv a.word]) (.agg #[.int .i64 b.row, .int .i64 b.col, .bool b.down, sv b.word])).run Tryz.prog w = .ok (eqPlB a b) w := by
 have hp : Tryz.prog.plainKey 2 = true := by kernel_rfl
 have hq : Tryz.prog.plainKey 4 = true := by kernel_rfl
 have hr : Tryz.prog.plainKey 9 = true := by kernel_rfl
 obtain ⟨r, c, dn, s⟩ := a
 obtain ⟨r', c', dn', s'⟩ := b
 have p0 : ∀ (r c : Int) (dn : Bool) (s : Str), (part 2 #[.int .i64 r, .int .i64 c, .bool dn, sv s] 0).run Tryz.prog w = .ok (.int .i64 r) w := fun r c dn s => run_part_plain w hp rfl
 have p1 : ∀ (r c : Int) (dn : Bool) (s : Str), (part 2 #[.int .i64 r, .int .i64 c, .bool dn, sv s] 1).run Tryz.prog w = .ok (.int .i64 c) w := fun r c dn s => run_part_plain w hp rfl
 have p2 : ∀ (r c : Int) (dn : Bool) (s : Str), (part 4 #[.int .i64 r, .int .i64 c, .bool dn, sv s] 2).run Tryz.prog w = .ok (.bool dn) w := fun r c dn s => run_part_plain w hq rfl
 have p3 : ∀ (r c : Int) (dn : Bool) (s : Str), (part 9 #[.int .i64 r, .int .i64 c, .bool dn, sv s] 3).run Tryz.prog w = .ok (sv s) w := fun r c dn s => run_part_plain w hr rfl
 have e0 : ∀ n x y, (Op.equalIn (n+1) 2 (.int .i64 x) (.int .i64 y)).run Tryz.prog w = .ok (x == y) w := fun n x y => run_equalIn_int w n 2 .i64 .i64 x y Tryz.underlying2
 have e1 : ∀ n x y, (Op.equalIn (n+1) 4 (.bool x) (.bool y)).run Tryz.prog w = .ok (x == y) w := fun n x y => run_equalIn_bool' w n 4 x y Tryz.underlying4
 have e2 : ∀ (n : Nat) (x y : Str), (Op.equalIn (n+1) 9 (sv x) (sv y)).run Tryz.prog w = .ok (x == y) w := fun n x y => by
   have h := run_equalIn_string w n 9 ⟨x.toArray⟩ ⟨y.toArray⟩ Tryz.underlying9
   have hx : (⟨x.toArray⟩ : ByteArray).toList = x := by simp [ByteArray.toList_eq]
   have hy : (⟨y.toArray⟩ : ByteArray).toList = y := by simp [ByteArray.toList_eq]
   rw [hx, hy] at h
   exact h
 have hu : Tryz.prog.underlying 61 = some (.struct (Tryz.prog.fieldsOf 61)) := by
   simp only [Program.fieldsOf, Tryz.underlying61]
 rw [run_equalIn_struct w (d + 1) 61 _ _ hu (by kernel_rfl)]
 simp only [Program.fieldsOf, Tryz.underlying61]
 unfold eqPlB
 cases ha : (r == r') <;> cases hb : (c == c') <;> cases hc : (dn == dn') <;> cases hd : (s == s') <;> simp [Op.eqFields, p0, p1, p2, p3, e0, e1, e2, ha, hb, hc, hd, Result.andThen]
theorem mv_eql (w : World) (a b : Mv) : (binOp .eql 124 (mvV a) (mvV b)).run Tryz.prog w = .ok (.bool (eqMv a b)) w := by
 have hp : Tryz.prog.plainKey 2 = true := by kernel_rfl
 obtain ⟨⟨r, c, dn, s⟩, x⟩ := a
 obtain ⟨⟨r', c', dn', s'⟩, x'⟩ := b
 have p4 : ∀ (r c : Int) (dn : Bool) (s : Str) (x : Int), (part 2 #[.int .i64 r, .int .i64 c, .bool dn, sv s, .int .i64 x] 4).run Tryz.prog w = .ok (.int .i64 x) w := fun r c dn s x => run_part_plain w hp rfl
 have pp : ∀ (r c : Int) (dn : Bool) (s : Str) (x : Int), (part 61 #[.int .i64 r, .int .i64 c, .bool dn, sv s, .int .i64 x] 0).run Tryz.prog w = .ok (.agg #[.int .i64 r, .int .i64 c, .bool dn, sv s]) w := fun r c dn s x => rfl
 have e0 : ∀ n x y, (Op.equalIn (n+1) 2 (.int .i64 x) (.int .i64 y)).run Tryz.prog w = .ok (x == y) w := fun n x y => run_equalIn_int w n 2 .i64 .i64 x y Tryz.underlying2
 have e1 := fun d => pl_equalIn w d ⟨r, c, dn, s⟩ ⟨r', c', dn', s'⟩
 simp only at e1
 have hu : Tryz.prog.underlying 124 = some (.struct (Tryz.prog.fieldsOf 124)) := by
   simp only [Program.fieldsOf, Tryz.underlying124]
 unfold mvV eqMv
 rw [run_eql_struct, run_equalIn_struct w 9999 124 _ _ hu (by kernel_rfl)]
 simp only [Program.fieldsOf, Tryz.underlying124]
 cases ha : eqPlB ⟨r, c, dn, s⟩ ⟨r', c', dn', s'⟩ <;> cases hb : (x == x') <;> simp [Op.eqFields, p4, pp, e0 9998, e1 9997, ha, hb, Result.andThen]
end Go.Proofs.YtdkckikobefekaaGreatDoor
