/-
  Contract: the new squares of a play (layer 12 of the impl package).
  Conditions: a board of a size from 5 to 15; the play's letters are ASCII; numbers of common size.
-/
import Derived.Test.YtdkckikobefekaaGreatDoorM11
import Derived.Lib.Builder
import Derived.Lib.UnsafeStr
import Derived.Laws.Externs
import Derived.RegionTactic
import Derived.Laws.Rows
import Derived.Laws.Tables
import Derived.Lib.OthersKept
namespace Go.Proofs.YtdkckikobefekaaGreatDoor
open Go.RowKit RegP RegL RegV
set_option maxHeartbeats 1000000
set_option maxRecDepth 100000
theorem sqT : SlT Tryz.prog 213 229 (.agg #[.int .i64 0, .int .i64 0]) 2 16 := ⟨Tryz.underlying213, by kernel_rfl, rfl, by decide⟩
theorem intT : SlT Tryz.prog 214 3 (.int .i64 0) 1 8 := ⟨Tryz.underlying214, by kernel_rfl, rfl, by decide⟩
def sqC (l : List (Int × Int)) : List Value := l.flatMap fun s => [.int .i64 s.1, .int .i64 s.2]
theorem sqC_append (a b : List (Int × Int)) : sqC (a ++ b) = sqC a ++ sqC b := by simp [sqC]
theorem sqC_one (s : Int × Int) : sqC [s] = [.int .i64 s.1, .int .i64 s.2] := by simp [sqC]
def newTo (b : Bd) (q : Pl) (m : Nat) : List Nat := (List.range m).filter fun i : Nat => !b.let_ (q.sr i) (q.sc i)
def newL (b : Bd) (q : Pl) : List Nat := newTo b q q.word.length
def sqL (q : Pl) (l : List Nat) : List (Int × Int) := l.map fun i : Nat => (q.sr (i : Int), q.sc (i : Int))
theorem newTo_length (b : Bd) (q : Pl) (m : Nat) : (newTo b q m).length ≤ m := by
 have := List.length_filter_le (fun i : Nat => !b.let_ (q.sr i) (q.sc i)) (List.range m)
 rwa [List.length_range] at this
theorem newTo_step (b : Bd) (q : Pl) (k : Nat) : newTo b q (k + 1) = if b.let_ (q.sr k) (q.sc k) then newTo b q k else newTo b q k ++ [k] := by
 unfold newTo
 rw [List.range_succ, List.filter_append]
 cases h : b.let_ (q.sr k) (q.sc k) <;> simp [h]
def asciiB (s : Str) : Bool := s.all fun c => decide (c.toNat < 128)
theorem own_iterAt {w : World} {base e size n : Nat} {v : Value} {xs : List Value} (h : w.ownsRow base e size v n xs) {k : Nat} {s : ByteArray} {pos pos' : Nat} (hk : w.heap[k]? = some (.stringIter s pos)) : (w.iterAt k s pos').ownsRow base e size v n xs := by
 refine own_keep h fun j hj => Lib.iterAt_other w k j s pos' fun e => ?_
 subst e
 rcases h.2 with ⟨rfl, _⟩ | ⟨g, cap, cur, rfl, _, hh, _⟩
 · cases hj
 · have : g = j := by simpa [Value.ownBlock] using hj
   subst this
   rw [hk] at hh; cases hh
theorem Blk.iterAt {w : World} {g : Nat} {t : TypeId} {cs : Array Value} (h : Blk w g t cs) {k : Nat} {s : ByteArray} {pos pos' : Nat} (hk : w.heap[k]? = some (.stringIter s pos)) : Blk (w.iterAt k s pos') g t cs := by
 unfold Blk at *
 rw [Lib.iterAt_other w k g s pos' (fun e => by subst e; rw [hk] at h; cases h)]; exact h
theorem iter_below {w w' : World} {k : Nat} {s : ByteArray} {pos : Nat} (hk : w.heap[k]? = some (.stringIter s pos)) (hb : Below w.heap.size w w') : w'.heap[k]? = some (.stringIter s pos) := by
 have hlt : k < w.heap.size := (Array.getElem?_eq_some_iff.1 hk).1
 rw [hb.block k hlt]; exact hk
theorem iter_grown {w w' : World} {k : Nat} {s : ByteArray} {pos base e size n : Nat} {v : Value} {xs : List Value} (hk : w.heap[k]? = some (.stringIter s pos)) (hown : w.ownsRow base e size v n xs) (hg : w.grownBy w' v.ownBlock) : w'.heap[k]? = some (.stringIter s pos) := by
 have hlt : k < w.heap.size := (Array.getElem?_eq_some_iff.1 hk).1
 rw [hg.block k hlt ?_]; exact hk
 intro e
 rcases hown.2 with ⟨rfl, _⟩ | ⟨g, cap, cur, rfl, _, hh, _⟩
 · cases e
 · have : k = g := by simpa [Value.ownBlock] using e
   subst this
   rw [hk] at hh; cases hh
theorem own_grown {w w' : World} {base base2 e e2 size size2 n n2 : Nat} {v v2 : Value} {xs xs2 : List Value} (h : w.ownsRow base e size v n xs) (h2 : w.ownsRow base2 e2 size2 v2 n2 xs2) (hne : e ≠ e2) (hg : w.grownBy w' v2.ownBlock) : w'.ownsRow base e size v n xs := by
 refine own_keep h fun k hk => hg.block k (h.lt k hk).2 fun e' => ?_
 rcases h.2 with ⟨rfl, _⟩ | ⟨g, cap, cur, rfl, _, hh, _⟩
 · cases hk
 · have hgk : g = k := by simpa [Value.ownBlock] using hk
   subst hgk
   exact (own_blk_ne (t := e) (cs := cur) h2 hh (Ne.symm hne)) e'.symm
theorem newSquares_any (b : Bd) (q : Pl) (w : World) (hf : b.Fit) (ha : asciiB q.word = true) (hl : q.word.length ≤ 2 ^ 32) (h1 : -400000000000 ≤ q.row) (h2 : q.row ≤ 400000000000) (h3 : -400000000000 ≤ q.col) (h4 : q.col ≤ 400000000000) :
   Calls Tryz.prog 157 #[b.v, q.v] w fun e w' => ∃ v1 v2, e = .returned (.tuple #[v1, v2]) ∧ w'.ownsRow w.heap.size 229 2 v1 (newL b q).length (sqC (sqL q (newL b q))) ∧ w'.ownsRow w.heap.size 3 1 v2 (newL b q).length ((newL b q).map iv) ∧ Below w.heap.size w w' := by
 have ksq := fun (n : Nat) (h : n < q.word.length) (w : World) => square_any q n w (by omega) (by omega) (by omega) (by omega) (by omega) (by omega)
 have kon := fun (n : Nat) (w : World) => on_any b (q.sr n) (q.sc n) w hf
 have hasc : ∀ (k : Nat) (h : k < q.word.length), (q.word[k]).toNat < 128 := fun k h => by
   have := List.all_eq_true.1 ha _ (List.getElem_mem h)
   simpa using this
 have hst := fun k => newTo_step b q k
 have hNl := fun k => newTo_length b q k
 have hend : Hid (newL b q = newTo b q q.word.length) := Lib.hid rfl
 obtain ⟨NL, hNL⟩ : ∃ NL, NL = newL b q := ⟨_, rfl⟩
 rw [← hNL] at hend ⊢
 obtain ⟨NT, hNT⟩ : ∃ NT, NT = newTo b q := ⟨_, rfl⟩
 rw [← hNT] at hst hNl hend
 have hst' := Lib.hid hst
 have hNl' := Lib.hid hNl
 have hasc' := Lib.hid hasc
 have ksq' := Lib.hid ksq
 clear hNL hNT hst hNl hasc ksq ha
 simp only [Bd.v, Pl.v, sqV] at *
 have hpl : Hid (∀ k, sqL q (NT (k + 1)) = if b.let_ (q.sr k) (q.sc k) then sqL q (NT k) else sqL q (NT k) ++ [(q.sr k, q.sc k)]) := Lib.hid (fun k => by
   rw [hst'.out k]
   cases b.let_ (q.sr k) (q.sc k) <;> simp [sqL])
 obtain ⟨W, hW⟩ : ∃ W, W = ((((w.alloc (.cells #[.int .i64 b.size, sv b.prem, sv b.cells] 41)).alloc (.cells #[.int .i64 q.row, .int .i64 q.col, .bool q.down, sv q.word] 61)).alloc (.cells #[] 229)).alloc (.cells #[] 3)).iter ⟨q.word.toArray⟩ 0 := ⟨_, rfl⟩
 have hz0 : (w.alloc (.cells #[.int .i64 b.size, sv b.prem, sv b.cells] 41)).heap.size = w.heap.size + 1 := by simp
 have hB0 : Blk W w.heap.size 41 #[.int .i64 b.size, sv b.prem, sv b.cells] := by rw [hW]; exact ((((Blk.new w _ _).alloc _).alloc _).alloc _).alloc _
 have hB1 : Blk W (w.heap.size + 1) 61 #[.int .i64 q.row, .int .i64 q.col, .bool q.down, sv q.word] := by rw [hW]; exact (((Blk.new1 w _ _ _).alloc _).alloc _).alloc _
 have hbW : Below w.heap.size w W := by rw [hW]; exact (((((Below.refl _ _).alloc (Nat.le_refl _) _).alloc (by simp) _).alloc (by simp; omega) _).alloc (by simp; omega) _).alloc (by simp; omega) _
 have own1 : W.ownsRow w.heap.size 229 2 (.slice (some ⟨w.heap.size + 1 + 1, 0, none⟩) 0 0) 0 (sqC (sqL q (NT 0))) := by
   have h0 : NT 0 = [] := List.eq_nil_of_length_eq_zero (by have := hNl'.out 0; omega)
   rw [h0, hW]
   have := World.ownsRow_lit (base := w.heap.size) (size := 2) (e := 229) ((w.alloc (.cells #[.int .i64 b.size, sv b.prem, sv b.cells] 41)).alloc (.cells #[.int .i64 q.row, .int .i64 q.col, .bool q.down, sv q.word] 61)) #[] 0 (by simp; omega) (by unfold maxLen; omega) rfl
   have h2 := (this.alloc (.cells #[] 3)).alloc (.stringIter ⟨q.word.toArray⟩ 0)
   simp only [World.iter]
   show World.ownsRow _ _ _ _ _ _ []
   simpa using h2
 have own2 : W.ownsRow w.heap.size 3 1 (.slice (some ⟨w.heap.size + 1 + 1 + 1, 0, none⟩) 0 0) 0 ((NT 0).map iv) := by
   have h0 : NT 0 = [] := List.eq_nil_of_length_eq_zero (by have := hNl'.out 0; omega)
   rw [h0, hW]
   have := World.ownsRow_lit (base := w.heap.size) (size := 1) (e := 3) (((w.alloc (.cells #[.int .i64 b.size, sv b.prem, sv b.cells] 41)).alloc (.cells #[.int .i64 q.row, .int .i64 q.col, .bool q.down, sv q.word] 61)).alloc (.cells #[] 229)) #[] 0 (by simp; omega) (by unfold maxLen; omega) rfl
   have h2 := this.alloc (.stringIter ⟨q.word.toArray⟩ 0)
   simp only [World.iter]
   show World.ownsRow _ _ _ _ _ _ []
   simpa using h2
 have hit : W.heap[w.heap.size + 1 + 1 + 1 + 1]? = some (.stringIter ⟨q.word.toArray⟩ 0) := by
   rw [hW]
   have := World.iter_heap ((((w.alloc (.cells #[.int .i64 b.size, sv b.prem, sv b.cells] 41)).alloc (.cells #[.int .i64 q.row, .int .i64 q.col, .bool q.down, sv q.word] 61)).alloc (.cells #[] 229)).alloc (.cells #[] 3)) ⟨q.word.toArray⟩ 0
   simpa using this
 have h0l : Hid ((NT 0).length = 0) := Lib.hid (by have := hNl'.out 0; omega)
 go_enter Tryz.func157, Tryz.ntmps157
 go_wp2_with (fail)
 rw [← hW]
 clear hW hz0
 go_loopw [6, 7] (fun o1 o2 wr => ∃ k : Nat, k ≤ q.word.length ∧ wr.heap[w.heap.size + 1 + 1 + 1 + 1]? = some (.stringIter ⟨q.word.toArray⟩ k) ∧ wr.ownsRow w.heap.size 229 2 o1 (NT k).length (sqC (sqL q (NT k))) ∧ wr.ownsRow w.heap.size 3 1 o2 (NT k).length ((NT k).map iv) ∧ Blk wr w.heap.size 41 #[.int .i64 b.size, sv b.prem, sv b.cells] ∧ Blk wr (w.heap.size + 1) 61 #[.int .i64 q.row, .int .i64 q.col, .bool q.down, sv q.word] ∧ Below w.heap.size w wr) (fun _ _ wr => q.word.length - wr.iterPos (w.heap.size + 1 + 1 + 1 + 1))
 case atStart => exact ⟨0, by omega, hit, own_cast own1 rfl h0l.out.symm, own_cast own2 rfl h0l.out.symm, hB0, hB1, hbW⟩
 case round =>
   clear hit own1 own2 hB0 hB1 hbW h0l
   obtain ⟨k, hk, hit, own1, own2, hB0, hB1, hb⟩ := hrel
   by_cases hlt : k < q.word.length
   · have hnx : ∀ ty, (Instr.next (.pointer (some ⟨w.heap.size + 1 + 1 + 1 + 1, 0, none⟩)) true ty).run Tryz.prog wr = .ok (.tuple #[.bool true, .int .i64 k, .int .i32 (q.word[k]).toNat]) (wr.iterAt (w.heap.size + 1 + 1 + 1 + 1) ⟨q.word.toArray⟩ (k + 1)) := fun ty =>
       Lib.run_next_ascii_at wr _ ⟨q.word.toArray⟩ k ty hit (by simpa [ByteArray.size] using hlt) (hasc'.out k hlt)
     obtain ⟨W1, hW1⟩ : ∃ W1, W1 = wr.iterAt (w.heap.size + 1 + 1 + 1 + 1) ⟨q.word.toArray⟩ (k + 1) := ⟨_, rfl⟩
     have own1' := own_iterAt (pos' := k + 1) own1 hit
     rw [← hW1] at own1'
     have own2' := own_iterAt (pos' := k + 1) own2 hit
     rw [← hW1] at own2'
     have hB0' : Blk W1 w.heap.size 41 #[.int .i64 b.size, sv b.prem, sv b.cells] := by rw [hW1]; exact hB0.iterAt hit
     have hB1' : Blk W1 (w.heap.size + 1) 61 #[.int .i64 q.row, .int .i64 q.col, .bool q.down, sv q.word] := by rw [hW1]; exact hB1.iterAt hit
     have hit' : W1.heap[w.heap.size + 1 + 1 + 1 + 1]? = some (.stringIter ⟨q.word.toArray⟩ (k + 1)) := by rw [hW1]; exact Lib.iterAt_heap wr _ _ k _ hit
     have hb' : Below w.heap.size w W1 := by rw [hW1]; exact Lib.below_iterAt hb (by omega) _ _
     rw [← hW1] at hnx
     clear hW1 own1 own2 hB0 hB1 hb
     have hNk := hNl'.out k
     have ks := ksq'.out k hlt
     have ko := fun w => kon k w
     have hstep := Lib.hid (hst'.out k)
     have hsq := Lib.hid (hpl.out k)
     obtain ⟨sr, hsr⟩ : ∃ sr, sr = q.sr k := ⟨_, rfl⟩
     obtain ⟨sc, hsc⟩ : ∃ sc, sc = q.sc k := ⟨_, rfl⟩
     rw [← hsr, ← hsc] at ks ko hstep hsq
     clear hsr hsc
     obtain ⟨N, hN⟩ : ∃ N, N = NT k := ⟨_, rfl⟩
     rw [← hN] at own1' own2' hNk hstep hsq
     clear hN
     have hNl2 : N.length + 1 ≤ 1099511627776 := by omega
     obtain ⟨lt, hlt2⟩ : ∃ lt, lt = b.let_ sr sc := ⟨_, rfl⟩
     rw [← hlt2] at ko hstep hsq
     clear hlt2
     have d0 : W1.cell? ⟨w.heap.size + 1, 0, none⟩ = some (.int .i64 q.row) := hB1'.cell 0
     have d1 : W1.cell? ⟨w.heap.size + 1, 1, none⟩ = some (.int .i64 q.col) := hB1'.cell 1
     have d2 : W1.cell? ⟨w.heap.size + 1, 2, none⟩ = some (.bool q.down) := hB1'.cell 2
     have d3 : W1.cell? ⟨w.heap.size + 1, 3, none⟩ = some (sv q.word) := hB1'.cell 3
     cases lt
     · have hlit := run_lit1 sqT (.agg #[.int .i64 sr, .int .i64 sc]) #[.int .i64 sr, .int .i64 sc] rfl rfl (by omega)
       go_wp2_with (first
         | (go_at_call 169; refine (ks _).mono ?_; rintro e w2 ⟨rfl, hb2⟩
            have hB02 := hB0'.below hb2 hB0'.lt
            have c0 : w2.cell? ⟨w.heap.size, 0, none⟩ = some (.int .i64 b.size) := hB02.cell 0
            have c1 : w2.cell? ⟨w.heap.size, 1, none⟩ = some (sv b.prem) := hB02.cell 1
            have c2 : w2.cell? ⟨w.heap.size, 2, none⟩ = some (sv b.cells) := hB02.cell 2
            have hlt0 := hB02.lt
            have hne0 : w.heap.size ≠ w2.heap.size := by omega)
         | (go_at_call 232; refine (ko _).mono ?_; rintro e w3 ⟨rfl, hb3⟩
            have hb23 := (hb2.alloc hb2.size (.cells #[.int .i64 sr, .int .i64 sc] 229)).trans (hb3.mono (by have := hb2.size; simp; omega))
            have hC := (Blk.new w2 229 #[.int .i64 sr, .int .i64 sc]).below hb3 (by simp)
            have e0 : w3.cell? ⟨w2.heap.size, 0, none⟩ = some (.int .i64 sr) := hC.cell 0
            have e1 : w3.cell? ⟨w2.heap.size, 1, none⟩ = some (.int .i64 sc) := hC.cell 1
            have own13 := own_call own1' hb23
            have own23 := own_call own2' hb23
            have hB03 := hB0'.below hb23 hB0'.lt
            have hB13 := hB1'.below hb23 hB1'.lt
            have hit3 := iter_below hit' hb23
            have hbb := hb'.trans (hb23.mono hb'.size)
            have hbz := hbb.size)
         | (at_builtin; refine wpList_app sqT rfl (.tmp 25) (.tmp 27) rfl _ N.length _ rfl w.heap.size own13 [.int .i64 sr, .int .i64 sc] rfl (by simp [Value.oneCell']) rfl hNl2 (by omega) hbz ?_; intro v4 w4 own4 hg4 hat4
            have own24 := own_grown own23 own13 (by decide) hg4
            have hbz4 := Nat.le_trans hbz hg4.size)
         | (at_builtin; refine wpList_app intT rfl (.tmp 29) (.tmp 31) rfl _ N.length _ rfl w.heap.size own24 [iv k] rfl (by simp [Value.oneCell', iv]) rfl hNl2 (by omega) hbz4 ?_; intro v5 w5 own5 hg5 hat5))
       have hit5 := iter_grown (iter_grown hit3 own13 hg4) own24 hg5
       go_roundw
       case rel => exact ⟨k + 1, by omega, hit5, own_cast (own_grown own4 own24 (by decide) hg5) (by rw [hsq.out]; simp [sqC_append, sqC_one]) (by rw [hstep.out]; simp), own_cast own5 (by rw [hstep.out]; simp) (by rw [hstep.out]; simp), (hB03.grown hg4 (fun h => own_blk_ne own13 hB03 (by decide) h.symm)).grown hg5 (fun h => own_blk_ne own24 (hB03.grown hg4 (fun h => own_blk_ne own13 hB03 (by decide) h.symm)) (by decide) h.symm), (hB13.grown hg4 (fun h => own_blk_ne own13 hB13 (by decide) h.symm)).grown hg5 (fun h => own_blk_ne own24 (hB13.grown hg4 (fun h => own_blk_ne own13 hB13 (by decide) h.symm)) (by decide) h.symm), Below.own (Below.own hbb hbz own13 (Nat.le_refl _) hg4) hbz4 own24 (Nat.le_refl _) hg5⟩
       case measure => simp only [World.iterPos, hit5, hit]; omega
     · go_wp2_with (first
         | (go_at_call 169; refine (ks _).mono ?_; rintro e w2 ⟨rfl, hb2⟩
            have hB02 := hB0'.below hb2 hB0'.lt
            have c0 : w2.cell? ⟨w.heap.size, 0, none⟩ = some (.int .i64 b.size) := hB02.cell 0
            have c1 : w2.cell? ⟨w.heap.size, 1, none⟩ = some (sv b.prem) := hB02.cell 1
            have c2 : w2.cell? ⟨w.heap.size, 2, none⟩ = some (sv b.cells) := hB02.cell 2
            have hlt0 := hB02.lt
            have hne0 : w.heap.size ≠ w2.heap.size := by omega)
         | (go_at_call 232; refine (ko _).mono ?_; rintro e w3 ⟨rfl, hb3⟩
            have hb23 := (hb2.alloc hb2.size (.cells #[.int .i64 sr, .int .i64 sc] 229)).trans (hb3.mono (by have := hb2.size; simp; omega))
            have hC := (Blk.new w2 229 #[.int .i64 sr, .int .i64 sc]).below hb3 (by simp)
            have e0 : w3.cell? ⟨w2.heap.size, 0, none⟩ = some (.int .i64 sr) := hC.cell 0
            have e1 : w3.cell? ⟨w2.heap.size, 1, none⟩ = some (.int .i64 sc) := hC.cell 1
            have own13 := own_call own1' hb23
            have own23 := own_call own2' hb23
            have hB03 := hB0'.below hb23 hB0'.lt
            have hB13 := hB1'.below hb23 hB1'.lt
            have hit3 := iter_below hit' hb23
            have hbb := hb'.trans (hb23.mono hb'.size)
            have hbz := hbb.size))
       go_roundw
       case rel => exact ⟨k + 1, by omega, hit3, own_cast own13 (by rw [hsq.out]; simp) (by rw [hstep.out]; simp), own_cast own23 (by rw [hstep.out]; simp) (by rw [hstep.out]; simp), hB03, hB13, hbb⟩
       case measure => simp only [World.iterPos, hit3, hit]; omega
   · obtain rfl : k = q.word.length := by omega
     have hnx : ∀ ty, (Instr.next (.pointer (some ⟨w.heap.size + 1 + 1 + 1 + 1, 0, none⟩)) true ty).run Tryz.prog wr = .ok (.tuple #[.bool false]) wr := fun ty =>
       Lib.run_next_end_at wr _ ⟨q.word.toArray⟩ _ ty hit (by simp [ByteArray.size])
     rw [← hend.out] at own1 own2
     go_wp2_with (fail)
     go_ret2
     exact ⟨_, _, rfl, own1, own2, hb⟩
end Go.Proofs.YtdkckikobefekaaGreatDoor
