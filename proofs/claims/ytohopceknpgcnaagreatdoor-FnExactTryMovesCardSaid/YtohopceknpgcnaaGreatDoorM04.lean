/-
  Contracts: plays (layer 12 of the spec package); Contracts: which plays are valid (layer 12 of the spec package); Contracts: valid plays, and the letters that a play places (layer 12 of the spec package); Contracts: the squares on which a play places letters, and these letters (layer 12 of the spec package); Contract: the letters that a play places (layer 12 of the spec package); Contract: the letters across a square (layer 12 of the spec package); Contract: the words that an across play forms (layer 12 of the spec package).
  Conditions: as each part below says.
-/
import Derived.Test.YtohopceknpgcnaaGreatDoorM03
import Derived.Test.YtohopceknpgcnaaGreatDoorM02
/-
  Contracts: plays (layer 12 of the spec package).
  Conditions: a board that is valid lies at an address; a play's numbers are those of an int64.
-/
namespace Go.Proofs.YtohopceknpgcnaaGreatDoor
open Go.RowKit RegP RegL
set_option maxHeartbeats 400000

theorem ret_row2 {P : Program} {fn : Func} {R : Ending → World → Prop} {a : Act} {w : World} {p q : Tmp} {ty ty' : TypeId} (h : fn.results = #[.cell p ty, .cell q ty']) (g g' : Nat) (t t' : TypeId) (cs cs' : Array Value) (d d' : TypeDesc)
    (hp : a.tmps.getD p undef = .pointer (some ⟨g, 0, none⟩)) (hg : Blk w g t cs) (hu : P.underlying ty = some d)
    (hd : (match d with | .struct _ | .array _ _ => true | _ => false) = true) (hi : (P.info? ty).map (·.size) = some cs.size)
    (hp' : a.tmps.getD q undef = .pointer (some ⟨g', 0, none⟩)) (hg' : Blk w g' t' cs') (hu' : P.underlying ty' = some d')
    (hd' : (match d' with | .struct _ | .array _ _ => true | _ => false) = true) (hi' : (P.info? ty').map (·.size) = some cs'.size) (hdf : a.defers = [])
    (hR : R (.returned (.tuple #[.agg cs, .agg cs'])) w) : bodyPost P fn R .ret a w := by
  have e1 : a.tmps[p]?.getD undef = .pointer (some ⟨g, 0, none⟩) := by simpa using hp
  have e2 : a.tmps[q]?.getD undef = .pointer (some ⟨g', 0, none⟩) := by simpa using hp'
  refine bodyPost_ret (v := .tuple #[.agg cs, .agg cs']) ?_ hdf hR
  simp [results, h, e1, e2, asAddr, run_loadVar_row w g t ty cs (0, 0) d hg hu hd hi, run_loadVar_row w g' t' ty' cs' (0, 0) d' hg' hu' hd' hi']

theorem Blk.new1 (w : World) (o : Obj) (t : TypeId) (cs : Array Value) : Blk ((w.alloc o).alloc (.cells cs t)) (w.heap.size + 1) t cs := by
  have := Blk.new (w.alloc o) t cs
  rwa [show (w.alloc o).heap.size = w.heap.size + 1 by simp] at this

theorem Blk.new2 (w : World) (o o' : Obj) (t : TypeId) (cs : Array Value) : Blk (((w.alloc o).alloc o').alloc (.cells cs t)) (w.heap.size + 1 + 1) t cs := by
  have := Blk.new ((w.alloc o).alloc o') t cs
  rwa [show ((w.alloc o).alloc o').heap.size = w.heap.size + 1 + 1 by simp] at this

def Pl.tr (p : Pl) : Pl := ⟨p.col, p.row, !p.down, p.word⟩
theorem l12Turn_any (p : Pl) (w : World) :
    Calls Tryz.prog 161 #[p.v] w fun e w' => e = .returned p.tr.v ∧ Below w.heap.size w w' := by
  unfold Pl.v
  go_enter Tryz.func161, Tryz.ntmps161
  go_wp2_with (fail)
  refine ret_row (p := 2) (ty := 69) rfl (w.heap.size + 1) 69 _ _ rfl (Blk.new1 w _ _ _) Tryz.underlying69 rfl (by kernel_rfl) rfl ⟨rfl, ?_⟩
  exact ((Below.refl _ _).alloc (Nat.le_refl _) _).alloc (by simp) _
def flatB (b : Bd) (q : Pl) : Bd := if q.down then b.tr else b
def flatP (q : Pl) : Pl := if q.down then q.tr else q
/-- Two results that lie in variables, stored by ops i and j of a region; a boxed argument below them. -/
structure SF (w : World) (i j : Nat) (bx r r' q q' : Array Value) (L : Nat → Bool) (w' : World) : Prop where
  low : Below w.heap.size w w'
  box : Blk w' w.heap.size 69 bx
  one : Blk w' (w.heap.size + 1) 40 (if L i then r' else r)
  two : Blk w' (w.heap.size + 1 + 1) 69 (if L j then q' else q)
section
variable {w w1 w2 : World} {i j k : Nat} {bx r r' q q' : Array Value} {L : Nat → Bool}
theorem SF.keep (h : SF w i j bx r r' q q' L w1) (h1 : k ≠ i) (h2 : k ≠ j) : SF w i j bx r r' q q' (upd L k) w1 := by
  refine ⟨h.low, h.box, ?_, ?_⟩
  · rw [upd_ne L h1.symm]; exact h.one
  · rw [upd_ne L h2.symm]; exact h.two
theorem SF.call (h : SF w i j bx r r' q q' L w1) (hb : Below w1.heap.size w1 w2) : SF w i j bx r r' q q' L w2 :=
  ⟨h.low.trans (hb.mono h.low.size), h.box.below hb h.box.lt, h.one.below hb h.one.lt, h.two.below hb h.two.lt⟩
theorem SF.at_ (h : SF w i j bx r r' q q' L w1) : (∀ o, w1.cell? ⟨w.heap.size, o, none⟩ = bx[o]?) := h.box.cell
theorem SF.put1 (hij : i ≠ j) (h2 : Below w.heap.size w w2) (hb : Blk w2 w.heap.size 69 bx) (hr : Blk w2 (w.heap.size + 1) 40 r') (hq : Blk w2 (w.heap.size + 1 + 1) 69 (if L j then q' else q)) : SF w i j bx r r' q q' (upd L i) w2 := by
  refine ⟨h2, hb, ?_, ?_⟩
  · rw [upd_same]; exact hr
  · rw [upd_ne L hij.symm]; exact hq
theorem SF.put2 (hij : i ≠ j) (h2 : Below w.heap.size w w2) (hb : Blk w2 w.heap.size 69 bx) (hr : Blk w2 (w.heap.size + 1) 40 (if L i then r' else r)) (hq : Blk w2 (w.heap.size + 1 + 1) 69 q') : SF w i j bx r r' q q' (upd L j) w2 := by
  refine ⟨h2, hb, ?_, ?_⟩
  · rw [upd_ne L hij]; exact hr
  · rw [upd_same]; exact hq
theorem SF.board {a0 a1 a2 x0 x1 x2 : Value} (h : SF w i j bx #[a0, a1, a2] #[x0, x1, x2] q q' L w1) (hij : i ≠ j) (hL : L i = false) :
    SF w i j bx #[a0, a1, a2] #[x0, x1, x2] q q' (upd L i) (((w1.setCell { block := w.heap.size + 1, off := 0 } x0).setCell { block := w.heap.size + 1, off := 1 } x1).setCell { block := w.heap.size + 1, off := 2 } x2) := by
  have h1 := h.one
  rw [hL] at h1
  have hne : w.heap.size ≠ w.heap.size + 1 := by omega
  have hne2 : w.heap.size + 1 + 1 ≠ w.heap.size + 1 := by omega
  exact SF.put1 hij (((h.low.setCell (by simp) _).setCell (by simp) _).setCell (by simp) _) (((h.box.far hne _).far hne _).far hne _) (((h1.set_ 0 x0).set_ 1 x1).set_ 2 x2) (((h.two.far hne2 _).far hne2 _).far hne2 _)
theorem SF.play {a0 a1 a2 a3 x0 x1 x2 x3 : Value} (h : SF w i j bx r r' #[a0, a1, a2, a3] #[x0, x1, x2, x3] L w1) (hij : i ≠ j) (hL : L j = false) :
    SF w i j bx r r' #[a0, a1, a2, a3] #[x0, x1, x2, x3] (upd L j) ((((w1.setCell { block := w.heap.size + 1 + 1, off := 0 } x0).setCell { block := w.heap.size + 1 + 1, off := 1 } x1).setCell { block := w.heap.size + 1 + 1, off := 2 } x2).setCell { block := w.heap.size + 1 + 1, off := 3 } x3) := by
  have h1 := h.two
  rw [hL] at h1
  have hne : w.heap.size ≠ w.heap.size + 1 + 1 := by omega
  have hne2 : w.heap.size + 1 ≠ w.heap.size + 1 + 1 := by omega
  exact SF.put2 hij ((((h.low.setCell (by simp; omega) _).setCell (by simp; omega) _).setCell (by simp; omega) _).setCell (by simp; omega) _) ((((h.box.far hne _).far hne _).far hne _).far hne _) ((((h.one.far hne2 _).far hne2 _).far hne2 _).far hne2 _) ((((h1.set_ 0 x0).set_ 1 x1).set_ 2 x2).set_ 3 x3)
end
theorem l12Flat_any (g : Nat) (b : Bd) (q : Pl) (w : World) (hp : BAt w ⟨g, 0, none⟩ b) (hf : b.Fit) :
    Calls Tryz.prog 118 #[.pointer (some ⟨g, 0, none⟩), q.v] w fun e w' => e = .returned (.tuple #[(flatB b q).v, (flatP q).v]) ∧ Below w.heap.size w w' := by
  have hlt : g < w.heap.size := hp.lt
  have hp' := hp
  have hp0 : w.cell? ⟨g, 0, none⟩ = some (.int .i64 b.size) := hp.1
  have hp1 : w.cell? ⟨g, 1, none⟩ = some (sv b.prem) := hp.2.1
  have hp2 : w.cell? ⟨g, 2, none⟩ = some (sv b.cells) := hp.2.2
  clear hp
  obtain ⟨pr, pc, pd, pw⟩ := q
  cases pd
  · go_enter Tryz.func118, Tryz.ntmps118
    simp only [Pl.v]
    go_wp2_with (fail)
    refine wp_region_l 9 6 (SF w 4 5 #[.int .i64 pr, .int .i64 pc, .bool false, sv pw] #[.int .i64 0, sv [], sv []] #[.int .i64 b.size, sv b.prem, sv b.cells] #[.int .i64 0, .int .i64 0, .bool false, sv []] #[.int .i64 pr, .int .i64 pc, .bool false, sv pw]) (by kernel_rfl) (by kernel_rfl) ?_ ?_
    · refine ⟨((((Below.refl w.heap.size w).alloc (Nat.le_refl _) _).alloc (by simp) _).alloc (by simp; omega) _).drew, ?_, ?_, ?_⟩
      · exact (((Blk.new w _ _).alloc _).alloc _).drew
      · exact ((Blk.new1 w _ _ _).alloc _).drew
      · exact (Blk.new2 w _ _ _ _).drew
    simp only [List.take_succ_cons, List.take_zero, List.drop_succ_cons, List.drop_zero]
    iterate 4
      apply pl_step rfl
      · intro L w1 hS h1 h2 K hK
        clear h2
        have hbw := hS.low
        have c0 : w1.cell? ⟨g, 0, none⟩ = _ := (hbw.cell hlt).trans hp0
        have c1 : w1.cell? ⟨g, 1, none⟩ = _ := (hbw.cell hlt).trans hp1
        have c2 : w1.cell? ⟨g, 2, none⟩ = _ := (hbw.cell hlt).trans hp2
        have d0 : w1.cell? ⟨w.heap.size, 0, none⟩ = some (.int .i64 pr) := hS.at_ 0
        have d1 : w1.cell? ⟨w.heap.size, 1, none⟩ = some (.int .i64 pc) := hS.at_ 1
        have d2 : w1.cell? ⟨w.heap.size, 2, none⟩ = some (.bool false) := hS.at_ 2
        have d3 : w1.cell? ⟨w.heap.size, 3, none⟩ = some (sv pw) := hS.at_ 3
        go_wp2_with (fail)
        exact hS.keep (by decide) (by decide)
      simp only [Act.put, List.setIfInBounds_toArray, List.set_cons_succ, List.set_cons_zero]
    apply pl_step (v := undef) rfl
    · intro L w1 hS h1 h2 K hK
      clear h2
      have hB := hS.one
      rw [h1] at hB
      have e0 : w1.cell? ⟨w.heap.size + 1, 0, none⟩ = some (.int .i64 0) := hB.cell 0
      have e1 : w1.cell? ⟨w.heap.size + 1, 1, none⟩ = some (sv []) := hB.cell 1
      have e2 : w1.cell? ⟨w.heap.size + 1, 2, none⟩ = some (sv []) := hB.cell 2
      have f0 := hB.frozen
      go_wp2_with (fail)
      exact hS.board (by decide) h1
    simp only [Act.put]
    apply pl_step (v := undef) rfl
    · intro L w1 hS h1 h2 K hK
      clear h2
      have hB := hS.two
      rw [h1] at hB
      have e0 : w1.cell? ⟨w.heap.size + 1 + 1, 0, none⟩ = some (.int .i64 0) := hB.cell 0
      have e1 : w1.cell? ⟨w.heap.size + 1 + 1, 1, none⟩ = some (.int .i64 0) := hB.cell 1
      have e2 : w1.cell? ⟨w.heap.size + 1 + 1, 2, none⟩ = some (.bool false) := hB.cell 2
      have e3 : w1.cell? ⟨w.heap.size + 1 + 1, 3, none⟩ = some (sv []) := hB.cell 3
      have f0 := hB.frozen
      go_wp2_with (fail)
      exact hS.play (by decide) h1
    simp only [Act.put]
    refine pl_nil ?_
    intro w1 hS
    go_wp2
    exact ret_row2 (p := 4) (q := 5) (ty := 40) (ty' := 69) rfl (w.heap.size + 1) (w.heap.size + 1 + 1) 40 69 _ _ _ _ rfl hS.one Tryz.underlying40 rfl (by kernel_rfl) rfl hS.two Tryz.underlying69 rfl (by kernel_rfl) rfl ⟨rfl, hS.low⟩
  · go_enter Tryz.func118, Tryz.ntmps118
    simp only [Pl.v]
    go_wp2_with (fail)
    refine wp_region_l 9 6 (SF w 4 5 #[.int .i64 pr, .int .i64 pc, .bool true, sv pw] #[.int .i64 0, sv [], sv []] #[.int .i64 b.tr.size, sv b.tr.prem, sv b.tr.cells] #[.int .i64 0, .int .i64 0, .bool false, sv []] #[.int .i64 pc, .int .i64 pr, .bool false, sv pw]) (by kernel_rfl) (by kernel_rfl) ?_ ?_
    · refine ⟨((((Below.refl w.heap.size w).alloc (Nat.le_refl _) _).alloc (by simp) _).alloc (by simp; omega) _).drew, ?_, ?_, ?_⟩
      · exact (((Blk.new w _ _).alloc _).alloc _).drew
      · exact ((Blk.new1 w _ _ _).alloc _).drew
      · exact (Blk.new2 w _ _ _ _).drew
    simp only [List.take_succ_cons, List.take_zero, List.drop_succ_cons, List.drop_zero]
    iterate 4
      apply pl_step rfl
      · intro L w1 hS h1 h2 K hK
        clear h2
        have hbw := hS.low
        have d0 : w1.cell? ⟨w.heap.size, 0, none⟩ = some (.int .i64 pr) := hS.at_ 0
        have d1 : w1.cell? ⟨w.heap.size, 1, none⟩ = some (.int .i64 pc) := hS.at_ 1
        have d2 : w1.cell? ⟨w.heap.size, 2, none⟩ = some (.bool true) := hS.at_ 2
        have d3 : w1.cell? ⟨w.heap.size, 3, none⟩ = some (sv pw) := hS.at_ 3
        go_wp2_with (first
          | (go_at_call 114; refine (l11Transpose_any _ b _ (hp'.below hbw hlt) hf).mono ?_; rintro e w2 ⟨rfl, hb2⟩)
          | (go_at_call 161; refine (l12Turn_any ⟨pr, pc, true, pw⟩ _).mono ?_; rintro e w2 ⟨rfl, hb2⟩))
        first | exact hS.keep (by decide) (by decide) | exact (hS.call hb2).keep (by decide) (by decide)
      simp only [Act.put, List.setIfInBounds_toArray, List.set_cons_succ, List.set_cons_zero]
    apply pl_step (v := undef) rfl
    · intro L w1 hS h1 h2 K hK
      clear h2
      have hB := hS.one
      rw [h1] at hB
      have e0 : w1.cell? ⟨w.heap.size + 1, 0, none⟩ = some (.int .i64 0) := hB.cell 0
      have e1 : w1.cell? ⟨w.heap.size + 1, 1, none⟩ = some (sv []) := hB.cell 1
      have e2 : w1.cell? ⟨w.heap.size + 1, 2, none⟩ = some (sv []) := hB.cell 2
      have f0 := hB.frozen
      unfold Bd.v
      go_wp2_with (fail)
      exact hS.board (by decide) h1
    simp only [Act.put]
    apply pl_step (v := undef) rfl
    · intro L w1 hS h1 h2 K hK
      clear h2
      have hB := hS.two
      rw [h1] at hB
      have e0 : w1.cell? ⟨w.heap.size + 1 + 1, 0, none⟩ = some (.int .i64 0) := hB.cell 0
      have e1 : w1.cell? ⟨w.heap.size + 1 + 1, 1, none⟩ = some (.int .i64 0) := hB.cell 1
      have e2 : w1.cell? ⟨w.heap.size + 1 + 1, 2, none⟩ = some (.bool false) := hB.cell 2
      have e3 : w1.cell? ⟨w.heap.size + 1 + 1, 3, none⟩ = some (sv []) := hB.cell 3
      have f0 := hB.frozen
      unfold Pl.v Pl.tr
      go_wp2_with (fail)
      exact hS.play (by decide) h1
    simp only [Act.put]
    refine pl_nil ?_
    intro w1 hS
    go_wp2
    exact ret_row2 (p := 4) (q := 5) (ty := 40) (ty' := 69) rfl (w.heap.size + 1) (w.heap.size + 1 + 1) 40 69 _ _ _ _ rfl hS.one Tryz.underlying40 rfl (by kernel_rfl) rfl hS.two Tryz.underlying69 rfl (by kernel_rfl) rfl ⟨rfl, hS.low⟩
end Go.Proofs.YtohopceknpgcnaaGreatDoor
/-
  Contracts: which plays are valid (layer 12 of the spec package).
  Conditions: a board lies at an address; a play's numbers are those of an int64.
-/
namespace Go.Proofs.YtohopceknpgcnaaGreatDoor
open Go.RowKit RegP RegL
set_option maxHeartbeats 400000

theorem Dr.trans {a b c : World} (h : Dr a b) (h2 : Dr b c) : Dr a c := by
  obtain ⟨n, rfl⟩ := h
  obtain ⟨m, rfl⟩ := h2
  exact ⟨n + m, by rw [World.drewN_drewN]⟩
theorem BAt.drewN {w : World} {p : Addr} {b : Bd} (h : BAt w p b) (n : Nat) : BAt (w.drewN n) p b := h.dr ⟨n, rfl⟩
theorem BAt.alloc {w : World} {p : Addr} {b : Bd} (h : BAt w p b) (o : Obj) : BAt (w.alloc o) p b := h.below ((Below.refl _ _).alloc (Nat.le_refl _) _) h.lt
theorem Bd.Fit.size {b : Bd} (h : b.Fit) : sizeB b.size = true := by
  have := h.lo; have := h.hi
  simp [sizeB, inR]; omega
def wordB (s : Str) : Bool := decide (1 < s.length) && placedB s
theorem l12Word_any (s : Str) (w : World) (hl : s.length ≤ 2 ^ 38) :
    Calls Tryz.prog 117 #[sv s] w fun e w' => e = .returned (.bool (wordB s)) ∧ w = w' := by
  by_cases h : 1 < s.length
  · have h' : (1 : Int) < (s.length : Int) := by omega
    go_enter Tryz.func117, Tryz.ntmps117
    go_wp2_with (go_at_call 164; refine (l03Placed_any _ _ hl).mono ?_; rintro e w' ⟨rfl, hb⟩)
    go_ret
    exact ⟨ret_bool (by rw [wordB, decide_eq_true h]; rfl), hb⟩
  · have h' : decide ((1 : Int) < (s.length : Int)) = false := by simp; omega
    go_enter Tryz.func117, Tryz.ntmps117
    go_wp2_with (fail)
    go_ret
    exact ⟨ret_bool (by rw [wordB, decide_eq_false h]; rfl), rfl⟩

theorem l11Full_v (p : Addr) (b : Bd) (r c : Int) (w : World) (v : Bool) (hv : b.full r c = v) (hp : BAt w p b) (hf : b.Fit) :
    Calls Tryz.prog 166 #[.pointer (some p), .int .i64 r, .int .i64 c] w fun e w' => e = .returned (.bool v) ∧ Dr w w' := hv ▸ l11Full_any p b r c w hp hf hf.size
theorem l11In_v (p : Addr) (b : Bd) (r c : Int) (w : World) (v : Bool) (hv : b.inB r c = v) (hp : BAt w p b) (hs : sizeB b.size = true) :
    Calls Tryz.prog 165 #[.pointer (some p), .int .i64 r, .int .i64 c] w fun e w' => e = .returned (.bool v) ∧ w = w' := hv ▸ l11In_any p b r c w hp hs
def fitGo (b : Bd) (row : Int) : Bool → Str → Int → Bool
  | fresh, [], _ => fresh
  | fresh, x :: r, c => if b.at_ row c == 46 then fitGo b row true r (c + 1) else if b.at_ row c == x then fitGo b row fresh r (c + 1) else false
def fitsB (b : Bd) (q : Pl) : Bool :=
  b.inB q.row q.col && (decide (q.col + q.word.length ≤ b.size) && (!b.full q.row (q.col - 1) && (!b.full q.row (q.col + q.word.length) && fitGo b q.row false q.word q.col)))
theorem l12Fits_any (p : Addr) (b : Bd) (q : Pl) (w : World) (hp : BAt w p b) (hf : b.Fit) (hl : q.word.length ≤ 2 ^ 38) :
    Calls Tryz.prog 119 #[.pointer (some p), q.v] w fun e w' => e = .returned (.bool (fitsB b q)) ∧ Below w.heap.size w w' := by
  obtain ⟨r, c, dn, s⟩ := q
  have hdef : fitsB b ⟨r, c, dn, s⟩ = (b.inB r c && (decide (c + s.length ≤ b.size) && (!b.full r (c - 1) && (!b.full r (c + s.length) && fitGo b r false s c)))) := rfl
  rw [hdef]
  clear hdef
  have h0 := hp.1
  have hs := hf.size
  have hblt := hp.lt
  have h5 := hf.lo
  have h15 := hf.hi
  simp only at hl
  cases hi : b.inB r c
  · go_enter Tryz.func119, Tryz.ntmps119
    simp only [Pl.v]
    go_wp2_with (fail)
    go_quiet ((go_at_call 165; exact quiet_eq (l11In_v p b _ _ _ _ hi ((hp.alloc _).drewN _) hs)))
    go_wp2
    go_ret
    exact ⟨rfl, below_drewN ((Below.refl _ _).alloc (Nat.le_refl _) _) _⟩
  · obtain ⟨⟨r0, r1⟩, c0, c1⟩ := inB_iff.1 hi
    have m1 : IntKind.i64.wrap (c + (s.length : Int)) = c + (s.length : Int) := IntWalk.i64_in _ (by omega)
    have m2 : IntKind.i64.wrap (c - 1) = c - 1 := IntWalk.i64_in _ (by omega)
    by_cases hn : c + (s.length : Int) ≤ b.size
    · have hn' : decide (b.size < c + (s.length : Int)) = false := by simp; omega
      cases hf1 : b.full r (c - 1)
      · cases hf2 : b.full r (c + s.length)
        all_goals
          go_enter Tryz.func119, Tryz.ntmps119
          simp only [Pl.v]
          go_wp2_with (fail)
          go_quiet (first
            | ((go_at_call 165; exact quiet_eq (l11In_v p b _ _ _ _ hi ((hp.alloc _).drewN _) hs)))
            | ((go_at_call 166; exact quiet_dr (l11Full_v p b _ _ _ _ (by first | rw [hf1] | rw [hf2]) ((hp.alloc _).drewN _) hf))))
        · have hend : (true && (decide (c + (s.length : Int) ≤ b.size) && (!false && (!false && fitGo b r false s c)))) = fitGo b r false s c := by simp [hn]
          have hend' := Lib.hid hend
          clear hend hn' m1 m2 hf1 hf2
          have hbx := (Blk.new w 69 #[.int .i64 r, .int .i64 c, .bool dn, sv s])
          have hpW := hp.alloc (.cells #[.int .i64 r, .int .i64 c, .bool dn, sv s] 69)
          have hbW := (Below.refl w.heap.size w).alloc (Nat.le_refl _) (.cells #[.int .i64 r, .int .i64 c, .bool dn, sv s] 69)
          obtain ⟨W, hW⟩ : ∃ W, W = w.alloc (.cells #[.int .i64 r, .int .i64 c, .bool dn, sv s] 69) := ⟨_, rfl⟩
          rw [← hW] at hbx hpW hbW
          rw [← hW]
          clear hW
          go_wp2_with (fail)
          go_loopw [6, 7] (fun fr i wr => ∃ (k : Nat) (f : Bool), k ≤ s.length ∧ i = .int .i64 k ∧ fr = .bool f ∧ Hid (fitGo b r false s c = fitGo b r f (s.drop k) (c + k)) ∧ Dr W wr) (fun _ i _ => s.length - (intOf i).toNat)
          case atStart => exact ⟨0, false, by omega, rfl, rfl, by unfold Hid; simp, ⟨_, rfl⟩⟩
          case round =>
            obtain ⟨k, f, hk, rfl, rfl, he, hd⟩ := hrel
            have hpr := hpW.dr hd
            have hbr := hbx.below hd.below hbx.lt
            have e0 : wr.cell? ⟨w.heap.size, 0, none⟩ = some (.int .i64 r) := hbr.cell 0
            have e1 : wr.cell? ⟨w.heap.size, 1, none⟩ = some (.int .i64 c) := hbr.cell 1
            have e3 : wr.cell? ⟨w.heap.size, 3, none⟩ = some (sv s) := hbr.cell 3
            by_cases hlt : k < s.length
            · have hk1 : (k : Int) < (s.length : Int) := by omega
              have hk0 : (0 : Int) ≤ (k : Int) := by omega
              have hik : b.inB r (c + k) = true := inB_iff.2 ⟨⟨r0, r1⟩, by omega, by omega⟩
              have hst : Hid (fitGo b r f (s.drop k) (c + k) = if b.at_ r (c + k) == 46 then fitGo b r true (s.drop (k + 1)) (c + k + 1) else if b.at_ r (c + k) == s[k] then fitGo b r f (s.drop (k + 1)) (c + k + 1) else false) := Lib.hid (by rw [drop_cons s k hlt]; rfl)
              have hq : (((b.at_ r (c + k)).toNat : Int) == 46) = (b.at_ r (c + k) == 46) := u8_eq _ 46
              have hq2 := u8_eq (b.at_ r (c + k)) s[k]
              obtain ⟨x, hx⟩ : ∃ x, x = b.at_ r (c + k) := ⟨_, rfl⟩
              rw [← hx] at hq hq2 hst
              have hx' := Lib.hid hx
              clear hx
              cases hx1 : (x == 46)
              · cases hx2 : (x == s[k])
                all_goals
                  rw [hx1] at hq
                  rw [hx2] at hq2
                  go_wp2_with (go_at_call 167; refine (l11At_any p b r _ _ hpr hf hik).mono ?_; rw [← hx'.out]; rintro e w2 ⟨rfl, hd2⟩; have e3' : w2.cell? ⟨w.heap.size, 3, none⟩ = some (sv s) := (hbr.below hd2.below hbr.lt).cell 3)
                · go_ret
                  exact ⟨ret_bool (by rw [hend'.out, he.out, hst.out, if_neg (by rw [hx1]; decide), if_neg (by rw [hx2]; decide)]), hbW.trans ((hd.trans hd2).below.mono hbW.size)⟩
                · go_roundw
                  case rel => exact ⟨k + 1, f, by omega, by go_num, rfl, Lib.hid (by rw [he.out, hst.out, if_neg (by rw [hx1]; decide), if_pos (by rw [hx2]), Int.natCast_add, Int.add_assoc]; rfl), hd.trans hd2⟩
                  case measure => simp [intOf]; omega
              · rw [hx1] at hq
                go_wp2_with (go_at_call 167; refine (l11At_any p b r _ _ hpr hf hik).mono ?_; rw [← hx'.out]; rintro e w2 ⟨rfl, hd2⟩)
                go_roundw
                case rel => exact ⟨k + 1, true, by omega, by go_num, rfl, Lib.hid (by rw [he.out, hst.out, if_pos (by rw [hx1]), Int.natCast_add, Int.add_assoc]; rfl), hd.trans hd2⟩
                case measure => simp [intOf]; omega
            · obtain rfl : k = s.length := by omega
              go_wp2_with (fail)
              go_ret
              exact ⟨ret_bool (by rw [hend'.out, he.out, List.drop_length]; rfl), hbW.trans (hd.below.mono hbW.size)⟩
        · go_wp2
          go_ret
          exact ⟨ret_bool (by simp), below_drewN ((Below.refl _ _).alloc (Nat.le_refl _) _) _⟩
      · go_enter Tryz.func119, Tryz.ntmps119
        simp only [Pl.v]
        go_wp2_with (fail)
        go_quiet (first
            | ((go_at_call 165; exact quiet_eq (l11In_v p b _ _ _ _ hi ((hp.alloc _).drewN _) hs)))
            | ((go_at_call 166; exact quiet_dr (l11Full_v p b _ _ _ _ (by first | rw [hf1] | rw [hf2]) ((hp.alloc _).drewN _) hf))))
        go_wp2
        go_ret
        exact ⟨ret_bool (by simp), below_drewN ((Below.refl _ _).alloc (Nat.le_refl _) _) _⟩
    · have hn' : decide (b.size < c + (s.length : Int)) = true := by simp; omega
      go_enter Tryz.func119, Tryz.ntmps119
      simp only [Pl.v]
      go_wp2_with (fail)
      go_quiet ((go_at_call 165; exact quiet_eq (l11In_v p b _ _ _ _ hi ((hp.alloc _).drewN _) hs)))
      go_wp2
      go_ret
      exact ⟨ret_bool (by simp [show ¬ (c + (s.length : Int) ≤ b.size) from by omega]), below_drewN ((Below.refl _ _).alloc (Nat.le_refl _) _) _⟩
end Go.Proofs.YtohopceknpgcnaaGreatDoor
/-
  Contracts: valid plays, and the letters that a play places (layer 12 of the spec package).
  Conditions: a board lies at the head of a block.
-/
namespace Go.Proofs.YtohopceknpgcnaaGreatDoor
open Go.RowKit RegP RegL
set_option maxHeartbeats 400000

theorem Bd.Fit.tr {b : Bd} (h : b.Fit) : b.tr.Fit := by
  have h1 := h.lo
  have h2 := h.hi
  have e : b.size * b.size = ((b.size.toNat * b.size.toNat : Nat) : Int) := by
    rw [Int.natCast_mul, Int.toNat_of_nonneg (by omega)]
  refine ⟨h1, h2, ?_, ?_⟩
  · show ((turnS b.size.toNat b.prem).length : Int) = b.size * b.size
    rw [turnS, turnTo_length, e]
  · show ((turnS b.size.toNat b.cells).length : Int) = b.size * b.size
    rw [turnS, turnTo_length, e]
theorem flatB_fit {b : Bd} {q : Pl} (h : b.Fit) : (flatB b q).Fit := by
  unfold flatB; split
  · exact h.tr
  · exact h
theorem flatP_word (q : Pl) : (flatP q).word = q.word := by unfold flatP; split <;> rfl
def okB (b : Bd) (q : Pl) : Bool := bdB b && (wordB q.word && fitsB (flatB b q) (flatP q))
theorem BAt.new (w : World) (b : Bd) (t : TypeId) : BAt (w.alloc (.cells #[.int .i64 b.size, sv b.prem, sv b.cells] t)) ⟨w.heap.size, 0, none⟩ b := by
  have h := Blk.new w t #[.int .i64 b.size, sv b.prem, sv b.cells]
  exact ⟨h.cell 0, h.cell 1, h.cell 2⟩
theorem l12Ok_any (g : Nat) (b : Bd) (q : Pl) (w : World) (hp : BAt w ⟨g, 0, none⟩ b) (hl : q.word.length ≤ 2 ^ 38) (h1 : b.prem.length ≤ 2 ^ 40) (h2 : b.cells.length ≤ 2 ^ 40) :
    Calls Tryz.prog 75 #[.pointer (some ⟨g, 0, none⟩), q.v] w fun e w' => e = .returned (.bool (okB b q)) ∧ Below w.heap.size w w' := by
  have hdef : okB b q = (bdB b && (wordB q.word && fitsB (flatB b q) (flatP q))) := rfl
  have hwf := flatP_word q
  obtain ⟨q', hq'⟩ : ∃ q', q' = flatP q := ⟨_, rfl⟩
  obtain ⟨b', hb'⟩ : ∃ b', b' = flatB b q := ⟨_, rfl⟩
  rw [← hq'] at hwf
  have hfl := l12Flat_any g b q
  rw [← hq', ← hb'] at hfl
  rw [← hq', ← hb'] at hdef
  have hfit : b.Fit → b'.Fit := by intro h; rw [hb']; exact flatB_fit h
  clear hq' hb'
  have hwl : q'.word.length ≤ 2 ^ 38 := by rw [hwf]; exact hl
  have hdef' := Lib.hid hdef
  clear hdef hwf
  obtain ⟨r, c, dn, s⟩ := q
  simp only [Bd.v, Pl.v] at hfl
  have hpW := hp.alloc (.cells #[.int .i64 r, .int .i64 c, .bool dn, sv s] 69)
  have hbW := (Below.refl w.heap.size w).alloc (Nat.le_refl _) (.cells #[.int .i64 r, .int .i64 c, .bool dn, sv s] 69)
  have hbx := (Blk.new w 69 #[.int .i64 r, .int .i64 c, .bool dn, sv s])
  obtain ⟨W, hW⟩ : ∃ W, W = w.alloc (.cells #[.int .i64 r, .int .i64 c, .bool dn, sv s] 69) := ⟨_, rfl⟩
  rw [← hW] at hbx hpW hbW
  cases ho : bdB b
  · go_enter Tryz.func75, Tryz.ntmps75
    simp only [Pl.v]
    go_wp2_with (go_at_call 72; rw [← hW]; refine (l11Ok_any _ b _ hpW h1 h2).mono ?_; rw [ho]; rintro e w1 ⟨rfl, hd1⟩)
    go_ret
    exact ⟨ret_bool (by rw [hdef'.out, ho]; rfl), hbW.trans (hd1.below.mono hbW.size)⟩
  · have hf := bdB.fit ho
    cases hw : wordB s
    · go_enter Tryz.func75, Tryz.ntmps75
      simp only [Pl.v]
      go_wp2_with (first
        | (go_at_call 72; rw [← hW]; refine (l11Ok_any _ b _ hpW h1 h2).mono ?_; rw [ho]; rintro e w1 ⟨rfl, hd1⟩; have e3 : w1.cell? ⟨w.heap.size, 3, none⟩ = some (sv s) := (hbx.below hd1.below hbx.lt).cell 3)
        | (go_at_call 117; refine (l12Word_any _ _ hl).mono ?_; rw [hw]; rintro e w2 ⟨rfl, rfl⟩))
      go_ret
      exact ⟨ret_bool (by rw [hdef'.out, ho, hw]; rfl), hbW.trans (hd1.below.mono hbW.size)⟩
    · go_enter Tryz.func75, Tryz.ntmps75
      simp only [Pl.v]
      go_wp2_with (first
        | (go_at_call 72; rw [← hW]; refine (l11Ok_any _ b _ hpW h1 h2).mono ?_; rw [ho]; rintro e w1 ⟨rfl, hd1⟩
           have hp1 := hpW.dr hd1
           have hb1 := hbx.below hd1.below hbx.lt
           have e0 : w1.cell? ⟨w.heap.size, 0, none⟩ = some (.int .i64 r) := hb1.cell 0
           have e1 : w1.cell? ⟨w.heap.size, 1, none⟩ = some (.int .i64 c) := hb1.cell 1
           have e2 : w1.cell? ⟨w.heap.size, 2, none⟩ = some (.bool dn) := hb1.cell 2
           have e3 : w1.cell? ⟨w.heap.size, 3, none⟩ = some (sv s) := hb1.cell 3)
        | (go_at_call 117; refine (l12Word_any _ _ hl).mono ?_; rw [hw]; rintro e w2 ⟨rfl, rfl⟩)
        | (go_at_call 118; refine (hfl _ hp1 hf).mono ?_; rintro e w2 ⟨rfl, hb2⟩)
        | (go_at_call 119; refine (l12Fits_any ⟨w2.heap.size, 0, none⟩ b' q' _ ((BAt.new w2 b' 40).alloc _) (hfit hf) hwl).mono ?_; rintro e w3 ⟨rfl, hb3⟩))
      go_ret
      have hw1 := hbW.trans (hd1.below.mono hbW.size)
      have hw2 := hw1.trans (hb2.mono hw1.size)
      have hw3 := (hw2.alloc hw2.size (.cells #[.int .i64 b'.size, sv b'.prem, sv b'.cells] 40))
      have hw4 := hw3.alloc hw3.size (.cells #[.int .i64 q'.row, .int .i64 q'.col, .bool q'.down, sv q'.word] 69)
      exact ⟨ret_bool (by rw [hdef'.out, ho, hw]; rfl), hw4.trans (hb3.mono hw4.size)⟩
end Go.Proofs.YtohopceknpgcnaaGreatDoor
/-
  Contracts: the squares on which a play places letters, and these letters (layer 12 of the spec package).
  Conditions: a board that is valid lies at an address; all squares of the play are on it.
-/
namespace Go.Proofs.YtohopceknpgcnaaGreatDoor
open Go.RowKit RegP RegL
set_option maxHeartbeats 400000

theorem i64T : SlT Tryz.prog 25 2 (.int .i64 0) 1 8 := ⟨Tryz.underlying25, by kernel_rfl, rfl, by decide⟩
theorem lit1 {base size : Nat} {e : TypeId} (w : World) (o : Obj) (cs : Array Value) (n : Nat) (hb : base ≤ w.heap.size) (hm : n ≤ maxLen) (hs : cs.size = n * size) :
    ((w.alloc o).alloc (.cells cs e)).ownsRow base e size (.slice (some ⟨w.heap.size + 1, 0, none⟩) n n) n cs.toList := by
  have := World.ownsRow_lit (base := base) (size := size) (e := e) (w.alloc o) cs n (by simp; omega) hm hs
  simpa only [World.size_alloc] using this
def iv (k : Nat) : Value := .int .i64 (k : Int)
def freshTo (b : Bd) (q : Pl) (m : Nat) : List Nat := (List.range m).filter fun i : Nat => b.at_ q.row (q.col + (i : Int)) == 46
def freshL (b : Bd) (q : Pl) : List Nat := freshTo b q q.word.length
def OnB (b : Bd) (q : Pl) : Prop := ∀ i : Nat, i < q.word.length → b.inB q.row (q.col + (i : Int)) = true
theorem freshTo_length (b : Bd) (q : Pl) (m : Nat) : (freshTo b q m).length ≤ m := by
  have := List.length_filter_le (fun i : Nat => b.at_ q.row (q.col + (i : Int)) == 46) (List.range m)
  rw [List.length_range] at this; exact this
theorem freshTo_step (b : Bd) (q : Pl) (k : Nat) : freshTo b q (k + 1) = if b.at_ q.row (q.col + (k : Int)) == 46 then freshTo b q k ++ [k] else freshTo b q k := by
  rw [freshTo, List.range_succ, List.filter_append, ← freshTo]
  by_cases h : (b.at_ q.row (q.col + (k : Int)) == 46) = true
  · rw [if_pos h]; congr 1; exact List.filter_cons_of_pos (p := fun i : Nat => b.at_ q.row (q.col + (i : Int)) == 46) h
  · rw [if_neg h, show [k].filter (fun i : Nat => b.at_ q.row (q.col + (i : Int)) == 46) = [] from List.filter_cons_of_neg (p := fun i : Nat => b.at_ q.row (q.col + (i : Int)) == 46) h, List.append_nil]

theorem l12Fresh_any (p : Addr) (b : Bd) (q : Pl) (w : World) (hp : BAt w p b) (hf : b.Fit) (hon : OnB b q) (hl : q.word.length ≤ 2 ^ 38) :
    Calls Tryz.prog 121 #[.pointer (some p), q.v] w fun e w' => ∃ v, e = .returned v ∧ w'.ownsRow w.heap.size 2 1 v (freshL b q).length ((freshL b q).map iv) ∧ Below w.heap.size w w' := by
  have hstep : ∀ k, Hid (freshTo b q (k + 1) = if b.at_ q.row (q.col + (k : Int)) == 46 then freshTo b q k ++ [k] else freshTo b q k) := fun k => Lib.hid (freshTo_step b q k)
  have hlen := freshTo_length b q
  have hz : freshTo b q 0 = [] := rfl
  have hend : Hid (freshL b q = freshTo b q q.word.length) := rfl
  obtain ⟨F, hF⟩ : ∃ F, F = freshTo b q := ⟨_, rfl⟩
  obtain ⟨G, hG⟩ : ∃ G, G = freshL b q := ⟨_, rfl⟩
  rw [← hF] at hstep hlen hz hend
  rw [← hG] at hend ⊢
  clear hF hG
  obtain ⟨r, c, dn, s⟩ := q
  simp only [OnB] at hon
  have hblt := hp.lt
  have h15 := hf.hi
  simp only at hl hend
  go_enter Tryz.func121, Tryz.ntmps121
  simp only [Pl.v]
  go_wp2_with (fail)
  go_loopw [5, 6] (fun o i wr => ∃ k : Nat, k ≤ s.length ∧ i = .int .i64 k ∧ wr.ownsRow w.heap.size 2 1 o (F k).length ((F k).map iv) ∧ Below w.heap.size w wr ∧ Blk wr w.heap.size 69 #[.int .i64 r, .int .i64 c, .bool dn, sv s]) (fun _ i _ => s.length - (intOf i).toNat)
  case atStart =>
    refine ⟨0, by omega, rfl, ?_, ((Below.refl _ _).alloc (Nat.le_refl _) _).alloc (by simp) _, (Blk.new w _ _).alloc _⟩
    refine own_cast (lit1 w _ #[] 0 (Nat.le_refl _) (by unfold maxLen; omega) rfl) (by rw [hz]; rfl) (by rw [hz]; rfl)
  case round =>
    obtain ⟨k, hk, rfl, hown, hw, hbx⟩ := hrel
    have e0 : wr.cell? ⟨w.heap.size, 0, none⟩ = some (.int .i64 r) := hbx.cell 0
    have e1 : wr.cell? ⟨w.heap.size, 1, none⟩ = some (.int .i64 c) := hbx.cell 1
    have e3 : wr.cell? ⟨w.heap.size, 3, none⟩ = some (sv s) := hbx.cell 3
    have hpr := hp.below hw hblt
    by_cases hlt : k < s.length
    · have hk1 : (k : Int) < (s.length : Int) := by omega
      have hk0 : (0 : Int) ≤ (k : Int) := by omega
      have hik : b.inB r (c + (k : Int)) = true := hon k hlt
      obtain ⟨⟨r0, r1⟩, c0, c1⟩ := inB_iff.1 hik
      have hst := hstep k
      have hlk := hlen k
      have hq : (((b.at_ r (c + k)).toNat : Int) == 46) = (b.at_ r (c + k) == 46) := u8_eq _ 46
      obtain ⟨x, hx⟩ : ∃ x, x = b.at_ r (c + k) := ⟨_, rfl⟩
      rw [← hx] at hq
      rw [← hx] at hst
      have hx' := Lib.hid hx
      clear hx
      have hcl : c + (k : Int) ≤ 14 := by omega
      have hc0' : -274877906944 ≤ c := by omega
      cases hx1 : (x == 46)
      all_goals rw [hx1] at hq
      · go_wp2_with (go_at_call 167; refine (l11At_any p b r _ _ hpr hf hik).mono ?_; rw [← hx'.out]; rintro e w2 ⟨rfl, hd2⟩)
        go_roundw
        case rel => exact ⟨k + 1, by omega, by go_num, own_cast (own_call hown hd2.below) (by rw [hst.out, if_neg (by rw [hx1]; decide)]) (by rw [hst.out, if_neg (by rw [hx1]; decide)]), hw.trans (hd2.below.mono hw.size), hbx.below hd2.below hbx.lt⟩
        case measure => simp [intOf]; omega
      · go_wp2_with (first
          | (go_at_call 167; refine (l11At_any p b r _ _ hpr hf hik).mono ?_; rw [← hx'.out]; rintro e w2 ⟨rfl, hd2⟩; have hw2 := hw.trans (hd2.below.mono hw.size); have hown2 := own_call hown hd2.below; have hbx2 := hbx.below hd2.below hbx.lt)
          | (at_builtin; refine wpList_app i64T rfl (.tmp 24) (.tmp 26) rfl _ _ _ rfl w.heap.size hown2 [iv k] rfl (by simp [Value.oneCell', iv]) rfl (by omega) (by omega) hw2.size ?_; intro v1 w1 hown1 hg1 _))
        go_roundw
        case rel => exact ⟨k + 1, by omega, by go_num, own_cast hown1 (by rw [hst.out, if_pos hx1, List.map_append]; rfl) (by rw [hst.out, if_pos hx1, List.length_append]; rfl), Below.own hw2 hw2.size hown2 (Nat.le_refl _) hg1, hbx2.grown hg1 (fun h => own_blk_ne hown2 hbx2 (by decide) h.symm)⟩
        case measure => simp [intOf]; omega
    · obtain rfl : k = s.length := by omega
      go_wp2_with (fail)
      go_ret
      exact ⟨_, rfl, own_cast hown (by rw [hend.out]) (by rw [hend.out]), hw⟩
end Go.Proofs.YtohopceknpgcnaaGreatDoor
/-
  Contract: the letters that a play places (layer 12 of the spec package).
  Conditions: a board that is valid lies at an address; all squares of the play are on it.
-/
namespace Go.Proofs.YtohopceknpgcnaaGreatDoor
open Go.RowKit RegP RegL
set_option maxHeartbeats 400000

theorem freshTo_lt (b : Bd) (q : Pl) (m : Nat) : ∀ x ∈ freshTo b q m, x < m := fun _ hx => List.mem_range.1 (List.mem_filter.1 hx).1
def placedS (b : Bd) (q : Pl) : Str := (freshL b q).map fun i => q.word.getD i 0
theorem l12Placed_any (p : Addr) (b : Bd) (q : Pl) (w : World) (hp : BAt w p b) (hf : b.Fit) (hon : OnB b q) (hl : q.word.length ≤ 2 ^ 37) :
    Calls Tryz.prog 199 #[.pointer (some p), q.v] w fun e w' => e = .returned (sv (placedS b q)) ∧ Below w.heap.size w w' := by
  have hGl := freshTo_length b q q.word.length
  have hGx := freshTo_lt b q q.word.length
  have hfr := fun w hp => l12Fresh_any p b q w hp hf hon (by omega)
  have hend : Hid (placedS b q = (freshL b q).map fun i => q.word.getD i 0) := rfl
  change (freshL b q).length ≤ _ at hGl
  change ∀ x ∈ freshL b q, _ at hGx
  obtain ⟨G, hG⟩ : ∃ G, G = freshL b q := ⟨_, rfl⟩
  obtain ⟨S, hS⟩ : ∃ S, S = placedS b q := ⟨_, rfl⟩
  rw [← hG] at hend hGl hGx hfr
  rw [← hS] at hend ⊢
  clear hG hS
  obtain ⟨r, c, dn, s⟩ := q
  simp only at hl hend hGl hGx
  simp only [Pl.v] at hfr ⊢
  have hblt := hp.lt
  have hpW := hp.alloc (.cells #[.int .i64 r, .int .i64 c, .bool dn, sv s] 69)
  have hbW := (Below.refl w.heap.size w).alloc (Nat.le_refl _) (.cells #[.int .i64 r, .int .i64 c, .bool dn, sv s] 69)
  have hbx := (Blk.new w 69 #[.int .i64 r, .int .i64 c, .bool dn, sv s])
  obtain ⟨W, hW⟩ : ∃ W, W = w.alloc (.cells #[.int .i64 r, .int .i64 c, .bool dn, sv s] 69) := ⟨_, rfl⟩
  rw [← hW] at hbx hpW hbW
  go_enter Tryz.func199, Tryz.ntmps199
  go_wp2_with (go_at_call 121; rw [← hW]; refine (hfr W hpW).mono ?_; rintro e w1 ⟨v1, rfl, own1, hb1⟩)
  obtain ⟨A1, c1, rfl, hc1, hr1⟩ := own_sl own1
  have hbx1 := hbx.below hb1 hbx.lt
  have hw1 := hbW.trans (hb1.mono hbW.size)
  have hz1 := hbx1.lt
  go_wp2_with (fail)
  go_loopw [6, 7] (fun o i wr => ∃ k : Nat, k ≤ G.length ∧ i = .int .i64 k ∧ wr.ownsRow w1.heap.size 5 1 o k (((G.take k).map fun i => s.getD i 0).map bv) ∧ Below w1.heap.size w1 wr) (fun _ i _ => G.length - (intOf i).toNat)
  case atStart => exact ⟨0, by omega, rfl, World.ownsRow_lit w1 #[] 0 (Nat.le_refl _) (by unfold maxLen; omega) rfl, (Below.refl _ _).alloc (Nat.le_refl _) _⟩
  case round =>
    obtain ⟨k, hk, rfl, hown, hb2⟩ := hrel
    by_cases hlt : k < G.length
    · obtain ⟨ad, rfl, hadb, hc⟩ := (hr1.below hb2).el hlt
      have hx := hGx G[k] (List.getElem_mem _)
      have hstep : Hid (((G.take (k + 1)).map fun i => s.getD i 0).map bv = ((G.take k).map fun i => s.getD i 0).map bv ++ [bv s[G[k]]]) := Lib.hid (by
        rw [List.take_succ_eq_append_getElem hlt, List.map_append, List.map_append]
        simp [List.getD, List.getElem?_eq_getElem hx])
      obtain ⟨x, hx'⟩ : ∃ x, x = G[k] := ⟨_, rfl⟩
      have hix : (x : Int) < (s.length : Int) := by rw [hx']; omega
      have hx0 : (0 : Int) ≤ (x : Int) := by omega
      have hxl : x < s.length := by omega
      have hst : Hid (((G.take (k + 1)).map fun i => s.getD i 0).map bv = ((G.take k).map fun i => s.getD i 0).map bv ++ [bv s[x]]) := Lib.hid (by rw [hstep.out]; subst hx'; rfl)
      have hc' : wr.cell? (ad.add k) = some (.int .i64 x) := by rw [hc, hx']; rfl
      have hlen : (k : Int) < (G.length : Int) := by omega
      have hbr := hbx1.below hb2 hz1
      go_wp2_with (fail)
      obtain ⟨V, hV⟩ : ∃ V, V = wr.drew := ⟨_, rfl⟩
      have hcV : ∀ o1 : Obj, (V.cell? (ad.add k) = some (.int .i64 x) ∧ V.cell? ⟨w.heap.size, 3, none⟩ = some (sv s)) ∧ ((V.alloc o1).cell? (ad.add k) = some (.int .i64 x) ∧ (V.alloc o1).cell? ⟨w.heap.size, 3, none⟩ = some (sv s)) := by
        intro o1
        have hz2 := hb2.size
        have hbk : (ad.add k).block < V.heap.size := by rw [block_of_add, hV]; show ad.block < wr.heap.size; omega
        have h0 : V.cell? (ad.add k) = some (.int .i64 x) := by rw [hV]; exact hc'
        have h3 : V.cell? ⟨w.heap.size, 3, none⟩ = some (sv s) := by rw [hV]; exact hbr.cell 3
        exact ⟨⟨h0, h3⟩, by rw [World.cell?_alloc_lt _ _ _ hbk]; exact h0, by rw [World.cell?_alloc_lt _ _ _ (by rw [hV]; show w.heap.size < wr.heap.size; omega)]; exact h3⟩
      obtain ⟨hV0, hV1⟩ := hcV (.cells #[bv s[x]] 5)
      clear hcV
      refine wp_region_l 9 9 (S1 8 V (V.alloc (.cells #[bv s[x]] 5))) (by kernel_rfl) (by kernel_rfl) (by rw [← hV]; exact S1.none_) ?_
      have hV' := Lib.hid hV
      clear hV
      simp only [List.take_succ_cons, List.take_zero, List.drop_succ_cons, List.drop_zero]
      clear hx'
      iterate 8
        apply pl_step rfl
        · intro L w' hS h1 h2 K hK
          clear h2
          have h5 : w'.cell? (ad.add k) = some (.int .i64 x) := hS.old (p := fun w' => w'.cell? (ad.add k) = some (.int .i64 x)) hV0.1 hV1.1
          have h6 : w'.cell? ⟨w.heap.size, 3, none⟩ = some (sv s) := hS.old (p := fun w' => w'.cell? ⟨w.heap.size, 3, none⟩ = some (sv s)) hV0.2 hV1.2
          go_wp2
          exact hS.keep (by decide)
        simp only [Act.put, List.setIfInBounds_toArray, List.set_cons_succ, List.set_cons_zero]
      apply pl_step rfl
      · intro L w' hS h1 h2 K hK
        clear h2
        obtain rfl := hS.at0 h1
        go_wp2
        exact S1.to1
      simp only [Act.put, List.setIfInBounds_toArray, List.set_cons_succ, List.set_cons_zero]
      refine pl_nil ?_
      intro w' hS
      obtain rfl := hS.at1 rfl
      clear hS hV0 hV1
      have hown' : V.ownsRow w1.heap.size 5 1 u6 k (((G.take k).map fun i => s.getD i 0).map bv) := by rw [hV'.out]; exact hown
      have hbV : Below w1.heap.size w1 V := by rw [hV'.out]; exact hb2.drew
      go_wp2_with (at_builtin; refine wpList_app' byteT rfl (.tmp 18) (.tmp 26) rfl u6 k _ rfl w1.heap.size hown' [bv s[x]] rfl (by simp [Value.oneCell']) V.heap.size (by simp) rfl (by omega) (by omega) hbV.size ?_; intro v4 w4 own4 hg4 _)
      go_roundw
      case rel => exact ⟨k + 1, by omega, by go_num, own_cast own4 hst.out.symm rfl, Below.own hbV hbV.size hown' (Nat.le_refl _) hg4⟩
      case measure => simp [intOf]; omega
    · obtain rfl : k = G.length := by omega
      rw [List.take_length] at hown
      have hcv := run_string_own (P := Tryz.prog) wr 111 9 5 Tryz.underlying111 Tryz.underlying5 Tryz.underlying9 (l := S) (own_cast hown (by rw [hend.out]) (by rw [hend.out, List.length_map]))
      go_wp2_with (fail)
      go_ret
      exact ⟨rfl, hw1.trans (hb2.mono hw1.size)⟩
end Go.Proofs.YtohopceknpgcnaaGreatDoor
/-
  Contract: the letters across a square (layer 12 of the spec package).
  Conditions: a board that is valid lies at an address; the square is on it.
-/
namespace Go.Proofs.YtohopceknpgcnaaGreatDoor
open Go.RowKit RegP RegL
set_option maxHeartbeats 400000

def upTo (b : Bd) (col : Int) : Nat → Nat
  | 0 => 0
  | r + 1 => if b.full (r : Int) col then upTo b col r else r + 1
theorem upTo_le (b : Bd) (col : Int) : ∀ r, upTo b col r ≤ r
  | 0 => Nat.le_refl _
  | r + 1 => by rw [upTo]; split; exact Nat.le_succ_of_le (upTo_le b col r); exact Nat.le_refl _
def crossGo (b : Bd) (row : Nat) (col : Int) (letter : UInt8) : Nat → Nat → Str
  | 0, _ => []
  | f + 1, r => if r = row then letter :: crossGo b row col letter f (r + 1) else if b.full (r : Int) col then b.at_ (r : Int) col :: crossGo b row col letter f (r + 1) else []
def crossS (b : Bd) (row : Nat) (col : Int) (letter : UInt8) : Str := crossGo b row col letter (16 - upTo b col row) (upTo b col row)
theorem crossGo_length (b : Bd) (row : Nat) (col : Int) (x : UInt8) : ∀ f r, (crossGo b row col x f r).length ≤ f
  | 0, _ => Nat.le_refl _
  | f + 1, r => by
    rw [crossGo]
    have := crossGo_length b row col x f (r + 1)
    split
    · simpa using this
    · split
      · simpa using this
      · simp
theorem full_in {b : Bd} {r c : Int} (h : b.full r c = true) : b.inB r c = true := by
  unfold Bd.full at h
  simp only [Bool.and_eq_true] at h
  exact h.1
theorem l12Cross_any (p : Addr) (b : Bd) (row : Nat) (col : Int) (letter : UInt8) (w : World) (hp : BAt w p b) (hf : b.Fit) (hin : b.inB (row : Int) col = true) :
    Calls Tryz.prog 170 #[.pointer (some p), .int .i64 row, .int .i64 col, bv letter] w fun e w' => e = .returned (.tuple #[sv (crossS b row col letter), .int .i64 (upTo b col row)]) ∧ Below w.heap.size w w' := by
  obtain ⟨⟨r0, r1⟩, c0, c1⟩ := inB_iff.1 hin
  have h15 := hf.hi
  have hblt := hp.lt
  have hrow : row ≤ 14 := by omega
  go_enter Tryz.func170, Tryz.ntmps170
  go_wp2_with (fail)
  go_loopw [10] (fun i wr => ∃ k : Nat, k ≤ row ∧ i = .int .i64 k ∧ Hid (upTo b col row = upTo b col k) ∧ Dr w wr) (fun i _ => (intOf i).toNat)
  case atStart => exact ⟨row, Nat.le_refl _, rfl, rfl, Dr.refl _⟩
  case round =>
    obtain ⟨k, hk, rfl, he, hd⟩ := hrel
    have hpr := hp.dr hd
    by_cases hful : b.full ((k : Int) - 1) col = true
    · have hk1 : (1 : Int) ≤ (k : Int) := by have := (inB_iff.1 (full_in hful)).1.1; omega
      have hst : Hid (upTo b col k = upTo b col (k - 1)) := Lib.hid (by
        obtain ⟨m, rfl⟩ : ∃ m, k = m + 1 := ⟨k - 1, by omega⟩
        rw [upTo, if_pos (by rw [← hful]; congr 1; omega)]; rfl)
      go_wp2_with (go_at_call 166; refine (l11Full_v p b _ _ _ _ hful hpr hf).mono ?_; rintro e w2 ⟨rfl, hd2⟩)
      go_roundw
      case rel => exact ⟨k - 1, by omega, vi_eq (by omega), Lib.hid (by rw [he.out, hst.out]), hd.trans hd2⟩
      case measure => simp [intOf]; omega
    · have hful' : b.full ((k : Int) - 1) col = false := by simpa using hful
      have hst : Hid (upTo b col k = k) := Lib.hid (by
        cases k with
        | zero => rfl
        | succ m => rw [upTo, if_neg (by rw [show ((m : Int)) = ((m + 1 : Nat) : Int) - 1 by omega, hful']; decide)])
      go_wp2_with (go_at_call 166; refine (l11Full_v p b _ _ _ _ hful' hpr hf).mono ?_; rintro e w2 ⟨rfl, hd2⟩)
      have hk' : Hid (upTo b col row = k) := Lib.hid (by rw [he.out, hst.out])
      clear he hst hful hful'
      have hp2 := hpr.dr hd2
      have hb0 : Below w.heap.size w w2 := (hd.trans hd2).below
      have hcr : Hid (crossS b row col letter = crossGo b row col letter (16 - k) k) := Lib.hid (by rw [crossS, hk'.out])
      have hz2 := hb0.size
      go_wp2_with (fail)
      go_loopw [11, 12] (fun o i wr => ∃ (m : Nat) (out : Str), m ≤ 15 ∧ i = .int .i64 m ∧ out.length ≤ m ∧ wr.ownsRow w2.heap.size 5 1 o out.length (out.map bv) ∧ Hid (crossS b row col letter = out ++ crossGo b row col letter (16 - m) m) ∧ Below w2.heap.size w2 wr) (fun _ i _ => 16 - (intOf i).toNat)
      case atStart => exact ⟨k, [], by omega, rfl, by simp, World.ownsRow_lit w2 #[] 0 (Nat.le_refl _) (by unfold maxLen; omega) rfl, Lib.hid (by rw [hcr.out]; rfl), (Below.refl _ _).alloc (Nat.le_refl _) _⟩
      case round =>
        obtain ⟨m, out, hm, rfl, hol, hown, he, hb⟩ := hrel
        have hpm := hp2.below hb hp2.lt
        have hst : Hid (crossGo b row col letter (16 - m) m = if m = row then letter :: crossGo b row col letter (16 - (m + 1)) (m + 1) else if b.full (m : Int) col then b.at_ (m : Int) col :: crossGo b row col letter (16 - (m + 1)) (m + 1) else []) := Lib.hid (by
          rw [show 16 - m = (16 - (m + 1)) + 1 by omega, crossGo])
        by_cases hmr : m = row
        · have hg : ((m : Int) == (row : Int)) = true := by rw [hmr]; simp
          have hst2 : Hid (crossGo b row col letter (16 - m) m = letter :: crossGo b row col letter (16 - (m + 1)) (m + 1)) := Lib.hid (by rw [hst.out, if_pos hmr])
          have hm14 : m ≤ 14 := by omega
          clear hmr hst
          go_wp2_with (at_builtin; refine wpList_app byteT rfl (.tmp 37) (.tmp 39) rfl _ _ _ rfl w2.heap.size hown [bv letter] rfl (by simp [Value.oneCell']) rfl (by omega) (by omega) hb.size ?_; intro v1 w1 hown1 hg1 _)
          go_roundw
          case rel => exact ⟨m + 1, out ++ [letter], by omega, by go_num, by simp; omega, by simpa using hown1, Lib.hid (by rw [he.out, hst2.out]; simp), Below.own hb hb.size hown (Nat.le_refl _) hg1⟩
          case measure => simp [intOf]; omega
        · have hg : ((m : Int) == (row : Int)) = false := by simp; omega
          cases hful : b.full (m : Int) col
          · have hcv := fun (w' : World) (hb' : Dr wr w') => run_string_own (P := Tryz.prog) w' 111 9 5 Tryz.underlying111 Tryz.underlying5 Tryz.underlying9 (l := out) (own_call hown hb'.below)
            go_wp2_with (go_at_call 166; refine (l11Full_v p b _ _ _ _ hful hpm hf).mono ?_; rintro e w3 ⟨rfl, hd3⟩; have hcv3 := hcv w3 hd3)
            go_ret2
            have hb3 := hb.trans (hd3.below.mono hb.size)
            refine ⟨ret_tup2 (sv_eq (by rw [he.out, hst.out, if_neg hmr, if_neg (by rw [hful]; decide), List.append_nil])) (vi_eq (by rw [hk'.out])), hb0.trans (hb3.mono hz2)⟩
          · have him := full_in hful
            obtain ⟨⟨q0, q1⟩, _, _⟩ := inB_iff.1 him
            have hst2 : Hid (crossGo b row col letter (16 - m) m = b.at_ (m : Int) col :: crossGo b row col letter (16 - (m + 1)) (m + 1)) := Lib.hid (by rw [hst.out, if_neg hmr, if_pos hful])
            obtain ⟨x, hx⟩ : ∃ x, x = b.at_ (m : Int) col := ⟨_, rfl⟩
            rw [← hx] at hst2
            have hx' := Lib.hid hx
            clear hx hst hmr
            go_wp2_with (first
              | (go_at_call 166; refine (l11Full_v p b _ _ _ _ hful hpm hf).mono ?_; rintro e w3 ⟨rfl, hd3⟩; have hp3 := hpm.dr hd3; have hb3 := hb.trans (hd3.below.mono hb.size); have hown3 := own_call hown hd3.below)
              | (go_at_call 167; refine (l11At_any p b _ _ _ hp3 hf him).mono ?_; rw [← hx'.out]; rintro e w4 ⟨rfl, hd4⟩; have hb4 := hb3.trans (hd4.below.mono hb3.size); have hown4 := own_call hown3 hd4.below)
              | (at_builtin; refine wpList_app byteT rfl (.tmp 41) (.tmp 46) rfl _ _ _ rfl w2.heap.size hown4 [bv x] rfl (by simp [Value.oneCell']) rfl (by omega) (by omega) hb4.size ?_; intro v1 w1 hown1 hg1 _))
            go_roundw
            case rel => exact ⟨m + 1, out ++ [x], by omega, by go_num, by simp; omega, by simpa using hown1, Lib.hid (by rw [he.out, hst2.out]; simp), Below.own hb4 hb4.size hown4 (Nat.le_refl _) hg1⟩
            case measure => simp [intOf]; omega
end Go.Proofs.YtohopceknpgcnaaGreatDoor
/-
  Contract: the words that an across play forms (layer 12 of the spec package).
  Conditions: a board that is valid lies at an address; all squares of the play are on it.
-/
namespace Go.Proofs.YtohopceknpgcnaaGreatDoor
open Go.RowKit RegP RegL
set_option maxHeartbeats 400000

def crossAt (b : Bd) (q : Pl) (i : Nat) : Str := crossS b q.row.toNat (q.col + (i : Int)) (q.word.getD i 0)
def keepL (l : List Str) : List Str := l.filter fun s => decide (1 < s.length)
def formedL (b : Bd) (q : Pl) : List Str := q.word :: keepL ((freshL b q).map (crossAt b q))
theorem keepL_length (l : List Str) : (keepL l).length ≤ l.length := List.length_filter_le _ _
theorem keepL_step (G : List Nat) (f : Nat → Str) (k : Nat) (h : k < G.length) : keepL ((G.take (k + 1)).map f) = if decide (1 < (f G[k]).length) then keepL ((G.take k).map f) ++ [f G[k]] else keepL ((G.take k).map f) := by
  rw [List.take_succ_eq_append_getElem h, List.map_append, keepL, List.filter_append, ← keepL]
  by_cases hh : decide (1 < (f G[k]).length) = true
  · rw [if_pos hh]; congr 1; exact List.filter_cons_of_pos (p := fun s : Str => decide (1 < s.length)) hh
  · rw [if_neg hh, show [G[k]].map f = [f G[k]] from rfl, List.filter_cons_of_neg (p := fun s : Str => decide (1 < s.length)) hh, List.filter_nil, List.append_nil]
theorem crossS_length (b : Bd) (row : Nat) (col : Int) (x : UInt8) : (crossS b row col x).length ≤ 16 := by
  have := crossGo_length b row col x (16 - upTo b col row) (upTo b col row)
  rw [crossS]; omega

theorem l12Formed_any (p : Addr) (b : Bd) (q : Pl) (w : World) (hp : BAt w p b) (hf : b.Fit) (hon : OnB b q) (hl : q.word.length ≤ 2 ^ 37) :
    Calls Tryz.prog 220 #[.pointer (some p), q.v] w fun e w' => ∃ v, e = .returned v ∧ w'.ownsRow w.heap.size 9 1 v (formedL b q).length ((formedL b q).map sv) ∧ Below w.heap.size w w' := by
  have hGl := freshTo_length b q q.word.length
  have hGx := freshTo_lt b q q.word.length
  have hfr := fun w hp => l12Fresh_any p b q w hp hf hon (by omega)
  have hend : Hid (formedL b q = q.word :: keepL ((freshL b q).map (crossAt b q))) := rfl
  have hcr : ∀ i, Hid (crossAt b q i = crossS b q.row.toNat (q.col + (i : Int)) (q.word.getD i 0)) := fun _ => rfl
  have hcl : ∀ i, (crossAt b q i).length ≤ 16 := fun _ => crossS_length _ _ _ _
  change (freshL b q).length ≤ _ at hGl
  change ∀ x ∈ freshL b q, _ at hGx
  obtain ⟨G, hG⟩ : ∃ G, G = freshL b q := ⟨_, rfl⟩
  obtain ⟨S, hS⟩ : ∃ S, S = formedL b q := ⟨_, rfl⟩
  obtain ⟨C, hC⟩ : ∃ C, C = crossAt b q := ⟨_, rfl⟩
  rw [← hG] at hend hGl hGx hfr
  rw [← hC] at hend hcr hcl
  rw [← hS] at hend ⊢
  clear hG hS hC
  obtain ⟨r, c, dn, s⟩ := q
  simp only at hl hend hGl hGx hcr
  simp only [OnB] at hon
  simp only [Pl.v] at hfr ⊢
  have hblt := hp.lt
  have h15 := hf.hi
  have hbx := (Blk.new w 69 #[.int .i64 r, .int .i64 c, .bool dn, sv s])
  have hbW := (Below.refl w.heap.size w).alloc (Nat.le_refl _) (.cells #[.int .i64 r, .int .i64 c, .bool dn, sv s] 69)
  go_enter Tryz.func220, Tryz.ntmps220
  go_wp2_with (go_at_call 121; refine (hfr _ ((hp.alloc _).alloc _)).mono ?_; rintro e w1 ⟨v1, rfl, own1, hb1⟩)
  obtain ⟨V, hV⟩ : ∃ V, V = (w.alloc (.cells #[.int .i64 r, .int .i64 c, .bool dn, sv s] 69)).alloc (.cells #[sv s] 9) := ⟨_, rfl⟩
  have ownV : V.ownsRow w.heap.size 9 1 (.slice (some ⟨w.heap.size + 1, 0, none⟩) 1 1) 1 [sv s] := by rw [hV]; exact lit1 w _ #[sv s] 1 (Nat.le_refl _) (by unfold maxLen; omega) rfl
  have hwV : Below w.heap.size w V := by rw [hV]; exact hbW.alloc (by simp) _
  have hbxV : Blk V w.heap.size 69 #[.int .i64 r, .int .i64 c, .bool dn, sv s] := by rw [hV]; exact hbx.alloc _
  have hVz : V.heap.size = w.heap.size + 2 := by rw [hV]; simp
  rw [← hV] at hb1 own1
  clear hV hbW hbx
  have hVz' := Lib.hid hVz
  have hVz2 : w.heap.size + 2 ≤ V.heap.size := by omega
  clear hVz
  obtain ⟨A1, c1, rfl, hc1, hr1⟩ := own_sl own1
  have hlo1 := own_lo own1
  have own0 := own_call ownV hb1
  have hbx1 := hbxV.below hb1 hbxV.lt
  have hw1 := hwV.trans (hb1.mono hwV.size)
  have hz1 := hb1.size
  clear ownV hbxV
  go_loopw [5, 7] (fun o i wr => ∃ k : Nat, k ≤ G.length ∧ i = .int .i64 k ∧ wr.ownsRow w.heap.size 9 1 o ((keepL ((G.take k).map C)).length + 1) (sv s :: (keepL ((G.take k).map C)).map sv) ∧ Reads wr w1.heap.size 1 A1 G.length (G.map iv) ∧ Below w.heap.size w wr ∧ w1.heap.size ≤ wr.heap.size ∧ (∀ q, o.ownBlock = some q → q < V.heap.size ∨ w1.heap.size ≤ q) ∧ Blk wr w.heap.size 69 #[.int .i64 r, .int .i64 c, .bool dn, sv s]) (fun _ i _ => G.length - (intOf i).toNat)
  case atStart => exact ⟨0, by omega, rfl, own0, hr1, hw1, Nat.le_refl _, fun q hq => by simp [Value.ownBlock] at hq; omega, hbx1⟩
  case round =>
    obtain ⟨k, hk, rfl, own3, hr3, hw3, hz3, hq3, hbx3⟩ := hrel
    have hp3 := hp.below hw3 hblt
    have hkl1 := keepL_length ((G.take k).map C)
    rw [List.length_map, List.length_take] at hkl1
    by_cases hkl : k < G.length
    · obtain ⟨ad, rfl, hadb, hc3⟩ := hr3.el hkl
      have hx := hGx G[k] (List.getElem_mem _)
      have hstep := Lib.hid (keepL_step G C k hkl)
      obtain ⟨x, hxx⟩ : ∃ x, x = G[k] := ⟨_, rfl⟩
      rw [← hxx] at hx hstep hc3
      clear hxx
      have hix : (x : Int) < (s.length : Int) := by omega
      have hx0 : (0 : Int) ≤ (x : Int) := by omega
      have hkk : (k : Int) < (G.length : Int) := by omega
      have hin := hon x hx
      obtain ⟨⟨r0, r1⟩, c0, c1⟩ := inB_iff.1 hin
      obtain ⟨rn, rfl⟩ : ∃ rn : Nat, r = (rn : Int) := ⟨r.toNat, by omega⟩
      have hCx : Hid (C x = crossS b rn (c + (x : Int)) s[x]) := Lib.hid (by rw [(hcr x).out]; simp [List.getD, List.getElem?_eq_getElem hx])
      have hCl := hcl x
      have hcx0 : -274877906944 ≤ c := by omega
      have hcx1 : c ≤ 14 := by omega
      have m1 : IntKind.i64.wrap (c + (x : Int)) = c + (x : Int) := IntWalk.i64_in _ (by omega)
      have hc3' : wr.cell? (ad.add k) = some (.int .i64 x) := hc3
      have hadk : (ad.add k).block < wr.heap.size := by rw [block_of_add]; omega
      go_wp2_with (fail)
      refine wp_region_b 23 (by kernel_rfl) (by kernel_rfl) ?_
      simp only [List.take_succ_cons, List.take_zero, List.drop_succ_cons, List.drop_zero]
      iterate 23
        apply pc_step rfl
        · intro w4 hb K hK
          have f0 : w4.cell? (ad.add k) = _ := (hb.cell hadk).trans hc3'
          have hbx4 := hbx3.below hb hbx3.lt
          have d0 : w4.cell? ⟨w.heap.size, 0, none⟩ = some (.int .i64 rn) := hbx4.cell 0
          have d1 : w4.cell? ⟨w.heap.size, 1, none⟩ = some (.int .i64 c) := hbx4.cell 1
          have d3 : w4.cell? ⟨w.heap.size, 3, none⟩ = some (sv s) := hbx4.cell 3
          go_wp2_with (go_at_call 170; refine (l12Cross_any p b rn _ s[x] _ (hp3.below hb hp3.lt) hf hin).mono ?_; rintro e w5 ⟨rfl, hb5⟩)
          first | exact hb | exact hb.trans (hb5.mono hb.size)
        simp only [Act.put, List.setIfInBounds_toArray, List.set_cons_succ, List.set_cons_zero]
      refine pc_nil ?_
      intro w4 hb
      rw [← hCx.out]
      have hp4 := hp3.below hb hp3.lt
      have own4 := own_call own3 hb
      have hw4 := hw3.trans (hb.mono hw3.size)
      have hbx4 := hbx3.below hb hbx3.lt
      have hz4 := hb.size
      have hr4 : Reads w4 w1.heap.size 1 (some ad) G.length (G.map iv) := hr3.below' hb hz3
      clear hcr hCx own3 hw3 hbx3 hr3 hc3 hc3' hp3 own0 hr1 hb
      by_cases hbig : 1 < (C x).length
      · have hbig' : (1 : Int) < ((C x).length : Int) := by omega
        go_wp2_with (at_builtin; refine wpList_app strT rfl (.tmp 46) (.tmp 48) rfl _ _ _ rfl w.heap.size own4 [sv (C x)] rfl (by simp [Value.oneCell']) rfl (by omega) (by omega) hw4.size ?_; intro v1 w5 own5 hg5 hat5)
        go_roundw
        case rel =>
          have hz5 := hg5.size
          refine ⟨k + 1, by omega, by go_num, own_cast own5 (by rw [hstep.out, if_pos (by simpa using hbig), List.map_append]; rfl) (by rw [hstep.out, if_pos (by simpa using hbig), List.length_append]; rfl), ?_, Below.own hw4 hw4.size own4 (Nat.le_refl _) hg5, by omega, ?_, hbx4.grown hg5 (fun h => own_blk_ne own4 hbx4 (by decide) h.symm)⟩
          · exact hr4.grown2 hlo1 hg5 (by omega) (fun q hq => hq3 q hq)
          · intro q hq
            rcases hat5 with e | e
            · rw [e] at hq; exact hq3 q hq
            · rw [e] at hq; simp at hq; right; omega
        case measure => simp [intOf]; omega
      · have hbig' : decide ((1 : Int) < ((C x).length : Int)) = false := by simp; omega
        have hbf : ¬ decide (1 < (C x).length) = true := by simpa using hbig
        go_wp2_with (fail)
        go_roundw
        case rel => exact ⟨k + 1, by omega, by go_num, own_cast own4 (by rw [hstep.out, if_neg hbf]) (by rw [hstep.out, if_neg hbf]), hr4, hw4, by omega, hq3, hbx4⟩
        case measure => simp [intOf]; omega
    · obtain rfl : k = G.length := by omega
      rw [List.take_length] at own3
      go_wp2_with (fail)
      go_ret
      exact ⟨_, rfl, own_cast own3 (by rw [hend.out]; rfl) (by rw [hend.out]; rfl), hw3⟩
end Go.Proofs.YtohopceknpgcnaaGreatDoor
