/-
  Contracts: transposed boards and plays (layers 11 and 12 of the spec package); Contracts: plays (layer 12 of the spec package); Contracts: tiles, piles and racks (layer 3 of the impl package); Contracts: counts of tiles (layer 3 of the impl package); What stands ahead of the ways to make a word: the memory of the search; Contract: equal lists of strings (the laws package); Contract: the impl package's board of a board (the laws package); Contract: the text of a mark (the laws package); Contracts: valid plays, and the letters that a play places (layer 12 of the spec package).
  Conditions: a board that is valid lies at an address; a board that is valid lies at an address; a play's numbers are those of an int64; lengths at most 2^40; tiles alone; lengths at most 2^38; none; both slices read as lists of strings; a number of common size; a board lies at the head of a block.
-/
import Derived.Test.YtdkckikobefekaaGreatDoorM04
import Derived.Test.YtdkckikobefekaaGreatDoorM02
import Derived.Test.YtdkckikobefekaaGreatDoorM03
import Derived.Lib.SlicesCompact
import Derived.Deep.DeepCutAuto
import Derived.Great.BuildSlice
import Derived.Lib.Builder
import Derived.Lib.UnsafeStr
import Derived.Laws.Externs
import Derived.RegionTactic
import Derived.Laws.Rows
import Derived.Laws.Tables
import Derived.Lib.OthersKept
namespace Go.Proofs.YtdkckikobefekaaGreatDoor
open Go.RowKit RegP RegL
set_option maxHeartbeats 400000
def turnTo (n : Nat) (s : Str) (m : Nat) : Str := (List.range m).map fun i => s.getD ((i % n) * n + i / n) 0
def turnS (n : Nat) (s : Str) : Str := turnTo n s (n * n)
theorem turnTo_length (n : Nat) (s : Str) (m : Nat) : (turnTo n s m).length = m := by simp [turnTo]
theorem turnTo_step (n : Nat) (s : Str) (c r : Nat) (h : r < n) (hl : r * n + c < s.length) : turnTo n s (c * n + r + 1) = turnTo n s (c * n + r) ++ [s[r * n + c]] := by
 have e1 : (c * n + r) % n = r := by rw [Nat.mul_comm, Nat.mul_add_mod, Nat.mod_eq_of_lt h]
 have e2 : (c * n + r) / n = c := by rw [Nat.mul_comm, Nat.mul_add_div (by omega), Nat.div_eq_of_lt h, Nat.add_zero]
 rw [turnTo, List.range_succ, List.map_append, ← turnTo, List.map_cons, List.map_nil, e1, e2]
 congr 2
 simp [List.getD, List.getElem?_eq_getElem hl]
theorem l11Turn_any (n : Nat) (s : Str) (w : World) (h5 : 5 ≤ n) (h15 : n ≤ 15) (hs : s.length = n * n) :
   Calls Tryz.prog 227 #[.int .i64 n, sv s] w fun e w' => e = .returned (sv (turnS n s)) ∧ Below w.heap.size w w' := by
 have Hs := Lib.hid hs
 clear hs
 go_enter Tryz.func227, Tryz.ntmps227
 go_wp2_with (fail)
 go_loopw [5, 6] (fun o i wr => ∃ c : Nat, c ≤ n ∧ i = .int .i64 c ∧ wr.ownsRow w.heap.size 5 1 o (c * n) ((turnTo n s (c * n)).map bv) ∧ Below w.heap.size w wr) (fun _ i _ => n - (intOf i).toNat)
 case atStart => exact ⟨0, by omega, rfl, own_cast (World.ownsRow_lit w #[] 0 (Nat.le_refl _) (by unfold maxLen; omega) rfl) (by simp [turnTo]) (by simp), (Below.refl _ _).alloc (Nat.le_refl _) _⟩
 case round =>
   obtain ⟨c, hc, rfl, hown, hw⟩ := hrel
   by_cases hcl : c < n
   · have hc1 : (c : Int) < (n : Int) := by omega
     go_wp2_with (fail)
     go_loopw [5, 7] (fun o i wr => ∃ r : Nat, r ≤ n ∧ i = .int .i64 r ∧ wr.ownsRow w.heap.size 5 1 o (c * n + r) ((turnTo n s (c * n + r)).map bv) ∧ Below w.heap.size w wr) (fun _ i _ => n - (intOf i).toNat)
     case atStart => exact ⟨0, by omega, rfl, hown, hw⟩
     case round =>
       obtain ⟨r, hr, rfl, hown, hw⟩ := hrel
       by_cases hrl : r < n
       · have hr1 : (r : Int) < (n : Int) := by omega
         obtain ⟨m0, m1, m2, m3, m4⟩ := mul_bounds (n := (n : Int)) (r := (r : Int)) (c := (c : Int)) (by omega) (by omega) (by omega) (by omega) (by omega) (by omega)
         obtain ⟨k, hk⟩ : ∃ k : Nat, k = r * n + c := ⟨_, rfl⟩
         have hkl : k < s.length := by rw [Hs.out]; rw [hk]; have : ((r * n + c : Nat) : Int) < ((n * n : Nat) : Int) := by push_cast; exact m3
                                       omega
         have hst : Hid (turnTo n s (c * n + r + 1) = turnTo n s (c * n + r) ++ [s[k]]) := Lib.hid (by subst hk; exact turnTo_step n s c r hrl hkl)
         have m6 : IntKind.i64.wrap ((r : Int) * (n : Int)) = ((r : Int) * (n : Int)) := IntWalk.i64_in _ (by omega)
         have m7 : IntKind.i64.wrap ((r : Int) * (n : Int) + c) = (k : Int) := by rw [hk]; push_cast; exact IntWalk.i64_in _ (by omega)
         have m8 : (k : Int) < (s.length : Int) := by omega
         have m9 : (0 : Int) ≤ k := by omega
         have hcn : c * n ≤ 225 := by have := Nat.mul_le_mul (show c ≤ 15 by omega) h15; omega
         clear m0 m1 m2 m3 m4 hk
         go_wp2_with (at_builtin; refine wpList_app byteT rfl (.tmp 19) (.tmp 27) rfl _ _ _ rfl w.heap.size hown [bv s[k]] rfl (by simp [Value.oneCell']) rfl (by omega) (by omega) hw.size ?_; intro v1 w1 hown1 hg1 _)
         go_roundw
         case rel => exact ⟨r + 1, by omega, by go_num, own_cast hown1 (by rw [← Nat.add_assoc, hst.out, List.map_append]; rfl) rfl, Below.own hw hw.size hown (Nat.le_refl _) hg1⟩
         case measure => simp [intOf]; omega
       · obtain rfl : r = n := by omega
         go_wp2_with (fail)
         go_roundw
         case rel => exact ⟨c + 1, by omega, by go_num, own_cast hown (by rw [Nat.add_mul, Nat.one_mul]) (by rw [Nat.add_mul, Nat.one_mul]), hw⟩
         case measure => simp [intOf]; omega
   · obtain rfl : c = n := by omega
     have hcv := run_string_own (P := Tryz.prog) wr 209 9 5 Tryz.underlying209 Tryz.underlying5 Tryz.underlying9 (l := turnS c s) (own_cast hown rfl (by rw [turnS, turnTo_length]))
     go_wp2
     go_ret
     exact ⟨rfl, hw⟩
def Bd.tr (b : Bd) : Bd := ⟨b.size, turnS b.size.toNat b.prem, turnS b.size.toNat b.cells⟩
theorem l11Transpose_any (p : Addr) (b : Bd) (w : World) (hp : BAt w p b) (hf : b.Fit) :
   Calls Tryz.prog 151 #[.pointer (some p)] w fun e w' => e = .returned b.tr.v ∧ Below w.heap.size w w' := by
 obtain ⟨n, hn⟩ : ∃ n : Nat, b.size = (n : Int) := ⟨b.size.toNat, by have := hf.lo; omega⟩
 have n5 : 5 ≤ n := by have := hf.lo; omega
 have n15 : n ≤ 15 := by have := hf.hi; omega
 have hlp : Hid (b.prem.length = n * n) := by have := hf.prem; rw [hn] at this; exact Lib.hid (by exact_mod_cast this)
 have hlc : Hid (b.cells.length = n * n) := by have := hf.cells; rw [hn] at this; exact Lib.hid (by exact_mod_cast this)
 have hp' := hp
 obtain ⟨hp0, hp1, hp2⟩ := hp
 rw [hn] at hp0
 have hlt := hp'.lt
 have htr : Hid (b.tr.v = .agg #[.int .i64 n, sv (turnS n b.prem), sv (turnS n b.cells)]) := Lib.hid (by rw [Bd.v, Bd.tr, hn]; rfl)
 clear hn
 go_enter Tryz.func151, Tryz.ntmps151
 go_wp2_with (fail)
 refine wp_region_b 23 (by kernel_rfl) (by kernel_rfl) ?_
 simp only [qqT, List.take_zero, qqD, List.drop_zero]
 iterate 23
   apply pc_step rfl
   · intro w1 hb K hK
     have hz := hb.size
     simp at hz
     have hbp := hb.cell (p := p) (by simp; omega)
     have hbp1 := hb.cell (p := { block := p.block, off := p.off + 1 }) (by simp; omega)
     have hbp2 := hb.cell (p := { block := p.block, off := p.off + 2 }) (by simp; omega)
     go_wp2_with (go_at_call 227; refine (l11Turn_any n _ _ n5 n15 (by first | rw [hlp.out] | rw [hlc.out])).mono ?_; rintro e w2 ⟨rfl, hb2⟩)
     first | exact hb | exact hb.trans (hb2.mono hb.size)
   simp only [Act.put, qqS, qqC, qqZ]
 refine pc_nil ?_
 intro w1 hb
 have hbc := bcell hb
 have hbs := hb.size
 simp at hbs
 go_wp2
 have hblk := (Blk.new w 41 _).below hb (by simp)
 have hrow := ((hblk.set_ 0 (.int .i64 n)).set_ 1 (sv (turnS n b.prem))).set_ 2 (sv (turnS n b.cells))
 refine ret_row (p := 2) (ty := 41) rfl w.heap.size 41 _ _ rfl hrow Tryz.underlying41 rfl (by kernel_rfl) rfl ⟨?_, ?_⟩
 · rw [htr.out]; rfl
 · exact ((((Below.refl _ _).alloc (Nat.le_refl _) _).trans (hb.mono (by simp))).setCell (Nat.le_refl _) _).setCell (Nat.le_refl _) _ |>.setCell (Nat.le_refl _) _
theorem ret_row2 {P : Program} {fn : Func} {R : Ending → World → Prop} {a : Act} {w : World} {p q : Tmp} {ty ty' : TypeId} (h : fn.results = #[.cell p ty, .cell q ty']) (g g' : Nat) (t t' : TypeId) (cs cs' : Array Value) (d d' : TypeDesc)
   (hp : a.tmps.getD p undef = .pointer (some ⟨g, 0, none⟩)) (hg : Blk w g t cs) (hu : P.underlying ty = some d)
   (hd : (match d with | .struct _ | .array _ _ => true | _ => false) = true) (hi : (P.info? ty).map (·.size) = some cs.size)
   (hp' : a.tmps.getD q undef = .pointer (some ⟨g', 0, none⟩)) (hg' : Blk w g' t' cs') (hu' : P.underlying ty' = some d')
   (hd' : (match d' with | .struct _ | .array _ _ => true | _ => false) = true) (hi' : (P.info? ty').map (·.size) = some cs'.size) (hdf : a.defers = [])
   (hR : R (.returned (.tuple #[.agg cs, .agg cs'])) w) : bodyPost P fn R .ret a w := by
 have e1 : a.tmps[p]?.getD undef = .pointer (some ⟨g, 0, none⟩) := by simpa using hp
 have e2 : a.tmps[q]?.getD undef = .pointer (some ⟨g', 0, none⟩) := by simpa using hp'
 refine bodyPost_ret (v := .tuple #[.agg cs, .agg cs']) ?_ hdf hR
 simp [results, h, e1, e2, asAddr, run_loadVar_row w g t ty cs (0, 0) d hg hu hd hi, run_loadVar_row w g' t' ty' cs' (0, 0) d' hg' hu' hd' hi']
theorem Blk.new1 (w : World) (o : Obj) (t : TypeId) (cs : Array Value) : Blk ((w.alloc o).alloc (.cells cs t)) (w.heap.size + 1) t cs := by
 have := Blk.new (w.alloc o) t cs
 rwa [show (w.alloc o).heap.size = w.heap.size + 1 by simp] at this
theorem Blk.new2 (w : World) (o o' : Obj) (t : TypeId) (cs : Array Value) : Blk (((w.alloc o).alloc o').alloc (.cells cs t)) (w.heap.size + 1 + 1) t cs := by
 have := Blk.new ((w.alloc o).alloc o') t cs
 rwa [show ((w.alloc o).alloc o').heap.size = w.heap.size + 1 + 1 by simp] at this
def Pl.tr (p : Pl) : Pl := ⟨p.col, p.row, !p.down, p.word⟩
theorem l12Turn_any (p : Pl) (w : World) :
   Calls Tryz.prog 152 #[p.v] w fun e w' => e = .returned p.tr.v ∧ Below w.heap.size w w' := by
 unfold Pl.v
 go_enter Tryz.func152, Tryz.ntmps152
 go_wp2_with (fail)
 refine ret_row (p := 2) (ty := 61) rfl (w.heap.size + 1) 61 _ _ rfl (Blk.new1 w _ _ _) Tryz.underlying61 rfl (by kernel_rfl) rfl ⟨rfl, ?_⟩
 exact ((Below.refl _ _).alloc (Nat.le_refl _) _).alloc (by simp) _
def flatB (b : Bd) (q : Pl) : Bd := if q.down then b.tr else b
def flatP (q : Pl) : Pl := if q.down then q.tr else q
structure SF (w : World) (i j : Nat) (bx r r' q q' : Array Value) (L : Nat → Bool) (w' : World) : Prop where
 low : Below w.heap.size w w'
 box : Blk w' w.heap.size 61 bx
 one : Blk w' (w.heap.size + 1) 41 (if L i then r' else r)
 two : Blk w' (w.heap.size + 1 + 1) 61 (if L j then q' else q)
section
variable {w w1 w2 : World} {i j k : Nat} {bx r r' q q' : Array Value} {L : Nat → Bool}
theorem SF.keep (h : SF w i j bx r r' q q' L w1) (h1 : k ≠ i) (h2 : k ≠ j) : SF w i j bx r r' q q' (upd L k) w1 := by
 refine ⟨h.low, h.box, ?_, ?_⟩
 · rw [upd_ne L h1.symm]; exact h.one
 · rw [upd_ne L h2.symm]; exact h.two
theorem SF.call (h : SF w i j bx r r' q q' L w1) (hb : Below w1.heap.size w1 w2) : SF w i j bx r r' q q' L w2 :=
 ⟨h.low.trans (hb.mono h.low.size), h.box.below hb h.box.lt, h.one.below hb h.one.lt, h.two.below hb h.two.lt⟩
theorem SF.at_ (h : SF w i j bx r r' q q' L w1) : (∀ o, w1.cell? ⟨w.heap.size, o, none⟩ = bx[o]?) := h.box.cell
theorem SF.put1 (hij : i ≠ j) (h2 : Below w.heap.size w w2) (hb : Blk w2 w.heap.size 61 bx) (hr : Blk w2 (w.heap.size + 1) 41 r') (hq : Blk w2 (w.heap.size + 1 + 1) 61 (if L j then q' else q)) : SF w i j bx r r' q q' (upd L i) w2 := by
 refine ⟨h2, hb, ?_, ?_⟩
 · rw [upd_same]; exact hr
 · rw [upd_ne L hij.symm]; exact hq
theorem SF.put2 (hij : i ≠ j) (h2 : Below w.heap.size w w2) (hb : Blk w2 w.heap.size 61 bx) (hr : Blk w2 (w.heap.size + 1) 41 (if L i then r' else r)) (hq : Blk w2 (w.heap.size + 1 + 1) 61 q') : SF w i j bx r r' q q' (upd L j) w2 := by
 refine ⟨h2, hb, ?_, ?_⟩
 · rw [upd_ne L hij]; exact hr
 · rw [upd_same]; exact hq
theorem SF.board {a0 a1 a2 x0 x1 x2 : Value} (h : SF w i j bx #[a0, a1, a2] #[x0, x1, x2] q q' L w1) (hij : i ≠ j) (hL : L i = false) :
   SF w i j bx #[a0, a1, a2] #[x0, x1, x2] q q' (upd L i) (((w1.setCell { block := w.heap.size + 1, off := 0 } x0).setCell { block := w.heap.size + 1, off := 1 } x1).setCell { block := w.heap.size + 1, off := 2 } x2) := by
 have h1 := h.one
 rw [hL] at h1
 have hne : w.heap.size ≠ w.heap.size + 1 := by omega
 have hne2 : w.heap.size + 1 + 1 ≠ w.heap.size + 1 := by omega
 exact SF.put1 hij (((h.low.setCell (by simp) _).setCell (by simp) _).setCell (by simp) _) (((h.box.far hne _).far hne _).far hne _) (((h1.set_ 0 x0).set_ 1 x1).set_ 2 x2) (((h.two.far hne2 _).far hne2 _).far hne2 _)
theorem SF.play {a0 a1 a2 a3 x0 x1 x2 x3 : Value} (h : SF w i j bx r r' #[a0, a1, a2, a3] #[x0, x1, x2, x3] L w1) (hij : i ≠ j) (hL : L j = false) :
   SF w i j bx r r' #[a0, a1, a2, a3] #[x0, x1, x2, x3] (upd L j) ((((w1.setCell { block := w.heap.size + 1 + 1, off := 0 } x0).setCell { block := w.heap.size + 1 + 1, off := 1 } x1).setCell { block := w.heap.size + 1 + 1, off := 2 } x2).setCell { block := w.heap.size + 1 + 1, off := 3 } x3) := by
 have h1 := h.two
 rw [hL] at h1
 have hne : w.heap.size ≠ w.heap.size + 1 + 1 := by omega
 have hne2 : w.heap.size + 1 ≠ w.heap.size + 1 + 1 := by omega
 exact SF.put2 hij ((((h.low.setCell (by simp; omega) _).setCell (by simp; omega) _).setCell (by simp; omega) _).setCell (by simp; omega) _) ((((h.box.far hne _).far hne _).far hne _).far hne _) ((((h.one.far hne2 _).far hne2 _).far hne2 _).far hne2 _) ((((h1.set_ 0 x0).set_ 1 x1).set_ 2 x2).set_ 3 x3)
end
theorem l12Flat_any (g : Nat) {o : Nat} (b : Bd) (q : Pl) (w : World) (hp : BAt w ⟨g, o, none⟩ b) (hf : b.Fit) :
   Calls Tryz.prog 80 #[.pointer (some ⟨g, o, none⟩), q.v] w fun e w' => e = .returned (.tuple #[(flatB b q).v, (flatP q).v]) ∧ Below w.heap.size w w' := by
 have hlt : g < w.heap.size := hp.lt
 have hp' := hp
 have hp0 : w.cell? ⟨g, o, none⟩ = some (.int .i64 b.size) := hp.1
 have hp1 : w.cell? ⟨g, o + 1, none⟩ = some (sv b.prem) := hp.2.1
 have hp2 : w.cell? ⟨g, o + 2, none⟩ = some (sv b.cells) := hp.2.2
 clear hp
 obtain ⟨pr, pc, pd, pw⟩ := q
 cases pd
 · go_enter Tryz.func80, Tryz.ntmps80
   simp only [Pl.v]
   go_wp2_with (fail)
   refine wp_region_l 9 6 (SF w 4 5 #[.int .i64 pr, .int .i64 pc, .bool false, sv pw] #[.int .i64 0, sv [], sv []] #[.int .i64 b.size, sv b.prem, sv b.cells] #[.int .i64 0, .int .i64 0, .bool false, sv []] #[.int .i64 pr, .int .i64 pc, .bool false, sv pw]) (by kernel_rfl) (by kernel_rfl) ?_ ?_
   · refine ⟨((((Below.refl w.heap.size w).alloc (Nat.le_refl _) _).alloc (by simp) _).alloc (by simp; omega) _).drew, ?_, ?_, ?_⟩
     · exact (((Blk.new w _ _).alloc _).alloc _).drew
     · exact ((Blk.new1 w _ _ _).alloc _).drew
     · exact (Blk.new2 w _ _ _ _).drew
   simp only [qqT, List.take_zero, qqD, List.drop_zero]
   iterate 4
     apply pl_step rfl
     · intro L w1 hS h1 h2 K hK
       clear h2
       have hbw := hS.low
       have c0 : w1.cell? ⟨g, o, none⟩ = _ := (hbw.cell hlt).trans hp0
       have c1 : w1.cell? ⟨g, o + 1, none⟩ = _ := (hbw.cell hlt).trans hp1
       have c2 : w1.cell? ⟨g, o + 2, none⟩ = _ := (hbw.cell hlt).trans hp2
       have d0 : w1.cell? ⟨w.heap.size, 0, none⟩ = some (.int .i64 pr) := hS.at_ 0
       have d1 : w1.cell? ⟨w.heap.size, 1, none⟩ = some (.int .i64 pc) := hS.at_ 1
       have d2 : w1.cell? ⟨w.heap.size, 2, none⟩ = some (.bool false) := hS.at_ 2
       have d3 : w1.cell? ⟨w.heap.size, 3, none⟩ = some (sv pw) := hS.at_ 3
       go_wp2_with (fail)
       exact hS.keep (by decide) (by decide)
     simp only [Act.put, qqS, qqC, qqZ]
   apply pl_step (v := undef) rfl
   · intro L w1 hS h1 h2 K hK
     clear h2
     have hB := hS.one
     rw [h1] at hB
     have e0 : w1.cell? ⟨w.heap.size + 1, 0, none⟩ = some (.int .i64 0) := hB.cell 0
     have e1 : w1.cell? ⟨w.heap.size + 1, 1, none⟩ = some (sv []) := hB.cell 1
     have e2 : w1.cell? ⟨w.heap.size + 1, 2, none⟩ = some (sv []) := hB.cell 2
     have f0 := hB.frozen
     go_wp2_with (fail)
     exact hS.board (by decide) h1
   simp only [Act.put]
   apply pl_step (v := undef) rfl
   · intro L w1 hS h1 h2 K hK
     clear h2
     have hB := hS.two
     rw [h1] at hB
     have e0 : w1.cell? ⟨w.heap.size + 1 + 1, 0, none⟩ = some (.int .i64 0) := hB.cell 0
     have e1 : w1.cell? ⟨w.heap.size + 1 + 1, 1, none⟩ = some (.int .i64 0) := hB.cell 1
     have e2 : w1.cell? ⟨w.heap.size + 1 + 1, 2, none⟩ = some (.bool false) := hB.cell 2
     have e3 : w1.cell? ⟨w.heap.size + 1 + 1, 3, none⟩ = some (sv []) := hB.cell 3
     have f0 := hB.frozen
     go_wp2_with (fail)
     exact hS.play (by decide) h1
   simp only [Act.put]
   refine pl_nil ?_
   intro w1 hS
   go_wp2
   exact ret_row2 (p := 4) (q := 5) (ty := 41) (ty' := 61) rfl (w.heap.size + 1) (w.heap.size + 1 + 1) 41 61 _ _ _ _ rfl hS.one Tryz.underlying41 rfl (by kernel_rfl) rfl hS.two Tryz.underlying61 rfl (by kernel_rfl) rfl ⟨rfl, hS.low⟩
 · go_enter Tryz.func80, Tryz.ntmps80
   simp only [Pl.v]
   go_wp2_with (fail)
   refine wp_region_l 9 6 (SF w 4 5 #[.int .i64 pr, .int .i64 pc, .bool true, sv pw] #[.int .i64 0, sv [], sv []] #[.int .i64 b.tr.size, sv b.tr.prem, sv b.tr.cells] #[.int .i64 0, .int .i64 0, .bool false, sv []] #[.int .i64 pc, .int .i64 pr, .bool false, sv pw]) (by kernel_rfl) (by kernel_rfl) ?_ ?_
   · refine ⟨((((Below.refl w.heap.size w).alloc (Nat.le_refl _) _).alloc (by simp) _).alloc (by simp; omega) _).drew, ?_, ?_, ?_⟩
     · exact (((Blk.new w _ _).alloc _).alloc _).drew
     · exact ((Blk.new1 w _ _ _).alloc _).drew
     · exact (Blk.new2 w _ _ _ _).drew
   simp only [qqT, List.take_zero, qqD, List.drop_zero]
   iterate 4
     apply pl_step rfl
     · intro L w1 hS h1 h2 K hK
       clear h2
       have hbw := hS.low
       have d0 : w1.cell? ⟨w.heap.size, 0, none⟩ = some (.int .i64 pr) := hS.at_ 0
       have d1 : w1.cell? ⟨w.heap.size, 1, none⟩ = some (.int .i64 pc) := hS.at_ 1
       have d2 : w1.cell? ⟨w.heap.size, 2, none⟩ = some (.bool true) := hS.at_ 2
       have d3 : w1.cell? ⟨w.heap.size, 3, none⟩ = some (sv pw) := hS.at_ 3
       go_wp2_with (first
         | (go_at_call 151; refine (l11Transpose_any _ b _ (hp'.below hbw hlt) hf).mono ?_; rintro e w2 ⟨rfl, hb2⟩)
         | (go_at_call 152; refine (l12Turn_any ⟨pr, pc, true, pw⟩ _).mono ?_; rintro e w2 ⟨rfl, hb2⟩))
       first | exact hS.keep (by decide) (by decide) | exact (hS.call hb2).keep (by decide) (by decide)
     simp only [Act.put, qqS, qqC, qqZ]
   apply pl_step (v := undef) rfl
   · intro L w1 hS h1 h2 K hK
     clear h2
     have hB := hS.one
     rw [h1] at hB
     have e0 : w1.cell? ⟨w.heap.size + 1, 0, none⟩ = some (.int .i64 0) := hB.cell 0
     have e1 : w1.cell? ⟨w.heap.size + 1, 1, none⟩ = some (sv []) := hB.cell 1
     have e2 : w1.cell? ⟨w.heap.size + 1, 2, none⟩ = some (sv []) := hB.cell 2
     have f0 := hB.frozen
     unfold Bd.v
     go_wp2_with (fail)
     exact hS.board (by decide) h1
   simp only [Act.put]
   apply pl_step (v := undef) rfl
   · intro L w1 hS h1 h2 K hK
     clear h2
     have hB := hS.two
     rw [h1] at hB
     have e0 : w1.cell? ⟨w.heap.size + 1 + 1, 0, none⟩ = some (.int .i64 0) := hB.cell 0
     have e1 : w1.cell? ⟨w.heap.size + 1 + 1, 1, none⟩ = some (.int .i64 0) := hB.cell 1
     have e2 : w1.cell? ⟨w.heap.size + 1 + 1, 2, none⟩ = some (.bool false) := hB.cell 2
     have e3 : w1.cell? ⟨w.heap.size + 1 + 1, 3, none⟩ = some (sv []) := hB.cell 3
     have f0 := hB.frozen
     unfold Pl.v Pl.tr
     go_wp2_with (fail)
     exact hS.play (by decide) h1
   simp only [Act.put]
   refine pl_nil ?_
   intro w1 hS
   go_wp2
   exact ret_row2 (p := 4) (q := 5) (ty := 41) (ty' := 61) rfl (w.heap.size + 1) (w.heap.size + 1 + 1) 41 61 _ _ _ _ rfl hS.one Tryz.underlying41 rfl (by kernel_rfl) rfl hS.two Tryz.underlying61 rfl (by kernel_rfl) rfl ⟨rfl, hS.low⟩
end Go.Proofs.YtdkckikobefekaaGreatDoor
namespace Go.Proofs.YtdkckikobefekaaGreatDoor
open Go.RowKit RegP RegL RegV
set_option maxHeartbeats 1000000
def tileK (c : UInt8) : Nat := if c == 63 then 0 else c.toNat - 96
theorem tileK_lt {c : UInt8} (h : tileB c = true) : tileK c < 27 := by
 unfold tileB smallB at h
 unfold tileK
 split
 · omega
 · rename_i hc
   simp only [Bool.or_eq_true, Bool.and_eq_true, decide_eq_true_eq, hc] at h
   simp at h
   omega
theorem place_tile (c : UInt8) (w : World) (h : tileB c = true) :
   Calls Tryz.prog 248 #[bv c] w fun e w' => e = .returned (.int .i64 (tileK c : Nat)) ∧ w = w' := by
 have hq : ((c.toNat : Int) == 63) = (c == 63) := u8_eq c 63
 unfold tileB at h
 obtain ⟨K, hK⟩ : ∃ K, K = tileK c := ⟨_, rfl⟩
 have hdef : Hid (K = if c == 63 then 0 else c.toNat - 96) := Lib.hid hK
 rw [← hK]
 clear hK
 cases h1 : c == 63
 · rw [h1] at hq h hdef
   simp only [Bool.false_or] at h
   have hs := h
   unfold smallB at hs
   simp only [Bool.and_eq_true, decide_eq_true_eq] at hs
   obtain ⟨h97, h122⟩ := hs
   have hsm := fun w => small_any c w
   rw [h] at hsm
   clear h
   go_enter Tryz.func248, Tryz.ntmps248
   go_wp2_with (go_at_call 299; refine (hsm _).mono ?_; rintro e w' ⟨rfl, rfl⟩)
   go_ret
   exact ⟨ret_int (by rw [hdef.out]; simp; omega), rfl⟩
 · rw [h1] at hq hdef
   clear h
   go_enter Tryz.func248, Tryz.ntmps248
   go_wp2_with (fail)
   go_ret
   exact ⟨ret_int (by rw [hdef.out]; rfl), rfl⟩
theorem place_none (c : UInt8) (w : World) (h : tileB c = false) :
   Calls Tryz.prog 248 #[bv c] w fun e w' => e = .returned (.int .i64 (-1)) ∧ w = w' := by
 have hq : ((c.toNat : Int) == 63) = (c == 63) := u8_eq c 63
 unfold tileB at h
 rw [Bool.or_eq_false_iff] at h
 obtain ⟨h1, h2⟩ := h
 rw [h1] at hq
 have hsm := fun w => small_any c w
 rw [h2] at hsm
 clear h1 h2
 go_enter Tryz.func248, Tryz.ntmps248
 go_wp2_with (go_at_call 299; refine (hsm _).mono ?_; rintro e w' ⟨rfl, rfl⟩)
 go_ret
 exact ⟨rfl, rfl⟩
theorem onlyTiles_any (l : Str) (w : World) (hl : l.length ≤ 2 ^ 40) :
   Calls Tryz.prog 254 #[sv l] w fun e w' => e = .returned (.bool (l.all tileB)) ∧ w = w' := by
 go_enter Tryz.func254, Tryz.ntmps254
 go_wp2_with (fail)
 go_loop [3] (fun i => ∃ k : Nat, k ≤ l.length ∧ i = .int .i64 k ∧ Hid (l.all tileB = (l.drop k).all tileB)) (fun i => l.length - (intOf i).toNat)
 case atStart => exact ⟨0, by omega, rfl, rfl⟩
 case round =>
   obtain ⟨k, hk, rfl, he⟩ := hrel
   by_cases hlt : k < l.length
   · have hd := Lib.hid (drop_cons l k hlt)
     cases hc : tileB l[k]
     · go_wp2_with (go_at_call 248; refine (place_none _ _ hc).mono ?_; rintro e w' ⟨rfl, rfl⟩)
       go_ret
       exact ⟨by rw [he.out, hd.out, List.all_cons, hc]; simp, rfl⟩
     · have h0 : (0 : Int) ≤ (tileK l[k] : Int) := by omega
       go_wp2_with (go_at_call 248; refine (place_tile _ _ hc).mono ?_; rintro e w' ⟨rfl, rfl⟩)
       go_round
       case rel => exact ⟨k + 1, by omega, by go_num, Lib.hid (by rw [he.out, hd.out, List.all_cons, hc]; simp)⟩
       case measure => simp [intOf]; omega
   · rw [drop_all l k (by omega)] at he
     go_wp2
     go_ret
     exact ⟨by rw [he.out]; simp, rfl⟩
def ascB : Str → Bool
 | [] => true
 | [_] => true
 | a :: b :: r => leB a b && ascB (b :: r)
theorem ascB_drop (s : Str) (k : Nat) (hk : 1 ≤ k) (h : k < s.length) : ascB (s.drop (k - 1)) = (leB s[k - 1] s[k] && ascB (s.drop k)) := by
 rw [drop_cons s (k - 1) (by omega)]
 have e : s.drop (k - 1 + 1) = s[k] :: s.drop (k + 1) := by rw [show k - 1 + 1 = k from by omega]; exact drop_cons s k h
 rw [e, ascB, ← drop_cons s k h]
theorem ascB_end (s : Str) (k : Nat) (hk : 1 ≤ k) (h : s.length ≤ k) : ascB (s.drop (k - 1)) = true := by
 by_cases h1 : k - 1 < s.length
 · rw [drop_cons s (k - 1) h1, drop_all s _ (by omega)]; rfl
 · rw [drop_all s _ (by omega)]; rfl
theorem pileFrom_eq (s : Str) : pileFrom none s = (s.all tileB && ascB s) := by
 have key : ∀ (r : Str) (a : UInt8), pileFrom (some a) r = (ascB (a :: r) && r.all tileB) := by
   intro r
   induction r with
   | nil => intro a; rfl
   | cons b r ih => intro a; simp only [pileFrom, ih, ascB, List.all_cons]; cases tileB b <;> cases leB a b <;> simp
 cases s with
 | nil => rfl
 | cons a r => simp only [pileFrom, key, List.all_cons]; cases tileB a <;> simp [Bool.and_comm]
theorem iValidPile_any (s : Str) (w : World) (hs : s.length ≤ 2 ^ 40) :
   Calls Tryz.prog 201 #[sv s] w fun e w' => e = .returned (.bool (pileB s)) ∧ Dr w w' := by
 have hdef : Hid (pileB s = (s.all tileB && ascB s && decide (s.length ≤ 120))) := Lib.hid (by rw [pileB, pileFrom_eq])
 have ht := fun w => onlyTiles_any s w hs
 obtain ⟨P, hP⟩ : ∃ P, P = pileB s := ⟨_, rfl⟩
 rw [← hP] at hdef ⊢
 clear hP
 by_cases h120 : 120 < s.length
 · have h120' : (120 : Int) < (s.length : Int) := by omega
   go_enter Tryz.func201, Tryz.ntmps201
   go_wp2_with (fail)
   go_ret
   exact ⟨ret_bool (by rw [hdef.out]; simp; omega), Dr.refl _⟩
 · have h120' : decide ((120 : Int) < (s.length : Int)) = false := decide_eq_false (by omega)
   cases hall : s.all tileB
   · rw [hall] at ht hdef
     go_enter Tryz.func201, Tryz.ntmps201
     go_wp2_with (go_at_call 254; refine (ht _).mono ?_; rintro e w' ⟨rfl, rfl⟩)
     go_ret
     exact ⟨ret_bool (by rw [hdef.out]; rfl), Dr.refl _⟩
   · rw [hall] at ht hdef
     go_enter Tryz.func201, Tryz.ntmps201
     go_wp2_with (go_at_call 254; refine (ht _).mono ?_; rintro e w' ⟨rfl, rfl⟩)
     go_loopw [3] (fun i wr => ∃ k : Nat, 1 ≤ k ∧ k ≤ s.length + 1 ∧ i = .int .i64 k ∧ Hid (ascB s = ascB (s.drop (k - 1))) ∧ Dr w wr) (fun i _ => s.length + 1 - (intOf i).toNat)
     case atStart => exact ⟨1, by omega, by omega, rfl, rfl, Dr.refl _⟩
     case round =>
       obtain ⟨k, hk1, hk2, rfl, he, hw⟩ := hrel
       by_cases hlt : k < s.length
       · have hd := Lib.hid (ascB_drop s k hk1 hlt)
         have hi1 : (1 : Int) ≤ (k : Int) := by omega
         have hi0 : (0 : Int) ≤ (k : Int) := by omega
         have hi2 : (k : Int) < (s.length : Int) := by omega
         have hi4 : (0 : Int) ≤ (k : Int) - 1 := by omega
         have hi5 : (k : Int) - 1 < (s.length : Int) := by omega
         have hi3 : ((k : Int) - 1).toNat = k - 1 := by omega
         have hle : decide (s[k].toNat < (s[k - 1]'(by omega)).toNat) = !leB (s[k - 1]'(by omega)) s[k] := by
           unfold leB; rw [Bool.eq_iff_iff]; simp
         cases hxy : leB (s[k - 1]'(by omega)) s[k]
         all_goals
           rw [hxy] at hle
           go_wp2_with (fail)
           go_quiet (fail)
           go_wp2
         · go_ret
           exact ⟨ret_bool (by rw [hdef.out, he.out, hd.out, hxy]; rfl), hw.more _⟩
         · go_roundw
           case rel => exact ⟨k + 1, by omega, by omega, by go_num, Lib.hid (by rw [he.out, hd.out, hxy]; rfl), hw.more _⟩
           case measure => simp [intOf]; omega
       · have he2 := Lib.hid (ascB_end s k hk1 (by omega))
         go_wp2_with (fail)
         go_ret
         exact ⟨ret_bool (by rw [hdef.out, he.out, he2.out]; simp; omega), hw⟩
theorem iValidRack_any (s : Str) (w : World) (hs : s.length ≤ 2 ^ 40) :
   Calls Tryz.prog 171 #[sv s] w fun e w' => e = .returned (.bool (rackB s)) ∧ Dr w w' := by
 unfold rackB
 by_cases h7 : s.length ≤ 7
 · go_enter Tryz.func171, Tryz.ntmps171
   go_wp2_with (go_at_call 201; refine (iValidPile_any _ _ hs).mono ?_; rintro e w' ⟨rfl, hw⟩)
   go_ret
   exact ⟨ret_bool (by simp [h7]), hw⟩
 · go_enter Tryz.func171, Tryz.ntmps171
   go_wp2_with (fail)
   go_ret
   exact ⟨ret_bool (by simp), Dr.refl _⟩
set_option maxRecDepth 100000
def cntA (c : List Int) : Array Value := (c.map (Value.int .i64)).toArray
def incAt (c : List Int) (k : Nat) : List Int := c.set k (c.getD k 0 + 1)
def zeroC : List Int := List.replicate 27 0
def countsL (s : Str) : List Int := s.foldl (fun c x => incAt c (tileK x)) zeroC
theorem incAt_length (c : List Int) (k : Nat) : (incAt c k).length = c.length := by simp [incAt]
theorem countsL_snoc (s : Str) (x : UInt8) : countsL (s ++ [x]) = incAt (countsL s) (tileK x) := by simp [countsL]
theorem foldl_inc_length (s : Str) : ∀ c : List Int, (s.foldl (fun c x => incAt c (tileK x)) c).length = c.length := by
 induction s with
 | nil => intro c; rfl
 | cons x r ih => intro c; rw [List.foldl_cons, ih, incAt_length]
theorem countsL_length (s : Str) : (countsL s).length = 27 := by rw [countsL, foldl_inc_length]; rfl
theorem cntA_size (c : List Int) : (cntA c).size = c.length := by simp [cntA]
theorem cntA_get (c : List Int) (k : Nat) (h : k < c.length) : (cntA c)[k]? = some (.int .i64 (c.getD k 0)) := by
 simp [cntA, List.getD_eq_getElem?_getD, List.getElem?_eq_getElem h]
theorem cntA_set (c : List Int) (k : Nat) (x : Int) : (cntA c).setIfInBounds k (.int .i64 x) = cntA (c.set k x) := by
 simp [cntA, List.map_set]
theorem cntA_one (c : List Int) : (cntA c).all (·.oneCell') = true := by
 simp [cntA, Value.oneCell']
theorem incAt_bd {c : List Int} {m : Int} (h : ∀ j, c.getD j 0 ≤ m ∧ 0 ≤ c.getD j 0) (hm : 0 ≤ m) (k j : Nat) : (incAt c k).getD j 0 ≤ m + 1 ∧ 0 ≤ (incAt c k).getD j 0 := by
 unfold incAt
 have h1 := h j
 have h2 := h k
 rw [List.getD_eq_getElem?_getD, List.getElem?_set]
 split
 · split
   · rw [Option.getD_some]; omega
   · simp; omega
 · rw [← List.getD_eq_getElem?_getD]; omega
theorem foldl_inc_bd (s : Str) : ∀ (c : List Int) (m : Int), 0 ≤ m → (∀ j, c.getD j 0 ≤ m ∧ 0 ≤ c.getD j 0) → ∀ j, (s.foldl (fun c x => incAt c (tileK x)) c).getD j 0 ≤ m + s.length ∧ 0 ≤ (s.foldl (fun c x => incAt c (tileK x)) c).getD j 0 := by
 induction s with
 | nil => intro c m _ h j; simpa using h j
 | cons x r ih =>
   intro c m hm h j
   have := ih (incAt c (tileK x)) (m + 1) (by omega) (fun j => incAt_bd h hm _ j) j
   rw [List.foldl_cons, List.length_cons]
   omega
theorem zeroC_get (j : Nat) : zeroC.getD j 0 = 0 := by
 unfold zeroC
 rw [List.getD_eq_getElem?_getD, List.getElem?_replicate]
 split <;> rfl
theorem countsL_bd (s : Str) (j : Nat) : (countsL s).getD j 0 ≤ s.length ∧ 0 ≤ (countsL s).getD j 0 := by
 have := foldl_inc_bd s zeroC 0 (by omega) (fun j => by rw [zeroC_get]; omega) j
 rw [countsL]; omega
section
variable {w : World} {g g' : Nat} {t t' : TypeId} {old cs cs' : Array Value} {B : Nat} {a : World}
theorem Blk.setRow (h : Blk w g t old) : Blk (w.setRow g cs) g t cs := by
 unfold Blk at h ⊢
 simp [World.setRow, Array.getElem?_modify, h]
theorem Blk.setRow_far (h : Blk w g t cs) (hne : g ≠ g') : Blk (w.setRow g' cs') g t cs := by
 unfold Blk at h ⊢
 simp [World.setRow, Array.getElem?_modify, Ne.symm hne, h]
end
theorem below_setRow {w a : World} {B g : Nat} {cs : Array Value} (h : Below B a w) (hB : B ≤ g) : Below B a (w.setRow g cs) := by
 refine h.trans ⟨rfl, rfl, rfl, by simp [World.setRow], fun k hk => ?_⟩
 have : g ≠ k := by omega
 simp [World.setRow, Array.getElem?_modify, this]
theorem countsOf_any (s : Str) (w : World) (hs : s.length ≤ 2 ^ 38) (ht : s.all tileB = true) :
   Calls Tryz.prog 165 #[sv s] w fun e w' => e = .returned (.agg (cntA (countsL s))) ∧ Below w.heap.size w w' := by
 have hsz : (cntA (countsL s)).size = 27 := by rw [cntA_size, countsL_length]
 have hone := cntA_one (countsL s)
 obtain ⟨X, hX⟩ : ∃ X, X = cntA (countsL s) := ⟨_, rfl⟩
 rw [← hX] at hsz hone ⊢
 have hs27 := Lib.hid hsz
 have hX' := Lib.hid hX
 clear hX hsz
 go_enter Tryz.func165, Tryz.ntmps165
 go_wp2_with (fail)
 obtain ⟨W, hW⟩ : ∃ W, W = (w.alloc (.cells (cntA zeroC) 223)).alloc (.cells (cntA zeroC) 223) := ⟨_, rfl⟩
 have hB0 : Blk W w.heap.size 223 (cntA zeroC) := by rw [hW]; exact (Blk.new w _ _).alloc _
 have hB1 : Blk W (w.heap.size + 1) 223 (cntA zeroC) := by rw [hW]; exact Blk.new1 w _ _ _
 have hbW : Below w.heap.size w W := by rw [hW]; exact ((Below.refl _ _).alloc (Nat.le_refl _) _).alloc (by simp) _
 change Code.wp _ _ _ _ ((w.alloc (.cells (cntA zeroC) 223)).alloc (.cells (cntA zeroC) 223))
 rw [← hW]
 clear hW
 go_loopw [4] (fun i wr => ∃ k : Nat, k ≤ s.length ∧ i = .int .i64 k ∧ Blk wr w.heap.size 223 (cntA zeroC) ∧ Blk wr (w.heap.size + 1) 223 (cntA (countsL (s.take k))) ∧ Below w.heap.size w wr) (fun i _ => s.length - (intOf i).toNat)
 case atStart => exact ⟨0, by omega, rfl, hB0, hB1, hbW⟩
 case round =>
   clear hB0 hB1 hbW
   obtain ⟨k, hk, rfl, hB0, hB1, hb⟩ := hrel
   by_cases hlt : k < s.length
   · have hc : tileB s[k] = true := List.all_eq_true.1 ht _ (List.getElem_mem _)
     have hK := tileK_lt hc
     have kp := fun w => place_tile s[k] w hc
     have hstep : Hid (countsL (s.take (k + 1)) = incAt (countsL (s.take k)) (tileK s[k])) := Lib.hid (by rw [List.take_succ_eq_append_getElem hlt, countsL_snoc])
     have hcl := countsL_length (s.take k)
     have hbd := countsL_bd (s.take k) (tileK s[k])
     obtain ⟨K, hKK⟩ : ∃ K, K = tileK s[k] := ⟨_, rfl⟩
     obtain ⟨C, hC⟩ : ∃ C, C = countsL (s.take k) := ⟨_, rfl⟩
     rw [← hKK] at hK kp hstep hbd
     rw [← hC] at hB1 hstep hcl hbd
     rw [List.length_take] at hbd
     have hget := hB1.cell K
     rw [cntA_get C K (by omega)] at hget
     have hfz := hB1.frozen K
     have hset := hB1.set_ K (.int .i64 (C.getD K 0 + 1))
     rw [cntA_set] at hset
     obtain ⟨x, hx⟩ : ∃ x, x = C.getD K 0 := ⟨_, rfl⟩
     have hinc : Hid (incAt C K = C.set K (x + 1)) := Lib.hid (by rw [hx]; rfl)
     rw [← hx] at hget hset hbd
     have hx0 : 0 ≤ x := hbd.2
     have hx1 : x ≤ 274877906944 := by omega
     have hK0 : (0 : Int) ≤ (K : Int) := by omega
     have hK1 : (K : Int) < 27 := by omega
     have hsz := hB1.lt
     clear hC hKK hx hbd hcl
     go_wp2_with (go_at_call 248; refine (kp _).mono ?_; rintro e w' ⟨rfl, rfl⟩)
     go_roundw
     case rel => exact ⟨k + 1, by omega, by go_num, hB0.far (by simp) _, by rw [hstep.out, hinc.out]; exact hset, hb.setCell (by simp) _⟩
     case measure => simp [intOf]; omega
   · obtain rfl : k = s.length := by omega
     rw [List.take_length] at hB1
     rw [← hX'.out] at hB1
     have hbX := below_setRow (cs := X) hb (Nat.le_refl _)
     have hBX := hB0.setRow (cs := X)
     go_wp2_with (first
       | (refine wpList_load_row rfl 223 (.tmp 3) rfl (w.heap.size + 1) rfl 223 X (0, 0) _ hB1 Tryz.underlying223 rfl (by rw [hs27.out]; kernel_rfl) ?_)
       | (refine wpList_store_row rfl 223 (.tmp 2) (.tmp 19) rfl w.heap.size X rfl rfl 223 (cntA zeroC) hB0 (by rw [hs27.out]; kernel_rfl) (by rw [hs27.out]; rfl) hone ?_))
     exact ret_row (by rfl) w.heap.size 223 X _ rfl hBX Tryz.underlying223 rfl (by rw [hs27.out]; kernel_rfl) rfl ⟨rfl, hbX⟩
def waysR : List Int → Str → Str → List Str
 | _, pre, [] => [pre]
 | C, pre, x :: r => (if C.getD 0 0 = 0 then [] else waysR (C.set 0 (C.getD 0 0 - 1)) (pre ++ [upC x]) r) ++ (if C.getD (tileK x) 0 = 0 then [] else waysR (C.set (tileK x) (C.getD (tileK x) 0 - 1)) (pre ++ [x]) r)
theorem waysR_length : ∀ (r : Str) (C : List Int) (pre : Str), (waysR C pre r).length ≤ 2 ^ r.length
 | [], _, _ => by simp [waysR]
 | x :: r, C, pre => by
   have h1 := waysR_length r (C.set 0 (C.getD 0 0 - 1)) (pre ++ [upC x])
   have h2 := waysR_length r (C.set (tileK x) (C.getD (tileK x) 0 - 1)) (pre ++ [x])
   rw [waysR, List.length_append, List.length_cons, Nat.pow_succ]
   have key : ∀ (a : Int) (l : List Str), l.length ≤ 2 ^ r.length → (if a = 0 then [] else l).length ≤ 2 ^ r.length := fun a l h => by
     split
     · exact Nat.zero_le _
     · exact h
   have h3 := key (C.getD 0 0) _ h1
   have h4 := key (C.getD (tileK x) 0) _ h2
   omega
structure WSt (w : World) (gw gy gb gc gf gx cap B : Nat) (word buf : Str) (C : List Int) (o : Value) (ws : List Str) : Prop where
 wd : Blk w gw 9 #[sv word]
 ways : Blk w gy 22 #[o]
 own : w.ownsRow B 9 1 o ws.length (ws.map sv)
 bufp : Blk w gb 209 #[.slice (some ⟨gx, 0, none⟩) word.length cap]
 buf : BRow w B gx 5 (buf.map bv)
 cnt : Blk w gc 223 (cntA C)
 fn : Blk w gf 313 #[.func (.func 282) #[] #[.pointer (some ⟨gw, 0, none⟩), .pointer (some ⟨gy, 0, none⟩), .pointer (some ⟨gb, 0, none⟩), .pointer (some ⟨gc, 0, none⟩), .pointer (some ⟨gf, 0, none⟩)]]
 low : gw < B
theorem BRow.ne_ {w : World} {base g g' : Nat} {e t : TypeId} {xs : List Value} {cs : Array Value} (h : BRow w base g e xs) (h' : Blk w g' t cs) (hne : t ≠ e) : g' ≠ g := by
 rintro rfl
 obtain ⟨_, cur, lo, hi, hh, _⟩ := h
 unfold Blk at h'
 rw [hh] at h'
 injection h' with h'
 injection h' with _ h2 _
 exact hne h2.symm
theorem BRow.ne_own {w : World} {base base' g : Nat} {e e' : TypeId} {xs xs' : List Value} {size n : Nat} {v : Value} (h : BRow w base g e xs) (h' : w.ownsRow base' e' size v n xs') (hne : e' ≠ e) : v.ownBlock ≠ some g := by
 rcases h'.2 with ⟨rfl, _⟩ | ⟨g', cap, cur, rfl, _, hh', _⟩
 · simp [Value.ownBlock]
 · intro e0
   have e0 : g' = g := by simpa [Value.ownBlock] using e0
   subst e0
   obtain ⟨_, cur2, lo, hi, hh, _⟩ := h
   rw [hh] at hh'
   injection hh' with h2
   injection h2 with _ h3 _
   exact hne h3.symm
structure Fr (w w' : World) (gy gc gx : Nat) (o : Value) : Prop where
 os : w'.os = w.os
 tape : w'.tape = w.tape
 output : w'.output = w.output
 size : w.heap.size ≤ w'.heap.size
 block : ∀ k, k < w.heap.size → k ≠ gy → k ≠ gc → k ≠ gx → some k ≠ o.ownBlock → w'.heap[k]? = w.heap[k]?
section
variable {w w' w1 w2 : World} {gw gy gb gc gf gx cap B : Nat} {word buf : Str} {C : List Int} {o o1 : Value} {ws : List Str}
theorem Fr.refl : Fr w w gy gc gx o := ⟨rfl, rfl, rfl, Nat.le_refl _, fun _ _ _ _ _ _ => rfl⟩
theorem Fr.trans (h : Fr w w1 gy gc gx o) (h2 : Fr w1 w2 gy gc gx o1) (ho : o1.ownBlock = o.ownBlock ∨ ∃ k, o1.ownBlock = some k ∧ w.heap.size ≤ k) : Fr w w2 gy gc gx o :=
 ⟨h2.os.trans h.os, h2.tape.trans h.tape, h2.output.trans h.output, Nat.le_trans h.size h2.size, fun k hk a b c d => (h2.block k (Nat.lt_of_lt_of_le hk h.size) a b c (fun e => by
   rcases ho with e1 | ⟨j, e1, hj⟩
   · exact d (e.trans e1)
   · rw [e1] at e; injection e with e; omega)).trans (h.block k hk a b c d)⟩
theorem Fr.alloc (h : Fr w w1 gy gc gx o) (ob : Obj) : Fr w (w1.alloc ob) gy gc gx o :=
 ⟨h.os, h.tape, h.output, by simpa using Nat.le_succ_of_le h.size, fun k hk a b c d => (Below.heap_alloc w1 ob k (Nat.lt_of_lt_of_le hk h.size)).trans (h.block k hk a b c d)⟩
theorem Fr.drew (h : Fr w w1 gy gc gx o) : Fr w w1.drew gy gc gx o := ⟨h.os, h.tape, h.output, h.size, h.block⟩
theorem Fr.setCell (h : Fr w w1 gy gc gx o) {p : Addr} (hp : p.block = gy ∨ p.block = gc ∨ p.block = gx ∨ w.heap.size ≤ p.block) (u : Value) : Fr w (w1.setCell p u) gy gc gx o :=
 ⟨h.os, h.tape, h.output, by simpa using h.size, fun k hk a b c d => (Below.heap_setCell w1 p u k (fun e => by subst e; omega)).trans (h.block k hk a b c d)⟩
theorem Fr.below (h : Fr w w1 gy gc gx o) (hb : Below w1.heap.size w1 w2) : Fr w w2 gy gc gx o :=
 ⟨hb.os.trans h.os, hb.tape.trans h.tape, hb.output.trans h.output, Nat.le_trans h.size hb.size, fun k hk a b c d => (hb.block k (Nat.lt_of_lt_of_le hk h.size)).trans (h.block k hk a b c d)⟩
theorem Fr.grown (h : Fr w w1 gy gc gx o) (hg : w1.grownBy w2 o1.ownBlock) (ho : o1.ownBlock = o.ownBlock ∨ ∃ k, o1.ownBlock = some k ∧ w.heap.size ≤ k) : Fr w w2 gy gc gx o :=
 ⟨hg.os.trans h.os, hg.tape.trans h.tape, hg.output.trans h.output, Nat.le_trans h.size hg.size, fun k hk a b c d => (hg.block k (Nat.lt_of_lt_of_le hk h.size) (fun e => by
   rcases ho with e1 | ⟨j, e1, hj⟩
   · exact d (e.trans e1)
   · rw [e1] at e; injection e with e; omega)).trans (h.block k hk a b c d)⟩
theorem Fr.blk (h : Fr w w1 gy gc gx o) {g t : Nat} {cs : Array Value} (hb : Blk w g t cs) (h1 : g ≠ gy) (h2 : g ≠ gc) (h3 : g ≠ gx) (h4 : some g ≠ o.ownBlock) : Blk w1 g t cs := (h.block g hb.lt h1 h2 h3 h4).trans hb
theorem WSt.ne (h : WSt w gw gy gb gc gf gx cap B word buf C o ws) : (gw ≠ gy ∧ gw ≠ gb ∧ gw ≠ gc ∧ gw ≠ gf ∧ gw ≠ gx) ∧ (gy ≠ gb ∧ gy ≠ gc ∧ gy ≠ gf ∧ gy ≠ gx) ∧ (gb ≠ gc ∧ gb ≠ gf ∧ gb ≠ gx) ∧ (gc ≠ gf ∧ gc ≠ gx) ∧ gf ≠ gx :=
 ⟨⟨h.wd.ne_ h.ways (by decide), h.wd.ne_ h.bufp (by decide), h.wd.ne_ h.cnt (by decide), h.wd.ne_ h.fn (by decide), h.buf.ne_ h.wd (by decide)⟩, ⟨h.ways.ne_ h.bufp (by decide), h.ways.ne_ h.cnt (by decide), h.ways.ne_ h.fn (by decide), h.buf.ne_ h.ways (by decide)⟩, ⟨h.bufp.ne_ h.cnt (by decide), h.bufp.ne_ h.fn (by decide), h.buf.ne_ h.bufp (by decide)⟩, ⟨h.cnt.ne_ h.fn (by decide), h.buf.ne_ h.cnt (by decide)⟩, h.buf.ne_ h.fn (by decide)⟩
theorem WSt.ownNe (h : WSt w gw gy gb gc gf gx cap B word buf C o ws) : o.ownBlock ≠ some gw ∧ o.ownBlock ≠ some gy ∧ o.ownBlock ≠ some gb ∧ o.ownBlock ≠ some gc ∧ o.ownBlock ≠ some gf ∧ o.ownBlock ≠ some gx :=
 ⟨fun e => by have := (h.own.lt _ e).1; have := h.low; omega, own_blk_ne h.own h.ways (by decide), own_blk_ne h.own h.bufp (by decide), own_blk_ne h.own h.cnt (by decide), own_blk_ne h.own h.fn (by decide), h.buf.ne_own h.own (by decide)⟩
theorem WSt.below (h : WSt w gw gy gb gc gf gx cap B word buf C o ws) (hb : Below w.heap.size w w1) : WSt w1 gw gy gb gc gf gx cap B word buf C o ws :=
 ⟨h.wd.below hb h.wd.lt, h.ways.below hb h.ways.lt, own_call h.own hb, h.bufp.below hb h.bufp.lt, h.buf.below hb h.buf.lt, h.cnt.below hb h.cnt.lt, h.fn.below hb h.fn.lt, h.low⟩
theorem WSt.cset (h : WSt w gw gy gb gc gf gx cap B word buf C o ws) (k : Nat) (v : Int) : WSt (w.setCell ⟨gc, k, none⟩ (.int .i64 v)) gw gy gb gc gf gx cap B word buf (C.set k v) o ws := by
 obtain ⟨⟨a1, a2, a3, a4, a5⟩, ⟨b1, b2, b3, b4⟩, ⟨c1, c2, c3⟩, ⟨d1, d2⟩, e1⟩ := h.ne
 obtain ⟨o1, o2, o3, o4, o5, o6⟩ := h.ownNe
 refine ⟨h.wd.far (p := ⟨gc, k, none⟩) a3 _, h.ways.far (p := ⟨gc, k, none⟩) b2 _, own_far h.own (p := ⟨gc, k, none⟩) o4 _, h.bufp.far (p := ⟨gc, k, none⟩) c1 _, h.buf.keep (Below.heap_setCell w ⟨gc, k, none⟩ _ gx (fun e => d2 e.symm)), ?_, h.fn.far (p := ⟨gc, k, none⟩) (Ne.symm d1) _, h.low⟩
 rw [← cntA_set]
 exact h.cnt.set_ k _
theorem WSt.bset (h : WSt w gw gy gb gc gf gx cap B word buf C o ws) (k : Nat) (v : UInt8) : WSt (w.setCell ⟨gx, k, none⟩ (bv v)) gw gy gb gc gf gx cap B word (buf.set k v) C o ws := by
 obtain ⟨⟨a1, a2, a3, a4, a5⟩, ⟨b1, b2, b3, b4⟩, ⟨c1, c2, c3⟩, ⟨d1, d2⟩, e1⟩ := h.ne
 obtain ⟨o1, o2, o3, o4, o5, o6⟩ := h.ownNe
 refine ⟨h.wd.far (p := ⟨gx, k, none⟩) a5 _, h.ways.far (p := ⟨gx, k, none⟩) b4 _, own_far h.own (p := ⟨gx, k, none⟩) o6 _, h.bufp.far (p := ⟨gx, k, none⟩) c3 _, ?_, h.cnt.far (p := ⟨gx, k, none⟩) d2 _, h.fn.far (p := ⟨gx, k, none⟩) e1 _, h.low⟩
 rw [List.map_set]
 exact h.buf.stored k _
theorem WSt.add (h : WSt w gw gy gb gc gf gx cap B word buf C o ws) {s : Str} (hown : w1.ownsRow B 9 1 o1 (ws.length + 1) (ws.map sv ++ [sv s])) (hg : w.grownBy w1 o.ownBlock) (hat : o1.ownBlock = o.ownBlock ∨ ∃ k, o1.ownBlock = some k ∧ w.heap.size ≤ k) :
   WSt (w1.setCell ⟨gy, 0, none⟩ o1) gw gy gb gc gf gx cap B word buf C o1 (ws ++ [s]) := by
 obtain ⟨⟨a1, a2, a3, a4, a5⟩, ⟨b1, b2, b3, b4⟩, ⟨c1, c2, c3⟩, ⟨d1, d2⟩, e1⟩ := h.ne
 obtain ⟨o1', o2, o3, o4, o5, o6⟩ := h.ownNe
 have hw := h.wd.grown hg (fun e => o1' e.symm)
 have hy := h.ways.grown hg (fun e => o2 e.symm)
 have hbp := h.bufp.grown hg (fun e => o3 e.symm)
 have hb := h.buf.keep (hg.block gx h.buf.lt (fun e => o6 e.symm))
 have hc := h.cnt.grown hg (fun e => o4 e.symm)
 have hf := h.fn.grown hg (fun e => o5 e.symm)
 have hn : o1.ownBlock ≠ some gy := by
   rcases hat with e | ⟨k, e, hk⟩
   · rw [e]; exact o2
   · rw [e]; intro e2; injection e2 with e2; have := h.ways.lt; omega
 exact ⟨hw.far (p := ⟨gy, 0, none⟩) a1 _, hy.set_ 0 o1, own_cast (own_far hown (p := ⟨gy, 0, none⟩) hn _) (by simp) (by simp), hbp.far (p := ⟨gy, 0, none⟩) (Ne.symm b1) _, hb.keep (Below.heap_setCell w1 ⟨gy, 0, none⟩ _ gx (Ne.symm b4)), hc.far (p := ⟨gy, 0, none⟩) (Ne.symm b2) _, hf.far (p := ⟨gy, 0, none⟩) (Ne.symm b3) _, h.low⟩
end
def WPost (w : World) (gw gy gb gc gf gx cap B : Nat) (word pre : Str) (C : List Int) (o : Value) (ws : List Str) (e : Ending) (w' : World) : Prop :=
 e = .returned (.tuple #[]) ∧ ∃ o' buf', buf'.length = word.length ∧ buf'.take pre.length = pre ∧ WSt w' gw gy gb gc gf gx cap B word buf' C o' ws ∧ Fr w w' gy gc gx o ∧ (o'.ownBlock = o.ownBlock ∨ ∃ k, o'.ownBlock = some k ∧ w.heap.size ≤ k)
set_option maxHeartbeats 2000000
theorem eqStringS_any (A1 A2 : Option Addr) (c1 c2 : Nat) (a b : List Str) (w : World) (h1 : Reads w w.heap.size 1 A1 a.length (a.map sv)) (h2 : Reads w w.heap.size 1 A2 b.length (b.map sv)) (hn : a.length ≤ 2 ^ 40) :
   Calls Tryz.prog 70 #[.slice A1 a.length c1, .slice A2 b.length c2] w fun e w' => e = .returned (.bool (a == b)) ∧ Below w.heap.size w w' := by
 obtain ⟨R, hR⟩ : ∃ R, R = (a == b) := ⟨_, rfl⟩
 rw [← hR]
 have hR' := Lib.hid hR
 clear hR
 by_cases hl : a.length = b.length
 · have hl1 : ((a.length : Int) != (b.length : Int)) = false := by rw [hl]; simp
   have hl' := Lib.hid hl
   clear hl
   go_enter Tryz.func70, Tryz.ntmps70
   go_wp2_with (fail)
   go_loopw [5] (fun i wr => ∃ k : Nat, k ≤ a.length ∧ i = .int .i64 k ∧ Hid (R = (a.drop k == b.drop k)) ∧ Below w.heap.size w wr) (fun i _ => a.length - (intOf i).toNat)
   case atStart => exact ⟨0, by omega, rfl, Lib.hid (by rw [hR'.out]; rfl), Below.refl _ _⟩
   case round =>
     obtain ⟨k, hk, rfl, he, hb⟩ := hrel
     by_cases hkl : k < a.length
     · have hkb : k < b.length := by rw [← hl'.out]; exact hkl
       obtain ⟨ad1, rfl, hd1, hc1⟩ := (h1.below hb).el hkl
       obtain ⟨ad2, rfl, hd2, hc2⟩ := (h2.below hb).el hkb
       have hst : Hid (R = (a[k] == b[k] && (a.drop (k + 1) == b.drop (k + 1)))) := Lib.hid (by rw [he.out, drop_cons a k hkl, drop_cons b k hkb]; rfl)
       obtain ⟨x, hx⟩ : ∃ x, x = a[k] := ⟨_, rfl⟩
       obtain ⟨y, hy⟩ : ∃ y, y = b[k] := ⟨_, rfl⟩
       rw [← hx] at hst hc1
       rw [← hy] at hst hc2
       clear hx hy
       have hkk : (k : Int) < (a.length : Int) := by omega
       have hkk2 : (k : Int) < (b.length : Int) := by omega
       have hk0 : (0 : Int) ≤ (k : Int) := by omega
       have hz1 : ad1.block < wr.heap.size := Nat.lt_of_lt_of_le hd1 hb.size
       have hz2 : ad2.block < wr.heap.size := Nat.lt_of_lt_of_le hd2 hb.size
       obtain ⟨t, ht⟩ : ∃ t, t = (x == y) := ⟨_, rfl⟩
       rw [← ht] at hst
       have ht' : (x == y) = t := ht.symm
       clear ht
       cases t
       all_goals
         go_wp2_with (fail)
         refine wp_region_b 9 (by kernel_rfl) (by kernel_rfl) ?_
         simp only [qqT, List.take_zero, qqD, List.drop_zero]
         iterate 9
           apply pc_step rfl
           · intro w4 hb4 K hK
             have e1 : w4.cell? (ad1.add k) = some (sv x) := (hb4.cell (by rw [block_of_add]; exact hz1)).trans hc1
             have e2 : w4.cell? (ad2.add k) = some (sv y) := (hb4.cell (by rw [block_of_add]; exact hz2)).trans hc2
             go_wp2_with (fail)
             all_goals first | exact hb4 | exact hb4.trans (hb5.mono hb4.size) | exact hb4.trans (hd5.below.mono hb4.size)
           simp only [Act.put, qqS, qqC, qqZ]
         refine pc_nil ?_
         intro w4 hb4
         have hb5 := hb.trans (hb4.mono hb.size)
         clear hb4 hc1 hc2
         go_wp2_with (fail)
       · go_ret
         exact ⟨ret_bool (by rw [hst.out]; rfl), hb5⟩
       · go_roundw
         case rel => exact ⟨k + 1, by omega, by go_num, Lib.hid (by rw [hst.out]; simp), hb5⟩
         case measure => simp [intOf]; omega
     · obtain rfl : k = a.length := by omega
       have hkk : ¬ (a.length : Int) < (a.length : Int) := by omega
       have hRt : Hid (R = true) := Lib.hid (by rw [he.out, List.drop_length, hl'.out, List.drop_length]; rfl)
       go_wp2_with (fail)
       go_ret
       exact ⟨ret_bool hRt.out.symm, hb⟩
 · have hl1 : ((a.length : Int) != (b.length : Int)) = true := by rw [bne_iff_ne]; omega
   have hRf : R = false := by rw [hR'.out, beq_eq_false_iff_ne]; intro e; exact hl (by rw [e])
   subst hRf
   clear hl
   go_enter Tryz.func70, Tryz.ntmps70
   go_wp2_with (fail)
   go_ret
   exact ⟨rfl, Below.refl _ _⟩
theorem toBoard_any (b : Bd) (w : World) :
   Calls Tryz.prog 18 #[b.v] w fun e w' => e = .returned b.v ∧ Below w.heap.size w w' := by
 obtain ⟨sz, bp, bc⟩ := b
 simp only [Bd.v]
 go_enter Tryz.func18, Tryz.ntmps18
 go_wp2_with (fail)
 exact ret_row (by rfl) (w.heap.size + 1) 41 #[.int .i64 sz, sv bp, sv bc] _ rfl ((Blk.new1 w _ _ _).alloc _) Tryz.underlying41 rfl (by kernel_rfl) rfl ⟨rfl, (((Below.refl _ _).alloc (Nat.le_refl _) _).alloc (by simp) _).alloc (by simp; omega) _⟩
theorem eqLexicon_any (A1 A2 : Option Addr) (c1 c2 : Nat) (a b : List Str) (w : World) (h1 : Reads w w.heap.size 1 A1 a.length (a.map sv)) (h2 : Reads w w.heap.size 1 A2 b.length (b.map sv)) (hn : a.length ≤ 2 ^ 40) :
   Calls Tryz.prog 21 #[.agg #[.slice A1 a.length c1], .agg #[.slice A2 b.length c2]] w fun e w' => e = .returned (.bool (a == b)) ∧ Below w.heap.size w w' := by
 have k1 := fun (W : World) (hW : Below w.heap.size w W) => eqStringS_any A1 A2 c1 c2 a b W ((h1.below hW).more hW.size) ((h2.below hW).more hW.size) hn
 obtain ⟨R, hR⟩ : ∃ R, R = (a == b) := ⟨_, rfl⟩
 rw [← hR] at k1 ⊢
 clear hR h1 h2
 have hb := ((Below.refl w.heap.size w).alloc (Nat.le_refl _) (.cells #[.slice A1 a.length c1] 37)).alloc (by simp) (.cells #[.slice A2 b.length c2] 37)
 cases R
 all_goals
   go_enter Tryz.func21, Tryz.ntmps21
   go_wp2_with (go_at_call 70; refine (k1 _ hb).mono ?_; rintro e w1 ⟨rfl, hb1⟩)
   go_ret
   exact ⟨rfl, hb.trans (hb1.mono hb.size)⟩
end Go.Proofs.YtdkckikobefekaaGreatDoor
namespace Go.Proofs.YtdkckikobefekaaGreatDoor
open Go.RowKit RegP RegL
set_option maxHeartbeats 400000
theorem Bd.Fit.tr {b : Bd} (h : b.Fit) : b.tr.Fit := by
 have h1 := h.lo
 have h2 := h.hi
 have e : b.size * b.size = ((b.size.toNat * b.size.toNat : Nat) : Int) := by
   rw [Int.natCast_mul, Int.toNat_of_nonneg (by omega)]
 refine ⟨h1, h2, ?_, ?_⟩
 · show ((turnS b.size.toNat b.prem).length : Int) = b.size * b.size
   rw [turnS, turnTo_length, e]
 · show ((turnS b.size.toNat b.cells).length : Int) = b.size * b.size
   rw [turnS, turnTo_length, e]
theorem flatB_fit {b : Bd} {q : Pl} (h : b.Fit) : (flatB b q).Fit := by
 unfold flatB; split
 · exact h.tr
 · exact h
theorem flatP_word (q : Pl) : (flatP q).word = q.word := by unfold flatP; split <;> rfl
def okB (b : Bd) (q : Pl) : Bool := bdB b && (wordB q.word && fitsB (flatB b q) (flatP q))
theorem BAt.new (w : World) (b : Bd) (t : TypeId) : BAt (w.alloc (.cells #[.int .i64 b.size, sv b.prem, sv b.cells] t)) ⟨w.heap.size, 0, none⟩ b := by
 have h := Blk.new w t #[.int .i64 b.size, sv b.prem, sv b.cells]
 exact ⟨h.cell 0, h.cell 1, h.cell 2⟩
theorem l12Ok_any (g : Nat) {o : Nat} (b : Bd) (q : Pl) (w : World) (hp : BAt w ⟨g, o, none⟩ b) (hl : q.word.length ≤ 2 ^ 38) (h1 : b.prem.length ≤ 2 ^ 40) (h2 : b.cells.length ≤ 2 ^ 40) :
   Calls Tryz.prog 144 #[.pointer (some ⟨g, o, none⟩), q.v] w fun e w' => e = .returned (.bool (okB b q)) ∧ Below w.heap.size w w' := by
 have hdef : okB b q = (bdB b && (wordB q.word && fitsB (flatB b q) (flatP q))) := rfl
 have hwf := flatP_word q
 obtain ⟨q', hq'⟩ : ∃ q', q' = flatP q := ⟨_, rfl⟩
 obtain ⟨b', hb'⟩ : ∃ b', b' = flatB b q := ⟨_, rfl⟩
 rw [← hq'] at hwf
 have hfl := l12Flat_any g (o := o) b q
 rw [← hq', ← hb'] at hfl
 rw [← hq', ← hb'] at hdef
 have hfit : b.Fit → b'.Fit := by intro h; rw [hb']; exact flatB_fit h
 clear hq' hb'
 have hwl : q'.word.length ≤ 2 ^ 38 := by rw [hwf]; exact hl
 have hdef' := Lib.hid hdef
 clear hdef hwf
 obtain ⟨r, c, dn, s⟩ := q
 simp only [Bd.v, Pl.v] at hfl
 have hpW := hp.alloc (.cells #[.int .i64 r, .int .i64 c, .bool dn, sv s] 61)
 have hbW := (Below.refl w.heap.size w).alloc (Nat.le_refl _) (.cells #[.int .i64 r, .int .i64 c, .bool dn, sv s] 61)
 have hbx := (Blk.new w 61 #[.int .i64 r, .int .i64 c, .bool dn, sv s])
 obtain ⟨W, hW⟩ : ∃ W, W = w.alloc (.cells #[.int .i64 r, .int .i64 c, .bool dn, sv s] 61) := ⟨_, rfl⟩
 rw [← hW] at hbx hpW hbW
 cases ho : bdB b
 · go_enter Tryz.func144, Tryz.ntmps144
   simp only [Pl.v]
   go_wp2_with (go_at_call 189; rw [← hW]; refine (l11Ok_any _ b _ hpW h1 h2).mono ?_; rw [ho]; rintro e w1 ⟨rfl, hd1⟩)
   go_ret
   exact ⟨ret_bool (by rw [hdef'.out, ho]; rfl), hbW.trans (hd1.below.mono hbW.size)⟩
 · have hf := bdB.fit ho
   cases hw : wordB s
   · go_enter Tryz.func144, Tryz.ntmps144
     simp only [Pl.v]
     go_wp2_with (first
       | (go_at_call 189; rw [← hW]; refine (l11Ok_any _ b _ hpW h1 h2).mono ?_; rw [ho]; rintro e w1 ⟨rfl, hd1⟩; have e3 : w1.cell? ⟨w.heap.size, 3, none⟩ = some (sv s) := (hbx.below hd1.below hbx.lt).cell 3)
       | (go_at_call 215; refine (l12Word_any _ _ hl).mono ?_; rw [hw]; rintro e w2 ⟨rfl, rfl⟩))
     go_ret
     exact ⟨ret_bool (by rw [hdef'.out, ho, hw]; rfl), hbW.trans (hd1.below.mono hbW.size)⟩
   · go_enter Tryz.func144, Tryz.ntmps144
     simp only [Pl.v]
     go_wp2_with (first
       | (go_at_call 189; rw [← hW]; refine (l11Ok_any _ b _ hpW h1 h2).mono ?_; rw [ho]; rintro e w1 ⟨rfl, hd1⟩
          have hp1 := hpW.dr hd1
          have hb1 := hbx.below hd1.below hbx.lt
          have e0 : w1.cell? ⟨w.heap.size, 0, none⟩ = some (.int .i64 r) := hb1.cell 0
          have e1 : w1.cell? ⟨w.heap.size, 1, none⟩ = some (.int .i64 c) := hb1.cell 1
          have e2 : w1.cell? ⟨w.heap.size, 2, none⟩ = some (.bool dn) := hb1.cell 2
          have e3 : w1.cell? ⟨w.heap.size, 3, none⟩ = some (sv s) := hb1.cell 3)
       | (go_at_call 215; refine (l12Word_any _ _ hl).mono ?_; rw [hw]; rintro e w2 ⟨rfl, rfl⟩)
       | (go_at_call 80; refine (hfl _ hp1 hf).mono ?_; rintro e w2 ⟨rfl, hb2⟩)
       | (go_at_call 216; refine (l12Fits_any ⟨w2.heap.size, 0, none⟩ b' q' _ ((BAt.new w2 b' 41).alloc _) (hfit hf) hwl).mono ?_; rintro e w3 ⟨rfl, hb3⟩))
     go_ret
     have hw1 := hbW.trans (hd1.below.mono hbW.size)
     have hw2 := hw1.trans (hb2.mono hw1.size)
     have hw3 := (hw2.alloc hw2.size (.cells #[.int .i64 b'.size, sv b'.prem, sv b'.cells] 41))
     have hw4 := hw3.alloc hw3.size (.cells #[.int .i64 q'.row, .int .i64 q'.col, .bool q'.down, sv q'.word] 61)
     exact ⟨ret_bool (by rw [hdef'.out, ho, hw]; rfl), hw4.trans (hb3.mono hw4.size)⟩
end Go.Proofs.YtdkckikobefekaaGreatDoor
