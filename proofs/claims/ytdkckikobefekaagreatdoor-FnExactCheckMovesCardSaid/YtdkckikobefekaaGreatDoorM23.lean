/-
  The walk of tryPlays (layer 16 of the impl package), over what its calls give; Contracts: the comparisons of the library that the comparison of plays calls; Contract: the comparison of plays (layers 12 and 15 of the impl package); Contract: the comparison of plays as slices.SortFunc takes it (layer 15 of the impl package); Contract: slices.SortFunc at plays (layer 16 of the impl package).
  Conditions: each call that it makes answers as laid down; none; for cmp.Or: the slice reads as a list of four numbers; none; the slice owns its cells.
-/
import Derived.Test.YtdkckikobefekaaGreatDoorM09
import Derived.Test.YtdkckikobefekaaGreatDoorM05
import Derived.Test.YtdkckikobefekaaGreatDoorM12
import Derived.Test.YtdkckikobefekaaGreatDoorM04
import Derived.Deep.Light
import Derived.Test.YtdkckikobefekaaGreatDoorM15
import Derived.Shelf.SlSortCmp.NoneTotal
import Derived.Test.YtdkckikobefekaaGreatDoorM13
namespace Go.Proofs.YtdkckikobefekaaGreatDoor
open Go.RowKit RegP RegL RegV
set_option maxHeartbeats 4000000
set_option maxRecDepth 100000
def RoundOk (A : Option Addr) (c : Nat) (lex : List Str) (b : Bd) (rack : Str) (C : List Int) (w : World) (r cc : Int) (d : Bool) (word : Str) (res : List Pl) : Prop :=
 ∃ (s : Str) (q : Pl) (ok cm : Bool) (ways : List Str) (F : Str → Pl) (K : Pl → Int),
   (∀ W, Calls Tryz.prog 209 #[b.v, sv word, .int .i64 r, .int .i64 cc, .bool d] W fun e w' => e = .returned (.tuple #[sv s, q.v, .bool ok]) ∧ Below W.heap.size W w') ∧
   (ok = true → ∀ W, Calls Tryz.prog 210 #[.agg (cntA C), sv s] W fun e w' => e = .returned (.bool cm) ∧ Below W.heap.size W w') ∧
   ((ok && cm) = true → ∀ W, Calls Tryz.prog 211 #[.agg (cntA C), sv s] W fun e w' => ∃ v, e = .returned v ∧ w'.ownsRow W.heap.size 9 1 v ways.length (ways.map sv) ∧ Below W.heap.size W w') ∧
   ((ok && cm) = true → ∀ x ∈ ways, ∀ W, Calls Tryz.prog 212 #[b.v, q.v, sv x] W fun e w' => e = .returned (F x).v ∧ Below W.heap.size W w') ∧
   ((ok && cm) = true → ∀ x ∈ ways, ∀ W, Below w.heap.size w W → Calls Tryz.prog 92 #[b.v, .agg #[.slice A lex.length c], sv rack, (F x).v] W fun e w' => e = .returned (.int .i64 (K (F x))) ∧ Below W.heap.size W w') ∧
   ways.length ≤ 2 ^ 15 ∧
   res = if ok && cm then (ways.map F).filter (fun p => K p == 0) else []
structure TI (w : World) (A : Option Addr) (c n : Nat) (sz : Int) (bp bc : Str) (gc : Nat) (X : Array Value) (o : Value) (ps : List Pl) (wr : World) : Prop where
 low : Below w.heap.size w wr
 lx : Blk wr w.heap.size 37 #[.slice A n c]
 bd : Blk wr (w.heap.size + 1) 41 #[.int .i64 sz, sv bp, sv bc]
 cn : Blk wr gc 223 X
 own : wr.ownsRow (w.heap.size + 2) 61 4 o ps.length (psC ps)
section
variable {w wr w' : World} {A : Option Addr} {c n : Nat} {sz : Int} {bp bc : Str} {gc : Nat} {X : Array Value} {o o' : Value} {ps : List Pl}
theorem TI.call (h : TI w A c n sz bp bc gc X o ps wr) (hb : Below wr.heap.size wr w') : TI w A c n sz bp bc gc X o ps w' :=
 ⟨h.low.trans (hb.mono h.low.size), h.lx.below hb h.lx.lt, h.bd.below hb h.bd.lt, h.cn.below hb h.cn.lt, own_call h.own hb⟩
theorem TI.grow (h : TI w A c n sz bp bc gc X o ps wr) {p : Pl} (hown : w'.ownsRow (w.heap.size + 2) 61 4 o' (ps.length + 1) (psC ps ++ plC p)) (hg : wr.grownBy w' o.ownBlock) : TI w A c n sz bp bc gc X o' (ps ++ [p]) w' :=
 ⟨Below.own h.low h.low.size h.own (by omega) hg, h.lx.grown hg (fun e => own_blk_ne h.own h.lx (by decide) e.symm), h.bd.grown hg (fun e => own_blk_ne h.own h.bd (by decide) e.symm), h.cn.grown hg (fun e => own_blk_ne h.own h.cn (by decide) e.symm), own_cast hown (by rw [psC_append, psC_one]) (by simp)⟩
end
structure SN (W : World) (r r' : Array Value) (σ : Nat → Value) (L : Nat → Bool) (w : World) : Prop where
 low : Below W.heap.size W w
 al : L 16 = true → ∃ g, σ 16 = .pointer (some ⟨g, 0, none⟩) ∧ W.heap.size ≤ g ∧ Blk w g 61 (if L 18 then r' else r)
 st : L 18 = true → L 16 = true
section
variable {W w1 w2 : World} {r r' : Array Value} {σ : Nat → Value} {L : Nat → Bool}
theorem SN.start : SN W r r' σ (fun _ => false) W.drew := ⟨(Below.refl _ _).drew, (fun h => by cases h), (fun h => by cases h)⟩
theorem SN.call (h : SN W r r' σ L w1) (hb : Below w1.heap.size w1 w2) : SN W r r' σ L w2 :=
 ⟨h.low.trans (hb.mono h.low.size), fun e => by
   obtain ⟨g, h1, h2, h3⟩ := h.al e
   exact ⟨g, h1, h2, h3.below hb h3.lt⟩, h.st⟩
theorem SN.keep {i : Nat} (h : SN W r r' σ L w1) (h1 : i ≠ 16) (h2 : i ≠ 18) : SN W r r' σ (upd L i) w1 :=
 ⟨h.low, fun e => by rw [upd_ne L h1.symm] at e; rw [upd_ne L h2.symm]; exact h.al e, fun e => by rw [upd_ne L h2.symm] at e; rw [upd_ne L h1.symm]; exact h.st e⟩
theorem SN.put (h : SN W r r' σ L w1) (hL : L 16 = false) (hb : Below w1.heap.size w1 w2) {u : Value} (hu : ∃ g, u = .pointer (some ⟨g, 0, none⟩) ∧ W.heap.size ≤ g ∧ Blk w2 g 61 r) : SN W r r' (sub σ 16 u) (upd L 16) w2 := by
 have h := h.call hb
 have h18 : L 18 = false := by
   cases e : L 18
   · rfl
   · rw [h.st e] at hL; cases hL
 refine ⟨h.low, fun _ => ?_, fun e => ?_⟩
 · rw [upd_ne L (by decide), h18, sub_same]; exact hu
 · rw [upd_ne L (by decide), h18] at e; cases e
theorem SN.set {a0 a1 a2 a3 x0 x1 x2 x3 : Value} (h : SN W #[a0, a1, a2, a3] #[x0, x1, x2, x3] σ L w1) (hL : L 18 = false) (h16 : L 16 = true) {g : Nat} (hg : σ 16 = .pointer (some ⟨g, 0, none⟩)) :
   SN W #[a0, a1, a2, a3] #[x0, x1, x2, x3] σ (upd L 18) ((((w1.setCell ⟨g, 0, none⟩ x0).setCell ⟨g, 1, none⟩ x1).setCell ⟨g, 2, none⟩ x2).setCell ⟨g, 3, none⟩ x3) := by
 obtain ⟨g3, e3, l3, b3⟩ := h.al h16
 rw [hg] at e3
 injection e3 with e3; injection e3 with e3; injection e3 with e3 _ _
 subst e3
 rw [hL] at b3
 refine ⟨(((h.low.setCell l3 _).setCell l3 _).setCell l3 _).setCell l3 _, fun _ => ⟨g, hg, l3, ?_⟩, fun _ => ?_⟩
 · rw [upd_same]; exact (((b3.set_ 0 x0).set_ 1 x1).set_ 2 x2).set_ 3 x3
 · rw [upd_ne L (by decide)]; exact h16
end
theorem filt_step (F : Str → Pl) (K : Pl → Int) (ways : List Str) (k : Nat) (h : k < ways.length) :
   ((ways.take (k + 1)).map F).filter (fun p => K p == 0) = if K (F ways[k]) = 0 then ((ways.take k).map F).filter (fun p => K p == 0) ++ [F ways[k]] else ((ways.take k).map F).filter (fun p => K p == 0) := by
 rw [List.take_succ_eq_append_getElem h, List.map_append, List.filter_append]
 by_cases hh : K (F ways[k]) = 0 <;> simp [hh]
def wordsP (WI : Nat → Str → List Pl) (k : Nat) (ws : List Str) : List Pl := ws.flatMap (WI k)
def placesP (WI : Nat → Str → List Pl) (lex : List Str) (k : Nat) : List Pl := (List.range k).flatMap fun i => wordsP WI i lex
theorem wordsP_step (WI : Nat → Str → List Pl) (i : Nat) (ws : List Str) (k : Nat) (h : k < ws.length) : wordsP WI i (ws.take (k + 1)) = wordsP WI i (ws.take k) ++ WI i ws[k] := by
 unfold wordsP
 rw [List.take_succ_eq_append_getElem h, List.flatMap_append]
 congr 1
 simp
theorem placesP_succ (WI : Nat → Str → List Pl) (lex : List Str) (k : Nat) : placesP WI lex (k + 1) = placesP WI lex k ++ wordsP WI k lex := by
 simp [placesP, List.range_succ]
theorem placesP_le (WI : Nat → Str → List Pl) (lex : List Str) (k : Nat) : ∀ d, (placesP WI lex k).length ≤ (placesP WI lex (k + d)).length
 | 0 => Nat.le_refl _
 | d + 1 => by
   rw [← Nat.add_assoc, placesP_succ, List.length_append]
   exact Nat.le_trans (placesP_le WI lex k d) (Nat.le_add_right _ _)
theorem wordsP_le (WI : Nat → Str → List Pl) (i : Nat) (ws : List Str) (k : Nat) : (wordsP WI i (ws.take k)).length ≤ (wordsP WI i ws).length := by
 have e : wordsP WI i ws = wordsP WI i (ws.take k) ++ wordsP WI i (ws.drop k) := by
   unfold wordsP
   rw [← List.flatMap_append, List.take_append_drop]
 rw [e, List.length_append]
 exact Nat.le_add_right _ _
def TryPostI (SR : List Pl → List Pl → Prop) (w : World) (T : List Pl) (e : Ending) (w' : World) : Prop :=
 Below w.heap.size w w' ∧ (if 400 < T.length then e = .returned (.tuple #[.slice none 0 0, .int .i64 5]) else ∃ v ps', SR ps' T ∧ w'.ownsRow w.heap.size 61 4 v ps'.length (psC ps') ∧ e = .returned (.tuple #[v, .int .i64 0]))
theorem tryPlays_walk (SR : List Pl → List Pl → Prop) (A : Option Addr) (c : Nat) (lex : List Str) (b : Bd) (rack : Str) (C : List Int) (w : World) (WI : Nat → Str → List Pl) (hf : b.Fit) (hC : C.length = 27) (hln : lex.length ≤ 2 ^ 32)
   (hr : Reads w w.heap.size 1 A lex.length (lex.map sv))
   (hvl : ∀ W, Below w.heap.size w W → Calls Tryz.prog 208 #[.agg #[.slice A lex.length c]] W fun e w' => e = .returned (.bool true) ∧ Below W.heap.size W w')
   (hvb : ∀ W, Calls Tryz.prog 197 #[b.v] W fun e w' => e = .returned (.bool true) ∧ Below W.heap.size W w')
   (hvr : ∀ W, Calls Tryz.prog 171 #[sv rack] W fun e w' => e = .returned (.bool true) ∧ Dr W w')
   (hcn : ∀ W, Calls Tryz.prog 165 #[sv rack] W fun e w' => e = .returned (.agg (cntA C)) ∧ Below W.heap.size W w')
   (hsort : ∀ (ps : List Pl) (v : Value) (base : Nat) (W : World), ps.length ≤ 2 ^ 40 → W.ownsRow base 61 4 v ps.length (psC ps) → Calls Tryz.prog 213 #[v, .func (.func 214) #[] #[]] W fun e w' => e = .returned (.tuple #[]) ∧ ∃ ps', SR ps' ps ∧ w'.ownsRow base 61 4 v ps'.length (psC ps') ∧ W.grownBy w' v.ownBlock)
   (hround : ∀ k : Nat, (k : Int) < 2 * b.size * b.size → ∀ word ∈ lex, RoundOk A c lex b rack C w (((k : Int) % (b.size * b.size)) / b.size) (((k : Int) % (b.size * b.size)) % b.size) (decide (b.size * b.size ≤ (k : Int))) word (WI k word)) :
   Calls Tryz.prog 141 #[.agg #[.slice A lex.length c], b.v, sv rack] w (TryPostI SR w (placesP WI lex (2 * b.size * b.size).toNat)) := by
 have h5 := hf.lo
 have h15 := hf.hi
 clear hf
 obtain ⟨Ps, hPs⟩ : ∃ Ps, Ps = TryPostI SR w (placesP WI lex (2 * b.size * b.size).toNat) := ⟨_, rfl⟩
 have hbig : Hid (400 < (placesP WI lex (2 * b.size * b.size).toNat).length → ∀ w', Below w.heap.size w w' → Ps (.returned (.tuple #[.slice none 0 0, .int .i64 5])) w') := Lib.hid (fun h w' hb => by rw [hPs]; exact ⟨hb, by rw [if_pos h]⟩)
 have hend : Hid (¬ 400 < (placesP WI lex (2 * b.size * b.size).toNat).length → ∀ v ps' w', SR ps' (placesP WI lex (2 * b.size * b.size).toNat) → w'.ownsRow w.heap.size 61 4 v ps'.length (psC ps') → Below w.heap.size w w' → Ps (.returned (.tuple #[v, .int .i64 0])) w') := Lib.hid (fun h v ps' w' h1 h2 hb => by rw [hPs]; exact ⟨hb, by rw [if_neg h]; exact ⟨v, ps', h1, h2, rfl⟩⟩)
 rw [← hPs]
 clear hPs
 obtain ⟨sz, bp, bc⟩ := b
 obtain ⟨X, hX⟩ : ∃ X, X = cntA C := ⟨_, rfl⟩
 have hs27 : Hid (X.size = 27) := Lib.hid (by rw [hX, cntA_size, hC])
 have hone := Lib.hid (by rw [hX]; exact cntA_one C : X.all (·.oneCell') = true)
 unfold RoundOk at hround
 rw [← hX] at hcn
 simp only [← hX] at hround
 have hround' := Lib.hid hround
 have hsort' := Lib.hid hsort
 clear hX hC hround hsort
 simp only [Bd.v] at *
 have n1 : 25 ≤ sz * sz := by
   have := Int.mul_le_mul h5 h5 (by omega) (by omega)
   omega
 have n2 : sz * sz ≤ 225 := by
   have := Int.mul_le_mul h15 h15 (by omega) (by omega)
   omega
 have n3 : 2 * sz * sz = 2 * (sz * sz) := Int.mul_assoc 2 sz sz
 obtain ⟨W, hW⟩ : ∃ W, W = (w.alloc (.cells #[.slice A lex.length c] 37)).alloc (.cells #[.int .i64 sz, sv bp, sv bc] 41) := ⟨_, rfl⟩
 have hL : Blk W w.heap.size 37 #[.slice A lex.length c] := by rw [hW]; exact (Blk.new w _ _).alloc _
 have hB : Blk W (w.heap.size + 1) 41 #[.int .i64 sz, sv bp, sv bc] := by rw [hW]; exact Blk.new1 w _ _ _
 have hb : Below w.heap.size w W := by rw [hW]; exact ((Below.refl _ _).alloc (Nat.le_refl _) _).alloc (by simp) _
 have hzW : W.heap.size = w.heap.size + 1 + 1 := by rw [hW]; simp
 go_enter Tryz.func141, Tryz.ntmps141
 go_wp2_with (first
   | (go_at_call 208; rw [← hW]; refine (hvl _ hb).mono ?_; rintro e w1 ⟨rfl, hb1⟩
      have hB1 := hB.below hb1 hB.lt
      have hL1 := hL.below hb1 hL.lt
      have d0 : w1.cell? ⟨w.heap.size + 1, 0, none⟩ = some (.int .i64 sz) := hB1.cell 0
      have d1 : w1.cell? ⟨w.heap.size + 1, 1, none⟩ = some (sv bp) := hB1.cell 1
      have d2 : w1.cell? ⟨w.heap.size + 1, 2, none⟩ = some (sv bc) := hB1.cell 2
      have ht1 := hb.trans (hb1.mono hb.size)
      have hz1 := hb1.size)
   | (go_at_call 197; refine (hvb _).mono ?_; rintro e w2 ⟨rfl, hb2⟩
      have hB2 := hB1.below hb2 hB1.lt
      have hL2 := hL1.below hb2 hL1.lt
      have ht2 := ht1.trans (hb2.mono ht1.size)
      have hz2 := hb2.size)
   | (go_at_call 171; refine (hvr _).mono ?_; rintro e w3 ⟨rfl, hd3⟩
      have hB3 := hB2.below hd3.below hB2.lt
      have hL3 := hL2.below hd3.below hL2.lt
      have ht3 := ht2.trans (hd3.below.mono ht2.size)
      have hz3 := hd3.below.size
      have ow3 := World.ownsRow_lit (base := w.heap.size + 2) (size := 4) (e := 61) w3 #[] 0 (by omega) (by unfold maxLen; omega) rfl
      have hB4 := hB3.alloc (.cells #[] 61)
      have hL4 := hL3.alloc (.cells #[] 61)
      have ht4 := ht3.alloc ht3.size (.cells #[] 61))
   | (go_at_call 165; refine (hcn _).mono ?_; rintro e w5 ⟨rfl, hb5⟩
      have hB5 := hB4.below hb5 hB4.lt
      have hL5 := hL4.below hb5 hL4.lt
      have ht5 := ht4.trans (hb5.mono ht4.size)
      have ow5 := own_call ow3 hb5
      have hz5 := hb5.size
      have hBX := Blk.new w5 223 (cntA zeroC))
   | (refine wpList_store_row rfl 223 (.tmp 9) (.tmp 36) rfl w5.heap.size X rfl rfl 223 (cntA zeroC) hBX (by rw [hs27.out]; kernel_rfl) (by rw [hs27.out]; rfl) hone.out ?_))
 obtain ⟨gc, hgc⟩ : ∃ gc, gc = w5.heap.size := ⟨_, rfl⟩
 obtain ⟨W6, hW6⟩ : ∃ W6, W6 = (w5.alloc (.cells (cntA zeroC) 223)).setRow w5.heap.size X := ⟨_, rfl⟩
 have hT0 : TI w A c lex.length sz bp bc gc X (.slice (some ⟨w3.heap.size, 0, none⟩) 0 0) [] W6 := by
   rw [hW6, hgc]
   have h1 : gc ≠ w3.heap.size := by rw [hgc]; have := hb5.size; simp at this; omega
   refine ⟨below_setRow (ht5.alloc ht5.size _) ht5.size, (hL5.alloc _).setRow_far (by have := hL5.lt; omega), (hB5.alloc _).setRow_far (by have := hB5.lt; omega), hBX.setRow, ?_⟩
   refine own_keep (own_call ow5 ((Below.refl _ _).alloc (Nat.le_refl _) (.cells (cntA zeroC) 223))) fun k hk => ?_
   have e : w3.heap.size = k := by simpa [Value.ownBlock] using hk
   have hne : w5.heap.size ≠ k := by omega
   simp [World.setRow, Array.getElem?_modify, hne]
 have hzg : w.heap.size + 2 ≤ gc := by rw [hgc]; have := hb5.size; simp at this; omega
 rw [show cntA zeroC = #[Value.int .i64 0, Value.int .i64 0, Value.int .i64 0, Value.int .i64 0, Value.int .i64 0, Value.int .i64 0, Value.int .i64 0, Value.int .i64 0, Value.int .i64 0, Value.int .i64 0, Value.int .i64 0, Value.int .i64 0, Value.int .i64 0, Value.int .i64 0, Value.int .i64 0, Value.int .i64 0, Value.int .i64 0, Value.int .i64 0, Value.int .i64 0, Value.int .i64 0, Value.int .i64 0, Value.int .i64 0, Value.int .i64 0, Value.int .i64 0, Value.int .i64 0, Value.int .i64 0, Value.int .i64 0] from rfl] at hW6
 rw [← hW6, ← hgc]
 obtain ⟨v3, hv3⟩ : ∃ v3, v3 = Value.slice (some ⟨w3.heap.size, 0, none⟩) 0 0 := ⟨_, rfl⟩
 rw [← hv3] at hT0 ⊢
 clear hv3 hW6 hgc hBX ow5 ow3 ht5 ht4 ht3 ht2 ht1 hL5 hL4 hL3 hL2 hL1 hB5 hB4 hB3 hB2 hB1 d0 d1 d2 hz1 hz2 hz3 hz5 hb5 hd3 hb2 hb1 hL hB hb hzW hW
 obtain ⟨N, hN⟩ : ∃ N : Nat, (N : Int) = 2 * sz * sz := ⟨(2 * sz * sz).toNat, by omega⟩
 have hNn : (2 * sz * sz).toNat = N := by omega
 rw [hNn] at hbig hend
 go_loopw [8, 10] (fun o i wr => ∃ k : Nat, k ≤ N ∧ i = .int .i64 k ∧ TI w A c lex.length sz bp bc gc X o (placesP WI lex k) wr ∧ (placesP WI lex k).length ≤ 400) (fun _ i _ => N - (intOf i).toNat)
 case atStart => exact ⟨0, by omega, rfl, hT0, by simp [placesP]⟩
 case round =>
   clear hT0
   obtain ⟨k, hk, rfl, hT, h400⟩ := hrel
   have d0 : wr.cell? ⟨w.heap.size + 1, 0, none⟩ = some (.int .i64 sz) := hT.bd.cell 0
   by_cases hkN : k < N
   · have hkk : (k : Int) < 2 * sz * sz := by omega
     have hq := hround'.out k hkk
     have hall := Lib.hid (placesP_succ WI lex k)
     have hle := placesP_le WI lex (k + 1) (N - (k + 1))
     rw [show k + 1 + (N - (k + 1)) = N by omega] at hle
     obtain ⟨P0, hP0⟩ : ∃ P0, P0 = placesP WI lex k := ⟨_, rfl⟩
     rw [← hP0] at hT h400 hall
     clear hP0
     go_wp2_with (fail)
     have n4 : sz * sz ≠ 0 := by omega
     have n0 : 0 ≤ sz * sz := by omega
     refine wp_region_b 16 (by kernel_rfl) (by kernel_rfl) ?_
     simp only [qqT, List.take_zero, qqD, List.drop_zero]
     iterate 16
       apply pc_step rfl
       · intro w4 hb4 K hK
         have hB4 := hT.bd.below hb4 hT.bd.lt
         have d0 : w4.cell? ⟨w.heap.size + 1, 0, none⟩ = some (.int .i64 sz) := hB4.cell 0
         go_wp2_with (fail)
         all_goals first | exact hb4 | exact hb4.trans (hb5.mono hb4.size) | exact hb4.trans (hd5.below.mono hb4.size)
       simp only [Act.put, qqS, qqC, qqZ]
     refine pc_nil ?_
     intro w4 hb4
     have hT4 := hT.call hb4
     clear hT d0 hb4
     obtain ⟨rk, hrk⟩ : ∃ rk, rk = (k : Int) % (sz * sz) := ⟨_, rfl⟩
     obtain ⟨dk, hdk⟩ : ∃ dk, dk = decide (sz * sz ≤ (k : Int)) := ⟨_, rfl⟩
     have hrk0 : 0 ≤ rk := by rw [hrk]; exact Int.emod_nonneg _ n4
     have hrk1 : rk < sz * sz := by rw [hrk]; exact Int.emod_lt_of_pos _ (by omega)
     rw [← hrk, ← hdk] at hq
     have hlt : decide ((k : Int) < 2 * (sz * sz)) = true := decide_eq_true (by omega)
     simp only [← hrk, ← hdk, hlt]
     clear hrk hdk
     have hq' := Lib.hid hq
     have e0 : w4.cell? ⟨w.heap.size, 0, none⟩ = some (.slice A lex.length c) := hT4.lx.cell 0
     go_wp2_with (fail)
     obtain ⟨wo, hwo⟩ : ∃ wo : World, wo = wr := ⟨_, rfl⟩
     go_loopw [8, 64] (fun o i wr => ∃ j : Nat, j ≤ lex.length ∧ i = .int .i64 j ∧ TI w A c lex.length sz bp bc gc X o (P0 ++ wordsP WI k (lex.take j)) wr ∧ (P0 ++ wordsP WI k (lex.take j)).length ≤ 400) (fun _ i _ => lex.length - (intOf i).toNat)
     case atStart => exact ⟨0, by omega, rfl, by simpa [wordsP] using hT4, by simpa [wordsP] using h400⟩
     case round =>
       clear hT4 e0 h400
       obtain ⟨j, hj, rfl, hT, h400⟩ := hrel
       by_cases hjl : j < lex.length
       · have hjj : (j : Int) < (lex.length : Int) := by omega
         obtain ⟨ad, rfl, hadb, hc⟩ := (hr.below hT.low).el hjl
         obtain ⟨s, q, ok, cm, ways, F, KF, c1, c2, c3, c4, c5, hwl, hres⟩ := hq'.out lex[j] (List.getElem_mem hjl)
         have hstep := Lib.hid (wordsP_step WI k lex j hjl)
         have hwle := wordsP_le WI k lex (j + 1)
         obtain ⟨word, hword⟩ : ∃ word, word = lex[j] := ⟨_, rfl⟩
         rw [← hword] at hc hres hstep c1
         clear hword
         rw [hres] at hstep
         clear hres
         have hadz : ad.block < wr.heap.size := Nat.lt_of_lt_of_le hadb hT.low.size
         have e0 : wr.cell? ⟨w.heap.size, 0, none⟩ = some (.slice (some ad) lex.length c) := hT.lx.cell 0
         go_wp2_with (fail)
         obtain ⟨qr, qc, qd, qw⟩ := q
         simp only [Pl.v] at c1 c4
         have hsz : sz ≠ 0 := by omega
         have hsz0 : 0 < sz := by omega
         have hrk2 : rk ≤ 225 := by omega
         have c2' := Lib.hid c2
         have c3' := Lib.hid c3
         have c4' := Lib.hid c4
         have c5' := Lib.hid c5
         have hr' := Lib.hid hr
         clear c2 c3 c4 c5 hr hvl hvb hvr hcn hq hq' e0 hc
         refine wp_region_v 12 20 (SN wr #[.int .i64 0, .int .i64 0, .bool false, .string ⟨#[]⟩] #[.int .i64 qr, .int .i64 qc, .bool qd, sv qw]) (by kernel_rfl) (by kernel_rfl) ⟨fun _ => undef, SN.start⟩ ?_
         simp only [qqT, List.take_zero, qqD, List.drop_zero]
         iterate 11
           apply pv_step (fun _ => rfl)
           · intro σ L w1 hS h1 h2 K hK
             clear h2
             have hB1 := hT.bd.below hS.low hT.bd.lt
             have d0 : w1.cell? ⟨w.heap.size + 1, 0, none⟩ = some (.int .i64 sz) := hB1.cell 0
             have d1 : w1.cell? ⟨w.heap.size + 1, 1, none⟩ = some (sv bp) := hB1.cell 1
             have d2 : w1.cell? ⟨w.heap.size + 1, 2, none⟩ = some (sv bc) := hB1.cell 2
             go_wp2
             exact hS.keep (by decide) (by decide)
           simp only [Act.put, qqS, qqC, qqZ]
         apply pv_step (v := .tuple #[sv s, .agg #[.int .i64 qr, .int .i64 qc, .bool qd, sv qw], .bool ok]) (fun _ => rfl)
         · intro σ L w1 hS h1 h2 K hK
           clear h2
           simp only [Act.put, qqS, qqC, qqZ] at hK
           go_wp2_with (go_at_call 209; refine (c1 _).mono ?_; rintro e w5 ⟨rfl, hb5⟩)
           exact (hS.call hb5).keep (by decide) (by decide)
         simp only [Act.put, qqS, qqC, qqZ]
         iterate 4
           apply pv_step (fun _ => rfl)
           · intro σ L w1 hS h1 h2 K hK
             clear h2
             have hB1 := hT.bd.below hS.low hT.bd.lt
             have d0 : w1.cell? ⟨w.heap.size + 1, 0, none⟩ = some (.int .i64 sz) := hB1.cell 0
             have d1 : w1.cell? ⟨w.heap.size + 1, 1, none⟩ = some (sv bp) := hB1.cell 1
             have d2 : w1.cell? ⟨w.heap.size + 1, 2, none⟩ = some (sv bc) := hB1.cell 2
             go_wp2
             exact hS.keep (by decide) (by decide)
           simp only [Act.put, qqS, qqC, qqZ]
         apply pv_free (fun _ => rfl)
         · intro σ L w1 hS h1 h2 K hK
           clear h2
           go_wp2
           exact hS.put h1 ((Below.refl _ _).alloc (Nat.le_refl _) _) ⟨_, rfl, hS.low.size, Blk.new _ _ _⟩
         simp only [Act.put, qqS, qqC, qqZ]
         apply pv_step (fun _ => rfl)
         · intro σ L w1 hS h1 h2 K hK
           clear h2
           go_wp2
           exact hS.keep (by decide) (by decide)
         simp only [Act.put, qqS, qqC, qqZ]
         apply pv_step (v := undef) (fun _ => rfl)
         · intro σ L w1 hS h1 h2 K hK
           have h0 := h2 16 (List.contains_iff_mem.1 (by kernel_rfl))
           clear h2
           obtain ⟨g, hg, hgl, hgb⟩ := hS.al h0
           have hfin := hS.set h1 h0 hg
           rw [h1] at hgb
           simp only [hg] at hK ⊢
           have f0 := hgb.frozen 0
           have f1 := hgb.frozen 1
           have f2 := hgb.frozen 2
           have f3 := hgb.frozen 3
           have x0 : w1.cell? ⟨g, 0, none⟩ = some (.int .i64 0) := hgb.cell 0
           have x1 : w1.cell? ⟨g, 1, none⟩ = some (.int .i64 0) := hgb.cell 1
           have x2 : w1.cell? ⟨g, 2, none⟩ = some (.bool false) := hgb.cell 2
           have x3 : w1.cell? ⟨g, 3, none⟩ = some (.string ⟨#[]⟩) := hgb.cell 3
           have lz := hgb.lt
           go_wp2
           exact hfin
         simp only [Act.put]
         apply pv_step (fun _ => rfl)
         · intro σ L w1 hS h1 h2 K hK
           clear h2
           go_wp2
           exact hS.keep (by decide) (by decide)
         simp only [Act.put, qqS, qqC, qqZ]
         refine pv_nil fun σ w1 hS => ?_
         obtain ⟨g16, e16, l16, b16⟩ := hS.al rfl
         have hT1 := hT.call hS.low
         have hz16 := hS.low.size
         clear hS
         simp only [e16]
         have b16' : Blk w1 g16 61 #[.int .i64 qr, .int .i64 qc, .bool qd, sv qw] := by simpa using b16
         have hn16 : ∀ x, u8.ownBlock = some x → x ≠ g16 := fun x hx => by have := (hT.own.lt x hx).2; omega
         clear b16 e16 hT
         cases ok
         · have hst2 : Hid (wordsP WI k (lex.take (j + 1)) = wordsP WI k (lex.take j)) := Lib.hid (by rw [hstep.out]; simp)
           go_wp2_with (fail)
           go_roundw
           case rel => exact ⟨j + 1, by omega, by go_num, by rw [hst2.out]; exact hT1, by rw [hst2.out]; exact h400⟩
           case measure => simp only [intOf]; omega
         · have hcn1 := hT1.cn
           cases cm
           · have hst2 : Hid (wordsP WI k (lex.take (j + 1)) = wordsP WI k (lex.take j)) := Lib.hid (by rw [hstep.out]; simp)
             go_wp2_with (first
               | (refine BigFrame.wpList_want rfl fun K hK => wp_load_row 223 (.tmp 9) rfl gc rfl 223 X (0, 0) _ hcn1 Tryz.underlying223 rfl (by rw [hs27.out]; kernel_rfl) (hK _ _ ?_))
               | (go_at_call 210; refine (c2'.out rfl _).mono ?_; rintro e w5 ⟨rfl, hb5⟩))
             go_roundw
             case rel => exact ⟨j + 1, by omega, by go_num, by rw [hst2.out]; exact hT1.call hb5, by rw [hst2.out]; exact h400⟩
             case measure => simp only [intOf]; omega
           · have hst2 : Hid (wordsP WI k (lex.take (j + 1)) = wordsP WI k (lex.take j) ++ (ways.map F).filter (fun p => KF p == 0)) := Lib.hid (by rw [hstep.out]; simp)
             go_wp2_with (first
               | (refine BigFrame.wpList_want rfl fun K hK => wp_load_row 223 (.tmp 9) rfl gc rfl 223 X (0, 0) _ hcn1 Tryz.underlying223 rfl (by rw [hs27.out]; kernel_rfl) (hK _ _ ?_))
               | (refine wpList_load_row rfl 223 (.tmp 9) rfl gc rfl 223 X (0, 0) _ hcn5 Tryz.underlying223 rfl (by rw [hs27.out]; kernel_rfl) ?_)
               | (go_at_call 210; refine (c2'.out rfl _).mono ?_; rintro e w5 ⟨rfl, hb5⟩; have hcn5 := (hT1.call hb5).cn)
               | (go_at_call 211; refine (c3'.out rfl _).mono ?_; rintro e w6 ⟨v6, rfl, own6, hb6⟩; obtain ⟨A6, n6, rfl, hn6, -⟩ := own_sl own6))
             have hT6 := (hT1.call hb5).call hb6
             have b6 := (b16'.below hb5 b16'.lt).below hb6 (b16'.below hb5 b16'.lt).lt
             obtain ⟨B6, hB6⟩ : ∃ B6, B6 = w5.heap.size := ⟨_, rfl⟩
             rw [← hB6] at own6
             clear hcn1 hcn5 hB6 hb5 hb6 hT1 b16' c2' c3' hstep c1 hn6 l16 hz16
             have hfs := Lib.hid (filt_step F KF ways)
             have hfl : ∀ t, (((ways.take t).map F).filter fun p => KF p == 0).length ≤ ways.length := fun t => by
               refine Nat.le_trans (List.length_filter_le _ _) ?_
               rw [List.length_map, List.length_take]
               omega
             have hfl' := Lib.hid hfl
             have hfe : Hid (((ways.take ways.length).map F).filter (fun p => KF p == 0) = (ways.map F).filter (fun p => KF p == 0)) := Lib.hid (by rw [List.take_length])
             obtain ⟨FF, hFF⟩ : ∃ FF : List Str → List Pl, FF = fun l => (l.map F).filter fun p => KF p == 0 := ⟨_, rfl⟩
             have hFx : ∀ l, (l.map F).filter (fun p => KF p == 0) = FF l := fun l => by rw [hFF]
             simp only [hFx] at hfs hfl' hfe hst2
             have hf0 : FF (ways.take 0) = [] := by rw [hFF]; rfl
             clear hFx hFF hfl
             obtain ⟨P1, hP1⟩ : ∃ P1, P1 = P0 ++ wordsP WI k (lex.take j) := ⟨_, rfl⟩
             rw [← hP1] at hT6 h400
             obtain ⟨wo, hwo⟩ : ∃ wo : World, wo = wr := ⟨_, rfl⟩
             go_loopw [8, 96] (fun o i wr => ∃ t : Nat, t ≤ ways.length ∧ i = .int .i64 t ∧ TI w (some ad) c lex.length sz bp bc gc X o (P1 ++ FF (ways.take t)) wr ∧ Blk wr g16 61 #[.int .i64 qr, .int .i64 qc, .bool qd, sv qw] ∧ (∀ x, o.ownBlock = some x → x ≠ g16) ∧ wr.ownsRow B6 9 1 (.slice A6 ways.length n6) ways.length (ways.map sv)) (fun _ i _ => ways.length - (intOf i).toNat)
             case atStart => exact ⟨0, by omega, rfl, by rw [hf0, List.append_nil]; exact hT6, b6, hn16, own6⟩
             case round =>
               clear hT6 b6 hn16 own6 hf0
               obtain ⟨t, ht, rfl, hT, hb16, hn16, own6⟩ := hrel
               by_cases htl : t < ways.length
               · have htt : (t : Int) < (ways.length : Int) := by omega
                 obtain ⟨ad6, rfl, hadb6, hc6⟩ := (Reads.of_own own6).el htl
                 have c4x := c4'.out rfl ways[t] (List.getElem_mem htl)
                 have c5x := c5'.out rfl ways[t] (List.getElem_mem htl)
                 have hfs1 := Lib.hid (hfs.out t htl)
                 have hfl1 := hfl'.out t
                 obtain ⟨x, hx⟩ : ∃ x, x = ways[t] := ⟨_, rfl⟩
                 rw [← hx] at c4x c5x hfs1 hc6
                 clear hx
                 obtain ⟨p, hp⟩ : ∃ p, p = F x := ⟨_, rfl⟩
                 rw [← hp] at c4x c5x hfs1
                 clear hp
                 obtain ⟨pr, pc, pd, pw⟩ := p
                 obtain ⟨kv, hkv⟩ : ∃ kv, kv = KF ⟨pr, pc, pd, pw⟩ := ⟨_, rfl⟩
                 rw [← hkv] at c5x hfs1
                 clear hkv
                 simp only [Pl.v] at c4x c5x
                 obtain ⟨P2, hP2⟩ : ∃ P2, P2 = FF (ways.take t) := ⟨_, rfl⟩
                 rw [← hP2] at hT hfs1 hfl1
                 clear hP2
                 have hPl : (P1 ++ P2).length + 1 ≤ 1099511627776 := by rw [List.length_append]; omega
                 have d0 : wr.cell? ⟨w.heap.size + 1, 0, none⟩ = some (.int .i64 sz) := hT.bd.cell 0
                 have d1 : wr.cell? ⟨w.heap.size + 1, 1, none⟩ = some (sv bp) := hT.bd.cell 1
                 have d2 : wr.cell? ⟨w.heap.size + 1, 2, none⟩ = some (sv bc) := hT.bd.cell 2
                 have g0 : wr.cell? ⟨g16, 0, none⟩ = some (.int .i64 qr) := hb16.cell 0
                 have g1 : wr.cell? ⟨g16, 1, none⟩ = some (.int .i64 qc) := hb16.cell 1
                 have g2 : wr.cell? ⟨g16, 2, none⟩ = some (.bool qd) := hb16.cell 2
                 have g3 : wr.cell? ⟨g16, 3, none⟩ = some (sv qw) := hb16.cell 3
                 by_cases hk0 : kv = 0
                 · subst hk0
                   have hfs2 : Hid (P1 ++ FF (ways.take (t + 1)) = (P1 ++ P2) ++ [⟨pr, pc, pd, pw⟩]) := Lib.hid (by rw [hfs1.out, if_pos rfl, List.append_assoc])
                   have hlit := run_lit1 playT (.agg #[.int .i64 pr, .int .i64 pc, .bool pd, sv pw]) #[.int .i64 pr, .int .i64 pc, .bool pd, sv pw] rfl rfl (by omega)
                   go_wp2_with (first
                     | (go_at_call 212; refine (c4x _).mono ?_; rintro e w7 ⟨rfl, hb7⟩
                        have hT7 := hT.call hb7
                        have hd7 := hT7.bd
                        have hl7 := hT7.lx
                        have d0 : w7.cell? ⟨w.heap.size + 1, 0, none⟩ = some (.int .i64 sz) := hd7.cell 0
                        have d1 : w7.cell? ⟨w.heap.size + 1, 1, none⟩ = some (sv bp) := hd7.cell 1
                        have d2 : w7.cell? ⟨w.heap.size + 1, 2, none⟩ = some (sv bc) := hd7.cell 2
                        have e0 : w7.cell? ⟨w.heap.size, 0, none⟩ = some (.slice (some ad) lex.length c) := hl7.cell 0
                        have hz7 : w.heap.size + 1 < w7.heap.size := hd7.lt
                        have hz8 : w.heap.size < w7.heap.size := hl7.lt
                        have hn7 : w.heap.size + 1 ≠ w7.heap.size := by omega
                        have hn8 : w.heap.size ≠ w7.heap.size := by omega
                        obtain ⟨W8, hW8⟩ : ∃ W8, W8 = w7.alloc (.cells #[.int .i64 pr, .int .i64 pc, .bool pd, sv pw] 61) := ⟨_, rfl⟩
                        have hb8 : Below wr.heap.size wr W8 := by rw [hW8]; exact hb7.alloc hb7.size _
                        have hk8 : Blk W8 w7.heap.size 61 #[.int .i64 pr, .int .i64 pc, .bool pd, sv pw] := by rw [hW8]; exact Blk.new w7 _ _)
                     | (go_at_call 92; rw [← hW8]; refine (c5x _ (hT.low.trans (hb8.mono hT.low.size))).mono ?_; rintro e w9 ⟨rfl, hb9⟩
                        have hk9 := hk8.below hb9 hk8.lt
                        have y0 : w9.cell? ⟨w7.heap.size, 0, none⟩ = some (.int .i64 pr) := hk9.cell 0
                        have y1 : w9.cell? ⟨w7.heap.size, 1, none⟩ = some (.int .i64 pc) := hk9.cell 1
                        have y2 : w9.cell? ⟨w7.heap.size, 2, none⟩ = some (.bool pd) := hk9.cell 2
                        have y3 : w9.cell? ⟨w7.heap.size, 3, none⟩ = some (sv pw) := hk9.cell 3
                        have hT9 := (hT.call hb8).call hb9
                        have hz9 : w.heap.size + 2 ≤ w9.heap.size := hT9.bd.lt)
                     | (at_builtin; refine wpList_app playT rfl (.tmp 110) (.tmp 112) rfl _ (P1 ++ P2).length _ rfl (w.heap.size + 2) hT9.own [.int .i64 pr, .int .i64 pc, .bool pd, sv pw] rfl (by simp [Value.oneCell', sv]) rfl hPl (by omega) hz9 ?_; intro v10 w10 own10 hg10 hat10))
                   have hc9 := (hb16.below hb8 hb16.lt).below hb9 (hb16.below hb8 hb16.lt).lt
                   go_roundw
                   case rel => exact ⟨t + 1, by omega, by go_num, by rw [hfs2.out]; exact hT9.grow own10 hg10, hc9.grown hg10 (fun e => hn16 _ e.symm rfl), fun z hz => by
                     rcases hat10 with e | e
                     · exact hn16 z (e ▸ hz)
                     · rw [e] at hz; injection hz with hz; have := hc9.lt; omega, own_grown (own_call (own_call own6 hb8) hb9) hT9.own (by decide) hg10⟩
                   case measure => simp only [intOf]; omega
                 · have hfs2 : Hid (P1 ++ FF (ways.take (t + 1)) = P1 ++ P2) := Lib.hid (by rw [hfs1.out, if_neg hk0])
                   go_wp2_with (first
                     | (go_at_call 212; refine (c4x _).mono ?_; rintro e w7 ⟨rfl, hb7⟩
                        have hT7 := hT.call hb7
                        have hd7 := hT7.bd
                        have hl7 := hT7.lx
                        have d0 : w7.cell? ⟨w.heap.size + 1, 0, none⟩ = some (.int .i64 sz) := hd7.cell 0
                        have d1 : w7.cell? ⟨w.heap.size + 1, 1, none⟩ = some (sv bp) := hd7.cell 1
                        have d2 : w7.cell? ⟨w.heap.size + 1, 2, none⟩ = some (sv bc) := hd7.cell 2
                        have e0 : w7.cell? ⟨w.heap.size, 0, none⟩ = some (.slice (some ad) lex.length c) := hl7.cell 0
                        have hz7 : w.heap.size + 1 < w7.heap.size := hd7.lt
                        have hz8 : w.heap.size < w7.heap.size := hl7.lt
                        have hn7 : w.heap.size + 1 ≠ w7.heap.size := by omega
                        have hn8 : w.heap.size ≠ w7.heap.size := by omega
                        obtain ⟨W8, hW8⟩ : ∃ W8, W8 = w7.alloc (.cells #[.int .i64 pr, .int .i64 pc, .bool pd, sv pw] 61) := ⟨_, rfl⟩
                        have hb8 : Below wr.heap.size wr W8 := by rw [hW8]; exact hb7.alloc hb7.size _
                        have hk8 : Blk W8 w7.heap.size 61 #[.int .i64 pr, .int .i64 pc, .bool pd, sv pw] := by rw [hW8]; exact Blk.new w7 _ _)
                     | (go_at_call 92; rw [← hW8]; refine (c5x _ (hT.low.trans (hb8.mono hT.low.size))).mono ?_; rintro e w9 ⟨rfl, hb9⟩
                        have hk9 := hk8.below hb9 hk8.lt
                        have y0 : w9.cell? ⟨w7.heap.size, 0, none⟩ = some (.int .i64 pr) := hk9.cell 0
                        have y1 : w9.cell? ⟨w7.heap.size, 1, none⟩ = some (.int .i64 pc) := hk9.cell 1
                        have y2 : w9.cell? ⟨w7.heap.size, 2, none⟩ = some (.bool pd) := hk9.cell 2
                        have y3 : w9.cell? ⟨w7.heap.size, 3, none⟩ = some (sv pw) := hk9.cell 3
                        have hT9 := (hT.call hb8).call hb9
                        have hz9 : w.heap.size + 2 ≤ w9.heap.size := hT9.bd.lt))
                   have hc9 := (hb16.below hb8 hb16.lt).below hb9 (hb16.below hb8 hb16.lt).lt
                   go_roundw
                   case rel => exact ⟨t + 1, by omega, by go_num, by rw [hfs2.out]; exact hT9, hc9, hn16, own_call (own_call own6 hb8) hb9⟩
                   case measure => simp only [intOf]; omega
               · obtain rfl : t = ways.length := by omega
                 have hnext : Hid (P0 ++ wordsP WI k (lex.take (j + 1)) = P1 ++ FF (ways.take ways.length)) := Lib.hid (by rw [hst2.out, hfe.out, hP1, List.append_assoc])
                 rw [← hnext.out] at hT
                 obtain ⟨P3, hP3⟩ : ∃ P3, P3 = P0 ++ wordsP WI k (lex.take (j + 1)) := ⟨_, rfl⟩
                 rw [← hP3] at hT
                 obtain ⟨Ao, no, rfl, -⟩ := own_sl hT.own
                 have hbb : 400 < P3.length → 400 < (placesP WI lex N).length := fun hbg => by
                   rw [hall.out, List.length_append] at hle
                   rw [hP3, List.length_append] at hbg
                   omega
                 have hl3 : P3.length = P0.length + (wordsP WI k (lex.take (j + 1))).length := by rw [hP3, List.length_append]
                 go_wp2_with (fail)
                 · exact hbig.out (hbb (by omega)) _ hT.low
                 · go_roundw
                   case rel => exact ⟨j + 1, by omega, by go_num, by rw [← hP3]; exact hT, by rw [← hP3]; omega⟩
                   case measure => simp only [intOf]; omega
       · obtain rfl : j = lex.length := by omega
         have hnext : Hid (P0 ++ wordsP WI k (lex.take lex.length) = placesP WI lex (k + 1)) := Lib.hid (by rw [hall.out, List.take_length])
         rw [hnext.out] at hT h400
         go_wp2_with (fail)
         go_roundw
         case rel => exact ⟨k + 1, by omega, by go_num, hT, h400⟩
         case measure => simp only [intOf]; omega
   · obtain rfl : k = N := by omega
     have hno : ¬ (k : Int) < 2 * (sz * sz) := by omega
     go_wp2_with (go_at_call 213; refine (hsort'.out _ _ _ _ (by omega) hT.own).mono ?_; rintro e w9 ⟨rfl, ps', hperm, own9, hg9⟩)
     exact hend.out (by omega) _ ps' _ hperm (own_base own9 (by omega)) (Below.own hT.low hT.low.size hT.own (by omega) hg9)
set_option maxHeartbeats 1000000
def cmpZ (a b : Int) : Int := if a < b then -1 else if b < a then 1 else 0
def cmpT (a b : Str) : Int := if sLt a b then -1 else if sLt b a then 1 else 0
theorem isNaN_int (a : Int) (w : World) : Calls Tryz.prog 349 #[.int .i64 a] w fun e w' => e = .returned (.bool false) ∧ w' = w := by
 go_enter Tryz.func349, Tryz.ntmps349
 go_wp2_with (fail)
 go_ret
 exact ⟨ret_bool (by simp), rfl⟩
theorem isNaN_str (a : Str) (w : World) : Calls Tryz.prog 350 #[sv a] w fun e w' => e = .returned (.bool false) ∧ w' = w := by
 go_enter Tryz.func350, Tryz.ntmps350
 go_wp2_with (fail)
 go_ret
 exact ⟨ret_bool (by simp), rfl⟩
theorem cmpInt_any (a b : Int) (w : World) : Calls Tryz.prog 325 #[.int .i64 a, .int .i64 b] w fun e w' => e = .returned (.int .i64 (cmpZ a b)) ∧ w' = w := by
 by_cases h1 : a < b
 · have hr : cmpZ a b = -1 := by rw [cmpZ, if_pos h1]
   rw [hr]
   go_enter Tryz.func325, Tryz.ntmps325
   go_wp2_with (go_at_call 349; refine (isNaN_int _ _).mono ?_; rintro e w1 ⟨rfl, rfl⟩)
   go_ret
   exact ⟨rfl, rfl⟩
 · by_cases h2 : b < a
   · have hr : cmpZ a b = 1 := by rw [cmpZ, if_neg h1, if_pos h2]
     rw [hr]
     go_enter Tryz.func325, Tryz.ntmps325
     go_wp2_with (go_at_call 349; refine (isNaN_int _ _).mono ?_; rintro e w1 ⟨rfl, rfl⟩)
     go_ret
     exact ⟨rfl, rfl⟩
   · have hr : cmpZ a b = 0 := by rw [cmpZ, if_neg h1, if_neg h2]
     rw [hr]
     go_enter Tryz.func325, Tryz.ntmps325
     go_wp2_with (go_at_call 349; refine (isNaN_int _ _).mono ?_; rintro e w1 ⟨rfl, rfl⟩)
     go_ret
     exact ⟨rfl, rfl⟩
theorem cmpStr_any (a b : Str) (w : World) : Calls Tryz.prog 326 #[sv a, sv b] w fun e w' => e = .returned (.int .i64 (cmpT a b)) ∧ w' = w := by
 cases h1 : sLt a b
 · have h1' : Op.bytesLess a b = false := h1
   cases h2 : sLt b a
   · have hab : a = b := by
       rw [sLt_no] at h1 h2
       exact List.le_antisymm h2 h1
     subst hab
     have hq : (a == a) = true := by simp
     have hr : cmpT a a = 0 := by rw [cmpT, h1]; rfl
     rw [hr]
     go_enter Tryz.func326, Tryz.ntmps326
     go_wp2_with (go_at_call 350; refine (isNaN_str _ _).mono ?_; rintro e w1 ⟨rfl, rfl⟩)
     go_ret
     exact ⟨rfl, rfl⟩
   · have hq : (a == b) = false := by
       rw [beq_eq_false_iff_ne]
       rintro rfl
       rw [h1] at h2; cases h2
     have hr : cmpT a b = 1 := by rw [cmpT, h1, h2]; rfl
     rw [hr]
     go_enter Tryz.func326, Tryz.ntmps326
     go_wp2_with (go_at_call 350; refine (isNaN_str _ _).mono ?_; rintro e w1 ⟨rfl, rfl⟩)
     go_ret
     exact ⟨rfl, rfl⟩
 · have h1' : Op.bytesLess a b = true := h1
   have hr : cmpT a b = -1 := by rw [cmpT, h1]; rfl
   rw [hr]
   go_enter Tryz.func326, Tryz.ntmps326
   go_wp2_with (go_at_call 350; refine (isNaN_str _ _).mono ?_; rintro e w1 ⟨rfl, rfl⟩)
   go_ret
   exact ⟨rfl, rfl⟩
def orZ : List Int → Int
 | [] => 0
 | x :: r => if x = 0 then orZ r else x
theorem cmpOr_any (A : Option Addr) (c : Nat) (xs : List Int) (w : World) (hl : xs.length ≤ 100) (hr : Reads w w.heap.size 1 A xs.length (xs.map fun x => .int .i64 x)) :
   Calls Tryz.prog 324 #[.slice A xs.length c] w fun e w' => e = .returned (.int .i64 (orZ xs)) ∧ w' = w := by
 obtain ⟨R, hR⟩ : ∃ R, R = orZ xs := ⟨_, rfl⟩
 have hR' := Lib.hid hR
 rw [← hR]
 clear hR
 go_enter Tryz.func324, Tryz.ntmps324
 go_wp2_with (fail)
 go_loopw [8] (fun i wr => ∃ k : Nat, k ≤ xs.length ∧ i = .int .i64 k ∧ Hid (R = orZ (xs.drop k)) ∧ wr = w) (fun i _ => xs.length - (intOf i).toNat)
 case atStart => exact ⟨0, by omega, rfl, Lib.hid (by rw [hR'.out]; rfl), rfl⟩
 case round =>
   obtain ⟨k, hk, rfl, he, rfl⟩ := hrel
   by_cases hkl : k < xs.length
   · obtain ⟨ad, rfl, hadb, hc⟩ := hr.el hkl
     have hkk : (k : Int) < (xs.length : Int) := by omega
     have hst : Hid (R = if xs[k] = 0 then orZ (xs.drop (k + 1)) else xs[k]) := Lib.hid (by rw [he.out, drop_cons xs k hkl]; rfl)
     obtain ⟨x, hx⟩ : ∃ x, x = xs[k] := ⟨_, rfl⟩
     rw [← hx] at hst
     have hc' : wr.cell? (ad.add k) = some (.int .i64 x) := by rw [hx]; exact hc
     clear hx hc
     by_cases hz : x = 0
     · subst hz
       go_wp2_with (fail)
       go_roundw
       case rel => exact ⟨k + 1, by omega, by go_num, Lib.hid (by rw [hst.out, if_pos rfl]), trivial⟩
       case measure => simp [intOf]; omega
     · have hz' : (x != 0) = true := by rw [bne_iff_ne]; exact hz
       go_wp2_with (fail)
       go_ret
       exact ⟨ret_int (by rw [hst.out, if_neg hz]), rfl⟩
   · obtain rfl : k = xs.length := by omega
     have hkk : ¬ (xs.length : Int) < (xs.length : Int) := by omega
     have hR0 : Hid (R = 0) := Lib.hid (by rw [he.out, List.drop_length]; rfl)
     go_wp2_with (fail)
     go_ret
     exact ⟨ret_int hR0.out.symm, rfl⟩
set_option maxHeartbeats 2000000
def dnZ (a b : Bool) : Int := if a = b then 0 else if a then 1 else -1
def cmpP (a b : Pl) : Int := orZ [dnZ a.down b.down, cmpZ a.row b.row, cmpZ a.col b.col, cmpT a.word b.word]
theorem comparePlays_impl (a b : Pl) (w : World) : Calls Tryz.prog 285 #[a.v, b.v] w fun e w' => e = .returned (.int .i64 (cmpP a b)) ∧ ∃ o1, w' = (((w.alloc (.cells #[.int .i64 a.row, .int .i64 a.col, .bool a.down, sv a.word] 61)).alloc (.cells #[.int .i64 b.row, .int .i64 b.col, .bool b.down, sv b.word] 61)).alloc o1).drew := by
 have hdef : cmpP a b = orZ [dnZ a.down b.down, cmpZ a.row b.row, cmpZ a.col b.col, cmpT a.word b.word] := rfl
 obtain ⟨ar, ac, ad, aw⟩ := a
 obtain ⟨br, bc, bd, bw⟩ := b
 simp only [Pl.v] at *
 have k1 := fun w => cmpInt_any ar br w
 have k2 := fun w => cmpInt_any ac bc w
 have k3 := fun w => cmpStr_any aw bw w
 have ko := fun (A : Option Addr) (c : Nat) (W : World) hr => cmpOr_any A c [dnZ ad bd, cmpZ ar br, cmpZ ac bc, cmpT aw bw] W (by simp) hr
 obtain ⟨R, hR⟩ : ∃ R, R = cmpP ⟨ar, ac, ad, aw⟩ ⟨br, bc, bd, bw⟩ := ⟨_, rfl⟩
 rw [← hR] at hdef ⊢
 rw [← hdef] at ko
 obtain ⟨z1, hz1⟩ : ∃ z, z = cmpZ ar br := ⟨_, rfl⟩
 obtain ⟨z2, hz2⟩ : ∃ z, z = cmpZ ac bc := ⟨_, rfl⟩
 obtain ⟨z3, hz3⟩ : ∃ z, z = cmpT aw bw := ⟨_, rfl⟩
 rw [← hz1] at k1 ko
 rw [← hz2] at k2 ko
 rw [← hz3] at k3 ko
 clear hz1 hz2 hz3 hR hdef
 obtain ⟨dz, hdz⟩ : ∃ z, z = dnZ ad bd := ⟨_, rfl⟩
 rw [← hdz] at ko
 have hdz' := Lib.hid hdz
 clear hdz
 obtain ⟨W, hW⟩ : ∃ W, W = (w.alloc (.cells #[.int .i64 ar, .int .i64 ac, .bool ad, sv aw] 61)).alloc (.cells #[.int .i64 br, .int .i64 bc, .bool bd, sv bw] 61) := ⟨_, rfl⟩
 have hA : Blk W w.heap.size 61 #[.int .i64 ar, .int .i64 ac, .bool ad, sv aw] := by rw [hW]; exact (Blk.new w _ _).alloc _
 have hB : Blk W (w.heap.size + 1) 61 #[.int .i64 br, .int .i64 bc, .bool bd, sv bw] := by rw [hW]; exact Blk.new1 w _ _ _
 have a0 : W.cell? ⟨w.heap.size, 0, none⟩ = some (.int .i64 ar) := hA.cell 0
 have a1 : W.cell? ⟨w.heap.size, 1, none⟩ = some (.int .i64 ac) := hA.cell 1
 have a3 : W.cell? ⟨w.heap.size, 3, none⟩ = some (sv aw) := hA.cell 3
 have b0 : W.cell? ⟨w.heap.size + 1, 0, none⟩ = some (.int .i64 br) := hB.cell 0
 have b1 : W.cell? ⟨w.heap.size + 1, 1, none⟩ = some (.int .i64 bc) := hB.cell 1
 have b3 : W.cell? ⟨w.heap.size + 1, 3, none⟩ = some (sv bw) := hB.cell 3
 cases ad <;> cases bd
 all_goals
   go_enter Tryz.func285, Tryz.ntmps285
   go_wp2_with (fail)
   rw [← hW]
   first | (have e : dz = 0 := hdz'.out) | (have e : dz = 1 := hdz'.out) | (have e : dz = -1 := hdz'.out)
   subst e
   have hW' := Lib.hid hW
   clear hW hA hB
   refine wp_region_l 12 16 (fun _ w' => w' = W.drew) (by kernel_rfl) (by kernel_rfl) rfl ?_
   simp only [qqT, List.take_zero, qqD, List.drop_zero]
   iterate 16
     apply pl_step rfl
     · intro L w1 hS h1 h2 K hK
       clear h1 h2
       have hS : w1 = W.drew := hS
       subst hS
       go_wp2_with (first
         | (go_at_call 325; (with_reducible refine (k1 _).mono ?_); rintro e w5 ⟨rfl, rfl⟩)
         | (go_at_call 325; (with_reducible refine (k2 _).mono ?_); rintro e w5 ⟨rfl, rfl⟩)
         | (go_at_call 326; (with_reducible refine (k3 _).mono ?_); rintro e w5 ⟨rfl, rfl⟩))
       rfl
     simp only [Act.put, qqS, qqC, qqZ]
   refine pl_nil ?_
   intro w1 hS
   have hS : w1 = W.drew := hS
   subst hS
   go_wp2_with (go_at_call 324; refine (ko _ _ _ (Reads.of_own (World.ownsRow_lit (base := W.heap.size) (size := 1) (e := 3) W #[.int .i64 _, .int .i64 z1, .int .i64 z2, .int .i64 z3] 4 (Nat.le_refl _) (by unfold maxLen; omega) rfl)).drew).mono ?_; rintro e w5 ⟨rfl, rfl⟩)
   go_ret
   exact ⟨rfl, _, by rw [hW'.out]⟩
end Go.Proofs.YtdkckikobefekaaGreatDoor
namespace Go.Proofs.YtdkckikobefekaaGreatDoor
open Go.RowKit Go.Sort RegP RegL RegV
set_option maxHeartbeats 2000000
set_option maxRecDepth 100000
theorem comparePlays_any (a b : Pl) (w : World) : Calls Tryz.prog 214 #[a.v, b.v] w fun e w' => e = .returned (.int .i64 (cmpP a b)) ∧ ∃ q os, w' = grow (w.drewN q) os := by
 have k1 := fun w => comparePlays_impl a b w
 obtain ⟨R, hR⟩ : ∃ R, R = cmpP a b := ⟨_, rfl⟩
 rw [← hR] at k1 ⊢
 clear hR
 obtain ⟨ar, ac, ad, aw⟩ := a
 obtain ⟨br, bc, bd, bw⟩ := b
 simp only [Pl.v] at *
 go_enter Tryz.func214, Tryz.ntmps214
 go_wp2_with (go_at_call 285; refine (k1 _).mono ?_; rintro e w1 ⟨rfl, o1, rfl⟩)
 go_ret
 refine ⟨rfl, 1, #[.cells #[.int .i64 ar, .int .i64 ac, .bool ad, sv aw] 61, .cells #[.int .i64 br, .int .i64 bc, .bool bd, sv bw] 61, .cells #[.int .i64 ar, .int .i64 ac, .bool ad, sv aw] 61, .cells #[.int .i64 br, .int .i64 bc, .bool bd, sv bw] 61, o1], ?_⟩
 simp only [alloc_eq_grow, grow_grow]
 rfl
/-! ### The order -/
theorem cmpZ_zero {a b : Int} : cmpZ a b = 0 ↔ a = b := by unfold cmpZ; split <;> (try split) <;> omega
theorem cmpT_zero {a b : Str} : cmpT a b = 0 ↔ a = b := by
 unfold cmpT
 constructor
 · intro h
   split at h
   · omega
   · split at h
     · omega
     · rename_i h1 h2
       rw [Bool.not_eq_true, sLt_no] at h1 h2
       exact List.le_antisymm h2 h1
 · rintro rfl
   have : sLt a a = false := by rw [sLt_no]; exact List.le_refl _
   simp [this]
theorem cmpT_lt {a b : Str} : cmpT a b < 0 ↔ a < b := by
 unfold cmpT
 rw [← sLt_iff]
 cases h : sLt a b
 · simp; split <;> omega
 · simp
theorem cmpZ_lt {a b : Int} : cmpZ a b < 0 ↔ a < b := by unfold cmpZ; split <;> (try split) <;> omega
theorem dnZ_zero {a b : Bool} : dnZ a b = 0 ↔ a = b := by cases a <;> cases b <;> simp [dnZ]
theorem dnZ_lt {a b : Bool} : dnZ a b < 0 ↔ (a = false ∧ b = true) := by cases a <;> cases b <;> simp [dnZ]
theorem cmpP_lt (a b : Pl) : cmpP a b < 0 ↔ (a.down = false ∧ b.down = true) ∨ (a.down = b.down ∧ (a.row < b.row ∨ (a.row = b.row ∧ (a.col < b.col ∨ (a.col = b.col ∧ a.word < b.word))))) := by
 unfold cmpP
 simp only [orZ]
 by_cases h1 : dnZ a.down b.down = 0
 · rw [if_pos h1]
   have e1 := dnZ_zero.1 h1
   by_cases h2 : cmpZ a.row b.row = 0
   · rw [if_pos h2]
     have e2 := cmpZ_zero.1 h2
     by_cases h3 : cmpZ a.col b.col = 0
     · rw [if_pos h3]
       have e3 := cmpZ_zero.1 h3
       by_cases h4 : cmpT a.word b.word = 0
       · rw [if_pos h4]
         have e4 := cmpT_zero.1 h4
         simp [e1, e2, e3, e4]
       · rw [if_neg h4, cmpT_lt]; simp [e1, e2, e3]
     · rw [if_neg h3, cmpZ_lt]
       have n3 : a.col ≠ b.col := fun e => h3 (cmpZ_zero.2 e)
       simp [e1, e2, n3]
   · rw [if_neg h2, cmpZ_lt]
     have n2 : a.row ≠ b.row := fun e => h2 (cmpZ_zero.2 e)
     simp [e1, n2]
 · rw [if_neg h1, dnZ_lt]
   have n1 : a.down ≠ b.down := fun e => h1 (dnZ_zero.2 e)
   simp [n1]
theorem ltP_tri (x y : Pl) (h1 : ltOf cmpP x y = false) (h2 : ltOf cmpP y x = false) : x = y := by
 unfold ltOf at h1 h2
 rw [decide_eq_false_iff_not, cmpP_lt] at h1 h2
 have hd : x.down = y.down := by
   cases hx : x.down <;> cases hy : y.down
   · rfl
   · exact absurd (.inl ⟨hx, hy⟩) h1
   · exact absurd (.inl ⟨hy, hx⟩) h2
   · rfl
 have h1' : ¬(x.row < y.row ∨ (x.row = y.row ∧ (x.col < y.col ∨ (x.col = y.col ∧ x.word < y.word)))) := fun h => h1 (.inr ⟨hd, h⟩)
 have h2' : ¬(y.row < x.row ∨ (y.row = x.row ∧ (y.col < x.col ∨ (y.col = x.col ∧ y.word < x.word)))) := fun h => h2 (.inr ⟨hd.symm, h⟩)
 have hr : x.row = y.row := by
   have a : ¬ x.row < y.row := fun h => h1' (.inl h)
   have b : ¬ y.row < x.row := fun h => h2' (.inl h)
   omega
 have hc : x.col = y.col := by
   have a : ¬ x.col < y.col := fun h => h1' (.inr ⟨hr, .inl h⟩)
   have b : ¬ y.col < x.col := fun h => h2' (.inr ⟨hr.symm, .inl h⟩)
   omega
 have hw : x.word = y.word := by
   have a : ¬ x.word < y.word := fun h => h1' (.inr ⟨hr, .inr ⟨hc, h⟩⟩)
   have b : ¬ y.word < x.word := fun h => h2' (.inr ⟨hr.symm, .inr ⟨hc.symm, h⟩⟩)
   exact List.le_antisymm (List.not_lt.1 b) (List.not_lt.1 a)
 cases x; cases y
 simp only at hd hr hc hw
 rw [hd, hr, hc, hw]
theorem ltP_trans (x y z : Pl) (h1 : ltOf cmpP x y = true) (h2 : ltOf cmpP y z = true) : ltOf cmpP x z = true := by
 unfold ltOf at *
 rw [decide_eq_true_eq, cmpP_lt] at *
 rcases h1 with ⟨a, b⟩ | ⟨a, h1⟩
 · rcases h2 with ⟨c, d⟩ | ⟨c, h2⟩
   · rw [b] at c; cases c
   · exact .inl ⟨a, by rw [← c]; exact b⟩
 · rcases h2 with ⟨c, d⟩ | ⟨c, h2⟩
   · exact .inl ⟨by rw [a]; exact c, d⟩
   · refine .inr ⟨a.trans c, ?_⟩
     rcases h1 with h1 | ⟨e1, h1⟩
     · rcases h2 with h2 | ⟨e2, h2⟩
       · exact .inl (by omega)
       · exact .inl (by omega)
     · rcases h2 with h2 | ⟨e2, h2⟩
       · exact .inl (by omega)
       · refine .inr ⟨by omega, ?_⟩
         rcases h1 with h1 | ⟨f1, h1⟩
         · rcases h2 with h2 | ⟨f2, h2⟩
           · exact .inl (by omega)
           · exact .inl (by omega)
         · rcases h2 with h2 | ⟨f2, h2⟩
           · exact .inl (by omega)
           · exact .inr ⟨by omega, List.lt_trans h1 h2⟩
theorem ltP_swo : SWO (ltOf cmpP) := by
 refine ⟨fun x => ?_, fun x y z h1 h2 => ?_, fun x y z h1 h2 => ?_⟩
 · unfold ltOf
   rw [decide_eq_false_iff_not, cmpP_lt]
   intro h
   rcases h with ⟨a, b⟩ | ⟨_, h | ⟨_, h | ⟨_, h⟩⟩⟩
   · rw [a] at b; cases b
   · omega
   · omega
   · exact List.lt_irrefl _ h
 · exact ltP_trans x y z h1 h2
 · cases h : ltOf cmpP x z
   · rfl
   · exfalso
     cases g : ltOf cmpP y x
     · have e := ltP_tri x y h1 g
       subst e
       rw [h] at h2; cases h2
     · rw [ltP_trans y x z g h] at h2; cases h2
end Go.Proofs.YtdkckikobefekaaGreatDoor
namespace Go.Proofs.YtdkckikobefekaaGreatDoor
open Go.RowKit Go.Sort Go.Lib RegP RegL RegV
set_option maxHeartbeats 2000000
instance : Inhabited Pl := ⟨⟨0, 0, false, []⟩⟩
theorem flatK_ps (ps : List Pl) : flatK plC 4 ps.toArray = (psC ps).toArray := by
 refine ext_get! (by simp [psC_length]) fun t ht => ?_
 have ht' : t < ps.toArray.size * 4 := by simpa using ht
 rw [get_flatK _ _ _ t ht']
 have hs : ps.toArray.size = ps.length := by simp
 have h1 : t / 4 < ps.length := by omega
 have h2 : t % 4 < 4 := Nat.mod_lt _ (by decide)
 have h := psC_get ps (t / 4) (t % 4) h1 h2
 rw [show t / 4 * 4 + t % 4 = t by omega] at h
 have hp : t < (psC ps).length := by rw [psC_length]; omega
 rw [getElem!_pos ps.toArray (t / 4) (by rw [hs]; exact h1), getElem!_pos (psC ps).toArray t (by simpa using hp)]
 rw [List.getElem?_eq_getElem hp] at h
 have h3 : (plC ps[t / 4])[t % 4]? = some (psC ps)[t] := h.symm
 obtain ⟨h4, h5⟩ := List.getElem?_eq_some_iff.1 h3
 simp only [List.getElem_toArray]
 rw [getElem!_pos (plC ps[t / 4]) (t % 4) h4]
 exact h5
theorem holds_own4 {w : World} {base e n g cap : Nat} {xs : List Value} (h : w.ownsRow base e 4 (.slice (some ⟨g, 0, none⟩) n cap) n xs) : Holds id w g 0 xs.toArray := by
 rcases h.2 with ⟨e0, _⟩ | ⟨g', cap', cur, e0, hb, hg, hn, hm, hs, ht⟩
 · cases e0
 · injection e0 with e1 _ e3
   injection e1 with e1
   injection e1 with e1
   subst e1
   intro j hj
   have hj' : j < xs.length := by simpa using hj
   have hl := h.1
   refine ⟨?_, by simp [World.frozen?, hg]⟩
   have e2 : (cur.toList.take (n * 4))[j]? = xs[j]? := by rw [ht]
   rw [List.getElem?_take, if_pos (by omega), Array.getElem?_toList, List.getElem?_eq_getElem hj'] at e2
   simp only [World.cell?, hg, Nat.zero_add]
   simp only [Option.isSome_none, Bool.false_eq_true, if_false]
   rw [e2]
   simp [getElem!_pos, hj']
theorem own_put4 {w : World} {base e n g cap q : Nat} {xs ys : List Value} {os : Array Obj} (h : w.ownsRow base e 4 (.slice (some ⟨g, 0, none⟩) n cap) n xs) (hy : ys.length = n * 4) :
   (grow (putRow id (Sort.ahead w q) g 0 ys.toArray) os).ownsRow base e 4 (.slice (some ⟨g, 0, none⟩) n cap) n ys := by
 have hlt := (h.lt g rfl).2
 rcases h.2 with ⟨e0, _⟩ | ⟨g', cap', cur, e0, hb, hg, hn, hm, hs, ht⟩
 · cases e0
 · injection e0 with e1 _ e3
   injection e1 with e1
   injection e1 with e1
   subst e1; subst e3
   refine ⟨hy, .inr ⟨g, cap, putCells id 0 ys.toArray cur, rfl, hb, ?_, hn, hm, by simpa [putCells] using hs, ?_⟩⟩
   · show ((putRow id (Sort.ahead w q) g 0 ys.toArray).heap ++ os)[g]? = _
     rw [Array.getElem?_append_left (by simpa [putRow, mapBlock, Sort.ahead] using hlt)]
     simp [putRow, mapBlock, Sort.ahead, Array.getElem?_modify, hg, onCells]
   · apply List.ext_getElem?
     intro j
     rw [List.getElem?_take, Array.getElem?_toList]
     by_cases hj : j < n * 4
     · have hjc : j < cur.size := by omega
       rw [if_pos hj]
       simp only [putCells, Array.getElem?_mapIdx, Array.getElem?_eq_getElem hjc, Option.map_some]
       rw [if_pos (by simp; omega), List.getElem?_eq_getElem (by omega)]
       simp [getElem!_pos, show j < ys.length by omega]
     · rw [if_neg hj, List.getElem?_eq_none (by omega)]
theorem grown_put {w : World} {g q : Nat} {d : Array Value} {os : Array Obj} : w.grownBy (grow (putRow id (Sort.ahead w q) g 0 d) os) (some g) := by
 refine ⟨rfl, rfl, rfl, ?_, fun k hk hne => ?_⟩
 · show _ ≤ ((putRow id (Sort.ahead w q) g 0 d).heap ++ os).size
   simp [putRow, mapBlock, Sort.ahead]
 · show ((putRow id (Sort.ahead w q) g 0 d).heap ++ os)[k]? = _
   have hg : g ≠ k := fun e => hne (by rw [e])
   rw [Array.getElem?_append_left (by simpa [putRow, mapBlock, Sort.ahead] using hk)]
   simp [putRow, mapBlock, Sort.ahead, Array.getElem?_modify, hg]
def sortI (ps : List Pl) : List Pl := ps.mergeSort fun x y => !(ltOf cmpP) y x
theorem sortPlays_any (ps : List Pl) (v : Value) (base : Nat) (w : World) (hl : ps.length ≤ 2 ^ 40) (hown : w.ownsRow base 61 4 v ps.length (psC ps)) :
   Calls Tryz.prog 213 #[v, .func (.func 214) #[] #[]] w fun e w' => e = .returned (.tuple #[]) ∧ ∃ ps', ps' = sortI ps ∧ w'.ownsRow base 61 4 v ps'.length (psC ps') ∧ w.grownBy w' v.ownBlock := by
 rcases Nat.eq_zero_or_pos ps.length with h0 | h0
 · obtain rfl : ps = [] := List.eq_nil_of_length_eq_zero h0
   obtain ⟨A, c, rfl, _⟩ := own_sl hown
   have h := AnyF.slices_SortFunc_none Tryz.sortF213 A c (.func (.func 214) #[] #[]) w
   refine Calls.mono h ?_
   rintro e w' ⟨rfl, rfl⟩
   exact ⟨rfl, [], by simp [sortI], hown, ⟨rfl, rfl, rfl, Nat.le_refl _, fun _ _ _ => rfl⟩⟩
 · obtain ⟨g, cap, hv, hbg, hlt⟩ := hown.form h0
   subst hv
   have hH := holds_own4 hown
   rw [← flatK_ps] at hH
   have h := AnyQ.slices_SortFunc_total (α := Pl) Tryz.sortF213 4 (fun w => by kernel_rfl) (fun w => by kernel_rfl) plC (fun _ => rfl) (fun x v hv => by
     simp only [plC, List.mem_cons, List.not_mem_nil, or_false] at hv
     rcases hv with rfl | rfl | rfl | rfl <;> rfl) cmpP ltP_swo 214 #[] g 0 cap ps.toArray w (enters_of Tryz.func214 (by kernel_rfl) rfl) (fun m os dk _ x y => comparePlays_any x y _) hH hlt (by simp; omega) ltP_tri
   have hsz : ps.toArray.size = ps.length := by simp
   rw [hsz] at h
   refine Calls.mono h ?_
   rintro e w' ⟨rfl, n, os, rfl⟩
   refine ⟨rfl, _, rfl, ?_, ?_⟩
   · unfold sortI
     rw [List.length_mergeSort]
     unfold sortWorldK putRowK
     rw [flatK_ps]
     exact own_put4 hown (by rw [psC_length, List.length_mergeSort])
   · unfold sortWorldK putRowK
     exact grown_put
end Go.Proofs.YtdkckikobefekaaGreatDoor
