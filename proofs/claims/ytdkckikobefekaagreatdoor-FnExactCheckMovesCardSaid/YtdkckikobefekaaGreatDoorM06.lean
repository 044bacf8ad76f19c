/-
  Contracts: the squares on which a play places letters, and these letters (layer 12 of the spec package); Contract: the letters that a play places (layer 12 of the spec package); Contract: the letters across a square (layer 12 of the spec package); Contract: the words that an across play forms (layer 12 of the spec package); Contracts: the words that a play forms (layer 12 of the spec package), and whether a lexicon has a word (layer 5); Contracts: a copy of a list of strings, of a lexicon (the laws package); Contracts: marks laid into a list of strings, into a lexicon (the laws package); The state of the law's regions that call a function of three arguments: a copied lexicon, the answer, its parts; Tile sets: values, factors, validity, in plain Lean.
  Conditions: a board that is valid lies at an address; all squares of the play are on it; a board that is valid lies at an address; the square is on it; a board that is valid lies at the head of a block; the play is valid on it; the slice reads as a list of strings; the list is the caller's own; a number of common size; none.
-/
import Derived.Test.YtdkckikobefekaaGreatDoorM05
import Derived.Test.YtdkckikobefekaaGreatDoorM04
namespace Go.Proofs.YtdkckikobefekaaGreatDoor
open Go.RowKit RegP RegL
set_option maxHeartbeats 400000
theorem i64T : SlT Tryz.prog 25 2 (.int .i64 0) 1 8 := ⟨Tryz.underlying25, by kernel_rfl, rfl, by decide⟩
theorem lit1 {base size : Nat} {e : TypeId} (w : World) (o : Obj) (cs : Array Value) (n : Nat) (hb : base ≤ w.heap.size) (hm : n ≤ maxLen) (hs : cs.size = n * size) :
   ((w.alloc o).alloc (.cells cs e)).ownsRow base e size (.slice (some ⟨w.heap.size + 1, 0, none⟩) n n) n cs.toList := by
 have := World.ownsRow_lit (base := base) (size := size) (e := e) (w.alloc o) cs n (by simp; omega) hm hs
 simpa only [World.size_alloc] using this
def iv (k : Nat) : Value := .int .i64 (k : Int)
def freshTo (b : Bd) (q : Pl) (m : Nat) : List Nat := (List.range m).filter fun i : Nat => b.at_ q.row (q.col + (i : Int)) == 46
def freshL (b : Bd) (q : Pl) : List Nat := freshTo b q q.word.length
def OnB (b : Bd) (q : Pl) : Prop := ∀ i : Nat, i < q.word.length → b.inB q.row (q.col + (i : Int)) = true
theorem freshTo_length (b : Bd) (q : Pl) (m : Nat) : (freshTo b q m).length ≤ m := by
 have := List.length_filter_le (fun i : Nat => b.at_ q.row (q.col + (i : Int)) == 46) (List.range m)
 rw [List.length_range] at this; exact this
theorem freshTo_step (b : Bd) (q : Pl) (k : Nat) : freshTo b q (k + 1) = if b.at_ q.row (q.col + (k : Int)) == 46 then freshTo b q k ++ [k] else freshTo b q k := by
 rw [freshTo, List.range_succ, List.filter_append, ← freshTo]
 by_cases h : (b.at_ q.row (q.col + (k : Int)) == 46) = true
 · rw [if_pos h]; congr 1; exact List.filter_cons_of_pos (p := fun i : Nat => b.at_ q.row (q.col + (i : Int)) == 46) h
 · rw [if_neg h, show [k].filter (fun i : Nat => b.at_ q.row (q.col + (i : Int)) == 46) = [] from List.filter_cons_of_neg (p := fun i : Nat => b.at_ q.row (q.col + (i : Int)) == 46) h, List.append_nil]
theorem l12Fresh_any (p : Addr) (b : Bd) (q : Pl) (w : World) (hp : BAt w p b) (hf : b.Fit) (hon : OnB b q) (hl : q.word.length ≤ 2 ^ 38) :
   Calls Tryz.prog 149 #[.pointer (some p), q.v] w fun e w' => ∃ v, e = .returned v ∧ w'.ownsRow w.heap.size 2 1 v (freshL b q).length ((freshL b q).map iv) ∧ Below w.heap.size w w' := by
 have hstep : ∀ k, Hid (freshTo b q (k + 1) = if b.at_ q.row (q.col + (k : Int)) == 46 then freshTo b q k ++ [k] else freshTo b q k) := fun k => Lib.hid (freshTo_step b q k)
 have hlen := freshTo_length b q
 have hz : freshTo b q 0 = [] := rfl
 have hend : Hid (freshL b q = freshTo b q q.word.length) := rfl
 obtain ⟨F, hF⟩ : ∃ F, F = freshTo b q := ⟨_, rfl⟩
 obtain ⟨G, hG⟩ : ∃ G, G = freshL b q := ⟨_, rfl⟩
 rw [← hF] at hstep hlen hz hend
 rw [← hG] at hend ⊢
 clear hF hG
 obtain ⟨r, c, dn, s⟩ := q
 simp only [OnB] at hon
 have hblt := hp.lt
 have h15 := hf.hi
 simp only at hl hend
 go_enter Tryz.func149, Tryz.ntmps149
 simp only [Pl.v]
 go_wp2_with (fail)
 go_loopw [5, 6] (fun o i wr => ∃ k : Nat, k ≤ s.length ∧ i = .int .i64 k ∧ wr.ownsRow w.heap.size 2 1 o (F k).length ((F k).map iv) ∧ Below w.heap.size w wr ∧ Blk wr w.heap.size 61 #[.int .i64 r, .int .i64 c, .bool dn, sv s]) (fun _ i _ => s.length - (intOf i).toNat)
 case atStart =>
   refine ⟨0, by omega, rfl, ?_, ((Below.refl _ _).alloc (Nat.le_refl _) _).alloc (by simp) _, (Blk.new w _ _).alloc _⟩
   refine own_cast (lit1 w _ #[] 0 (Nat.le_refl _) (by unfold maxLen; omega) rfl) (by rw [hz]; rfl) (by rw [hz]; rfl)
 case round =>
   obtain ⟨k, hk, rfl, hown, hw, hbx⟩ := hrel
   have e0 : wr.cell? ⟨w.heap.size, 0, none⟩ = some (.int .i64 r) := hbx.cell 0
   have e1 : wr.cell? ⟨w.heap.size, 1, none⟩ = some (.int .i64 c) := hbx.cell 1
   have e3 : wr.cell? ⟨w.heap.size, 3, none⟩ = some (sv s) := hbx.cell 3
   have hpr := hp.below hw hblt
   by_cases hlt : k < s.length
   · have hk1 : (k : Int) < (s.length : Int) := by omega
     have hk0 : (0 : Int) ≤ (k : Int) := by omega
     have hik : b.inB r (c + (k : Int)) = true := hon k hlt
     obtain ⟨⟨r0, r1⟩, c0, c1⟩ := inB_iff.1 hik
     have hst := hstep k
     have hlk := hlen k
     have hq : (((b.at_ r (c + k)).toNat : Int) == 46) = (b.at_ r (c + k) == 46) := u8_eq _ 46
     obtain ⟨x, hx⟩ : ∃ x, x = b.at_ r (c + k) := ⟨_, rfl⟩
     rw [← hx] at hq
     rw [← hx] at hst
     have hx' := Lib.hid hx
     clear hx
     have hcl : c + (k : Int) ≤ 14 := by omega
     have hc0' : -274877906944 ≤ c := by omega
     cases hx1 : (x == 46)
     all_goals rw [hx1] at hq
     · go_wp2_with (go_at_call 225; refine (l11At_any p b r _ _ hpr hf hik).mono ?_; rw [← hx'.out]; rintro e w2 ⟨rfl, hd2⟩)
       go_roundw
       case rel => exact ⟨k + 1, by omega, by go_num, own_cast (own_call hown hd2.below) (by rw [hst.out, if_neg (by rw [hx1]; decide)]) (by rw [hst.out, if_neg (by rw [hx1]; decide)]), hw.trans (hd2.below.mono hw.size), hbx.below hd2.below hbx.lt⟩
       case measure => simp [intOf]; omega
     · go_wp2_with (first
         | (go_at_call 225; refine (l11At_any p b r _ _ hpr hf hik).mono ?_; rw [← hx'.out]; rintro e w2 ⟨rfl, hd2⟩; have hw2 := hw.trans (hd2.below.mono hw.size); have hown2 := own_call hown hd2.below; have hbx2 := hbx.below hd2.below hbx.lt)
         | (at_builtin; refine wpList_app i64T rfl (.tmp 24) (.tmp 26) rfl _ _ _ rfl w.heap.size hown2 [iv k] rfl (by simp [Value.oneCell', iv]) rfl (by omega) (by omega) hw2.size ?_; intro v1 w1 hown1 hg1 _))
       go_roundw
       case rel => exact ⟨k + 1, by omega, by go_num, own_cast hown1 (by rw [hst.out, if_pos hx1, List.map_append]; rfl) (by rw [hst.out, if_pos hx1, List.length_append]; rfl), Below.own hw2 hw2.size hown2 (Nat.le_refl _) hg1, hbx2.grown hg1 (fun h => own_blk_ne hown2 hbx2 (by decide) h.symm)⟩
       case measure => simp [intOf]; omega
   · obtain rfl : k = s.length := by omega
     go_wp2_with (fail)
     go_ret
     exact ⟨_, rfl, own_cast hown (by rw [hend.out]) (by rw [hend.out]), hw⟩
theorem freshTo_lt (b : Bd) (q : Pl) (m : Nat) : ∀ x ∈ freshTo b q m, x < m := fun _ hx => List.mem_range.1 (List.mem_filter.1 hx).1
def placedS (b : Bd) (q : Pl) : Str := (freshL b q).map fun i => q.word.getD i 0
theorem l12Placed_any (p : Addr) (b : Bd) (q : Pl) (w : World) (hp : BAt w p b) (hf : b.Fit) (hon : OnB b q) (hl : q.word.length ≤ 2 ^ 37) :
   Calls Tryz.prog 83 #[.pointer (some p), q.v] w fun e w' => e = .returned (sv (placedS b q)) ∧ Below w.heap.size w w' := by
 have hGl := freshTo_length b q q.word.length
 have hGx := freshTo_lt b q q.word.length
 have hfr := fun w hp => l12Fresh_any p b q w hp hf hon (by omega)
 have hend : Hid (placedS b q = (freshL b q).map fun i => q.word.getD i 0) := rfl
 change (freshL b q).length ≤ _ at hGl
 change ∀ x ∈ freshL b q, _ at hGx
 obtain ⟨G, hG⟩ : ∃ G, G = freshL b q := ⟨_, rfl⟩
 obtain ⟨S, hS⟩ : ∃ S, S = placedS b q := ⟨_, rfl⟩
 rw [← hG] at hend hGl hGx hfr
 rw [← hS] at hend ⊢
 clear hG hS
 obtain ⟨r, c, dn, s⟩ := q
 simp only at hl hend hGl hGx
 simp only [Pl.v] at hfr ⊢
 have hblt := hp.lt
 have hpW := hp.alloc (.cells #[.int .i64 r, .int .i64 c, .bool dn, sv s] 61)
 have hbW := (Below.refl w.heap.size w).alloc (Nat.le_refl _) (.cells #[.int .i64 r, .int .i64 c, .bool dn, sv s] 61)
 have hbx := (Blk.new w 61 #[.int .i64 r, .int .i64 c, .bool dn, sv s])
 obtain ⟨W, hW⟩ : ∃ W, W = w.alloc (.cells #[.int .i64 r, .int .i64 c, .bool dn, sv s] 61) := ⟨_, rfl⟩
 rw [← hW] at hbx hpW hbW
 go_enter Tryz.func83, Tryz.ntmps83
 go_wp2_with (go_at_call 149; rw [← hW]; refine (hfr W hpW).mono ?_; rintro e w1 ⟨v1, rfl, own1, hb1⟩)
 obtain ⟨A1, c1, rfl, hc1, hr1⟩ := own_sl own1
 have hbx1 := hbx.below hb1 hbx.lt
 have hw1 := hbW.trans (hb1.mono hbW.size)
 have hz1 := hbx1.lt
 go_wp2_with (fail)
 go_loopw [6, 7] (fun o i wr => ∃ k : Nat, k ≤ G.length ∧ i = .int .i64 k ∧ wr.ownsRow w1.heap.size 5 1 o k (((G.take k).map fun i => s.getD i 0).map bv) ∧ Below w1.heap.size w1 wr) (fun _ i _ => G.length - (intOf i).toNat)
 case atStart => exact ⟨0, by omega, rfl, World.ownsRow_lit w1 #[] 0 (Nat.le_refl _) (by unfold maxLen; omega) rfl, (Below.refl _ _).alloc (Nat.le_refl _) _⟩
 case round =>
   obtain ⟨k, hk, rfl, hown, hb2⟩ := hrel
   by_cases hlt : k < G.length
   · obtain ⟨ad, rfl, hadb, hc⟩ := (hr1.below hb2).el hlt
     have hx := hGx G[k] (List.getElem_mem _)
     have hstep : Hid (((G.take (k + 1)).map fun i => s.getD i 0).map bv = ((G.take k).map fun i => s.getD i 0).map bv ++ [bv s[G[k]]]) := Lib.hid (by
       rw [List.take_succ_eq_append_getElem hlt, List.map_append, List.map_append]
       simp [List.getD, List.getElem?_eq_getElem hx])
     obtain ⟨x, hx'⟩ : ∃ x, x = G[k] := ⟨_, rfl⟩
     have hix : (x : Int) < (s.length : Int) := by rw [hx']; omega
     have hx0 : (0 : Int) ≤ (x : Int) := by omega
     have hxl : x < s.length := by omega
     have hst : Hid (((G.take (k + 1)).map fun i => s.getD i 0).map bv = ((G.take k).map fun i => s.getD i 0).map bv ++ [bv s[x]]) := Lib.hid (by rw [hstep.out]; subst hx'; rfl)
     have hc' : wr.cell? (ad.add k) = some (.int .i64 x) := by rw [hc, hx']; rfl
     have hlen : (k : Int) < (G.length : Int) := by omega
     have hbr := hbx1.below hb2 hz1
     go_wp2_with (fail)
     obtain ⟨V, hV⟩ : ∃ V, V = wr.drew := ⟨_, rfl⟩
     have hcV : ∀ o1 : Obj, (V.cell? (ad.add k) = some (.int .i64 x) ∧ V.cell? ⟨w.heap.size, 3, none⟩ = some (sv s)) ∧ ((V.alloc o1).cell? (ad.add k) = some (.int .i64 x) ∧ (V.alloc o1).cell? ⟨w.heap.size, 3, none⟩ = some (sv s)) := by
       intro o1
       have hz2 := hb2.size
       have hbk : (ad.add k).block < V.heap.size := by rw [block_of_add, hV]; show ad.block < wr.heap.size; omega
       have h0 : V.cell? (ad.add k) = some (.int .i64 x) := by rw [hV]; exact hc'
       have h3 : V.cell? ⟨w.heap.size, 3, none⟩ = some (sv s) := by rw [hV]; exact hbr.cell 3
       exact ⟨⟨h0, h3⟩, by rw [World.cell?_alloc_lt _ _ _ hbk]; exact h0, by rw [World.cell?_alloc_lt _ _ _ (by rw [hV]; show w.heap.size < wr.heap.size; omega)]; exact h3⟩
     obtain ⟨hV0, hV1⟩ := hcV (.cells #[bv s[x]] 5)
     clear hcV
     refine wp_region_l 9 9 (S1 8 V (V.alloc (.cells #[bv s[x]] 5))) (by kernel_rfl) (by kernel_rfl) (by rw [← hV]; exact S1.none_) ?_
     have hV' := Lib.hid hV
     clear hV
     simp only [qqT, List.take_zero, qqD, List.drop_zero]
     clear hx'
     iterate 8
       apply pl_step rfl
       · intro L w' hS h1 h2 K hK
         clear h2
         have h5 : w'.cell? (ad.add k) = some (.int .i64 x) := hS.old (p := fun w' => w'.cell? (ad.add k) = some (.int .i64 x)) hV0.1 hV1.1
         have h6 : w'.cell? ⟨w.heap.size, 3, none⟩ = some (sv s) := hS.old (p := fun w' => w'.cell? ⟨w.heap.size, 3, none⟩ = some (sv s)) hV0.2 hV1.2
         go_wp2
         exact hS.keep (by decide)
       simp only [Act.put, qqS, qqC, qqZ]
     apply pl_step rfl
     · intro L w' hS h1 h2 K hK
       clear h2
       obtain rfl := hS.at0 h1
       go_wp2
       exact S1.to1
     simp only [Act.put, qqS, qqC, qqZ]
     refine pl_nil ?_
     intro w' hS
     obtain rfl := hS.at1 rfl
     clear hS hV0 hV1
     have hown' : V.ownsRow w1.heap.size 5 1 u6 k (((G.take k).map fun i => s.getD i 0).map bv) := by rw [hV'.out]; exact hown
     have hbV : Below w1.heap.size w1 V := by rw [hV'.out]; exact hb2.drew
     go_wp2_with (at_builtin; refine wpList_app' byteT rfl (.tmp 18) (.tmp 26) rfl u6 k _ rfl w1.heap.size hown' [bv s[x]] rfl (by simp [Value.oneCell']) V.heap.size (by simp) rfl (by omega) (by omega) hbV.size ?_; intro v4 w4 own4 hg4 _)
     go_roundw
     case rel => exact ⟨k + 1, by omega, by go_num, own_cast own4 hst.out.symm rfl, Below.own hbV hbV.size hown' (Nat.le_refl _) hg4⟩
     case measure => simp [intOf]; omega
   · obtain rfl : k = G.length := by omega
     rw [List.take_length] at hown
     have hcv := run_string_own (P := Tryz.prog) wr 209 9 5 Tryz.underlying209 Tryz.underlying5 Tryz.underlying9 (l := S) (own_cast hown (by rw [hend.out]) (by rw [hend.out, List.length_map]))
     go_wp2_with (fail)
     go_ret
     exact ⟨rfl, hw1.trans (hb2.mono hw1.size)⟩
def upTo (b : Bd) (col : Int) : Nat → Nat
 | 0 => 0
 | r + 1 => if b.full (r : Int) col then upTo b col r else r + 1
theorem upTo_le (b : Bd) (col : Int) : ∀ r, upTo b col r ≤ r
 | 0 => Nat.le_refl _
 | r + 1 => by rw [upTo]; split; exact Nat.le_succ_of_le (upTo_le b col r); exact Nat.le_refl _
def crossGo (b : Bd) (row : Nat) (col : Int) (letter : UInt8) : Nat → Nat → Str
 | 0, _ => []
 | f + 1, r => if r = row then letter :: crossGo b row col letter f (r + 1) else if b.full (r : Int) col then b.at_ (r : Int) col :: crossGo b row col letter f (r + 1) else []
def crossS (b : Bd) (row : Nat) (col : Int) (letter : UInt8) : Str := crossGo b row col letter (16 - upTo b col row) (upTo b col row)
theorem crossGo_length (b : Bd) (row : Nat) (col : Int) (x : UInt8) : ∀ f r, (crossGo b row col x f r).length ≤ f
 | 0, _ => Nat.le_refl _
 | f + 1, r => by
   rw [crossGo]
   have := crossGo_length b row col x f (r + 1)
   split
   · simpa using this
   · split
     · simpa using this
     · simp
theorem full_in {b : Bd} {r c : Int} (h : b.full r c = true) : b.inB r c = true := by
 unfold Bd.full at h
 simp only [Bool.and_eq_true] at h
 exact h.1
theorem l12Cross_any (p : Addr) (b : Bd) (row : Nat) (col : Int) (letter : UInt8) (w : World) (hp : BAt w p b) (hf : b.Fit) (hin : b.inB (row : Int) col = true) :
   Calls Tryz.prog 221 #[.pointer (some p), .int .i64 row, .int .i64 col, bv letter] w fun e w' => e = .returned (.tuple #[sv (crossS b row col letter), .int .i64 (upTo b col row)]) ∧ Below w.heap.size w w' := by
 obtain ⟨⟨r0, r1⟩, c0, c1⟩ := inB_iff.1 hin
 have h15 := hf.hi
 have hblt := hp.lt
 have hrow : row ≤ 14 := by omega
 go_enter Tryz.func221, Tryz.ntmps221
 go_wp2_with (fail)
 go_loopw [10] (fun i wr => ∃ k : Nat, k ≤ row ∧ i = .int .i64 k ∧ Hid (upTo b col row = upTo b col k) ∧ Dr w wr) (fun i _ => (intOf i).toNat)
 case atStart => exact ⟨row, Nat.le_refl _, rfl, rfl, Dr.refl _⟩
 case round =>
   obtain ⟨k, hk, rfl, he, hd⟩ := hrel
   have hpr := hp.dr hd
   by_cases hful : b.full ((k : Int) - 1) col = true
   · have hk1 : (1 : Int) ≤ (k : Int) := by have := (inB_iff.1 (full_in hful)).1.1; omega
     have hst : Hid (upTo b col k = upTo b col (k - 1)) := Lib.hid (by
       obtain ⟨m, rfl⟩ : ∃ m, k = m + 1 := ⟨k - 1, by omega⟩
       rw [upTo, if_pos (by rw [← hful]; congr 1; omega)]; rfl)
     go_wp2_with (go_at_call 288; refine (l11Full_v p b _ _ _ _ hful hpr hf).mono ?_; rintro e w2 ⟨rfl, hd2⟩)
     go_roundw
     case rel => exact ⟨k - 1, by omega, vi_eq (by omega), Lib.hid (by rw [he.out, hst.out]), hd.trans hd2⟩
     case measure => simp [intOf]; omega
   · have hful' : b.full ((k : Int) - 1) col = false := by simpa using hful
     have hst : Hid (upTo b col k = k) := Lib.hid (by
       cases k with
       | zero => rfl
       | succ m => rw [upTo, if_neg (by rw [show ((m : Int)) = ((m + 1 : Nat) : Int) - 1 by omega, hful']; decide)])
     go_wp2_with (go_at_call 288; refine (l11Full_v p b _ _ _ _ hful' hpr hf).mono ?_; rintro e w2 ⟨rfl, hd2⟩)
     have hk' : Hid (upTo b col row = k) := Lib.hid (by rw [he.out, hst.out])
     clear he hst hful hful'
     have hp2 := hpr.dr hd2
     have hb0 : Below w.heap.size w w2 := (hd.trans hd2).below
     have hcr : Hid (crossS b row col letter = crossGo b row col letter (16 - k) k) := Lib.hid (by rw [crossS, hk'.out])
     have hz2 := hb0.size
     go_wp2_with (fail)
     go_loopw [11, 12] (fun o i wr => ∃ (m : Nat) (out : Str), m ≤ 15 ∧ i = .int .i64 m ∧ out.length ≤ m ∧ wr.ownsRow w2.heap.size 5 1 o out.length (out.map bv) ∧ Hid (crossS b row col letter = out ++ crossGo b row col letter (16 - m) m) ∧ Below w2.heap.size w2 wr) (fun _ i _ => 16 - (intOf i).toNat)
     case atStart => exact ⟨k, [], by omega, rfl, by simp, World.ownsRow_lit w2 #[] 0 (Nat.le_refl _) (by unfold maxLen; omega) rfl, Lib.hid (by rw [hcr.out]; rfl), (Below.refl _ _).alloc (Nat.le_refl _) _⟩
     case round =>
       obtain ⟨m, out, hm, rfl, hol, hown, he, hb⟩ := hrel
       have hpm := hp2.below hb hp2.lt
       have hst : Hid (crossGo b row col letter (16 - m) m = if m = row then letter :: crossGo b row col letter (16 - (m + 1)) (m + 1) else if b.full (m : Int) col then b.at_ (m : Int) col :: crossGo b row col letter (16 - (m + 1)) (m + 1) else []) := Lib.hid (by
         rw [show 16 - m = (16 - (m + 1)) + 1 by omega, crossGo])
       by_cases hmr : m = row
       · have hg : ((m : Int) == (row : Int)) = true := by rw [hmr]; simp
         have hst2 : Hid (crossGo b row col letter (16 - m) m = letter :: crossGo b row col letter (16 - (m + 1)) (m + 1)) := Lib.hid (by rw [hst.out, if_pos hmr])
         have hm14 : m ≤ 14 := by omega
         clear hmr hst
         go_wp2_with (at_builtin; refine wpList_app byteT rfl (.tmp 37) (.tmp 39) rfl _ _ _ rfl w2.heap.size hown [bv letter] rfl (by simp [Value.oneCell']) rfl (by omega) (by omega) hb.size ?_; intro v1 w1 hown1 hg1 _)
         go_roundw
         case rel => exact ⟨m + 1, out ++ [letter], by omega, by go_num, by simp; omega, by simpa using hown1, Lib.hid (by rw [he.out, hst2.out]; simp), Below.own hb hb.size hown (Nat.le_refl _) hg1⟩
         case measure => simp [intOf]; omega
       · have hg : ((m : Int) == (row : Int)) = false := by simp; omega
         cases hful : b.full (m : Int) col
         · have hcv := fun (w' : World) (hb' : Dr wr w') => run_string_own (P := Tryz.prog) w' 209 9 5 Tryz.underlying209 Tryz.underlying5 Tryz.underlying9 (l := out) (own_call hown hb'.below)
           go_wp2_with (go_at_call 288; refine (l11Full_v p b _ _ _ _ hful hpm hf).mono ?_; rintro e w3 ⟨rfl, hd3⟩; have hcv3 := hcv w3 hd3)
           go_ret2
           have hb3 := hb.trans (hd3.below.mono hb.size)
           refine ⟨ret_tup2 (sv_eq (by rw [he.out, hst.out, if_neg hmr, if_neg (by rw [hful]; decide), List.append_nil])) (vi_eq (by rw [hk'.out])), hb0.trans (hb3.mono hz2)⟩
         · have him := full_in hful
           obtain ⟨⟨q0, q1⟩, _, _⟩ := inB_iff.1 him
           have hst2 : Hid (crossGo b row col letter (16 - m) m = b.at_ (m : Int) col :: crossGo b row col letter (16 - (m + 1)) (m + 1)) := Lib.hid (by rw [hst.out, if_neg hmr, if_pos hful])
           obtain ⟨x, hx⟩ : ∃ x, x = b.at_ (m : Int) col := ⟨_, rfl⟩
           rw [← hx] at hst2
           have hx' := Lib.hid hx
           clear hx hst hmr
           go_wp2_with (first
             | (go_at_call 288; refine (l11Full_v p b _ _ _ _ hful hpm hf).mono ?_; rintro e w3 ⟨rfl, hd3⟩; have hp3 := hpm.dr hd3; have hb3 := hb.trans (hd3.below.mono hb.size); have hown3 := own_call hown hd3.below)
             | (go_at_call 225; refine (l11At_any p b _ _ _ hp3 hf him).mono ?_; rw [← hx'.out]; rintro e w4 ⟨rfl, hd4⟩; have hb4 := hb3.trans (hd4.below.mono hb3.size); have hown4 := own_call hown3 hd4.below)
             | (at_builtin; refine wpList_app byteT rfl (.tmp 41) (.tmp 46) rfl _ _ _ rfl w2.heap.size hown4 [bv x] rfl (by simp [Value.oneCell']) rfl (by omega) (by omega) hb4.size ?_; intro v1 w1 hown1 hg1 _))
           go_roundw
           case rel => exact ⟨m + 1, out ++ [x], by omega, by go_num, by simp; omega, by simpa using hown1, Lib.hid (by rw [he.out, hst2.out]; simp), Below.own hb4 hb4.size hown4 (Nat.le_refl _) hg1⟩
           case measure => simp [intOf]; omega
def crossAt (b : Bd) (q : Pl) (i : Nat) : Str := crossS b q.row.toNat (q.col + (i : Int)) (q.word.getD i 0)
def keepL (l : List Str) : List Str := l.filter fun s => decide (1 < s.length)
def formedL (b : Bd) (q : Pl) : List Str := q.word :: keepL ((freshL b q).map (crossAt b q))
theorem keepL_length (l : List Str) : (keepL l).length ≤ l.length := List.length_filter_le _ _
theorem keepL_step (G : List Nat) (f : Nat → Str) (k : Nat) (h : k < G.length) : keepL ((G.take (k + 1)).map f) = if decide (1 < (f G[k]).length) then keepL ((G.take k).map f) ++ [f G[k]] else keepL ((G.take k).map f) := by
 rw [List.take_succ_eq_append_getElem h, List.map_append, keepL, List.filter_append, ← keepL]
 by_cases hh : decide (1 < (f G[k]).length) = true
 · rw [if_pos hh]; congr 1; exact List.filter_cons_of_pos (p := fun s : Str => decide (1 < s.length)) hh
 · rw [if_neg hh, show [G[k]].map f = [f G[k]] from rfl, List.filter_cons_of_neg (p := fun s : Str => decide (1 < s.length)) hh, List.filter_nil, List.append_nil]
theorem crossS_length (b : Bd) (row : Nat) (col : Int) (x : UInt8) : (crossS b row col x).length ≤ 16 := by
 have := crossGo_length b row col x (16 - upTo b col row) (upTo b col row)
 rw [crossS]; omega
theorem l12Formed_any (p : Addr) (b : Bd) (q : Pl) (w : World) (hp : BAt w p b) (hf : b.Fit) (hon : OnB b q) (hl : q.word.length ≤ 2 ^ 37) :
   Calls Tryz.prog 217 #[.pointer (some p), q.v] w fun e w' => ∃ v, e = .returned v ∧ w'.ownsRow w.heap.size 9 1 v (formedL b q).length ((formedL b q).map sv) ∧ Below w.heap.size w w' := by
 have hGl := freshTo_length b q q.word.length
 have hGx := freshTo_lt b q q.word.length
 have hfr := fun w hp => l12Fresh_any p b q w hp hf hon (by omega)
 have hend : Hid (formedL b q = q.word :: keepL ((freshL b q).map (crossAt b q))) := rfl
 have hcr : ∀ i, Hid (crossAt b q i = crossS b q.row.toNat (q.col + (i : Int)) (q.word.getD i 0)) := fun _ => rfl
 have hcl : ∀ i, (crossAt b q i).length ≤ 16 := fun _ => crossS_length _ _ _ _
 change (freshL b q).length ≤ _ at hGl
 change ∀ x ∈ freshL b q, _ at hGx
 obtain ⟨G, hG⟩ : ∃ G, G = freshL b q := ⟨_, rfl⟩
 obtain ⟨S, hS⟩ : ∃ S, S = formedL b q := ⟨_, rfl⟩
 obtain ⟨C, hC⟩ : ∃ C, C = crossAt b q := ⟨_, rfl⟩
 rw [← hG] at hend hGl hGx hfr
 rw [← hC] at hend hcr hcl
 rw [← hS] at hend ⊢
 clear hG hS hC
 obtain ⟨r, c, dn, s⟩ := q
 simp only at hl hend hGl hGx hcr
 simp only [OnB] at hon
 simp only [Pl.v] at hfr ⊢
 have hblt := hp.lt
 have h15 := hf.hi
 have hbx := (Blk.new w 61 #[.int .i64 r, .int .i64 c, .bool dn, sv s])
 have hbW := (Below.refl w.heap.size w).alloc (Nat.le_refl _) (.cells #[.int .i64 r, .int .i64 c, .bool dn, sv s] 61)
 go_enter Tryz.func217, Tryz.ntmps217
 go_wp2_with (go_at_call 149; refine (hfr _ ((hp.alloc _).alloc _)).mono ?_; rintro e w1 ⟨v1, rfl, own1, hb1⟩)
 obtain ⟨V, hV⟩ : ∃ V, V = (w.alloc (.cells #[.int .i64 r, .int .i64 c, .bool dn, sv s] 61)).alloc (.cells #[sv s] 9) := ⟨_, rfl⟩
 have ownV : V.ownsRow w.heap.size 9 1 (.slice (some ⟨w.heap.size + 1, 0, none⟩) 1 1) 1 [sv s] := by rw [hV]; exact lit1 w _ #[sv s] 1 (Nat.le_refl _) (by unfold maxLen; omega) rfl
 have hwV : Below w.heap.size w V := by rw [hV]; exact hbW.alloc (by simp) _
 have hbxV : Blk V w.heap.size 61 #[.int .i64 r, .int .i64 c, .bool dn, sv s] := by rw [hV]; exact hbx.alloc _
 have hVz : V.heap.size = w.heap.size + 2 := by rw [hV]; simp
 rw [← hV] at hb1 own1
 clear hV hbW hbx
 have hVz' := Lib.hid hVz
 have hVz2 : w.heap.size + 2 ≤ V.heap.size := by omega
 clear hVz
 obtain ⟨A1, c1, rfl, hc1, hr1⟩ := own_sl own1
 have hlo1 := own_lo own1
 have own0 := own_call ownV hb1
 have hbx1 := hbxV.below hb1 hbxV.lt
 have hw1 := hwV.trans (hb1.mono hwV.size)
 have hz1 := hb1.size
 clear ownV hbxV
 go_loopw [5, 7] (fun o i wr => ∃ k : Nat, k ≤ G.length ∧ i = .int .i64 k ∧ wr.ownsRow w.heap.size 9 1 o ((keepL ((G.take k).map C)).length + 1) (sv s :: (keepL ((G.take k).map C)).map sv) ∧ Reads wr w1.heap.size 1 A1 G.length (G.map iv) ∧ Below w.heap.size w wr ∧ w1.heap.size ≤ wr.heap.size ∧ (∀ q, o.ownBlock = some q → q < V.heap.size ∨ w1.heap.size ≤ q) ∧ Blk wr w.heap.size 61 #[.int .i64 r, .int .i64 c, .bool dn, sv s]) (fun _ i _ => G.length - (intOf i).toNat)
 case atStart => exact ⟨0, by omega, rfl, own0, hr1, hw1, Nat.le_refl _, fun q hq => by simp [Value.ownBlock] at hq; omega, hbx1⟩
 case round =>
   obtain ⟨k, hk, rfl, own3, hr3, hw3, hz3, hq3, hbx3⟩ := hrel
   have hp3 := hp.below hw3 hblt
   have hkl1 := keepL_length ((G.take k).map C)
   rw [List.length_map, List.length_take] at hkl1
   by_cases hkl : k < G.length
   · obtain ⟨ad, rfl, hadb, hc3⟩ := hr3.el hkl
     have hx := hGx G[k] (List.getElem_mem _)
     have hstep := Lib.hid (keepL_step G C k hkl)
     obtain ⟨x, hxx⟩ : ∃ x, x = G[k] := ⟨_, rfl⟩
     rw [← hxx] at hx hstep hc3
     clear hxx
     have hix : (x : Int) < (s.length : Int) := by omega
     have hx0 : (0 : Int) ≤ (x : Int) := by omega
     have hkk : (k : Int) < (G.length : Int) := by omega
     have hin := hon x hx
     obtain ⟨⟨r0, r1⟩, c0, c1⟩ := inB_iff.1 hin
     obtain ⟨rn, rfl⟩ : ∃ rn : Nat, r = (rn : Int) := ⟨r.toNat, by omega⟩
     have hCx : Hid (C x = crossS b rn (c + (x : Int)) s[x]) := Lib.hid (by rw [(hcr x).out]; simp [List.getD, List.getElem?_eq_getElem hx])
     have hCl := hcl x
     have hcx0 : -274877906944 ≤ c := by omega
     have hcx1 : c ≤ 14 := by omega
     have m1 : IntKind.i64.wrap (c + (x : Int)) = c + (x : Int) := IntWalk.i64_in _ (by omega)
     have hc3' : wr.cell? (ad.add k) = some (.int .i64 x) := hc3
     have hadk : (ad.add k).block < wr.heap.size := by rw [block_of_add]; omega
     go_wp2_with (fail)
     refine wp_region_b 23 (by kernel_rfl) (by kernel_rfl) ?_
     simp only [qqT, List.take_zero, qqD, List.drop_zero]
     iterate 23
       apply pc_step rfl
       · intro w4 hb K hK
         have f0 : w4.cell? (ad.add k) = _ := (hb.cell hadk).trans hc3'
         have hbx4 := hbx3.below hb hbx3.lt
         have d0 : w4.cell? ⟨w.heap.size, 0, none⟩ = some (.int .i64 rn) := hbx4.cell 0
         have d1 : w4.cell? ⟨w.heap.size, 1, none⟩ = some (.int .i64 c) := hbx4.cell 1
         have d3 : w4.cell? ⟨w.heap.size, 3, none⟩ = some (sv s) := hbx4.cell 3
         go_wp2_with (go_at_call 221; refine (l12Cross_any p b rn _ s[x] _ (hp3.below hb hp3.lt) hf hin).mono ?_; rintro e w5 ⟨rfl, hb5⟩)
         first | exact hb | exact hb.trans (hb5.mono hb.size)
       simp only [Act.put, qqS, qqC, qqZ]
     refine pc_nil ?_
     intro w4 hb
     rw [← hCx.out]
     have hp4 := hp3.below hb hp3.lt
     have own4 := own_call own3 hb
     have hw4 := hw3.trans (hb.mono hw3.size)
     have hbx4 := hbx3.below hb hbx3.lt
     have hz4 := hb.size
     have hr4 : Reads w4 w1.heap.size 1 (some ad) G.length (G.map iv) := hr3.below' hb hz3
     clear hcr hCx own3 hw3 hbx3 hr3 hc3 hc3' hp3 own0 hr1 hb
     by_cases hbig : 1 < (C x).length
     · have hbig' : (1 : Int) < ((C x).length : Int) := by omega
       go_wp2_with (at_builtin; refine wpList_app strT rfl (.tmp 46) (.tmp 48) rfl _ _ _ rfl w.heap.size own4 [sv (C x)] rfl (by simp [Value.oneCell']) rfl (by omega) (by omega) hw4.size ?_; intro v1 w5 own5 hg5 hat5)
       go_roundw
       case rel =>
         have hz5 := hg5.size
         refine ⟨k + 1, by omega, by go_num, own_cast own5 (by rw [hstep.out, if_pos (by simpa using hbig), List.map_append]; rfl) (by rw [hstep.out, if_pos (by simpa using hbig), List.length_append]; rfl), ?_, Below.own hw4 hw4.size own4 (Nat.le_refl _) hg5, by omega, ?_, hbx4.grown hg5 (fun h => own_blk_ne own4 hbx4 (by decide) h.symm)⟩
         · exact hr4.grown2 hlo1 hg5 (by omega) (fun q hq => hq3 q hq)
         · intro q hq
           rcases hat5 with e | e
           · rw [e] at hq; exact hq3 q hq
           · rw [e] at hq; simp at hq; right; omega
       case measure => simp [intOf]; omega
     · have hbig' : decide ((1 : Int) < ((C x).length : Int)) = false := by simp; omega
       have hbf : ¬ decide (1 < (C x).length) = true := by simpa using hbig
       go_wp2_with (fail)
       go_roundw
       case rel => exact ⟨k + 1, by omega, by go_num, own_cast own4 (by rw [hstep.out, if_neg hbf]) (by rw [hstep.out, if_neg hbf]), hr4, hw4, by omega, hq3, hbx4⟩
       case measure => simp [intOf]; omega
   · obtain rfl : k = G.length := by omega
     rw [List.take_length] at own3
     go_wp2_with (fail)
     go_ret
     exact ⟨_, rfl, own_cast own3 (by rw [hend.out]; rfl) (by rw [hend.out]; rfl), hw3⟩
theorem own_base {w : World} {base base' e size n : Nat} {v : Value} {xs : List Value} (h : w.ownsRow base e size v n xs) (hb : base' ≤ base) : w.ownsRow base' e size v n xs := by
 refine ⟨h.1, ?_⟩
 rcases h.2 with h2 | ⟨g, cap, cur, h1, h2, h3⟩
 · exact .inl h2
 · exact .inr ⟨g, cap, cur, h1, Nat.le_trans hb h2, h3⟩
def wordsL (b : Bd) (q : Pl) : List Str := (formedL (flatB b q) (flatP q)).map lowS
theorem formedL_le (b : Bd) (q : Pl) : ∀ x ∈ formedL b q, x.length ≤ q.word.length + 16 := by
 intro x hx
 rcases List.mem_cons.1 hx with rfl | hx
 · omega
 · obtain ⟨i, _, rfl⟩ := List.mem_map.1 (List.mem_filter.1 hx).1
   have := crossS_length b q.row.toNat (q.col + (i : Int)) (q.word.getD i 0)
   unfold crossAt; omega
theorem formedL_length (b : Bd) (q : Pl) : (formedL b q).length ≤ q.word.length + 1 := by
 have := keepL_length ((freshL b q).map (crossAt b q))
 have h2 : (freshL b q).length ≤ q.word.length := freshTo_length b q q.word.length
 rw [List.length_map] at this
 rw [formedL, List.length_cons]; omega
theorem l12Words_any (g : Nat) {o : Nat} (b : Bd) (q : Pl) (w : World) (hp : BAt w ⟨g, o, none⟩ b) (hf : b.Fit) (hon : OnB (flatB b q) (flatP q)) (hl : q.word.length ≤ 2 ^ 37) :
   Calls Tryz.prog 178 #[.pointer (some ⟨g, o, none⟩), q.v] w fun e w' => ∃ v, e = .returned v ∧ w'.ownsRow w.heap.size 9 1 v (wordsL b q).length ((wordsL b q).map sv) ∧ Below w.heap.size w w' := by
 have hdef : Hid (wordsL b q = (formedL (flatB b q) (flatP q)).map lowS) := rfl
 have hwf := flatP_word q
 have hFl := formedL_length (flatB b q) (flatP q)
 have hFx := formedL_le (flatB b q) (flatP q)
 rw [hwf] at hFl hFx
 have hfl := l12Flat_any g (o := o) b q
 have hfit : (flatB b q).Fit := flatB_fit hf
 have hwl : (flatP q).word.length ≤ 2 ^ 37 := by rw [hwf]; exact hl
 have hfo := fun p w hp => l12Formed_any p (flatB b q) (flatP q) w hp hfit hon hwl
 obtain ⟨F, hF⟩ : ∃ F, F = formedL (flatB b q) (flatP q) := ⟨_, rfl⟩
 rw [← hF] at hdef hFl hFx hfo
 obtain ⟨q', hq'⟩ : ∃ q', q' = flatP q := ⟨_, rfl⟩
 obtain ⟨b', hb'⟩ : ∃ b', b' = flatB b q := ⟨_, rfl⟩
 rw [← hq', ← hb'] at hfl hfo
 clear hF hq' hb' hwf hfit hwl hon
 obtain ⟨S, hS⟩ : ∃ S, S = wordsL b q := ⟨_, rfl⟩
 rw [← hS] at hdef ⊢
 clear hS
 obtain ⟨r, c, dn, s⟩ := q
 simp only [Bd.v, Pl.v] at hfl hfo hFl hFx ⊢
 simp only at hl
 have hpW := hp.alloc (.cells #[.int .i64 r, .int .i64 c, .bool dn, sv s] 61)
 have hbW := (Below.refl w.heap.size w).alloc (Nat.le_refl _) (.cells #[.int .i64 r, .int .i64 c, .bool dn, sv s] 61)
 obtain ⟨W, hW⟩ : ∃ W, W = w.alloc (.cells #[.int .i64 r, .int .i64 c, .bool dn, sv s] 61) := ⟨_, rfl⟩
 rw [← hW] at hpW hbW
 go_enter Tryz.func178, Tryz.ntmps178
 go_wp2_with (first
   | (go_at_call 80; rw [← hW]; refine (hfl W hpW hf).mono ?_; rintro e w1 ⟨rfl, hb1⟩)
   | (go_at_call 217; refine (hfo ⟨w1.heap.size, 0, none⟩ _ ((BAt.new w1 b' 41).alloc _)).mono ?_; rintro e w2 ⟨v2, rfl, own2, hb2⟩))
 have hw1 := hbW.trans (hb1.mono hbW.size)
 have hw1a := (hw1.alloc hw1.size (.cells #[.int .i64 b'.size, sv b'.prem, sv b'.cells] 41))
 have hw1b := hw1a.alloc hw1a.size (.cells #[.int .i64 q'.row, .int .i64 q'.col, .bool q'.down, sv q'.word] 61)
 have hw2 := hw1b.trans (hb2.mono hw1b.size)
 obtain ⟨A2, c2, rfl, hc2, hr2⟩ := own_sl own2
 clear hw1 hw1a hw1b hb1 hb2 own2 hfl hfo hpW hbW hW
 have hz2 := hw2.size
 go_loopw [8, 9] (fun o i wr => ∃ k : Nat, k ≤ F.length ∧ i = .int .i64 k ∧ wr.ownsRow w2.heap.size 9 1 o k (((F.take k).map lowS).map sv) ∧ Below w2.heap.size w2 wr) (fun _ i _ => F.length - (intOf i).toNat)
 case atStart => exact ⟨0, by omega, rfl, World.ownsRow_lit w2 #[] 0 (Nat.le_refl _) (by unfold maxLen; omega) rfl, (Below.refl _ _).alloc (Nat.le_refl _) _⟩
 case round =>
   obtain ⟨k, hk, rfl, hown, hb⟩ := hrel
   by_cases hlt : k < F.length
   · obtain ⟨ad, rfl, hadb, hc⟩ := (hr2.below hb).el hlt
     have hx := hFx F[k] (List.getElem_mem _)
     have hkk : (k : Int) < (F.length : Int) := by omega
     have hstep : Hid (((F.take (k + 1)).map lowS).map sv = ((F.take k).map lowS).map sv ++ [sv (lowS F[k])]) := Lib.hid (by rw [List.take_succ_eq_append_getElem hlt, List.map_append, List.map_append]; rfl)
     obtain ⟨x, hxx⟩ : ∃ x, x = F[k] := ⟨_, rfl⟩
     rw [← hxx] at hx hstep hc
     clear hxx
     go_wp2_with (first
       | (go_at_call 257; refine (l03Small_any x _ (by omega)).mono ?_; rintro e w3 ⟨rfl, hb3⟩; have hb4 := hb.trans (hb3.mono hb.size); have hown3 := own_call hown hb3)
       | (at_builtin; refine wpList_app strT rfl (.tmp 25) (.tmp 31) rfl _ _ _ rfl w2.heap.size hown3 [sv (lowS x)] rfl (by simp [Value.oneCell']) rfl (by omega) (by omega) hb4.size ?_; intro v5 w5 own5 hg5 _))
     go_roundw
     case rel => exact ⟨k + 1, by omega, by go_num, own_cast own5 hstep.out.symm rfl, Below.own hb4 hb4.size hown3 (Nat.le_refl _) hg5⟩
     case measure => simp [intOf]; omega
   · obtain rfl : k = F.length := by omega
     rw [List.take_length] at hown
     go_wp2_with (fail)
     go_ret
     exact ⟨_, rfl, own_cast (own_base hown hz2) (by rw [hdef.out]) (by rw [hdef.out, List.length_map]), hw2.trans (hb.mono hz2)⟩
end Go.Proofs.YtdkckikobefekaaGreatDoor
namespace Go.Proofs.YtdkckikobefekaaGreatDoor
open Go.RowKit RegP RegL RegV
set_option maxHeartbeats 2000000
set_option maxRecDepth 100000
def copyTo (a : List Str) (j : Nat) : List Value := (List.range a.length).map fun i => if i < j then sv (a.getD i []) else sv []
theorem copyTo_length (a : List Str) (j : Nat) : (copyTo a j).length = a.length := by simp [copyTo]
theorem copyTo_step (a : List Str) (j : Nat) (h : j < a.length) : (copyTo a j).set j (sv a[j]) = copyTo a (j + 1) := by
 apply List.ext_getElem?
 intro i
 unfold copyTo
 rw [List.getElem?_set]
 by_cases hij : j = i
 · subst hij
   rw [if_pos rfl, List.length_map, List.length_range, if_pos h, List.getElem?_map, List.getElem?_range h]
   simp [List.getD_eq_getElem?_getD, h]
 · rw [if_neg hij]
   by_cases hi : i < a.length
   · rw [List.getElem?_map, List.getElem?_map, List.getElem?_range hi]
     have : (i < j) = (i < j + 1) := by rw [eq_iff_iff]; omega
     simp only [Option.map_some, this]
   · rw [List.getElem?_eq_none (by simp; omega), List.getElem?_eq_none (by simp; omega)]
theorem copyTo_end (a : List Str) : copyTo a a.length = a.map sv := by
 apply List.ext_getElem?
 intro i
 unfold copyTo
 by_cases hi : i < a.length
 · rw [List.getElem?_map, List.getElem?_range hi, List.getElem?_map, List.getElem?_eq_getElem hi]
   simp [List.getD_eq_getElem?_getD, hi]
 · rw [List.getElem?_eq_none (by simp; omega), List.getElem?_eq_none (by simp; omega)]
theorem copyTo_start (a : List Str) : (madeCells (Value.string ⟨#[]⟩).cells (a.length * 1)).toList = copyTo a 0 := by
 apply List.ext_getElem?
 intro i
 unfold copyTo
 by_cases hi : i < a.length
 · rw [List.getElem?_map, List.getElem?_range hi]
   simp [madeCells, hi, Value.cells, Nat.mod_one]
 · rw [List.getElem?_eq_none (by simp [size_madeCells]; omega), List.getElem?_eq_none (by simp; omega)]
theorem toStringS_any (A : Option Addr) (c : Nat) (a : List Str) (w : World) (h : Reads w w.heap.size 1 A a.length (a.map sv)) (hn : a.length ≤ 2 ^ 32) :
   Calls Tryz.prog 66 #[.slice A a.length c] w fun e w' => ∃ v, e = .returned v ∧ w'.ownsRow w.heap.size 9 1 v a.length (a.map sv) ∧ Below w.heap.size w w' := by
 have hst := Lib.hid (copyTo_step a)
 have hen := Lib.hid (copyTo_end a)
 have hcl := Lib.hid (copyTo_length a)
 have hs0 := Lib.hid (copyTo_start a)
 have hi0 : (Tryz.prog.info? 9).map (fun i => (i.zero, i.size, i.bytes)) = some (some (.string ⟨#[]⟩), 1, 16) := by kernel_rfl
 obtain ⟨i, hi, hi2⟩ := Option.map_eq_some_iff.1 hi0
 simp only [Prod.mk.injEq] at hi2
 have hi1 : i.zero = some (.string ⟨#[]⟩) ∧ i.size = 1 ∧ i.bytes = 16 := hi2
 clear hi0 hi2
 have hmx : a.length ≤ maxLen := by unfold maxLen; omega
 have hby : i.bytes * a.length ≤ 281474976710656 := by rw [hi1.2.2]; omega
 go_enter Tryz.func66, Tryz.ntmps66
 go_wp2_with (refine wpList_make_full _ rfl (.tmp 6) (.tmp 6) 22 rfl w.heap.size 9 i (.string ⟨#[]⟩) 1 Tryz.underlying22 hi hi1.1 hi1.2.1 .i64 .i64 (a.length : Int) (a.length : Int) a.length rfl rfl rfl rfl hby hmx (Nat.le_refl _) ?_; intro w1 own1 hg1)
 rw [hs0.out] at own1
 have hb1 : Below w.heap.size w w1 := ⟨hg1.os, hg1.tape, hg1.output, hg1.size, fun k hk => hg1.block k hk (by simp)⟩
 clear hs0 hi hi1 hmx hby hg1
 go_loopw [4] (fun i wr => ∃ j : Nat, j ≤ a.length ∧ i = .int .i64 j ∧ wr.ownsRow w.heap.size 9 1 (.slice (some ⟨w.heap.size, 0, none⟩) a.length a.length) a.length (copyTo a j) ∧ Below w.heap.size w wr) (fun i _ => a.length - (intOf i).toNat)
 case atStart => exact ⟨0, by omega, rfl, own1, hb1⟩
 case round =>
   clear own1 hb1
   obtain ⟨j, hj, rfl, own, hb⟩ := hrel
   by_cases hjl : j < a.length
   · obtain ⟨ad, rfl, hd1, hc1⟩ := (h.below hb).el hjl
     have hstep := Lib.hid (hst.out j hjl)
     obtain ⟨x, hx⟩ : ∃ x, x = a[j] := ⟨_, rfl⟩
     rw [← hx] at hc1 hstep
     clear hx
     have hjj : (j : Int) < (a.length : Int) := by omega
     have hj0 : (0 : Int) ≤ (j : Int) := by omega
     have hcj := own.cellAt j (by omega)
     have hlen : j < (copyTo a j).length := by rw [hcl.out]; exact hjl
     rw [List.getElem?_eq_getElem hlen] at hcj
     obtain ⟨y, hy⟩ : ∃ y, y = (copyTo a j)[j] := ⟨_, rfl⟩
     rw [← hy] at hcj
     clear hy hlen
     have hfj := own.frozenAt j
     obtain ⟨own', hg'⟩ := own.stored j (sv x)
     rw [hstep.out] at own'
     have hb' := hb.setCell (p := ⟨w.heap.size, j, none⟩) (Nat.le_refl _) (sv x)
     go_wp2_with (fail)
     go_roundw
     case rel => exact ⟨j + 1, by omega, by go_num, own', hb'⟩
     case measure => simp only [intOf]; omega
   · obtain rfl : j = a.length := by omega
     rw [hen.out] at own
     go_wp2_with (fail)
     go_ret
     exact ⟨_, rfl, own, hb⟩
theorem toLexicon_any (A : Option Addr) (c : Nat) (a : List Str) (w : World) (h : Reads w w.heap.size 1 A a.length (a.map sv)) (hn : a.length ≤ 2 ^ 32) :
   Calls Tryz.prog 16 #[.agg #[.slice A a.length c]] w fun e w' => ∃ v, e = .returned (.agg #[v]) ∧ w'.ownsRow w.heap.size 9 1 v a.length (a.map sv) ∧ Below w.heap.size w w' := by
 have k1 := fun (W : World) (hW : Below w.heap.size w W) => toStringS_any A c a W ((h.below hW).more hW.size) hn
 obtain ⟨V, hV⟩ : ∃ V, V = a.map sv := ⟨_, rfl⟩
 rw [← hV] at k1 ⊢
 clear hV h
 obtain ⟨W, hW⟩ : ∃ W, W = ((w.alloc (.cells #[.slice A a.length c] 24)).alloc (.cells #[.slice none 0 0] 37)).alloc (.cells #[.slice none 0 0] 37) := ⟨_, rfl⟩
 have hb : Below w.heap.size w W := by rw [hW]; exact (((Below.refl _ _).alloc (Nat.le_refl _) _).alloc (by simp) _).alloc (by simp; omega) _
 have hB1 : Blk W (w.heap.size + 1) 37 #[.slice none 0 0] := by rw [hW]; exact (Blk.new1 w _ _ _).alloc _
 have hB2 : Blk W (w.heap.size + 1 + 1) 37 #[.slice none 0 0] := by rw [hW]; exact Blk.new2 w _ _ _ _
 have hz : W.heap.size = w.heap.size + 3 := by rw [hW]; simp
 go_enter Tryz.func16, Tryz.ntmps16
 go_wp2_with (go_at_call 66; rw [← hW]; refine (k1 _ hb).mono ?_; rintro e w1 ⟨v, rfl, own, hb1⟩
              obtain ⟨A1, c1, rfl, hc1, -⟩ := own_sl own
              have hC1 := hB1.below hb1 hB1.lt
              have hC2 := hB2.below hb1 hB2.lt
              have x1 : w1.cell? ⟨w.heap.size + 1, 0, none⟩ = some (.slice none 0 0) := hC1.cell 0
              have x2 : w1.cell? ⟨w.heap.size + 1 + 1, 0, none⟩ = some (.slice none 0 0) := hC2.cell 0
              have y1 := hC1.frozen 0
              have y2 := hC2.frozen 0
              have z1 := hC1.lt
              have z2 := hC2.lt)
 have hb2 := hb.trans (hb1.mono hb.size)
 have o1 := own_far own (p := ⟨w.heap.size + 1 + 1, 0, none⟩) (own_blk_ne own hC2 (by decide)) (.slice A1 a.length c1)
 have hD1 := hC1.far (p := ⟨w.heap.size + 1 + 1, 0, none⟩) (by simp) (.slice A1 a.length c1)
 have o2 := own_far o1 (p := ⟨w.heap.size + 1, 0, none⟩) (own_blk_ne o1 hD1 (by decide)) (.slice A1 a.length c1)
 have hb3 := (hb2.setCell (p := ⟨w.heap.size + 1 + 1, 0, none⟩) (by simp; omega) (.slice A1 a.length c1)).setCell (p := ⟨w.heap.size + 1, 0, none⟩) (by simp) (.slice A1 a.length c1)
 exact ret_row (by rfl) (w.heap.size + 1) 37 #[.slice A1 a.length c1] _ rfl (hD1.set_ 0 _) Tryz.underlying37 rfl (by kernel_rfl) rfl ⟨_, rfl, own_base o2 hb.size, hb3⟩
def fstV : Value → Value
 | .tuple a => a.getD 0 undef
 | _ => undef
def ansL (C : Int) (M : List Str) : List Str := if C = 0 then M else []
structure SQ (W : World) (n : Nat) (V : List Value) (iL ic : Nat) (C : Int) (M : List Str) (σ : Nat → Value) (L : Nat → Bool) (w : World) : Prop where
 low : Below W.heap.size W w
 lex : L iL = true → ∃ v, σ iL = .agg #[v] ∧ w.ownsRow W.heap.size 9 1 v n V
 call : L ic = true → ∃ v, σ ic = .tuple #[v, .int .i64 C] ∧ w.ownsRow W.heap.size 9 1 v (ansL C M).length ((ansL C M).map sv)
 mv : L (ic + 1) = true → L ic = true ∧ σ (ic + 1) = σ ic
 e0 : L (ic + 2) = true → L ic = true ∧ σ (ic + 2) = fstV (σ ic)
 a0 : L (ic + 4) = true → L ic = true ∧ σ (ic + 4) = fstV (σ ic)
section
variable {W w w' : World} {n : Nat} {V : List Value} {iL ic i : Nat} {C : Int} {M : List Str} {σ : Nat → Value} {L : Nat → Bool}
theorem SQ.start : SQ W n V iL ic C M σ (fun _ => false) W.drew := ⟨(Below.refl _ _).drew, (fun h => by cases h), (fun h => by cases h), (fun h => by cases h), (fun h => by cases h), (fun h => by cases h)⟩
theorem SQ.below (h : SQ W n V iL ic C M σ L w) (hb : Below w.heap.size w w') : SQ W n V iL ic C M σ L w' :=
 ⟨h.low.trans (hb.mono h.low.size), fun e => by
   obtain ⟨v, h1, h2⟩ := h.lex e
   exact ⟨v, h1, own_call h2 hb⟩, fun e => by
   obtain ⟨v, h1, h2⟩ := h.call e
   exact ⟨v, h1, own_call h2 hb⟩, h.mv, h.e0, h.a0⟩
theorem SQ.keep (h : SQ W n V iL ic C M σ L w) (h1 : i ≠ iL) (h2 : i < ic ∨ i = ic + 3 ∨ ic + 4 < i) : SQ W n V iL ic C M σ (upd L i) w :=
 ⟨h.low, fun e => h.lex (by rwa [upd_ne L h1.symm] at e), fun e => h.call (by rwa [upd_ne L (by omega)] at e), fun e => by
   rw [upd_ne L (by omega)] at e; rw [upd_ne L (by omega)]; exact h.mv e, fun e => by
   rw [upd_ne L (by omega)] at e; rw [upd_ne L (by omega)]; exact h.e0 e, fun e => by
   rw [upd_ne L (by omega)] at e; rw [upd_ne L (by omega)]; exact h.a0 e⟩
theorem SQ.putE (h : SQ W n V iL ic C M σ L w) (hi : iL < ic ∨ ic + 4 < iL) (hc : L ic = true) {u : Value} (hu : u = fstV (σ ic)) : SQ W n V iL ic C M (sub σ (ic + 2) u) (upd L (ic + 2)) w := by
 subst hu
 refine ⟨h.low, fun e => ?_, fun e => ?_, fun e => ?_, fun _ => ?_, fun e => ?_⟩
 · rw [upd_ne L (by omega)] at e; rw [sub_ne _ _ (by omega)]; exact h.lex e
 · rw [upd_ne L (by omega)] at e; rw [sub_ne _ _ (by omega)]; exact h.call e
 · rw [upd_ne L (by omega)] at e; rw [upd_ne L (by omega), sub_ne _ _ (by omega), sub_ne _ _ (by omega)]; exact h.mv e
 · rw [upd_ne L (by omega), sub_same, sub_ne _ _ (by omega)]; exact ⟨hc, rfl⟩
 · rw [upd_ne L (by omega)] at e; rw [upd_ne L (by omega), sub_ne _ _ (by omega), sub_ne _ _ (by omega)]; exact h.a0 e
end
theorem szGo_bd : ∀ (a : List Str) (l : Int), 0 ≤ szGo a l → (∀ x ∈ a, (x.length : Int) ≤ l) ∧ szGo a l ≤ l
 | [], l, h => ⟨fun x hx => (by cases hx), Int.le_refl _⟩
 | x :: r, l, h => by
   rw [szGo] at h ⊢
   split at h
   · omega
   · rename_i hl
     rw [if_neg hl]
     obtain ⟨h1, h2⟩ := szGo_bd r _ h
     refine ⟨fun y hy => ?_, by omega⟩
     rcases List.mem_cons.1 hy with e | hy
     · subst e; omega
     · have := h1 y hy; omega
theorem szS_bd {a : List Str} {l : Int} (h : 0 ≤ szS a l) : (a.length : Int) ≤ l ∧ (∀ x ∈ a, (x.length : Int) ≤ l) ∧ szS a l ≤ l := by
 unfold szS at h ⊢
 split at h
 · omega
 · rename_i hl
   rw [if_neg hl]
   obtain ⟨h1, h2⟩ := szGo_bd a _ h
   exact ⟨by omega, fun x hx => by have := h1 x hx; omega, by omega⟩
theorem szB_bd {b : Bd} {l : Int} (h : 0 ≤ szB b l) : (b.prem.length : Int) ≤ l ∧ (b.cells.length : Int) ≤ l := by
 unfold szB at h
 split at h
 · omega
 · split at h
   · omega
   · omega
end Go.Proofs.YtdkckikobefekaaGreatDoor
namespace Go.Proofs.YtdkckikobefekaaGreatDoor
structure TS where
 letters : Str
 values : List Int
 counts : List Int
 blanks : Int
def findK : Str → UInt8 → Nat
 | [], _ => 0
 | x :: r, c => if x == c then 0 else findK r c + 1
def valT (t : TS) (c : UInt8) : Int := if findK t.letters c < t.letters.length then t.values.getD (findK t.letters c) 0 else 0
def ltF (p : UInt8) : Int := if p == 50 then 2 else if p == 51 then 3 else 1
def wdF (p : UInt8) : Int := if p == 100 then 2 else if p == 116 then 3 else 1
def Bd.prm (b : Bd) (r c : Int) : UInt8 := b.prem.getD (r * b.size + c).toNat 0
def wfL (l : Str) : Int := l.foldl (fun a p => a * wdF p) 1
def aftB : Option UInt8 → UInt8 → Bool
 | none, _ => true
 | some q, a => decide (q.toNat < a.toNat)
def smFrom : Option UInt8 → Str → Bool
 | _, [] => true
 | p, a :: r => smallB a && (aftB p a && smFrom (some a) r)
def vcB : List Int → List Int → Bool
 | v :: vs, c :: cs => inR v 0 20 && (inR c 1 20 && vcB vs cs)
 | _, _ => true
def tripB : Option UInt8 → Str → List Int → List Int → Bool
 | p, a :: r, v :: vs, c :: cs => smallB a && (aftB p a && (inR v 0 20 && (inR c 1 20 && tripB (some a) r vs cs)))
 | _, _, _, _ => true
def pairB : Str → Bool
 | a :: b :: r => decide (a.toNat < b.toNat) && pairB (b :: r)
 | _ => true
theorem tripB_eq : ∀ (l : Str) (p : Option UInt8) (vs cs : List Int), vs.length = l.length → cs.length = l.length → tripB p l vs cs = (smFrom p l && vcB vs cs)
 | [], p, [], [], _, _ => rfl
 | [], _, _ :: _, _, h, _ => by simp at h
 | [], _, [], _ :: _, _, h => by simp at h
 | _ :: _, _, [], _, h, _ => by simp at h
 | _ :: _, _, _ :: _, [], _, h => by simp at h
 | a :: l, p, v :: vs, c :: cs, h1, h2 => by
   rw [tripB, smFrom, vcB, tripB_eq l (some a) vs cs (by simpa using h1) (by simpa using h2)]
   cases smallB a <;> cases aftB p a <;> cases inR v 0 20 <;> cases inR c 1 20 <;> cases smFrom (some a) l <;> simp
theorem smFrom_some : ∀ (l : Str) (q : UInt8), smFrom (some q) l = (pairB (q :: l) && l.all smallB)
 | [], q => by simp [smFrom, pairB]
 | a :: r, q => by
   rw [smFrom, smFrom_some r a, pairB, List.all_cons]
   show (smallB a && (decide (q.toNat < a.toNat) && _)) = _
   cases smallB a <;> cases decide (q.toNat < a.toNat) <;> cases pairB (a :: r) <;> cases List.all r smallB <;> rfl
theorem smFrom_pair : ∀ (l : Str), smFrom none l = (pairB l && l.all smallB)
 | [] => rfl
 | a :: r => by
   rw [smFrom, smFrom_some r a, List.all_cons]
   show (smallB a && (true && _)) = _
   cases smallB a <;> cases pairB (a :: r) <;> cases List.all r smallB <;> rfl
theorem smFrom_len : ∀ (l : Str) (q : UInt8), smFrom (some q) l = true → smallB q = true → l.length + q.toNat ≤ 122
 | [], q, _, hq => by
   unfold smallB at hq
   simp only [Bool.and_eq_true, decide_eq_true_eq] at hq
   simp only [List.length_nil]
   omega
 | a :: r, q, h, _ => by
   rw [smFrom] at h
   simp only [Bool.and_eq_true, aftB, decide_eq_true_eq] at h
   have h2 := smFrom_len r a h.2.2 h.1
   rw [List.length_cons]
   omega
theorem smFrom_26 {l : Str} (h : smFrom none l = true) : l.length ≤ 26 := by
 match l, h with
 | [], _ => exact Nat.zero_le _
 | a :: r, h =>
   rw [smFrom] at h
   simp only [Bool.and_eq_true] at h
   have h2 := smFrom_len r a h.2.2 h.1
   have h3 := h.1
   unfold smallB at h3
   simp only [Bool.and_eq_true, decide_eq_true_eq] at h3
   rw [List.length_cons]
   omega
def tsB (t : TS) : Bool :=
 decide (1 ≤ t.letters.length) && (smFrom none t.letters && (decide (t.values.length = t.letters.length) && (decide (t.counts.length = t.letters.length) && (inR t.blanks 0 4 && (vcB t.values t.counts && decide (t.blanks + t.counts.sum ≤ 120))))))
theorem vcB_sum : ∀ (vs cs : List Int), vs.length = cs.length → vcB vs cs = true → (∀ c ∈ cs, 1 ≤ c ∧ c ≤ 20) ∧ ∀ v ∈ vs, 0 ≤ v ∧ v ≤ 20
 | [], [], _, _ => ⟨fun _ h => (by cases h), fun _ h => (by cases h)⟩
 | [], _ :: _, h, _ => by simp at h
 | _ :: _, [], h, _ => by simp at h
 | v :: vs, c :: cs, h, hb => by
   rw [vcB] at hb
   simp only [Bool.and_eq_true, inR, decide_eq_true_eq] at hb
   obtain ⟨h1, h2⟩ := vcB_sum vs cs (by simpa using h) hb.2.2
   refine ⟨fun x hx => ?_, fun x hx => ?_⟩
   · rcases List.mem_cons.1 hx with e | hx
     · subst e; exact hb.2.1
     · exact h1 x hx
   · rcases List.mem_cons.1 hx with e | hx
     · subst e; exact hb.1
     · exact h2 x hx
end Go.Proofs.YtdkckikobefekaaGreatDoor
