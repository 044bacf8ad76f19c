/-
  Contracts: a strings.Builder that the call has made: a byte written, the string read; Contracts: the pile of counts (layer 3 of the impl package); Contracts: counts without others; the tiles that a pile keeps (layer 3 of the impl package); Contracts: piles without tiles, tiles of letters, what a pile can make (layer 3 of the impl package); Contracts: squares of boards and of plays (layers 11 and 12 of the impl package); Contracts: the squares of a play (layer 12 of the impl package).
  Conditions: at most 2^37 bytes; counts of common size; counts and lengths of common size; tiles alone; tiles alone; lengths at most 2^36; the board has a size from 5 to 15; numbers of common size.
-/
import Derived.Test.YtdkckikobefekaaGreatDoorM04
import Derived.Lib.Builder
import Derived.Lib.UnsafeStr
import Derived.Laws.Externs
import Derived.RegionTactic
import Derived.Test.YtdkckikobefekaaGreatDoorM05
import Derived.Test.YtdkckikobefekaaGreatDoorM09
namespace Go.Proofs.YtdkckikobefekaaGreatDoor
open Go.RowKit RegP RegL RegV
set_option maxHeartbeats 1000000
set_option maxRecDepth 100000
def BldAt (w : World) (g base : Nat) (p : Value) (l : Str) : Prop := base ≤ g ∧ ∃ v, Blk w g 289 #[p, v] ∧ w.ownsRow base 5 1 v l.length (l.map bv) ∧ (l = [] → v = .slice none 0 0)
def selfP (g : Nat) : Value := .pointer (some ⟨g, 0, none⟩)
theorem Blk.shape {w : World} {g : Nat} {t : TypeId} {cs : Array Value} (h : Blk w g t cs) : w.shape? g = some (t, cs.size) := by
 unfold Blk at h
 simp [World.shape?, h]
theorem copy_used (g : Nat) (w : World) (h0 : w.cell? ⟨g, 0, none⟩ = some (.pointer (some ⟨g, 0, none⟩))) :
   Calls Tryz.prog 300 #[.pointer (some ⟨g, 0, none⟩)] w fun e w' => e = .returned (.tuple #[]) ∧ w = w' := by
 obtain ⟨j, hj, _⟩ := Option.map_eq_some_iff.1 (show (Tryz.prog.info? 289).map (·.size) = some 2 by kernel_rfl)
 have hq := fun w => Lib.run_neq_ptr_same (P := Tryz.prog) w ⟨g, 0, none⟩ Tryz.underlying287 hj
 go_enter Tryz.func300, Tryz.ntmps300
 go_wp2_with (fail)
 go_end0
 exact ⟨rfl, rfl⟩
theorem copy_fresh (g : Nat) (w : World) (v : Value) (hb : Blk w g 289 #[.pointer none, v]) :
   Calls Tryz.prog 300 #[.pointer (some ⟨g, 0, none⟩)] w fun e w' => e = .returned (.tuple #[]) ∧ w' = w.setCell ⟨g, 0, none⟩ (.pointer (some ⟨g, 0, none⟩)) := by
 obtain ⟨j, hj, hjs⟩ := Option.map_eq_some_iff.1 (show (Tryz.prog.info? 289).map (·.size) = some 2 by kernel_rfl)
 have h0 : w.cell? ⟨g, 0, none⟩ = some (.pointer none) := hb.cell 0
 have hz : w.frozen? ⟨g, 0, none⟩ = false := hb.frozen 0
 have hs : w.shape? g = some (289, 2) := hb.shape
 have k1 := Lib.run_to_unsafe (P := Tryz.prog) (dst := 359) w ⟨g, 0, none⟩ Tryz.underlying287 Tryz.underlying359 hj (by rw [hjs]; decide) hs (Nat.zero_lt_succ 1)
 have k2 := Lib.run_from_unsafe (P := Tryz.prog) w ⟨g, 0, none⟩ Tryz.underlying359 Tryz.underlying287 hj hs (by kernel_rfl)
 have k3 : ∀ x : Value, (callFunc 335 #[x]).run Tryz.prog w = .ok (.value x) w := fun x => by
   rw [run_callFunc_extern Tryz.func335 (by kernel_rfl) (by kernel_rfl) (by kernel_rfl) (e := Extern.AbiNoEscape.same) (by kernel_rfl)]
   rfl
 go_enter Tryz.func300, Tryz.ntmps300
 go_wp2_with (fail)
 go_end0
 exact ⟨rfl, rfl⟩
theorem copyCheck_any (g base : Nat) (p : Value) (l : Str) (w : World) (hp : p = .pointer none ∨ p = selfP g) (h : BldAt w g base p l) :
   Calls Tryz.prog 300 #[.pointer (some ⟨g, 0, none⟩)] w fun e w' => e = .returned (.tuple #[]) ∧ BldAt w' g base (selfP g) l ∧ Below base w w' := by
 obtain ⟨hbg, v, hb, hown, hnil⟩ := h
 rcases hp with rfl | rfl
 · refine (copy_fresh g w v hb).mono ?_
   rintro e w' ⟨rfl, rfl⟩
   exact ⟨rfl, ⟨hbg, v, hb.set_ 0 _, own_far hown (own_blk_ne hown hb (by decide)) _, hnil⟩, (Below.refl _ _).setCell hbg _⟩
 · refine (copy_used g w (hb.cell 0)).mono ?_
   rintro e w' ⟨rfl, rfl⟩
   exact ⟨rfl, ⟨hbg, v, hb, hown, hnil⟩, Below.refl _ _⟩
theorem WriteByte_any (g base : Nat) (p : Value) (l : Str) (c : UInt8) (w : World) (hp : p = .pointer none ∨ p = selfP g) (h : BldAt w g base p l) (hl : l.length ≤ 2 ^ 37) (hbw : base ≤ w.heap.size) :
   Calls Tryz.prog 249 #[.pointer (some ⟨g, 0, none⟩), bv c] w fun e w' => e = .returned .nilIface ∧ BldAt w' g base (selfP g) (l ++ [c]) ∧ Below base w w' := by
 have kc := fun w h => copyCheck_any g base p l w hp h
 go_enter Tryz.func249, Tryz.ntmps249
 go_wp2_with (first
   | (go_at_call 300; refine (kc _ h).mono ?_; rintro e w1 ⟨rfl, ⟨hbg, v, hb, hown, _⟩, hb1⟩
      obtain ⟨A1, n1, rfl, _, _⟩ := own_sl hown
      have c1 : w1.cell? ⟨g, 1, none⟩ = some (.slice A1 l.length n1) := hb.cell 1
      have hz1 := hb1.size)
   | (at_builtin; refine wpList_app byteT rfl (.tmp 11) (.tmp 13) rfl _ l.length (l.map bv) rfl base hown [bv c] rfl (by simp [Value.oneCell']) rfl (by omega) (by omega) (by omega) ?_; intro v2 w2 own2 hg2 hat2
      have hne := own_blk_ne hown hb (by decide)
      have hB2 := hb.grown hg2 (fun h => hne h.symm)
      have d1 : w2.cell? ⟨g, 1, none⟩ = some (.slice A1 l.length n1) := hB2.cell 1
      have f1 : w2.frozen? ⟨g, 1, none⟩ = false := hB2.frozen 1
      have hb2 := Below.own hb1 (Nat.le_trans hbw hz1) hown (Nat.le_refl _) hg2
      obtain ⟨A2, c2, rfl, _, _⟩ := own_sl own2))
 go_ret
 exact ⟨rfl, ⟨hbg, .slice A2 (l.length + 1) c2, hB2.set_ 1 _, own_cast (own_far own2 (own_blk_ne (t := 289) own2 hB2 (by decide)) _) (by simp) (by simp), fun h => by simp at h⟩, hb2.setCell hbg _⟩
theorem String_any (g base : Nat) (p : Value) (l : Str) (w : World) (h : BldAt w g base p l) :
   Calls Tryz.prog 251 #[.pointer (some ⟨g, 0, none⟩)] w fun e w' => e = .returned (sv l) ∧ Below base w w' := by
 obtain ⟨hbg, v, hb, hown, hnil⟩ := h
 rcases hown.2 with ⟨rfl, h0⟩ | ⟨gv, cap, cur, rfl, hgv, hcur, hlc, hcm, hcs, htk⟩
 · obtain rfl : l = [] := List.eq_nil_of_length_eq_zero h0
   have c1 : w.drew.cell? ⟨g, 1, none⟩ = some (.slice none 0 0) := hb.drew.cell 1
   have k1 := fun w => Lib.run_unsafeString_none (P := Tryz.prog) w 331 3 9 none
   have k2 : (Builtin.unsafeSliceData_ #[209] 331 #[.slice none 0 0]).run Tryz.prog w.drew = .ok (.pointer none) w.drew := rfl
   clear hown h0
   go_enter Tryz.func251, Tryz.ntmps251
   go_wp2_with (fail)
   go_region
   all_goals (go_wp2; go_ret; exact ⟨rfl, (Below.refl _ _).drew⟩)
 · have c1 : w.drew.cell? ⟨g, 1, none⟩ = some (.slice (some ⟨gv, 0, none⟩) l.length cap) := hb.drew.cell 1
   have hBc : Blk w gv 5 cur := hcur
   by_cases hl : l = []
   · have := hnil hl
     cases this
   · have k2 : (Builtin.unsafeSliceData_ #[209] 331 #[.slice (some ⟨gv, 0, none⟩) l.length cap]).run Tryz.prog w.drew = .ok (.pointer (some ⟨gv, 0, none⟩)) w.drew := Lib.run_unsafeSliceData_row _ _ _ _ _ _ (by have := List.length_pos_iff.2 hl; omega)
     have k3 : (Builtin.unsafeString_ #[331, 3] 9 #[.pointer (some ⟨gv, 0, none⟩), .int .i64 l.length]).run Tryz.prog w.drew = .ok (.string ⟨l.toArray⟩) (w.drew.freeze ⟨gv, 0, none⟩ l.length) := by
       refine Lib.run_unsafeString_row w.drew 331 3 9 5 Tryz.underlying331 (by kernel_rfl) gv cur.size hBc.drew.shape l hl (by omega) (by unfold maxLen at hcm; omega) ?_
       intro j x hx
       exact hown.cells (g := gv) rfl j (.int .u8 x.toNat) (by rw [List.getElem?_map, hx]; rfl)
     have hl' := Lib.hid hl
     clear hown hlc hcs htk hl
     go_enter Tryz.func251, Tryz.ntmps251
     go_wp2_with (fail)
     go_region
     all_goals (go_wp2; go_ret; exact ⟨rfl, Lib.below_freeze (Below.refl _ _).drew (p := ⟨gv, 0, none⟩) hgv _⟩)
theorem run_index_cnt (c : List Int) (k : Nat) (w : World) (h : k < 27) (hc : c.length = 27) :
   (Instr.index 223 (.agg (cntA c)) (.int .i64 (k : Int))).run Tryz.prog w = .ok (.int .i64 (c.getD k 0)) w := by
 have hg := cntA_get c k (by omega)
 have hu : Tryz.prog.underlying 223 = some (.array 27 3) := Tryz.underlying223
 have hagg : ∀ w, (isAgg 3).run Tryz.prog w = .ok false w := fun w => by kernel_rfl
 have hsz : ∀ w, (Go.sizeOf 3).run Tryz.prog w = .ok 1 w := fun w => by kernel_rfl
 simp [Instr.index, asIntOf, run_underlying hu, hsz, hagg, hg, part, h]
def tileC (k : Nat) : UInt8 := if k = 0 then 63 else UInt8.ofNat (96 + k)
theorem tileC_nat (k : Nat) (h : k < 27) (h0 : k ≠ 0) : ((tileC k).toNat : Int) = 96 + k := by
 unfold tileC
 rw [if_neg h0, UInt8.toNat_ofNat']
 omega
theorem tileAt_any (k : Nat) (w : World) (h : k < 27) :
   Calls Tryz.prog 250 #[.int .i64 (k : Int)] w fun e w' => e = .returned (bv (tileC k)) ∧ w = w' := by
 by_cases h0 : k = 0
 · subst h0
   go_enter Tryz.func250, Tryz.ntmps250
   go_wp2_with (fail)
   go_ret
   exact ⟨rfl, rfl⟩
 · have h0' : ((k : Int) == 0) = false := by simp [h0]
   have hn := Lib.hid (tileC_nat k h h0)
   have hk : (k : Int) < 27 := by omega
   have hk1 : (1 : Int) ≤ (k : Int) := by omega
   clear h h0
   go_enter Tryz.func250, Tryz.ntmps250
   go_wp2_with (fail)
   go_ret
   exact ⟨congrArg (fun n => Ending.returned (.int .u8 n)) (by rw [hn.out]; omega), rfl⟩
def pileTo (c : List Int) (k : Nat) : Str := (List.range k).flatMap fun i => List.replicate (c.getD i 0).toNat (tileC i)
def pileL (c : List Int) : Str := pileTo c 27
theorem pileTo_succ (c : List Int) (k : Nat) : pileTo c (k + 1) = pileTo c k ++ List.replicate (c.getD k 0).toNat (tileC k) := by
 simp [pileTo, List.range_succ]
theorem pileTo_le (c : List Int) (k : Nat) : ∀ d, (pileTo c k).length ≤ (pileTo c (k + d)).length
 | 0 => Nat.le_refl _
 | d + 1 => by
   have := pileTo_le c k d
   rw [show k + (d + 1) = (k + d) + 1 by omega, pileTo_succ, List.length_append]; omega
theorem pile_any (c : List Int) (w : World) (hc : c.length = 27) (hnn : ∀ j, 0 ≤ c.getD j 0) (hs : (pileL c).length ≤ 2 ^ 37) :
   Calls Tryz.prog 167 #[.agg (cntA c)] w fun e w' => e = .returned (sv (pileL c)) ∧ Below w.heap.size w w' := by
 have hidx := fun (k : Nat) (h : k < 27) (w : World) => run_index_cnt c k w h hc
 have hsz : (cntA c).size = 27 := by rw [cntA_size, hc]
 obtain ⟨X, hX⟩ : ∃ X, X = cntA c := ⟨_, rfl⟩
 have hPL : Hid (pileL c = pileTo c 27) := Lib.hid rfl
 obtain ⟨PL, hPLe⟩ : ∃ PL, PL = pileL c := ⟨_, rfl⟩
 rw [← hPLe] at hPL hs ⊢
 rw [← hX] at hidx hsz ⊢
 clear hX hPLe
 have hs27 := Lib.hid hsz
 have hidx' := Lib.hid hidx
 clear hsz hidx hc
 go_enter Tryz.func167, Tryz.ntmps167
 go_wp2_with (refine wpList_load_row rfl 223 (.tmp 1) rfl w.heap.size rfl 223 X (0, 0) _ ((Blk.new w 223 X).alloc _) Tryz.underlying223 rfl (by rw [hs27.out]; kernel_rfl) ?_)
 have hB0 : BldAt ((w.alloc (.cells X 223)).alloc (.cells #[.pointer none, .slice none 0 0] 289)) (w.heap.size + 1) w.heap.size (.pointer none) [] :=
   ⟨by omega, _, Blk.new1 w _ _ _, ⟨rfl, .inl ⟨rfl, rfl⟩⟩, fun _ => rfl⟩
 have hb0 : Below w.heap.size w ((w.alloc (.cells X 223)).alloc (.cells #[.pointer none, .slice none 0 0] 289)) := ((Below.refl _ _).alloc (Nat.le_refl _) _).alloc (by simp) _
 have hn' := Lib.hid hnn
 clear hnn
 go_loopw [7] (fun i wr => ∃ (k : Nat) (p : Value), k ≤ 27 ∧ i = .int .i64 k ∧ Hid (p = .pointer none ∨ p = selfP (w.heap.size + 1)) ∧ BldAt wr (w.heap.size + 1) w.heap.size p (pileTo c k) ∧ Below w.heap.size w wr) (fun i _ => 27 - (intOf i).toNat)
 case atStart => exact ⟨0, _, by omega, rfl, .inl rfl, hB0, hb0⟩
 case round =>
   clear hB0 hb0
   obtain ⟨k, p, hk, rfl, hp, hB, hb⟩ := hrel
   by_cases hlt : k < 27
   · have hkk : (k : Int) < 27 := by omega
     have hk0 : (0 : Int) ≤ (k : Int) := by omega
     have hix := hidx'.out k hlt
     have hsucc := pileTo_succ c k
     have hle := pileTo_le c (k + 1) (26 - k)
     rw [show k + 1 + (26 - k) = 27 by omega, ← hPL.out] at hle
     have hsl : Hid ((pileTo c (k + 1)).length = (pileTo c k).length + (c.getD k 0).toNat) := Lib.hid (by rw [hsucc, List.length_append, List.length_replicate])
     have hsc := Lib.hid hsucc
     obtain ⟨n, hn⟩ : ∃ n : Nat, c.getD k 0 = (n : Int) := ⟨(c.getD k 0).toNat, by have := hn'.out k; omega⟩
     have hsc2 : Hid (pileTo c (k + 1) = pileTo c k ++ List.replicate n (tileC k)) := Lib.hid (by rw [hsc.out, hn]; simp)
     have hlen : (pileTo c k).length + n ≤ 137438953472 := by have h := hsl.out; rw [hn] at h; simp at h; omega
     rw [hn] at hix
     have kt := fun w => tileAt_any k w hlt
     obtain ⟨P0, hP0⟩ : ∃ P0, P0 = pileTo c k := ⟨_, rfl⟩
     rw [← hP0] at hB hsc2 hlen
     obtain ⟨t, ht⟩ : ∃ t, t = tileC k := ⟨_, rfl⟩
     rw [← ht] at kt hsc2
     clear hsucc hsc hsl hn hP0 ht hle
     go_wp2_with (fail)
     obtain ⟨wo, rfl⟩ : ∃ wo : World, wo = wr := ⟨_, rfl⟩
     go_loopw [5] (fun i wr => ∃ (m : Nat) (p : Value), m ≤ n ∧ i = .int .i64 m ∧ Hid (p = .pointer none ∨ p = selfP (w.heap.size + 1)) ∧ BldAt wr (w.heap.size + 1) w.heap.size p (P0 ++ List.replicate (n - m) t) ∧ Below w.heap.size w wr) (fun i _ => (intOf i).toNat)
     case atStart => exact ⟨n, p, Nat.le_refl _, rfl, hp, by simpa using hB, hb⟩
     case round =>
       clear hB hb hp
       obtain ⟨m, p, hm, rfl, hp, hB, hb⟩ := hrel
       by_cases hm0 : 0 < m
       · have hm1 : (0 : Int) < (m : Int) := by omega
         have hln : (P0 ++ List.replicate (n - m) t).length ≤ 2 ^ 37 := by simp; omega
         have hstep : Hid (P0 ++ List.replicate (n - (m - 1)) t = (P0 ++ List.replicate (n - m) t) ++ [t]) := Lib.hid (by rw [show n - (m - 1) = (n - m) + 1 by omega, List.replicate_succ', List.append_assoc])
         have hz := hb.size
         have hsub : Hid ((m : Int) - 1 = ((m - 1 : Nat) : Int)) := Lib.hid (by omega)
         obtain ⟨L, hL⟩ : ∃ L, L = P0 ++ List.replicate (n - m) t := ⟨_, rfl⟩
         rw [← hL] at hB hln hstep
         clear hL
         go_wp2_with (first
           | (go_at_call 250; refine (kt _).mono ?_; rintro e w' ⟨rfl, rfl⟩)
           | (go_at_call 249; refine (WriteByte_any (w.heap.size + 1) w.heap.size p L t _ hp.out hB hln hz).mono ?_; rintro e w2 ⟨rfl, hB2, hb2⟩))
         go_roundw
         case rel => exact ⟨m - 1, _, by omega, by rw [hsub.out], .inr rfl, by rw [hstep.out]; exact hB2, hb.trans hb2⟩
         case measure => simp [intOf]; omega
       · obtain rfl : m = 0 := by omega
         go_wp2_with (fail)
         go_roundw
         case rel => exact ⟨k + 1, p, by omega, by go_num, hp, by rw [hsc2.out]; simpa using hB, hb⟩
         case measure => simp [intOf]; omega
   · obtain rfl : k = 27 := by omega
     rw [← hPL.out] at hB
     go_wp2_with (go_at_call 251; refine (String_any (w.heap.size + 1) w.heap.size p PL _ hB).mono ?_; rintro e w2 ⟨rfl, hb2⟩)
     go_ret
     exact ⟨rfl, hb.trans hb2⟩
theorem ret_row_slot {P : Program} {fn : Func} {R : Ending → World → Prop} {a : Act} {w : World} {p q : Tmp} {ty : TypeId} {v : Value} (h : fn.results = #[.cell p ty, .tmp q]) (g : Nat) (t : TypeId) (cs : Array Value) (d : TypeDesc)
   (hp : a.tmps.getD p undef = .pointer (some ⟨g, 0, none⟩)) (hg : Blk w g t cs) (hu : P.underlying ty = some d)
   (hd : (match d with | .struct _ | .array _ _ => true | _ => false) = true) (hi : (P.info? ty).map (·.size) = some cs.size)
   (hq : a.tmps.getD q undef = v) (hdf : a.defers = [])
   (hR : R (.returned (.tuple #[.agg cs, v])) w) : bodyPost P fn R .ret a w := by
 have e1 : a.tmps[p]?.getD undef = .pointer (some ⟨g, 0, none⟩) := by simpa using hp
 have e2 : a.tmps[q]?.getD undef = v := by simpa using hq
 refine bodyPost_ret (v := .tuple #[.agg cs, v]) ?_ hdf hR
 simp [results, h, e1, e2, asAddr, run_loadVar_row w g t ty cs (0, 0) d hg hu hd hi]
def subTo (c d : List Int) (k : Nat) : List Int := (List.range 27).map fun i => if i < k then c.getD i 0 - d.getD i 0 else c.getD i 0
def lessOk (c d : List Int) : Bool := (List.range 27).all fun i => decide (d.getD i 0 ≤ c.getD i 0)
def lessR (c d : List Int) : List Int := if lessOk c d then subTo c d 27 else zeroC
theorem subTo_length (c d : List Int) (k : Nat) : (subTo c d k).length = 27 := by simp [subTo]
theorem subTo_get (c d : List Int) (k i : Nat) (h : i < 27) : (subTo c d k).getD i 0 = if i < k then c.getD i 0 - d.getD i 0 else c.getD i 0 := by
 simp [subTo, List.getD_eq_getElem?_getD, List.getElem?_map, List.getElem?_range h]
theorem subTo_zero (c d : List Int) (h : c.length = 27) : subTo c d 0 = c := by
 refine List.ext_getElem (by rw [subTo_length, h]) fun i h1 h2 => ?_
 have := subTo_get c d 0 i (by omega)
 simpa [List.getD_eq_getElem?_getD, List.getElem?_eq_getElem h1, List.getElem?_eq_getElem h2] using this
theorem subTo_step (c d : List Int) (k : Nat) : (subTo c d k).set k (c.getD k 0 - d.getD k 0) = subTo c d (k + 1) := by
 refine List.ext_getElem (by simp [subTo_length]) fun i h1 h2 => ?_
 rw [subTo_length] at h2
 have e1 := subTo_get c d k i h2
 have e2 := subTo_get c d (k + 1) i h2
 rw [List.getElem_set]
 have f1 : (subTo c d k)[i]'(by rw [subTo_length]; exact h2) = (subTo c d k).getD i 0 := by simp [List.getD_eq_getElem?_getD, List.getElem?_eq_getElem (show i < (subTo c d k).length by rw [subTo_length]; exact h2)]
 have f2 : (subTo c d (k + 1))[i]'(by rw [subTo_length]; exact h2) = (subTo c d (k + 1)).getD i 0 := by simp [List.getD_eq_getElem?_getD, List.getElem?_eq_getElem (show i < (subTo c d (k + 1)).length by rw [subTo_length]; exact h2)]
 rw [f1, f2, e1, e2]
 by_cases hik : k = i
 · subst hik; rw [if_pos rfl, if_pos (by omega)]
 · rw [if_neg hik]
   by_cases h3 : i < k
   · rw [if_pos h3, if_pos (by omega)]
   · rw [if_neg h3, if_neg (by omega)]
theorem less_any (c d : List Int) (w : World) (hc : c.length = 27) (hd : d.length = 27) (hcb : ∀ j, 0 ≤ c.getD j 0 ∧ c.getD j 0 ≤ 2 ^ 40) (hdb : ∀ j, 0 ≤ d.getD j 0 ∧ d.getD j 0 ≤ 2 ^ 40) :
   Calls Tryz.prog 166 #[.agg (cntA c), .agg (cntA d)] w fun e w' => e = .returned (.tuple #[.agg (cntA (lessR c d)), .bool (lessOk c d)]) ∧ Below w.heap.size w w' := by
 have hidx := fun (k : Nat) (h : k < 27) (w : World) => run_index_cnt d k w h hd
 have hszC : (cntA c).size = 27 := by rw [cntA_size, hc]
 have hszD : (cntA d).size = 27 := by rw [cntA_size, hd]
 have hs0 := subTo_zero c d hc
 obtain ⟨C, hC⟩ : ∃ C, C = cntA c := ⟨_, rfl⟩
 obtain ⟨D, hD⟩ : ∃ D, D = cntA d := ⟨_, rfl⟩
 have hRdef : Hid (lessR c d = if lessOk c d then subTo c d 27 else zeroC) := Lib.hid rfl
 have hOdef : Hid (lessOk c d = (List.range 27).all fun i => decide (d.getD i 0 ≤ c.getD i 0)) := Lib.hid rfl
 obtain ⟨R, hR⟩ : ∃ R, R = lessR c d := ⟨_, rfl⟩
 obtain ⟨O, hO⟩ : ∃ O, O = lessOk c d := ⟨_, rfl⟩
 rw [← hO] at hRdef hOdef ⊢
 rw [← hR] at hRdef ⊢
 rw [← hD] at hidx hszD ⊢
 rw [← hC] at hszC ⊢
 have hS0 : Hid (C = cntA (subTo c d 0)) := Lib.hid (by rw [hs0, hC])
 have hs27 := Lib.hid hszD
 have hidx' := Lib.hid hidx
 have hcb' := Lib.hid hcb
 have hdb' := Lib.hid hdb
 clear hO hR hD hC hszC hszD hidx hs0 hc hd hcb hdb
 obtain ⟨W, hW⟩ : ∃ W, W = ((w.alloc (.cells C 223)).alloc (.cells D 223)).alloc (.cells (cntA zeroC) 223) := ⟨_, rfl⟩
 have hB0 : Blk W w.heap.size 223 (cntA (subTo c d 0)) := by rw [hW, ← hS0.out]; exact ((Blk.new w _ _).alloc _).alloc _
 have hB1 : Blk W (w.heap.size + 1) 223 D := by rw [hW]; exact (Blk.new1 w _ _ _).alloc _
 have hB2 : Blk W (w.heap.size + 1 + 1) 223 (cntA zeroC) := by rw [hW]; exact Blk.new2 w _ _ _ _
 have hbW : Below w.heap.size w W := by rw [hW]; exact (((Below.refl _ _).alloc (Nat.le_refl _) _).alloc (by simp) _).alloc (by simp; omega) _
 have hW' : ((w.alloc (.cells C 223)).alloc (.cells D 223)).alloc (.cells (cntA zeroC) 223) = W := hW.symm
 clear hW
 go_enter Tryz.func166, Tryz.ntmps166
 go_wp2_with (first
   | (refine wpList_load_row rfl 223 (.tmp 3) rfl (w.heap.size + 1) rfl 223 D (0, 0) _ (by change (((w.alloc (.cells C 223)).alloc (.cells D 223)).alloc (.cells (cntA zeroC) 223)).heap[w.heap.size + 1]? = _; rw [hW']; exact hB1) Tryz.underlying223 rfl (by rw [hs27.out]; kernel_rfl) ?_))
 change Code.wp _ _ _ _ (((w.alloc (.cells C 223)).alloc (.cells D 223)).alloc (.cells (cntA zeroC) 223))
 rw [hW']
 clear hW'
 go_loopw [9] (fun i wr => ∃ k : Nat, k ≤ 27 ∧ i = .int .i64 k ∧ Hid (∀ j, j < k → d.getD j 0 ≤ c.getD j 0) ∧ Blk wr w.heap.size 223 (cntA (subTo c d k)) ∧ Blk wr (w.heap.size + 1 + 1) 223 (cntA zeroC) ∧ Below w.heap.size w wr) (fun i _ => 27 - (intOf i).toNat)
 case atStart => exact ⟨0, by omega, rfl, fun j hj => absurd hj (by omega), hB0, hB2, hbW⟩
 case round =>
   clear hB0 hB1 hB2 hbW
   obtain ⟨k, hk, rfl, hall, hB0, hB2, hb⟩ := hrel
   by_cases hlt : k < 27
   · have hkk : (k : Int) < 27 := by omega
     have hk0 : (0 : Int) ≤ (k : Int) := by omega
     have hix := hidx'.out k hlt
     have hstep := Lib.hid (subTo_step c d k)
     have hg := hB0.cell k
     rw [cntA_get _ _ (by rw [subTo_length]; exact hlt), subTo_get c d k k hlt, if_neg (by omega)] at hg
     have hfz := hB0.frozen k
     have hcx := hcb'.out k
     have hdx := hdb'.out k
     obtain ⟨x, hx⟩ : ∃ x, x = c.getD k 0 := ⟨_, rfl⟩
     obtain ⟨y, hy⟩ : ∃ y, y = d.getD k 0 := ⟨_, rfl⟩
     have hset := hB0.set_ k (.int .i64 (x - y))
     rw [cntA_set, hx, hy, hstep.out, ← hx, ← hy] at hset
     rw [← hx] at hg hcx
     rw [← hy] at hix hdx
     have hc0 := hcx.1
     have hc1 : x ≤ 1099511627776 := hcx.2
     have hd0 := hdx.1
     have hd1 : y ≤ 1099511627776 := hdx.2
     have hcell2 : (wr.setCell ⟨w.heap.size, k, none⟩ (.int .i64 (x - y))).cell? ⟨w.heap.size, k, none⟩ = some (.int .i64 (x - y)) := by
       rw [hset.cell k, cntA_get _ _ (by rw [subTo_length]; exact hlt), subTo_get c d (k + 1) k hlt, if_pos (by omega), hx, hy]
     have hB2' := hB2.far (p := ⟨w.heap.size, k, none⟩) (by simp; omega) (.int .i64 (x - y))
     have hb' := hb.setCell (p := ⟨w.heap.size, k, none⟩) (Nat.le_refl _) (.int .i64 (x - y))
     have hX := Lib.hid hx
     have hY := Lib.hid hy
     clear hstep hcx hdx hx hy
     by_cases hxy : y ≤ x
     · have hxy' : decide (x - y < 0) = false := decide_eq_false (by omega)
       go_wp2_with (fail)
       go_roundw
       case rel => exact ⟨k + 1, by omega, by go_num, Lib.hid (fun j hj => by
         by_cases e : j = k
         · subst e; rw [← hX.out, ← hY.out]; exact hxy
         · exact hall.out j (by omega)), hset, hB2', hb'⟩
       case measure => simp [intOf]; omega
     · have hxy' : x - y < 0 := by omega
       have hO : Hid (O = false) := Lib.hid (by
         rw [hOdef.out]
         apply Bool.eq_false_iff.2
         intro h
         have := List.all_eq_true.1 h k (List.mem_range.2 hlt)
         rw [← hX.out, ← hY.out] at this
         exact hxy (by simpa using this))
       have hR : Hid (R = zeroC) := Lib.hid (by rw [hRdef.out, hO.out]; rfl)
       go_wp2_with (refine wpList_store_row rfl 223 (.tmp 4) (.tmp 23) rfl (w.heap.size + 1 + 1) (cntA zeroC) rfl rfl 223 (cntA zeroC) hB2' (by kernel_rfl) rfl (cntA_one zeroC) ?_)
       exact ret_row_slot (by rfl) (w.heap.size + 1 + 1) 223 (cntA zeroC) _ rfl (hB2'.setRow) Tryz.underlying223 rfl (by kernel_rfl) rfl rfl ⟨by rw [hR.out, hO.out]; rfl, below_setRow hb' (by omega)⟩
   · obtain rfl : k = 27 := by omega
     have hO : Hid (O = true) := Lib.hid (by
       rw [hOdef.out]
       exact List.all_eq_true.2 fun j hj => decide_eq_true (hall.out j (List.mem_range.1 hj)))
     have hR : Hid (R = subTo c d 27) := Lib.hid (by rw [hRdef.out, hO.out]; rfl)
     have hsz : (cntA (subTo c d 27)).size = 27 := by rw [cntA_size, subTo_length]
     have hone := cntA_one (subTo c d 27)
     have hRe : Hid (cntA R = cntA (subTo c d 27)) := Lib.hid (by rw [hR.out])
     obtain ⟨X, hX⟩ : ∃ X, X = cntA (subTo c d 27) := ⟨_, rfl⟩
     rw [← hX] at hB0 hsz hone hRe
     have hsX := Lib.hid hsz
     clear hX hsz
     go_wp2_with (first
       | (refine wpList_load_row rfl 223 (.tmp 2) rfl w.heap.size rfl 223 X (0, 0) _ hB0 Tryz.underlying223 rfl (by rw [hsX.out]; kernel_rfl) ?_)
       | (refine wpList_store_row rfl 223 (.tmp 4) (.tmp 25) rfl (w.heap.size + 1 + 1) X rfl rfl 223 (cntA zeroC) hB2 (by rw [hsX.out]; kernel_rfl) (by rw [hsX.out]; rfl) hone ?_))
     exact ret_row_slot (by rfl) (w.heap.size + 1 + 1) 223 X _ rfl (hB2.setRow) Tryz.underlying223 rfl (by rw [hsX.out]; kernel_rfl) rfl rfl ⟨by rw [hRe.out, hO.out]; rfl, below_setRow hb (by omega)⟩
def withoutS (a b : Str) : Str := pileL (lessR (countsL a) (countsL b))
def withoutB (a b : Str) : Bool := lessOk (countsL a) (countsL b)
theorem pileTo_length (c : List Int) (m : Nat) (h : ∀ j, c.getD j 0 ≤ m) : ∀ k, (pileTo c k).length ≤ k * m
 | 0 => by simp [pileTo]
 | k + 1 => by
   have h1 := pileTo_length c m h k
   have h2 := h k
   rw [pileTo_succ, List.length_append, List.length_replicate, Nat.succ_mul]; omega
theorem lessR_bd {c d : List Int} (hc : ∀ j, 0 ≤ c.getD j 0 ∧ c.getD j 0 ≤ 2 ^ 32) (hd : ∀ j, 0 ≤ d.getD j 0) (j : Nat) : 0 ≤ (lessR c d).getD j 0 ∧ (lessR c d).getD j 0 ≤ 2 ^ 32 := by
 unfold lessR
 split
 · rename_i h
   by_cases hj : j < 27
   · rw [subTo_get c d 27 j hj, if_pos hj]
     have := List.all_eq_true.1 h j (List.mem_range.2 hj)
     have h1 := hc j
     have h2 := hd j
     simp only [decide_eq_true_eq] at this
     omega
   · rw [List.getD_eq_getElem?_getD, List.getElem?_eq_none (by rw [subTo_length]; omega)]
     simp
 · rw [zeroC_get]; omega
theorem lessR_length {c d : List Int} : (lessR c d).length = 27 := by
 unfold lessR
 split
 · exact subTo_length _ _ _
 · rfl
theorem without_any (a b : Str) (w : World) (ha : a.length ≤ 2 ^ 32) (hb : b.length ≤ 2 ^ 32) (hta : a.all tileB = true) (htb : b.all tileB = true) :
   Calls Tryz.prog 96 #[sv a, sv b] w fun e w' => e = .returned (.tuple #[sv (withoutS a b), .bool (withoutB a b)]) ∧ Below w.heap.size w w' := by
 have k1 := fun w => countsOf_any a w (by omega) hta
 have k2 := fun w => countsOf_any b w (by omega) htb
 have hca := fun j => countsL_bd a j
 have hcb := fun j => countsL_bd b j
 have k3 := fun w => less_any (countsL a) (countsL b) w (countsL_length a) (countsL_length b) (fun j => by have := hca j; omega) (fun j => by have := hcb j; omega)
 have hbd := fun j => lessR_bd (c := countsL a) (d := countsL b) (fun j => by have := hca j; omega) (fun j => (hcb j).2) j
 have hln := pileTo_length (lessR (countsL a) (countsL b)) (2 ^ 32) (fun j => by have := (hbd j).2; omega) 27
 have k4 := fun w => pile_any (lessR (countsL a) (countsL b)) w lessR_length (fun j => (hbd j).1) (by show (pileTo _ 27).length ≤ _; omega)
 have hsz : (cntA (lessR (countsL a) (countsL b))).size = 27 := by rw [cntA_size, lessR_length]
 have hone := cntA_one (lessR (countsL a) (countsL b))
 have hS : Hid (withoutS a b = pileL (lessR (countsL a) (countsL b))) := Lib.hid rfl
 have hB : Hid (withoutB a b = lessOk (countsL a) (countsL b)) := Lib.hid rfl
 obtain ⟨S, hSe⟩ : ∃ S, S = withoutS a b := ⟨_, rfl⟩
 obtain ⟨O, hOe⟩ : ∃ O, O = withoutB a b := ⟨_, rfl⟩
 rw [← hSe] at hS ⊢
 rw [← hOe] at hB ⊢
 rw [← hS.out] at k4
 rw [← hB.out] at k3
 obtain ⟨X, hX⟩ : ∃ X, X = cntA (lessR (countsL a) (countsL b)) := ⟨_, rfl⟩
 obtain ⟨X1, hX1⟩ : ∃ X, X = cntA (countsL a) := ⟨_, rfl⟩
 obtain ⟨X2, hX2⟩ : ∃ X, X = cntA (countsL b) := ⟨_, rfl⟩
 rw [← hX] at k3 k4 hsz hone
 rw [← hX1] at k1 k3
 rw [← hX2] at k2 k3
 have hs := Lib.hid hsz
 clear hX hX1 hX2 hSe hOe hS hB hca hcb hbd hln hsz
 go_enter Tryz.func96, Tryz.ntmps96
 go_wp2_with (first
   | (go_at_call 165; (with_reducible refine (k1 _).mono ?_); rintro e w1 ⟨rfl, hb1⟩)
   | (go_at_call 165; (with_reducible refine (k2 _).mono ?_); rintro e w2 ⟨rfl, hb2⟩)
   | (go_at_call 166; refine (k3 _).mono ?_; rintro e w3 ⟨rfl, hb3⟩)
   | (refine wpList_store_row rfl 223 (.tmp 6) (.tmp 14) rfl w3.heap.size X rfl rfl 223 (cntA zeroC) (Blk.new w3 223 (cntA zeroC)) (by rw [hs.out]; kernel_rfl) (by rw [hs.out]; rfl) hone ?_)
   | (refine wpList_load_row rfl 223 (.tmp 6) rfl w3.heap.size rfl 223 X (0, 0) _ ((Blk.new w3 223 (cntA zeroC)).setRow) Tryz.underlying223 rfl (by rw [hs.out]; kernel_rfl) ?_)
   | (go_at_call 167; refine (k4 _).mono ?_; rintro e w4 ⟨rfl, hb4⟩))
 go_ret2
 have hx := hb1.trans ((hb2.trans (hb3.mono hb2.size)).mono hb1.size)
 exact ⟨rfl, (below_setRow (hx.alloc hx.size _) hx.size).trans (hb4.mono (by have := hx.size; simp [World.setRow]; omega))⟩
theorem blankC_tile {c : UInt8} (h : (smallB c || capB c) = true) : tileB (blankC c) = true := by
 unfold blankC
 split
 · rfl
 · rename_i hc
   simp only [hc, Bool.or_false] at h
   unfold tileB; rw [h]; simp
def tilesP (s : Str) : Str := pileL (countsL (s.map blankC))
theorem tilesOf_any (s : Str) (w : World) (hs : s.length ≤ 2 ^ 32) (ht : s.all (fun c => smallB c || capB c) = true) :
   Calls Tryz.prog 168 #[sv s] w fun e w' => e = .returned (sv (tilesP s)) ∧ Below w.heap.size w w' := by
 have hsz : (cntA (countsL (s.map blankC))).size = 27 := by rw [cntA_size, countsL_length]
 have hcb := fun j => countsL_bd (s.map blankC) j
 simp only [List.length_map] at hcb
 have hln := pileTo_length (countsL (s.map blankC)) (2 ^ 32) (fun j => by have := (hcb j).1; omega) 27
 have k4 := fun w => pile_any (countsL (s.map blankC)) w (countsL_length _) (fun j => (hcb j).2) (by show (pileTo _ 27).length ≤ _; omega)
 have hS : Hid (tilesP s = pileL (countsL (s.map blankC))) := Lib.hid rfl
 obtain ⟨S, hSe⟩ : ∃ S, S = tilesP s := ⟨_, rfl⟩
 rw [← hSe] at hS ⊢
 rw [← hS.out] at k4
 obtain ⟨X, hX⟩ : ∃ X, X = cntA (countsL (s.map blankC)) := ⟨_, rfl⟩
 rw [← hX] at hsz k4
 have hs27 := Lib.hid hsz
 have hX' := Lib.hid hX
 clear hX hsz hcb hln hS hSe
 have hB1 := Blk.new w 223 (cntA zeroC)
 have hbW := (Below.refl w.heap.size w).alloc (Nat.le_refl _) (.cells (cntA zeroC) 223)
 go_enter Tryz.func168, Tryz.ntmps168
 go_wp2_with (fail)
 change Code.wp _ _ _ _ (w.alloc (.cells (cntA zeroC) 223))
 go_loopw [4] (fun i wr => ∃ k : Nat, k ≤ s.length ∧ i = .int .i64 k ∧ Blk wr w.heap.size 223 (cntA (countsL ((s.take k).map blankC))) ∧ Below w.heap.size w wr) (fun i _ => s.length - (intOf i).toNat)
 case atStart => exact ⟨0, by omega, rfl, hB1, hbW⟩
 case round =>
   clear hB1 hbW
   obtain ⟨k, hk, rfl, hB1, hb⟩ := hrel
   by_cases hlt : k < s.length
   · have hc := List.all_eq_true.1 ht _ (List.getElem_mem hlt)
     have hTc := blankC_tile hc
     have hK := tileK_lt hTc
     have hstep : Hid (countsL ((s.take (k + 1)).map blankC) = incAt (countsL ((s.take k).map blankC)) (tileK (blankC s[k]))) := Lib.hid (by rw [List.take_succ_eq_append_getElem hlt, List.map_append]; exact countsL_snoc _ _)
     have hcl := countsL_length ((s.take k).map blankC)
     have hbd := countsL_bd ((s.take k).map blankC) (tileK (blankC s[k]))
     have kc := fun w => capital_any s[k] w
     have kp : capB s[k] = false → ∀ w, Calls Tryz.prog 248 #[bv s[k]] w fun e w' => e = .returned (.int .i64 (tileK (blankC s[k]) : Nat)) ∧ w = w' := fun h w => by
       have e : blankC s[k] = s[k] := by unfold blankC; rw [h]; rfl
       rw [e]
       exact place_tile s[k] w (by rw [e] at hTc; exact hTc)
     have kz : capB s[k] = true → tileK (blankC s[k]) = 0 := fun h => by unfold blankC; rw [h]; rfl
     obtain ⟨K, hKK⟩ : ∃ K, K = tileK (blankC s[k]) := ⟨_, rfl⟩
     obtain ⟨C, hC⟩ : ∃ C, C = countsL ((s.take k).map blankC) := ⟨_, rfl⟩
     rw [← hKK] at hK kp hstep hbd kz
     rw [← hC] at hB1 hstep hcl hbd
     rw [List.length_map, List.length_take] at hbd
     have hget := hB1.cell K
     rw [cntA_get C K (by omega)] at hget
     have hfz := hB1.frozen K
     have hset := hB1.set_ K (.int .i64 (C.getD K 0 + 1))
     rw [cntA_set] at hset
     obtain ⟨x, hx⟩ : ∃ x, x = C.getD K 0 := ⟨_, rfl⟩
     have hinc : Hid (incAt C K = C.set K (x + 1)) := Lib.hid (by rw [hx]; rfl)
     rw [← hx] at hget hset hbd
     have hx0 : 0 ≤ x := hbd.2
     have hx1 : x ≤ 274877906944 := by omega
     have hK0 : (0 : Int) ≤ (K : Int) := by omega
     have hK1 : (K : Int) < 27 := by omega
     have hsz := hB1.lt
     clear hC hKK hx hbd hcl
     cases hcap : capB s[k]
     · have kp' := kp hcap
       rw [hcap] at kc
       clear kp kz
       go_wp2_with (first
         | (go_at_call 252; refine (kc _).mono ?_; rintro e w' ⟨rfl, rfl⟩)
         | (go_at_call 248; refine (kp' _).mono ?_; rintro e w' ⟨rfl, rfl⟩))
       go_roundw
       case rel => exact ⟨k + 1, by omega, by go_num, by rw [hstep.out, hinc.out]; exact hset, hb.setCell (by simp) _⟩
       case measure => simp [intOf]; omega
     · obtain rfl := kz hcap
       rw [hcap] at kc
       clear kp kz
       go_wp2_with (first
         | (go_at_call 252; refine (kc _).mono ?_; rintro e w' ⟨rfl, rfl⟩))
       go_roundw
       case rel => exact ⟨k + 1, by omega, by go_num, by rw [hstep.out, hinc.out]; exact hset, hb.setCell (by simp) _⟩
       case measure => simp [intOf]; omega
   · obtain rfl : k = s.length := by omega
     rw [List.take_length, ← hX'.out] at hB1
     go_wp2_with (first
       | (refine wpList_load_row rfl 223 (.tmp 3) rfl w.heap.size rfl 223 X (0, 0) _ hB1 Tryz.underlying223 rfl (by rw [hs27.out]; kernel_rfl) ?_)
       | (go_at_call 167; refine (k4 _).mono ?_; rintro e w4 ⟨rfl, hb4⟩))
     go_ret
     exact ⟨rfl, hb.trans (hb4.mono hb.size)⟩
theorem inside_any (b : Bd) (r c : Int) (w : World) (hs : sizeB b.size = true) :
   Calls Tryz.prog 231 #[b.v, .int .i64 r, .int .i64 c] w fun e w' => e = .returned (.bool (b.inB r c)) ∧ Below w.heap.size w w' := by
 have hsz := hs
 unfold sizeB inR at hsz
 simp only [Bool.and_eq_true, decide_eq_true_eq] at hsz
 obtain ⟨h5, h15⟩ := hsz
 have hdef : Hid (b.inB r c = (inR r 0 (b.size - 1) && inR c 0 (b.size - 1))) := Lib.hid rfl
 have k1 := fun w => within_any r 0 (b.size - 1) w
 have k2 := fun w => within_any c 0 (b.size - 1) w
 obtain ⟨R, hR⟩ : ∃ R, R = b.inB r c := ⟨_, rfl⟩
 rw [← hR] at hdef ⊢
 clear hR hs
 obtain ⟨n, p, s⟩ := b
 simp only [Bd.v] at *
 have hbW := (Below.refl w.heap.size w).alloc (Nat.le_refl _) (.cells #[.int .i64 n, sv p, sv s] 41)
 cases e1 : inR r 0 (n - 1)
 · rw [e1] at k1 hdef
   go_enter Tryz.func231, Tryz.ntmps231
   go_wp2_with (go_at_call 155; refine (k1 _).mono ?_; rintro e w' ⟨rfl, rfl⟩)
   go_ret
   exact ⟨ret_bool (by rw [hdef.out]; rfl), hbW⟩
 · rw [e1] at k1 hdef
   go_enter Tryz.func231, Tryz.ntmps231
   go_wp2_with (first
     | (go_at_call 155; (with_reducible refine (k1 _).mono ?_); rintro e w' ⟨rfl, rfl⟩)
     | (go_at_call 155; (with_reducible refine (k2 _).mono ?_); rintro e w' ⟨rfl, rfl⟩))
   go_ret
   exact ⟨ret_bool (by rw [hdef.out]; rfl), hbW⟩
def Bd.cell (b : Bd) (r c : Int) : UInt8 := if b.inB r c then b.at_ r c else 0
def Bd.let_ (b : Bd) (r c : Int) : Bool := !(b.cell r c == 0) && !(b.cell r c == 46)
theorem cell_any (b : Bd) (r c : Int) (w : World) (hf : b.Fit) :
   Calls Tryz.prog 233 #[b.v, .int .i64 r, .int .i64 c] w fun e w' => e = .returned (bv (b.cell r c)) ∧ Below w.heap.size w w' := by
 have h5 := hf.lo
 have h15 := hf.hi
 have hcl := hf.cells
 have k1 := fun w => inside_any b r c w hf.size
 have hdef : Hid (b.cell r c = if b.inB r c then b.at_ r c else 0) := Lib.hid rfl
 have hat : Hid (b.at_ r c = b.cells.getD (r * b.size + c).toNat 0) := Lib.hid rfl
 have hin : b.inB r c = true → (0 ≤ r ∧ r ≤ b.size - 1) ∧ (0 ≤ c ∧ c ≤ b.size - 1) := fun h => inB_iff.1 h
 obtain ⟨I, hI⟩ : ∃ I, I = b.inB r c := ⟨_, rfl⟩
 obtain ⟨R, hR⟩ : ∃ R, R = b.cell r c := ⟨_, rfl⟩
 obtain ⟨T, hT⟩ : ∃ T, T = b.at_ r c := ⟨_, rfl⟩
 rw [← hI] at k1 hdef hin
 rw [← hR] at hdef ⊢
 rw [← hT] at hdef hat
 clear hI hR hT hf
 obtain ⟨n, p, s⟩ := b
 simp only [Bd.v] at *
 have hbW := (Below.refl w.heap.size w).alloc (Nat.le_refl _) (.cells #[.int .i64 n, sv p, sv s] 41)
 have hB := Blk.new w 41 #[.int .i64 n, sv p, sv s]
 cases I
 · go_enter Tryz.func233, Tryz.ntmps233
   go_wp2_with (go_at_call 231; refine (k1 _).mono ?_; rintro e w1 ⟨rfl, hb1⟩)
   go_ret
   exact ⟨by rw [hdef.out]; rfl, hbW.trans (hb1.mono (by simp))⟩
 · obtain ⟨⟨r0, r1⟩, c0, c1⟩ := hin rfl
   obtain ⟨m0, m1, m2, m3, m4⟩ := mul_bounds h5 h15 r0 r1 c0 c1
   have hcl' := Lib.hid hcl
   have hlt : r * n + c < (s.length : Int) := by omega
   clear hcl
   have hsum : r * n + c ≤ 1000 := by omega
   have hnat : (r * n + c).toNat < s.length := by omega
   have hget : Hid (s[(r * n + c).toNat] = T) := Lib.hid (by rw [hat.out, List.getD_eq_getElem?_getD, List.getElem?_eq_getElem hnat]; rfl)
   go_enter Tryz.func233, Tryz.ntmps233
   go_wp2_with (go_at_call 231; refine (k1 _).mono ?_; rintro e w1 ⟨rfl, hb1⟩
                have hB1 := hB.below hb1 hB.lt
                have d0 : w1.cell? ⟨w.heap.size, 0, none⟩ = some (.int .i64 n) := hB1.cell 0
                have d2 : w1.cell? ⟨w.heap.size, 2, none⟩ = some (sv s) := hB1.cell 2)
   go_ret
   exact ⟨by rw [hdef.out]; simp only [if_true]; rw [← hget.out]; rfl, hbW.trans (hb1.mono (by simp))⟩
theorem letter_any (b : Bd) (r c : Int) (w : World) (hf : b.Fit) :
   Calls Tryz.prog 293 #[b.v, .int .i64 r, .int .i64 c] w fun e w' => e = .returned (.bool (b.let_ r c)) ∧ Below w.heap.size w w' := by
 have k1 := fun w => cell_any b r c w hf
 have hdef : Hid (b.let_ r c = (!(b.cell r c == 0) && !(b.cell r c == 46))) := Lib.hid rfl
 obtain ⟨R, hR⟩ : ∃ R, R = b.let_ r c := ⟨_, rfl⟩
 obtain ⟨x, hx⟩ : ∃ x, x = b.cell r c := ⟨_, rfl⟩
 rw [← hR] at hdef ⊢
 rw [← hx] at hdef k1
 clear hR hx
 obtain ⟨n, p, s⟩ := b
 simp only [Bd.v] at *
 have hbW := (Below.refl w.heap.size w).alloc (Nat.le_refl _) (.cells #[.int .i64 n, sv p, sv s] 41)
 have q0 : ((x.toNat : Int) == 0) = (x == 0) := u8_eq x 0
 have q1 : ((x.toNat : Int) != 0) = !(x == 0) := by rw [bne, q0]
 have q2 : ((x.toNat : Int) != 46) = !(x == 46) := congrArg (fun t => !t) (u8_eq x 46)
 clear q0
 cases e1 : x == 0
 all_goals cases e2 : x == 46
 all_goals
   rw [e1] at q1 hdef
   rw [e2] at q2 hdef
   go_enter Tryz.func293, Tryz.ntmps293
   go_wp2_with (go_at_call 233; refine (k1 _).mono ?_; rintro e w1 ⟨rfl, hb1⟩)
   go_ret
   exact ⟨ret_bool (by rw [hdef.out]; rfl), hbW.trans (hb1.mono (by simp))⟩
def sqV (r c : Int) : Value := .agg #[.int .i64 r, .int .i64 c]
theorem on_any (b : Bd) (r c : Int) (w : World) (hf : b.Fit) :
   Calls Tryz.prog 232 #[b.v, sqV r c] w fun e w' => e = .returned (.bool (b.let_ r c)) ∧ Below w.heap.size w w' := by
 have k1 := fun w => letter_any b r c w hf
 obtain ⟨R, hR⟩ : ∃ R, R = b.let_ r c := ⟨_, rfl⟩
 rw [← hR] at k1 ⊢
 clear hR
 obtain ⟨n, p, s⟩ := b
 simp only [Bd.v, sqV] at *
 have hbW := ((Below.refl w.heap.size w).alloc (Nat.le_refl _) (.cells #[.int .i64 n, sv p, sv s] 41)).alloc (by simp) (.cells #[.int .i64 r, .int .i64 c] 229)
 go_enter Tryz.func232, Tryz.ntmps232
 go_wp2_with (go_at_call 293; refine (k1 _).mono ?_; rintro e w1 ⟨rfl, hb1⟩)
 go_ret
 exact ⟨rfl, hbW.trans (hb1.mono (by simp; omega))⟩
def dirV (down : Bool) : Value := .iface (if down then 333 else 334) (.agg #[])
theorem directionOf_any (down : Bool) (w : World) :
   Calls Tryz.prog 253 #[.bool down] w fun e w' => e = .returned (dirV down) ∧ w = w' := by
 cases down
 all_goals
   go_enter Tryz.func253, Tryz.ntmps253
   go_wp2_with (fail)
   go_ret
   exact ⟨rfl, rfl⟩
theorem at_right (r c n : Int) (w : World) (h1 : -1000000000000 ≤ c + n) (h2 : c + n ≤ 1000000000000) :
   Calls Tryz.prog 406 #[.agg #[], .int .i64 r, .int .i64 c, .int .i64 n] w fun e w' => e = .returned (sqV r (c + n)) ∧ Below w.heap.size w w' := by
 go_enter Tryz.func406, Tryz.ntmps406
 go_wp2_with (fail)
 exact bodyPost_ret (v := sqV r (c + n)) (by simp [results, Tryz.results406, go_sem, sqV]) rfl ⟨rfl, (((Below.refl _ _).alloc (Nat.le_refl _) _).alloc (by simp) _)⟩
theorem at_down (r c n : Int) (w : World) (h1 : -1000000000000 ≤ r + n) (h2 : r + n ≤ 1000000000000) :
   Calls Tryz.prog 404 #[.agg #[], .int .i64 r, .int .i64 c, .int .i64 n] w fun e w' => e = .returned (sqV (r + n) c) ∧ Below w.heap.size w w' := by
 go_enter Tryz.func404, Tryz.ntmps404
 go_wp2_with (fail)
 exact bodyPost_ret (v := sqV (r + n) c) (by simp [results, Tryz.results404, go_sem, sqV]) rfl ⟨rfl, (((Below.refl _ _).alloc (Nat.le_refl _) _).alloc (by simp) _)⟩
theorem cross_right (w : World) : Calls Tryz.prog 407 #[.agg #[]] w fun e w' => e = .returned (dirV true) ∧ Below w.heap.size w w' := by
 go_enter Tryz.func407, Tryz.ntmps407
 go_wp2_with (fail)
 go_ret
 exact ⟨rfl, (Below.refl _ _).alloc (Nat.le_refl _) _⟩
theorem cross_down (w : World) : Calls Tryz.prog 405 #[.agg #[]] w fun e w' => e = .returned (dirV false) ∧ Below w.heap.size w w' := by
 go_enter Tryz.func405, Tryz.ntmps405
 go_wp2_with (fail)
 go_ret
 exact ⟨rfl, (Below.refl _ _).alloc (Nat.le_refl _) _⟩
theorem nil_at (d : Bool) (w : World) : (nilAhead 527 (if d then 333 else 334) (.agg #[]) "loop.example/g00911/impl.at").run Tryz.prog w = .ok (some false) w := by cases d <;> kernel_rfl
theorem meth_at (d : Bool) (w : World) : (method 527 (if d then 333 else 334) (.agg #[]) "loop.example/g00911/impl.at").run Tryz.prog w = .ok (if d then 404 else 406, .agg #[]) w := by cases d <;> kernel_rfl
theorem nil_cross (d : Bool) (w : World) : (nilAhead 527 (if d then 333 else 334) (.agg #[]) "loop.example/g00911/impl.cross").run Tryz.prog w = .ok (some false) w := by cases d <;> kernel_rfl
theorem meth_cross (d : Bool) (w : World) : (method 527 (if d then 333 else 334) (.agg #[]) "loop.example/g00911/impl.cross").run Tryz.prog w = .ok (if d then 405 else 407, .agg #[]) w := by cases d <;> kernel_rfl
def Pl.sr (q : Pl) (n : Int) : Int := if q.down then q.row + n else q.row
def Pl.sc (q : Pl) (n : Int) : Int := if q.down then q.col else q.col + n
theorem square_any (q : Pl) (n : Int) (w : World) (h1 : -500000000000 ≤ q.row) (h2 : q.row ≤ 500000000000) (h3 : -500000000000 ≤ q.col) (h4 : q.col ≤ 500000000000) (h5 : -500000000000 ≤ n) (h6 : n ≤ 500000000000) :
   Calls Tryz.prog 169 #[q.v, .int .i64 n] w fun e w' => e = .returned (sqV (q.sr n) (q.sc n)) ∧ Below w.heap.size w w' := by
 obtain ⟨r, c, d, s⟩ := q
 simp only [Pl.v, Pl.sr, Pl.sc] at *
 have hB := (Blk.new w 61 #[.int .i64 r, .int .i64 c, .bool d, sv s]).alloc (.cells #[.int .i64 0, .int .i64 0] 229)
 have hC := Blk.new1 w (.cells #[.int .i64 r, .int .i64 c, .bool d, sv s] 61) 229 #[.int .i64 0, .int .i64 0]
 have hbW := ((Below.refl w.heap.size w).alloc (Nat.le_refl _) (.cells #[.int .i64 r, .int .i64 c, .bool d, sv s] 61)).alloc (by simp) (.cells #[.int .i64 0, .int .i64 0] 229)
 obtain ⟨W, hW⟩ : ∃ W, W = (w.alloc (.cells #[.int .i64 r, .int .i64 c, .bool d, sv s] 61)).alloc (.cells #[.int .i64 0, .int .i64 0] 229) := ⟨_, rfl⟩
 rw [← hW] at hB hC hbW
 cases d
 · have hn := fun w => nil_at false w
   have hm := fun w => meth_at false w
   have hd : ∀ w, Calls Tryz.prog 253 #[.bool false] w fun e w' => e = .returned (.iface 334 (.agg #[])) ∧ w = w' := fun w => directionOf_any false w
   have ha : ∀ w, Calls Tryz.prog 406 #[.agg #[], .int .i64 r, .int .i64 c, .int .i64 n] w fun e w' => e = .returned (sqV r (c + n)) ∧ Below w.heap.size w w' := fun w => at_right r c n w (by omega) (by omega)
   simp only [Bool.false_eq_true, if_false] at hn hm ⊢
   simp only [sqV] at ha
   go_enter Tryz.func169, Tryz.ntmps169
   go_wp2_with (fail)
   rw [← hW]
   clear hW
   refine wp_region_b 9 (by kernel_rfl) (by kernel_rfl) ?_
   simp only [qqT, List.take_zero, qqD, List.drop_zero]
   iterate 9
     apply pc_step rfl
     · intro w4 hb4 K hK
       have hB4 := hB.below hb4 hB.lt
       have d0 : w4.cell? ⟨w.heap.size, 0, none⟩ = some (.int .i64 r) := hB4.cell 0
       have d1 : w4.cell? ⟨w.heap.size, 1, none⟩ = some (.int .i64 c) := hB4.cell 1
       have d2 : w4.cell? ⟨w.heap.size, 2, none⟩ = some (.bool false) := hB4.cell 2
       go_wp2_with (first | (go_at_call 253; (with_reducible refine (hd _).mono ?_); rintro e w5 ⟨rfl, rfl⟩) | (go_at_call 406; (with_reducible refine (ha _).mono ?_); rintro e w5 ⟨rfl, hb5⟩))
       all_goals first | exact hb4 | exact hb4.trans (hb5.mono hb4.size) | exact hb4.trans (hd5.below.mono hb4.size)
     simp only [Act.put, qqS, qqC, qqZ]
   refine pc_nil ?_
   intro w4 hb4
   have hC4 := hC.below hb4 hC.lt
   have c0 : w4.cell? ⟨w.heap.size + 1, 0, none⟩ = some (.int .i64 0) := hC4.cell 0
   have c1 : w4.cell? ⟨w.heap.size + 1, 1, none⟩ = some (.int .i64 0) := hC4.cell 1
   have e0 : w4.frozen? ⟨w.heap.size + 1, 0, none⟩ = false := hC4.frozen 0
   have e1 : w4.frozen? ⟨w.heap.size + 1, 1, none⟩ = false := hC4.frozen 1
   have hz : w.heap.size + 1 < w4.heap.size := hC4.lt
   go_wp2_with (fail)
   exact ret_row (by rfl) (w.heap.size + 1) 229 #[.int .i64 r, .int .i64 (c + n)] _ rfl ((hC4.set_ 0 _).set_ 1 _) Tryz.underlying229 rfl (by kernel_rfl) rfl ⟨rfl, (((hbW.trans (hb4.mono hbW.size)).setCell (by simp) _).setCell (by simp) _)⟩
 · have hn := fun w => nil_at true w
   have hm := fun w => meth_at true w
   have hd : ∀ w, Calls Tryz.prog 253 #[.bool true] w fun e w' => e = .returned (.iface 333 (.agg #[])) ∧ w = w' := fun w => directionOf_any true w
   have ha : ∀ w, Calls Tryz.prog 404 #[.agg #[], .int .i64 r, .int .i64 c, .int .i64 n] w fun e w' => e = .returned (sqV (r + n) c) ∧ Below w.heap.size w w' := fun w => at_down r c n w (by omega) (by omega)
   simp only [if_true] at hn hm ⊢
   simp only [sqV] at ha
   go_enter Tryz.func169, Tryz.ntmps169
   go_wp2_with (fail)
   rw [← hW]
   clear hW
   refine wp_region_b 9 (by kernel_rfl) (by kernel_rfl) ?_
   simp only [qqT, List.take_zero, qqD, List.drop_zero]
   iterate 9
     apply pc_step rfl
     · intro w4 hb4 K hK
       have hB4 := hB.below hb4 hB.lt
       have d0 : w4.cell? ⟨w.heap.size, 0, none⟩ = some (.int .i64 r) := hB4.cell 0
       have d1 : w4.cell? ⟨w.heap.size, 1, none⟩ = some (.int .i64 c) := hB4.cell 1
       have d2 : w4.cell? ⟨w.heap.size, 2, none⟩ = some (.bool true) := hB4.cell 2
       go_wp2_with (first | (go_at_call 253; (with_reducible refine (hd _).mono ?_); rintro e w5 ⟨rfl, rfl⟩) | (go_at_call 404; (with_reducible refine (ha _).mono ?_); rintro e w5 ⟨rfl, hb5⟩))
       all_goals first | exact hb4 | exact hb4.trans (hb5.mono hb4.size) | exact hb4.trans (hd5.below.mono hb4.size)
     simp only [Act.put, qqS, qqC, qqZ]
   refine pc_nil ?_
   intro w4 hb4
   have hC4 := hC.below hb4 hC.lt
   have c0 : w4.cell? ⟨w.heap.size + 1, 0, none⟩ = some (.int .i64 0) := hC4.cell 0
   have c1 : w4.cell? ⟨w.heap.size + 1, 1, none⟩ = some (.int .i64 0) := hC4.cell 1
   have e0 : w4.frozen? ⟨w.heap.size + 1, 0, none⟩ = false := hC4.frozen 0
   have e1 : w4.frozen? ⟨w.heap.size + 1, 1, none⟩ = false := hC4.frozen 1
   have hz : w.heap.size + 1 < w4.heap.size := hC4.lt
   go_wp2_with (fail)
   exact ret_row (by rfl) (w.heap.size + 1) 229 #[.int .i64 (r + n), .int .i64 c] _ rfl ((hC4.set_ 0 _).set_ 1 _) Tryz.underlying229 rfl (by kernel_rfl) rfl ⟨rfl, (((hbW.trans (hb4.mono hbW.size)).setCell (by simp) _).setCell (by simp) _)⟩
end Go.Proofs.YtdkckikobefekaaGreatDoor
