/-
  Contracts: letters that rise, valid tile sets (layer 2 of the impl package); Contracts: the size of a tile set, equal tile sets (the laws package); Contracts: a copy of a list of numbers, of a tile set (the laws package); Contracts: marks laid into a list of numbers, into a tile set (the laws package); Contracts: whether a lexicon has a word (layer 5 of the spec package); Contract: the words of a play that a lexicon does not have (layer 12 of the spec package); Contracts: the letters on a board, and the order of plays (layers 11 and 12 of the spec package).
  Conditions: strings of common size; the slices read as lists of numbers; the slices lie in memory; numbers of common size; the slices lie in memory; the lists are the caller's own; a number of common size; the slice reads as a list of strings; a board that is valid lies at the head of a block, a lexicon at an address; the play is valid; a board lies at an address.
-/
import Derived.Test.YtdkckikobefekaaGreatDoorM06
import Derived.Test.YtdkckikobefekaaGreatDoorM04
import Derived.Test.YtdkckikobefekaaGreatDoorM05
namespace Go.Proofs.YtdkckikobefekaaGreatDoor
open Go.RowKit RegP RegL RegV
set_option maxHeartbeats 2000000
set_option maxRecDepth 100000
theorem pairB_drop (s : Str) (k : Nat) (h0 : 0 < k) (h : k < s.length) : pairB (s.drop (k - 1)) = (decide ((s[k - 1]'(by omega)).toNat < s[k].toNat) && pairB (s.drop k)) := by
 obtain ⟨j, rfl⟩ : ∃ j, k = j + 1 := ⟨k - 1, by omega⟩
 simp only [Nat.add_sub_cancel]
 rw [drop_cons s j (by omega), drop_cons s (j + 1) h]
 rfl
theorem pairB_end (s : Str) (k : Nat) (h : s.length ≤ k) (h0 : 0 < k) : pairB (s.drop (k - 1)) = true := by
 by_cases hk : k - 1 < s.length
 · rw [drop_cons s (k - 1) hk, drop_all s (k - 1 + 1) (by omega)]
   rfl
 · rw [drop_all s (k - 1) (by omega)]
   rfl
theorem rising_any (s : Str) (w : World) (hs : s.length ≤ 2 ^ 40) :
   Calls Tryz.prog 207 #[sv s] w fun e w' => e = .returned (.bool (pairB s && s.all smallB)) ∧ Below w.heap.size w w' := by
 have ko := fun w => onlySmall_any s w hs
 obtain ⟨SM, hSM⟩ : ∃ SM, SM = s.all smallB := ⟨_, rfl⟩
 rw [← hSM] at ko ⊢
 clear hSM
 go_enter Tryz.func207, Tryz.ntmps207
 go_wp2_with (fail)
 go_loopw [3] (fun i wr => ∃ k : Nat, 0 < k ∧ i = .int .i64 k ∧ (k ≤ s.length ∨ k = 1) ∧ Hid (pairB s = pairB (s.drop (k - 1))) ∧ Below w.heap.size w wr) (fun i _ => s.length - (intOf i).toNat)
 case atStart => exact ⟨1, by omega, rfl, .inr rfl, Lib.hid rfl, Below.refl _ _⟩
 case round =>
   obtain ⟨k, h0, rfl, hk, he, hb⟩ := hrel
   by_cases hlt : k < s.length
   · have hd := Lib.hid (pairB_drop s k h0 hlt)
     have hlt' : (k : Int) < (s.length : Int) := by omega
     have h0' : (0 : Int) ≤ (k : Int) := by omega
     have hi1 : (1 : Int) ≤ (k : Int) := by omega
     have hi2 : (k : Int) ≤ (s.length : Int) := by omega
     have hi4 : (0 : Int) ≤ (k : Int) - 1 := by omega
     have hi5 : (k : Int) - 1 < (s.length : Int) := by omega
     have hi3 : ((k : Int) - 1).toNat = k - 1 := by omega
     have hle : decide (s[k].toNat ≤ (s[k - 1]'(by omega)).toNat) = !decide ((s[k - 1]'(by omega)).toNat < s[k].toNat) := by
       rw [Bool.eq_iff_iff]; simp
     cases hxy : decide ((s[k - 1]'(by omega)).toNat < s[k].toNat)
     all_goals
       rw [hxy] at hle hd
       simp only [Bool.not_true, Bool.not_false] at hle
       go_wp2_with (fail)
       refine wp_region_b 8 (by kernel_rfl) (by kernel_rfl) ?_
       simp only [qqT, List.take_zero, qqD, List.drop_zero]
       iterate 8
         apply pc_step rfl
         · intro w4 hb4 K hK
           skip
           go_wp2_with (fail)
           all_goals first | exact hb4 | exact hb4.trans (hb5.mono hb4.size) | exact hb4.trans (hd5.below.mono hb4.size)
         simp only [Act.put, qqS, qqC, qqZ]
       refine pc_nil ?_
       intro w4 hb4
       go_wp2_with (fail)
     · go_ret
       exact ⟨ret_bool (by rw [he.out, hd.out]; rfl), hb.trans (hb4.mono hb.size)⟩
     · go_roundw
       case rel => exact ⟨k + 1, by omega, by go_num, .inl (by omega), Lib.hid (by rw [he.out, hd.out]; simp), hb.trans (hb4.mono hb.size)⟩
       case measure => simp [intOf]; omega
   · rw [pairB_end s k (by omega) h0] at he
     have hlt' : ¬ (k : Int) < (s.length : Int) := by omega
     go_wp2_with (go_at_call 279; refine (ko _).mono ?_; rintro e w2 ⟨rfl, hb2⟩)
     go_ret
     exact ⟨ret_bool (by rw [he.out]; simp), hb.trans (hb2.mono hb.size)⟩
def xv (x : Int) : Value := .int .i64 x
def TS.v (t : TS) (A1 : Option Addr) (c1 : Nat) (A2 : Option Addr) (c2 : Nat) : Value := .agg #[sv t.letters, .slice A1 t.values.length c1, .slice A2 t.counts.length c2, .int .i64 t.blanks]
structure TsIn (w : World) (t : TS) (A1 A2 : Option Addr) : Prop where
 r1 : Reads w w.heap.size 1 A1 t.values.length (t.values.map xv)
 r2 : Reads w w.heap.size 1 A2 t.counts.length (t.counts.map xv)
theorem TsIn.below {w w' : World} {t : TS} {A1 A2 : Option Addr} (h : TsIn w t A1 A2) (hb : Below w.heap.size w w') : TsIn w' t A1 A2 :=
 ⟨(h.r1.below hb).more hb.size, (h.r2.below hb).more hb.size⟩
theorem vcB_drop (vs cs : List Int) (k : Nat) (h1 : k < vs.length) (h2 : k < cs.length) : vcB (vs.drop k) (cs.drop k) = (inR vs[k] 0 20 && (inR cs[k] 1 20 && vcB (vs.drop (k + 1)) (cs.drop (k + 1)))) := by
 rw [drop_cons vs k h1, drop_cons cs k h2]
 rfl
theorem sum_take {cs : List Int} {k : Nat} (h : k < cs.length) : (cs.take (k + 1)).sum = (cs.take k).sum + cs[k] := by
 rw [List.take_add_one, List.getElem?_eq_getElem h, List.sum_append]
 simp
theorem validTiles_any (t : TS) (A1 A2 : Option Addr) (c1 c2 : Nat) (w : World) (hi : TsIn w t A1 A2) (hl : t.letters.length ≤ 2 ^ 40) (hv : t.values.length ≤ 2 ^ 40) (hc : t.counts.length ≤ 2 ^ 40) :
   Calls Tryz.prog 140 #[t.v A1 c1 A2 c2] w fun e w' => e = .returned (.bool (tsB t)) ∧ Below w.heap.size w w' := by
 have kr := fun w => rising_any t.letters w hl
 rw [← smFrom_pair] at kr
 have kw := fun w => within_any t.blanks 0 4 w
 have kw1 := fun x w => within_any x 0 20 w
 have kw2 := fun x w => within_any x 1 20 w
 obtain ⟨L, V, C, B⟩ := t
 obtain ⟨r1, r2⟩ := hi
 simp only [TS.v] at *
 obtain ⟨b1, h1⟩ : ∃ b, b = decide ((L.length : Int) < 1) := ⟨_, rfl⟩
 have h1s := h1.symm
 have h1' : decide (1 ≤ L.length) = !b1 := by rw [h1, Bool.eq_iff_iff]; simp; omega
 obtain ⟨b2, h2⟩ : ∃ b, b = smFrom none L := ⟨_, rfl⟩
 obtain ⟨b3, h3⟩ : ∃ b, b = decide (V.length = L.length) := ⟨_, rfl⟩
 obtain ⟨b4, h4⟩ : ∃ b, b = decide (C.length = L.length) := ⟨_, rfl⟩
 obtain ⟨b5, h5⟩ : ∃ b, b = inR B 0 4 := ⟨_, rfl⟩
 have h3' : ((V.length : Int) != (L.length : Int)) = !b3 := by rw [h3, Bool.eq_iff_iff]; simp; omega
 have h4' : ((C.length : Int) != (L.length : Int)) = !b4 := by rw [h4, Bool.eq_iff_iff]; simp; omega
 have hdef : Hid (tsB ⟨L, V, C, B⟩ = (!b1 && (b2 && (b3 && (b4 && (b5 && (vcB V C && decide (B + C.sum ≤ 120)))))))) := Lib.hid (by unfold tsB; rw [h1', h2, h3, h4, h5])
 rw [← h2] at kr
 rw [← h5] at kw
 have hn26 : Hid (b2 = true → L.length ≤ 26) := Lib.hid (fun e => smFrom_26 (h2.symm.trans e))
 have hV : Hid (b3 = true → V.length = L.length) := Lib.hid (fun e => of_decide_eq_true (h3.symm.trans e))
 have hC : Hid (b4 = true → C.length = L.length) := Lib.hid (fun e => of_decide_eq_true (h4.symm.trans e))
 have hB : Hid (b5 = true → 0 ≤ B ∧ B ≤ 4) := Lib.hid (fun e => by have := h5.symm.trans e; unfold inR at this; simpa using this)
 obtain ⟨T, hT⟩ : ∃ T, T = tsB ⟨L, V, C, B⟩ := ⟨_, rfl⟩
 rw [← hT] at hdef ⊢
 clear h1' h2 h3 h4 h5 hT
 have hbW := (Below.refl w.heap.size w).alloc (Nat.le_refl _) (.cells #[sv L, .slice A1 V.length c1, .slice A2 C.length c2, .int .i64 B] 39)
 have hB0 := Blk.new w 39 #[sv L, .slice A1 V.length c1, .slice A2 C.length c2, .int .i64 B]
 by_cases hall : (!b1 && (b2 && (b3 && (b4 && b5)))) = true
 · simp only [Bool.and_eq_true, Bool.not_eq_true'] at hall
   obtain ⟨rfl, rfl, rfl, rfl, rfl⟩ := hall
   simp only [Bool.not_false, Bool.true_and] at hdef
   clear h1
   have hVl := Lib.hid (hV.out rfl)
   have hCl := Lib.hid (hC.out rfl)
   have h26 := hn26.out rfl
   obtain ⟨hb0, hb4⟩ := hB.out rfl
   clear hn26 hV hC hB hl hv hc
   go_enter Tryz.func140, Tryz.ntmps140
   go_wp2_with (first
     | (go_at_call 207; refine (kr _).mono ?_; rintro e w2 ⟨rfl, hb2⟩
        have hB2 := hB0.below hb2 hB0.lt
        have hbb := hbW.trans (hb2.mono hbW.size)
        have d0 : w2.cell? ⟨w.heap.size, 0, none⟩ = some (sv L) := hB2.cell 0
        have d1 : w2.cell? ⟨w.heap.size, 1, none⟩ = some (.slice A1 V.length c1) := hB2.cell 1
        have d2 : w2.cell? ⟨w.heap.size, 2, none⟩ = some (.slice A2 C.length c2) := hB2.cell 2
        have d3 : w2.cell? ⟨w.heap.size, 3, none⟩ = some (.int .i64 B) := hB2.cell 3)
     | (go_at_call 155; refine (kw _).mono ?_; rintro e w3 ⟨rfl, rfl⟩))
   go_loopw [4, 43] (fun tot i wr => ∃ k : Nat, k ≤ C.length ∧ i = .int .i64 k ∧ tot = .int .i64 (B + (C.take k).sum) ∧ B + (C.take k).sum ≤ 4 + 20 * k ∧ 0 ≤ B + (C.take k).sum ∧ Hid (vcB V C = vcB (V.drop k) (C.drop k)) ∧ wr = w2) (fun _ i _ => C.length - (intOf i).toNat)
   case atStart => exact ⟨0, by omega, rfl, by simp, by simp; omega, by simp; omega, Lib.hid rfl, rfl⟩
   case round =>
     obtain ⟨k, hk, rfl, rfl, ht1, ht2, he, rfl⟩ := hrel
     have r1 := (r1.below hbb).more hbb.size
     have r2 := (r2.below hbb).more hbb.size
     obtain ⟨S, hS⟩ : ∃ S, S = B + (C.take k).sum := ⟨_, rfl⟩
     rw [← hS] at ht1 ht2 ⊢
     have hC26 : C.length ≤ 26 := by have := hCl.out; omega
     by_cases hlt : k < C.length
     · have hltV : k < V.length := by have := hVl.out; have := hCl.out; omega
       have hst := Lib.hid (vcB_drop V C k hltV hlt)
       have hsm := Lib.hid (sum_take hlt)
       obtain ⟨a1, rfl, hab1, hx1⟩ := r1.el hltV
       obtain ⟨a2, rfl, hab2, hx2⟩ := r2.el hlt
       have kx1 := fun w => kw1 V[k] w
       have kx2 := fun w => kw2 C[k] w
       have hy : Hid (inR C[k] 1 20 = true → 1 ≤ C[k] ∧ C[k] ≤ 20) := Lib.hid (fun e => by unfold inR at e; simpa using e)
       have hS' := Lib.hid hS
       clear hS kw1 kw2
       generalize V[k] = x at *
       generalize C[k] = y at *
       generalize inR x 0 20 = e1 at *
       generalize inR y 1 20 = e2 at *
       simp only [xv] at hx1 hx2
       have hlt' : (k : Int) < (C.length : Int) := by omega
       cases e1
       · go_wp2_with (go_at_call 155; (with_reducible refine (kx1 _).mono ?_); rintro e w3 ⟨rfl, rfl⟩)
         go_ret
         exact ⟨ret_bool (by rw [hdef.out, he.out, hst.out]; rfl), hbb⟩
       · cases e2
         · go_wp2_with (first
             | (go_at_call 155; (with_reducible refine (kx1 _).mono ?_); rintro e w3 ⟨rfl, rfl⟩)
             | (go_at_call 155; (with_reducible refine (kx2 _).mono ?_); rintro e w3 ⟨rfl, rfl⟩))
           go_ret
           exact ⟨ret_bool (by rw [hdef.out, he.out, hst.out]; rfl), hbb⟩
         · obtain ⟨y1, y2⟩ := hy.out rfl
           go_wp2_with (first
             | (go_at_call 155; (with_reducible refine (kx1 _).mono ?_); rintro e w3 ⟨rfl, rfl⟩)
             | (go_at_call 155; (with_reducible refine (kx2 _).mono ?_); rintro e w3 ⟨rfl, rfl⟩))
           go_roundw
           case rel => exact ⟨k + 1, by omega, by go_num, vi_eq (by rw [hsm.out, hS'.out]; omega), by rw [hsm.out]; have := hS'.out; omega, by rw [hsm.out]; have := hS'.out; omega, Lib.hid (by rw [he.out, hst.out]; rfl), trivial⟩
           case measure => simp [intOf]; omega
     · obtain rfl : k = C.length := by omega
       have hT : Hid (T = decide (S ≤ 120)) := Lib.hid (by
         rw [hdef.out, he.out, drop_all V _ (by have := hVl.out; have := hCl.out; omega), hS, List.take_length]
         simp [vcB])
       have hlt' : ¬ (C.length : Int) < (C.length : Int) := by omega
       go_wp2_with (fail)
       go_ret
       exact ⟨ret_bool (by rw [hT.out, hS, List.take_length]), hbb⟩
 · have hres : Hid (T = false) := Lib.hid (by
     rw [hdef.out]
     cases b1 <;> cases b2 <;> cases b3 <;> cases b4 <;> cases b5 <;> simp_all)
   have hor : b1 = true ∨ (b1 = false ∧ b2 = false) ∨ (b1 = false ∧ b2 = true ∧ b3 = false) ∨ (b1 = false ∧ b2 = true ∧ b3 = true ∧ b4 = false) ∨ (b1 = false ∧ b2 = true ∧ b3 = true ∧ b4 = true ∧ b5 = false) := by
     revert hall
     cases b1 <;> cases b2 <;> cases b3 <;> cases b4 <;> cases b5 <;> simp
   clear hdef hall hn26 hV hC hB
   rcases hor with rfl | ⟨rfl, rfl⟩ | ⟨rfl, rfl, rfl⟩ | ⟨rfl, rfl, rfl, rfl⟩ | ⟨rfl, rfl, rfl, rfl, rfl⟩
   all_goals clear h1
   all_goals
     go_enter Tryz.func140, Tryz.ntmps140
     go_wp2_with (first
       | (go_at_call 207; refine (kr _).mono ?_; rintro e w2 ⟨rfl, hb2⟩
          have hB2 := hB0.below hb2 hB0.lt
          have hbb := hbW.trans (hb2.mono hbW.size)
          have d1 : w2.cell? ⟨w.heap.size, 1, none⟩ = some (.slice A1 V.length c1) := hB2.cell 1
          have d2 : w2.cell? ⟨w.heap.size, 2, none⟩ = some (.slice A2 C.length c2) := hB2.cell 2
          have d3 : w2.cell? ⟨w.heap.size, 3, none⟩ = some (.int .i64 B) := hB2.cell 3)
       | (go_at_call 155; refine (kw _).mono ?_; rintro e w3 ⟨rfl, rfl⟩))
     go_ret
     exact ⟨ret_bool (by rw [hres.out]), by first | exact hbb | exact hbW⟩
def szI (n : Nat) (l : Int) : Int := if l - n < 0 then -1 else l - n
def szT (t : TS) (l : Int) : Int :=
 if l - t.letters.length < 0 then -1 else if l - t.letters.length - t.values.length < 0 then -1 else if l - t.letters.length - t.values.length - t.counts.length < 0 then -1 else l - t.letters.length - t.values.length - t.counts.length
theorem szT_bd {t : TS} {l : Int} (h : 0 ≤ szT t l) : (t.letters.length : Int) ≤ l ∧ (t.values.length : Int) ≤ l ∧ (t.counts.length : Int) ≤ l ∧ szT t l ≤ l := by
 unfold szT at h ⊢
 split at h
 · omega
 · split at h
   · omega
   · split at h
     · omega
     · rename_i h1 h2 h3
       rw [if_neg h1, if_neg h2, if_neg h3]
       omega
theorem szInt64S_any (A : Option Addr) (c n : Nat) (l : Int) (w : World) (hn : n ≤ 9223372036854775807) (h0 : 0 ≤ l) (h1 : l ≤ 2 ^ 40) :
   Calls Tryz.prog 62 #[.slice A n c, .int .i64 l] w fun e w' => e = .returned (.int .i64 (szI n l)) ∧ w = w' := by
 unfold szI
 by_cases hl : l - (n : Int) < 0
 · rw [if_pos hl]
   go_enter Tryz.func62, Tryz.ntmps62
   go_wp2_with (fail)
   go_ret
   exact ⟨rfl, rfl⟩
 · rw [if_neg hl]
   go_enter Tryz.func62, Tryz.ntmps62
   go_wp2_with (fail)
   go_ret
   exact ⟨rfl, rfl⟩
theorem szTileSet_any (t : TS) (A1 A2 : Option Addr) (c1 c2 : Nat) (l : Int) (w : World) (hl : t.letters.length ≤ 9223372036854775807) (hv : t.values.length ≤ 9223372036854775807) (hc : t.counts.length ≤ 9223372036854775807) (h0 : 0 ≤ l) (h1 : l ≤ 2 ^ 40) :
   Calls Tryz.prog 12 #[t.v A1 c1 A2 c2, .int .i64 l] w fun e w' => e = .returned (.int .i64 (szT t l)) ∧ Below w.heap.size w w' := by
 obtain ⟨L, V, C, B⟩ := t
 unfold szT
 simp only [TS.v] at *
 have hb := (Below.refl w.heap.size w).alloc (Nat.le_refl _) (.cells #[sv L, .slice A1 V.length c1, .slice A2 C.length c2, .int .i64 B] 27)
 by_cases n1 : l - (L.length : Int) < 0
 · rw [if_pos n1]
   go_enter Tryz.func12, Tryz.ntmps12
   go_wp2_with (fail)
   go_ret
   exact ⟨rfl, hb⟩
 · rw [if_neg n1]
   have kv := fun w => szInt64S_any A1 c1 V.length (l - L.length) w hv (by omega) (by omega)
   unfold szI at kv
   by_cases n2 : l - (L.length : Int) - (V.length : Int) < 0
   · rw [if_pos n2] at kv ⊢
     go_enter Tryz.func12, Tryz.ntmps12
     go_wp2_with (go_at_call 62; refine (kv _).mono ?_; rintro e w1 ⟨rfl, rfl⟩)
     go_ret
     exact ⟨rfl, hb⟩
   · rw [if_neg n2] at kv ⊢
     have kc := fun w => szInt64S_any A2 c2 C.length (l - L.length - V.length) w hc (by omega) (by omega)
     unfold szI at kc
     by_cases n3 : l - (L.length : Int) - (V.length : Int) - (C.length : Int) < 0
     · rw [if_pos n3] at kc ⊢
       go_enter Tryz.func12, Tryz.ntmps12
       go_wp2_with (first
         | (go_at_call 62; (with_reducible refine (kv _).mono ?_); rintro e w1 ⟨rfl, rfl⟩)
         | (go_at_call 62; (with_reducible refine (kc _).mono ?_); rintro e w1 ⟨rfl, rfl⟩))
       go_ret
       exact ⟨rfl, hb⟩
     · rw [if_neg n3] at kc ⊢
       go_enter Tryz.func12, Tryz.ntmps12
       go_wp2_with (first
         | (go_at_call 62; (with_reducible refine (kv _).mono ?_); rintro e w1 ⟨rfl, rfl⟩)
         | (go_at_call 62; (with_reducible refine (kc _).mono ?_); rintro e w1 ⟨rfl, rfl⟩))
       go_ret
       exact ⟨rfl, hb⟩
theorem eqInt64S_any (A1 A2 : Option Addr) (c1 c2 : Nat) (a b : List Int) (w : World) (h1 : Reads w w.heap.size 1 A1 a.length (a.map xv)) (h2 : Reads w w.heap.size 1 A2 b.length (b.map xv)) (hn : a.length ≤ 2 ^ 40) :
   Calls Tryz.prog 71 #[.slice A1 a.length c1, .slice A2 b.length c2] w fun e w' => e = .returned (.bool (a == b)) ∧ Below w.heap.size w w' := by
 obtain ⟨R, hR⟩ : ∃ R, R = (a == b) := ⟨_, rfl⟩
 rw [← hR]
 have hR' := Lib.hid hR
 clear hR
 by_cases hl : a.length = b.length
 · have hl1 : ((a.length : Int) != (b.length : Int)) = false := by rw [hl]; simp
   have hl' := Lib.hid hl
   clear hl
   go_enter Tryz.func71, Tryz.ntmps71
   go_wp2_with (fail)
   go_loopw [5] (fun i wr => ∃ k : Nat, k ≤ a.length ∧ i = .int .i64 k ∧ Hid (R = (a.drop k == b.drop k)) ∧ Below w.heap.size w wr) (fun i _ => a.length - (intOf i).toNat)
   case atStart => exact ⟨0, by omega, rfl, Lib.hid (by rw [hR'.out]; rfl), Below.refl _ _⟩
   case round =>
     obtain ⟨k, hk, rfl, he, hb⟩ := hrel
     by_cases hkl : k < a.length
     · have hkb : k < b.length := by rw [← hl'.out]; exact hkl
       obtain ⟨ad1, rfl, hd1, hc1⟩ := (h1.below hb).el hkl
       obtain ⟨ad2, rfl, hd2, hc2⟩ := (h2.below hb).el hkb
       have hst : Hid (R = (a[k] == b[k] && (a.drop (k + 1) == b.drop (k + 1)))) := Lib.hid (by rw [he.out, drop_cons a k hkl, drop_cons b k hkb]; rfl)
       obtain ⟨x, hx⟩ : ∃ x, x = a[k] := ⟨_, rfl⟩
       obtain ⟨y, hy⟩ : ∃ y, y = b[k] := ⟨_, rfl⟩
       rw [← hx] at hst hc1
       rw [← hy] at hst hc2
       clear hx hy
       have hkk : (k : Int) < (a.length : Int) := by omega
       have hkk2 : (k : Int) < (b.length : Int) := by omega
       have hk0 : (0 : Int) ≤ (k : Int) := by omega
       have hz1 : ad1.block < wr.heap.size := Nat.lt_of_lt_of_le hd1 hb.size
       have hz2 : ad2.block < wr.heap.size := Nat.lt_of_lt_of_le hd2 hb.size
       obtain ⟨t, ht⟩ : ∃ t, t = (x == y) := ⟨_, rfl⟩
       rw [← ht] at hst
       have ht' : (x != y) = !t := by rw [ht]; rfl
       clear ht
       cases t
       all_goals
         have ht2 : (x != y) = _ := ht'
         clear ht'
         go_wp2_with (fail)
         refine wp_region_b 9 (by kernel_rfl) (by kernel_rfl) ?_
         simp only [qqT, List.take_zero, qqD, List.drop_zero]
         iterate 9
           apply pc_step rfl
           · intro w4 hb4 K hK
             have e1 : w4.cell? (ad1.add k) = some (.int .i64 x) := (hb4.cell (by rw [block_of_add]; exact hz1)).trans hc1
             have e2 : w4.cell? (ad2.add k) = some (.int .i64 y) := (hb4.cell (by rw [block_of_add]; exact hz2)).trans hc2
             go_wp2_with (fail)
             all_goals first | exact hb4 | exact hb4.trans (hb5.mono hb4.size) | exact hb4.trans (hd5.below.mono hb4.size)
           simp only [Act.put, qqS, qqC, qqZ]
         refine pc_nil ?_
         intro w4 hb4
         have hb5 := hb.trans (hb4.mono hb.size)
         clear hb4 hc1 hc2
         go_wp2_with (fail)
       · go_ret
         exact ⟨ret_bool (by rw [hst.out]; rfl), hb5⟩
       · go_roundw
         case rel => exact ⟨k + 1, by omega, by go_num, Lib.hid (by rw [hst.out]; simp), hb5⟩
         case measure => simp [intOf]; omega
     · obtain rfl : k = a.length := by omega
       have hkk : ¬ (a.length : Int) < (a.length : Int) := by omega
       have hRt : Hid (R = true) := Lib.hid (by rw [he.out, List.drop_length, hl'.out, List.drop_length]; rfl)
       go_wp2_with (fail)
       go_ret
       exact ⟨ret_bool hRt.out.symm, hb⟩
 · have hl1 : ((a.length : Int) != (b.length : Int)) = true := by rw [bne_iff_ne]; omega
   have hRf : R = false := by rw [hR'.out, beq_eq_false_iff_ne]; intro e; exact hl (by rw [e])
   subst hRf
   clear hl
   go_enter Tryz.func71, Tryz.ntmps71
   go_wp2_with (fail)
   go_ret
   exact ⟨rfl, Below.refl _ _⟩
def eqTB (t u : TS) : Bool := t.letters == u.letters && (t.values == u.values && (t.counts == u.counts && t.blanks == u.blanks))
theorem eqTB_self (t : TS) : eqTB t t = true := by simp [eqTB]
theorem eqTileSet_any (t u : TS) (A1 A2 B1 B2 : Option Addr) (c1 c2 d1 d2 : Nat) (w : World) (h1 : TsIn w t A1 A2) (h2 : TsIn w u B1 B2) (hv : t.values.length ≤ 2 ^ 40) (hc : t.counts.length ≤ 2 ^ 40) :
   Calls Tryz.prog 22 #[t.v A1 c1 A2 c2, u.v B1 d1 B2 d2] w fun e w' => e = .returned (.bool (eqTB t u)) ∧ Below w.heap.size w w' := by
 have k1 := fun (W : World) (hW : Below w.heap.size w W) => eqInt64S_any A1 B1 c1 d1 t.values u.values W ((h1.r1.below hW).more hW.size) ((h2.r1.below hW).more hW.size) hv
 have k2 := fun (W : World) (hW : Below w.heap.size w W) => eqInt64S_any A2 B2 c2 d2 t.counts u.counts W ((h1.r2.below hW).more hW.size) ((h2.r2.below hW).more hW.size) hc
 clear h1 h2 hv hc
 obtain ⟨L, V, C, B⟩ := t
 obtain ⟨L', V', C', B'⟩ := u
 unfold eqTB
 simp only [TS.v] at *
 obtain ⟨e1, he1⟩ : ∃ e, e = (L == L') := ⟨_, rfl⟩
 obtain ⟨e2, he2⟩ : ∃ e, e = (V == V') := ⟨_, rfl⟩
 obtain ⟨e3, he3⟩ : ∃ e, e = (C == C') := ⟨_, rfl⟩
 obtain ⟨e4, he4⟩ : ∃ e, e = (B == B') := ⟨_, rfl⟩
 rw [← he1, ← he2, ← he3, ← he4]
 rw [← he2] at k1
 rw [← he3] at k2
 have he1' : (L == L') = e1 := he1.symm
 have he4' : (B != B') = !e4 := by rw [he4]; rfl
 clear he1 he2 he3 he4
 obtain ⟨W, hW⟩ : ∃ W, W = (w.alloc (.cells #[sv L, .slice A1 V.length c1, .slice A2 C.length c2, .int .i64 B] 39)).alloc (.cells #[sv L', .slice B1 V'.length d1, .slice B2 C'.length d2, .int .i64 B'] 39) := ⟨_, rfl⟩
 have hb : Below w.heap.size w W := by rw [hW]; exact ((Below.refl _ _).alloc (Nat.le_refl _) _).alloc (by simp) _
 have hX : Blk W w.heap.size 39 #[sv L, .slice A1 V.length c1, .slice A2 C.length c2, .int .i64 B] := by rw [hW]; exact (Blk.new w _ _).alloc _
 have hY : Blk W (w.heap.size + 1) 39 #[sv L', .slice B1 V'.length d1, .slice B2 C'.length d2, .int .i64 B'] := by rw [hW]; exact Blk.new1 w _ _ _
 have hor : e1 = false ∨ (e1 = true ∧ e2 = false) ∨ (e1 = true ∧ e2 = true ∧ e3 = false) ∨ (e1 = true ∧ e2 = true ∧ e3 = true ∧ e4 = false) ∨ (e1 = true ∧ e2 = true ∧ e3 = true ∧ e4 = true) := by
   cases e1 <;> cases e2 <;> cases e3 <;> cases e4 <;> simp
 rcases hor with rfl | ⟨rfl, rfl⟩ | ⟨rfl, rfl, rfl⟩ | ⟨rfl, rfl, rfl, rfl⟩ | ⟨rfl, rfl, rfl, rfl⟩
 · go_enter Tryz.func22, Tryz.ntmps22
   go_wp2_with (fail)
   rw [← hW]
   go_ret
   exact ⟨rfl, hb⟩
 all_goals
   have he42 : (B != B') = _ := he4'
   clear he4'
   go_enter Tryz.func22, Tryz.ntmps22
   go_wp2_with (first
     | (go_at_call 71; (try rw [← hW]); (with_reducible refine (k1 _ hb).mono ?_); rintro e w1 ⟨rfl, hb1⟩
        have hb2 := hb.trans (hb1.mono hb.size)
        have hX1 := hX.below hb1 hX.lt
        have hY1 := hY.below hb1 hY.lt
        have x2 : w1.cell? ⟨w.heap.size, 2, none⟩ = some (.slice A2 C.length c2) := hX1.cell 2
        have y2 : w1.cell? ⟨w.heap.size + 1, 2, none⟩ = some (.slice B2 C'.length d2) := hY1.cell 2)
     | (go_at_call 71; (with_reducible refine (k2 _ hb2).mono ?_); rintro e w3 ⟨rfl, hb3⟩
        have hb4 := hb2.trans (hb3.mono hb2.size)
        have hX3 := hX1.below hb3 hX1.lt
        have hY3 := hY1.below hb3 hY1.lt
        have x3 : w3.cell? ⟨w.heap.size, 3, none⟩ = some (.int .i64 B) := hX3.cell 3
        have y3 : w3.cell? ⟨w.heap.size + 1, 3, none⟩ = some (.int .i64 B') := hY3.cell 3))
   go_ret
   first | exact ⟨rfl, hb4⟩ | exact ⟨rfl, hb2⟩
def copyI (a : List Int) (j : Nat) : List Value := (List.range a.length).map fun i => if i < j then xv (a.getD i 0) else xv 0
theorem copyI_length (a : List Int) (j : Nat) : (copyI a j).length = a.length := by simp [copyI]
theorem copyI_step (a : List Int) (j : Nat) (h : j < a.length) : (copyI a j).set j (xv a[j]) = copyI a (j + 1) := by
 apply List.ext_getElem?
 intro i
 unfold copyI
 rw [List.getElem?_set]
 by_cases hij : j = i
 · subst hij
   rw [if_pos rfl, List.length_map, List.length_range, if_pos h, List.getElem?_map, List.getElem?_range h]
   simp [List.getD_eq_getElem?_getD, h]
 · rw [if_neg hij]
   by_cases hi : i < a.length
   · rw [List.getElem?_map, List.getElem?_map, List.getElem?_range hi]
     have : (i < j) = (i < j + 1) := by rw [eq_iff_iff]; omega
     simp only [Option.map_some, this]
   · rw [List.getElem?_eq_none (by simp; omega), List.getElem?_eq_none (by simp; omega)]
theorem copyI_end (a : List Int) : copyI a a.length = a.map xv := by
 apply List.ext_getElem?
 intro i
 unfold copyI
 by_cases hi : i < a.length
 · rw [List.getElem?_map, List.getElem?_range hi, List.getElem?_map, List.getElem?_eq_getElem hi]
   simp [List.getD_eq_getElem?_getD, hi]
 · rw [List.getElem?_eq_none (by simp; omega), List.getElem?_eq_none (by simp; omega)]
theorem copyI_start (a : List Int) : (madeCells (Value.int .i64 0).cells (a.length * 1)).toList = copyI a 0 := by
 apply List.ext_getElem?
 intro i
 unfold copyI
 by_cases hi : i < a.length
 · rw [List.getElem?_map, List.getElem?_range hi]
   simp [madeCells, hi, Value.cells, Nat.mod_one, xv]
 · rw [List.getElem?_eq_none (by simp [size_madeCells]; omega), List.getElem?_eq_none (by simp; omega)]
theorem toInt64S_any (A : Option Addr) (c : Nat) (a : List Int) (w : World) (h : Reads w w.heap.size 1 A a.length (a.map xv)) (hn : a.length ≤ 2 ^ 32) :
   Calls Tryz.prog 67 #[.slice A a.length c] w fun e w' => ∃ v, e = .returned v ∧ w'.ownsRow w.heap.size 2 1 v a.length (a.map xv) ∧ Below w.heap.size w w' := by
 have hst := Lib.hid (copyI_step a)
 have hen := Lib.hid (copyI_end a)
 have hcl := Lib.hid (copyI_length a)
 have hs0 := Lib.hid (copyI_start a)
 have hi0 : (Tryz.prog.info? 2).map (fun i => (i.zero, i.size, i.bytes)) = some (some (.int .i64 0), 1, 8) := by kernel_rfl
 obtain ⟨i, hi, hi2⟩ := Option.map_eq_some_iff.1 hi0
 simp only [Prod.mk.injEq] at hi2
 have hi1 : i.zero = some (.int .i64 0) ∧ i.size = 1 ∧ i.bytes = 8 := hi2
 clear hi0 hi2
 have hmx : a.length ≤ maxLen := by unfold maxLen; omega
 have hby : i.bytes * a.length ≤ 281474976710656 := by rw [hi1.2.2]; omega
 go_enter Tryz.func67, Tryz.ntmps67
 go_wp2_with (refine wpList_make_full _ rfl (.tmp 6) (.tmp 6) 25 rfl w.heap.size 2 i (.int .i64 0) 1 Tryz.underlying25 hi hi1.1 hi1.2.1 .i64 .i64 (a.length : Int) (a.length : Int) a.length rfl rfl rfl rfl hby hmx (Nat.le_refl _) ?_; intro w1 own1 hg1)
 rw [hs0.out] at own1
 have hb1 : Below w.heap.size w w1 := ⟨hg1.os, hg1.tape, hg1.output, hg1.size, fun k hk => hg1.block k hk (by simp)⟩
 clear hs0 hi hi1 hmx hby hg1
 go_loopw [4] (fun i wr => ∃ j : Nat, j ≤ a.length ∧ i = .int .i64 j ∧ wr.ownsRow w.heap.size 2 1 (.slice (some ⟨w.heap.size, 0, none⟩) a.length a.length) a.length (copyI a j) ∧ Below w.heap.size w wr) (fun i _ => a.length - (intOf i).toNat)
 case atStart => exact ⟨0, by omega, rfl, own1, hb1⟩
 case round =>
   clear own1 hb1
   obtain ⟨j, hj, rfl, own, hb⟩ := hrel
   by_cases hjl : j < a.length
   · obtain ⟨ad, rfl, hd1, hc1⟩ := (h.below hb).el hjl
     have hstep := Lib.hid (hst.out j hjl)
     obtain ⟨x, hx⟩ : ∃ x, x = a[j] := ⟨_, rfl⟩
     rw [← hx] at hc1 hstep
     clear hx
     simp only [xv] at hc1 hstep
     have hjj : (j : Int) < (a.length : Int) := by omega
     have hj0 : (0 : Int) ≤ (j : Int) := by omega
     have hcj := own.cellAt j (by omega)
     have hlen : j < (copyI a j).length := by rw [hcl.out]; exact hjl
     rw [List.getElem?_eq_getElem hlen] at hcj
     obtain ⟨y, hy⟩ : ∃ y, y = (copyI a j)[j] := ⟨_, rfl⟩
     rw [← hy] at hcj
     clear hy hlen
     have hfj := own.frozenAt j
     obtain ⟨own', hg'⟩ := own.stored j (.int .i64 x)
     rw [hstep.out] at own'
     have hb' := hb.setCell (p := ⟨w.heap.size, j, none⟩) (Nat.le_refl _) (.int .i64 x)
     go_wp2_with (fail)
     go_roundw
     case rel => exact ⟨j + 1, by omega, by go_num, own', hb'⟩
     case measure => simp only [intOf]; omega
   · obtain rfl : j = a.length := by omega
     rw [hen.out] at own
     go_wp2_with (fail)
     go_ret
     exact ⟨_, rfl, own, hb⟩
theorem own_low {w : World} {base e size n b : Nat} {v : Value} {xs : List Value} (h : w.ownsRow base e size v n xs) (hb : b < base) : v.ownBlock ≠ some b := fun hk => by
 have := (h.lt b hk).1
 omega
def TsOwn (base : Nat) (t : TS) (v1 v2 : Value) (w : World) : Prop :=
 w.ownsRow base 2 1 v1 t.values.length (t.values.map xv) ∧ w.ownsRow base 2 1 v2 t.counts.length (t.counts.map xv) ∧ ∀ k, v1.ownBlock = some k → v2.ownBlock ≠ some k
theorem toTileSet_any (t : TS) (A1 A2 : Option Addr) (c1 c2 : Nat) (w : World) (h : TsIn w t A1 A2) (hv : t.values.length ≤ 2 ^ 32) (hc : t.counts.length ≤ 2 ^ 32) :
   Calls Tryz.prog 17 #[t.v A1 c1 A2 c2] w fun e w' => ∃ v1 v2, e = .returned (.agg #[sv t.letters, v1, v2, .int .i64 t.blanks]) ∧ TsOwn w.heap.size t v1 v2 w' ∧ Below w.heap.size w w' := by
 have k1 := fun (W : World) (hW : Below w.heap.size w W) => toInt64S_any A1 c1 t.values W ((h.r1.below hW).more hW.size) hv
 have k2 := fun (W : World) (hW : Below w.heap.size w W) => toInt64S_any A2 c2 t.counts W ((h.r2.below hW).more hW.size) hc
 unfold TsOwn
 clear h hv hc
 obtain ⟨L, V, C, B⟩ := t
 simp only [TS.v] at *
 obtain ⟨VV, hVV⟩ : ∃ VV, VV = V.map xv := ⟨_, rfl⟩
 obtain ⟨CC, hCC⟩ : ∃ CC, CC = C.map xv := ⟨_, rfl⟩
 rw [← hVV] at k1
 rw [← hCC] at k2
 rw [← hVV, ← hCC]
 clear hVV hCC
 obtain ⟨W, hW⟩ : ∃ W, W = ((w.alloc (.cells #[sv L, .slice A1 V.length c1, .slice A2 C.length c2, .int .i64 B] 27)).alloc (.cells #[.string ⟨#[]⟩, .slice none 0 0, .slice none 0 0, .int .i64 0] 39)).alloc (.cells #[sv L, .slice none 0 0, .slice none 0 0, .int .i64 0] 39) := ⟨_, rfl⟩
 have hb : Below w.heap.size w W := by rw [hW]; exact (((Below.refl _ _).alloc (Nat.le_refl _) _).alloc (by simp) _).alloc (by simp; omega) _
 have hB0 : Blk W w.heap.size 27 #[sv L, .slice A1 V.length c1, .slice A2 C.length c2, .int .i64 B] := by rw [hW]; exact ((Blk.new w _ _).alloc _).alloc _
 have hB1 : Blk W (w.heap.size + 1) 39 #[.string ⟨#[]⟩, .slice none 0 0, .slice none 0 0, .int .i64 0] := by rw [hW]; exact (Blk.new1 w _ _ _).alloc _
 have hB2 : Blk W (w.heap.size + 1 + 1) 39 #[sv L, .slice none 0 0, .slice none 0 0, .int .i64 0] := by rw [hW]; exact Blk.new2 w _ _ _ _
 go_enter Tryz.func17, Tryz.ntmps17
 go_wp2_with (first
   | (go_at_call 67; rw [← hW]; (with_reducible refine (k1 _ hb).mono ?_); rintro e w1 ⟨v1, rfl, own1, hb1⟩
      obtain ⟨A3, c3, rfl, hc3, -⟩ := own_sl own1
      have hC0 := hB0.below hb1 hB0.lt
      have hC1 := hB1.below hb1 hB1.lt
      have hC2 := hB2.below hb1 hB2.lt
      have x1 : w1.cell? ⟨w.heap.size, 2, none⟩ = some (.slice A2 C.length c2) := hC0.cell 2
      have x2 : w1.cell? ⟨w.heap.size + 1 + 1, 1, none⟩ = some (.slice none 0 0) := hC2.cell 1
      have y2 := hC2.frozen 1
      have z0 := hC0.lt
      have z2 := hC2.lt
      obtain ⟨w2, hw2⟩ : ∃ w2, w2 = w1.setCell ⟨w.heap.size + 1 + 1, 1, none⟩ (.slice A3 V.length c3) := ⟨_, rfl⟩
      have o2 : w2.ownsRow W.heap.size 2 1 (.slice A3 V.length c3) V.length VV := by rw [hw2]; exact own_far own1 (own_blk_ne own1 hC2 (by decide)) _
      have hD0 : Blk w2 w.heap.size 27 #[sv L, .slice A1 V.length c1, .slice A2 C.length c2, .int .i64 B] := by rw [hw2]; exact hC0.far (by simp; omega) _
      have hD1 : Blk w2 (w.heap.size + 1) 39 #[.string ⟨#[]⟩, .slice none 0 0, .slice none 0 0, .int .i64 0] := by rw [hw2]; exact hC1.far (by simp) _
      have hD2 : Blk w2 (w.heap.size + 1 + 1) 39 #[sv L, .slice A3 V.length c3, .slice none 0 0, .int .i64 0] := by rw [hw2]; exact hC2.set_ 1 _
      have hbw2 : Below w.heap.size w w2 := by rw [hw2]; exact (hb.trans (hb1.mono hb.size)).setCell (p := ⟨w.heap.size + 1 + 1, 1, none⟩) (by simp; omega) _)
   | (go_at_call 67; rw [← hw2]; (with_reducible refine (k2 _ hbw2).mono ?_); rintro e w3 ⟨v3, rfl, own3, hb3⟩
      obtain ⟨A4, c4, rfl, hc4, -⟩ := own_sl own3
      have hE0 := hD0.below hb3 hD0.lt
      have hE1 := hD1.below hb3 hD1.lt
      have hE2 := hD2.below hb3 hD2.lt
      have y0 : w3.cell? ⟨w.heap.size + 1 + 1, 0, none⟩ = some (sv L) := hE2.cell 0
      have y1 : w3.cell? ⟨w.heap.size + 1 + 1, 1, none⟩ = some (.slice A3 V.length c3) := hE2.cell 1
      have y3 : w3.cell? ⟨w.heap.size + 1 + 1, 2, none⟩ = some (.slice none 0 0) := hE2.cell 2
      have y4 : w3.cell? ⟨w.heap.size + 1 + 1, 3, none⟩ = some (.int .i64 0) := hE2.cell 3
      have y5 : w3.cell? ⟨w.heap.size, 3, none⟩ = some (.int .i64 B) := hE0.cell 3
      have q0 := hE2.frozen 2
      have q1 := hE2.frozen 3
      have r0 : w3.cell? ⟨w.heap.size + 1, 0, none⟩ = some (.string ⟨#[]⟩) := hE1.cell 0
      have r1 : w3.cell? ⟨w.heap.size + 1, 1, none⟩ = some (.slice none 0 0) := hE1.cell 1
      have r2 : w3.cell? ⟨w.heap.size + 1, 2, none⟩ = some (.slice none 0 0) := hE1.cell 2
      have r3 : w3.cell? ⟨w.heap.size + 1, 3, none⟩ = some (.int .i64 0) := hE1.cell 3
      have q2 := hE1.frozen 0
      have q3 := hE1.frozen 1
      have q4 := hE1.frozen 2
      have q5 := hE1.frozen 3
      have z3 := hE0.lt
      have z4 := hE1.lt
      have z5 := hE2.lt))
 have hz : W.heap.size = w.heap.size + 3 := by rw [hW]; simp
 have hz2 : W.heap.size ≤ w2.heap.size := by rw [hw2]; simp; exact hb1.size
 have p0 := own_call o2 hb3
 have pd : ∀ k, (Value.slice A3 V.length c3).ownBlock = some k → (Value.slice A4 C.length c4).ownBlock ≠ some k := fun k h1 h2 => by
   have := (o2.lt k h1).2
   have := (own3.lt k h2).1
   omega
 have o3 := own_base own3 hz2
 have hbw3 := hbw2.trans (hb3.mono hbw2.size)
 have a1 := hE1.far (p := ⟨w.heap.size + 1 + 1, 2, none⟩) (by simp) (.slice A4 C.length c4)
 have a2 := a1.far (p := ⟨w.heap.size + 1 + 1, 3, none⟩) (by simp) (.int .i64 B)
 have a3 := (((a2.set_ 0 (sv L)).set_ 1 (.slice A3 V.length c3)).set_ 2 (.slice A4 C.length c4)).set_ 3 (.int .i64 B)
 have keep : ∀ {n : Nat} {v : Value} {xs : List Value}, w3.ownsRow W.heap.size 2 1 v n xs → ((((((w3.setCell ⟨w.heap.size + 1 + 1, 2, none⟩ (.slice A4 C.length c4)).setCell ⟨w.heap.size + 1 + 1, 3, none⟩ (.int .i64 B)).setCell ⟨w.heap.size + 1, 0, none⟩ (sv L)).setCell ⟨w.heap.size + 1, 1, none⟩ (.slice A3 V.length c3)).setCell ⟨w.heap.size + 1, 2, none⟩ (.slice A4 C.length c4)).setCell ⟨w.heap.size + 1, 3, none⟩ (.int .i64 B)).ownsRow W.heap.size 2 1 v n xs := fun h => by
   have h1 := own_low h (b := w.heap.size + 1) (by omega)
   have h2 := own_low h (b := w.heap.size + 1 + 1) (by omega)
   exact own_far (own_far (own_far (own_far (own_far (own_far h h2 _) h2 _) h1 _) h1 _) h1 _) h1 _
 have hbe := (((((hbw3.setCell (p := ⟨w.heap.size + 1 + 1, 2, none⟩) (by simp; omega) (.slice A4 C.length c4)).setCell (p := ⟨w.heap.size + 1 + 1, 3, none⟩) (by simp; omega) (.int .i64 B)).setCell (p := ⟨w.heap.size + 1, 0, none⟩) (by simp) (sv L)).setCell (p := ⟨w.heap.size + 1, 1, none⟩) (by simp) (.slice A3 V.length c3)).setCell (p := ⟨w.heap.size + 1, 2, none⟩) (by simp) (.slice A4 C.length c4)).setCell (p := ⟨w.heap.size + 1, 3, none⟩) (by simp) (.int .i64 B)
 exact ret_row (by rfl) (w.heap.size + 1) 39 #[sv L, .slice A3 V.length c3, .slice A4 C.length c4, .int .i64 B] _ rfl a3 Tryz.underlying39 rfl (by kernel_rfl) rfl ⟨_, _, rfl, ⟨own_base (keep p0) hb.size, own_base (keep o3) hb.size, pd⟩, hbe⟩
structure G2 (w w' : World) (r1 r2 : Option Nat) : Prop where
 os : w'.os = w.os
 tape : w'.tape = w.tape
 output : w'.output = w.output
 size : w.heap.size ≤ w'.heap.size
 block : ∀ k, k < w.heap.size → r1 ≠ some k → r2 ≠ some k → w'.heap[k]? = w.heap[k]?
theorem Blk.g2 {w w' : World} {g : Nat} {t : TypeId} {cs : Array Value} {r1 r2 : Option Nat} (h : Blk w g t cs) (hg : G2 w w' r1 r2) (h1 : r1 ≠ some g) (h2 : r2 ≠ some g) : Blk w' g t cs := by
 unfold Blk at h ⊢
 have hlt : g < w.heap.size := Blk.lt h
 rw [hg.block g hlt h1 h2]
 exact h
theorem Below.g2 {B : Nat} {a w w' : World} {r1 r2 : Option Nat} (hb : Below B a w) (hle : B ≤ w.heap.size) (h1 : ∀ k, r1 = some k → B ≤ k) (h2 : ∀ k, r2 = some k → B ≤ k) (hg : G2 w w' r1 r2) : Below B a w' :=
 ⟨hg.os.trans hb.os, hg.tape.trans hb.tape, hg.output.trans hb.output, Nat.le_trans hb.size hg.size, fun k hk => (hg.block k (Nat.lt_of_lt_of_le hk hle) (fun e => by have := h1 k e; omega) (fun e => by have := h2 k e; omega)).trans (hb.block k hk)⟩
theorem TsOwn.below {base : Nat} {t : TS} {v1 v2 : Value} {w w' : World} (h : TsOwn base t v1 v2 w) (hb : Below w.heap.size w w') : TsOwn base t v1 v2 w' := ⟨own_call h.1 hb, own_call h.2.1 hb, h.2.2⟩
end Go.Proofs.YtdkckikobefekaaGreatDoor
namespace Go.Proofs.YtdkckikobefekaaGreatDoor
open Go.RowKit RegP RegL
set_option maxHeartbeats 400000
def firstK : List Str → Str → Nat
 | [], _ => 0
 | x :: r, s => if sLt x s then firstK r s + 1 else 0
theorem firstK_le : ∀ (ws : List Str) (s : Str), firstK ws s ≤ ws.length
 | [], _ => Nat.le_refl _
 | x :: r, s => by
   rw [firstK]
   have := firstK_le r s
   split <;> simp <;> omega
def hasB (ws : List Str) (s : Str) : Bool := ws[firstK ws s]? == some s
theorem l05First_any (A : Option Addr) (c : Nat) (ws : List Str) (s : Str) (w : World) (hr : Reads w w.heap.size 1 A ws.length (ws.map sv)) (hn : ws.length ≤ 2 ^ 40) :
   Calls Tryz.prog 289 #[.slice A ws.length c, sv s] w fun e w' => e = .returned (.int .i64 (firstK ws s)) ∧ Dr w w' := by
 go_enter Tryz.func289, Tryz.ntmps289
 go_wp2_with (fail)
 go_loopw [5] (fun i wr => ∃ k : Nat, k ≤ ws.length ∧ i = .int .i64 k ∧ Hid (firstK ws s = k + firstK (ws.drop k) s) ∧ Dr w wr) (fun i _ => ws.length - (intOf i).toNat)
 case atStart => exact ⟨0, by omega, rfl, by unfold Hid; simp, Dr.refl _⟩
 case round =>
   obtain ⟨k, hk, rfl, he, hd⟩ := hrel
   by_cases hlt : k < ws.length
   · obtain ⟨ad, rfl, hadb, hc⟩ := (hr.below hd.below).el hlt
     have hkk : (k : Int) < (ws.length : Int) := by omega
     have hst : Hid (firstK (ws.drop k) s = if sLt ws[k] s then firstK (ws.drop (k + 1)) s + 1 else 0) := Lib.hid (by rw [drop_cons ws k hlt]; rfl)
     obtain ⟨x, hx⟩ : ∃ x, x = ws[k] := ⟨_, rfl⟩
     rw [← hx] at hst hc
     clear hx
     cases hl : sLt x s
     · have hl' : Op.bytesLess x s = false := hl
       go_wp2_with (fail)
       go_ret
       exact ⟨ret_int (by rw [he.out, hst.out, hl]; simp), hd⟩
     · have hl' : Op.bytesLess x s = true := hl
       go_wp2_with (fail)
       go_roundw
       case rel => exact ⟨k + 1, by omega, by go_num, Lib.hid (by rw [he.out, hst.out, hl]; simp; omega), hd⟩
       case measure => simp [intOf]; omega
   · obtain rfl : k = ws.length := by omega
     have hf : decide ((ws.length : Int) < (ws.length : Int)) = false := by simp
     go_wp2_with (fail)
     go_ret
     exact ⟨ret_int (by rw [he.out, List.drop_length]; rfl), hd⟩
theorem sv_beq (x s : Str) : (x.toArray == s.toArray) = (x == s) := by
 rw [Bool.eq_iff_iff, beq_iff_eq, beq_iff_eq]
 constructor
 · intro h; have := congrArg Array.toList h; simpa using this
 · rintro rfl; rfl
theorem l05Has_any (A : Option Addr) (c : Nat) (ws : List Str) (s : Str) (w : World) (hr : Reads w w.heap.size 1 A ws.length (ws.map sv)) (hn : ws.length ≤ 2 ^ 40) :
   Calls Tryz.prog 218 #[.slice A ws.length c, sv s] w fun e w' => e = .returned (.bool (hasB ws s)) ∧ Dr w w' := by
 have hdef : Hid (hasB ws s = (ws[firstK ws s]? == some s)) := rfl
 have hfi := l05First_any A c ws s
 have hle := firstK_le ws s
 obtain ⟨k, hk⟩ : ∃ k, k = firstK ws s := ⟨_, rfl⟩
 rw [← hk] at hdef hfi hle
 clear hk
 by_cases hlt : k < ws.length
 · obtain ⟨ad, rfl, hadb, hc⟩ := hr.el hlt
   have hkk : (k : Int) < (ws.length : Int) := by omega
   have hx : Hid ((ws[k]? == some s) = (ws[k] == s)) := Lib.hid (by rw [List.getElem?_eq_getElem hlt]; rfl)
   have hc' : ∀ w', Dr w w' → w'.cell? (ad.add k) = some (sv ws[k]) := fun w' hd => (hd.below.cell (by rw [block_of_add]; exact hadb)).trans hc
   obtain ⟨x, hxx⟩ : ∃ x, x = ws[k] := ⟨_, rfl⟩
   rw [← hxx] at hc' hx
   clear hxx hc
   have hq := sv_beq x s
   go_enter Tryz.func218, Tryz.ntmps218
   go_wp2_with (go_at_call 289; refine (hfi _ hr hn).mono ?_; rintro e w1 ⟨rfl, hd1⟩; have hc1 := hc' w1 hd1)
   go_ret
   exact ⟨ret_bool (by rw [hdef.out, hx.out]), hd1⟩
 · have hf : decide ((k : Int) < (ws.length : Int)) = false := by simp; omega
   go_enter Tryz.func218, Tryz.ntmps218
   go_wp2_with (go_at_call 289; refine (hfi _ hr hn).mono ?_; rintro e w1 ⟨rfl, hd1⟩)
   go_ret
   exact ⟨ret_bool (by rw [hdef.out, List.getElem?_eq_none (by omega)]; rfl), hd1⟩
structure LxAt (w : World) (p : Addr) (A : Option Addr) (c : Nat) (ws : List Str) : Prop where
 cell : w.cell? p = some (.slice A ws.length c)
 reads : Reads w w.heap.size 1 A ws.length (ws.map sv)
theorem LxAt.below {w w' : World} {p : Addr} {A : Option Addr} {c : Nat} {ws : List Str} (h : LxAt w p A c ws) (hb : Below w.heap.size w w') : LxAt w' p A c ws :=
 ⟨(hb.cell (World.block_lt_of_cell? w p h.cell)).trans h.cell, (h.reads.below hb).more hb.size⟩
theorem l05Has_v (A : Option Addr) (c : Nat) (ws : List Str) (s : Str) (w : World) (v : Bool) (hv : hasB ws s = v) (hr : Reads w w.heap.size 1 A ws.length (ws.map sv)) (hn : ws.length ≤ 2 ^ 40) :
   Calls Tryz.prog 218 #[.slice A ws.length c, sv s] w fun e w' => e = .returned (.bool v) ∧ Dr w w' := hv ▸ l05Has_any A c ws s w hr hn
def wrongL (b : Bd) (ws : List Str) (q : Pl) : List Str := (wordsL b q).filter fun s => !hasB ws s
theorem wrong_step (F : List Str) (ws : List Str) (k : Nat) (h : k < F.length) : (F.take (k + 1)).filter (fun s => !hasB ws s) = if hasB ws F[k] then (F.take k).filter (fun s => !hasB ws s) else (F.take k).filter (fun s => !hasB ws s) ++ [F[k]] := by
 rw [List.take_succ_eq_append_getElem h, List.filter_append]
 cases hh : hasB ws F[k]
 · rw [if_neg (by decide)]; congr 1; exact List.filter_cons_of_pos (p := fun s : Str => !hasB ws s) (by simp [hh])
 · rw [if_pos rfl, List.filter_cons_of_neg (p := fun s : Str => !hasB ws s) (by simp [hh]), List.filter_nil, List.append_nil]
theorem l12Wrong_any (g : Nat) {o : Nat} (b : Bd) (pl : Addr) (A : Option Addr) (c0 : Nat) (ws : List Str) (q : Pl) (w : World) (hp : BAt w ⟨g, o, none⟩ b) (hx : LxAt w pl A c0 ws) (hn : ws.length ≤ 2 ^ 40) (hf : b.Fit) (hon : OnB (flatB b q) (flatP q)) (hl : q.word.length ≤ 2 ^ 37) :
   Calls Tryz.prog 147 #[.pointer (some ⟨g, o, none⟩), .pointer (some pl), q.v] w fun e w' => ∃ v, e = .returned v ∧ w'.ownsRow w.heap.size 9 1 v (wrongL b ws q).length ((wrongL b ws q).map sv) ∧ Below w.heap.size w w' := by
 have hdef : Hid (wrongL b ws q = (wordsL b q).filter fun s => !hasB ws s) := rfl
 have hFl : (wordsL b q).length ≤ q.word.length + 1 := by
   rw [wordsL, List.length_map, ← flatP_word q]; exact formedL_length _ _
 have hfo := fun w hp => l12Words_any g (o := o) b q w hp hf hon hl
 obtain ⟨F, hF⟩ : ∃ F, F = wordsL b q := ⟨_, rfl⟩
 rw [← hF] at hdef hFl hfo
 clear hF hon
 obtain ⟨S, hS⟩ : ∃ S, S = wrongL b ws q := ⟨_, rfl⟩
 rw [← hS] at hdef ⊢
 clear hS
 obtain ⟨r, c, dn, s⟩ := q
 simp only [Pl.v] at hfo hFl ⊢
 simp only at hl
 have hpW := hp.alloc (.cells #[.int .i64 r, .int .i64 c, .bool dn, sv s] 61)
 have hbW := (Below.refl w.heap.size w).alloc (Nat.le_refl _) (.cells #[.int .i64 r, .int .i64 c, .bool dn, sv s] 61)
 obtain ⟨W, hW⟩ : ∃ W, W = w.alloc (.cells #[.int .i64 r, .int .i64 c, .bool dn, sv s] 61) := ⟨_, rfl⟩
 rw [← hW] at hpW hbW
 go_enter Tryz.func147, Tryz.ntmps147
 go_wp2_with (go_at_call 178; rw [← hW]; refine (hfo W hpW).mono ?_; rintro e w2 ⟨v2, rfl, own2, hb2⟩)
 have hw2 := hbW.trans (hb2.mono hbW.size)
 have hx2 := hx.below hw2
 obtain ⟨A2, c2, rfl, hc2, hr2⟩ := own_sl own2
 clear hb2 own2 hfo hpW hbW hW
 have hz2 := hw2.size
 go_wp2_with (fail)
 go_loopw [8, 9] (fun o i wr => ∃ k : Nat, k ≤ F.length ∧ i = .int .i64 k ∧ wr.ownsRow w2.heap.size 9 1 o ((F.take k).filter fun s => !hasB ws s).length (((F.take k).filter fun s => !hasB ws s).map sv) ∧ Below w2.heap.size w2 wr) (fun _ i _ => F.length - (intOf i).toNat)
 case atStart => exact ⟨0, by omega, rfl, World.ownsRow_lit w2 #[] 0 (Nat.le_refl _) (by unfold maxLen; omega) rfl, (Below.refl _ _).alloc (Nat.le_refl _) _⟩
 case round =>
   obtain ⟨k, hk, rfl, hown, hb⟩ := hrel
   have hfl := List.length_filter_le (fun s => !hasB ws s) (F.take k)
   rw [List.length_take] at hfl
   by_cases hlt : k < F.length
   · obtain ⟨ad, rfl, hadb, hc⟩ := (hr2.below hb).el hlt
     have hx3 := hx2.below hb
     have hlc := hx3.cell
     have hkk : (k : Int) < (F.length : Int) := by omega
     have hstep := Lib.hid (wrong_step F ws k hlt)
     obtain ⟨x, hxx⟩ : ∃ x, x = F[k] := ⟨_, rfl⟩
     rw [← hxx] at hstep hc
     clear hxx
     cases hh : hasB ws x
     all_goals
       go_wp2_with (fail)
       go_quiet ((go_at_call 218; exact quiet_dr (l05Has_v A c0 ws x _ _ hh hx3.reads hn)))
     · have hc' : (wr.drewN nq).cell? (ad.add k) = some (sv x) := hc
       have hownd := World.ownsRow.drewN hown nq
       have hbd := below_drewN hb nq
       obtain ⟨V, hV⟩ : ∃ V, V = wr.drewN nq := ⟨_, rfl⟩
       rw [← hV] at hc' hownd hbd
       rw [← hV]
       clear hV
       go_wp2_with (at_builtin; refine wpList_app strT rfl (.tmp 30) (.tmp 35) rfl _ _ _ rfl w2.heap.size hownd [sv x] rfl (by simp [Value.oneCell']) rfl (by omega) (by omega) hbd.size ?_; intro v5 w5 own5 hg5 _)
       go_roundw
       case rel => exact ⟨k + 1, by omega, by go_num, own_cast own5 (by rw [hstep.out, if_neg (by rw [hh]; decide), List.map_append]; rfl) (by rw [hstep.out, if_neg (by rw [hh]; decide), List.length_append]; rfl), Below.own hbd hbd.size hownd (Nat.le_refl _) hg5⟩
       case measure => simp [intOf]; omega
     · go_wp2_with (fail)
       go_roundw
       case rel => exact ⟨k + 1, by omega, by go_num, own_cast (World.ownsRow.drewN hown nq) (by rw [hstep.out, if_pos hh]) (by rw [hstep.out, if_pos hh]), below_drewN hb nq⟩
       case measure => simp [intOf]; omega
   · obtain rfl : k = F.length := by omega
     rw [List.take_length] at hown
     go_wp2_with (fail)
     go_ret
     exact ⟨_, rfl, own_cast (own_base hown hz2) (by rw [hdef.out]) (by rw [hdef.out]), hw2.trans (hb.mono hz2)⟩
def lettersS (b : Bd) : Str := b.cells.filter fun c => !(c == 46)
theorem letters_step (s : Str) (k : Nat) (h : k < s.length) : (s.take (k + 1)).filter (fun c => !(c == 46)) = if s[k] == 46 then (s.take k).filter (fun c => !(c == 46)) else (s.take k).filter (fun c => !(c == 46)) ++ [s[k]] := by
 rw [List.take_succ_eq_append_getElem h, List.filter_append]
 cases hh : (s[k] == 46)
 · rw [if_neg (by decide)]; congr 1; exact List.filter_cons_of_pos (p := fun c : UInt8 => !(c == 46)) (by simp only [hh]; rfl)
 · rw [if_pos rfl, List.filter_cons_of_neg (p := fun c : UInt8 => !(c == 46)) (by simp only [hh]; decide), List.filter_nil, List.append_nil]
theorem l11Letters_any (p : Addr) (b : Bd) (w : World) (hp : BAt w p b) (hl : b.cells.length ≤ 2 ^ 38) :
   Calls Tryz.prog 192 #[.pointer (some p)] w fun e w' => e = .returned (sv (lettersS b)) ∧ Below w.heap.size w w' := by
 have hblt := hp.lt
 have hdef : Hid (lettersS b = b.cells.filter fun c => !(c == 46)) := rfl
 obtain ⟨s, hs⟩ : ∃ s, s = b.cells := ⟨_, rfl⟩
 have h2 : w.cell? { block := p.block, off := p.off + 2 } = some (sv s) := by rw [hs]; exact hp.2.2
 rw [← hs] at hl hdef
 clear hs hp
 go_enter Tryz.func192, Tryz.ntmps192
 go_wp2_with (fail)
 go_loopw [3, 4] (fun o i wr => ∃ k : Nat, k ≤ s.length ∧ i = .int .i64 k ∧ wr.ownsRow w.heap.size 5 1 o ((s.take k).filter fun c => !(c == 46)).length (((s.take k).filter fun c => !(c == 46)).map bv) ∧ Below w.heap.size w wr) (fun _ i _ => s.length - (intOf i).toNat)
 case atStart => exact ⟨0, by omega, rfl, World.ownsRow_lit w #[] 0 (Nat.le_refl _) (by unfold maxLen; omega) rfl, (Below.refl _ _).alloc (Nat.le_refl _) _⟩
 case round =>
   obtain ⟨k, hk, rfl, hown, hb⟩ := hrel
   have hfl := List.length_filter_le (fun c => !(c == 46)) (s.take k)
   rw [List.length_take] at hfl
   have h3 : wr.cell? { block := p.block, off := p.off + 2 } = some (sv s) := (hb.cell (p := { block := p.block, off := p.off + 2 }) hblt).trans h2
   by_cases hlt : k < s.length
   · have hk1 : (k : Int) < (s.length : Int) := by omega
     have hk0 : (0 : Int) ≤ (k : Int) := by omega
     have hst := Lib.hid (letters_step s k hlt)
     have hq : ((s[k].toNat : Int) == 46) = (s[k] == 46) := u8_eq _ 46
     cases hx : (s[k] == 46)
     all_goals rw [hx] at hq
     · go_wp2_with (at_builtin; refine wpList_app byteT rfl (.tmp 22) (.tmp 29) rfl _ _ _ rfl w.heap.size hown [bv s[k]] rfl (by simp [Value.oneCell']) rfl (by omega) (by omega) hb.size ?_; intro v1 w1 hown1 hg1 _)
       go_roundw
       case rel => exact ⟨k + 1, by omega, by go_num, own_cast hown1 (by rw [hst.out, if_neg (by rw [hx]; decide), List.map_append]; rfl) (by rw [hst.out, if_neg (by rw [hx]; decide), List.length_append]; rfl), Below.own hb hb.size hown (Nat.le_refl _) hg1⟩
       case measure => simp [intOf]; omega
     · go_wp2_with (fail)
       go_roundw
       case rel => exact ⟨k + 1, by omega, by go_num, own_cast hown (by rw [hst.out, if_pos hx]) (by rw [hst.out, if_pos hx]), hb⟩
       case measure => simp [intOf]; omega
   · obtain rfl : k = s.length := by omega
     rw [List.take_length] at hown
     have hcv := run_string_own (P := Tryz.prog) wr 209 9 5 Tryz.underlying209 Tryz.underlying5 Tryz.underlying9 (l := lettersS b) (own_cast hown (by rw [hdef.out]) (by rw [hdef.out]))
     go_wp2_with (fail)
     go_ret
     exact ⟨rfl, hb⟩
def sgn (a b : Int) : Int := if a < b then -1 else if b < a then 1 else 0
theorem l12Sign_any (a b : Int) (w : World) :
   Calls Tryz.prog 343 #[.int .i64 a, .int .i64 b] w fun e w' => e = .returned (.int .i64 (sgn a b)) ∧ w = w' := by
 by_cases h1 : a < b
 · go_enter Tryz.func343, Tryz.ntmps343
   go_wp2_with (fail)
   go_ret
   exact ⟨ret_int (by rw [sgn, if_pos (by omega)]), rfl⟩
 · have h1' : decide (a < b) = false := decide_eq_false h1
   by_cases h2 : b < a
   · go_enter Tryz.func343, Tryz.ntmps343
     go_wp2_with (fail)
     go_ret
     exact ⟨ret_int (by rw [sgn, if_neg (by omega), if_pos (by omega)]), rfl⟩
   · have h2' : decide (b < a) = false := decide_eq_false h2
     go_enter Tryz.func343, Tryz.ntmps343
     go_wp2_with (fail)
     go_ret
     exact ⟨ret_int (by rw [sgn, if_neg (by omega), if_neg (by omega)]), rfl⟩
def cmpPl (a b : Pl) : Int :=
 if a.down == b.down then
   if a.row = b.row then
     if a.col = b.col then
       if sLt a.word b.word then -1 else if sLt b.word a.word then 1 else 0
     else sgn a.col b.col
   else sgn a.row b.row
 else if b.down then -1 else 1
theorem l12Compare_any (a b : Pl) (w : World) :
   Calls Tryz.prog 312 #[a.v, b.v] w fun e w' => e = .returned (.int .i64 (cmpPl a b)) ∧ Below w.heap.size w w' := by
 have hdef : Hid (cmpPl a b = _) := Lib.hid (by rw [cmpPl])
 obtain ⟨r, c, dn, s⟩ := a
 obtain ⟨r', c', dn', s'⟩ := b
 simp only at hdef
 unfold Pl.v
 have hB : Below w.heap.size w ((w.alloc (.cells #[.int .i64 r, .int .i64 c, .bool dn, sv s] 61)).alloc (.cells #[.int .i64 r', .int .i64 c', .bool dn', sv s'] 61)) := ((Below.refl _ _).alloc (Nat.le_refl _) _).alloc (by simp) _
 by_cases hd : dn = dn'
 · subst hd
   by_cases hr : r = r'
   · subst hr
     by_cases hc : c = c'
     · subst hc
       cases h1 : sLt s s'
       · have h1' : Op.bytesLess s s' = false := h1
         cases h2 : sLt s' s
         all_goals
           have hse := sLe_eq s s'
           rw [h1', Bool.false_or, show Op.bytesLess s' s = _ from h2] at hse
           simp only [Bool.not_false, Bool.not_true] at hse
           go_enter Tryz.func312, Tryz.ntmps312
           go_wp2_with (fail)
           go_ret
           exact ⟨ret_int (by rw [hdef.out]; simp [h1, h2]), hB⟩
       · have h1' : Op.bytesLess s s' = true := h1
         go_enter Tryz.func312, Tryz.ntmps312
         go_wp2_with (fail)
         go_ret
         exact ⟨ret_int (by rw [hdef.out]; simp [h1]), hB⟩
     · have hc' : (c == c') = false := by simp [hc]
       go_enter Tryz.func312, Tryz.ntmps312
       go_wp2_with (go_at_call 343; refine (l12Sign_any _ _ _).mono ?_; rintro e w' ⟨rfl, rfl⟩)
       go_ret
       exact ⟨ret_int (by rw [hdef.out]; simp [hc]), hB⟩
   · have hr' : (r == r') = false := by simp [hr]
     go_enter Tryz.func312, Tryz.ntmps312
     go_wp2_with (go_at_call 343; refine (l12Sign_any _ _ _).mono ?_; rintro e w' ⟨rfl, rfl⟩)
     go_ret
     exact ⟨ret_int (by rw [hdef.out]; simp [hr]), hB⟩
 · cases dn <;> cases dn'
   · exact absurd rfl hd
   · go_enter Tryz.func312, Tryz.ntmps312
     go_wp2_with (fail)
     go_ret
     exact ⟨ret_int (by rw [hdef.out]; simp), hB⟩
   · go_enter Tryz.func312, Tryz.ntmps312
     go_wp2_with (fail)
     go_ret
     exact ⟨ret_int (by rw [hdef.out]; simp), hB⟩
   · exact absurd rfl hd
end Go.Proofs.YtdkckikobefekaaGreatDoor
