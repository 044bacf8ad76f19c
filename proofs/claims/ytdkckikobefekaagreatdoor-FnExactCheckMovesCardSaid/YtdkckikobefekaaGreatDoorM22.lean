/-
  Contract: the letters that a word needs at a place, the place being on the board (layer 16 of the impl package); Contracts: boards (layer 11 of the impl package); Contract: tryPlays where something is not valid (layer 16 of the impl package).
  Conditions: as in the text ahead; lengths at most 2^40; strings of common size; the words' slice reads as a list of strings.
-/
import Derived.Test.YtdkckikobefekaaGreatDoorM21
import Derived.Test.YtdkckikobefekaaGreatDoorM10
import Derived.Test.YtdkckikobefekaaGreatDoorM13
import Derived.Test.YtdkckikobefekaaGreatDoorM05
import Derived.Test.YtdkckikobefekaaGreatDoorM11
import Derived.Lib.Builder
import Derived.Lib.UnsafeStr
import Derived.Laws.Externs
import Derived.RegionTactic
import Derived.Laws.Rows
import Derived.Laws.Tables
import Derived.Lib.OthersKept
namespace Go.Proofs.YtdkckikobefekaaGreatDoor
open Go.RowKit RegP RegL RegV
set_option maxHeartbeats 4000000
set_option maxRecDepth 100000
theorem own_other {w w' : World} {base e size n : Nat} {v : Value} {xs : List Value} {row : Option Nat} (h : w.ownsRow base e size v n xs) (hg : w.grownBy w' row) (hne : row ≠ v.ownBlock) : w'.ownsRow base e size v n xs :=
 own_keep h fun k hk => hg.block k (h.lt k hk).2 (fun e => hne (e.symm.trans hk.symm))
theorem needs_good (b : Bd) (word : Str) (r c : Int) (d : Bool) (w : World) (hf : b.Fit) (hs : sizeB b.size = true) (hba : asciiB b.cells = true) (ha : asciiB word = true) (hl : word.length ≤ 2 ^ 32) (h1 : -400000000000 ≤ r) (h2 : r ≤ 400000000000) (h3 : -400000000000 ≤ c) (h4 : c ≤ 400000000000) (hyes : (longB word && b.inB r c) = true) :
   Calls Tryz.prog 209 #[b.v, sv word, .int .i64 r, .int .i64 c, .bool d] w fun e w' => e = .returned (needI b word r c d) ∧ Below w.heap.size w w' := by
 have kl := fun w => isLong_any word w (by omega)
 have ki := fun w => inside_any b r c w hs
 rw [Bool.and_eq_true] at hyes
 rw [hyes.1] at kl
 rw [hyes.2] at ki
 have hres : Hid (needI b word r c d = if okTo b ⟨r, c, d, []⟩ word word.length then .tuple #[sv (letTo b ⟨r, c, d, []⟩ word word.length), .agg #[.int .i64 r, .int .i64 c, .bool d, sv (putTo b ⟨r, c, d, []⟩ word word.length)], .bool (validI b ⟨r, c, d, putTo b ⟨r, c, d, []⟩ word word.length⟩)]
     else .tuple #[.string ⟨#[]⟩, .agg #[.int .i64 0, .int .i64 0, .bool false, .string ⟨#[]⟩], .bool false]) := Lib.hid (by
   unfold needI standB; rw [hyes.1, hyes.2]; rfl)
 clear hyes
 have kv := fun w => validOn_any b ⟨r, c, d, putTo b ⟨r, c, d, []⟩ word word.length⟩ w hf hs (putTo_ascii hba _ ha _) (by rw [putTo_length]; exact hl) h1 h2 h3 h4
 have ksq := fun (k : Nat) (h : k < word.length) (w : World) => square_any ⟨r, c, d, []⟩ k w (by simp only; omega) (by simp only; omega) (by simp only; omega) (by simp only; omega) (by omega) (by omega)
 have kc := fun (k : Nat) (w : World) => cell_any b (Pl.sr ⟨r, c, d, []⟩ k) (Pl.sc ⟨r, c, d, []⟩ k) w hf
 have hcq : ∀ k : Nat, b.cell (Pl.sr ⟨r, c, d, []⟩ k) (Pl.sc ⟨r, c, d, []⟩ k) = cellQ b ⟨r, c, d, []⟩ k := fun k => rfl
 simp only [hcq] at kc
 have htk : Hid (∀ k, takeC b ⟨r, c, d, []⟩ word k = if cellQ b ⟨r, c, d, []⟩ k == 46 then word.getD k 0 else cellQ b ⟨r, c, d, []⟩ k) := Lib.hid (fun k => rfl)
 have hto : Hid (∀ k, takeOk b ⟨r, c, d, []⟩ word k = (!(takeC b ⟨r, c, d, []⟩ word k == 0) && (lowC (takeC b ⟨r, c, d, []⟩ word k) == word.getD k 0))) := Lib.hid (fun k => rfl)
 have hta := Lib.hid (fun k => takeC_ascii hba ⟨r, c, d, []⟩ ha k)
 have hok := Lib.hid (okTo_succ b ⟨r, c, d, []⟩ word)
 have hpu := Lib.hid (putTo_succ b ⟨r, c, d, []⟩ word)
 have hle := Lib.hid (letTo_succ b ⟨r, c, d, []⟩ word)
 have hno := Lib.hid (fun k (h : k < word.length) (hk : takeOk b ⟨r, c, d, []⟩ word k = false) => okTo_no b ⟨r, c, d, []⟩ word h hk)
 have hpl := Lib.hid (putTo_length b ⟨r, c, d, []⟩ word)
 have hll := Lib.hid (letTo_length b ⟨r, c, d, []⟩ word)
 have hok0 : Hid (okTo b ⟨r, c, d, []⟩ word 0 = true) := Lib.hid rfl
 have hpu0 : Hid (putTo b ⟨r, c, d, []⟩ word 0 = []) := Lib.hid rfl
 have hle0 : Hid (letTo b ⟨r, c, d, []⟩ word 0 = []) := Lib.hid rfl
 obtain ⟨R, hR⟩ : ∃ R, R = needI b word r c d := ⟨_, rfl⟩
 rw [← hR] at hres ⊢
 obtain ⟨V, hV⟩ : ∃ V, V = validI b ⟨r, c, d, putTo b ⟨r, c, d, []⟩ word word.length⟩ := ⟨_, rfl⟩
 rw [← hV] at hres kv
 obtain ⟨CQ, hCQ⟩ : ∃ CQ, CQ = cellQ b ⟨r, c, d, []⟩ := ⟨_, rfl⟩
 obtain ⟨TC, hTC⟩ : ∃ TC, TC = takeC b ⟨r, c, d, []⟩ word := ⟨_, rfl⟩
 obtain ⟨TO, hTO⟩ : ∃ TO, TO = takeOk b ⟨r, c, d, []⟩ word := ⟨_, rfl⟩
 obtain ⟨OT, hOT⟩ : ∃ OT, OT = okTo b ⟨r, c, d, []⟩ word := ⟨_, rfl⟩
 obtain ⟨PT, hPT⟩ : ∃ PT, PT = putTo b ⟨r, c, d, []⟩ word := ⟨_, rfl⟩
 obtain ⟨LT, hLT⟩ : ∃ LT, LT = letTo b ⟨r, c, d, []⟩ word := ⟨_, rfl⟩
 rw [← hOT] at hok hno hok0 hres
 rw [← hPT] at hpu hpl hpu0 hres kv
 rw [← hLT] at hle hll hle0 hres
 rw [← hTO] at hto hok hno
 rw [← hTC] at htk hto hta hpu
 rw [← hCQ] at htk hle kc
 have ksq' := Lib.hid ksq
 have kc' := Lib.hid kc
 have ha' := Lib.hid (fun k => asciiB_getD ha k)
 have kl1 := Lib.hid (fun (c : UInt8) (hc : c.toNat < 128) w => lower_any [c] w (by simp) (by simp [asciiB, hc]))
 clear hR hV hCQ hTC hTO hOT hPT hLT ksq kc hcq hf hs hba ha h1 h2 h3 h4
 obtain ⟨n, bp, bc⟩ := b
 simp only [Bd.v, Pl.v, sqV] at *
 obtain ⟨W0, hW0⟩ : ∃ W0, W0 = ((w.alloc (.cells #[.int .i64 n, sv bp, sv bc] 41)).alloc (.cells #[.int .i64 0, .int .i64 0, .bool false, .string ⟨#[]⟩] 61)).alloc (.cells #[.int .i64 r, .int .i64 c, .bool d, .string ⟨#[]⟩] 61) := ⟨_, rfl⟩
 have hB0 : Blk W0 w.heap.size 41 #[.int .i64 n, sv bp, sv bc] := by rw [hW0]; exact ((Blk.new w _ _).alloc _).alloc _
 have hB1 : Blk W0 (w.heap.size + 1) 61 #[.int .i64 0, .int .i64 0, .bool false, .string ⟨#[]⟩] := by rw [hW0]; exact (Blk.new1 w _ _ _).alloc _
 have hB2 : Blk W0 (w.heap.size + 1 + 1) 61 #[.int .i64 r, .int .i64 c, .bool d, .string ⟨#[]⟩] := by rw [hW0]; exact Blk.new2 w _ _ _ _
 have hb0 : Below w.heap.size w W0 := by rw [hW0]; exact ((((Below.refl _ _).alloc (Nat.le_refl _) _).alloc (by simp) _).alloc (by simp; omega) _)
 go_enter Tryz.func209, Tryz.ntmps209
 go_wp2_with (first
   | (go_at_call 281; rw [← hW0]; refine (kl _).mono ?_; rintro e w1 ⟨rfl, hb1⟩
      have hA1 := hB0.below hb1 hB0.lt
      have hC1 := hB1.below hb1 hB1.lt
      have hD1 := hB2.below hb1 hB2.lt
      have b0 : w1.cell? ⟨w.heap.size, 0, none⟩ = some (.int .i64 n) := hA1.cell 0
      have b1 : w1.cell? ⟨w.heap.size, 1, none⟩ = some (sv bp) := hA1.cell 1
      have b2 : w1.cell? ⟨w.heap.size, 2, none⟩ = some (sv bc) := hA1.cell 2
      have hbb := hb0.trans (hb1.mono hb0.size))
   | (go_at_call 231; refine (ki _).mono ?_; rintro e w2 ⟨rfl, hb2⟩))
 have hA2 := hA1.below hb2 hA1.lt
 have hC2 := hC1.below hb2 hC1.lt
 have hD2 := hD1.below hb2 hD1.lt
 have hb3 := hbb.trans (hb2.mono hbb.size)
 obtain ⟨W3, hW3⟩ : ∃ W3, W3 = (w2.alloc (.cells #[] 5)).alloc (.cells #[] 5) := ⟨_, rfl⟩
 have hA3 : Blk W3 w.heap.size 41 #[.int .i64 n, sv bp, sv bc] := by rw [hW3]; exact (hA2.alloc _).alloc _
 have hC3 : Blk W3 (w.heap.size + 1) 61 #[.int .i64 0, .int .i64 0, .bool false, .string ⟨#[]⟩] := by rw [hW3]; exact (hC2.alloc _).alloc _
 have hD3 : Blk W3 (w.heap.size + 1 + 1) 61 #[.int .i64 r, .int .i64 c, .bool d, .string ⟨#[]⟩] := by rw [hW3]; exact (hD2.alloc _).alloc _
 have hb4 : Below w.heap.size w W3 := by rw [hW3]; exact (hb3.alloc hb3.size _).alloc (by have := hb3.size; simp; omega) _
 have own1 : W3.ownsRow w.heap.size 5 1 (.slice (some ⟨w2.heap.size, 0, none⟩) 0 0) 0 [] := by
   rw [hW3]
   exact (World.ownsRow_lit (base := w.heap.size) (size := 1) (e := 5) w2 #[] 0 hb3.size (by unfold maxLen; omega) rfl).alloc _
 have own2 : W3.ownsRow w.heap.size 5 1 (.slice (some ⟨w2.heap.size + 1, 0, none⟩) 0 0) 0 [] := by
   rw [hW3]
   have := World.ownsRow_lit (base := w.heap.size) (size := 1) (e := 5) (w2.alloc (.cells #[] 5)) #[] 0 (by have := hb3.size; simp; omega) (by unfold maxLen; omega) rfl
   simpa using this
 rw [← hW3]
 have hne0 : (Value.slice (some ⟨w2.heap.size, 0, none⟩) 0 0).ownBlock ≠ (Value.slice (some ⟨w2.heap.size + 1, 0, none⟩) 0 0).ownBlock := by simp [Value.ownBlock]
 clear hW3 hA1 hC1 hD1 hA2 hC2 hD2 hb1 hb2 hb3 hbb b0 b1 b2 hB0 hB1 hB2 hb0 hW0
 go_loopw [14, 15, 16] (fun o1 o2 i wr => ∃ k : Nat, k ≤ word.length ∧ i = .int .i64 k ∧ OT k = true ∧ wr.ownsRow w.heap.size 5 1 o1 (LT k).length ((LT k).map bv) ∧ wr.ownsRow w.heap.size 5 1 o2 k ((PT k).map bv) ∧ o1.ownBlock ≠ o2.ownBlock ∧ Blk wr w.heap.size 41 #[.int .i64 n, sv bp, sv bc] ∧ Blk wr (w.heap.size + 1) 61 #[.int .i64 0, .int .i64 0, .bool false, .string ⟨#[]⟩] ∧ Blk wr (w.heap.size + 1 + 1) 61 #[.int .i64 r, .int .i64 c, .bool d, .string ⟨#[]⟩] ∧ Below w.heap.size w wr) (fun _ _ i _ => word.length - (intOf i).toNat)
 case atStart => exact ⟨0, by omega, rfl, hok0.out, by rw [hle0.out]; exact own1, by rw [hpu0.out]; exact own2, hne0, hA3, hC3, hD3, hb4⟩
 case round =>
   clear own1 own2 hne0 hA3 hC3 hD3 hb4
   obtain ⟨k, hk, rfl, hot, own1, own2, hne0, hA3, hC3, hD3, hb4⟩ := hrel
   by_cases hkl : k < word.length
   · have ksk := ksq'.out k hkl
     have kck := kc'.out k
     have htk1 := Lib.hid (htk.out k)
     have hto1 := Lib.hid (hto.out k)
     have hta1 := hta.out k
     have hok1 := Lib.hid (hok.out k)
     have hpu1 := Lib.hid (hpu.out k)
     have hle1 := Lib.hid (hle.out k)
     have hno1 := Lib.hid (hno.out k hkl)
     have hll1 := hll.out k
     obtain ⟨sr, hsr⟩ : ∃ sr, sr = Pl.sr ⟨r, c, d, []⟩ k := ⟨_, rfl⟩
     obtain ⟨sc, hsc⟩ : ∃ sc, sc = Pl.sc ⟨r, c, d, []⟩ k := ⟨_, rfl⟩
     rw [← hsr] at ksk kck
     rw [← hsc] at ksk kck
     obtain ⟨ch, hch⟩ : ∃ ch, ch = CQ k := ⟨_, rfl⟩
     rw [← hch] at kck htk1 hle1
     have hget : word.getD k 0 = word[k] := by rw [List.getD_eq_getElem?_getD, List.getElem?_eq_getElem hkl]; rfl
     rw [hget] at htk1 hle1 hto1
     obtain ⟨P1, hP1⟩ : ∃ P1, P1 = PT k := ⟨_, rfl⟩
     rw [← hP1] at own2 hpu1
     obtain ⟨L1, hL1⟩ : ∃ L1, L1 = LT k := ⟨_, rfl⟩
     rw [← hL1] at own1 hle1 hll1
     obtain ⟨ok, hokk⟩ : ∃ ok, ok = TO k := ⟨_, rfl⟩
     rw [← hokk] at hto1 hok1 hno1
     clear hsr hsc hch hget hP1 hL1 hokk
     have hkk : (k : Int) < (word.length : Int) := by omega
     have hLl : L1.length + 1 ≤ 1099511627776 := by omega
     have hPl : k + 1 ≤ 1099511627776 := by omega
     clear hll1
     have hbz := hb4.size
     have hlA := hA3.lt
     have hlC := hC3.lt
     have hlD := hD3.lt
     have p0 : wr.cell? ⟨w.heap.size + 1 + 1, 0, none⟩ = some (.int .i64 r) := hD3.cell 0
     have p1 : wr.cell? ⟨w.heap.size + 1 + 1, 1, none⟩ = some (.int .i64 c) := hD3.cell 1
     have p2 : wr.cell? ⟨w.heap.size + 1 + 1, 2, none⟩ = some (.bool d) := hD3.cell 2
     have p3 : wr.cell? ⟨w.heap.size + 1 + 1, 3, none⟩ = some (.string ⟨#[]⟩) := hD3.cell 3
     by_cases c46 : ch = 46
     · subst c46
       have htk2 : Hid (TC k = word[k]) := Lib.hid (by rw [htk1.out]; rfl)
       have hle2 : Hid (LT (k + 1) = L1 ++ [word[k]]) := Lib.hid (by rw [hle1.out]; rfl)
       clear htk1 hle1
       go_wp2_with (first
         | (go_at_call 169; refine (ksk _).mono ?_; rintro e w5 ⟨rfl, hb5⟩
            have hA5 := hA3.below hb5 hA3.lt
            have d0 : w5.cell? ⟨w.heap.size, 0, none⟩ = some (.int .i64 n) := hA5.cell 0
            have d1 : w5.cell? ⟨w.heap.size, 1, none⟩ = some (sv bp) := hA5.cell 1
            have d2 : w5.cell? ⟨w.heap.size, 2, none⟩ = some (sv bc) := hA5.cell 2
            have hlA5 := hA5.lt
            have hne5 : w.heap.size ≠ w5.heap.size := by omega
            have hb6 := hb5.alloc hb5.size (.cells #[.int .i64 sr, .int .i64 sc] 229))
         | (go_at_call 233; refine (kck _).mono ?_; rintro e w6 ⟨rfl, hb7⟩
            have hb8 := hb6.trans (hb7.mono hb6.size)
            have own16 := own_call own1 hb8
            have own26 := own_call own2 hb8
            have hz6 := Nat.le_trans hbz hb8.size)
         | (at_builtin; refine wpList_app byteT rfl (.tmp 56) (.tmp 58) rfl _ L1.length _ rfl w.heap.size own16 [bv word[k]] rfl (by simp [Value.oneCell']) rfl hLl (by omega) hz6 ?_; intro v7 w7 own17 hg7 hat7))
       have h28 := hb4.trans (hb8.mono hbz)
       have ownA := own_cast own17 (xs' := (LT (k + 1)).map bv) (n' := (LT (k + 1)).length) (by rw [hle2.out]; simp) (by rw [hle2.out]; simp)
       have ownB := own_other own26 hg7 hne0
       have hAB : v7.ownBlock ≠ u15.ownBlock := by
         rcases hat7 with h | h
         · rw [h]; exact hne0
         · intro e
           have := (own26.lt _ (e.symm.trans h)).2
           omega
       have hA7 := (hA3.below hb8 hA3.lt).grown hg7 (fun h => own_blk_ne own16 (hA3.below hb8 hA3.lt) (by decide) h.symm)
       have hC7 := (hC3.below hb8 hC3.lt).grown hg7 (fun h => own_blk_ne own16 (hC3.below hb8 hC3.lt) (by decide) h.symm)
       have hD7 := (hD3.below hb8 hD3.lt).grown hg7 (fun h => own_blk_ne own16 (hD3.below hb8 hD3.lt) (by decide) h.symm)
       have hB7 := Below.own h28 h28.size own16 (Nat.le_refl _) hg7
       clear own16 own26 own17 hg7 hat7 hle2 h28 hb8 hA5 hb5 hb6 hb7 d0 d1 d2 hlA hlC hlD hlA5 hne5 hz6
       clear hA3 hC3 hD3 own1 own2 hne0 p0 p1 p2 p3 hb4 ksk kck
       obtain ⟨tc, htc⟩ : ∃ tc, tc = word[k] := ⟨_, rfl⟩
       have htx := Lib.hid htc
       rw [← htc] at htk2 ⊢
       clear htc
       have j0 : (k : Int) < (word.length : Int) := by omega
       have j1 : (0 : Int) ≤ (k : Int) := by omega
       have j2 : (k : Int) ≤ (k : Int) + 1 := by omega
       have j3 : (k : Int) + 1 ≤ (word.length : Int) := by omega
       have hone : Hid ((word.drop k).take 1 = [word[k]]) := Lib.hid (by rw [drop_cons word k hkl]; rfl)
       have htlt : tc.toNat < 128 := by rw [← htk2.out]; exact hta1
       by_cases z : tc = 0
       · have hokf : ok = false := by rw [hto1.out, htk2.out, z]; rfl
         have hR : Hid (R = .tuple #[.string ⟨#[]⟩, .agg #[.int .i64 0, .int .i64 0, .bool false, .string ⟨#[]⟩], .bool false]) := Lib.hid (by rw [hres.out, hno1.out hokf]; rfl)
         have hz : ((tc.toNat : Int) == 0) = true := by rw [z]; rfl
         clear hok1 hto1 hno1 hres
         refine wp_region_b 14 (by kernel_rfl) (by kernel_rfl) ?_
         simp only [qqT, List.take_zero, qqD, List.drop_zero]
         iterate 3
           apply pc_step rfl
           · intro w9 hb9 K hK
             go_wp2_with (fail)
             all_goals first | exact hb9 | exact hb9.trans (hb5.mono hb9.size) | exact hb9.trans (hd5.below.mono hb9.size)
           simp only [Act.put, qqS, qqC, qqZ]
         iterate 10
           apply pc_skip rfl
           simp only [Act.put, qqS, qqC, qqZ]
         iterate 1
           apply pc_step rfl
           · intro w9 hb9 K hK
             go_wp2_with (fail)
             all_goals first | exact hb9 | exact hb9.trans (hb5.mono hb9.size) | exact hb9.trans (hd5.below.mono hb9.size)
           simp only [Act.put, qqS, qqC, qqZ]
         refine pc_nil ?_
         intro w9 hb9
         have hC9 := hC7.below hb9 hC7.lt
         have hB9 := hB7.trans (hb9.mono hB7.size)
         have f0 := hC9.frozen
         have x0 : w9.cell? ⟨w.heap.size + 1, 0, none⟩ = some (.int .i64 0) := hC9.cell 0
         have x1 : w9.cell? ⟨w.heap.size + 1, 1, none⟩ = some (.int .i64 0) := hC9.cell 1
         have x2 : w9.cell? ⟨w.heap.size + 1, 2, none⟩ = some (.bool false) := hC9.cell 2
         have x3 : w9.cell? ⟨w.heap.size + 1, 3, none⟩ = some (.string ⟨#[]⟩) := hC9.cell 3
         have hlt2 : w.heap.size + 1 < w9.heap.size := hC9.lt
         go_wp2_with (fail)
         rw [hR.out]
         exact ret_slot_row_slot (by rfl) (w.heap.size + 1) 61 #[.int .i64 0, .int .i64 0, .bool false, .string ⟨#[]⟩] _ rfl rfl ((((hC9.set_ 0 _).set_ 1 _).set_ 2 _).set_ 3 _) Tryz.underlying61 rfl (by kernel_rfl) rfl rfl ⟨rfl, (((hB9.setCell (by simp <;> omega) _).setCell (by simp <;> omega) _).setCell (by simp <;> omega) _).setCell (by simp <;> omega) _⟩
       · have hz : ((tc.toNat : Int) == 0) = false := by rw [beq_eq_false_iff_ne]; intro h; exact z (UInt8.toNat_inj.1 (by have : (0 : UInt8).toNat = 0 := rfl; omega))
         have hwr : IntKind.i32.wrap (tc.toNat : Int) = (tc.toNat : Int) := by unfold IntKind.wrap; simp [IntKind.bits, IntKind.signed]; omega
         have henc := encode_ascii tc htlt
         have klt := kl1.out tc htlt
         have hcase : Hid (∃ t, t = (lowC tc == word[k])) := Lib.hid ⟨_, rfl⟩
         obtain ⟨t, ht⟩ := hcase.out
         have hok2 : Hid (ok = t) := Lib.hid (by rw [hto1.out, htk2.out, ht, beq_false_of_ne z]; rfl)
         have hne : (lowS [tc] == [word[k]]) = t := by rw [lowS_one, ht]
         obtain ⟨ls, hls⟩ : ∃ ls, ls = lowS [tc] := ⟨_, rfl⟩
         rw [← hls] at hne klt
         clear ht hcase hls hto1
         cases t
         · have hR : Hid (R = .tuple #[.string ⟨#[]⟩, .agg #[.int .i64 0, .int .i64 0, .bool false, .string ⟨#[]⟩], .bool false]) := Lib.hid (by rw [hres.out, hno1.out hok2.out]; rfl)
           clear hres hno1 hok1
           refine wp_region_b 14 (by kernel_rfl) (by kernel_rfl) ?_
           simp only [qqT, List.take_zero, qqD, List.drop_zero]
           iterate 5
             apply pc_step rfl
             · intro w9 hb9 K hK
               go_wp2_with (go_at_call 235; refine (klt _).mono ?_; rintro e w5 ⟨rfl, hb5⟩)
               first | exact hb9 | exact hb9.trans (hb5.mono hb9.size)
             simp only [Act.put, qqS, qqC, qqZ]
           try rw [hwr]
           iterate 1
             apply pc_step rfl
             · intro w9 hb9 K hK
               go_wp2_with (go_at_call 235; refine (klt _).mono ?_; rintro e w5 ⟨rfl, hb5⟩)
               first | exact hb9 | exact hb9.trans (hb5.mono hb9.size)
             simp only [Act.put, qqS, qqC, qqZ]
           try rw [henc]
           iterate 6
             apply pc_step rfl
             · intro w9 hb9 K hK
               go_wp2_with (go_at_call 235; refine (klt _).mono ?_; rintro e w5 ⟨rfl, hb5⟩)
               first | exact hb9 | exact hb9.trans (hb5.mono hb9.size)
             simp only [Act.put, qqS, qqC, qqZ]
           rw [hone.out]
           iterate 2
             apply pc_step rfl
             · intro w9 hb9 K hK
               go_wp2_with (go_at_call 235; refine (klt _).mono ?_; rintro e w5 ⟨rfl, hb5⟩)
               first | exact hb9 | exact hb9.trans (hb5.mono hb9.size)
             simp only [Act.put, qqS, qqC, qqZ]
           refine pc_nil ?_
           intro w9 hb9
           have hC9 := hC7.below hb9 hC7.lt
           have hB9 := hB7.trans (hb9.mono hB7.size)
           have f0 := hC9.frozen
           have x0 : w9.cell? ⟨w.heap.size + 1, 0, none⟩ = some (.int .i64 0) := hC9.cell 0
           have x1 : w9.cell? ⟨w.heap.size + 1, 1, none⟩ = some (.int .i64 0) := hC9.cell 1
           have x2 : w9.cell? ⟨w.heap.size + 1, 2, none⟩ = some (.bool false) := hC9.cell 2
           have x3 : w9.cell? ⟨w.heap.size + 1, 3, none⟩ = some (.string ⟨#[]⟩) := hC9.cell 3
           have hlt2 : w.heap.size + 1 < w9.heap.size := hC9.lt
           go_wp2_with (fail)
           rw [hR.out]
           exact ret_slot_row_slot (by rfl) (w.heap.size + 1) 61 #[.int .i64 0, .int .i64 0, .bool false, .string ⟨#[]⟩] _ rfl rfl ((((hC9.set_ 0 _).set_ 1 _).set_ 2 _).set_ 3 _) Tryz.underlying61 rfl (by kernel_rfl) rfl rfl ⟨rfl, (((hB9.setCell (by simp <;> omega) _).setCell (by simp <;> omega) _).setCell (by simp <;> omega) _).setCell (by simp <;> omega) _⟩
         · have hot2 : Hid (OT (k + 1) = true) := Lib.hid (by rw [hok1.out, hot, hok2.out]; rfl)
           have hpu2 : Hid (PT (k + 1) = P1 ++ [tc]) := Lib.hid (by rw [hpu1.out, htk2.out])
           clear hok1 hpu1 hno1 hok2
           refine wp_region_b 14 (by kernel_rfl) (by kernel_rfl) ?_
           simp only [qqT, List.take_zero, qqD, List.drop_zero]
           iterate 5
             apply pc_step rfl
             · intro w9 hb9 K hK
               go_wp2_with (go_at_call 235; refine (klt _).mono ?_; rintro e w5 ⟨rfl, hb5⟩)
               first | exact hb9 | exact hb9.trans (hb5.mono hb9.size)
             simp only [Act.put, qqS, qqC, qqZ]
           try rw [hwr]
           iterate 1
             apply pc_step rfl
             · intro w9 hb9 K hK
               go_wp2_with (go_at_call 235; refine (klt _).mono ?_; rintro e w5 ⟨rfl, hb5⟩)
               first | exact hb9 | exact hb9.trans (hb5.mono hb9.size)
             simp only [Act.put, qqS, qqC, qqZ]
           try rw [henc]
           iterate 6
             apply pc_step rfl
             · intro w9 hb9 K hK
               go_wp2_with (go_at_call 235; refine (klt _).mono ?_; rintro e w5 ⟨rfl, hb5⟩)
               first | exact hb9 | exact hb9.trans (hb5.mono hb9.size)
             simp only [Act.put, qqS, qqC, qqZ]
           rw [hone.out]
           iterate 2
             apply pc_step rfl
             · intro w9 hb9 K hK
               go_wp2_with (go_at_call 235; refine (klt _).mono ?_; rintro e w5 ⟨rfl, hb5⟩)
               first | exact hb9 | exact hb9.trans (hb5.mono hb9.size)
             simp only [Act.put, qqS, qqC, qqZ]
           refine pc_nil ?_
           intro w9 hb9
           have ownA9 := own_call ownA hb9
           have ownB9 := own_call ownB hb9
           have hA9 := hA7.below hb9 hA7.lt
           have hC9 := hC7.below hb9 hC7.lt
           have hD9 := hD7.below hb9 hD7.lt
           have hB9 := hB7.trans (hb9.mono hB7.size)
           have hz9 := hB9.size
           go_wp2_with (at_builtin; refine wpList_app byteT rfl (.tmp 75) (.tmp 77) rfl _ k _ rfl w.heap.size ownB9 [bv tc] rfl (by simp [Value.oneCell']) rfl hPl (by omega) hz9 ?_; intro v8 w8 own28 hg8 hat8)
           go_roundw
           case rel => exact ⟨k + 1, by omega, by go_num, hot2.out, own_other ownA9 hg8 (Ne.symm hAB), own_cast own28 (by rw [hpu2.out]; simp) rfl, by
             rcases hat8 with h | h
             · rw [h]; exact hAB
             · intro e
               have := (ownA9.lt _ (e.trans h)).2
               omega, hA9.grown hg8 (fun h => own_blk_ne ownB9 hA9 (by decide) h.symm), hC9.grown hg8 (fun h => own_blk_ne ownB9 hC9 (by decide) h.symm), hD9.grown hg8 (fun h => own_blk_ne ownB9 hD9 (by decide) h.symm), Below.own hB9 hz9 ownB9 (Nat.le_refl _) hg8⟩
           case measure => simp [intOf]; omega
     · have hn46 : ((ch.toNat : Int) == 46) = false := by rw [beq_eq_false_iff_ne]; intro h; exact c46 (UInt8.toNat_inj.1 (by have : (46 : UInt8).toNat = 46 := rfl; omega))
       have htk2 : Hid (TC k = ch) := Lib.hid (by rw [htk1.out, beq_false_of_ne c46]; rfl)
       have hle2 : Hid (LT (k + 1) = L1) := Lib.hid (by rw [hle1.out, beq_false_of_ne c46]; rfl)
       clear htk1 hle1 c46
       go_wp2_with (first
         | (go_at_call 169; refine (ksk _).mono ?_; rintro e w5 ⟨rfl, hb5⟩
            have hA5 := hA3.below hb5 hA3.lt
            have d0 : w5.cell? ⟨w.heap.size, 0, none⟩ = some (.int .i64 n) := hA5.cell 0
            have d1 : w5.cell? ⟨w.heap.size, 1, none⟩ = some (sv bp) := hA5.cell 1
            have d2 : w5.cell? ⟨w.heap.size, 2, none⟩ = some (sv bc) := hA5.cell 2
            have hlA5 := hA5.lt
            have hne5 : w.heap.size ≠ w5.heap.size := by omega
            have hb6 := hb5.alloc hb5.size (.cells #[.int .i64 sr, .int .i64 sc] 229))
         | (go_at_call 233; refine (kck _).mono ?_; rintro e w7 ⟨rfl, hb7⟩
            have hb8 := hb6.trans (hb7.mono hb6.size)
            have own16 := own_call own1 hb8
            have ownB := own_call own2 hb8))
       have ownA := own_cast own16 (xs' := (LT (k + 1)).map bv) (n' := (LT (k + 1)).length) (by rw [hle2.out]) (by rw [hle2.out])
       have hA7 := hA3.below hb8 hA3.lt
       have hC7 := hC3.below hb8 hC3.lt
       have hD7 := hD3.below hb8 hD3.lt
       have hB7 := hb4.trans (hb8.mono hbz)
       have hAB := hne0
       clear own16 hle2 hb8 hA5 hb5 hb6 hb7 d0 d1 d2 hlA hlC hlD hlA5 hne5
       clear hA3 hC3 hD3 own1 own2 hne0 p0 p1 p2 p3 hb4 ksk kck
       obtain ⟨tc, htc⟩ : ∃ tc, tc = ch := ⟨_, rfl⟩
       have htx := Lib.hid htc
       rw [← htc] at htk2 ⊢
       clear htc
       have j0 : (k : Int) < (word.length : Int) := by omega
       have j1 : (0 : Int) ≤ (k : Int) := by omega
       have j2 : (k : Int) ≤ (k : Int) + 1 := by omega
       have j3 : (k : Int) + 1 ≤ (word.length : Int) := by omega
       have hone : Hid ((word.drop k).take 1 = [word[k]]) := Lib.hid (by rw [drop_cons word k hkl]; rfl)
       have htlt : tc.toNat < 128 := by rw [← htk2.out]; exact hta1
       by_cases z : tc = 0
       · have hokf : ok = false := by rw [hto1.out, htk2.out, z]; rfl
         have hR : Hid (R = .tuple #[.string ⟨#[]⟩, .agg #[.int .i64 0, .int .i64 0, .bool false, .string ⟨#[]⟩], .bool false]) := Lib.hid (by rw [hres.out, hno1.out hokf]; rfl)
         have hz : ((tc.toNat : Int) == 0) = true := by rw [z]; rfl
         clear hok1 hto1 hno1 hres
         refine wp_region_b 14 (by kernel_rfl) (by kernel_rfl) ?_
         simp only [qqT, List.take_zero, qqD, List.drop_zero]
         iterate 3
           apply pc_step rfl
           · intro w9 hb9 K hK
             go_wp2_with (fail)
             all_goals first | exact hb9 | exact hb9.trans (hb5.mono hb9.size) | exact hb9.trans (hd5.below.mono hb9.size)
           simp only [Act.put, qqS, qqC, qqZ]
         iterate 10
           apply pc_skip rfl
           simp only [Act.put, qqS, qqC, qqZ]
         iterate 1
           apply pc_step rfl
           · intro w9 hb9 K hK
             go_wp2_with (fail)
             all_goals first | exact hb9 | exact hb9.trans (hb5.mono hb9.size) | exact hb9.trans (hd5.below.mono hb9.size)
           simp only [Act.put, qqS, qqC, qqZ]
         refine pc_nil ?_
         intro w9 hb9
         have hC9 := hC7.below hb9 hC7.lt
         have hB9 := hB7.trans (hb9.mono hB7.size)
         have f0 := hC9.frozen
         have x0 : w9.cell? ⟨w.heap.size + 1, 0, none⟩ = some (.int .i64 0) := hC9.cell 0
         have x1 : w9.cell? ⟨w.heap.size + 1, 1, none⟩ = some (.int .i64 0) := hC9.cell 1
         have x2 : w9.cell? ⟨w.heap.size + 1, 2, none⟩ = some (.bool false) := hC9.cell 2
         have x3 : w9.cell? ⟨w.heap.size + 1, 3, none⟩ = some (.string ⟨#[]⟩) := hC9.cell 3
         have hlt2 : w.heap.size + 1 < w9.heap.size := hC9.lt
         go_wp2_with (fail)
         rw [hR.out]
         exact ret_slot_row_slot (by rfl) (w.heap.size + 1) 61 #[.int .i64 0, .int .i64 0, .bool false, .string ⟨#[]⟩] _ rfl rfl ((((hC9.set_ 0 _).set_ 1 _).set_ 2 _).set_ 3 _) Tryz.underlying61 rfl (by kernel_rfl) rfl rfl ⟨rfl, (((hB9.setCell (by simp <;> omega) _).setCell (by simp <;> omega) _).setCell (by simp <;> omega) _).setCell (by simp <;> omega) _⟩
       · have hz : ((tc.toNat : Int) == 0) = false := by rw [beq_eq_false_iff_ne]; intro h; exact z (UInt8.toNat_inj.1 (by have : (0 : UInt8).toNat = 0 := rfl; omega))
         have hwr : IntKind.i32.wrap (tc.toNat : Int) = (tc.toNat : Int) := by unfold IntKind.wrap; simp [IntKind.bits, IntKind.signed]; omega
         have henc := encode_ascii tc htlt
         have klt := kl1.out tc htlt
         have hcase : Hid (∃ t, t = (lowC tc == word[k])) := Lib.hid ⟨_, rfl⟩
         obtain ⟨t, ht⟩ := hcase.out
         have hok2 : Hid (ok = t) := Lib.hid (by rw [hto1.out, htk2.out, ht, beq_false_of_ne z]; rfl)
         have hne : (lowS [tc] == [word[k]]) = t := by rw [lowS_one, ht]
         obtain ⟨ls, hls⟩ : ∃ ls, ls = lowS [tc] := ⟨_, rfl⟩
         rw [← hls] at hne klt
         clear ht hcase hls hto1
         cases t
         · have hR : Hid (R = .tuple #[.string ⟨#[]⟩, .agg #[.int .i64 0, .int .i64 0, .bool false, .string ⟨#[]⟩], .bool false]) := Lib.hid (by rw [hres.out, hno1.out hok2.out]; rfl)
           clear hres hno1 hok1
           refine wp_region_b 14 (by kernel_rfl) (by kernel_rfl) ?_
           simp only [qqT, List.take_zero, qqD, List.drop_zero]
           iterate 5
             apply pc_step rfl
             · intro w9 hb9 K hK
               go_wp2_with (go_at_call 235; refine (klt _).mono ?_; rintro e w5 ⟨rfl, hb5⟩)
               first | exact hb9 | exact hb9.trans (hb5.mono hb9.size)
             simp only [Act.put, qqS, qqC, qqZ]
           try rw [hwr]
           iterate 1
             apply pc_step rfl
             · intro w9 hb9 K hK
               go_wp2_with (go_at_call 235; refine (klt _).mono ?_; rintro e w5 ⟨rfl, hb5⟩)
               first | exact hb9 | exact hb9.trans (hb5.mono hb9.size)
             simp only [Act.put, qqS, qqC, qqZ]
           try rw [henc]
           iterate 6
             apply pc_step rfl
             · intro w9 hb9 K hK
               go_wp2_with (go_at_call 235; refine (klt _).mono ?_; rintro e w5 ⟨rfl, hb5⟩)
               first | exact hb9 | exact hb9.trans (hb5.mono hb9.size)
             simp only [Act.put, qqS, qqC, qqZ]
           rw [hone.out]
           iterate 2
             apply pc_step rfl
             · intro w9 hb9 K hK
               go_wp2_with (go_at_call 235; refine (klt _).mono ?_; rintro e w5 ⟨rfl, hb5⟩)
               first | exact hb9 | exact hb9.trans (hb5.mono hb9.size)
             simp only [Act.put, qqS, qqC, qqZ]
           refine pc_nil ?_
           intro w9 hb9
           have hC9 := hC7.below hb9 hC7.lt
           have hB9 := hB7.trans (hb9.mono hB7.size)
           have f0 := hC9.frozen
           have x0 : w9.cell? ⟨w.heap.size + 1, 0, none⟩ = some (.int .i64 0) := hC9.cell 0
           have x1 : w9.cell? ⟨w.heap.size + 1, 1, none⟩ = some (.int .i64 0) := hC9.cell 1
           have x2 : w9.cell? ⟨w.heap.size + 1, 2, none⟩ = some (.bool false) := hC9.cell 2
           have x3 : w9.cell? ⟨w.heap.size + 1, 3, none⟩ = some (.string ⟨#[]⟩) := hC9.cell 3
           have hlt2 : w.heap.size + 1 < w9.heap.size := hC9.lt
           go_wp2_with (fail)
           rw [hR.out]
           exact ret_slot_row_slot (by rfl) (w.heap.size + 1) 61 #[.int .i64 0, .int .i64 0, .bool false, .string ⟨#[]⟩] _ rfl rfl ((((hC9.set_ 0 _).set_ 1 _).set_ 2 _).set_ 3 _) Tryz.underlying61 rfl (by kernel_rfl) rfl rfl ⟨rfl, (((hB9.setCell (by simp <;> omega) _).setCell (by simp <;> omega) _).setCell (by simp <;> omega) _).setCell (by simp <;> omega) _⟩
         · have hot2 : Hid (OT (k + 1) = true) := Lib.hid (by rw [hok1.out, hot, hok2.out]; rfl)
           have hpu2 : Hid (PT (k + 1) = P1 ++ [tc]) := Lib.hid (by rw [hpu1.out, htk2.out])
           clear hok1 hpu1 hno1 hok2
           refine wp_region_b 14 (by kernel_rfl) (by kernel_rfl) ?_
           simp only [qqT, List.take_zero, qqD, List.drop_zero]
           iterate 5
             apply pc_step rfl
             · intro w9 hb9 K hK
               go_wp2_with (go_at_call 235; refine (klt _).mono ?_; rintro e w5 ⟨rfl, hb5⟩)
               first | exact hb9 | exact hb9.trans (hb5.mono hb9.size)
             simp only [Act.put, qqS, qqC, qqZ]
           try rw [hwr]
           iterate 1
             apply pc_step rfl
             · intro w9 hb9 K hK
               go_wp2_with (go_at_call 235; refine (klt _).mono ?_; rintro e w5 ⟨rfl, hb5⟩)
               first | exact hb9 | exact hb9.trans (hb5.mono hb9.size)
             simp only [Act.put, qqS, qqC, qqZ]
           try rw [henc]
           iterate 6
             apply pc_step rfl
             · intro w9 hb9 K hK
               go_wp2_with (go_at_call 235; refine (klt _).mono ?_; rintro e w5 ⟨rfl, hb5⟩)
               first | exact hb9 | exact hb9.trans (hb5.mono hb9.size)
             simp only [Act.put, qqS, qqC, qqZ]
           rw [hone.out]
           iterate 2
             apply pc_step rfl
             · intro w9 hb9 K hK
               go_wp2_with (go_at_call 235; refine (klt _).mono ?_; rintro e w5 ⟨rfl, hb5⟩)
               first | exact hb9 | exact hb9.trans (hb5.mono hb9.size)
             simp only [Act.put, qqS, qqC, qqZ]
           refine pc_nil ?_
           intro w9 hb9
           have ownA9 := own_call ownA hb9
           have ownB9 := own_call ownB hb9
           have hA9 := hA7.below hb9 hA7.lt
           have hC9 := hC7.below hb9 hC7.lt
           have hD9 := hD7.below hb9 hD7.lt
           have hB9 := hB7.trans (hb9.mono hB7.size)
           have hz9 := hB9.size
           go_wp2_with (at_builtin; refine wpList_app byteT rfl (.tmp 75) (.tmp 77) rfl _ k _ rfl w.heap.size ownB9 [bv tc] rfl (by simp [Value.oneCell']) rfl hPl (by omega) hz9 ?_; intro v8 w8 own28 hg8 hat8)
           go_roundw
           case rel => exact ⟨k + 1, by omega, by go_num, hot2.out, own_other ownA9 hg8 (Ne.symm hAB), own_cast own28 (by rw [hpu2.out]; simp) rfl, by
             rcases hat8 with h | h
             · rw [h]; exact hAB
             · intro e
               have := (ownA9.lt _ (e.trans h)).2
               omega, hA9.grown hg8 (fun h => own_blk_ne ownB9 hA9 (by decide) h.symm), hC9.grown hg8 (fun h => own_blk_ne ownB9 hC9 (by decide) h.symm), hD9.grown hg8 (fun h => own_blk_ne ownB9 hD9 (by decide) h.symm), Below.own hB9 hz9 ownB9 (Nat.le_refl _) hg8⟩
           case measure => simp [intOf]; omega
   · obtain rfl : k = word.length := by omega
     have hkk : ¬ (word.length : Int) < (word.length : Int) := by omega
     have hR : Hid (R = .tuple #[sv (LT word.length), .agg #[.int .i64 r, .int .i64 c, .bool d, sv (PT word.length)], .bool V]) := Lib.hid (by rw [hres.out, hot]; rfl)
     have own2' := own_cast own2 rfl (hpl.out word.length).symm
     obtain ⟨LF, hLF⟩ : ∃ LF, LF = LT word.length := ⟨_, rfl⟩
     obtain ⟨PF, hPF⟩ : ∃ PF, PF = PT word.length := ⟨_, rfl⟩
     have hpl2 : PF.length = word.length := by rw [hPF]; exact hpl.out _
     rw [← hPF] at own2' hR kv
     rw [← hLF] at own1 hR
     have hcv2 := run_string_own (P := Tryz.prog) wr 209 9 5 Tryz.underlying209 Tryz.underlying5 Tryz.underlying9 (l := PF) own2'
     clear hLF hPF own2 own2' hot hok hno hpu hle hto htk hta kl1 ha' hpl hll hok0 hpu0 hle0 hres ksq' kc' hpl2
     have q3 : wr.cell? ⟨w.heap.size + 1 + 1, 3, none⟩ = some (.string ⟨#[]⟩) := hD3.cell 3
     have f3 : wr.frozen? ⟨w.heap.size + 1 + 1, 3, none⟩ = false := hD3.frozen 3
     have hlD := hD3.lt
     go_wp2_with (fail)
     obtain ⟨W4, hW4⟩ : ∃ W4, W4 = (wr.setCell ⟨w.heap.size + 1 + 1, 3, none⟩ (sv PF)).drew := ⟨_, rfl⟩
     have hD4 : Blk W4 (w.heap.size + 1 + 1) 61 #[.int .i64 r, .int .i64 c, .bool d, sv PF] := by rw [hW4]; exact (hD3.set_ 3 (sv PF)).drew
     have hC4 : Blk W4 (w.heap.size + 1) 61 #[.int .i64 0, .int .i64 0, .bool false, .string ⟨#[]⟩] := by rw [hW4]; exact (hC3.far (p := ⟨w.heap.size + 1 + 1, 3, none⟩) (by simp) _).drew
     have hA4 : Blk W4 w.heap.size 41 #[.int .i64 n, sv bp, sv bc] := by rw [hW4]; exact (hA3.far (p := ⟨w.heap.size + 1 + 1, 3, none⟩) (by simp; omega) _).drew
     have own1' : W4.ownsRow w.heap.size 5 1 u14 LF.length (LF.map bv) := by rw [hW4]; exact own_far own1 (p := ⟨w.heap.size + 1 + 1, 3, none⟩) (own_blk_ne own1 hD3 (by decide)) _
     have hne1 := own_blk_ne own1' hC4 (by decide)
     have hB4 : Below w.heap.size w W4 := by rw [hW4]; exact (hb4.setCell (by simp; omega) _).drew
     refine wp_region_l 10 9 (SP W4 (w.heap.size + 1) 61 7 #[.int .i64 0, .int .i64 0, .bool false, .string ⟨#[]⟩] #[.int .i64 r, .int .i64 c, .bool d, sv PF]) (by kernel_rfl) (by kernel_rfl) (by rw [← hW4]; exact SP.start hC4) ?_
     clear hcv2 q3 f3 hlD hW4 hA3 hC3 hD3 hb4 own1
     simp only [qqT, List.take_zero, qqD, List.drop_zero]
     iterate 7
       apply pl_step rfl
       · intro L w1 hS h1 h2 K hK
         clear h2
         have hD5 := hS.other hD4 (by omega)
         have hA5 := hS.other hA4 (by omega)
         have hC5 := hS.blk
         have o5 := hS.own own1' hne1
         have p0 : w1.cell? ⟨w.heap.size + 1 + 1, 0, none⟩ = some (.int .i64 r) := hD5.cell 0
         have p1 : w1.cell? ⟨w.heap.size + 1 + 1, 1, none⟩ = some (.int .i64 c) := hD5.cell 1
         have p2 : w1.cell? ⟨w.heap.size + 1 + 1, 2, none⟩ = some (.bool d) := hD5.cell 2
         have p3 : w1.cell? ⟨w.heap.size + 1 + 1, 3, none⟩ = some (sv PF) := hD5.cell 3
         have b0 : w1.cell? ⟨w.heap.size, 0, none⟩ = some (.int .i64 n) := hA5.cell 0
         have b1 : w1.cell? ⟨w.heap.size, 1, none⟩ = some (sv bp) := hA5.cell 1
         have b2 : w1.cell? ⟨w.heap.size, 2, none⟩ = some (sv bc) := hA5.cell 2
         have hcv := run_string_own (P := Tryz.prog) w1 209 9 5 Tryz.underlying209 Tryz.underlying5 Tryz.underlying9 (l := LF) o5
         go_wp2_with (go_at_call 156; refine (kv _).mono ?_; rintro e w2 ⟨rfl, hb2⟩)
         first | exact hS.keep (by decide) | exact (hS.call hb2).keep (by decide)
       simp only [Act.put, qqS, qqC, qqZ]
     apply pl_step (v := undef) rfl
     · intro L w1 hS h1 h2 K hK
       clear h2
       have hC5 := hS.blk
       rw [h1] at hC5
       have f0 := hC5.frozen
       have x0 : w1.cell? ⟨w.heap.size + 1, 0, none⟩ = some (.int .i64 0) := hC5.cell 0
       have x1 : w1.cell? ⟨w.heap.size + 1, 1, none⟩ = some (.int .i64 0) := hC5.cell 1
       have x2 : w1.cell? ⟨w.heap.size + 1, 2, none⟩ = some (.bool false) := hC5.cell 2
       have x3 : w1.cell? ⟨w.heap.size + 1, 3, none⟩ = some (.string ⟨#[]⟩) := hC5.cell 3
       have hlt2 : w.heap.size + 1 < w1.heap.size := hC5.lt
       go_wp2_with (fail)
       exact hS.put h1
     simp only [Act.put]
     apply pl_step rfl
     · intro L w1 hS h1 h2 K hK
       clear h2
       go_wp2_with (fail)
       exact hS.keep (by decide)
     simp only [Act.put, qqS, qqC, qqZ]
     refine pl_nil ?_
     intro w1 hS
     go_wp2
     rw [hR.out]
     exact ret_slot_row_slot (by rfl) (w.heap.size + 1) 61 _ _ rfl rfl hS.blk Tryz.underlying61 rfl (by kernel_rfl) rfl rfl ⟨rfl, hB4.grown hS.gr hB4.size (fun k hk => by injection hk with hk; omega)⟩
theorem needs_any (b : Bd) (word : Str) (r c : Int) (d : Bool) (w : World) (hf : b.Fit) (hs : sizeB b.size = true) (hba : asciiB b.cells = true) (ha : asciiB word = true) (hl : word.length ≤ 2 ^ 32) (h1 : -400000000000 ≤ r) (h2 : r ≤ 400000000000) (h3 : -400000000000 ≤ c) (h4 : c ≤ 400000000000) :
   Calls Tryz.prog 209 #[b.v, sv word, .int .i64 r, .int .i64 c, .bool d] w fun e w' => e = .returned (needI b word r c d) ∧ Below w.heap.size w w' := by
 cases h : (longB word && b.inB r c)
 · exact needs_bad b word r c d w hs hl h
 · exact needs_good b word r c d w hf hs hba ha hl h1 h2 h3 h4 h
set_option maxHeartbeats 1000000
theorem sizeOk_any (n : Int) (w : World) :
   Calls Tryz.prog 269 #[.int .i64 n] w fun e w' => e = .returned (.bool (sizeB n)) ∧ w = w' := by
 go_enter Tryz.func269, Tryz.ntmps269
 go_wp2_with (go_at_call 155; refine (within_any _ _ _ _).mono ?_; rintro e w' ⟨rfl, rfl⟩)
 go_ret
 exact ⟨rfl, rfl⟩
theorem cellOk_any (c : UInt8) (w : World) :
   Calls Tryz.prog 272 #[bv c] w fun e w' => e = .returned (.bool (cellB c)) ∧ w = w' := by
 have hq : ((c.toNat : Int) == 46) = (c == 46) := u8_eq c 46
 have hdef : Hid (cellB c = ((c == 46) || smallB c || capB c)) := Lib.hid rfl
 have k1 := fun w => small_any c w
 have k2 := fun w => capital_any c w
 obtain ⟨C, hC⟩ : ∃ C, C = cellB c := ⟨_, rfl⟩
 rw [← hC] at hdef ⊢
 clear hC
 cases h1 : c == 46
 · rw [h1] at hq hdef
   cases h2 : smallB c
   · rw [h2] at k1 hdef
     go_enter Tryz.func272, Tryz.ntmps272
     go_wp2_with (first
       | (go_at_call 299; refine (k1 _).mono ?_; rintro e w' ⟨rfl, rfl⟩)
       | (go_at_call 252; refine (k2 _).mono ?_; rintro e w' ⟨rfl, rfl⟩))
     go_ret
     exact ⟨ret_bool (by rw [hdef.out]; rfl), rfl⟩
   · rw [h2] at k1 hdef
     go_enter Tryz.func272, Tryz.ntmps272
     go_wp2_with (go_at_call 299; refine (k1 _).mono ?_; rintro e w' ⟨rfl, rfl⟩)
     go_ret
     exact ⟨ret_bool (by rw [hdef.out]; rfl), rfl⟩
 · rw [h1] at hq hdef
   go_enter Tryz.func272, Tryz.ntmps272
   go_wp2_with (fail)
   go_ret
   exact ⟨ret_bool (by rw [hdef.out]; rfl), rfl⟩
theorem indexByte_prem (c : UInt8) : decide ((0 : Int) ≤ Lib.indexByte [50, 51, 100, 116, 46] c) = premB c := by
 unfold premB
 simp only [Lib.indexByte]
 by_cases h1 : c = 50
 · subst h1; rfl
 by_cases h2 : c = 51
 · subst h2; rfl
 by_cases h3 : c = 100
 · subst h3; rfl
 by_cases h4 : c = 116
 · subst h4; rfl
 by_cases h5 : c = 46
 · subst h5; rfl
 simp [h1, h2, h3, h4, h5, Ne.symm h1, Ne.symm h2, Ne.symm h3, Ne.symm h4, Ne.symm h5]
theorem premiumOk_any (c : UInt8) (w : World) :
   Calls Tryz.prog 271 #[bv c] w fun e w' => e = .returned (.bool (premB c)) ∧ w = w' := by
 have k1 := fun w => Tryz.strings_IndexByte ⟨#[50, 51, 100, 116, 46]⟩ (c.toNat : Int) w
 have hc : ((c.toNat : Int)).toNat.toUInt8 = c := by simp
 rw [hc] at k1
 have hp := indexByte_prem c
 have hl : (ByteArray.mk #[50, 51, 100, 116, 46]).data.toList = [50, 51, 100, 116, 46] := rfl
 rw [hl] at k1
 obtain ⟨x, hx⟩ : ∃ x, x = Lib.indexByte [50, 51, 100, 116, 46] c := ⟨_, rfl⟩
 rw [← hx] at k1 hp
 have hp' := Lib.hid hp
 clear hp hx hl hc
 go_enter Tryz.func271, Tryz.ntmps271
 go_wp2_with (go_at_call 298; refine (k1 _).mono ?_; rintro e w' ⟨rfl, rfl⟩)
 go_ret
 exact ⟨ret_bool (by rw [← hp'.out]), rfl⟩
theorem allBytes_cell (s : Str) (w : World) (hs : s.length ≤ 2 ^ 40) :
   Calls Tryz.prog 270 #[sv s, .func (.func 272) #[] #[]] w fun e w' => e = .returned (.bool (s.all cellB)) ∧ w = w' := by
 have hF := fun (c : UInt8) (w : World) => cellOk_any c w
 go_enter Tryz.func270, Tryz.ntmps270
 go_wp2_with (fail)
 go_loop [5] (fun i => ∃ k : Nat, k ≤ s.length ∧ i = .int .i64 k ∧ Hid (s.all cellB = (s.drop k).all cellB)) (fun i => s.length - (intOf i).toNat)
 case atStart => exact ⟨0, by omega, rfl, rfl⟩
 case round =>
   obtain ⟨k, hk, rfl, he⟩ := hrel
   by_cases hlt : k < s.length
   · have hd := Lib.hid (drop_cons s k hlt)
     cases hc : cellB s[k]
     all_goals go_wp2_with (go_at_call 272; refine (hF _ _).mono ?_; rw [hc]; rintro e w' ⟨rfl, rfl⟩)
     · go_ret
       exact ⟨by rw [he.out, hd.out, List.all_cons, hc]; simp, rfl⟩
     · go_round
       case rel => exact ⟨k + 1, by omega, by go_num, Lib.hid (by rw [he.out, hd.out, List.all_cons, hc]; simp)⟩
       case measure => simp [intOf]; omega
   · rw [drop_all s k (by omega)] at he
     go_wp2_with (fail)
     go_ret
     exact ⟨by rw [he.out]; simp, rfl⟩
theorem allBytes_prem (s : Str) (w : World) (hs : s.length ≤ 2 ^ 40) :
   Calls Tryz.prog 270 #[sv s, .func (.func 271) #[] #[]] w fun e w' => e = .returned (.bool (s.all premB)) ∧ w = w' := by
 have hF := fun (c : UInt8) (w : World) => premiumOk_any c w
 go_enter Tryz.func270, Tryz.ntmps270
 go_wp2_with (fail)
 go_loop [5] (fun i => ∃ k : Nat, k ≤ s.length ∧ i = .int .i64 k ∧ Hid (s.all premB = (s.drop k).all premB)) (fun i => s.length - (intOf i).toNat)
 case atStart => exact ⟨0, by omega, rfl, rfl⟩
 case round =>
   obtain ⟨k, hk, rfl, he⟩ := hrel
   by_cases hlt : k < s.length
   · have hd := Lib.hid (drop_cons s k hlt)
     cases hc : premB s[k]
     all_goals go_wp2_with (go_at_call 271; refine (hF _ _).mono ?_; rw [hc]; rintro e w' ⟨rfl, rfl⟩)
     · go_ret
       exact ⟨by rw [he.out, hd.out, List.all_cons, hc]; simp, rfl⟩
     · go_round
       case rel => exact ⟨k + 1, by omega, by go_num, Lib.hid (by rw [he.out, hd.out, List.all_cons, hc]; simp)⟩
       case measure => simp [intOf]; omega
   · rw [drop_all s k (by omega)] at he
     go_wp2_with (fail)
     go_ret
     exact ⟨by rw [he.out]; simp, rfl⟩
theorem iValidBoard_any (b : Bd) (w : World) (h1 : b.prem.length ≤ 2 ^ 40) (h2 : b.cells.length ≤ 2 ^ 40) :
   Calls Tryz.prog 197 #[b.v] w fun e w' => e = .returned (.bool (bdB b)) ∧ Below w.heap.size w w' := by
 have hdef : Hid (bdB b = (sizeB b.size && (decide ((b.prem.length : Int) = b.size * b.size) && (decide ((b.cells.length : Int) = b.size * b.size) && okFrom b.cells b.prem)))) := Lib.hid rfl
 have hok := Lib.hid (okFrom_eq b.cells b.prem)
 have k0 := fun w => sizeOk_any b.size w
 have k1 := fun w => allBytes_prem b.prem w h1
 have k2 := fun w => allBytes_cell b.cells w h2
 obtain ⟨R, hR⟩ : ∃ R, R = bdB b := ⟨_, rfl⟩
 rw [← hR] at hdef ⊢
 clear hR
 obtain ⟨n, p, c⟩ := b
 simp only [Bd.v] at *
 have hbW := (Below.refl w.heap.size w).alloc (Nat.le_refl _) (.cells #[.int .i64 n, sv p, sv c] 41)
 cases e0 : sizeB n
 · rw [e0] at k0 hdef
   go_enter Tryz.func197, Tryz.ntmps197
   go_wp2_with (go_at_call 269; refine (k0 _).mono ?_; rintro e w' ⟨rfl, rfl⟩)
   go_ret
   exact ⟨ret_bool (by rw [hdef.out]; rfl), hbW⟩
 · rw [e0] at k0 hdef
   have hsz := e0
   unfold sizeB inR at hsz
   simp only [Bool.and_eq_true, decide_eq_true_eq] at hsz
   obtain ⟨h5, h15⟩ := hsz
   obtain ⟨m0, m1, _, _, m4⟩ := mul_bounds (r := n - 1) (c := 0) h5 h15 (by omega) (by omega) (by omega) (by omega)
   have m5 : 0 ≤ n * n := Int.mul_nonneg (by omega) (by omega)
   clear m0 m1
   obtain ⟨q, hq⟩ : ∃ q, q = decide ((p.length : Int) = n * n) := ⟨_, rfl⟩
   have hqd : ((p.length : Int) != n * n) = !q := by rw [hq]; rfl
   rw [← hq] at hdef
   have Hq := Lib.hid hq
   clear hq
   cases q
   · go_enter Tryz.func197, Tryz.ntmps197
     go_wp2_with (go_at_call 269; refine (k0 _).mono ?_; rintro e w' ⟨rfl, rfl⟩)
     go_ret
     exact ⟨ret_bool (by rw [hdef.out]; rfl), hbW⟩
   · obtain ⟨q2, hq2⟩ : ∃ q, q = decide ((c.length : Int) = (p.length : Int)) := ⟨_, rfl⟩
     have hqd2 : ((c.length : Int) != (p.length : Int)) = !q2 := by rw [hq2]; rfl
     have Hq2 := Lib.hid hq2
     clear hq2
     have hpn : (p.length : Int) = n * n := by have := Hq.out; simpa using this.symm
     have Hpn := Lib.hid hpn
     clear hpn
     cases q2
     · have hne : ¬ (c.length : Int) = n * n := fun h => by have h2 := Hq2.out; have h3 := Hpn.out; simp at h2; omega
       have hres : Hid (R = false) := Lib.hid (by rw [hdef.out, decide_eq_false hne]; simp)
       clear hdef hok hne
       go_enter Tryz.func197, Tryz.ntmps197
       go_wp2_with (go_at_call 269; refine (k0 _).mono ?_; rintro e w' ⟨rfl, rfl⟩)
       go_ret
       exact ⟨ret_bool (by rw [hres.out]), hbW⟩
     · have hcl : c.length = p.length := by have h2 := Hq2.out; simp at h2; omega
       have hres : Hid (R = (p.all premB && c.all cellB)) := Lib.hid (by rw [hdef.out, hok.out hcl, decide_eq_true (by rw [hcl]; exact Hpn.out)]; rfl)
       clear hdef hok hcl
       cases e3 : p.all premB
       · rw [e3] at k1 hres
         go_enter Tryz.func197, Tryz.ntmps197
         go_wp2_with (first
           | (go_at_call 269; refine (k0 _).mono ?_; rintro e w' ⟨rfl, rfl⟩)
           | (go_at_call 270; refine (k1 _).mono ?_; rintro e w' ⟨rfl, rfl⟩))
         go_ret
         exact ⟨ret_bool (by rw [hres.out]; rfl), hbW⟩
       · rw [e3] at k1 hres
         go_enter Tryz.func197, Tryz.ntmps197
         go_wp2_with (first
           | (go_at_call 269; refine (k0 _).mono ?_; rintro e w' ⟨rfl, rfl⟩)
           | (go_at_call 270; (with_reducible refine (k1 _).mono ?_); rintro e w' ⟨rfl, rfl⟩)
           | (go_at_call 270; (with_reducible refine (k2 _).mono ?_); rintro e w' ⟨rfl, rfl⟩))
         go_ret
         exact ⟨ret_bool (by rw [hres.out]; rfl), hbW⟩
set_option maxHeartbeats 2000000
theorem tryPlays_bad (A : Option Addr) (c : Nat) (lex : List Str) (b : Bd) (rack : Str) (w : World) (hr : Reads w w.heap.size 1 A lex.length (lex.map sv)) (hn : lex.length ≤ 2 ^ 32) (hls : ∀ x ∈ lex, x.length ≤ 2 ^ 40) (hp : b.prem.length ≤ 2 ^ 40) (hcl : b.cells.length ≤ 2 ^ 40) (hrk : rack.length ≤ 2 ^ 32)
   (hno : (lexB lex && (bdB b && rackB rack)) = false) :
   Calls Tryz.prog 141 #[.agg #[.slice A lex.length c], b.v, sv rack] w fun e w' => e = .returned (.tuple #[.slice none 0 0, .int .i64 1]) ∧ Below w.heap.size w w' := by
 have kl := fun (W : World) (hW : Below w.heap.size w W) => iValidLexicon_any A c lex W ((hr.below hW).more hW.size) (by omega) hls
 have kb := fun w => iValidBoard_any b w hp hcl
 have kr := fun w => iValidRack_any rack w (by omega)
 obtain ⟨LB, hLB⟩ : ∃ LB, LB = lexB lex := ⟨_, rfl⟩
 obtain ⟨BB, hBB⟩ : ∃ BB, BB = bdB b := ⟨_, rfl⟩
 obtain ⟨RB, hRB⟩ : ∃ RB, RB = rackB rack := ⟨_, rfl⟩
 rw [← hLB] at kl hno
 rw [← hBB] at kb hno
 rw [← hRB] at kr hno
 clear hLB hBB hRB hr hls
 obtain ⟨sz, bp, bc⟩ := b
 simp only [Bd.v] at *
 obtain ⟨W, hW⟩ : ∃ W, W = (w.alloc (.cells #[.slice A lex.length c] 37)).alloc (.cells #[.int .i64 sz, sv bp, sv bc] 41) := ⟨_, rfl⟩
 have hL : Blk W w.heap.size 37 #[.slice A lex.length c] := by rw [hW]; exact (Blk.new w _ _).alloc _
 have hB : Blk W (w.heap.size + 1) 41 #[.int .i64 sz, sv bp, sv bc] := by rw [hW]; exact Blk.new1 w _ _ _
 have hb : Below w.heap.size w W := by rw [hW]; exact ((Below.refl _ _).alloc (Nat.le_refl _) _).alloc (by simp) _
 cases LB
 · go_enter Tryz.func141, Tryz.ntmps141
   go_wp2_with (go_at_call 208; rw [← hW]; refine (kl _ hb).mono ?_; rintro e w1 ⟨rfl, hb1⟩)
   go_ret2
   exact ⟨rfl, hb.trans (hb1.mono hb.size)⟩
 cases BB
 · go_enter Tryz.func141, Tryz.ntmps141
   go_wp2_with (first
     | (go_at_call 208; rw [← hW]; refine (kl _ hb).mono ?_; rintro e w1 ⟨rfl, hb1⟩
        have hB1 := hB.below hb1 hB.lt
        have d0 : w1.cell? ⟨w.heap.size + 1, 0, none⟩ = some (.int .i64 sz) := hB1.cell 0
        have d1 : w1.cell? ⟨w.heap.size + 1, 1, none⟩ = some (sv bp) := hB1.cell 1
        have d2 : w1.cell? ⟨w.heap.size + 1, 2, none⟩ = some (sv bc) := hB1.cell 2
        have ht1 := hb.trans (hb1.mono hb.size))
     | (go_at_call 197; refine (kb _).mono ?_; rintro e w2 ⟨rfl, hb2⟩))
   go_ret2
   exact ⟨rfl, ht1.trans (hb2.mono ht1.size)⟩
 · obtain rfl : RB = false := by simpa using hno
   go_enter Tryz.func141, Tryz.ntmps141
   go_wp2_with (first
     | (go_at_call 208; rw [← hW]; refine (kl _ hb).mono ?_; rintro e w1 ⟨rfl, hb1⟩
        have hB1 := hB.below hb1 hB.lt
        have d0 : w1.cell? ⟨w.heap.size + 1, 0, none⟩ = some (.int .i64 sz) := hB1.cell 0
        have d1 : w1.cell? ⟨w.heap.size + 1, 1, none⟩ = some (sv bp) := hB1.cell 1
        have d2 : w1.cell? ⟨w.heap.size + 1, 2, none⟩ = some (sv bc) := hB1.cell 2
        have ht1 := hb.trans (hb1.mono hb.size))
     | (go_at_call 197; refine (kb _).mono ?_; rintro e w2 ⟨rfl, hb2⟩; have ht2 := ht1.trans (hb2.mono ht1.size))
     | (go_at_call 171; refine (kr _).mono ?_; rintro e w3 ⟨rfl, hd3⟩))
   go_ret2
   exact ⟨rfl, ht2.trans (hd3.below.mono ht2.size)⟩
end Go.Proofs.YtdkckikobefekaaGreatDoor
