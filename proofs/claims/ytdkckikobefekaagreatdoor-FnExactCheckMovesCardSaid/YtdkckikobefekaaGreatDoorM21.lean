/-
  Contract: the scores of the words that a play forms (layer 13 of the spec package); Contracts: the score of a play (layer 13 of the spec package); Contracts: the score of a play; the legal plays with their scores (layers 13 and 16 of the spec package); What stands ahead of the letters that a word needs: a state of a region that stores one struct; one rune as a string; Contract: the letters that a word needs at a place (layer 16 of the impl package).
  Conditions: a valid board and a valid tile set lie in memory; the play's squares are on the board; a valid board and a valid tile set; a valid play; a lexicon, a tile set and a board lie in memory; lengths at most 2^40; none; a board of a size from 5 to 15; ASCII letters; numbers of common size.
-/
import Derived.Test.YtdkckikobefekaaGreatDoorM20
import Derived.Test.YtdkckikobefekaaGreatDoorM08
import Derived.Test.YtdkckikobefekaaGreatDoorM18
import Derived.Test.YtdkckikobefekaaGreatDoorM10
import Derived.Test.YtdkckikobefekaaGreatDoorM19
import Derived.Test.YtdkckikobefekaaGreatDoorM16
import Derived.Test.YtdkckikobefekaaGreatDoorM15
namespace Go.Proofs.YtdkckikobefekaaGreatDoor
open Go.RowKit RegP RegL RegV
set_option maxHeartbeats 8000000
set_option maxRecDepth 100000
theorem partsTo_length (t : TS) (b : Bd) (q : Pl) (k : Nat) : (partsTo t b q k).length ≤ k + 1 := by
 unfold partsTo
 rw [List.length_cons, List.length_map]
 have h1 := List.length_filter_le (fun i => decide (1 < (crossAt b q i).length)) ((freshL b q).take k)
 rw [List.length_take] at h1
 omega
theorem l13Parts_any (pt p : Addr) (t : TS) (A1 A2 : Option Addr) (c1 c2 : Nat) (b : Bd) (q : Pl) (w : World) (ht : TsAt w pt t A1 c1 A2 c2) (hp : BAt w p b) (ho : TsOk t) (hf : b.Fit) (hon : OnB b q) :
   Calls Tryz.prog 148 #[.pointer (some pt), .pointer (some p), q.v] w fun e w' => ∃ v, e = .returned v ∧ w'.ownsRow w.heap.size 2 1 v (partsS t b q).length ((partsS t b q).map xv) ∧ Below w.heap.size w w' := by
 have hl15 := OnB_len hf hon
 have kl := fun w h1 h2 => l13Letters_any pt p t A1 A2 c1 c2 b q w h1 h2 ho hf hon (by omega)
 have km := fun w h => l13Main_any p b q w h hf hon
 have kfr := fun w h => l12Fresh_any p b q w h hf hon (by omega)
 have hLs := fun k => sum_take_bd (M := 60) (by omega) (lsS_mem ho b q) k
 have hLt := fun k (h : k < (lsS t b q).length) => sum_take h
 have hLl := lsS_length t b q
 obtain ⟨hm0, hm1⟩ := main_bd ho hf hon
 have hGx := freshTo_lt b q q.word.length
 change ∀ x ∈ freshL b q, _ at hGx
 have hG15 := freshL_15 hf hon
 have hend : Hid (partsS t b q = partsTo t b q (freshL b q).length) := Lib.hid (partsS_to t b q)
 have hst : Hid (∀ (k x : Nat), (freshL b q)[k]? = some x → partsTo t b q (k + 1) = if decide (1 < (crossAt b q x).length) then partsTo t b q k ++ [crS t b q x] else partsTo t b q k) := Lib.hid (fun k x h => by
   obtain ⟨h1, h2⟩ := List.getElem?_eq_some_iff.1 h
   rw [partsTo_step t b q k h1, h2])
 have hPl := partsTo_length t b q
 have hz : Hid (partsTo t b q 0 = [(lsS t b q).sum * mainF b q]) := Lib.hid rfl
 have hCs : Hid (∀ x, crS t b q x = crTo t b q x (crossAt b q x).length * wdF (b.prm q.row (q.col + x))) := Lib.hid (fun x => crS_to t b q x)
 have hCt : Hid (∀ x m, crTo t b q x (m + 1) = crTo t b q x m + crE t b q x m) := Lib.hid (crTo_step t b q)
 have hC0 : Hid (∀ x, crTo t b q x 0 = 0) := Lib.hid (fun x => rfl)
 have hCb := fun x m => crTo_bd ho b q x m
 have hE : Hid (∀ x m, crE t b q x m = if ((upTo b (q.col + x) q.row.toNat : Nat) : Int) + m = q.row then ltF (b.prm q.row (q.col + x)) * valT t (q.word.getD x 0) else valT t ((crossAt b q x).getD m 0)) := Lib.hid (fun x m => rfl)
 have hcr : ∀ i, Hid (crossAt b q i = crossS b q.row.toNat (q.col + (i : Int)) (q.word.getD i 0)) := fun _ => rfl
 have hcl : ∀ i, (crossAt b q i).length ≤ 16 := fun _ => crossS_length _ _ _ _
 have kL := fun r c l (hi : b.inB r c = true) w h1 h2 => l13Letter_any pt p t A1 A2 c1 c2 b r c l w h1 h2 ho hf hi
 have kv := fun l w h => l02Value_any pt t A1 A2 c1 c2 l w h (by have := ho.len; omega) ho.vals
 have kf := fun r c (hi : b.inB r c = true) w h => l13Factor_any p b r c w h hf hi
 have hvb := fun c => And.intro (ho.lo c) (ho.hi c)
 have hlb := fun p c => lt_val ho p c
 obtain ⟨PS, hPS⟩ : ∃ PS, PS = partsS t b q := ⟨_, rfl⟩
 rw [← hPS] at hend ⊢
 obtain ⟨PT, hPT⟩ : ∃ PT, PT = partsTo t b q := ⟨_, rfl⟩
 rw [← hPT] at hend hst hPl hz
 obtain ⟨CS, hCS⟩ : ∃ CS, CS = crS t b q := ⟨_, rfl⟩
 rw [← hCS] at hst hCs
 obtain ⟨CT, hCT⟩ : ∃ CT, CT = crTo t b q := ⟨_, rfl⟩
 rw [← hCT] at hCs hCt hC0 hCb
 obtain ⟨CE, hCE⟩ : ∃ CE, CE = crE t b q := ⟨_, rfl⟩
 rw [← hCE] at hCt hE
 obtain ⟨C, hC⟩ : ∃ C, C = crossAt b q := ⟨_, rfl⟩
 rw [← hC] at hst hCs hE hcr hcl
 obtain ⟨G, hG⟩ : ∃ G, G = freshL b q := ⟨_, rfl⟩
 rw [← hG] at kfr hGx hG15 hend hst
 obtain ⟨MF, hMF⟩ : ∃ MF, MF = mainF b q := ⟨_, rfl⟩
 rw [← hMF] at km hm0 hm1 hz
 obtain ⟨LS, hLS⟩ : ∃ LS, LS = lsS t b q := ⟨_, rfl⟩
 rw [← hLS] at kl hLs hLt hLl hm0 hm1 hz
 clear hPS hPT hCS hCT hCE hC hG hMF hLS
 have hLs' := Lib.hid hLs
 have hLt' := Lib.hid hLt
 have hvb' := Lib.hid hvb
 have hlb' := Lib.hid hlb
 have hCb' := Lib.hid hCb
 have hPl' := Lib.hid hPl
 clear hLs hLt hvb hlb hCb hPl
 obtain ⟨r, c, dn, s⟩ := q
 simp only [OnB] at hon
 simp only at hl15 hLl hGx hCs hE hcr
 simp only [Pl.v] at kl km kfr ⊢
 have hblt := hp.lt
 have h15 := hf.hi
 have hbx := (Blk.new w 61 #[.int .i64 r, .int .i64 c, .bool dn, sv s])
 have hbW := (Below.refl w.heap.size w).alloc (Nat.le_refl _) (.cells #[.int .i64 r, .int .i64 c, .bool dn, sv s] 61)
 obtain ⟨W, hW⟩ : ∃ W, W = w.alloc (.cells #[.int .i64 r, .int .i64 c, .bool dn, sv s] 61) := ⟨_, rfl⟩
 have hWz : w.heap.size + 1 = W.heap.size := by rw [hW]; simp
 rw [← hW] at hbx hbW
 go_enter Tryz.func148, Tryz.ntmps148
 go_wp2_with (go_at_call 219; rw [← hW]; refine (kl _ (ht.below hbW) (hp.below hbW hblt)).mono ?_; rintro e w1 ⟨v1, rfl, own1, hb1⟩; obtain ⟨B1, d1, rfl, hd1, hr1⟩ := own_sl own1; have hw1 := hbW.trans (hb1.mono hbW.size); have hbx1 := hbx.below hb1 hbx.lt)
 clear hW own1 hb1
 go_loopw [8, 9] (fun o i wr => ∃ k : Nat, k ≤ LS.length ∧ i = .int .i64 k ∧ o = .int .i64 (LS.take k).sum ∧ wr = w1) (fun _ i _ => LS.length - (intOf i).toNat)
 case atStart => exact ⟨0, by omega, rfl, by simp, rfl⟩
 case round =>
   obtain ⟨k, hk, rfl, rfl, rfl⟩ := hrel
   obtain ⟨s1, s2⟩ := hLs'.out k
   by_cases hkl : k < LS.length
   · obtain ⟨ad, rfl, hadb, hc3⟩ := hr1.el hkl
     have hsm := Lib.hid (hLt'.out k hkl)
     obtain ⟨s3, s4⟩ := hLs'.out (k + 1)
     have hkk : (k : Int) < (LS.length : Int) := by omega
     simp only [xv] at hc3
     rw [hsm.out] at s3 s4
     obtain ⟨S, hS⟩ : ∃ S, S = (LS.take k).sum := ⟨_, rfl⟩
     rw [← hS] at s1 s2 s3 s4 hsm
     simp only [← hS]
     clear hS
     go_wp2_with (fail)
     go_roundw
     case rel => exact ⟨k + 1, by omega, by go_num, vi_eq (by rw [hsm.out]), trivial⟩
     case measure => simp [intOf]; omega
   · obtain rfl : k = LS.length := by omega
     simp only [List.take_length] at s1 s2 ⊢
     have hlt' : ¬ (LS.length : Int) < (LS.length : Int) := by omega
     obtain ⟨S, hS⟩ : ∃ S, S = LS.sum := ⟨_, rfl⟩
     rw [← hS] at s1 s2 hm0 hm1 hz
     simp only [← hS]
     clear hS hLs' hLt' kl
     have hm2 : IntKind.i64.wrap (S * MF) = S * MF := IntWalk.i64_in _ (by omega)
     have a0 : wr.cell? ⟨w.heap.size, 0, none⟩ = some (.int .i64 r) := hbx1.cell 0
     have a1 : wr.cell? ⟨w.heap.size, 1, none⟩ = some (.int .i64 c) := hbx1.cell 1
     have a2 : wr.cell? ⟨w.heap.size, 2, none⟩ = some (.bool dn) := hbx1.cell 2
     have a3 : wr.cell? ⟨w.heap.size, 3, none⟩ = some (sv s) := hbx1.cell 3
     go_wp2_with (first
       | (go_at_call 220; refine (km _ (hp.below hw1 hblt)).mono ?_; rintro e w2 ⟨rfl, hb2⟩
          have hbx2 := hbx1.below hb2 hbx1.lt
          have b0 : w2.cell? ⟨w.heap.size, 0, none⟩ = some (.int .i64 r) := hbx2.cell 0
          have b1 : w2.cell? ⟨w.heap.size, 1, none⟩ = some (.int .i64 c) := hbx2.cell 1
          have b2 : w2.cell? ⟨w.heap.size, 2, none⟩ = some (.bool dn) := hbx2.cell 2
          have b3 : w2.cell? ⟨w.heap.size, 3, none⟩ = some (sv s) := hbx2.cell 3
          have hlt0 := hbx2.lt
          have hne0 : w.heap.size ≠ w2.heap.size := by omega)
       | (go_at_call 149; refine (kfr _ ((hp.below hw1 hblt).below (hb2.alloc hb2.size _) (Nat.lt_of_lt_of_le hblt hw1.size))).mono ?_; rintro e w3 ⟨v3, rfl, own3, hb3⟩; obtain ⟨B2, d2, rfl, hd2, hr3⟩ := own_sl own3))
     obtain ⟨V, hV⟩ : ∃ V, V = w2.alloc (.cells #[.int .i64 (S * MF)] 2) := ⟨_, rfl⟩
     have ownV : V.ownsRow w.heap.size 2 1 (.slice (some ⟨w2.heap.size, 0, none⟩) 1 1) 1 [.int .i64 (S * MF)] := by
       rw [hV]
       exact World.ownsRow_lit (base := w.heap.size) (size := 1) (e := 2) w2 #[.int .i64 (S * MF)] 1 (by have := hw1.size; have := hb2.size; omega) (by unfold maxLen; omega) rfl
     have hbV : Below wr.heap.size wr V := by rw [hV]; exact hb2.alloc hb2.size _
     have hVz : V.heap.size = w2.heap.size + 1 := by rw [hV]; simp
     rw [← hV] at hb3 own3
     have hlo2 := own_lo own3
     have own0 := own_call ownV hb3
     have hwV := hw1.trans (hbV.mono hw1.size)
     have hw3 := hwV.trans (hb3.mono hwV.size)
     have hbx3 := (hbx1.below hbV hbx1.lt).below hb3 (hbx1.below hbV hbx1.lt).lt
     have hz3 := hb3.size
     have hVz' := Lib.hid hVz
     have hVz2 : w2.heap.size + 1 ≤ V.heap.size := by omega
     have hzw := hw1.size
     clear hV hVz ownV hbV hb2 own3 hr1 hbx1 hw1 hb3
     go_loopw [10, 12] (fun o i wr => ∃ k : Nat, k ≤ G.length ∧ i = .int .i64 k ∧ wr.ownsRow w.heap.size 2 1 o (PT k).length ((PT k).map xv) ∧ Reads wr w3.heap.size 1 B2 G.length (G.map iv) ∧ Below w.heap.size w wr ∧ w3.heap.size ≤ wr.heap.size ∧ (∀ q, o.ownBlock = some q → q < V.heap.size ∨ w3.heap.size ≤ q) ∧ Blk wr w.heap.size 61 #[.int .i64 r, .int .i64 c, .bool dn, sv s]) (fun _ i _ => G.length - (intOf i).toNat)
     case atStart => exact ⟨0, by omega, rfl, own_cast own0 (by rw [hz.out]; rfl) (by rw [hz.out]; rfl), hr3, hw3, Nat.le_refl _, fun q hq => by simp [Value.ownBlock] at hq; omega, hbx3⟩
     case round =>
       clear hr3 own0 hw3 hbx3
       obtain ⟨k, hk, rfl, own4, hr4, hw4, hz4, hq4, hbx4⟩ := hrel
       have hp4 := hp.below hw4 hblt
       have ht4 := ht.below hw4
       by_cases hkl : k < G.length
       · obtain ⟨ad, rfl, hadb, hc4⟩ := hr4.el hkl
         have hx := hGx G[k] (List.getElem_mem _)
         have hstep := Lib.hid (hst.out k _ (List.getElem?_eq_getElem hkl))
         obtain ⟨x, hxx⟩ : ∃ x, x = G[k] := ⟨_, rfl⟩
         rw [← hxx] at hx hstep hc4
         clear hxx
         have hix : (x : Int) < (s.length : Int) := by omega
         have hx0 : (0 : Int) ≤ (x : Int) := by omega
         have hkk : (k : Int) < (G.length : Int) := by omega
         have hin := hon x hx
         obtain ⟨⟨r0, r1⟩, c0, c1'⟩ := inB_iff.1 hin
         obtain ⟨rn, rfl⟩ : ∃ rn : Nat, r = (rn : Int) := ⟨r.toNat, by omega⟩
         have hgd : s.getD x 0 = s[x] := by simp [List.getD, List.getElem?_eq_getElem hx]
         have hCx : Hid (C x = crossS b rn (c + (x : Int)) s[x]) := Lib.hid (by rw [(hcr x).out, hgd]; simp)
         have hEx : Hid (∀ m, CE x m = if ((upTo b (c + x) rn : Nat) : Int) + m = (rn : Int) then ltF (b.prm rn (c + x)) * valT t s[x] else valT t ((C x).getD m 0)) := Lib.hid (fun m => by rw [hE.out x m, hgd]; simp)
         have hCl := hcl x
         have hcx0 : -274877906944 ≤ c := by omega
         have hcx1 : c ≤ 14 := by omega
         have m1 : IntKind.i64.wrap (c + (x : Int)) = c + (x : Int) := IntWalk.i64_in _ (by omega)
         have hc4' : wr.cell? (ad.add k) = some (.int .i64 x) := hc4
         have hadk : (ad.add k).block < wr.heap.size := by rw [block_of_add]; omega
         have kcr := fun w h => l12Cross_any p b rn (c + x) s[x] w h hf hin
         rw [← hCx.out] at kcr
         have hup : upTo b (c + x) rn ≤ rn := upTo_le b (c + x) rn
         obtain ⟨U, hU⟩ : ∃ U, U = upTo b (c + x) rn := ⟨_, rfl⟩
         rw [← hU] at kcr hEx hup
         have kLx := kL rn (c + x) s[x] hin
         have kfx := kf rn (c + x) hin
         obtain ⟨lv1, lv2⟩ := hlb'.out (b.prm rn (c + x)) s[x]
         obtain ⟨g1, g2⟩ := wdF_bd (b.prm rn (c + x))
         have hCsx := Lib.hid (hCs.out x)
         have hCtx : Hid (∀ m, CT x (m + 1) = CT x m + CE x m) := Lib.hid (fun m => hCt.out x m)
         obtain ⟨LV, hLV⟩ : ∃ LV, LV = ltF (b.prm rn (c + x)) * valT t s[x] := ⟨_, rfl⟩
         rw [← hLV] at kLx lv1 lv2 hEx
         obtain ⟨D, hD⟩ : ∃ D, D = wdF (b.prm rn (c + x)) := ⟨_, rfl⟩
         rw [← hD] at kfx g1 g2 hCsx
         clear hU hLV hD kL kf hCx hgd km kfr
         have hCb2 := Lib.hid (fun m => hCb'.out x m)
         have hPk := hPl'.out k
         go_wp2_with (fail)
         refine wp_region_b 8 (by kernel_rfl) (by kernel_rfl) ?_
         simp only [qqT, List.take_zero, qqD, List.drop_zero]
         iterate 8
           apply pc_step rfl
           · intro w4 hb4 K hK
             have f0 : w4.cell? (ad.add k) = some (.int .i64 x) := (hb4.cell hadk).trans hc4'
             have hbx5 := hbx4.below hb4 hbx4.lt
             have d1 : w4.cell? ⟨w.heap.size, 1, none⟩ = some (.int .i64 c) := hbx5.cell 1
             go_wp2_with (fail)
             all_goals first | exact hb4 | exact hb4.trans (hb5.mono hb4.size) | exact hb4.trans (hd5.below.mono hb4.size)
           simp only [Act.put, qqS, qqC, qqZ]
         refine pc_nil ?_
         intro w4 hb4
         have own5 := own_call own4 hb4
         have hw5 := hw4.trans (hb4.mono hw4.size)
         have hbx5 := hbx4.below hb4 hbx4.lt
         have hz5 := Nat.le_trans hz4 hb4.size
         have hr5 : Reads w4 w3.heap.size 1 (some ad) G.length (G.map iv) := hr4.below' hb4 hz4
         have f5 : w4.cell? (ad.add k) = some (.int .i64 x) := (hb4.cell hadk).trans hc4'
         have hadk5 : (ad.add k).block < w4.heap.size := Nat.lt_of_lt_of_le hadk hb4.size
         clear own4 hw4 hbx4 hr4 hp4 ht4 hb4 hc4 hc4' hadk
         go_wp2_with (fail)
         refine wp_region_b 8 (by kernel_rfl) (by kernel_rfl) ?_
         simp only [qqT, List.take_zero, qqD, List.drop_zero]
         iterate 8
           apply pc_step rfl
           · intro w6 hb6 K hK
             have f0 : w6.cell? (ad.add k) = some (.int .i64 x) := (hb6.cell hadk5).trans f5
             have hbx6 := hbx5.below hb6 hbx5.lt
             have d3 : w6.cell? ⟨w.heap.size, 3, none⟩ = some (sv s) := hbx6.cell 3
             go_wp2_with (fail)
             all_goals first | exact hb6 | exact hb6.trans (hb5.mono hb6.size) | exact hb6.trans (hd5.below.mono hb6.size)
           simp only [Act.put, qqS, qqC, qqZ]
         refine pc_nil ?_
         intro w6 hb6
         have own6 := own_call own5 hb6
         have hw6 := hw5.trans (hb6.mono hw5.size)
         have hbx6 := hbx5.below hb6 hbx5.lt
         have hz6 := Nat.le_trans hz5 hb6.size
         have hr6 : Reads w6 w3.heap.size 1 (some ad) G.length (G.map iv) := hr5.below' hb6 hz5
         have e0 : w6.cell? ⟨w.heap.size, 0, none⟩ = some (.int .i64 rn) := hbx6.cell 0
         clear own5 hw5 hbx5 hr5 hb6 f5 hadk5
         by_cases hbig : 1 < (C x).length
         · have hbig' : decide (((C x).length : Int) < 2) = false := by simp; omega
           have hbig2 : ¬ ((C x).length : Int) < 2 := by omega
           go_wp2_with (go_at_call 221; refine (kcr _ (hp.below hw6 hblt)).mono ?_; rintro e w7 ⟨rfl, hb7⟩)
           have own7 := own_call own6 hb7
           have hw7 := hw6.trans (hb7.mono hw6.size)
           have hbx7 := hbx6.below hb7 hbx6.lt
           have hz7 := Nat.le_trans hz6 hb7.size
           have hr7 : Reads w7 w3.heap.size 1 (some ad) G.length (G.map iv) := hr6.below' hb7 hz6
           clear own6 hw6 hbx6 hr6 hb7 e0
           go_loopw [17, 18] (fun o i wr => ∃ m : Nat, m ≤ (C x).length ∧ i = .int .i64 m ∧ o = .int .i64 (CT x m) ∧ Below w7.heap.size w7 wr) (fun _ i _ => (C x).length - (intOf i).toNat)
           case atStart => exact ⟨0, by omega, rfl, by rw [hC0.out], Below.refl _ _⟩
           case round =>
             obtain ⟨m, hm, rfl, rfl, hbq⟩ := hrel
             have hbxq := hbx7.below hbq hbx7.lt
             have e0 : wr.cell? ⟨w.heap.size, 0, none⟩ = some (.int .i64 rn) := hbxq.cell 0
             have hwq := hw7.trans (hbq.mono hw7.size)
             obtain ⟨t1, t2⟩ := hCb2.out m
             by_cases hml : m < (C x).length
             · have hml' : (m : Int) < ((C x).length : Int) := by omega
               have hm0 : (0 : Int) ≤ (m : Int) := by omega
               have hE2 := Lib.hid (hEx.out m)
               have hCt2 := Lib.hid (hCtx.out m)
               obtain ⟨u1, u2⟩ := hCb2.out (m + 1)
               rw [hCt2.out] at u1 u2
               obtain ⟨E1, hE1⟩ : ∃ E1, E1 = CE x m := ⟨_, rfl⟩
               rw [← hE1] at hE2 hCt2 u1 u2
               obtain ⟨T1, hT1⟩ : ∃ T1, T1 = CT x m := ⟨_, rfl⟩
               rw [← hT1] at hCt2 t1 t2 u1 u2
               simp only [← hT1]
               clear hE1 hT1
               obtain ⟨q, hq⟩ : ∃ q, q = decide ((U : Int) + (m : Int) = (rn : Int)) := ⟨_, rfl⟩
               have hqd : ((U : Int) + (m : Int) == (rn : Int)) = q := by rw [hq]; rfl
               have hqh := Lib.hid hq
               clear hq
               have hgm : Hid ((C x).getD m 0 = (C x)[m]) := Lib.hid (by simp [List.getD, List.getElem?_eq_getElem hml])
               have kvm := fun w => kv (C x)[m] w
               have rn14 : (rn : Int) ≤ 14 := by omega
               have hup' : (U : Int) ≤ 14 := by omega
               cases q
               · have hE3 : Hid (valT t (C x)[m] = E1) := Lib.hid (by
                   have hne : ¬ (U : Int) + (m : Int) = (rn : Int) := of_decide_eq_false hqh.out.symm
                   rw [hE2.out, if_neg hne, hgm.out])
                 rw [hE3.out] at kvm
                 go_wp2_with (go_at_call 223; refine (kvm _ (ht.below hwq)).mono ?_; rintro e w8 ⟨rfl, rfl⟩)
                 go_roundw
                 case rel => exact ⟨m + 1, by omega, by go_num, vi_eq (by rw [hCt2.out]), hbq⟩
                 case measure => simp [intOf]; omega
               · have hE3 : Hid (E1 = LV) := Lib.hid (by
                   have hne : (U : Int) + (m : Int) = (rn : Int) := of_decide_eq_true hqh.out.symm
                   rw [hE2.out, if_pos hne])
                 go_wp2_with (go_at_call 222; refine (kLx _ (ht.below hwq) (hp.below hwq hblt)).mono ?_; rintro e w8 ⟨rfl, hb8⟩)
                 go_roundw
                 case rel => exact ⟨m + 1, by omega, by go_num, vi_eq (by rw [hCt2.out, hE3.out]), hbq.trans (hb8.mono hbq.size)⟩
                 case measure => simp [intOf]; omega
             · obtain rfl : m = (C x).length := by omega
               have hml' : ¬ ((C x).length : Int) < ((C x).length : Int) := by omega
               obtain ⟨T1, hT1⟩ : ∃ T1, T1 = CT x (C x).length := ⟨_, rfl⟩
               rw [← hT1] at hCsx t1 t2
               simp only [← hT1]
               have m5 : 0 ≤ T1 * D := Int.mul_nonneg t1 (by omega)
               have m6 : T1 * D ≤ 2880 := by
                 have := Int.mul_le_mul (show T1 ≤ 960 by omega) g2 (by omega) (by omega : (0 : Int) ≤ 960)
                 omega
               have m7 : IntKind.i64.wrap (T1 * D) = T1 * D := IntWalk.i64_in _ (by omega)
               have ownq := own_call own7 hbq
               have hrq : Reads wr w3.heap.size 1 (some ad) G.length (G.map iv) := hr7.below' hbq hz7
               have hzq := Nat.le_trans hz7 hbq.size
               clear own7 hr7 hT1
               go_wp2_with (first
                 | (go_at_call 224; refine (kfx _ (hp.below hwq hblt)).mono ?_; rintro e w8 ⟨rfl, hb8⟩
                    have own8 := own_call ownq hb8
                    have hw8 := hwq.trans (hb8.mono hwq.size)
                    have hbx8 := hbxq.below hb8 hbxq.lt
                    have hr8 : Reads w8 w3.heap.size 1 (some ad) G.length (G.map iv) := hrq.below' hb8 hzq
                    have hz8 := Nat.le_trans hzq hb8.size)
                 | (at_builtin; refine wpList_app i64T rfl (.tmp 104) (.tmp 112) rfl _ _ _ rfl w.heap.size own8 [.int .i64 (T1 * D)] rfl (by simp [Value.oneCell']) rfl (by omega) (by omega) hw8.size ?_; intro v1 w9 own9 hg9 hat9))
               go_roundw
               case rel =>
                 have hz9 := hg9.size
                 refine ⟨k + 1, by omega, by go_num, own_cast own9 (by rw [hstep.out, if_pos (by simpa using hbig), List.map_append, hCsx.out]; rfl) (by rw [hstep.out, if_pos (by simpa using hbig), List.length_append]; rfl), ?_, Below.own hw8 hw8.size own8 (Nat.le_refl _) hg9, by omega, ?_, hbx8.grown hg9 (fun h => own_blk_ne own8 hbx8 (by decide) h.symm)⟩
                 · exact hr8.grown2 hlo2 hg9 (by omega) (fun q hq => hq4 q hq)
                 · intro q hq
                   rcases hat9 with e | e
                   · rw [e] at hq; exact hq4 q hq
                   · rw [e] at hq; simp at hq; right; omega
               case measure => simp [intOf]; omega
         · have hbig' : decide (((C x).length : Int) < 2) = true := by simp; omega
           have hbig2 : ((C x).length : Int) < 2 := by omega
           have hbf : ¬ decide (1 < (C x).length) = true := by simpa using hbig
           go_wp2_with (go_at_call 221; refine (kcr _ (hp.below hw6 hblt)).mono ?_; rintro e w7 ⟨rfl, hb7⟩)
           go_roundw
           case rel => exact ⟨k + 1, by omega, by go_num, own_cast (own_call own6 hb7) (by rw [hstep.out, if_neg hbf]) (by rw [hstep.out, if_neg hbf]), hr6.below' hb7 hz6, hw6.trans (hb7.mono hw6.size), Nat.le_trans hz6 hb7.size, hq4, hbx6.below hb7 hbx6.lt⟩
           case measure => simp [intOf]; omega
       · obtain rfl : k = G.length := by omega
         have hlt2 : ¬ (G.length : Int) < (G.length : Int) := by omega
         go_wp2_with (fail)
         go_ret
         exact ⟨_, rfl, own_cast own4 (by rw [hend.out]) (by rw [hend.out]), hw4⟩
theorem TsAt.new {w : World} {t : TS} {A1 A2 : Option Addr} {c1 c2 : Nat} (h : TsIn w t A1 A2) (ty : TypeId) : TsAt (w.alloc (.cells #[sv t.letters, .slice A1 t.values.length c1, .slice A2 t.counts.length c2, .int .i64 t.blanks] ty)) ⟨w.heap.size, 0, none⟩ t A1 c1 A2 c2 :=
 have hB := Blk.new w ty #[sv t.letters, .slice A1 t.values.length c1, .slice A2 t.counts.length c2, .int .i64 t.blanks]
 ⟨hB.cell 0, hB.cell 1, hB.cell 2, hB.cell 3, h.below ((Below.refl _ _).alloc (Nat.le_refl _) _)⟩
theorem l13Score_any (pt : Addr) (g : Nat) {o : Nat} (t : TS) (A1 A2 : Option Addr) (c1 c2 : Nat) (b : Bd) (q : Pl) (w : World) (ht : TsAt w pt t A1 c1 A2 c2) (hp : BAt w ⟨g, o, none⟩ b) (ho : TsOk t) (hf : b.Fit) (hon : OnB (flatB b q) (flatP q)) :
   Calls Tryz.prog 77 #[.pointer (some pt), .pointer (some ⟨g, o, none⟩), q.v] w fun e w' => e = .returned (.int .i64 (scoreS t (flatB b q) (flatP q))) ∧ Below w.heap.size w w' := by
 have hfl := l12Flat_any g (o := o) b q
 have hfit : (flatB b q).Fit := flatB_fit hf
 have hl15 := OnB_len hfit hon
 have hG15 := freshL_15 hfit hon
 have kp := fun p w h1 h2 => l13Parts_any pt p t A1 A2 c1 c2 (flatB b q) (flatP q) w h1 h2 ho hfit hon
 have hfr := fun p w hp => l12Fresh_any p (flatB b q) (flatP q) w hp hfit hon (by omega)
 have hLs := fun k => sum_take_bd (M := 13000000000) (by omega) (partsS_mem ho hfit hon) k
 have hLt := fun k (h : k < (partsS t (flatB b q) (flatP q)).length) => sum_take h
 have hLl := partsS_length (t := t) hfit hon
 have hdef : Hid (scoreS t (flatB b q) (flatP q) = (partsS t (flatB b q) (flatP q)).sum + if (freshL (flatB b q) (flatP q)).length = 7 then 50 else 0) := Lib.hid rfl
 obtain ⟨LS, hLS⟩ : ∃ LS, LS = partsS t (flatB b q) (flatP q) := ⟨_, rfl⟩
 obtain ⟨G, hG⟩ : ∃ G, G = freshL (flatB b q) (flatP q) := ⟨_, rfl⟩
 obtain ⟨R, hR⟩ : ∃ R, R = scoreS t (flatB b q) (flatP q) := ⟨_, rfl⟩
 rw [← hLS] at hdef kp hLs hLt hLl
 rw [← hG] at hdef hfr hG15
 rw [← hR] at hdef ⊢
 obtain ⟨q', hq'⟩ : ∃ q', q' = flatP q := ⟨_, rfl⟩
 obtain ⟨b', hb'⟩ : ∃ b', b' = flatB b q := ⟨_, rfl⟩
 rw [← hq'] at hl15
 rw [← hq', ← hb'] at hfl hfr kp
 clear hLS hG hR hq' hb' hfit hon
 have hLs' := Lib.hid hLs
 have hLt' := Lib.hid hLt
 clear hLs hLt
 obtain ⟨r, c, dn, s⟩ := q
 simp only [Bd.v, Pl.v] at hfl hfr kp ⊢
 have hpW := hp.alloc (.cells #[.int .i64 r, .int .i64 c, .bool dn, sv s] 61)
 have hbW := (Below.refl w.heap.size w).alloc (Nat.le_refl _) (.cells #[.int .i64 r, .int .i64 c, .bool dn, sv s] 61)
 obtain ⟨W, hW⟩ : ∃ W, W = w.alloc (.cells #[.int .i64 r, .int .i64 c, .bool dn, sv s] 61) := ⟨_, rfl⟩
 rw [← hW] at hpW hbW
 go_enter Tryz.func77, Tryz.ntmps77
 go_wp2_with (first
   | (go_at_call 80; rw [← hW]; refine (hfl W hpW hf).mono ?_; rintro e w1 ⟨rfl, hb1⟩
      have hw1 := hbW.trans (hb1.mono hbW.size)
      have hw1a := (hw1.alloc hw1.size (.cells #[.int .i64 b'.size, sv b'.prem, sv b'.cells] 41))
      have hw1b := hw1a.alloc hw1a.size (.cells #[.int .i64 q'.row, .int .i64 q'.col, .bool q'.down, sv q'.word] 61))
   | (go_at_call 148; refine (kp ⟨w1.heap.size, 0, none⟩ _ (ht.below hw1b) ((BAt.new w1 b' 41).alloc _)).mono ?_; rintro e w2 ⟨v2, rfl, own2, hb2⟩
      obtain ⟨A2', c2', rfl, hc2', hr2⟩ := own_sl own2
      have hw2 := hw1b.trans (hb2.mono hw1b.size)
      have hB' : BAt w2 ⟨w1.heap.size, 0, none⟩ b' := ((BAt.new w1 b' 41).alloc _).below hb2 (by simp; omega)
      have hP' : Blk w2 (w1.heap.size + 1) 61 _ := (Blk.new1 w1 _ _ _).below hb2 (by simp)
      have e0 : w2.cell? ⟨w1.heap.size + 1, 0, none⟩ = some (.int .i64 q'.row) := hP'.cell 0
      have e1 : w2.cell? ⟨w1.heap.size + 1, 1, none⟩ = some (.int .i64 q'.col) := hP'.cell 1
      have e2 : w2.cell? ⟨w1.heap.size + 1, 2, none⟩ = some (.bool q'.down) := hP'.cell 2
      have e3 : w2.cell? ⟨w1.heap.size + 1, 3, none⟩ = some (sv q'.word) := hP'.cell 3))
 clear own2 hb1 hb2 hw1a hw1b
 go_loopw [10, 11] (fun o i wr => ∃ k : Nat, k ≤ LS.length ∧ i = .int .i64 k ∧ o = .int .i64 (LS.take k).sum ∧ wr = w2) (fun _ i _ => LS.length - (intOf i).toNat)
 case atStart => exact ⟨0, by omega, rfl, by simp, rfl⟩
 case round =>
   obtain ⟨k, hk, rfl, rfl, rfl⟩ := hrel
   obtain ⟨s1, s2⟩ := hLs'.out k
   by_cases hkl : k < LS.length
   · obtain ⟨ad, rfl, hadb, hc3⟩ := hr2.el hkl
     have hsm := Lib.hid (hLt'.out k hkl)
     obtain ⟨s3, s4⟩ := hLs'.out (k + 1)
     have hkk : (k : Int) < (LS.length : Int) := by omega
     simp only [xv] at hc3
     rw [hsm.out] at s3 s4
     obtain ⟨S, hS⟩ : ∃ S, S = (LS.take k).sum := ⟨_, rfl⟩
     rw [← hS] at s1 s2 s3 s4 hsm
     simp only [← hS]
     clear hS
     go_wp2_with (fail)
     go_roundw
     case rel => exact ⟨k + 1, by omega, by go_num, vi_eq (by rw [hsm.out]), trivial⟩
     case measure => simp [intOf]; omega
   · obtain rfl : k = LS.length := by omega
     simp only [List.take_length] at s1 s2 ⊢
     have hlt' : ¬ (LS.length : Int) < (LS.length : Int) := by omega
     obtain ⟨S, hS⟩ : ∃ S, S = LS.sum := ⟨_, rfl⟩
     rw [← hS] at s1 s2 hdef
     simp only [← hS]
     clear hS hLs' hLt' kp hfl
     by_cases hG7 : G.length = 7
     · have hg : ((G.length : Int) == 7) = true := by rw [hG7]; rfl
       have HG := Lib.hid hG7
       clear hG7
       go_wp2_with (go_at_call 149; refine (hfr ⟨w1.heap.size, 0, none⟩ _ hB').mono ?_; rintro e w3 ⟨v3, rfl, own3, hb3⟩; obtain ⟨A3, c3, rfl, _, _⟩ := own_sl own3)
       go_ret
       exact ⟨ret_int (by rw [hdef.out, if_pos HG.out]), hw2.trans (hb3.mono hw2.size)⟩
     · have hg : ((G.length : Int) == 7) = false := by simp; omega
       have HG := Lib.hid hG7
       clear hG7
       go_wp2_with (go_at_call 149; refine (hfr ⟨w1.heap.size, 0, none⟩ _ hB').mono ?_; rintro e w3 ⟨v3, rfl, own3, hb3⟩; obtain ⟨A3, c3, rfl, _, _⟩ := own_sl own3)
       go_ret
       exact ⟨ret_int (by rw [hdef.out, if_neg HG.out]; simp), hw2.trans (hb3.mono hw2.size)⟩
theorem sScorePlay_any (t : TS) (A1 A2 : Option Addr) (c1 c2 : Nat) (b : Bd) (q : Pl) (w : World) (hi : TsIn w t A1 A2) (htb : tsB t = true) (hok : okB b q = true) :
   Calls Tryz.prog 139 #[t.v A1 c1 A2 c2, b.v, q.v] w fun e w' => e = .returned (.tuple #[.int .i64 (scoreS t (flatB b q) (flatP q)), .int .i64 0]) ∧ Below w.heap.size w w' := by
 have hbd : bdB b = true := by unfold okB at hok; simp only [Bool.and_eq_true] at hok; exact hok.1
 have ho := tsB_ok htb
 have hf := bdB.fit hbd
 have h15 := hf.hi
 have h5 := hf.lo
 have hmm := (mul_bounds (r := 0) (c := 0) h5 h15 (by omega) (by omega) (by omega) (by omega)).2.2.2.2
 have hlp : b.prem.length ≤ 2 ^ 40 := by have := hf.prem; omega
 have hlc : b.cells.length ≤ 2 ^ 40 := by have := hf.cells; omega
 obtain ⟨hon, _, hw12⟩ := okB_on hok
 have ks := fun pt g w h1 h2 => l13Score_any pt g (o := 0) t A1 A2 c1 c2 b q w h1 h2 ho hf hon
 obtain ⟨R, hR⟩ : ∃ R, R = scoreS t (flatB b q) (flatP q) := ⟨_, rfl⟩
 rw [← hR] at ks ⊢
 have k1 := fun p w h => l02Ok_any p t A1 A2 c1 c2 w h (by have := ho.len; omega) (by have := ho.len; have := ho.vals; omega) (by have := ho.len; have := ho.cnts; omega)
 rw [htb] at k1
 have k2 := fun g w h => l12Ok_any g (o := 0) b q w h (by omega) hlp hlc
 rw [hok] at k2
 clear hR hmm h15 h5 hlp hlc hon hw12 hok htb ho hbd hf
 obtain ⟨r, c, dn, s⟩ := q
 simp only [TS.v, Bd.v, Pl.v] at k2 ks ⊢
 have hT := TsAt.new (c1 := c1) (c2 := c2) hi 39
 obtain ⟨W1, hW1⟩ : ∃ W1, W1 = w.alloc (.cells #[sv t.letters, .slice A1 t.values.length c1, .slice A2 t.counts.length c2, .int .i64 t.blanks] 39) := ⟨_, rfl⟩
 rw [← hW1] at hT
 have hz1 : W1.heap.size = w.heap.size + 1 := by rw [hW1]; simp
 have hb1 : Below w.heap.size w W1 := by rw [hW1]; exact (Below.refl _ _).alloc (Nat.le_refl _) _
 have hB := BAt.new W1 b 41
 obtain ⟨W2, hW2⟩ : ∃ W2, W2 = W1.alloc (.cells #[.int .i64 b.size, sv b.prem, sv b.cells] 41) := ⟨_, rfl⟩
 rw [← hW2] at hB
 have hz2 : W2.heap.size = w.heap.size + 2 := by rw [hW2]; simp [hz1]
 have hb2 : Below W1.heap.size W1 W2 := by rw [hW2]; exact (Below.refl _ _).alloc (Nat.le_refl _) _
 have hP := Blk.new W2 61 #[.int .i64 r, .int .i64 c, .bool dn, sv s]
 obtain ⟨W, hW⟩ : ∃ W, W = W2.alloc (.cells #[.int .i64 r, .int .i64 c, .bool dn, sv s] 61) := ⟨_, rfl⟩
 rw [← hW] at hP
 have hb3 : Below W2.heap.size W2 W := by rw [hW]; exact (Below.refl _ _).alloc (Nat.le_refl _) _
 have hWz : W.heap.size = w.heap.size + 3 := by rw [hW]; simp [hz2]
 have hT := (hT.below hb2).below hb3
 have hB := hB.below hb3 (by simp; omega)
 rw [hz1] at hB
 rw [hz2] at hP
 have hbW : Below w.heap.size w W := (hb1.trans (hb2.mono (by omega))).trans (hb3.mono (by omega))
 go_enter Tryz.func139, Tryz.ntmps139
 go_wp2_with (first
   | (go_at_call 137; rw [← hW1, ← hW2, ← hW]; refine (k1 _ W hT).mono ?_; rintro e w1 ⟨rfl, hx1⟩
      have hP1 := hP.below hx1 hP.lt
      have e0 : w1.cell? ⟨w.heap.size + 2, 0, none⟩ = some (.int .i64 r) := hP1.cell 0
      have e1 : w1.cell? ⟨w.heap.size + 2, 1, none⟩ = some (.int .i64 c) := hP1.cell 1
      have e2 : w1.cell? ⟨w.heap.size + 2, 2, none⟩ = some (.bool dn) := hP1.cell 2
      have e3 : w1.cell? ⟨w.heap.size + 2, 3, none⟩ = some (sv s) := hP1.cell 3)
   | (go_at_call 144; refine (k2 _ w1 (hB.below hx1 hB.lt)).mono ?_; rintro e w2 ⟨rfl, hx2⟩
      have hx := hx1.trans (hx2.mono hx1.size)
      have hP2 := hP.below hx hP.lt
      have f0 : w2.cell? ⟨w.heap.size + 2, 0, none⟩ = some (.int .i64 r) := hP2.cell 0
      have f1 : w2.cell? ⟨w.heap.size + 2, 1, none⟩ = some (.int .i64 c) := hP2.cell 1
      have f2 : w2.cell? ⟨w.heap.size + 2, 2, none⟩ = some (.bool dn) := hP2.cell 2
      have f3 : w2.cell? ⟨w.heap.size + 2, 3, none⟩ = some (sv s) := hP2.cell 3)
   | (go_at_call 77; refine (ks _ _ w2 (hT.below hx) (hB.below hx hB.lt)).mono ?_; rintro e w3 ⟨rfl, hx3⟩))
 go_ret2
 exact ⟨rfl, hbW.trans ((hx.trans (hx3.mono hx.size)).mono hbW.size)⟩
theorem legalC_ok {b : Bd} {ws : List Str} {rack : Str} {q : Pl} (h : legalC b ws rack q = 0) : okB b q = true := by
 unfold legalC at h
 by_cases ho : okB b q = true
 · exact ho
 · rw [if_neg ho] at h; cases h
theorem l16Moves_any (pl pt : Addr) (gb : Nat) (rack : Str) (t : TS) (A1 A2 : Option Addr) (c1 c2 : Nat) (b : Bd) (A : Option Addr) (c0 : Nat) (ws : List Str) (w : World) (ht : TsAt w pt t A1 c1 A2 c2) (hpb : BAt w ⟨gb, 0, none⟩ b) (hlx : LxAt w pl A c0 ws) (hn : ws.length ≤ 2 ^ 40) (hwl : ∀ x ∈ ws, x.length ≤ 2 ^ 40) (hrk : rack.length ≤ 2 ^ 40) (h1 : b.prem.length ≤ 2 ^ 40) (h2 : b.cells.length ≤ 2 ^ 40) (hl : t.letters.length ≤ 2 ^ 40) (hv : t.values.length ≤ 2 ^ 40) (hc : t.counts.length ≤ 2 ^ 40) :
   Calls Tryz.prog 64 #[.pointer (some pl), .pointer (some pt), .pointer (some ⟨gb, 0, none⟩), sv rack] w (MovesPost w t b ws rack) := by
 have k1 := fun (w : World) (h : TsAt w pt t A1 c1 A2 c2) => l02Ok_any pt t A1 A2 c1 c2 w h hl hv hc
 have k2 := fun (w : World) (hp : BAt w ⟨gb, 0, none⟩ b) (hlx : LxAt w pl A c0 ws) => l16Plays_any pl gb rack b A c0 ws w hp hlx hn hwl hrk h1 h2
 have hcode : Hid (movesCode t b ws rack = if tsB t then playsCode b ws rack else 1) := Lib.hid rfl
 clear hn hwl hrk h1 h2
 cases htb : tsB t
 · rw [htb] at k1 hcode
   go_enter Tryz.func64, Tryz.ntmps64
   go_wp2_with (go_at_call 137; refine (k1 _ ht).mono ?_; rintro e w1 ⟨rfl, hb1⟩)
   go_ret2
   exact MovesPost.no (by rw [hcode.out]; rfl) (by decide) hb1
 · have hHtb := Lib.hid htb
   rw [htb] at k1 hcode
   have hcd : Hid (movesCode t b ws rack = playsCode b ws rack) := Lib.hid (by rw [hcode.out]; rfl)
   clear hcode
   by_cases hpc : playsCode b ws rack = 0
   · have hpl := plays_400 hpc
     have hok : Hid (∀ p ∈ playsL b ws rack, okB b p = true) := Lib.hid (fun p hp => legalC_ok (playsL_legal p hp))
     have hsc := fun (q : Pl) (h : okB b q = true) (w : World) (hi : TsIn w t A1 A2) => sScorePlay_any t A1 A2 c1 c2 b q w hi htb h
     have hml : Hid (movesL t b ws rack = (playsL b ws rack).map fun p => (p, scoreS t (flatB b p) (flatP p))) := Lib.hid rfl
     have hstep : Hid (∀ k (h : k < (playsL b ws rack).length), (movesL t b ws rack).take (k + 1) = (movesL t b ws rack).take k ++ [((playsL b ws rack)[k], scoreS t (flatB b (playsL b ws rack)[k]) (flatP (playsL b ws rack)[k]))]) := Lib.hid (movesL_take t b ws rack)
     have hmlen := movesL_length t b ws rack
     have k2 := fun (w : World) hp hlx => (k2 w hp hlx).mono fun e w' (h : PlaysPost w b ws rack e w') => (show ∃ v, e = .returned (.tuple #[v, .int .i64 0]) ∧ PSl w' v (playsL b ws rack) ∧ Below w.heap.size w w' from by
       obtain ⟨v, h1, h2, _, h4⟩ := h
       exact ⟨v, by rw [h1, hpc], h2 hpc, h4⟩)
     have hC := Lib.hid (hcd.out.trans hpc)
     clear hpc hcd htb
     obtain ⟨P, hP⟩ : ∃ P, P = playsL b ws rack := ⟨_, rfl⟩
     rw [← hP] at hpl hok hml hmlen k2 hstep
     obtain ⟨M, hM⟩ : ∃ M, M = movesL t b ws rack := ⟨_, rfl⟩
     rw [← hM] at hml hmlen hstep
     have hMM := Lib.hid hM
     clear hP hM
     go_enter Tryz.func64, Tryz.ntmps64
     go_wp2_with (first
       | (go_at_call 137; refine (k1 _ ht).mono ?_; rintro e w1 ⟨rfl, hb1⟩)
       | (go_at_call 138; refine (k2 _ (hpb.below hb1 hpb.lt) (hlx.below hb1)).mono ?_; rintro e w2 ⟨v2, rfl, ⟨B2, d2, rfl, hd2, hr2, hf2⟩, hb2⟩))
     have hw2 := hb1.trans (hb2.mono hb1.size)
     have own0 := World.ownsRow_lit (base := w2.heap.size) (size := 5) (e := 124) w2 #[] 0 (Nat.le_refl _) (by unfold maxLen; omega) rfl
     clear hb1 hb2 k1 k2 hlx
     go_loopw [12, 13] (fun o i wr => ∃ k : Nat, k ≤ P.length ∧ i = .int .i64 k ∧ wr.ownsRow w2.heap.size 124 5 o k (mvsC (M.take k)) ∧ Below w2.heap.size w2 wr) (fun _ i _ => P.length - (intOf i).toNat)
     case atStart => exact ⟨0, by omega, rfl, own0, (Below.refl _ _).alloc (Nat.le_refl _) _⟩
     case round =>
       clear own0
       obtain ⟨k, hk, rfl, own2, hbr⟩ := hrel
       have hr2 := (hr2.below hbr).more hbr.size
       have hwr := hw2.trans (hbr.mono hw2.size)
       by_cases hkl : k < P.length
       · have hkk : (k : Int) < (P.length : Int) := by omega
         obtain ⟨ad, ea, hlt⟩ := hr2.2 (by omega)
         obtain ⟨g, off, rfl⟩ := hf2 ad ea
         subst ea
         have hPk := Lib.hid (hr2.pl hkl)
         have hst := Lib.hid (hstep.out k hkl)
         have hq := Lib.hid (hok.out P[k] (List.getElem_mem _))
         have hsq := hsc P[k] hq.out
         have hg : g < wr.heap.size := hlt.1
         obtain ⟨y, hy⟩ : ∃ y, y = P[k] := ⟨_, rfl⟩
         rw [← hy] at hPk hst hsq
         clear hy hq
         obtain ⟨R, hR⟩ : ∃ R, R = scoreS t (flatB b y) (flatP y) := ⟨_, rfl⟩
         rw [← hR] at hst hsq
         clear hR
         obtain ⟨yr, yc, yd, ys⟩ := y
         simp only [TS.v, Bd.v, Pl.v] at hsq
         have ht2 := ht.below hwr
         have hpb2 := hpb.below hwr hpb.lt
         go_wp2_with (fail)
         refine wp_region_b 16 (by kernel_rfl) (by kernel_rfl) ?_
         simp only [qqT, List.take_zero, qqD, List.drop_zero]
         iterate 16
           apply pc_step rfl
           · intro w4 hb4 K hK
             have ht4 := ht2.below hb4
             have hpb4 := hpb2.below hb4 hpb2.lt
             have x0 := ht4.x0
             have x1 := ht4.x1
             have x2 := ht4.x2
             have x3 := ht4.x3
             have b0 := hpb4.1
             have b1 := hpb4.2.1
             have b2 := hpb4.2.2
             have f0 := (hb4.cell (p := ⟨g, off + k * 4, none⟩) hg).trans hPk.out.1
             have f1 := (hb4.cell (p := ⟨g, off + k * 4 + 1, none⟩) hg).trans hPk.out.2.1
             have f2 := (hb4.cell (p := ⟨g, off + k * 4 + 2, none⟩) hg).trans hPk.out.2.2.1
             have f3 := (hb4.cell (p := ⟨g, off + k * 4 + 3, none⟩) hg).trans hPk.out.2.2.2
             go_wp2_with (first | (go_at_call 139; refine (hsq _ ht4.inn).mono ?_; rintro e w5 ⟨rfl, hb5⟩))
             all_goals first | exact hb4 | exact hb4.trans (hb5.mono hb4.size) | exact hb4.trans (hd5.below.mono hb4.size)
           simp only [Act.put, qqS, qqC, qqZ]
         refine pc_nil ?_
         intro w4 hb4
         have own4 := own_call own2 hb4
         have hbr4 := hbr.trans (hb4.mono hbr.size)
         have f0 := (hb4.cell (p := ⟨g, off + k * 4, none⟩) hg).trans hPk.out.1
         have f1 := (hb4.cell (p := ⟨g, off + k * 4 + 1, none⟩) hg).trans hPk.out.2.1
         have f2 := (hb4.cell (p := ⟨g, off + k * 4 + 2, none⟩) hg).trans hPk.out.2.2.1
         have f3 := (hb4.cell (p := ⟨g, off + k * 4 + 3, none⟩) hg).trans hPk.out.2.2.2
         have hlit := run_lit1 moveT (.agg #[.int .i64 yr, .int .i64 yc, .bool yd, sv ys, .int .i64 R]) #[.int .i64 yr, .int .i64 yc, .bool yd, sv ys, .int .i64 R] rfl rfl (by omega)
         have hin : k + 1 ≤ 1099511627776 := by omega
         clear own2 hr2 hb4 ht2 hpb2 hsq hPk hwr
         have hwle := hbr4.size
         go_wp2_with (at_builtin; refine wpList_app moveT rfl (.tmp 50) (.tmp 57) rfl _ k (mvsC (M.take k)) rfl w2.heap.size own4 (mvC (⟨yr, yc, yd, ys⟩, R)) rfl (by simp [mvC, Value.oneCell']) rfl hin (by omega) hwle ?_; intro v5 w5 own5 hg5 _)
         go_roundw
         case rel => exact ⟨k + 1, by omega, by go_num, by rw [hst.out, mvsC_append, mvsC_one]; exact own5, Below.own hbr4 hbr4.size own4 (Nat.le_refl _) hg5⟩
         case measure => simp [intOf]; omega
       · obtain rfl : k = P.length := by omega
         go_wp2_with (fail)
         go_ret2
         exact MovesPost.yes hC.out (by rw [← hMM.out]; rw [List.take_of_length_le (by omega)] at own2; rw [hmlen]; exact own_base own2 hw2.size) (hw2.trans (hbr.mono hw2.size))
   · have hne := hpc
     have k2 := fun (w : World) hp hlx => (k2 w hp hlx).mono fun e w' (h : PlaysPost w b ws rack e w') => (show e = .returned (.tuple #[.slice none 0 0, .int .i64 (playsCode b ws rack)]) ∧ Below w.heap.size w w' from by
       obtain ⟨v, h1, _, h3, h4⟩ := h
       exact ⟨by rw [h1, h3 hne], h4⟩)
     have hne : (playsCode b ws rack == 0) = false := by simpa using hpc
     have hne2 : (playsCode b ws rack != 0) = true := by simpa using hpc
     obtain ⟨C, hC⟩ : ∃ C, C = playsCode b ws rack := ⟨_, rfl⟩
     rw [← hC] at k2 hne hne2 hpc hcd
     have hcc := Lib.hid hpc
     clear hC hpc
     go_enter Tryz.func64, Tryz.ntmps64
     go_wp2_with (first
       | (go_at_call 137; refine (k1 _ ht).mono ?_; rintro e w1 ⟨rfl, hb1⟩)
       | (go_at_call 138; refine (k2 _ (hpb.below hb1 hpb.lt) (hlx.below hb1)).mono ?_; rintro e w2 ⟨rfl, hb2⟩))
     go_ret2
     exact MovesPost.no hcd.out hcc.out (hb1.trans (hb2.mono hb1.size))
theorem encode_ascii (c : UInt8) (h : c.toNat < 128) : Utf8.encode (c.toNat : Int) = ⟨[c].toArray⟩ := by
 have hv : Utf8.valid (c.toNat : Int) = true := by unfold Utf8.valid; simp; omega
 unfold Utf8.encode
 have h1 : ((c.toNat : Int)).toNat < 128 := by omega
 simp only [hv, if_true, h1]
 simp
theorem ret_slot_row_slot {P : Program} {fn : Func} {R : Ending → World → Prop} {a : Act} {w : World} {o p q : Tmp} {ty : TypeId} {u v : Value} (h : fn.results = #[.tmp o, .cell p ty, .tmp q]) (g : Nat) (t : TypeId) (cs : Array Value) (d : TypeDesc)
   (ho : a.tmps.getD o undef = u) (hp : a.tmps.getD p undef = .pointer (some ⟨g, 0, none⟩)) (hg : Blk w g t cs) (hu : P.underlying ty = some d)
   (hd : (match d with | .struct _ | .array _ _ => true | _ => false) = true) (hi : (P.info? ty).map (·.size) = some cs.size)
   (hq : a.tmps.getD q undef = v) (hdf : a.defers = [])
   (hR : R (.returned (.tuple #[u, .agg cs, v])) w) : bodyPost P fn R .ret a w := by
 have e0 : a.tmps[o]?.getD undef = u := by simpa using ho
 have e1 : a.tmps[p]?.getD undef = .pointer (some ⟨g, 0, none⟩) := by simpa using hp
 have e2 : a.tmps[q]?.getD undef = v := by simpa using hq
 refine bodyPost_ret (v := .tuple #[u, .agg cs, v]) ?_ hdf hR
 simp [results, h, e0, e1, e2, asAddr, run_loadVar_row w g t ty cs (0, 0) d hg hu hd hi]
structure SP (W : World) (g : Nat) (t : TypeId) (i : Nat) (r r' : Array Value) (L : Nat → Bool) (w : World) : Prop where
 gr : W.grownBy w (some g)
 blk : Blk w g t (if L i then r' else r)
section
variable {W w w' : World} {g i k : Nat} {t : TypeId} {r r' : Array Value} {L : Nat → Bool}
theorem SP.start (h : Blk W g t r) : SP W g t i r r' (fun _ => false) W := ⟨⟨rfl, rfl, rfl, Nat.le_refl _, fun _ _ _ => rfl⟩, h⟩
theorem SP.keep (h : SP W g t i r r' L w) (h1 : k ≠ i) : SP W g t i r r' (upd L k) w := ⟨h.gr, by rw [upd_ne L h1.symm]; exact h.blk⟩
theorem SP.call (h : SP W g t i r r' L w) (hb : Below w.heap.size w w') : SP W g t i r r' L w' :=
 ⟨⟨hb.os.trans h.gr.os, hb.tape.trans h.gr.tape, hb.output.trans h.gr.output, Nat.le_trans h.gr.size hb.size, fun k hk hne => (hb.block k (Nat.lt_of_lt_of_le hk h.gr.size)).trans (h.gr.block k hk hne)⟩, h.blk.below hb h.blk.lt⟩
theorem SP.other (h : SP W g t i r r' L w) {g' : Nat} {t' : TypeId} {cs : Array Value} (hb : Blk W g' t' cs) (hne : g' ≠ g) : Blk w g' t' cs := hb.grown h.gr (fun e => hne (Option.some.inj e))
theorem SP.own (h : SP W g t i r r' L w) {base e size n : Nat} {v : Value} {xs : List Value} (ho : W.ownsRow base e size v n xs) (hne : v.ownBlock ≠ some g) : w.ownsRow base e size v n xs :=
 own_keep ho fun k hk => h.gr.block k (ho.lt k hk).2 (fun e' => hne (hk.trans e'))
theorem grown_setCell (h : W.grownBy w (some g)) (j : Nat) (u : Value) : W.grownBy (w.setCell ⟨g, j, none⟩ u) (some g) :=
 ⟨h.os, h.tape, h.output, by simpa using h.size, fun k hk hne => (Below.heap_setCell w ⟨g, j, none⟩ u k (fun e => hne (by rw [e]))).trans (h.block k hk hne)⟩
theorem SP.put {a0 a1 a2 a3 x0 x1 x2 x3 : Value} (h : SP W g t i #[a0, a1, a2, a3] #[x0, x1, x2, x3] L w) (hL : L i = false) :
   SP W g t i #[a0, a1, a2, a3] #[x0, x1, x2, x3] (upd L i) ((((w.setCell ⟨g, 0, none⟩ x0).setCell ⟨g, 1, none⟩ x1).setCell ⟨g, 2, none⟩ x2).setCell ⟨g, 3, none⟩ x3) := by
 have hb := h.blk
 rw [hL] at hb
 refine ⟨grown_setCell (grown_setCell (grown_setCell (grown_setCell h.gr _ _) _ _) _ _) _ _, ?_⟩
 rw [upd_same]
 exact (((hb.set_ 0 x0).set_ 1 x1).set_ 2 x2).set_ 3 x3
end
def takeC (b : Bd) (q : Pl) (word : Str) (i : Nat) : UInt8 := if cellQ b q i == 46 then word.getD i 0 else cellQ b q i
def takeOk (b : Bd) (q : Pl) (word : Str) (i : Nat) : Bool := !(takeC b q word i == 0) && (lowC (takeC b q word i) == word.getD i 0)
def okTo (b : Bd) (q : Pl) (word : Str) (k : Nat) : Bool := (List.range k).all (takeOk b q word)
def putTo (b : Bd) (q : Pl) (word : Str) (k : Nat) : Str := (List.range k).map (takeC b q word)
def letTo (b : Bd) (q : Pl) (word : Str) (k : Nat) : Str := ((List.range k).filter fun i => cellQ b q i == 46).map fun i => word.getD i 0
theorem okTo_succ (b : Bd) (q : Pl) (word : Str) (k : Nat) : okTo b q word (k + 1) = (okTo b q word k && takeOk b q word k) := by simp [okTo, List.range_succ]
theorem putTo_succ (b : Bd) (q : Pl) (word : Str) (k : Nat) : putTo b q word (k + 1) = putTo b q word k ++ [takeC b q word k] := by simp [putTo, List.range_succ]
theorem letTo_succ (b : Bd) (q : Pl) (word : Str) (k : Nat) : letTo b q word (k + 1) = if cellQ b q k == 46 then letTo b q word k ++ [word.getD k 0] else letTo b q word k := by
 unfold letTo
 rw [List.range_succ, List.filter_append]
 cases h : (cellQ b q k == 46) <;> simp [h]
theorem okTo_no (b : Bd) (q : Pl) (word : Str) {k n : Nat} (h : k < n) (hk : takeOk b q word k = false) : okTo b q word n = false := by
 unfold okTo
 rw [List.all_eq_false]
 exact ⟨k, List.mem_range.2 h, by simp [hk]⟩
theorem putTo_length (b : Bd) (q : Pl) (word : Str) (k : Nat) : (putTo b q word k).length = k := by simp [putTo]
theorem letTo_length (b : Bd) (q : Pl) (word : Str) (k : Nat) : (letTo b q word k).length ≤ k := by
 unfold letTo
 rw [List.length_map]
 exact Nat.le_trans (List.length_filter_le _ _) (by simp)
def putQ (b : Bd) (word : Str) (r c : Int) (d : Bool) : Pl := ⟨r, c, d, putTo b ⟨r, c, d, []⟩ word word.length⟩
def standB (b : Bd) (word : Str) (r c : Int) (d : Bool) : Bool := longB word && b.inB r c && okTo b ⟨r, c, d, []⟩ word word.length
def needI (b : Bd) (word : Str) (r c : Int) (d : Bool) : Value :=
 if standB b word r c d then .tuple #[sv (letTo b ⟨r, c, d, []⟩ word word.length), (putQ b word r c d).v, .bool (validI b (putQ b word r c d))]
 else .tuple #[sv [], .agg #[.int .i64 0, .int .i64 0, .bool false, sv []], .bool false]
set_option maxHeartbeats 2000000
theorem cellQ_ascii {b : Bd} (h : asciiB b.cells = true) (q : Pl) (i : Nat) : (cellQ b q i).toNat < 128 := by
 unfold cellQ Bd.cell
 split
 · exact asciiB_getD h _
 · decide
theorem takeC_ascii {b : Bd} (h : asciiB b.cells = true) (q : Pl) {word : Str} (hw : asciiB word = true) (i : Nat) : (takeC b q word i).toNat < 128 := by
 unfold takeC
 split
 · exact asciiB_getD hw _
 · exact cellQ_ascii h q i
theorem putTo_ascii {b : Bd} (h : asciiB b.cells = true) (q : Pl) {word : Str} (hw : asciiB word = true) (k : Nat) : asciiB (putTo b q word k) = true := by
 refine List.all_eq_true.2 fun c hc => ?_
 obtain ⟨i, _, rfl⟩ := List.mem_map.1 hc
 simpa using takeC_ascii h q hw i
theorem needs_bad (b : Bd) (word : Str) (r c : Int) (d : Bool) (w : World) (hs : sizeB b.size = true) (hl : word.length ≤ 2 ^ 32) (hno : (longB word && b.inB r c) = false) :
   Calls Tryz.prog 209 #[b.v, sv word, .int .i64 r, .int .i64 c, .bool d] w fun e w' => e = .returned (needI b word r c d) ∧ Below w.heap.size w w' := by
 have kl := fun w => isLong_any word w (by omega)
 have ki := fun w => inside_any b r c w hs
 have hres : needI b word r c d = .tuple #[.string ⟨#[]⟩, .agg #[.int .i64 0, .int .i64 0, .bool false, .string ⟨#[]⟩], .bool false] := by
   unfold needI standB; rw [hno]; rfl
 rw [hres]
 obtain ⟨LB, hLB⟩ : ∃ LB, LB = longB word := ⟨_, rfl⟩
 obtain ⟨IB, hIB⟩ : ∃ IB, IB = b.inB r c := ⟨_, rfl⟩
 rw [← hLB] at kl hno
 rw [← hIB] at ki hno
 clear hLB hIB hres hs
 obtain ⟨n, bp, bc⟩ := b
 simp only [Bd.v] at *
 obtain ⟨W0, hW0⟩ : ∃ W0, W0 = ((w.alloc (.cells #[.int .i64 n, sv bp, sv bc] 41)).alloc (.cells #[.int .i64 0, .int .i64 0, .bool false, .string ⟨#[]⟩] 61)).alloc (.cells #[.int .i64 r, .int .i64 c, .bool d, .string ⟨#[]⟩] 61) := ⟨_, rfl⟩
 have hB0 : Blk W0 w.heap.size 41 #[.int .i64 n, sv bp, sv bc] := by rw [hW0]; exact ((Blk.new w _ _).alloc _).alloc _
 have hB1 : Blk W0 (w.heap.size + 1) 61 #[.int .i64 0, .int .i64 0, .bool false, .string ⟨#[]⟩] := by rw [hW0]; exact (Blk.new1 w _ _ _).alloc _
 have hb0 : Below w.heap.size w W0 := by rw [hW0]; exact ((((Below.refl _ _).alloc (Nat.le_refl _) _).alloc (by simp) _).alloc (by simp; omega) _)
 cases LB
 · go_enter Tryz.func209, Tryz.ntmps209
   go_wp2_with (first
     | (go_at_call 281; rw [← hW0]; refine (kl _).mono ?_; rintro e w1 ⟨rfl, hb1⟩
        have hC1 := hB1.below hb1 hB1.lt
        have f0 := hC1.frozen
        have x0 : w1.cell? ⟨w.heap.size + 1, 0, none⟩ = some (.int .i64 0) := hC1.cell 0
        have x1 : w1.cell? ⟨w.heap.size + 1, 1, none⟩ = some (.int .i64 0) := hC1.cell 1
        have x2 : w1.cell? ⟨w.heap.size + 1, 2, none⟩ = some (.bool false) := hC1.cell 2
        have x3 : w1.cell? ⟨w.heap.size + 1, 3, none⟩ = some (.string ⟨#[]⟩) := hC1.cell 3
        have hlt2 : w.heap.size + 1 < w1.heap.size := hC1.lt))
   have hbb := hb0.trans (hb1.mono hb0.size)
   exact ret_slot_row_slot (by rfl) (w.heap.size + 1) 61 #[.int .i64 0, .int .i64 0, .bool false, .string ⟨#[]⟩] _ rfl rfl ((((hC1.set_ 0 _).set_ 1 _).set_ 2 _).set_ 3 _) Tryz.underlying61 rfl (by kernel_rfl) rfl rfl ⟨rfl, (((hbb.setCell (by simp <;> omega) _).setCell (by simp <;> omega) _).setCell (by simp <;> omega) _).setCell (by simp <;> omega) _⟩
 · simp only [Bool.true_and] at hno
   subst hno
   go_enter Tryz.func209, Tryz.ntmps209
   go_wp2_with (first
     | (go_at_call 281; rw [← hW0]; refine (kl _).mono ?_; rintro e w1 ⟨rfl, hb1⟩
        have hA1 := hB0.below hb1 hB0.lt
        have hC1 := hB1.below hb1 hB1.lt
        have b0 : w1.cell? ⟨w.heap.size, 0, none⟩ = some (.int .i64 n) := hA1.cell 0
        have b1 : w1.cell? ⟨w.heap.size, 1, none⟩ = some (sv bp) := hA1.cell 1
        have b2 : w1.cell? ⟨w.heap.size, 2, none⟩ = some (sv bc) := hA1.cell 2
        have hbb := hb0.trans (hb1.mono hb0.size))
     | (go_at_call 231; refine (ki _).mono ?_; rintro e w2 ⟨rfl, hb2⟩
        have hD1 := hC1.below hb2 hC1.lt
        have f0 := hD1.frozen
        have x0 : w2.cell? ⟨w.heap.size + 1, 0, none⟩ = some (.int .i64 0) := hD1.cell 0
        have x1 : w2.cell? ⟨w.heap.size + 1, 1, none⟩ = some (.int .i64 0) := hD1.cell 1
        have x2 : w2.cell? ⟨w.heap.size + 1, 2, none⟩ = some (.bool false) := hD1.cell 2
        have x3 : w2.cell? ⟨w.heap.size + 1, 3, none⟩ = some (.string ⟨#[]⟩) := hD1.cell 3
        have hlt2 : w.heap.size + 1 < w2.heap.size := hD1.lt))
   have hb3 := hbb.trans (hb2.mono hbb.size)
   exact ret_slot_row_slot (by rfl) (w.heap.size + 1) 61 #[.int .i64 0, .int .i64 0, .bool false, .string ⟨#[]⟩] _ rfl rfl ((((hD1.set_ 0 _).set_ 1 _).set_ 2 _).set_ 3 _) Tryz.underlying61 rfl (by kernel_rfl) rfl rfl ⟨rfl, (((hb3.setCell (by simp <;> omega) _).setCell (by simp <;> omega) _).setCell (by simp <;> omega) _).setCell (by simp <;> omega) _⟩
end Go.Proofs.YtdkckikobefekaaGreatDoor
