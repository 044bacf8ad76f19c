/-
  Contract: MissingMoves of the spec package (layer 16); Contracts: the size of a list of moves; a play, a move, a list of moves copied (the laws package); Contract: a copy of a list of moves (the laws package); What holds of the values in the regions of the law on missing moves; the answer as one list.
  Conditions: strings of common size; the slices lie in memory; the slice reads as a list of moves; numbers of common size; the slice reads as a list of moves; none.
-/
import Derived.Test.YtohopceknpgcnaaGreatDoorM28
import Derived.Test.YtohopceknpgcnaaGreatDoorM07
import Derived.Test.YtohopceknpgcnaaGreatDoorM21
import Derived.Test.YtohopceknpgcnaaGreatDoorM04
import Derived.Test.YtohopceknpgcnaaGreatDoorM22
namespace Go.Proofs.YtohopceknpgcnaaGreatDoor
open Go.RowKit RegP RegL RegV
set_option maxHeartbeats 4000000
set_option maxRecDepth 100000
theorem sMissingMoves_any (rack : Str) (t : TS) (A1 A2 : Option Addr) (c1 c2 : Nat) (b : Bd) (A : Option Addr) (c0 : Nat) (ws : List Str) (A3 : Option Addr) (c3 : Nat) (list : List Mv) (w : World) (hi : TsIn w t A1 A2) (hr : Reads w w.heap.size 1 A ws.length (ws.map sv)) (h3 : Reads w w.heap.size 5 A3 list.length (mvsC list)) (hf3 : ∀ ad, A3 = some ad → ∃ g, ad = ⟨g, 0, none⟩) (hn3 : list.length ≤ 2 ^ 40) (hn : ws.length ≤ 2 ^ 40) (hwl : ∀ x ∈ ws, x.length ≤ 2 ^ 40) (hrk : rack.length ≤ 2 ^ 40) (h1 : b.prem.length ≤ 2 ^ 40) (h2 : b.cells.length ≤ 2 ^ 40) (hl : t.letters.length ≤ 2 ^ 40) (hv : t.values.length ≤ 2 ^ 40) (hc : t.counts.length ≤ 2 ^ 40) :
   Calls Tryz.prog 25 #[.agg #[.slice A ws.length c0], t.v A1 c1 A2 c2, b.v, sv rack, .slice A3 list.length c3] w (MissPost w t b ws rack list) := by
 have kp := fun (pl pt : Addr) (gb : Nat) (w : World) ht hp hlx => l16Moves_any pl pt gb rack t A1 A2 c1 c2 b A c0 ws w ht hp hlx hn hwl hrk h1 h2 hl hv hc
 have kin := fun (m : Mv) (W : World) (hW : Below w.heap.size w W) => l16In_any A3 c3 list m list.length W ((h3.below hW).more hW.size) hf3 (Nat.le_refl _) hn3
 simp only [List.take_length] at kin
 clear hn hwl hrk h1 h2 hl hv hc h3 hf3
 simp only [TS.v, Bd.v]
 have hL := Blk.new w 36 #[.slice A ws.length c0]
 obtain ⟨W1, hW1⟩ : ∃ W1, W1 = w.alloc (.cells #[.slice A ws.length c0] 36) := ⟨_, rfl⟩
 rw [← hW1] at hL
 have hz1 : W1.heap.size = w.heap.size + 1 := by rw [hW1]; simp
 have hb1 : Below w.heap.size w W1 := by rw [hW1]; exact (Below.refl _ _).alloc (Nat.le_refl _) _
 have hT := TsAt.new (c1 := c1) (c2 := c2) (hi.below hb1) 38
 obtain ⟨W2, hW2⟩ : ∃ W2, W2 = W1.alloc (.cells #[sv t.letters, .slice A1 t.values.length c1, .slice A2 t.counts.length c2, .int .i64 t.blanks] 38) := ⟨_, rfl⟩
 rw [← hW2] at hT
 have hz2 : W2.heap.size = w.heap.size + 2 := by rw [hW2]; simp [hz1]
 have hb2 : Below W1.heap.size W1 W2 := by rw [hW2]; exact (Below.refl _ _).alloc (Nat.le_refl _) _
 have hB := BAt.new W2 b 40
 obtain ⟨W, hW⟩ : ∃ W, W = W2.alloc (.cells #[.int .i64 b.size, sv b.prem, sv b.cells] 40) := ⟨_, rfl⟩
 rw [← hW] at hB
 have hb3 : Below W2.heap.size W2 W := by rw [hW]; exact (Below.refl _ _).alloc (Nat.le_refl _) _
 rw [hz1] at hT
 rw [hz2] at hB
 have hbW : Below w.heap.size w W := (hb1.trans (hb2.mono (by omega))).trans (hb3.mono (by omega))
 have hT := hT.below hb3
 have hLb := (hL.below hb2 hL.lt).below hb3 (hL.below hb2 hL.lt).lt
 have hlx : LxAt W ⟨w.heap.size, 0, none⟩ A c0 ws := ⟨hLb.cell 0, (hr.below hbW).more hbW.size⟩
 have hk := kp _ _ _ W hT hB hlx
 clear kp hT hB hlx hr hL hLb hi
 by_cases hC : movesCode t b ws rack = 0
 · have hml := moves_400 hC
   have hend : Hid (∀ v w', w'.ownsRow w.heap.size 72 5 v (outM list (movesL t b ws rack)).length (mvsC (outM list (movesL t b ws rack))) → Below w.heap.size w w' → MissPost w t b ws rack list (.returned (.tuple #[v, .int .i64 0])) w') := Lib.hid (fun v w' h1 h2 => MissPost.yes hC h1 h2)
   have hk := hk.mono fun e w' (h : MovesPost W t b ws rack e w') => (show ∃ v, e = .returned (.tuple #[v, .int .i64 0]) ∧ w'.ownsRow W.heap.size 72 5 v (movesL t b ws rack).length (mvsC (movesL t b ws rack)) ∧ Below W.heap.size W w' from by
     obtain ⟨v, h1, h2, _, h4⟩ := h
     exact ⟨v, by rw [h1, hC], h2 hC, h4⟩)
   obtain ⟨Ps, hPs⟩ : ∃ Ps, Ps = MissPost w t b ws rack list := ⟨_, rfl⟩
   rw [← hPs] at hend ⊢
   obtain ⟨ms, hM⟩ : ∃ M, M = movesL t b ws rack := ⟨_, rfl⟩
   rw [← hM] at hml hend hk
   have hst := Lib.hid (outM_step list ms)
   have hln := Lib.hid (fun k => outM_length list (ms.take k))
   have hen : Hid (outM list ms = outM list (ms.take ms.length)) := Lib.hid (by rw [List.take_length])
   have h0 : Hid (outM list (ms.take 0) = []) := Lib.hid rfl
   obtain ⟨WS, hWS⟩ : ∃ WS, WS = outM list := ⟨_, rfl⟩
   obtain ⟨HB, hHB⟩ : ∃ HB, HB = inM list := ⟨_, rfl⟩
   rw [← hWS] at hst hln hen h0 hend
   rw [← hHB] at kin hst
   clear hWS hHB hPs hM hC
   go_enter Tryz.func25, Tryz.ntmps25
   go_wp2_with (go_at_call 29; rw [← hW1, ← hW2, ← hW]; refine hk.mono ?_; rintro e w1 ⟨v1, rfl, own1, hbw⟩; obtain ⟨B1, d1, rfl, hd1, hr1, hf1⟩ := own_form own1)
   have hw1 := hbW.trans (hbw.mono hbW.size)
   have ow0 := World.ownsRow_lit (base := w1.heap.size) (size := 5) (e := 72) w1 #[] 0 (Nat.le_refl _) (by unfold maxLen; omega) rfl
   clear hW1 hW2 hW hb1 hb2 hb3 hbW hbw hk own1 hz1 hz2
   go_loopw [14, 15] (fun o i wr => ∃ k : Nat, k ≤ ms.length ∧ i = .int .i64 k ∧ wr.ownsRow w1.heap.size 72 5 o (WS (ms.take k)).length (mvsC (WS (ms.take k))) ∧ Below w1.heap.size w1 wr) (fun _ i _ => ms.length - (intOf i).toNat)
   case atStart => exact ⟨0, by omega, rfl, by rw [h0.out]; exact ow0, (Below.refl _ _).alloc (Nat.le_refl _) _⟩
   case round =>
     clear ow0
     obtain ⟨k, hk, rfl, own, hb⟩ := hrel
     by_cases hkl : k < ms.length
     · have r1 := (hr1.below hb).more hb.size
       obtain ⟨ad1, e1, hd1', _⟩ := r1.2 (by omega)
       obtain ⟨g, rfl⟩ := hf1 ad1 e1
       subst e1
       obtain ⟨x0, x1, x2, x3, x4⟩ := r1.mv hkl
       simp only [Nat.zero_add] at x0 x1 x2 x3 x4
       have hstep := Lib.hid (hst.out k hkl)
       have hl2 := hln.out k
       rw [List.length_take] at hl2
       have kcx := kin ms[k]
       obtain ⟨m, hm⟩ : ∃ m, m = ms[k] := ⟨_, rfl⟩
       rw [← hm] at hstep x0 x1 x2 x3 x4 kcx
       clear hm r1 kin
       have hg : g < wr.heap.size := hd1'
       have hkk : (k : Int) < (ms.length : Int) := by omega
       have hk0 : (0 : Int) ≤ (k : Int) := by omega
       obtain ⟨S, hS⟩ : ∃ S, S = WS (ms.take k) := ⟨_, rfl⟩
       rw [← hS] at own hstep hl2
       clear hS
       have hSl : S.length + 1 ≤ 1099511627776 := by omega
       obtain ⟨hh, hhh⟩ : ∃ h, h = HB m := ⟨_, rfl⟩
       rw [← hhh] at kcx hstep
       clear hhh hl2
       obtain ⟨⟨mr, mc, md, mw⟩, mx⟩ := m
       simp only [mvV] at kcx x0 x1 x2 x3 x4
       have hwr := hw1.trans (hb.mono hw1.size)
       have kcx := kcx _ hwr
       cases hh
       · have hst2 : Hid (WS (ms.take (k + 1)) = S ++ [(⟨mr, mc, md, mw⟩, mx)]) := Lib.hid (by rw [hstep.out]; rfl)
         clear hstep
         have hlit := run_lit1 moveT (.agg #[.int .i64 mr, .int .i64 mc, .bool md, sv mw, .int .i64 mx]) #[.int .i64 mr, .int .i64 mc, .bool md, sv mw, .int .i64 mx] rfl rfl (by omega)
         go_wp2_with (first
           | (go_at_call 42; refine kcx.mono ?_; rintro e w2 ⟨rfl, hb2⟩
              have own2 := own_call own hb2
              have hb3 := hb.trans (hb2.mono hb.size)
              have hz3 := hb3.size
              have y0 := (hb2.cell (p := ⟨g, k * 5, none⟩) hg).trans x0
              have y1 := (hb2.cell (p := ⟨g, k * 5 + 1, none⟩) hg).trans x1
              have y2 := (hb2.cell (p := ⟨g, k * 5 + 2, none⟩) hg).trans x2
              have y3 := (hb2.cell (p := ⟨g, k * 5 + 3, none⟩) hg).trans x3
              have y4 := (hb2.cell (p := ⟨g, k * 5 + 4, none⟩) hg).trans x4)
           | (at_builtin; refine wpList_app moveT rfl (.tmp 40) (.tmp 45) rfl _ S.length _ rfl w1.heap.size own2 (mvC (⟨mr, mc, md, mw⟩, mx)) rfl (by simp [mvC, Value.oneCell']) rfl hSl (by omega) hz3 ?_; intro v6 w6 own6 hg6 hat6))
         go_roundw
         case rel => exact ⟨k + 1, by omega, by go_num, own_cast own6 (by rw [hst2.out, mvsC_append, mvsC_one]) (by rw [hst2.out]; simp), Below.own hb3 hz3 own2 (Nat.le_refl _) hg6⟩
         case measure => simp [intOf]; omega
       · have hst2 : Hid (WS (ms.take (k + 1)) = S) := Lib.hid (by rw [hstep.out]; rfl)
         clear hstep
         go_wp2_with (go_at_call 42; refine kcx.mono ?_; rintro e w2 ⟨rfl, hb2⟩)
         go_roundw
         case rel => exact ⟨k + 1, by omega, by go_num, by rw [hst2.out]; exact own_call own hb2, hb.trans (hb2.mono hb.size)⟩
         case measure => simp [intOf]; omega
     · obtain rfl : k = ms.length := by omega
       have hkk : ¬ (ms.length : Int) < (ms.length : Int) := by omega
       rw [← hen.out] at own
       go_wp2_with (fail)
       exact hend.out _ _ (own_base own hw1.size) (hw1.trans (hb.mono hw1.size))
 · have hend : Hid (∀ w', Below w.heap.size w w' → MissPost w t b ws rack list (.returned (.tuple #[.slice none 0 0, .int .i64 (movesCode t b ws rack)])) w') := Lib.hid (fun w' h => MissPost.no rfl hC h)
   have hk := hk.mono fun e w' (h : MovesPost W t b ws rack e w') => (show e = .returned (.tuple #[.slice none 0 0, .int .i64 (movesCode t b ws rack)]) ∧ Below W.heap.size W w' from by
     obtain ⟨v, h1, _, h3, h4⟩ := h
     exact ⟨by rw [h1, h3 hC], h4⟩)
   have hne : (movesCode t b ws rack != 0) = true := by simpa using hC
   have hne2 : (movesCode t b ws rack == 0) = false := by simpa using hC
   obtain ⟨Ps, hPs⟩ : ∃ Ps, Ps = MissPost w t b ws rack list := ⟨_, rfl⟩
   rw [← hPs] at hend ⊢
   obtain ⟨C, hCC⟩ : ∃ C, C = movesCode t b ws rack := ⟨_, rfl⟩
   rw [← hCC] at hend hk hne hne2
   clear hPs hCC hC kin
   go_enter Tryz.func25, Tryz.ntmps25
   go_wp2_with (go_at_call 29; rw [← hW1, ← hW2, ← hW]; refine hk.mono ?_; rintro e w1 ⟨rfl, hbw⟩)
   exact hend.out _ (hbW.trans (hbw.mono hbW.size))
def wordsM (ms : List Mv) : List Str := ms.map fun m => m.1.word
theorem szPlay_any (q : Pl) (l : Int) (w : World) (hq : q.word.length ≤ 9223372036854775807) (h0 : 0 ≤ l) (h1 : l ≤ 2 ^ 40) :
   Calls Tryz.prog 66 #[q.v, .int .i64 l] w fun e w' => e = .returned (.int .i64 (if l - q.word.length < 0 then -1 else l - q.word.length)) ∧ Below w.heap.size w w' := by
 obtain ⟨r, c, d, s⟩ := q
 simp only [Pl.v] at *
 have hb := (Below.refl w.heap.size w).alloc (Nat.le_refl _) (.cells #[.int .i64 r, .int .i64 c, .bool d, sv s] 78)
 by_cases hl : l - (s.length : Int) < 0
 · rw [if_pos hl]
   go_enter Tryz.func66, Tryz.ntmps66
   go_wp2_with (fail)
   go_ret
   exact ⟨rfl, hb⟩
 · rw [if_neg hl]
   go_enter Tryz.func66, Tryz.ntmps66
   go_wp2_with (fail)
   go_ret
   exact ⟨rfl, hb⟩
theorem szMove_any (m : Mv) (l : Int) (w : World) (hq : m.1.word.length ≤ 9223372036854775807) (h0 : 0 ≤ l) (h1 : l ≤ 2 ^ 40) :
   Calls Tryz.prog 41 #[mvV m, .int .i64 l] w fun e w' => e = .returned (.int .i64 (if l - m.1.word.length < 0 then -1 else l - m.1.word.length)) ∧ Below w.heap.size w w' := by
 have kp := fun w => szPlay_any m.1 l w hq h0 h1
 obtain ⟨⟨r, c, d, s⟩, x⟩ := m
 simp only [Pl.v, mvV] at *
 have hb := (Below.refl w.heap.size w).alloc (Nat.le_refl _) (.cells #[.int .i64 r, .int .i64 c, .bool d, sv s, .int .i64 x] 80)
 by_cases hl : l - (s.length : Int) < 0
 · simp only [if_pos hl] at kp ⊢
   go_enter Tryz.func41, Tryz.ntmps41
   go_wp2_with (go_at_call 66; refine (kp _).mono ?_; rintro e w1 ⟨rfl, hb1⟩)
   go_ret
   exact ⟨rfl, hb.trans (hb1.mono hb.size)⟩
 · simp only [if_neg hl] at kp ⊢
   go_enter Tryz.func41, Tryz.ntmps41
   go_wp2_with (go_at_call 66; refine (kp _).mono ?_; rintro e w1 ⟨rfl, hb1⟩)
   go_ret
   exact ⟨rfl, hb.trans (hb1.mono hb.size)⟩
theorem szMoveS_any (A : Option Addr) (c : Nat) (ms : List Mv) (l : Int) (w : World) (h : Reads w w.heap.size 5 A ms.length (mvsC ms)) (hf : 0 < ms.length → ∀ ad, A = some ad → ad = ⟨ad.block, ad.off, none⟩) (hn : ms.length ≤ 9223372036854775807) (hs : ∀ x ∈ ms, x.1.word.length ≤ 9223372036854775807) (h0 : 0 ≤ l) (h1 : l ≤ 2 ^ 40) :
   Calls Tryz.prog 21 #[.slice A ms.length c, .int .i64 l] w fun e w' => e = .returned (.int .i64 (szS (wordsM ms) l)) ∧ Below w.heap.size w w' := by
 have hdef : Hid (szS (wordsM ms) l = if l - ms.length < 0 then -1 else szGo (wordsM ms) (l - ms.length)) := Lib.hid (by unfold szS wordsM; rw [List.length_map])
 obtain ⟨R, hR⟩ : ∃ R, R = szS (wordsM ms) l := ⟨_, rfl⟩
 rw [← hR] at hdef ⊢
 clear hR
 by_cases hl : l - (ms.length : Int) < 0
 · have hR : R = -1 := by rw [hdef.out, if_pos hl]
   subst hR
   go_enter Tryz.func21, Tryz.ntmps21
   go_wp2_with (fail)
   go_ret
   exact ⟨rfl, Below.refl _ _⟩
 · have hR : Hid (R = szGo (wordsM ms) (l - ms.length)) := Lib.hid (by rw [hdef.out, if_neg hl])
   clear hdef
   obtain ⟨l1, hl1⟩ : ∃ l1, l1 = l - (ms.length : Int) := ⟨_, rfl⟩
   have hl0 : 0 ≤ l1 := by omega
   have hl2 : l1 ≤ 2 ^ 40 := by omega
   have hs' := Lib.hid hs
   have hl1' := Lib.hid hl1
   rw [← hl1] at hR hl
   clear hs
   go_enter Tryz.func21, Tryz.ntmps21
   go_wp2_with (fail)
   go_loopw [1, 5] (fun lv i wr => ∃ (k : Nat) (m : Int), k ≤ ms.length ∧ i = .int .i64 k ∧ lv = .int .i64 m ∧ 0 ≤ m ∧ m ≤ 2 ^ 40 ∧ Hid (R = szGo (wordsM (ms.drop k)) m) ∧ Below w.heap.size w wr) (fun _ i _ => ms.length - (intOf i).toNat)
   case atStart => exact ⟨0, l1, by omega, rfl, by rw [hl1'.out], hl0, hl2, Lib.hid (by rw [hR.out]; rfl), Below.refl _ _⟩
   case round =>
     clear hl1 hl0 hl2 hR hl
     obtain ⟨k, m, hk, rfl, rfl, hm0, hm1, he, hb⟩ := hrel
     by_cases hkl : k < ms.length
     · have r1 := (h.below hb).more hb.size
       obtain ⟨ad1, e1, hd1, _⟩ := r1.2 (by omega)
       have hp1 := hf (by omega) ad1 e1
       obtain ⟨g, off, hgo⟩ : ∃ g off, ad1 = ⟨g, off, none⟩ := ⟨_, _, hp1⟩
       subst hgo
       subst e1
       obtain ⟨x0, x1, x2, x3, x4⟩ := r1.mv hkl
       have hst : Hid (R = if m - (ms[k].1.word).length < 0 then -1 else szGo (wordsM (ms.drop (k + 1))) (m - (ms[k].1.word).length)) := Lib.hid (by rw [he.out, drop_cons ms k hkl]; rfl)
       have hxl := hs'.out _ (List.getElem_mem hkl)
       have ksz := fun w => szMove_any ms[k] m w hxl hm0 hm1
       obtain ⟨x, hx⟩ : ∃ x, x = ms[k] := ⟨_, rfl⟩
       rw [← hx] at hst x0 x1 x2 x3 x4 ksz
       clear hx r1 hxl hp1
       obtain ⟨⟨xr, xc, xd, xw⟩, xx⟩ := x
       simp only [mvV] at ksz x0 x1 x2 x3 x4 hst
       have hkk : (k : Int) < (ms.length : Int) := by omega
       have hk0 : (0 : Int) ≤ (k : Int) := by omega
       by_cases hneg : m - (xw.length : Int) < 0
       · have hR2 : R = -1 := by rw [hst.out, if_pos hneg]
         subst hR2
         simp only [if_pos hneg] at ksz
         go_wp2_with (go_at_call 41; refine (ksz _).mono ?_; rintro e w1 ⟨rfl, hb1⟩)
         go_ret
         exact ⟨rfl, hb.trans (hb1.mono hb.size)⟩
       · have hst2 : Hid (R = szGo (wordsM (ms.drop (k + 1))) (m - xw.length)) := Lib.hid (by rw [hst.out, if_neg hneg])
         simp only [if_neg hneg] at ksz
         go_wp2_with (go_at_call 41; refine (ksz _).mono ?_; rintro e w1 ⟨rfl, hb1⟩)
         go_roundw
         case rel => exact ⟨k + 1, m - xw.length, by omega, by go_num, rfl, by omega, by omega, hst2, hb.trans (hb1.mono hb.size)⟩
         case measure => simp [intOf]; omega
     · obtain rfl : k = ms.length := by omega
       have hkk : ¬ (ms.length : Int) < (ms.length : Int) := by omega
       have hRt : Hid (R = m) := Lib.hid (by rw [he.out, List.drop_length]; rfl)
       go_wp2_with (fail)
       go_ret
       exact ⟨ret_int hRt.out.symm, hb⟩
theorem toPlay_any (q : Pl) (w : World) :
   Calls Tryz.prog 67 #[q.v] w fun e w' => e = .returned q.v ∧ Below w.heap.size w w' := by
 obtain ⟨r, c, d, s⟩ := q
 simp only [Pl.v]
 go_enter Tryz.func67, Tryz.ntmps67
 go_wp2_with (fail)
 exact ret_row (by rfl) (w.heap.size + 1) 69 #[.int .i64 r, .int .i64 c, .bool d, sv s] _ rfl ((Blk.new1 w _ _ _).alloc _) Tryz.underlying69 rfl (by kernel_rfl) rfl ⟨rfl, (((Below.refl _ _).alloc (Nat.le_refl _) _).alloc (by simp) _).alloc (by simp; omega) _⟩
theorem toMove_any (m : Mv) (w : World) :
   Calls Tryz.prog 43 #[mvV m] w fun e w' => e = .returned (mvV m) ∧ Below w.heap.size w w' := by
 have kp := fun w => toPlay_any m.1 w
 obtain ⟨⟨r, c, d, s⟩, x⟩ := m
 simp only [Pl.v, mvV] at *
 obtain ⟨W, hW⟩ : ∃ W, W = ((w.alloc (.cells #[.int .i64 r, .int .i64 c, .bool d, sv s, .int .i64 x] 80)).alloc (.cells #[.int .i64 0, .int .i64 0, .bool false, .string ⟨#[]⟩, .int .i64 0] 72)).alloc (.cells #[.int .i64 0, .int .i64 0, .bool false, .string ⟨#[]⟩, .int .i64 0] 72) := ⟨_, rfl⟩
 have hb : Below w.heap.size w W := by rw [hW]; exact (((Below.refl _ _).alloc (Nat.le_refl _) _).alloc (by simp) _).alloc (by simp; omega) _
 have hB0 : Blk W w.heap.size 80 #[.int .i64 r, .int .i64 c, .bool d, sv s, .int .i64 x] := by rw [hW]; exact ((Blk.new w _ _).alloc _).alloc _
 have hB1 : Blk W (w.heap.size + 1) 72 #[.int .i64 0, .int .i64 0, .bool false, .string ⟨#[]⟩, .int .i64 0] := by rw [hW]; exact (Blk.new1 w _ _ _).alloc _
 have hB2 : Blk W (w.heap.size + 1 + 1) 72 #[.int .i64 0, .int .i64 0, .bool false, .string ⟨#[]⟩, .int .i64 0] := by rw [hW]; exact Blk.new2 w _ _ _ _
 go_enter Tryz.func43, Tryz.ntmps43
 go_wp2_with (go_at_call 67; rw [← hW]; refine (kp _).mono ?_; rintro e w1 ⟨rfl, hb1⟩
              have hC0 := hB0.below hb1 hB0.lt
              have hC1 := hB1.below hb1 hB1.lt
              have hC2 := hB2.below hb1 hB2.lt
              have a4 : w1.cell? ⟨w.heap.size, 4, none⟩ = some (.int .i64 x) := hC0.cell 4
              have b0 : w1.cell? ⟨w.heap.size + 1, 0, none⟩ = some (.int .i64 0) := hC1.cell 0
              have b1 : w1.cell? ⟨w.heap.size + 1, 1, none⟩ = some (.int .i64 0) := hC1.cell 1
              have b2 : w1.cell? ⟨w.heap.size + 1, 2, none⟩ = some (.bool false) := hC1.cell 2
              have b3 : w1.cell? ⟨w.heap.size + 1, 3, none⟩ = some (.string ⟨#[]⟩) := hC1.cell 3
              have b4 : w1.cell? ⟨w.heap.size + 1, 4, none⟩ = some (.int .i64 0) := hC1.cell 4
              have c0 : w1.cell? ⟨w.heap.size + 1 + 1, 0, none⟩ = some (.int .i64 0) := hC2.cell 0
              have c1 : w1.cell? ⟨w.heap.size + 1 + 1, 1, none⟩ = some (.int .i64 0) := hC2.cell 1
              have c2 : w1.cell? ⟨w.heap.size + 1 + 1, 2, none⟩ = some (.bool false) := hC2.cell 2
              have c3 : w1.cell? ⟨w.heap.size + 1 + 1, 3, none⟩ = some (.string ⟨#[]⟩) := hC2.cell 3
              have c4 : w1.cell? ⟨w.heap.size + 1 + 1, 4, none⟩ = some (.int .i64 0) := hC2.cell 4
              have p0 := hC1.frozen 0
              have p1 := hC1.frozen 1
              have p2 := hC1.frozen 2
              have p3 := hC1.frozen 3
              have p4 := hC1.frozen 4
              have q0 := hC2.frozen 0
              have q1 := hC2.frozen 1
              have q2 := hC2.frozen 2
              have q3 := hC2.frozen 3
              have q4 := hC2.frozen 4
              have z0 := hC0.lt
              have z1 := hC1.lt
              have z2 := hC2.lt)
 have hb2 := hb.trans (hb1.mono hb.size)
 have d1 := ((((hC1.far (p := ⟨w.heap.size + 1 + 1, 0, none⟩) (by simp) (.int .i64 r)).far (p := ⟨w.heap.size + 1 + 1, 1, none⟩) (by simp) (.int .i64 c)).far (p := ⟨w.heap.size + 1 + 1, 2, none⟩) (by simp) (.bool d)).far (p := ⟨w.heap.size + 1 + 1, 3, none⟩) (by simp) (sv s)).far (p := ⟨w.heap.size + 1 + 1, 4, none⟩) (by simp) (.int .i64 x)
 have d2 := ((((d1.set_ 0 (.int .i64 r)).set_ 1 (.int .i64 c)).set_ 2 (.bool d)).set_ 3 (sv s)).set_ 4 (.int .i64 x)
 have hb3 := ((((hb2.setCell (p := ⟨w.heap.size + 1 + 1, 0, none⟩) (by simp; omega) (.int .i64 r)).setCell (p := ⟨w.heap.size + 1 + 1, 1, none⟩) (by simp; omega) (.int .i64 c)).setCell (p := ⟨w.heap.size + 1 + 1, 2, none⟩) (by simp; omega) (.bool d)).setCell (p := ⟨w.heap.size + 1 + 1, 3, none⟩) (by simp; omega) (sv s)).setCell (p := ⟨w.heap.size + 1 + 1, 4, none⟩) (by simp; omega) (.int .i64 x)
 have hb4 := ((((hb3.setCell (p := ⟨w.heap.size + 1, 0, none⟩) (by simp) (.int .i64 r)).setCell (p := ⟨w.heap.size + 1, 1, none⟩) (by simp) (.int .i64 c)).setCell (p := ⟨w.heap.size + 1, 2, none⟩) (by simp) (.bool d)).setCell (p := ⟨w.heap.size + 1, 3, none⟩) (by simp) (sv s)).setCell (p := ⟨w.heap.size + 1, 4, none⟩) (by simp) (.int .i64 x)
 exact ret_row (by rfl) (w.heap.size + 1) 72 #[.int .i64 r, .int .i64 c, .bool d, sv s, .int .i64 x] _ rfl d2 Tryz.underlying72 rfl (by kernel_rfl) rfl ⟨rfl, hb4⟩
def zeroMv : Mv := (⟨0, 0, false, []⟩, 0)
def copyM (ms : List Mv) (j : Nat) : List Value := mvsC (ms.take j) ++ mvsC (List.replicate (ms.length - j) zeroMv)
theorem copyM_length (ms : List Mv) (j : Nat) (h : j ≤ ms.length) : (copyM ms j).length = ms.length * 5 := by
 unfold copyM
 rw [List.length_append, mvsC_length, mvsC_length, List.length_take, List.length_replicate]
 omega
theorem copyM_step (ms : List Mv) (j : Nat) (h : j < ms.length) :
   (((((copyM ms j).set (j * 5) (.int .i64 ms[j].1.row)).set (j * 5 + 1) (.int .i64 ms[j].1.col)).set (j * 5 + 2) (.bool ms[j].1.down)).set (j * 5 + 3) (sv ms[j].1.word)).set (j * 5 + 4) (.int .i64 ms[j].2) = copyM ms (j + 1) := by
 unfold copyM
 have e : ms.length - j = (ms.length - (j + 1)) + 1 := by omega
 rw [e, List.replicate_succ, List.take_succ_eq_append_getElem h, mvsC_append, mvsC_one]
 show (((((mvsC (ms.take j) ++ (.int .i64 0 :: .int .i64 0 :: .bool false :: sv [] :: .int .i64 0 :: mvsC (List.replicate (ms.length - (j + 1)) zeroMv))).set (j * 5) _).set (j * 5 + 1) _).set (j * 5 + 2) _).set (j * 5 + 3) _).set (j * 5 + 4) _ = _
 rw [set5 _ _ _ _ _ _ _ _ _ _ _ _ (j * 5) (by rw [mvsC_length, List.length_take]; omega)]
 rw [List.append_assoc]
 rfl
theorem copyM_end (ms : List Mv) : copyM ms ms.length = mvsC ms := by
 unfold copyM
 rw [List.take_length, Nat.sub_self]
 simp [mvsC]
theorem copyM_start (ms : List Mv) : (madeCells (Value.agg #[.int .i64 0, .int .i64 0, .bool false, sv [], .int .i64 0]).cells (ms.length * 5)).toList = copyM ms 0 := by
 have e : copyM ms 0 = mvsC (List.replicate ms.length zeroMv) := by unfold copyM; simp [mvsC]
 rw [e]
 apply List.ext_getElem?
 intro i
 by_cases hi : i < ms.length * 5
 · have h1 : i / 5 < (List.replicate ms.length zeroMv).length := by rw [List.length_replicate]; omega
   have h2 : i = (i / 5) * 5 + i % 5 := by omega
   have hr : (mvsC (List.replicate ms.length zeroMv))[i]? = (mvC zeroMv)[i % 5]? := by
     conv => lhs; rw [h2]
     rw [mvsC_get _ _ _ h1 (by omega)]
     simp
   rw [hr]
   have hl : ((madeCells (Value.agg #[.int .i64 0, .int .i64 0, .bool false, sv [], .int .i64 0]).cells (ms.length * 5)).toList)[i]? = some ((#[Value.int .i64 0, .int .i64 0, .bool false, sv [], .int .i64 0] : Array Value)[i % 5]!) := by
     simp [madeCells, hi, Value.cells]
   rw [hl]
   have h5 : i % 5 < 5 := by omega
   generalize i % 5 = q at h5
   match q, h5 with
   | 0, _ => rfl
   | 1, _ => rfl
   | 2, _ => rfl
   | 3, _ => rfl
   | 4, _ => rfl
 · rw [List.getElem?_eq_none (by simp [size_madeCells]; omega), List.getElem?_eq_none (by rw [mvsC_length, List.length_replicate]; omega)]
theorem toMoveS_any (A : Option Addr) (c : Nat) (ms : List Mv) (w : World) (h : Reads w w.heap.size 5 A ms.length (mvsC ms)) (hf : 0 < ms.length → ∀ ad, A = some ad → ad = ⟨ad.block, ad.off, none⟩) (hn : ms.length ≤ 2 ^ 32) :
   Calls Tryz.prog 23 #[.slice A ms.length c] w fun e w' => ∃ v, e = .returned v ∧ w'.ownsRow w.heap.size 72 5 v ms.length (mvsC ms) ∧ Below w.heap.size w w' := by
 have hst := Lib.hid (copyM_step ms)
 have hen := Lib.hid (copyM_end ms)
 have hcl := Lib.hid (copyM_length ms)
 have hs0 := Lib.hid (copyM_start ms)
 have hi0 : (Tryz.prog.info? 72).map (fun i => (i.zero, i.size, i.bytes)) = some (some (.agg #[.int .i64 0, .int .i64 0, .bool false, sv [], .int .i64 0]), 5, 48) := by kernel_rfl
 obtain ⟨i, hi, hi2⟩ := Option.map_eq_some_iff.1 hi0
 simp only [Prod.mk.injEq] at hi2
 have hi1 : i.zero = some (.agg #[.int .i64 0, .int .i64 0, .bool false, sv [], .int .i64 0]) ∧ i.size = 5 ∧ i.bytes = 48 := hi2
 clear hi0 hi2
 have hmx : ms.length ≤ maxLen := by unfold maxLen; omega
 have hby : i.bytes * ms.length ≤ 281474976710656 := by rw [hi1.2.2]; omega
 go_enter Tryz.func23, Tryz.ntmps23
 go_wp2_with (refine wpList_make_full _ rfl (.tmp 6) (.tmp 6) 33 rfl w.heap.size 72 i (.agg #[.int .i64 0, .int .i64 0, .bool false, sv [], .int .i64 0]) 5 Tryz.underlying33 hi hi1.1 hi1.2.1 .i64 .i64 (ms.length : Int) (ms.length : Int) ms.length rfl rfl rfl rfl hby hmx (Nat.le_refl _) ?_; intro w1 own1 hg1)
 rw [hs0.out] at own1
 have hb1 : Below w.heap.size w w1 := ⟨hg1.os, hg1.tape, hg1.output, hg1.size, fun k hk => hg1.block k hk (by simp)⟩
 clear hs0 hi hi1 hmx hby hg1
 go_loopw [4] (fun i wr => ∃ j : Nat, j ≤ ms.length ∧ i = .int .i64 j ∧ wr.ownsRow w.heap.size 72 5 (.slice (some ⟨w.heap.size, 0, none⟩) ms.length ms.length) ms.length (copyM ms j) ∧ Below w.heap.size w wr) (fun i _ => ms.length - (intOf i).toNat)
 case atStart => exact ⟨0, by omega, rfl, own1, hb1⟩
 case round =>
   clear own1 hb1
   obtain ⟨j, hj, rfl, own, hb⟩ := hrel
   by_cases hjl : j < ms.length
   · have r1 := (h.below hb).more hb.size
     obtain ⟨ad1, e1, hd1, _⟩ := r1.2 (by omega)
     have hp1 := hf (by omega) ad1 e1
     obtain ⟨g, off, hgo⟩ : ∃ g off, ad1 = ⟨g, off, none⟩ := ⟨_, _, hp1⟩
     subst hgo
     subst e1
     obtain ⟨x0, x1, x2, x3, x4⟩ := r1.mv hjl
     have hstep := Lib.hid (hst.out j hjl)
     have km := fun w => toMove_any ms[j] w
     obtain ⟨x, hx⟩ : ∃ x, x = ms[j] := ⟨_, rfl⟩
     rw [← hx] at x0 x1 x2 x3 x4 km hstep
     clear hx r1 hp1
     obtain ⟨⟨xr, xc, xd, xw⟩, xx⟩ := x
     simp only [mvV] at km x0 x1 x2 x3 x4 hstep
     have hjj : (j : Int) < (ms.length : Int) := by omega
     have hj0 : (0 : Int) ≤ (j : Int) := by omega
     have hyl := hcl.out j hj
     obtain ⟨Y, hY⟩ : ∃ Y, Y = copyM ms j := ⟨_, rfl⟩
     rw [← hY] at hstep own hyl
     clear hY
     go_wp2_with (go_at_call 43; refine (km _).mono ?_; rintro e w5 ⟨rfl, hb5⟩
                  have own5 := own_call own hb5
                  have d0 : w5.cell? ⟨w.heap.size, j * 5, none⟩ = some _ := (own5.cellAt (j * 5) (by omega)).trans (List.getElem?_eq_getElem (by omega))
                  have d1 : w5.cell? ⟨w.heap.size, j * 5 + 1, none⟩ = some _ := (own5.cellAt (j * 5 + 1) (by omega)).trans (List.getElem?_eq_getElem (by omega))
                  have d2 : w5.cell? ⟨w.heap.size, j * 5 + 2, none⟩ = some _ := (own5.cellAt (j * 5 + 2) (by omega)).trans (List.getElem?_eq_getElem (by omega))
                  have d3 : w5.cell? ⟨w.heap.size, j * 5 + 3, none⟩ = some _ := (own5.cellAt (j * 5 + 3) (by omega)).trans (List.getElem?_eq_getElem (by omega))
                  have d4 : w5.cell? ⟨w.heap.size, j * 5 + 4, none⟩ = some _ := (own5.cellAt (j * 5 + 4) (by omega)).trans (List.getElem?_eq_getElem (by omega))
                  have f0 := own5.frozenAt (j * 5)
                  have f1 := own5.frozenAt (j * 5 + 1)
                  have f2 := own5.frozenAt (j * 5 + 2)
                  have f3 := own5.frozenAt (j * 5 + 3)
                  have f4 := own5.frozenAt (j * 5 + 4))
     have hs := ((((own5.stored (j * 5) (.int .i64 xr)).1.stored (j * 5 + 1) (.int .i64 xc)).1.stored (j * 5 + 2) (.bool xd)).1.stored (j * 5 + 3) (sv xw)).1.stored (j * 5 + 4) (.int .i64 xx)
     have hs := hs.1
     rw [hstep.out] at hs
     have hb6 := hb.trans (hb5.mono hb.size)
     have hb7 := ((((hb6.setCell (p := ⟨w.heap.size, j * 5, none⟩) (Nat.le_refl _) (.int .i64 xr)).setCell (p := ⟨w.heap.size, j * 5 + 1, none⟩) (Nat.le_refl _) (.int .i64 xc)).setCell (p := ⟨w.heap.size, j * 5 + 2, none⟩) (Nat.le_refl _) (.bool xd)).setCell (p := ⟨w.heap.size, j * 5 + 3, none⟩) (Nat.le_refl _) (sv xw)).setCell (p := ⟨w.heap.size, j * 5 + 4, none⟩) (Nat.le_refl _) (.int .i64 xx)
     go_roundw
     case rel => exact ⟨j + 1, by omega, by go_num, hs, hb7⟩
     case measure => simp only [intOf]; omega
   · obtain rfl : j = ms.length := by omega
     rw [hen.out] at own
     go_wp2_with (fail)
     go_ret
     exact ⟨_, rfl, own, hb⟩
def T4c (B n : Nat) (V : List Value) (t : TS) (e : TypeId) (size m : Nat) (C : Int) (xs : List Value) (k : Nat) (ys : List Value) : Nat → Option (Value → World → Prop) := fun i =>
 match i with
 | 1 => some (PLx B n V)
 | 3 => some (PTs B t)
 | 8 => some (PAs B e size k ys)
 | 9 => some (PRs B e size m C xs)
 | 10 => some (PRs B e size m C xs)
 | 11 => some (PAs B e size m xs)
 | 13 => some (PAs B e size m xs)
 | _ => none
def T2c (B : Nat) (e : TypeId) (size m : Nat) (C : Int) (xs : List Value) : Nat → Option (Value → World → Prop) := fun i =>
 match i with
 | 6 => some (PRs B e size m C xs)
 | 7 => some (PRs B e size m C xs)
 | 8 => some (PAs B e size m xs)
 | 10 => some (PAs B e size m xs)
 | _ => none
theorem T4c.stab {B n : Nat} {V : List Value} {t : TS} {e : TypeId} {size m : Nat} {C : Int} {xs : List Value} {k : Nat} {ys : List Value} : StabX (T4c B n V t e size m C xs k ys) := by
 intro i P h u w w' hP hb
 unfold T4c at h
 split at h <;> first | (injection h with h; subst h; first | exact PLx.st hP hb | exact PTs.st hP hb | exact PRs.st hP hb | exact PAs.st hP hb) | cases h
theorem T2c.stab {B : Nat} {e : TypeId} {size m : Nat} {C : Int} {xs : List Value} : StabX (T2c B e size m C xs) := by
 intro i P h u w w' hP hb
 unfold T2c at h
 split at h <;> first | (injection h with h; subst h; first | exact PRs.st hP hb | exact PAs.st hP hb) | cases h
theorem MissPost.ans {w w' : World} {t : TS} {b : Bd} {ws : List Str} {rack : Str} {list : List Mv} {e : Ending} (h : MissPost w t b ws rack list e w') :
   ∃ v, e = .returned (.tuple #[v, .int .i64 (movesCode t b ws rack)]) ∧ w'.ownsRow w.heap.size 72 5 v (ansM (movesCode t b ws rack) (outM list (movesL t b ws rack))).length (mvsC (ansM (movesCode t b ws rack) (outM list (movesL t b ws rack)))) ∧ Below w.heap.size w w' := by
 obtain ⟨v, h1, h2, h3, h4⟩ := h
 refine ⟨v, h1, ?_, h4⟩
 unfold ansM
 by_cases hc : movesCode t b ws rack = 0
 · rw [if_pos hc]; exact h2 hc
 · rw [if_neg hc, h3 hc]
   exact ⟨rfl, .inl ⟨rfl, rfl⟩⟩
theorem ansO_len (t : TS) (b : Bd) (ws : List Str) (rack : Str) (list : List Mv) : (ansM (movesCode t b ws rack) (outM list (movesL t b ws rack))).length ≤ 400 := by
 unfold ansM
 split
 · rename_i h0
   exact Nat.le_trans (outM_length _ _) (moves_400 h0)
 · simp
end Go.Proofs.YtohopceknpgcnaaGreatDoor
