/-
  Contracts: the factor of a word, the premiums of the new squares (layer 13 of the impl package); Contract: the scores of the letters of a play (layer 13 of the impl package); Plain bounds: the scores of words by directions.
  Conditions: at most 15 premiums; a valid board; all squares of the play are on the board; a valid board and a valid tile set; all squares of the play are on the board; a valid tile set; at most 15 letters.
-/
import Derived.Test.YtdkckikobefekaaGreatDoorM15
import Derived.Test.YtdkckikobefekaaGreatDoorM25
import Derived.Test.YtdkckikobefekaaGreatDoorM19
import Derived.Test.YtdkckikobefekaaGreatDoorM20
namespace Go.Proofs.YtdkckikobefekaaGreatDoor
open Go.RowKit RegP RegL RegV
set_option maxHeartbeats 4000000
set_option maxRecDepth 100000
theorem wordFactor_any (A : Option Addr) (c : Nat) (l : Str) (w : World) (hr : Reads w w.heap.size 1 A l.length (l.map bv)) (hl : l.length ≤ 15) :
   Calls Tryz.prog 241 #[.slice A l.length c] w fun e w' => e = .returned (.int .i64 (wfL l)) ∧ w = w' := by
 have hb := fun k => wfL_bd hl k
 have hst := fun k (h : k < l.length) => wfL_step h
 have h0 : wfL (l.take 0) = 1 := rfl
 have hend : wfL (l.take l.length) = wfL l := by rw [List.take_length]
 obtain ⟨F, hF⟩ : ∃ F : Nat → Int, F = fun k => wfL (l.take k) := ⟨_, rfl⟩
 have hF' : ∀ k, wfL (l.take k) = F k := fun k => by rw [hF]
 simp only [hF'] at hb hst h0 hend
 rw [← hend]
 have hb' := Lib.hid hb
 have hst' := Lib.hid hst
 have h0' := Lib.hid h0
 clear hF hF' hb hst hend h0
 go_enter Tryz.func241, Tryz.ntmps241
 go_wp2_with (fail)
 go_loop [2, 7] (fun f i => ∃ k : Nat, k ≤ l.length ∧ i = .int .i64 k ∧ f = .int .i64 (F k)) (fun _ i => l.length - (intOf i).toNat)
 case atStart => exact ⟨0, by omega, rfl, by rw [h0'.out]⟩
 case round =>
   obtain ⟨k, hk, rfl, rfl⟩ := hrel
   obtain ⟨f1, f2⟩ := hb'.out k
   by_cases hkl : k < l.length
   · obtain ⟨ad, rfl, hadb, hc3⟩ := hr.el hkl
     have hsm := Lib.hid (hst'.out k hkl)
     have hkk : (k : Int) < (l.length : Int) := by omega
     obtain ⟨p, hp⟩ : ∃ p, p = l[k] := ⟨_, rfl⟩
     rw [← hp] at hsm hc3
     clear hp
     have hc3' : w.cell? (ad.add k) = some (.int .u8 p.toNat) := hc3
     clear hc3
     by_cases hd : p = 100
     · subst hd
       have hsm : Hid (F (k + 1) = F k * 2) := Lib.hid (by rw [hsm.out]; rfl)
       obtain ⟨S, hS⟩ : ∃ S, S = F k := ⟨_, rfl⟩
       rw [← hS] at f1 f2 hsm
       simp only [← hS]
       clear hS
       go_wp2_with (fail)
       go_round
       case rel => exact ⟨k + 1, by omega, by go_num, vi_eq (by rw [hsm.out])⟩
       case measure => simp [intOf]; omega
     · have q1 : ((p.toNat : Int) == 100) = false := by
         have : ¬ p.toNat = 100 := fun e => hd (UInt8.toNat_inj.1 e)
         simp; omega
       by_cases ht : p = 116
       · subst ht
         have hsm : Hid (F (k + 1) = F k * 3) := Lib.hid (by rw [hsm.out]; rfl)
         obtain ⟨S, hS⟩ : ∃ S, S = F k := ⟨_, rfl⟩
         rw [← hS] at f1 f2 hsm
         simp only [← hS]
         clear hS
         go_wp2_with (fail)
         go_round
         case rel => exact ⟨k + 1, by omega, by go_num, vi_eq (by rw [hsm.out])⟩
         case measure => simp [intOf]; omega
       · have q2 : ((p.toNat : Int) == 116) = false := by
           have : ¬ p.toNat = 116 := fun e => ht (UInt8.toNat_inj.1 e)
           simp; omega
         have hsm : Hid (F (k + 1) = F k) := Lib.hid (by
           rw [hsm.out]
           have e1 : (p == 100) = false := by simpa using hd
           have e2 : (p == 116) = false := by simpa using ht
           unfold wdF
           rw [e1, e2]
           simp)
         obtain ⟨S, hS⟩ : ∃ S, S = F k := ⟨_, rfl⟩
         rw [← hS] at f1 f2 hsm
         simp only [← hS]
         clear hS
         go_wp2_with (fail)
         go_round
         case rel => exact ⟨k + 1, by omega, by go_num, vi_eq (by rw [hsm.out])⟩
         case measure => simp [intOf]; omega
   · obtain rfl : k = l.length := by omega
     have hlt' : ¬ (l.length : Int) < (l.length : Int) := by omega
     go_wp2_with (fail)
     go_ret
     exact ⟨rfl, rfl⟩
theorem pusI_length (b : Bd) (q : Pl) : (pusI b q).length = (newL b q).length := List.length_map ..
theorem premiumsUsed_any (b : Bd) (q : Pl) (w : World) (hf : b.Fit) (ha : asciiB q.word = true) (hon : OnQ b q) (hl : q.word.length ≤ 2 ^ 32) (h1 : -400000000000 ≤ q.row) (h2 : q.row ≤ 400000000000) (h3 : -400000000000 ≤ q.col) (h4 : q.col ≤ 400000000000) :
   Calls Tryz.prog 242 #[b.v, q.v] w fun e w' => ∃ v, e = .returned v ∧ w'.ownsRow w.heap.size 5 1 v (pusI b q).length ((pusI b q).map bv) ∧ Below w.heap.size w w' := by
 have kn := fun w => newSquares_any b q w hf ha hl h1 h2 h3 h4
 have kp := fun (i : Nat) (h : i < q.word.length) (w : World) => premium_any b (q.sr i) (q.sc i) w hf (hon i h)
 have hNl := newTo_length b q q.word.length
 change (newL b q).length ≤ _ at hNl
 have hNx := newTo_lt b q q.word.length
 change ∀ x ∈ newL b q, _ at hNx
 have hPl := pusI_length b q
 have hPk : Hid (∀ k (h : k < (newL b q).length), (pusI b q).take (k + 1) = (pusI b q).take k ++ [b.prm (q.sr (newL b q)[k]) (q.sc (newL b q)[k])]) := Lib.hid (fun k h => by
   have hlt : k < (pusI b q).length := by rw [hPl]; exact h
   rw [List.take_succ_eq_append_getElem hlt]
   simp [pusI])
 have hSk : Hid (∀ k (h : k < (newL b q).length) (h' : k < (sqL q (newL b q)).length), (sqL q (newL b q))[k] = (q.sr (newL b q)[k], q.sc (newL b q)[k])) := Lib.hid (fun k h h' => by simp [sqL])
 have hSl : (sqL q (newL b q)).length = (newL b q).length := by simp [sqL]
 obtain ⟨NL, hNL⟩ : ∃ NL, NL = newL b q := ⟨_, rfl⟩
 obtain ⟨PI, hPI⟩ : ∃ PI, PI = pusI b q := ⟨_, rfl⟩
 rw [← hNL] at kn hNl hNx hPl hSl hPk hSk
 rw [← hPI] at hPl hPk ⊢
 have hPl' := Lib.hid hPl
 clear hNL hPI h1 h2 h3 h4 ha hon hf hPl
 have kp' := Lib.hid kp
 clear kp
 obtain ⟨SQ, hSQ⟩ : ∃ SQ, SQ = sqL q NL := ⟨_, rfl⟩
 rw [← hSQ] at kn hSl hSk
 clear hSQ
 obtain ⟨sz, bp, bc⟩ := b
 obtain ⟨SR, hSR⟩ : ∃ SR, SR = q.sr := ⟨_, rfl⟩
 obtain ⟨SC, hSC⟩ : ∃ SC, SC = q.sc := ⟨_, rfl⟩
 rw [← hSR] at hPk hSk kp'
 rw [← hSC] at hPk hSk kp'
 clear hSR hSC
 obtain ⟨qr, qc, qd, qw⟩ := q
 simp only [Bd.v, Pl.v] at *
 have hB0 := (Blk.new w 41 #[.int .i64 sz, sv bp, sv bc]).alloc (.cells #[.int .i64 qr, .int .i64 qc, .bool qd, sv qw] 61)
 have hbW := ((Below.refl w.heap.size w).alloc (Nat.le_refl _) (.cells #[.int .i64 sz, sv bp, sv bc] 41)).alloc (by simp) (.cells #[.int .i64 qr, .int .i64 qc, .bool qd, sv qw] 61)
 go_enter Tryz.func242, Tryz.ntmps242
 go_wp2_with (go_at_call 157; refine (kn _).mono ?_; rintro e w1 ⟨v1, v2, rfl, own1, own2, hb1⟩; obtain ⟨A1, c1, rfl, hc1, hr1, hf1⟩ := own_form own1)
 have hw1 := hbW.trans (hb1.mono hbW.size)
 have hB1 := hB0.below hb1 hB0.lt
 have own0 := World.ownsRow_lit (base := w1.heap.size) (size := 1) (e := 5) w1 #[] 0 (Nat.le_refl _) (by unfold maxLen; omega) rfl
 have hbL := (Below.refl w1.heap.size w1).alloc (Nat.le_refl _) (.cells #[] 5)
 clear hB0 hbW hb1 own1 own2 kn
 go_loopw [7, 19] (fun o i wr => ∃ k : Nat, k ≤ NL.length ∧ i = .int .i64 k ∧ wr.ownsRow w1.heap.size 5 1 o k ((PI.take k).map bv) ∧ Below w1.heap.size w1 wr) (fun _ i _ => NL.length - (intOf i).toNat)
 case atStart => exact ⟨0, by omega, rfl, own0, hbL⟩
 case round =>
   clear own0 hbL
   obtain ⟨k, hk, rfl, own3, hbr⟩ := hrel
   by_cases hkl : k < NL.length
   · have hkk : (k : Int) < (NL.length : Int) := by omega
     have hr3 := (hr1.below hbr).more hbr.size
     have hx := hNx NL[k] (List.getElem_mem _)
     have hstep := Lib.hid (hPk.out k hkl)
     have hsk := hSk.out k hkl (by omega)
     have kpx := kp'.out NL[k] hx
     obtain ⟨x, hxx⟩ : ∃ x, x = NL[k] := ⟨_, rfl⟩
     rw [← hxx] at hx hstep hsk kpx
     clear hxx
     obtain ⟨ad2, rfl, hadb, _⟩ := hr3.2 (by omega)
     obtain ⟨g, rfl⟩ := hf1 ad2 rfl
     rw [← hSl] at hr3
     obtain ⟨e0, e1⟩ := hr3.sq (k := k) (by omega)
     simp only [Nat.zero_add, hsk] at e0 e1
     clear hsk hr3
     have hgz : g < wr.heap.size := by simp at hadb; have := hbr.size; omega
     have hBr := hB1.below hbr hB1.lt
     have hBz := hBr.lt
     have c0 : wr.cell? ⟨w.heap.size, 0, none⟩ = some (.int .i64 sz) := hBr.cell 0
     have c1 : wr.cell? ⟨w.heap.size, 1, none⟩ = some (sv bp) := hBr.cell 1
     have c2 : wr.cell? ⟨w.heap.size, 2, none⟩ = some (sv bc) := hBr.cell 2
     obtain ⟨sr, hsr⟩ : ∃ sr, sr = SR x := ⟨_, rfl⟩
     obtain ⟨sc, hsc⟩ : ∃ sc, sc = SC x := ⟨_, rfl⟩
     rw [← hsr, ← hsc] at kpx hstep
     rw [← hsr] at e0
     rw [← hsc] at e1
     clear hsr hsc
     obtain ⟨ch, hch⟩ : ∃ ch, ch = Bd.prm ⟨sz, bp, bc⟩ sr sc := ⟨_, rfl⟩
     rw [← hch] at kpx hstep
     clear hch
     have hbs := hbr.size
     go_wp2_with (first
       | (go_at_call 243; refine (kpx _).mono ?_; rintro e w5 ⟨rfl, hb5⟩
          have hbi5 := (hbr.alloc hbs (.cells #[.int .i64 sr, .int .i64 sc] 229)).trans (hb5.mono (by simp; omega))
          have own15 := own_call own3 (((Below.refl _ _).alloc (Nat.le_refl _) (.cells #[.int .i64 sr, .int .i64 sc] 229)).trans (hb5.mono (by simp))))
       | (at_builtin; refine wpList_app byteT rfl (.tmp 23) (.tmp 30) rfl _ k _ rfl w1.heap.size own15 [bv ch] rfl (by simp [Value.oneCell']) rfl (by omega) (by omega) hbi5.size ?_; intro v6 w6 own6 hg6 hat6))
     go_roundw
     case rel => exact ⟨k + 1, by omega, by go_num, own_cast own6 (by rw [hstep.out]; simp) rfl, Below.own hbi5 hbi5.size own15 (Nat.le_refl _) hg6⟩
     case measure => simp [intOf]; omega
   · obtain rfl : k = NL.length := by omega
     have hlt' : ¬ (NL.length : Int) < (NL.length : Int) := by omega
     go_wp2_with (fail)
     go_ret
     exact ⟨_, rfl, own_cast (own_base own3 hw1.size) (by rw [← hPl'.out, List.take_length]) hPl'.out.symm, hw1.trans (hbr.mono hw1.size)⟩
set_option maxHeartbeats 1000000
theorem lsI_length (t : TS) (b : Bd) (q : Pl) : (lsI t b q).length = q.word.length := by simp [lsI]
theorem letterScores_any (t : TS) (A1 A2 : Option Addr) (c1 c2 : Nat) (b : Bd) (q : Pl) (w : World) (hi : TsIn w t A1 A2) (ho : TsOk t) (hf : b.Fit) (ha : asciiB q.word = true) (hon : OnQ b q) (hl : q.word.length ≤ 2 ^ 32) (h1 : -400000000000 ≤ q.row) (h2 : q.row ≤ 400000000000) (h3 : -400000000000 ≤ q.col) (h4 : q.col ≤ 400000000000) :
   Calls Tryz.prog 240 #[t.v A1 c1 A2 c2, b.v, q.v] w fun e w' => ∃ v, e = .returned v ∧ w'.ownsRow w.heap.size 2 1 v (lsI t b q).length ((lsI t b q).map xv) ∧ Below w.heap.size w w' := by
 have ksq := fun (n : Nat) (h : n < q.word.length) (w : World) => square_any q n w (by omega) (by omega) (by omega) (by omega) (by omega) (by omega)
 have ksq := fun (n : Nat) (h : n < q.word.length) (w : World) => ksq n h w
 have kon := fun (r c : Int) (w : World) => on_any b r c w hf
 have kpr := fun (i : Nat) (h : i < q.word.length) (w : World) => premium_any b (q.sr i) (q.sc i) w hf (hon i h)
 have kls := fun (l p : UInt8) (w : World) (h : TsIn w t A1 A2) => letterScore_any t A1 A2 c1 c2 l p w h ho
 have hasc : ∀ (k : Nat) (h : k < q.word.length), (q.word[k]).toNat < 128 := fun k h => by
   have := List.all_eq_true.1 ha _ (List.getElem_mem h)
   simpa using this
 have hLl := lsI_length t b q
 have hst : ∀ (k : Nat) (h : k < q.word.length), (lsI t b q).take (k + 1) = (lsI t b q).take k ++ [if b.let_ (q.sr k) (q.sc k) then valT t q.word[k] else ltF (b.prm (q.sr k) (q.sc k)) * valT t q.word[k]] := fun k h => by
   have hlt : k < (lsI t b q).length := by rw [hLl]; exact h
   rw [List.take_succ_eq_append_getElem hlt]
   simp [lsI, List.getD_eq_getElem?_getD, List.getElem?_eq_getElem h]
 obtain ⟨F, hF⟩ : ∃ F : Nat → List Int, F = fun k => (lsI t b q).take k := ⟨_, rfl⟩
 have hF0 : Hid (F 0 = []) := Lib.hid (by rw [hF]; rfl)
 have hFe : Hid (F q.word.length = lsI t b q) := Lib.hid (by rw [hF, ← hLl]; simp)
 have hFs : Hid (∀ (k : Nat) (h : k < q.word.length), F (k + 1) = F k ++ [if b.let_ (q.sr k) (q.sc k) then valT t q.word[k] else ltF (b.prm (q.sr k) (q.sc k)) * valT t q.word[k]]) := Lib.hid (fun k h => by rw [hF]; exact hst k h)
 have hLl' := Lib.hid hLl
 obtain ⟨LS, hLS⟩ : ∃ LS, LS = lsI t b q := ⟨_, rfl⟩
 rw [← hLS] at hFe hLl' ⊢
 have hasc' := Lib.hid hasc
 have ksq' := Lib.hid ksq
 have kpr' := Lib.hid kpr
 clear hLS hF hst hasc ksq kpr ha hon hLl ho hf h1 h2 h3 h4
 obtain ⟨SR, hSR⟩ : ∃ SR, SR = q.sr := ⟨_, rfl⟩
 obtain ⟨SC', hSC⟩ : ∃ SC', SC' = q.sc := ⟨_, rfl⟩
 simp only [sqV] at *
 rw [← hSR] at hFs ksq' kpr'
 rw [← hSC] at hFs ksq' kpr'
 clear hSR hSC
 obtain ⟨sz, bp, bc⟩ := b
 obtain ⟨qr, qc, qd, qw⟩ := q
 simp only [Bd.v, Pl.v, TS.v] at *
 obtain ⟨W, hW⟩ : ∃ W, W = ((((w.alloc (.cells #[sv t.letters, .slice A1 t.values.length c1, .slice A2 t.counts.length c2, .int .i64 t.blanks] 39)).alloc (.cells #[.int .i64 sz, sv bp, sv bc] 41)).alloc (.cells #[.int .i64 qr, .int .i64 qc, .bool qd, sv qw] 61)).alloc (.cells #[] 2)).iter ⟨qw.toArray⟩ 0 := ⟨_, rfl⟩
 have hBT : Blk W w.heap.size 39 #[sv t.letters, .slice A1 t.values.length c1, .slice A2 t.counts.length c2, .int .i64 t.blanks] := by rw [hW]; exact ((((Blk.new w _ _).alloc _).alloc _).alloc _).alloc _
 have hBB : Blk W (w.heap.size + 1) 41 #[.int .i64 sz, sv bp, sv bc] := by rw [hW]; exact (((Blk.new1 w _ _ _).alloc _).alloc _).alloc _
 have hBP : Blk W (w.heap.size + 1 + 1) 61 #[.int .i64 qr, .int .i64 qc, .bool qd, sv qw] := by rw [hW]; exact ((Blk.new2 w _ _ _ _).alloc _).alloc _
 have hbW : Below w.heap.size w W := by rw [hW]; exact (((((Below.refl _ _).alloc (Nat.le_refl _) _).alloc (by simp) _).alloc (by simp; omega) _).alloc (by simp; omega) _).alloc (by simp; omega) _
 have own1 : W.ownsRow w.heap.size 2 1 (.slice (some ⟨w.heap.size + 1 + 1 + 1, 0, none⟩) 0 0) 0 ((F 0).map xv) := by
   rw [hF0.out, hW]
   have := World.ownsRow_lit (base := w.heap.size) (size := 1) (e := 2) (((w.alloc (.cells #[sv t.letters, .slice A1 t.values.length c1, .slice A2 t.counts.length c2, .int .i64 t.blanks] 39)).alloc (.cells #[.int .i64 sz, sv bp, sv bc] 41)).alloc (.cells #[.int .i64 qr, .int .i64 qc, .bool qd, sv qw] 61)) #[] 0 (by simp; omega) (by unfold maxLen; omega) rfl
   have h2 := this.alloc (.stringIter ⟨qw.toArray⟩ 0)
   simp only [World.iter]
   show World.ownsRow _ _ _ _ _ _ []
   simpa using h2
 have hit : W.heap[w.heap.size + 1 + 1 + 1 + 1]? = some (.stringIter ⟨qw.toArray⟩ 0) := by
   rw [hW]
   have := World.iter_heap ((((w.alloc (.cells #[sv t.letters, .slice A1 t.values.length c1, .slice A2 t.counts.length c2, .int .i64 t.blanks] 39)).alloc (.cells #[.int .i64 sz, sv bp, sv bc] 41)).alloc (.cells #[.int .i64 qr, .int .i64 qc, .bool qd, sv qw] 61)).alloc (.cells #[] 2)) ⟨qw.toArray⟩ 0
   simpa using this
 go_enter Tryz.func240, Tryz.ntmps240
 go_wp2_with (fail)
 rw [← hW]
 clear hW
 go_loopw [7] (fun o wr => ∃ k : Nat, k ≤ qw.length ∧ wr.heap[w.heap.size + 1 + 1 + 1 + 1]? = some (.stringIter ⟨qw.toArray⟩ k) ∧ wr.ownsRow w.heap.size 2 1 o k ((F k).map xv) ∧ Blk wr w.heap.size 39 #[sv t.letters, .slice A1 t.values.length c1, .slice A2 t.counts.length c2, .int .i64 t.blanks] ∧ Blk wr (w.heap.size + 1) 41 #[.int .i64 sz, sv bp, sv bc] ∧ Blk wr (w.heap.size + 1 + 1) 61 #[.int .i64 qr, .int .i64 qc, .bool qd, sv qw] ∧ Below w.heap.size w wr) (fun _ wr => qw.length - wr.iterPos (w.heap.size + 1 + 1 + 1 + 1))
 case atStart => exact ⟨0, by omega, hit, own1, hBT, hBB, hBP, hbW⟩
 case round =>
   clear hit own1 hBT hBB hBP hbW hF0
   obtain ⟨k, hk, hit, own1, hBT, hBB, hBP, hb⟩ := hrel
   by_cases hlt : k < qw.length
   · have hnx : ∀ ty, (Instr.next (.pointer (some ⟨w.heap.size + 1 + 1 + 1 + 1, 0, none⟩)) true ty).run Tryz.prog wr = .ok (.tuple #[.bool true, .int .i64 k, .int .i32 (qw[k]).toNat]) (wr.iterAt (w.heap.size + 1 + 1 + 1 + 1) ⟨qw.toArray⟩ (k + 1)) := fun ty =>
       Lib.run_next_ascii_at wr _ ⟨qw.toArray⟩ k ty hit (by simpa [ByteArray.size] using hlt) (hasc'.out k hlt)
     obtain ⟨W1, hW1⟩ : ∃ W1, W1 = wr.iterAt (w.heap.size + 1 + 1 + 1 + 1) ⟨qw.toArray⟩ (k + 1) := ⟨_, rfl⟩
     have own1' := own_iterAt (pos' := k + 1) own1 hit
     rw [← hW1] at own1'
     have hBT' : Blk W1 w.heap.size 39 #[sv t.letters, .slice A1 t.values.length c1, .slice A2 t.counts.length c2, .int .i64 t.blanks] := by rw [hW1]; exact hBT.iterAt hit
     have hBB' : Blk W1 (w.heap.size + 1) 41 #[.int .i64 sz, sv bp, sv bc] := by rw [hW1]; exact hBB.iterAt hit
     have hBP' : Blk W1 (w.heap.size + 1 + 1) 61 #[.int .i64 qr, .int .i64 qc, .bool qd, sv qw] := by rw [hW1]; exact hBP.iterAt hit
     have hit' : W1.heap[w.heap.size + 1 + 1 + 1 + 1]? = some (.stringIter ⟨qw.toArray⟩ (k + 1)) := by rw [hW1]; exact Lib.iterAt_heap wr _ _ k _ hit
     have hb' : Below w.heap.size w W1 := by rw [hW1]; exact Lib.below_iterAt hb (by omega) _ _
     rw [← hW1] at hnx
     clear hW1 own1 hBT hBB hBP hb
     have ks := ksq'.out k hlt
     have kp := kpr'.out k hlt
     have hstep := Lib.hid (hFs.out k hlt)
     obtain ⟨sr, hsr⟩ : ∃ sr, sr = SR k := ⟨_, rfl⟩
     obtain ⟨sc, hsc⟩ : ∃ sc, sc = SC' k := ⟨_, rfl⟩
     rw [← hsr, ← hsc] at ks kp hstep
     clear hsr hsc
     have ko := fun w => kon sr sc w
     obtain ⟨lt, hlt2⟩ : ∃ lt, lt = Bd.let_ ⟨sz, bp, bc⟩ sr sc := ⟨_, rfl⟩
     rw [← hlt2] at ko hstep
     clear hlt2
     obtain ⟨pr, hpr⟩ : ∃ pr, pr = Bd.prm ⟨sz, bp, bc⟩ sr sc := ⟨_, rfl⟩
     rw [← hpr] at kp hstep
     clear hpr
     obtain ⟨V, hV⟩ : ∃ V, V = valT t qw[k] := ⟨_, rfl⟩
     rw [← hV] at hstep
     have hk1 : (k : Int) < (qw.length : Int) := by omega
     have hk0 : (0 : Int) ≤ (k : Int) := by omega
     have d0 : W1.cell? ⟨w.heap.size + 1 + 1, 0, none⟩ = some (.int .i64 qr) := hBP'.cell 0
     have d1 : W1.cell? ⟨w.heap.size + 1 + 1, 1, none⟩ = some (.int .i64 qc) := hBP'.cell 1
     have d2 : W1.cell? ⟨w.heap.size + 1 + 1, 2, none⟩ = some (.bool qd) := hBP'.cell 2
     have d3 : W1.cell? ⟨w.heap.size + 1 + 1, 3, none⟩ = some (sv qw) := hBP'.cell 3
     cases lt
     · have kx := fun w h => kls qw[k] pr w h
       rw [← hV] at kx
       obtain ⟨X, hX⟩ : ∃ X, X = ltF pr * V := ⟨_, rfl⟩
       rw [← hX] at kx hstep
       have hXb : X = X := rfl
       have hst2 : Hid (F (k + 1) = F k ++ [X]) := Lib.hid (by rw [hstep.out]; rfl)
       clear hstep hX hV kls hXb
       go_wp2_with (first
         | (go_at_call 169; refine (ks _).mono ?_; rintro e w2 ⟨rfl, hb2⟩
            have hBB2 := hBB'.below hb2 hBB'.lt
            have cb0 : w2.cell? ⟨w.heap.size + 1, 0, none⟩ = some (.int .i64 sz) := hBB2.cell 0
            have cb1 : w2.cell? ⟨w.heap.size + 1, 1, none⟩ = some (sv bp) := hBB2.cell 1
            have cb2 : w2.cell? ⟨w.heap.size + 1, 2, none⟩ = some (sv bc) := hBB2.cell 2
            have hlt0 := hBB2.lt
            have hne0 : w.heap.size + 1 ≠ w2.heap.size := by omega)
         | (go_at_call 232; refine (ko _).mono ?_; rintro e w3 ⟨rfl, hb3⟩
            have hb23 := (hb2.alloc hb2.size (.cells #[.int .i64 sr, .int .i64 sc] 229)).trans (hb3.mono (by have := hb2.size; simp; omega))
            have hC := (Blk.new w2 229 #[.int .i64 sr, .int .i64 sc]).below hb3 (by simp)
            have e0 : w3.cell? ⟨w2.heap.size, 0, none⟩ = some (.int .i64 sr) := hC.cell 0
            have e1 : w3.cell? ⟨w2.heap.size, 1, none⟩ = some (.int .i64 sc) := hC.cell 1
            have hBB3 := hBB'.below hb23 hBB'.lt
            have b0 : w3.cell? ⟨w.heap.size + 1, 0, none⟩ = some (.int .i64 sz) := hBB3.cell 0
            have b1 : w3.cell? ⟨w.heap.size + 1, 1, none⟩ = some (sv bp) := hBB3.cell 1
            have b2 : w3.cell? ⟨w.heap.size + 1, 2, none⟩ = some (sv bc) := hBB3.cell 2)
         | (go_at_call 243; refine (kp _).mono ?_; rintro e w4 ⟨rfl, hb4⟩
            have hb34 := hb23.trans (hb4.mono hb23.size)))
       obtain ⟨wx, hwx⟩ : ∃ wx, wx = w4 := ⟨_, rfl⟩
       rw [← hwx] at hb34 ⊢
       have hown := own_call own1' hb34
       have hBTx := hBT'.below hb34 hBT'.lt
       have hBBx := hBB'.below hb34 hBB'.lt
       have hBPx := hBP'.below hb34 hBP'.lt
       have hitx := iter_below hit' hb34
       have hbl := hb'.trans (hb34.mono hb'.size)
       skip
       refine wp_region_v 10 10 (SC 8 9 [1, 3, 7] wx (.cells #[.int .i64 X] 2) (fun u w' => ∃ w1, Below wx.heap.size wx w1 ∧ w'.ownsRow w.heap.size 2 1 u (k + 1) ((F k).map xv ++ [.int .i64 X]) ∧ w1.grownBy w' (u7).ownBlock)) (by kernel_rfl) (by kernel_rfl) ⟨fun _ => undef, SC.start⟩ ?_
       simp only [qqT, List.take_zero, qqD, List.drop_zero]
       apply pv_step (fun _ => rfl)
       · intro σ L w' hS h1 h2 K hK
         clear h2
         go_wp2
         exact hS.keep (by decide) (by decide)
       simp only [Act.put, qqS, qqC, qqZ]
       apply pv_step (fun _ => rfl)
       · intro σ L w' hS h1 h2 K hK
         clear h2
         have f := hBTx.below (hS.low (by decide) h1) hBTx.lt
         have f0 : w'.cell? ⟨w.heap.size, 0, none⟩ = some (sv t.letters) := f.cell 0
         have f1 : w'.cell? ⟨w.heap.size, 1, none⟩ = some (.slice A1 t.values.length c1) := f.cell 1
         have f2 : w'.cell? ⟨w.heap.size, 2, none⟩ = some (.slice A2 t.counts.length c2) := f.cell 2
         have f3 : w'.cell? ⟨w.heap.size, 3, none⟩ = some (.int .i64 t.blanks) := f.cell 3
         go_wp2
         exact hS.keep (by decide) (by decide)
       simp only [Act.put, qqS, qqC, qqZ]
       apply pv_step (fun _ => rfl)
       · intro σ L w' hS h1 h2 K hK
         clear h2
         go_wp2
         exact hS.keep (by decide) (by decide)
       simp only [Act.put, qqS, qqC, qqZ]
       apply pv_step (fun _ => rfl)
       · intro σ L w' hS h1 h2 K hK
         clear h2
         have f := hBPx.below (hS.low (by decide) h1) hBPx.lt
         have f3 : w'.cell? ⟨w.heap.size + 1 + 1, 3, none⟩ = some (sv qw) := f.cell 3
         go_wp2
         exact hS.keep (by decide) (by decide)
       simp only [Act.put, qqS, qqC, qqZ]
       apply pv_step (fun _ => rfl)
       · intro σ L w' hS h1 h2 K hK
         clear h2
         go_wp2
         exact hS.keep (by decide) (by decide)
       simp only [Act.put, qqS, qqC, qqZ]
       apply pv_step (fun _ => rfl)
       · intro σ L w' hS h1 h2 K hK
         clear h2
         go_wp2
         exact hS.keep (by decide) (by decide)
       simp only [Act.put, qqS, qqC, qqZ]
       apply pv_step (fun _ => rfl)
       · intro σ L w' hS h1 h2 K hK
         clear h2
         go_wp2
         exact hS.keep (by decide) (by decide)
       simp only [Act.put, qqS, qqC, qqZ]
       apply pv_step (v := .int .i64 X) (fun _ => rfl)
       · intro σ L w' hS h1 h2 K hK
         clear h2
         have hl := hS.low (by decide) h1
         go_wp2_with (go_at_call 244; refine (kx _ (hi.below (hbl.trans (hl.mono hbl.size)))).mono ?_; rintro e w2 ⟨rfl, hb2⟩)
         exact hS.call (by decide) h1 (by decide) (by decide) hb2
       simp only [Act.put, qqS, qqC, qqZ]
       apply pv_free (fun _ => rfl)
       · intro σ L w' hS h1 h2 K hK
         have p7 := h2 7 (List.contains_iff_mem.1 (by kernel_rfl))
         have p1 := h2 1 (List.contains_iff_mem.1 (by kernel_rfl))
         have p3 := h2 3 (List.contains_iff_mem.1 (by kernel_rfl))
         clear h2
         have hS' := hS.tob h1 (by decide) (by simp [p7, p1, p3])
         have hlit := run_lit1 i64T (.int .i64 X) #[.int .i64 X] rfl rfl (by omega)
         go_wp2
         exact hS'
       simp only [Act.put, qqS, qqC, qqZ]
       apply pv_free (fun _ => rfl)
       · intro σ L w' hS h1 h2 K hK
         have p8 := h2 8 (List.contains_iff_mem.1 (by kernel_rfl))
         have p7 := h2 7 (List.contains_iff_mem.1 (by kernel_rfl))
         have p1 := h2 1 (List.contains_iff_mem.1 (by kernel_rfl))
         have p3 := h2 3 (List.contains_iff_mem.1 (by kernel_rfl))
         clear h2
         obtain ⟨w1, hl1, e1, rfl⟩ := hS.ata h1 p8
         refine oper_app i64T (.tmp 31) (.tmp 39) rfl u7 k _ rfl w.heap.size (own_call hown hl1) [.int .i64 X] rfl (by simp [Value.oneCell']) w1.heap.size rfl e1 (by omega) (by omega) (Nat.le_trans hbl.size hl1.size) ?_
         intro v1 w1' h11 h12 h13
         exact hK v1 w1' (SC.toa p8 (by simp [p7, p1, p3]) ⟨w1, hl1, h11, h12⟩)
       simp only [Act.put, qqS, qqC, qqZ]
       refine pv_nil fun σ w8 hS => ?_
       obtain ⟨w1, hl1, own8, hg8⟩ := hS.fin rfl
       obtain ⟨v8, hv8⟩ : ∃ v8, v8 = σ 9 := ⟨_, rfl⟩
       rw [← hv8] at own8
       simp only [← hv8]
       clear hS hv8
       have hown1 := own_call hown hl1
       have hb1 := hbl.trans (hl1.mono hbl.size)
       have hBT1 := hBTx.below hl1 hBTx.lt
       have hBB1 := hBBx.below hl1 hBBx.lt
       have hBP1 := hBPx.below hl1 hBPx.lt
       have hit5 := iter_grown (iter_below hitx hl1) hown1 hg8
       go_wp2_with (fail)
       go_roundw
       case rel => exact ⟨k + 1, by omega, hit5, own_cast own8 (by rw [hst2.out, List.map_append]; rfl) rfl, hBT1.grown hg8 (fun h => own_blk_ne hown1 hBT1 (by decide) h.symm), hBB1.grown hg8 (fun h => own_blk_ne hown1 hBB1 (by decide) h.symm), hBP1.grown hg8 (fun h => own_blk_ne hown1 hBP1 (by decide) h.symm), Below.own hb1 hb1.size hown1 (Nat.le_refl _) hg8⟩
       case measure => simp only [World.iterPos, hit5, hit]; omega
     · have kx := fun w h => kls qw[k] 46 w h
       rw [← hV] at kx
       have hX1 : ltF 46 * V = V := by
         have : ltF 46 = 1 := rfl
         rw [this, Int.one_mul]
       have h46 : bv 46 = .int .u8 46 := rfl
       rw [hX1, h46] at kx
       have hst2 : Hid (F (k + 1) = F k ++ [V]) := Lib.hid (by rw [hstep.out]; rfl)
       clear hstep
       obtain ⟨X, hX⟩ : ∃ X, X = V := ⟨_, rfl⟩
       rw [← hX] at kx hst2
       clear hX hV kls hX1
       go_wp2_with (first
         | (go_at_call 169; refine (ks _).mono ?_; rintro e w2 ⟨rfl, hb2⟩
            have hBB2 := hBB'.below hb2 hBB'.lt
            have cb0 : w2.cell? ⟨w.heap.size + 1, 0, none⟩ = some (.int .i64 sz) := hBB2.cell 0
            have cb1 : w2.cell? ⟨w.heap.size + 1, 1, none⟩ = some (sv bp) := hBB2.cell 1
            have cb2 : w2.cell? ⟨w.heap.size + 1, 2, none⟩ = some (sv bc) := hBB2.cell 2
            have hlt0 := hBB2.lt
            have hne0 : w.heap.size + 1 ≠ w2.heap.size := by omega)
         | (go_at_call 232; refine (ko _).mono ?_; rintro e w3 ⟨rfl, hb3⟩
            have hb23 := (hb2.alloc hb2.size (.cells #[.int .i64 sr, .int .i64 sc] 229)).trans (hb3.mono (by have := hb2.size; simp; omega))
            have hC := (Blk.new w2 229 #[.int .i64 sr, .int .i64 sc]).below hb3 (by simp)
            have e0 : w3.cell? ⟨w2.heap.size, 0, none⟩ = some (.int .i64 sr) := hC.cell 0
            have e1 : w3.cell? ⟨w2.heap.size, 1, none⟩ = some (.int .i64 sc) := hC.cell 1
            have hBB3 := hBB'.below hb23 hBB'.lt
            have b0 : w3.cell? ⟨w.heap.size + 1, 0, none⟩ = some (.int .i64 sz) := hBB3.cell 0
            have b1 : w3.cell? ⟨w.heap.size + 1, 1, none⟩ = some (sv bp) := hBB3.cell 1
            have b2 : w3.cell? ⟨w.heap.size + 1, 2, none⟩ = some (sv bc) := hBB3.cell 2)
         | fail)
       obtain ⟨wx, hwx⟩ : ∃ wx, wx = w3 := ⟨_, rfl⟩
       rw [← hwx] at hb23 ⊢
       have hown := own_call own1' hb23
       have hBTx := hBT'.below hb23 hBT'.lt
       have hBBx := hBB'.below hb23 hBB'.lt
       have hBPx := hBP'.below hb23 hBP'.lt
       have hitx := iter_below hit' hb23
       have hbl := hb'.trans (hb23.mono hb'.size)
       skip
       refine wp_region_v 10 10 (SC 8 9 [1, 3, 7] wx (.cells #[.int .i64 X] 2) (fun u w' => ∃ w1, Below wx.heap.size wx w1 ∧ w'.ownsRow w.heap.size 2 1 u (k + 1) ((F k).map xv ++ [.int .i64 X]) ∧ w1.grownBy w' (u7).ownBlock)) (by kernel_rfl) (by kernel_rfl) ⟨fun _ => undef, SC.start⟩ ?_
       simp only [qqT, List.take_zero, qqD, List.drop_zero]
       apply pv_step (fun _ => rfl)
       · intro σ L w' hS h1 h2 K hK
         clear h2
         go_wp2
         exact hS.keep (by decide) (by decide)
       simp only [Act.put, qqS, qqC, qqZ]
       apply pv_step (fun _ => rfl)
       · intro σ L w' hS h1 h2 K hK
         clear h2
         have f := hBTx.below (hS.low (by decide) h1) hBTx.lt
         have f0 : w'.cell? ⟨w.heap.size, 0, none⟩ = some (sv t.letters) := f.cell 0
         have f1 : w'.cell? ⟨w.heap.size, 1, none⟩ = some (.slice A1 t.values.length c1) := f.cell 1
         have f2 : w'.cell? ⟨w.heap.size, 2, none⟩ = some (.slice A2 t.counts.length c2) := f.cell 2
         have f3 : w'.cell? ⟨w.heap.size, 3, none⟩ = some (.int .i64 t.blanks) := f.cell 3
         go_wp2
         exact hS.keep (by decide) (by decide)
       simp only [Act.put, qqS, qqC, qqZ]
       apply pv_step (fun _ => rfl)
       · intro σ L w' hS h1 h2 K hK
         clear h2
         go_wp2
         exact hS.keep (by decide) (by decide)
       simp only [Act.put, qqS, qqC, qqZ]
       apply pv_step (fun _ => rfl)
       · intro σ L w' hS h1 h2 K hK
         clear h2
         have f := hBPx.below (hS.low (by decide) h1) hBPx.lt
         have f3 : w'.cell? ⟨w.heap.size + 1 + 1, 3, none⟩ = some (sv qw) := f.cell 3
         go_wp2
         exact hS.keep (by decide) (by decide)
       simp only [Act.put, qqS, qqC, qqZ]
       apply pv_step (fun _ => rfl)
       · intro σ L w' hS h1 h2 K hK
         clear h2
         go_wp2
         exact hS.keep (by decide) (by decide)
       simp only [Act.put, qqS, qqC, qqZ]
       apply pv_step (fun _ => rfl)
       · intro σ L w' hS h1 h2 K hK
         clear h2
         go_wp2
         exact hS.keep (by decide) (by decide)
       simp only [Act.put, qqS, qqC, qqZ]
       apply pv_step (fun _ => rfl)
       · intro σ L w' hS h1 h2 K hK
         clear h2
         go_wp2
         exact hS.keep (by decide) (by decide)
       simp only [Act.put, qqS, qqC, qqZ]
       apply pv_step (v := .int .i64 X) (fun _ => rfl)
       · intro σ L w' hS h1 h2 K hK
         clear h2
         have hl := hS.low (by decide) h1
         go_wp2_with (go_at_call 244; refine (kx _ (hi.below (hbl.trans (hl.mono hbl.size)))).mono ?_; rintro e w2 ⟨rfl, hb2⟩)
         exact hS.call (by decide) h1 (by decide) (by decide) hb2
       simp only [Act.put, qqS, qqC, qqZ]
       apply pv_free (fun _ => rfl)
       · intro σ L w' hS h1 h2 K hK
         have p7 := h2 7 (List.contains_iff_mem.1 (by kernel_rfl))
         have p1 := h2 1 (List.contains_iff_mem.1 (by kernel_rfl))
         have p3 := h2 3 (List.contains_iff_mem.1 (by kernel_rfl))
         clear h2
         have hS' := hS.tob h1 (by decide) (by simp [p7, p1, p3])
         have hlit := run_lit1 i64T (.int .i64 X) #[.int .i64 X] rfl rfl (by omega)
         go_wp2
         exact hS'
       simp only [Act.put, qqS, qqC, qqZ]
       apply pv_free (fun _ => rfl)
       · intro σ L w' hS h1 h2 K hK
         have p8 := h2 8 (List.contains_iff_mem.1 (by kernel_rfl))
         have p7 := h2 7 (List.contains_iff_mem.1 (by kernel_rfl))
         have p1 := h2 1 (List.contains_iff_mem.1 (by kernel_rfl))
         have p3 := h2 3 (List.contains_iff_mem.1 (by kernel_rfl))
         clear h2
         obtain ⟨w1, hl1, e1, rfl⟩ := hS.ata h1 p8
         refine oper_app i64T (.tmp 31) (.tmp 39) rfl u7 k _ rfl w.heap.size (own_call hown hl1) [.int .i64 X] rfl (by simp [Value.oneCell']) w1.heap.size rfl e1 (by omega) (by omega) (Nat.le_trans hbl.size hl1.size) ?_
         intro v1 w1' h11 h12 h13
         exact hK v1 w1' (SC.toa p8 (by simp [p7, p1, p3]) ⟨w1, hl1, h11, h12⟩)
       simp only [Act.put, qqS, qqC, qqZ]
       refine pv_nil fun σ w8 hS => ?_
       obtain ⟨w1, hl1, own8, hg8⟩ := hS.fin rfl
       obtain ⟨v8, hv8⟩ : ∃ v8, v8 = σ 9 := ⟨_, rfl⟩
       rw [← hv8] at own8
       simp only [← hv8]
       clear hS hv8
       have hown1 := own_call hown hl1
       have hb1 := hbl.trans (hl1.mono hbl.size)
       have hBT1 := hBTx.below hl1 hBTx.lt
       have hBB1 := hBBx.below hl1 hBBx.lt
       have hBP1 := hBPx.below hl1 hBPx.lt
       have hit5 := iter_grown (iter_below hitx hl1) hown1 hg8
       go_wp2_with (fail)
       go_roundw
       case rel => exact ⟨k + 1, by omega, hit5, own_cast own8 (by rw [hst2.out, List.map_append]; rfl) rfl, hBT1.grown hg8 (fun h => own_blk_ne hown1 hBT1 (by decide) h.symm), hBB1.grown hg8 (fun h => own_blk_ne hown1 hBB1 (by decide) h.symm), hBP1.grown hg8 (fun h => own_blk_ne hown1 hBP1 (by decide) h.symm), Below.own hb1 hb1.size hown1 (Nat.le_refl _) hg8⟩
       case measure => simp only [World.iterPos, hit5, hit]; omega
   · obtain rfl : k = qw.length := by omega
     have hnx : ∀ ty, (Instr.next (.pointer (some ⟨w.heap.size + 1 + 1 + 1 + 1, 0, none⟩)) true ty).run Tryz.prog wr = .ok (.tuple #[.bool false]) wr := fun ty =>
       Lib.run_next_end_at wr _ ⟨qw.toArray⟩ _ ty hit (by simp [ByteArray.size])
     rw [hFe.out] at own1
     go_wp2_with (fail)
     go_ret
     exact ⟨_, rfl, own_cast own1 rfl hLl'.out.symm, hb⟩
end Go.Proofs.YtdkckikobefekaaGreatDoor
namespace Go.Proofs.YtdkckikobefekaaGreatDoor
theorem lsI_mem {t : TS} (ho : TsOk t) (b : Bd) (q : Pl) : ∀ x ∈ lsI t b q, 0 ≤ x ∧ x ≤ 60 := fun x hx => by
 obtain ⟨i, _, rfl⟩ := List.mem_map.1 hx
 have h1 := ho.lo (q.word.getD i 0)
 have h2 := ho.hi (q.word.getD i 0)
 split
 · omega
 · exact lt_val ho _ _
theorem sqI_bd {t : TS} (ho : TsOk t) (b M : Bd) (a s : Int × Int) : 0 ≤ sqI t b M a s ∧ sqI t b M a s ≤ 60 := by
 have h1 := ho.lo (M.cell s.1 s.2)
 have h2 := ho.hi (M.cell s.1 s.2)
 have h3 := lt_val ho (b.prm a.1 a.2) (M.cell s.1 s.2)
 unfold sqI
 split <;> omega
theorem mainI_bd {t : TS} (ho : TsOk t) (b : Bd) (q : Pl) (hl : q.word.length ≤ 15) : 0 ≤ (lsI t b q).sum * wfL (pusI b q) ∧ (lsI t b q).sum * wfL (pusI b q) ≤ 13000000000 := by
 have h1 := sum_bd (M := 60) (by omega) (lsI_mem ho b q)
 rw [lsI_length] at h1
 have hN := newTo_length b q q.word.length
 change (newL b q).length ≤ _ at hN
 have h2 := wfL_all (l := pusI b q) (by rw [pusI_length]; omega)
 have h3 : (lsI t b q).sum ≤ 900 := by omega
 exact ⟨Int.mul_nonneg h1.1 (by omega), by
   have := Int.mul_le_mul h3 h2.2 (by omega) (by omega : (0 : Int) ≤ 900)
   omega⟩
theorem crossP_in {b : Bd} {q : Pl} (hon : OnQ b q) : ∀ x ∈ crossP b q (newL b q), b.inB x.1.1 x.1.2 = true := fun x hx => by
 obtain ⟨s, hs, rfl⟩ := List.mem_map.1 (List.mem_filter.1 hx).1
 obtain ⟨i, hi, rfl⟩ := List.mem_map.1 hs
 exact hon i (newTo_lt b q _ i hi)
theorem partsI_length (t : TS) (b : Bd) (q : Pl) : (partsI t b q).length = (crossP b q (newL b q)).length + 1 := by simp [partsI]
theorem partsI_step (t : TS) (b : Bd) (q : Pl) (k : Nat) (h : k < (crossP b q (newL b q)).length) : (partsI t b q).take (k + 1 + 1) = (partsI t b q).take (k + 1) ++ [crI t b q (crossP b q (newL b q))[k]] := by
 have hlt : k + 1 < (partsI t b q).length := by rw [partsI_length]; omega
 rw [List.take_succ_eq_append_getElem hlt]
 simp [partsI]
end Go.Proofs.YtdkckikobefekaaGreatDoor
