/-
  Contract: the scores of the words that a play forms (layer 13 of the impl package); Contract: the score of a play (layer 13 of the impl package); Plain law: both packages sort plays into one order.
  Conditions: a valid board and a valid tile set; all squares of the play are on the board; at most 15 letters; none.
-/
import Derived.Test.YtdkckikobefekaaGreatDoorM26
import Derived.Laws.StructEq
import Derived.DeepKeys
import Derived.Test.YtdkckikobefekaaGreatDoorM23
import Derived.Test.YtdkckikobefekaaGreatDoorM20
namespace Go.Proofs.YtdkckikobefekaaGreatDoor
open Go.RowKit RegP RegL RegV
set_option maxHeartbeats 4000000
set_option maxRecDepth 100000
theorem sq_guard (w : World) (a b c d : Int) (x y : Operand) : (eqGuard .eql 229 x y (.agg #[.int .i64 a, .int .i64 b]) (.agg #[.int .i64 c, .int .i64 d])).run Tryz.prog w = .ok () w :=
 run_eqGuard_agg w .eql 229 x y _ _ (by kernel_rfl)
theorem sq_eql (w : World) (a b c d : Int) : (binOp .eql 229 (.agg #[.int .i64 a, .int .i64 b]) (.agg #[.int .i64 c, .int .i64 d])).run Tryz.prog w = .ok (.bool (a == c && b == d)) w := by
 have hp : Tryz.prog.plainKey 2 = true := by kernel_rfl
 have hpt : ∀ (x y : Int), (part 2 #[.int .i64 x, .int .i64 y] 0).run Tryz.prog w = .ok (.int .i64 x) w := fun x y => run_part_plain w hp rfl
 have hpu : ∀ (x y : Int), (part 2 #[.int .i64 x, .int .i64 y] 1).run Tryz.prog w = .ok (.int .i64 y) w := fun x y => run_part_plain w hp rfl
 have hf : (Tryz.prog.fieldsOf 229).toList = [{ name := "Row", type := 2, offset := 0, embedded := false, tag := "", pkgPath := "", byteOffset := 0 }, { name := "Col", type := 2, offset := 1, embedded := false, tag := "", pkgPath := "", byteOffset := 8 }] := by
   simp only [Program.fieldsOf, Tryz.underlying229]
 have hu : Tryz.prog.underlying 229 = some (.struct (Tryz.prog.fieldsOf 229)) := by
   simp only [Program.fieldsOf, Tryz.underlying229]
 have e0 : ∀ n x y, (Op.equalIn (n+1) 2 (.int .i64 x) (.int .i64 y)).run Tryz.prog w = .ok (x == y) w := fun n x y => run_equalIn_int w n 2 .i64 .i64 x y Tryz.underlying2
 rw [run_eql_struct, run_equalIn_struct w 9999 229 _ _ hu (by kernel_rfl), hf]
 cases ha : (a == c) <;> cases hb : (b == d) <;> simp [Op.eqFields, hpt, hpu, e0 9998, ha, hb, Result.andThen]
theorem scoreParts_any (t : TS) (A1 A2 : Option Addr) (c1 c2 : Nat) (b : Bd) (q : Pl) (w : World) (hi : TsIn w t A1 A2) (ho : TsOk t) (hf : b.Fit) (ha : asciiB q.word = true) (hon : OnQ b q) (hl : q.word.length ≤ 15) (h1 : -400000000000 ≤ q.row) (h2 : q.row ≤ 400000000000) (h3 : -400000000000 ≤ q.col) (h4 : q.col ≤ 400000000000) :
   Calls Tryz.prog 161 #[t.v A1 c1 A2 c2, b.v, q.v] w fun e w' => ∃ v, e = .returned v ∧ w'.ownsRow w.heap.size 2 1 v (partsI t b q).length ((partsI t b q).map xv) ∧ Below w.heap.size w w' := by
 have hl32 : q.word.length ≤ 2 ^ 32 := by omega
 have kls := fun w hi => letterScores_any t A1 A2 c1 c2 b q w hi ho hf ha hon hl32 h1 h2 h3 h4
 have kpu := fun w => premiumsUsed_any b q w hf ha hon hl32 h1 h2 h3 h4
 have kwf := fun A c l w hr h => wordFactor_any A c l w hr h
 have km := fun w => made_any b q w hf ha hon hl32 h1 h2 h3 h4
 have kx : ∀ w, Calls Tryz.prog 236 #[b.v, q.v] w fun e w' => ∃ v1 v2 vs, e = .returned (.tuple #[v1, v2]) ∧ w'.ownsRow w.heap.size 229 2 v1 (crossP b q (newL b q)).length (sqC ((crossP b q (newL b q)).map (·.1))) ∧ w'.ownsRow w.heap.size 213 1 v2 (crossP b q (newL b q)).length vs ∧ RowsAt w' w.heap.size v1 vs ((crossP b q (newL b q)).map (·.2)) ∧ Below w.heap.size w w' :=
   fun w => crossings_any b q w hf ha hon hl32 h1 h2 h3 h4
 have kc := fun (r c : Int) w => cell_any (madeB b q) r c w (madeB_fit hf q)
 have kpr := fun x (hx : x ∈ crossP b q (newL b q)) w => premium_any b x.1.1 x.1.2 w hf (crossP_in hon x hx)
 have kl1 := fun l p w h => letterScore_any t A1 A2 c1 c2 l p w h ho
 have kv1 := fun l w h => valueOf_any t A1 A2 c1 c2 l w h (by have := ho.len; omega) ho.vals
 have hLs := fun k => sum_take_bd (M := 60) (by omega) (lsI_mem ho b q) k
 have hLt := fun k (h : k < (lsI t b q).length) => sum_take h
 have hLl := lsI_length t b q
 have hMb := mainI_bd ho b q hl
 have hPUl : (pusI b q).length ≤ 15 := by
   have hN := newTo_length b q q.word.length
   change (newL b q).length ≤ _ at hN
   rw [pusI_length]; omega
 have hXl : (crossP b q (newL b q)).length ≤ 15 := by
   have hN := newTo_length b q q.word.length
   change (newL b q).length ≤ _ at hN
   have := crossP_length b q (newL b q)
   omega
 have hsl := crossP_seq b q (newL b q)
 have hPl : Hid ((partsI t b q).length = (crossP b q (newL b q)).length + 1) := Lib.hid (partsI_length t b q)
 have hP0 : Hid ((partsI t b q).take 1 = [(lsI t b q).sum * wfL (pusI b q)]) := Lib.hid rfl
 have hPk : Hid (∀ k (h : k < (crossP b q (newL b q)).length), (partsI t b q).take (k + 1 + 1) = (partsI t b q).take (k + 1) ++ [((crossP b q (newL b q))[k].2.map (sqI t b (madeB b q) (crossP b q (newL b q))[k].1)).sum * wfL [b.prm (crossP b q (newL b q))[k].1.1 (crossP b q (newL b q))[k].1.2]]) := Lib.hid (fun k h => partsI_step t b q k h)
 have hSb : Hid (∀ a (l : List (Int × Int)) k, 0 ≤ ((l.map (sqI t b (madeB b q) a)).take k).sum ∧ ((l.map (sqI t b (madeB b q) a)).take k).sum ≤ 60 * (l.map (sqI t b (madeB b q) a)).length) := Lib.hid (fun a l k => sum_take_bd (M := 60) (by omega) (fun x hx => by
   obtain ⟨s, _, rfl⟩ := List.mem_map.1 hx
   exact sqI_bd ho _ _ _ _) k)
 have hSd : Hid (∀ a s, sqI t b (madeB b q) a s = if s == a then ltF (b.prm a.1 a.2) * valT t ((madeB b q).cell s.1 s.2) else valT t ((madeB b q).cell s.1 s.2)) := Lib.hid (fun _ _ => rfl)
 have hvb : Hid (∀ c, 0 ≤ valT t c ∧ valT t c ≤ 20) := Lib.hid (fun c => ⟨ho.lo c, ho.hi c⟩)
 have hlb : Hid (∀ p c, 0 ≤ ltF p * valT t c ∧ ltF p * valT t c ≤ 60) := Lib.hid (fun p c => lt_val ho p c)
 obtain ⟨LS, hLS⟩ : ∃ LS, LS = lsI t b q := ⟨_, rfl⟩
 rw [← hLS] at kls hLs hLt hLl hMb hP0
 obtain ⟨PU, hPU⟩ : ∃ PU, PU = pusI b q := ⟨_, rfl⟩
 rw [← hPU] at kpu hMb hPUl hP0
 obtain ⟨PI, hPI⟩ : ∃ PI, PI = partsI t b q := ⟨_, rfl⟩
 rw [← hPI] at hPl hP0 hPk ⊢
 obtain ⟨X, hX⟩ : ∃ X, X = crossP b q (newL b q) := ⟨_, rfl⟩
 rw [← hX] at kx kpr hXl hsl hPl hPk
 obtain ⟨M, hM⟩ : ∃ M, M = madeB b q := ⟨_, rfl⟩
 rw [← hM] at km kc hPk hSb hSd
 obtain ⟨PR, hPR⟩ : ∃ PR, PR = b.prm := ⟨_, rfl⟩
 rw [← hPR] at kpr hPk hSd
 obtain ⟨SQ, hSQ⟩ : ∃ SQ, SQ = sqI t b M := ⟨_, rfl⟩
 rw [← hSQ] at hPk hSb hSd
 have hsl' : Hid (∀ k (h : k < X.length), X[k].2.length ≤ 32) := Lib.hid (fun k h => hsl _ (List.getElem_mem h))
 have kpr' : Hid (∀ k (h : k < X.length) w, Calls Tryz.prog 243 #[b.v, .int .i64 X[k].1.1, .int .i64 X[k].1.2] w fun e w' => e = .returned (bv (PR X[k].1.1 X[k].1.2)) ∧ Below w.heap.size w w') := Lib.hid (fun k h w => kpr _ (List.getElem_mem h) w)
 have hLs' := Lib.hid hLs
 have hLt' := Lib.hid hLt
 obtain ⟨hm0, hm1⟩ := hMb
 clear hLS hPU hPI hX hM hPR hSQ hsl kpr hLs hLt h1 h2 h3 h4 hon hf ha ho hl32
 obtain ⟨sz, bp, bc⟩ := b
 obtain ⟨qr, qc, qd, qw⟩ := q
 obtain ⟨msz, mp, mc⟩ := M
 simp only [Bd.v, Pl.v, TS.v] at *
 obtain ⟨W, hW⟩ : ∃ W, W = (((w.alloc (.cells #[sv t.letters, .slice A1 t.values.length c1, .slice A2 t.counts.length c2, .int .i64 t.blanks] 39)).alloc (.cells #[.int .i64 sz, sv bp, sv bc] 41)).alloc (.cells #[.int .i64 qr, .int .i64 qc, .bool qd, sv qw] 61)) := ⟨_, rfl⟩
 have hT0 : Blk W w.heap.size 39 #[sv t.letters, .slice A1 t.values.length c1, .slice A2 t.counts.length c2, .int .i64 t.blanks] := by rw [hW]; exact ((Blk.new w _ _).alloc _).alloc _
 have hB0 : Blk W (w.heap.size + 1) 41 #[.int .i64 sz, sv bp, sv bc] := by rw [hW]; exact (Blk.new1 w _ _ _).alloc _
 have hP0' : Blk W (w.heap.size + 1 + 1) 61 #[.int .i64 qr, .int .i64 qc, .bool qd, sv qw] := by rw [hW]; exact Blk.new2 w _ _ _ _
 have hbW : Below w.heap.size w W := by rw [hW]; exact (((Below.refl _ _).alloc (Nat.le_refl _) _).alloc (by simp) _).alloc (by simp; omega) _
 have hiW := hi.below hbW
 go_enter Tryz.func161, Tryz.ntmps161
 go_wp2_with (go_at_call 240; rw [← hW]; refine (kls _ hiW).mono ?_; rintro e w1 ⟨v1, rfl, own1, hb1⟩; obtain ⟨B1, d1, rfl, hd1, hr1⟩ := own_sl own1)
 have hw1 := hbW.trans (hb1.mono hbW.size)
 have hT1 := hT0.below hb1 hT0.lt
 have hB1 := hB0.below hb1 hB0.lt
 have hP1 := hP0'.below hb1 hP0'.lt
 clear hW hT0 hB0 hP0' own1 hb1 kls hiW
 go_loopw [7, 25] (fun o i wr => ∃ k : Nat, k ≤ LS.length ∧ i = .int .i64 k ∧ o = .int .i64 (LS.take k).sum ∧ wr = w1) (fun _ i _ => LS.length - (intOf i).toNat)
 case atStart => exact ⟨0, by omega, rfl, by simp, rfl⟩
 case round =>
   obtain ⟨k, hk, rfl, rfl, rfl⟩ := hrel
   obtain ⟨s1, s2⟩ := hLs'.out k
   by_cases hkl : k < LS.length
   · obtain ⟨ad, rfl, hadb, hc3⟩ := hr1.el hkl
     have hsm := Lib.hid (hLt'.out k hkl)
     obtain ⟨s3, s4⟩ := hLs'.out (k + 1)
     have hkk : (k : Int) < (LS.length : Int) := by omega
     simp only [xv] at hc3
     rw [hsm.out] at s3 s4
     obtain ⟨S, hS⟩ : ∃ S, S = (LS.take k).sum := ⟨_, rfl⟩
     rw [← hS] at s1 s2 s3 s4 hsm
     simp only [← hS]
     clear hS
     go_wp2_with (fail)
     go_roundw
     case rel => exact ⟨k + 1, by omega, by go_num, vi_eq (by rw [hsm.out]), trivial⟩
     case measure => simp [intOf]; omega
   · obtain rfl : k = LS.length := by omega
     have hlt' : ¬ (LS.length : Int) < (LS.length : Int) := by omega
     simp only [List.take_length] at s1 s2 ⊢
     obtain ⟨S, hS⟩ : ∃ S, S = LS.sum := ⟨_, rfl⟩
     rw [← hS] at s1 s2 hm0 hm1 hP0
     simp only [← hS]
     clear hS hLs' hLt'
     obtain ⟨WF, hWF⟩ : ∃ WF, WF = wfL PU := ⟨_, rfl⟩
     rw [← hWF] at hm0 hm1 hP0
     have hm2 : IntKind.i64.wrap (S * WF) = S * WF := IntWalk.i64_in _ (by omega)
     have kwp := fun A c w hr => kwf A c PU w hr hPUl
     rw [← hWF] at kwp
     clear hWF
     have hlit := run_lit1 i64T (.int .i64 (S * WF)) #[.int .i64 (S * WF)] rfl rfl (by omega)
     have lt0 := hB1.lt
     have lt1 := hP1.lt
     have x0 : wr.cell? ⟨w.heap.size + 1, 0, none⟩ = some (.int .i64 sz) := hB1.cell 0
     have x1 : wr.cell? ⟨w.heap.size + 1, 1, none⟩ = some (sv bp) := hB1.cell 1
     have x2 : wr.cell? ⟨w.heap.size + 1, 2, none⟩ = some (sv bc) := hB1.cell 2
     have x3 : wr.cell? ⟨w.heap.size + 1 + 1, 0, none⟩ = some (.int .i64 qr) := hP1.cell 0
     have x4 : wr.cell? ⟨w.heap.size + 1 + 1, 1, none⟩ = some (.int .i64 qc) := hP1.cell 1
     have x5 : wr.cell? ⟨w.heap.size + 1 + 1, 2, none⟩ = some (.bool qd) := hP1.cell 2
     have x6 : wr.cell? ⟨w.heap.size + 1 + 1, 3, none⟩ = some (sv qw) := hP1.cell 3
     go_wp2_with (first
       | (go_at_call 242; refine (kpu _).mono ?_; rintro e w2 ⟨v2, rfl, own2, hb2⟩; obtain ⟨B2, d2, rfl, hd2, hr2⟩ := own_sl own2
          have hT2 := hT1.below hb2 hT1.lt
          have hB2 := hB1.below hb2 hB1.lt
          have hP2 := hP1.below hb2 hP1.lt
          have lt2 := hB2.lt
          have lt3 := hP2.lt
          have z0 : w2.cell? ⟨w.heap.size + 1, 0, none⟩ = some (.int .i64 sz) := hB2.cell 0
          have z1 : w2.cell? ⟨w.heap.size + 1, 1, none⟩ = some (sv bp) := hB2.cell 1
          have z2 : w2.cell? ⟨w.heap.size + 1, 2, none⟩ = some (sv bc) := hB2.cell 2
          have z3 : w2.cell? ⟨w.heap.size + 1 + 1, 0, none⟩ = some (.int .i64 qr) := hP2.cell 0
          have z4 : w2.cell? ⟨w.heap.size + 1 + 1, 1, none⟩ = some (.int .i64 qc) := hP2.cell 1
          have z5 : w2.cell? ⟨w.heap.size + 1 + 1, 2, none⟩ = some (.bool qd) := hP2.cell 2
          have z6 : w2.cell? ⟨w.heap.size + 1 + 1, 3, none⟩ = some (sv qw) := hP2.cell 3
          have ne2 : w.heap.size + 1 ≠ w2.heap.size := by omega
          have ne3 : w.heap.size + 1 + 1 ≠ w2.heap.size := by omega)
       | (go_at_call 241; refine (kwp _ _ _ hr2).mono ?_; rintro e w2' ⟨rfl, rfl⟩)
       | (go_at_call 99; refine (km _).mono ?_; rintro e w3 ⟨rfl, hb3⟩
          have ow2 := World.ownsRow_lit (base := w.heap.size) (size := 1) (e := 2) w2 #[.int .i64 (S * WF)] 1 (by have := hw1.size; have := hb2.size; omega) (by unfold maxLen; omega) rfl
          have ow3 := own_call ow2 hb3
          have hT3 := (hT2.alloc (.cells #[.int .i64 (S * WF)] 2)).below hb3 (by simp; have := hT2.lt; omega)
          have hB3 := (hB2.alloc (.cells #[.int .i64 (S * WF)] 2)).below hb3 (by simp; omega)
          have hP3 := (hP2.alloc (.cells #[.int .i64 (S * WF)] 2)).below hb3 (by simp; omega)
          have lt4 := hB3.lt
          have lt5 := hP3.lt
          have j0 : w3.cell? ⟨w.heap.size + 1, 0, none⟩ = some (.int .i64 sz) := hB3.cell 0
          have j1 : w3.cell? ⟨w.heap.size + 1, 1, none⟩ = some (sv bp) := hB3.cell 1
          have j2 : w3.cell? ⟨w.heap.size + 1, 2, none⟩ = some (sv bc) := hB3.cell 2
          have j3 : w3.cell? ⟨w.heap.size + 1 + 1, 0, none⟩ = some (.int .i64 qr) := hP3.cell 0
          have j4 : w3.cell? ⟨w.heap.size + 1 + 1, 1, none⟩ = some (.int .i64 qc) := hP3.cell 1
          have j5 : w3.cell? ⟨w.heap.size + 1 + 1, 2, none⟩ = some (.bool qd) := hP3.cell 2
          have j6 : w3.cell? ⟨w.heap.size + 1 + 1, 3, none⟩ = some (sv qw) := hP3.cell 3
          have ne4 : w.heap.size + 1 ≠ w3.heap.size := by omega
          have ne5 : w.heap.size + 1 + 1 ≠ w3.heap.size := by omega)
       | (go_at_call 236; refine (kx _).mono ?_; rintro e wc ⟨v1, v2, vs, rfl, ownA, ownB, hra, hbc⟩; obtain ⟨A4, n4, rfl, hn4, -, -⟩ := own_form ownB; obtain ⟨A5, n5, rfl, hn5, -, hf5⟩ := own_form ownA))
     have hw2 := hw1.trans (hb2.mono hw1.size)
     have hw3 := (hw2.alloc hw2.size (.cells #[.int .i64 (S * WF)] 2)).trans (hb3.mono (by have := hw2.size; simp; omega))
     have hwc := (hw3.alloc hw3.size (.cells #[.int .i64 msz, sv mp, sv mc] 41)).trans (hbc.mono (by have := hw3.size; simp; omega))
     have hMc := (Blk.new w3 41 #[.int .i64 msz, sv mp, sv mc]).below hbc (by simp)
     have hTc := (hT3.alloc (.cells #[.int .i64 msz, sv mp, sv mc] 41)).below hbc (by simp; have := hT3.lt; omega)
     have hBc := (hB3.alloc (.cells #[.int .i64 msz, sv mp, sv mc] 41)).below hbc (by simp; omega)
     have owc := own_call ow3 (((Below.refl _ _).alloc (Nat.le_refl _) (.cells #[.int .i64 msz, sv mp, sv mc] 41)).trans (hbc.mono (by simp)))
     have hrac := RowsAt.for_ (v2 := .slice (some ⟨w2.heap.size, 0, none⟩) 1 1) hra (fun k hk => by
       simp only [Value.ownBlock, Option.some.injEq] at hk
       have := hb3.size
       simp at this ⊢
       omega)
     obtain ⟨B, hBB⟩ : ∃ B, B = (w3.alloc (.cells #[.int .i64 msz, sv mp, sv mc] 41)).heap.size := ⟨_, rfl⟩
     rw [← hBB] at hrac ownA ownB
     obtain ⟨g2, hg2⟩ : ∃ g2, g2 = w2.heap.size := ⟨_, rfl⟩
     rw [← hg2] at owc hrac ⊢
     obtain ⟨g3, hg3⟩ : ∃ g3, g3 = w3.heap.size := ⟨_, rfl⟩
     rw [← hg3] at hMc ⊢
     clear hr1 hb2 hr2 hT1 hB1 hP1 hT2 hB2 hP2 hT3 hB3 hP3 lt0 lt1 lt2 lt3 lt4 lt5 ne2 ne3 ne4 ne5 x0 x1 x2 x3 x4 x5 x6 z0 z1 z2 z3 z4 z5 z6 j0 j1 j2 j3 j4 j5 j6 ow2 ow3 hb3 hw1 hw2 hw3 hbc hra hg2 hg3 hBB s1 s2 hm0 hm1 hm2 hlit kpu kwp km kx
     go_loopw [10, 51] (fun o i wr => ∃ k : Nat, k ≤ X.length ∧ i = .int .i64 k ∧ wr.ownsRow w.heap.size 2 1 o (k + 1) ((PI.take (k + 1)).map xv) ∧ RowsAt wr B o vs (X.map (·.2)) ∧ wr.ownsRow B 213 1 (.slice A4 X.length n4) X.length vs ∧ wr.ownsRow B 229 2 (.slice A5 X.length n5) X.length (sqC (X.map (·.1))) ∧ Blk wr g3 41 #[.int .i64 msz, sv mp, sv mc] ∧ Blk wr w.heap.size 39 #[sv t.letters, .slice A1 t.values.length c1, .slice A2 t.counts.length c2, .int .i64 t.blanks] ∧ Blk wr (w.heap.size + 1) 41 #[.int .i64 sz, sv bp, sv bc] ∧ Below w.heap.size w wr) (fun _ i _ => X.length - (intOf i).toNat)
     case atStart => exact ⟨0, by omega, rfl, own_cast owc (by rw [hP0.out]; rfl) rfl, hrac, ownB, ownA, hMc, hTc, hBc, hwc⟩
     case round =>
       clear owc hrac ownB ownA hMc hTc hBc hwc hP0
       obtain ⟨k, hk, rfl, ow, hra, ownB, ownA, hM, hT, hB, hw⟩ := hrel
       have hrB := Reads.of_own ownB
       by_cases hkl : k < X.length
       · have hkk : (k : Int) < (X.length : Int) := by omega
         obtain ⟨ad, u, rfl, hadb, hvk, hc3⟩ := hrB.at_ hkl
         obtain ⟨A, n, c, hvk2, hn, hnc, hrd, hf⟩ := hra.at_ (k := k) (by simpa using hkl)
         rw [hvk] at hvk2
         obtain rfl : u = .slice A n c := by injection hvk2
         simp only [List.getElem_map] at hn hrd
         have hrA : Reads wr wr.heap.size 2 A5 (X.map (·.1)).length (sqC (X.map (·.1))) := by rw [List.length_map]; exact Reads.of_own ownA
         obtain ⟨ad5, hA5, hz5, _⟩ := hrA.2 (by simp; omega)
         obtain ⟨g5, rfl⟩ := hf5 ad5 hA5
         subst hA5
         obtain ⟨e0, e1⟩ := hrA.sq (k := k) (by simpa using hkl)
         simp only [Nat.zero_add, List.getElem_map] at e0 e1
         have hg5 : g5 < wr.heap.size := hz5
         have hPk' := Lib.hid (hPk.out k hkl)
         have hll := hsl'.out k hkl
         have kp := kpr'.out k hkl
         obtain ⟨L, hL⟩ : ∃ L, L = X[k].2 := ⟨_, rfl⟩
         rw [← hL] at hn hrd hPk' hll
         obtain ⟨a, haa⟩ : ∃ a, a = X[k].1 := ⟨_, rfl⟩
         rw [← haa] at e0 e1 hPk' kp
         clear hL haa hvk hvk2 hrA hz5
         subst hn
         obtain ⟨ar, ac⟩ := a
         obtain ⟨pr, hpr⟩ : ∃ pr, pr = PR ar ac := ⟨_, rfl⟩
         have hSd' : Hid (∀ s, SQ (ar, ac) s = if s == (ar, ac) then ltF pr * valT t (Bd.cell ⟨msz, mp, mc⟩ s.1 s.2) else valT t (Bd.cell ⟨msz, mp, mc⟩ s.1 s.2)) := Lib.hid (fun s => by rw [hSd.out, hpr])
         simp only at e0 e1 hPk' kp
         rw [← hpr] at hPk' kp
         clear hpr
         have hFb : Hid (∀ j, 0 ≤ ((L.map (SQ (ar, ac))).take j).sum ∧ ((L.map (SQ (ar, ac))).take j).sum ≤ 1920) := Lib.hid (fun j => by
           have := hSb.out (ar, ac) L j
           rw [List.length_map] at this
           omega)
         have hFs : Hid (∀ j (h : j < L.length), ((L.map (SQ (ar, ac))).take (j + 1)).sum = ((L.map (SQ (ar, ac))).take j).sum + SQ (ar, ac) L[j]) := Lib.hid (fun j h => by
           rw [sum_take (by simpa using h)]
           simp)
         have hFe : Hid (((L.map (SQ (ar, ac))).take L.length).sum = (L.map (SQ (ar, ac))).sum) := Lib.hid (by rw [List.take_of_length_le (by simp)])
         obtain ⟨F, hF⟩ : ∃ F : Nat → Int, F = fun j => ((L.map (SQ (ar, ac))).take j).sum := ⟨_, rfl⟩
         have hF' : ∀ j, ((L.map (SQ (ar, ac))).take j).sum = F j := fun j => by rw [hF]
         simp only [hF'] at hFb hFs hFe
         have hF0 : Hid (F 0 = 0) := Lib.hid (by rw [hF]; simp)
         rw [← hFe.out] at hPk'
         clear hF hF'
         go_wp2_with (fail)
         refine wp_region_b 14 (by kernel_rfl) (by kernel_rfl) ?_
         simp only [qqT, List.take_zero, qqD, List.drop_zero]
         iterate 14
           apply pc_step rfl
           · intro w4 hb4 K hK
             have f0 := (hb4.cell (p := ⟨g5, k * 2, none⟩) hg5).trans e0
             have f1 := (hb4.cell (p := ⟨g5, k * 2 + 1, none⟩) hg5).trans e1
             have hB5 := hB.below hb4 hB.lt
             have x0 : w4.cell? ⟨w.heap.size + 1, 0, none⟩ = some (.int .i64 sz) := hB5.cell 0
             have x1 : w4.cell? ⟨w.heap.size + 1, 1, none⟩ = some (sv bp) := hB5.cell 1
             have x2 : w4.cell? ⟨w.heap.size + 1, 2, none⟩ = some (sv bc) := hB5.cell 2
             go_wp2_with (first | (go_at_call 243; refine (kp _).mono ?_; rintro e w5 ⟨rfl, hb5⟩))
             all_goals first | exact hb4 | exact hb4.trans (hb5.mono hb4.size) | exact hb4.trans (hd5.below.mono hb4.size)
           simp only [Act.put, qqS, qqC, qqZ]
         refine pc_nil ?_
         intro w4 hb4
         have f0 := (hb4.cell (p := ⟨g5, k * 2, none⟩) hg5).trans e0
         have f1 := (hb4.cell (p := ⟨g5, k * 2 + 1, none⟩) hg5).trans e1
         have hg5' : g5 < w4.heap.size := Nat.lt_of_lt_of_le hg5 hb4.size
         have ow' := own_call ow hb4
         have hra' := hra.below hb4
         have ownB' := own_call ownB hb4
         have ownA' := own_call ownA hb4
         have hM' := hM.below hb4 hM.lt
         have hT' := hT.below hb4 hT.lt
         have hB' := hB.below hb4 hB.lt
         have hw' := hw.trans (hb4.mono hw.size)
         have hrd' := (hrd.below hb4).more hb4.size
         clear e0 e1 hg5 ow hra ownB ownA hM hT hB hw hrd hrB hc3 hadb kp hb4
         obtain ⟨wo, hwo⟩ : ∃ wo, wo = w4 := ⟨_, rfl⟩
         subst hwo
         go_wp2_with (fail)
         go_loopw [17, 70] (fun o i wr => ∃ j : Nat, j ≤ L.length ∧ i = .int .i64 j ∧ o = .int .i64 (F j) ∧ Below wo.heap.size wo wr) (fun _ i _ => L.length - (intOf i).toNat)
         case atStart => exact ⟨0, by omega, rfl, by rw [hF0.out], Below.refl _ _⟩
         case round =>
           obtain ⟨j, hj, rfl, rfl, hbi⟩ := hrel
           obtain ⟨s1, s2⟩ := hFb.out j
           by_cases hjl : j < L.length
           · have hjj : (j : Int) < (L.length : Int) := by omega
             have hri := hrd'.below hbi
             obtain ⟨ad2, rfl, hadb, _⟩ := hri.2 (by omega)
             obtain ⟨g, rfl⟩ := hf ad2 rfl
             obtain ⟨e0, e1⟩ := hri.sq (k := j) hjl
             simp only [Nat.zero_add] at e0 e1
             have hstep := Lib.hid (hFs.out j hjl)
             have hSdj := Lib.hid (hSd'.out L[j])
             obtain ⟨s, hs⟩ : ∃ s, s = L[j] := ⟨_, rfl⟩
             rw [← hs] at e0 e1 hstep hSdj
             clear hs
             obtain ⟨sr, sc⟩ := s
             simp only at e0 e1 hSdj
             obtain ⟨s3, s4⟩ := hFb.out (j + 1)
             rw [hstep.out] at s3 s4
             obtain ⟨T1, hT1⟩ : ∃ T1, T1 = F j := ⟨_, rfl⟩
             rw [← hT1] at hstep s1 s2 s3 s4
             simp only [← hT1]
             obtain ⟨E1, hE1⟩ : ∃ E1, E1 = SQ (ar, ac) (sr, sc) := ⟨_, rfl⟩
             rw [← hE1] at hstep s3 s4 hSdj
             clear hT1 hE1
             have kcc := fun w => kc sr sc w
             obtain ⟨ch, hch⟩ : ∃ ch, ch = Bd.cell ⟨msz, mp, mc⟩ sr sc := ⟨_, rfl⟩
             rw [← hch] at kcc hSdj
             clear hch
             have hgz : g < wr.heap.size := by simp at hadb; have := hbi.size; omega
             have hgo := Nat.lt_of_lt_of_le hg5' hbi.size
             have f2 := (hbi.cell (p := ⟨g5, k * 2, none⟩) hg5').trans f0
             have f3 := (hbi.cell (p := ⟨g5, k * 2 + 1, none⟩) hg5').trans f1
             have hMi := hM'.below hbi hM'.lt
             have hTi := hT'.below hbi hT'.lt
             have hwi := hw'.trans (hbi.mono hw'.size)
             clear hri hrd'
             go_wp2_with (fail)
             have hS0 := Blk.new wr 229 #[.int .i64 sr, .int .i64 sc]
             have hbs := (Below.refl wr.heap.size wr).alloc (Nat.le_refl _) (.cells #[.int .i64 sr, .int .i64 sc] 229)
             obtain ⟨ws, hws⟩ : ∃ ws, ws = wr.alloc (.cells #[.int .i64 sr, .int .i64 sc] 229) := ⟨_, rfl⟩
             rw [← hws] at hS0 hbs ⊢
             clear hws
             obtain ⟨eb, heb⟩ : ∃ eb, eb = (sr == ar && sc == ac) := ⟨_, rfl⟩
             have heq1 := fun (w : World) x y => sq_guard w sr sc ar ac x y
             have heq2 : ∀ w : World, (binOp .eql 229 (.agg #[.int .i64 sr, .int .i64 sc]) (.agg #[.int .i64 ar, .int .i64 ac])).run Tryz.prog w = .ok (.bool eb) w := fun w => by rw [heb]; exact sq_eql w sr sc ar ac
             have hEb : Hid (E1 = if eb then ltF pr * valT t ch else valT t ch) := Lib.hid (by rw [hSdj.out, heb]; rfl)
             clear heb hSdj
             refine wp_region_b 6 (by kernel_rfl) (by kernel_rfl) ?_
             simp only [qqT, List.take_zero, qqD, List.drop_zero]
             iterate 6
               apply pc_step rfl
               · intro w7 hb7 K hK
                 have hS7 := hS0.below hb7 hS0.lt
                 have q0 : w7.cell? ⟨wr.heap.size, 0, none⟩ = some (.int .i64 sr) := hS7.cell 0
                 have q1 : w7.cell? ⟨wr.heap.size, 1, none⟩ = some (.int .i64 sc) := hS7.cell 1
                 have hbq := hbs.trans (hb7.mono hbs.size)
                 have q2 := (hbq.cell (p := ⟨g5, k * 2, none⟩) hgo).trans f2
                 have q3 := (hbq.cell (p := ⟨g5, k * 2 + 1, none⟩) hgo).trans f3
                 go_wp2_with (fail)
                 all_goals first | exact hb7 | exact hb7.trans (hb5.mono hb7.size) | exact hb7.trans (hd5.below.mono hb7.size)
               simp only [Act.put, qqS, qqC, qqZ]
             refine pc_nil ?_
             intro w7 hb7
             have hd7 := hbs.trans (hb7.mono hbs.size)
             have hS7 := hS0.below hb7 hS0.lt
             have hb17 := hbi.trans (hd7.mono hbi.size)
             have hM7 := hM'.below hb17 hM'.lt
             have hT7 := hT'.below hb17 hT'.lt
             have hw7 := hw'.trans (hb17.mono hw'.size)
             have hi7 := hi.below hw7
             clear heq1 heq2 hS0 hbs hb7 f2 f3 hMi hTi hwi hgo e0 e1 hgz hadb
             cases eb
             · have hE : Hid (E1 = valT t ch) := Lib.hid (by rw [hEb.out]; rfl)
               have kvx := fun w h => kv1 ch w h
               rw [hE.out] at s3 s4
               obtain ⟨V, hV⟩ : ∃ V, V = valT t ch := ⟨_, rfl⟩
               rw [← hV] at kvx s3 s4 hE
               clear hV hEb
               go_wp2_with (fail)
               refine wp_region_b 10 (by kernel_rfl) (by kernel_rfl) ?_
               simp only [qqT, List.take_zero, qqD, List.drop_zero]
               iterate 10
                 apply pc_step rfl
                 · intro w8 hb8 K hK
                   have hT8 := hT7.below hb8 hT7.lt
                   have hM8 := hM7.below hb8 hM7.lt
                   have hS8 := hS7.below hb8 hS7.lt
                   have r0 : w8.cell? ⟨w.heap.size, 0, none⟩ = some (sv t.letters) := hT8.cell 0
                   have r1 : w8.cell? ⟨w.heap.size, 1, none⟩ = some (.slice A1 t.values.length c1) := hT8.cell 1
                   have r2 : w8.cell? ⟨w.heap.size, 2, none⟩ = some (.slice A2 t.counts.length c2) := hT8.cell 2
                   have r3 : w8.cell? ⟨w.heap.size, 3, none⟩ = some (.int .i64 t.blanks) := hT8.cell 3
                   have r4 : w8.cell? ⟨g3, 0, none⟩ = some (.int .i64 msz) := hM8.cell 0
                   have r5 : w8.cell? ⟨g3, 1, none⟩ = some (sv mp) := hM8.cell 1
                   have r6 : w8.cell? ⟨g3, 2, none⟩ = some (sv mc) := hM8.cell 2
                   have r7 : w8.cell? ⟨wr.heap.size, 0, none⟩ = some (.int .i64 sr) := hS8.cell 0
                   have r8 : w8.cell? ⟨wr.heap.size, 1, none⟩ = some (.int .i64 sc) := hS8.cell 1
                   go_wp2_with (first | (go_at_call 233; refine (kcc _).mono ?_; rintro e w5 ⟨rfl, hb5⟩) | (go_at_call 245; refine (kvx _ (hi7.below hb8)).mono ?_; rintro e w5 ⟨rfl, hb5⟩))
                   all_goals first | exact hb8 | exact hb8.trans (hb5.mono hb8.size) | exact hb8.trans (hd5.below.mono hb8.size)
                 simp only [Act.put, qqS, qqC, qqZ]
               refine pc_nil ?_
               intro w8 hb8
               go_wp2_with (fail)
               go_roundw
               case rel => exact ⟨j + 1, by omega, by go_num, vi_eq (by rw [hstep.out, hE.out]), hb17.trans (hb8.mono hb17.size)⟩
               case measure => simp [intOf]; omega
             · have hE : Hid (E1 = ltF pr * valT t ch) := Lib.hid (by rw [hEb.out]; rfl)
               have kvx := fun w h => kl1 ch pr w h
               rw [hE.out] at s3 s4
               obtain ⟨V, hV⟩ : ∃ V, V = ltF pr * valT t ch := ⟨_, rfl⟩
               rw [← hV] at kvx s3 s4 hE
               clear hV hEb
               go_wp2_with (fail)
               refine wp_region_b 11 (by kernel_rfl) (by kernel_rfl) ?_
               simp only [qqT, List.take_zero, qqD, List.drop_zero]
               iterate 11
                 apply pc_step rfl
                 · intro w8 hb8 K hK
                   have hT8 := hT7.below hb8 hT7.lt
                   have hM8 := hM7.below hb8 hM7.lt
                   have hS8 := hS7.below hb8 hS7.lt
                   have r0 : w8.cell? ⟨w.heap.size, 0, none⟩ = some (sv t.letters) := hT8.cell 0
                   have r1 : w8.cell? ⟨w.heap.size, 1, none⟩ = some (.slice A1 t.values.length c1) := hT8.cell 1
                   have r2 : w8.cell? ⟨w.heap.size, 2, none⟩ = some (.slice A2 t.counts.length c2) := hT8.cell 2
                   have r3 : w8.cell? ⟨w.heap.size, 3, none⟩ = some (.int .i64 t.blanks) := hT8.cell 3
                   have r4 : w8.cell? ⟨g3, 0, none⟩ = some (.int .i64 msz) := hM8.cell 0
                   have r5 : w8.cell? ⟨g3, 1, none⟩ = some (sv mp) := hM8.cell 1
                   have r6 : w8.cell? ⟨g3, 2, none⟩ = some (sv mc) := hM8.cell 2
                   have r7 : w8.cell? ⟨wr.heap.size, 0, none⟩ = some (.int .i64 sr) := hS8.cell 0
                   have r8 : w8.cell? ⟨wr.heap.size, 1, none⟩ = some (.int .i64 sc) := hS8.cell 1
                   go_wp2_with (first | (go_at_call 233; refine (kcc _).mono ?_; rintro e w5 ⟨rfl, hb5⟩) | (go_at_call 244; refine (kvx _ (hi7.below hb8)).mono ?_; rintro e w5 ⟨rfl, hb5⟩))
                   all_goals first | exact hb8 | exact hb8.trans (hb5.mono hb8.size) | exact hb8.trans (hd5.below.mono hb8.size)
                 simp only [Act.put, qqS, qqC, qqZ]
               refine pc_nil ?_
               intro w8 hb8
               go_wp2_with (fail)
               go_roundw
               case rel => exact ⟨j + 1, by omega, by go_num, vi_eq (by rw [hstep.out, hE.out]), hb17.trans (hb8.mono hb17.size)⟩
               case measure => simp [intOf]; omega
           · obtain rfl : j = L.length := by omega
             have hjj : ¬ (L.length : Int) < (L.length : Int) := by omega
             obtain ⟨T1, hT1⟩ : ∃ T1, T1 = F L.length := ⟨_, rfl⟩
             rw [← hT1] at hPk' s1 s2
             simp only [← hT1]
             obtain ⟨d1', d2'⟩ := wfL_all (l := [pr]) (by simp)
             have hrL := Reads.of_own (World.ownsRow_lit (base := wr.heap.size) (size := 1) (e := 5) wr #[bv pr] 1 (Nat.le_refl _) (by unfold maxLen; omega) rfl)
             have kwx := kwf (some ⟨wr.heap.size, 0, none⟩) 1 [pr] (wr.alloc (.cells #[bv pr] 5)) hrL (by simp)
             obtain ⟨D, hD⟩ : ∃ D, D = wfL [pr] := ⟨_, rfl⟩
             rw [← hD] at kwx d1' d2' hPk'
             clear hT1 hD hFb hFs hFe hF0 hSd' hrL
             have m5 : 0 ≤ T1 * D := Int.mul_nonneg s1 (by omega)
             have m6 : T1 * D ≤ 27550000000 := by
               have := Int.mul_le_mul s2 d2' (by omega) (by omega : (0 : Int) ≤ 1920)
               omega
             have m7 : IntKind.i64.wrap (T1 * D) = T1 * D := IntWalk.i64_in _ (by omega)
             have hlit1 := run_lit1 byteT (bv pr) #[bv pr] rfl rfl (by omega)
             have hlit2 := run_lit1 i64T (.int .i64 (T1 * D)) #[.int .i64 (T1 * D)] rfl rfl (by omega)
             have hbl := hbi.trans (((Below.refl wr.heap.size wr).alloc (Nat.le_refl _) (.cells #[bv pr] 5)).mono hbi.size)
             have owl := own_call ow' hbl
             have hwl := hw'.trans (hbl.mono hw'.size)
             have hwz := hwl.size
             have hral := hra'.below hbl
             have ownBl := own_call ownB' hbl
             have ownAl := own_call ownA' hbl
             have hMl := hM'.below hbl hM'.lt
             have hTl := hT'.below hbl hT'.lt
             have hBl := hB'.below hbl hB'.lt
             clear ow' hra' ownB' ownA' hM' hT' hB' hw' hrd' f0 f1
             go_wp2_with (first
               | (go_at_call 241; refine kwx.mono ?_; rintro e wx ⟨rfl, rfl⟩)
               | (at_builtin; refine wpList_app' i64T rfl (.tmp 102) (.tmp 108) rfl _ (k + 1) _ rfl w.heap.size owl [.int .i64 (T1 * D)] rfl (by simp [Value.oneCell']) (wr.heap.size + 1) (by simp) rfl (by omega) (by omega) hwz ?_; intro v6 w6 own6 hg6 hat6))
             go_roundw
             case rel => exact ⟨k + 1, by omega, by go_num, own_cast own6 (by rw [hPk'.out]; simp [xv]) rfl, hral.grow1 hg6 (hat6.imp id fun e => ⟨_, Nat.le_succ _, e⟩), own_grown ownBl owl (by decide) hg6, own_grown ownAl owl (by decide) hg6, hMl.grown hg6 (fun h => own_blk_ne owl hMl (by decide) h.symm), hTl.grown hg6 (fun h => own_blk_ne owl hTl (by decide) h.symm), hBl.grown hg6 (fun h => own_blk_ne owl hBl (by decide) h.symm), Below.own hwl hwl.size owl (Nat.le_refl _) hg6⟩
             case measure => simp [intOf]; omega
       · obtain rfl : k = X.length := by omega
         have hkk : ¬ (X.length : Int) < (X.length : Int) := by omega
         go_wp2_with (fail)
         go_ret
         exact ⟨_, rfl, own_cast ow (by rw [← hPl.out, List.take_length]) hPl.out.symm, hw⟩
theorem crI_bd {t : TS} (ho : TsOk t) (b : Bd) (q : Pl) (x : (Int × Int) × List (Int × Int)) (hx : x.2.length ≤ 32) : 0 ≤ crI t b q x ∧ crI t b q x ≤ 27550000000 := by
 have h1 := sum_bd (M := 60) (by omega) (l := x.2.map (sqI t b (madeB b q) x.1)) (fun y hy => by
   obtain ⟨s, _, rfl⟩ := List.mem_map.1 hy
   exact sqI_bd ho _ _ _ _)
 rw [List.length_map] at h1
 have h2 := wfL_all (l := [b.prm x.1.1 x.1.2]) (by simp)
 unfold crI
 have h3 : (x.2.map (sqI t b (madeB b q) x.1)).sum ≤ 1920 := by omega
 exact ⟨Int.mul_nonneg h1.1 (by omega), by
   have := Int.mul_le_mul h3 h2.2 (by omega) (by omega : (0 : Int) ≤ 1920)
   omega⟩
theorem partsI_mem {t : TS} (ho : TsOk t) (b : Bd) (q : Pl) (hl : q.word.length ≤ 15) : ∀ x ∈ partsI t b q, 0 ≤ x ∧ x ≤ 27550000000 := fun x hx => by
 unfold partsI at hx
 rcases List.mem_cons.1 hx with rfl | hx
 · have := mainI_bd ho b q hl
   omega
 · obtain ⟨y, hy, rfl⟩ := List.mem_map.1 hx
   exact crI_bd ho b q y (crossP_seq b q _ y hy)
theorem partsI_16 (t : TS) (b : Bd) (q : Pl) (hl : q.word.length ≤ 15) : (partsI t b q).length ≤ 16 := by
 have hN := newTo_length b q q.word.length
 change (newL b q).length ≤ _ at hN
 have := crossP_length b q (newL b q)
 rw [partsI_length]
 omega
theorem scorePlay_any (t : TS) (A1 A2 : Option Addr) (c1 c2 : Nat) (b : Bd) (q : Pl) (w : World) (hi : TsIn w t A1 A2) (ho : TsOk t) (hf : b.Fit) (ha : asciiB q.word = true) (hon : OnQ b q) (hl : q.word.length ≤ 15) (h1 : -400000000000 ≤ q.row) (h2 : q.row ≤ 400000000000) (h3 : -400000000000 ≤ q.col) (h4 : q.col ≤ 400000000000) :
   Calls Tryz.prog 93 #[t.v A1 c1 A2 c2, b.v, q.v] w fun e w' => e = .returned (.int .i64 (scoreI t b q)) ∧ Below w.heap.size w w' := by
 have hl32 : q.word.length ≤ 2 ^ 32 := by omega
 have kp := fun w hi => scoreParts_any t A1 A2 c1 c2 b q w hi ho hf ha hon hl h1 h2 h3 h4
 have kn := fun w => newSquares_any b q w hf ha hl32 h1 h2 h3 h4
 have hLs := fun k => sum_take_bd (M := 27550000000) (by omega) (partsI_mem ho b q hl) k
 have hLt := fun k (h : k < (partsI t b q).length) => sum_take h
 have hLl := partsI_16 t b q hl
 have hN := newTo_length b q q.word.length
 change (newL b q).length ≤ _ at hN
 have hdef : Hid (scoreI t b q = (partsI t b q).sum + if (newL b q).length = 7 then 50 else 0) := Lib.hid rfl
 obtain ⟨LS, hLS⟩ : ∃ LS, LS = partsI t b q := ⟨_, rfl⟩
 rw [← hLS] at kp hLs hLt hLl hdef
 obtain ⟨NL, hNL⟩ : ∃ NL, NL = newL b q := ⟨_, rfl⟩
 rw [← hNL] at kn hN hdef
 obtain ⟨R, hR⟩ : ∃ R, R = scoreI t b q := ⟨_, rfl⟩
 rw [← hR] at hdef ⊢
 obtain ⟨SQ, hSQ⟩ : ∃ SQ, SQ = sqL q NL := ⟨_, rfl⟩
 rw [← hSQ] at kn
 have hLs' := Lib.hid hLs
 have hLt' := Lib.hid hLt
 clear hLS hNL hR hSQ hLs hLt ho hf ha hon h1 h2 h3 h4
 obtain ⟨sz, bp, bc⟩ := b
 obtain ⟨qr, qc, qd, qw⟩ := q
 simp only [Bd.v, Pl.v, TS.v] at *
 obtain ⟨W, hW⟩ : ∃ W, W = (((w.alloc (.cells #[sv t.letters, .slice A1 t.values.length c1, .slice A2 t.counts.length c2, .int .i64 t.blanks] 39)).alloc (.cells #[.int .i64 sz, sv bp, sv bc] 41)).alloc (.cells #[.int .i64 qr, .int .i64 qc, .bool qd, sv qw] 61)) := ⟨_, rfl⟩
 have hB0 : Blk W (w.heap.size + 1) 41 #[.int .i64 sz, sv bp, sv bc] := by rw [hW]; exact (Blk.new1 w _ _ _).alloc _
 have hP0 : Blk W (w.heap.size + 1 + 1) 61 #[.int .i64 qr, .int .i64 qc, .bool qd, sv qw] := by rw [hW]; exact Blk.new2 w _ _ _ _
 have hbW : Below w.heap.size w W := by rw [hW]; exact (((Below.refl _ _).alloc (Nat.le_refl _) _).alloc (by simp) _).alloc (by simp; omega) _
 have hiW := hi.below hbW
 go_enter Tryz.func93, Tryz.ntmps93
 go_wp2_with (go_at_call 161; rw [← hW]; refine (kp _ hiW).mono ?_; rintro e w1 ⟨v1, rfl, own1, hb1⟩; obtain ⟨B1, d1, rfl, hd1, hr1⟩ := own_sl own1)
 have hw1 := hbW.trans (hb1.mono hbW.size)
 have hB1 := hB0.below hb1 hB0.lt
 have hP1 := hP0.below hb1 hP0.lt
 clear hW hB0 hP0 own1 hb1 kp hiW hbW
 go_loopw [7, 17] (fun o i wr => ∃ k : Nat, k ≤ LS.length ∧ i = .int .i64 k ∧ o = .int .i64 (LS.take k).sum ∧ wr = w1) (fun _ i _ => LS.length - (intOf i).toNat)
 case atStart => exact ⟨0, by omega, rfl, by simp, rfl⟩
 case round =>
   obtain ⟨k, hk, rfl, rfl, rfl⟩ := hrel
   obtain ⟨s1, s2⟩ := hLs'.out k
   by_cases hkl : k < LS.length
   · obtain ⟨ad, rfl, hadb, hc3⟩ := hr1.el hkl
     have hsm := Lib.hid (hLt'.out k hkl)
     obtain ⟨s3, s4⟩ := hLs'.out (k + 1)
     have hkk : (k : Int) < (LS.length : Int) := by omega
     simp only [xv] at hc3
     rw [hsm.out] at s3 s4
     obtain ⟨S, hS⟩ : ∃ S, S = (LS.take k).sum := ⟨_, rfl⟩
     rw [← hS] at s1 s2 s3 s4 hsm
     simp only [← hS]
     clear hS
     go_wp2_with (fail)
     go_roundw
     case rel => exact ⟨k + 1, by omega, by go_num, vi_eq (by rw [hsm.out]), trivial⟩
     case measure => simp [intOf]; omega
   · obtain rfl : k = LS.length := by omega
     have hlt' : ¬ (LS.length : Int) < (LS.length : Int) := by omega
     simp only [List.take_length] at s1 s2 ⊢
     obtain ⟨S, hS⟩ : ∃ S, S = LS.sum := ⟨_, rfl⟩
     rw [← hS] at s1 s2 hdef
     simp only [← hS]
     clear hS hLs' hLt'
     have x0 : wr.cell? ⟨w.heap.size + 1, 0, none⟩ = some (.int .i64 sz) := hB1.cell 0
     have x1 : wr.cell? ⟨w.heap.size + 1, 1, none⟩ = some (sv bp) := hB1.cell 1
     have x2 : wr.cell? ⟨w.heap.size + 1, 2, none⟩ = some (sv bc) := hB1.cell 2
     have x3 : wr.cell? ⟨w.heap.size + 1 + 1, 0, none⟩ = some (.int .i64 qr) := hP1.cell 0
     have x4 : wr.cell? ⟨w.heap.size + 1 + 1, 1, none⟩ = some (.int .i64 qc) := hP1.cell 1
     have x5 : wr.cell? ⟨w.heap.size + 1 + 1, 2, none⟩ = some (.bool qd) := hP1.cell 2
     have x6 : wr.cell? ⟨w.heap.size + 1 + 1, 3, none⟩ = some (sv qw) := hP1.cell 3
     by_cases hG7 : NL.length = 7
     · have hg : ((NL.length : Int) == 7) = true := by rw [hG7]; rfl
       have HG := Lib.hid hG7
       clear hG7
       go_wp2_with (go_at_call 157; refine (kn _).mono ?_; rintro e w3 ⟨v3, v4, rfl, own3, own4, hb3⟩; obtain ⟨A3, c3, rfl, _, _⟩ := own_sl own3)
       go_ret
       exact ⟨ret_int (by rw [hdef.out, if_pos HG.out]), hw1.trans (hb3.mono hw1.size)⟩
     · have hg : ((NL.length : Int) == 7) = false := by simp; omega
       have HG := Lib.hid hG7
       clear hG7
       go_wp2_with (go_at_call 157; refine (kn _).mono ?_; rintro e w3 ⟨v3, v4, rfl, own3, own4, hb3⟩; obtain ⟨A3, c3, rfl, _, _⟩ := own_sl own3)
       go_ret
       exact ⟨ret_int (by rw [hdef.out, if_neg HG.out]; simp), hw1.trans (hb3.mono hw1.size)⟩
end Go.Proofs.YtdkckikobefekaaGreatDoor
namespace Go.Proofs.YtdkckikobefekaaGreatDoor
open Go.Sort
def PlLt (a b : Pl) : Prop := (a.down = false ∧ b.down = true) ∨ (a.down = b.down ∧ (a.row < b.row ∨ (a.row = b.row ∧ (a.col < b.col ∨ (a.col = b.col ∧ a.word < b.word)))))
theorem cmpPl_pos (a b : Pl) : 0 < cmpPl a b ↔ PlLt b a := by
 unfold cmpPl PlLt sgn
 cases hd : (a.down == b.down)
 · have hne : a.down ≠ b.down := by simpa using hd
   cases ha : a.down <;> cases hb : b.down <;> simp_all
 · have he : a.down = b.down := by simpa using hd
   simp only [if_true]
   have hno : ¬ (b.down = false ∧ b.down = true) := fun h => by rw [h.1] at h; cases h.2
   simp only [he, true_and, hno, false_or]
   by_cases h1 : a.row = b.row
   · rw [if_pos h1, h1]
     by_cases h2 : a.col = b.col
     · rw [if_pos h2, h2]
       cases h3 : sLt a.word b.word
       · cases h4 : sLt b.word a.word
         · have := (sLt_no _ _).1 h4
           have h5 : ¬ b.word < a.word := List.not_lt.2 this
           simp [h5]
         · have := (sLt_iff _ _).1 h4
           simp [this]
       · have h5 := (sLt_iff _ _).1 h3
         have h6 : ¬ b.word < a.word := fun h => List.lt_irrefl _ (List.lt_trans h5 h)
         simp [h6]
     · rw [if_neg h2]
       have h2' : ¬ b.col = a.col := fun e => h2 e.symm
       simp only [Int.lt_irrefl, false_or, true_and, h2', false_and, or_false]
       by_cases h3 : a.col < b.col
       · rw [if_pos h3]; exact ⟨fun h => absurd h (by decide), fun h => absurd h (by omega)⟩
       · rw [if_neg h3]
         by_cases h4 : b.col < a.col
         · rw [if_pos h4]; simp [h4]
         · rw [if_neg h4]; omega
   · rw [if_neg h1]
     have h1' : ¬ b.row = a.row := fun e => h1 e.symm
     simp only [h1', false_and, or_false]
     by_cases h3 : a.row < b.row
     · rw [if_pos h3]; exact ⟨fun h => absurd h (by decide), fun h => absurd h (by omega)⟩
     · rw [if_neg h3]
       by_cases h4 : b.row < a.row
       · rw [if_pos h4]; simp [h4]
       · rw [if_neg h4]; omega
def NB (a b : Pl) : Prop := ltOf cmpP b a = false
theorem ltOf_iff (a b : Pl) : ltOf cmpP a b = true ↔ PlLt a b := by
 unfold ltOf
 rw [decide_eq_true_eq, cmpP_lt]
 exact Iff.rfl
theorem cmpPl_le (a b : Pl) : cmpPl a b ≤ 0 ↔ NB a b := by
 unfold NB
 rw [← Bool.not_eq_true, ltOf_iff, ← cmpPl_pos]
 omega
theorem NB.cases {a b : Pl} (h : NB a b) : ltOf cmpP a b = true ∨ a = b := by
 cases hl : ltOf cmpP a b
 · exact .inr (ltP_tri a b hl h)
 · exact .inl rfl
theorem NB.refl (a : Pl) : NB a a := by
 unfold NB
 rw [← Bool.not_eq_true]
 intro h
 have h2 := ltP_swo.1 a
 rw [h2] at h
 cases h
theorem ltP_asymm {a b : Pl} (h : ltOf cmpP a b = true) : ltOf cmpP b a = false := by
 rw [← Bool.not_eq_true]
 intro h2
 have h3 := ltP_trans _ _ _ h h2
 rw [ltP_swo.1 a] at h3
 cases h3
theorem NB.trans {a b c : Pl} (h1 : NB a b) (h2 : NB b c) : NB a c := by
 rcases h1.cases with h1 | rfl
 · rcases h2.cases with h2 | rfl
   · exact ltP_asymm (ltP_trans _ _ _ h1 h2)
   · exact ltP_asymm h1
 · exact h2
theorem NB.anti {a b : Pl} (h1 : NB a b) (h2 : NB b a) : a = b := ltP_tri a b h2 h1
theorem NB.total (a b : Pl) : NB a b ∨ NB b a := by
 cases h : ltOf cmpP b a
 · exact .inl h
 · exact .inr (ltP_asymm h)
theorem nb_unique : ∀ l l' : List Pl, l.Pairwise NB → l'.Pairwise NB → l.Perm l' → l = l'
 | [], l', _, _, h => (List.nil_perm.1 h).symm
 | a :: l, l', h1, h2, h => by
   match l', h2, h with
   | [], _, h => exact absurd h.length_eq (by simp)
   | b :: l', h2, h =>
     obtain ⟨ha, hl⟩ := List.pairwise_cons.1 h1
     obtain ⟨hb, hl'⟩ := List.pairwise_cons.1 h2
     have hab : a = b := by
       rcases List.mem_cons.1 (h.mem_iff.1 (List.mem_cons_self ..)) with e | e
       · exact e
       · rcases List.mem_cons.1 (h.mem_iff.2 (List.mem_cons_self ..)) with e' | e'
         · exact e'.symm
         · exact NB.anti (ha b e') (hb a e)
     subst hab
     rw [nb_unique l l' hl hl' (List.Perm.cons_inv h)]
theorem mrg_sorted : ∀ a b : List Pl, a.Pairwise NB → b.Pairwise NB → (mrg a b).Pairwise NB
 | a, [], h, _ => by simpa [mrg] using h
 | [], b :: r, _, h => by simpa [mrg] using h
 | x :: a, y :: b, h1, h2 => by
   obtain ⟨hx, ha⟩ := List.pairwise_cons.1 h1
   obtain ⟨hy, hb⟩ := List.pairwise_cons.1 h2
   rw [mrg]
   split
   · rename_i hle
     have hxy := (cmpPl_le x y).1 hle
     refine List.pairwise_cons.2 ⟨fun z hz => ?_, mrg_sorted a (y :: b) ha h2⟩
     rcases List.mem_append.1 ((mrg_perm a (y :: b)).mem_iff.1 hz) with hz | hz
     · exact hx z hz
     · rcases List.mem_cons.1 hz with e | hz
       · subst e; exact hxy
       · exact hxy.trans (hy z hz)
   · rename_i hle
     have hyx : NB y x := (NB.total x y).resolve_left fun h => hle ((cmpPl_le x y).2 h)
     refine List.pairwise_cons.2 ⟨fun z hz => ?_, mrg_sorted (x :: a) b h1 hb⟩
     rcases List.mem_append.1 ((mrg_perm (x :: a) b).mem_iff.1 hz) with hz | hz
     · rcases List.mem_cons.1 hz with e | hz
       · subst e; exact hyx
       · exact hyx.trans (hx z hz)
     · exact hy z hz
termination_by a b => a.length + b.length
theorem sortN_sorted : ∀ (n : Nat) (l : List Pl), l.length ≤ n → (sortN n l).Pairwise NB
 | 0, l, h => by
   have : l = [] := List.eq_nil_of_length_eq_zero (by omega)
   subst this
   exact List.Pairwise.nil
 | n + 1, l, h => by
   rw [sortN]
   split
   · match l with
     | [] => exact List.Pairwise.nil
     | [x] => exact List.pairwise_singleton _ _
     | _ :: _ :: _ => rename_i h2; simp at h2; omega
   · exact mrg_sorted _ _ (sortN_sorted n _ (by rw [List.length_take]; omega)) (sortN_sorted n _ (by rw [List.length_drop]; omega))
theorem sort_same {ps l : List Pl} (h : ps.Perm l) : ps.mergeSort (fun x y => !(ltOf cmpP) y x) = sortN l.length l := by
 refine nb_unique _ _ ?_ (sortN_sorted l.length l (Nat.le_refl _)) (((List.mergeSort_perm ps _).trans h).trans (sortN_perm _ _).symm)
 have := List.pairwise_mergeSort (le := fun x y : Pl => !(ltOf cmpP) y x) (fun a b c h1 h2 => by
   have h3 : NB a b := by unfold NB; simpa using h1
   have h4 : NB b c := by unfold NB; simpa using h2
   have h5 := h3.trans h4
   unfold NB at h5
   simpa using h5) (fun a b => by
   rcases NB.total a b with h | h <;> unfold NB at h <;> simp [h]) ps
 exact this.imp fun {a b} h => by unfold NB; simpa using h
end Go.Proofs.YtdkckikobefekaaGreatDoor
