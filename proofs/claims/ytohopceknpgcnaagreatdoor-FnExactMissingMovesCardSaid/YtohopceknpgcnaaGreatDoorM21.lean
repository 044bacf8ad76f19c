/-
  Plain law: one score of a play in both packages; the forms that the walks of the scores end in; Contracts: values of letters (layer 2 of the spec package); Contracts: premiums, scores of letters, factors (layer 13 of the spec package); Bounds of scores and of factors, in plain Lean; Moves (plays with scores) as rows of cells; what TryMoves answers; Contracts: equal plays, moves, lists of moves, where they are the same (the laws package); Contract: marks laid into a list of moves (the laws package); Contract: are the marks held in a list of moves, where they are (the laws package); The state of a region that draws its order and calls functions: of some operations it is told what holds of their values.
  Conditions: a valid board and play; a tile set lies in memory; lengths at most 2^40; a valid board and a valid tile set lie in memory; the square is on the board; none; both slices read as one list of moves; the list is the caller's own; a number of common size; the slice reads as a marked list; a number of common size.
-/
import Derived.Test.YtohopceknpgcnaaGreatDoorM20
import Derived.Test.YtohopceknpgcnaaGreatDoorM06
import Derived.Test.YtohopceknpgcnaaGreatDoorM04
import Derived.Test.YtohopceknpgcnaaGreatDoorM07
import Derived.Test.YtohopceknpgcnaaGreatDoorM10
import Derived.Test.YtohopceknpgcnaaGreatDoorM05
namespace Go.Proofs.YtohopceknpgcnaaGreatDoor
theorem tr_prm {b : Bd} (hf : b.Fit) {r c : Int} (h : b.inB c r = true) : b.tr.prm r c = b.prm c r := by
 rw [inB_iff] at h
 obtain ⟨⟨c0, c1⟩, r0, r1⟩ := h
 have h5 := hf.lo
 have h15 := hf.hi
 obtain ⟨n, hn⟩ : ∃ n : Nat, b.size = (n : Int) := ⟨b.size.toNat, by omega⟩
 obtain ⟨i, rfl⟩ : ∃ i : Nat, r = (i : Int) := ⟨r.toNat, by omega⟩
 obtain ⟨j, rfl⟩ : ∃ j : Nat, c = (j : Int) := ⟨c.toNat, by omega⟩
 have hi : i < n := by omega
 have hj : j < n := by omega
 show (turnS b.size.toNat b.prem).getD ((i : Int) * b.size + j).toNat 0 = b.prem.getD ((j : Int) * b.size + i).toNat 0
 rw [hn]
 have e1 : ((i : Int) * (n : Int) + (j : Int)).toNat = i * n + j := by
   rw [← Int.natCast_mul, ← Int.natCast_add, Int.toNat_natCast]
 have e2 : ((j : Int) * (n : Int) + (i : Int)).toNat = j * n + i := by
   rw [← Int.natCast_mul, ← Int.natCast_add, Int.toNat_natCast]
 have hlt : i * n + j < n * n := by
   have : (i + 1) * n ≤ n * n := Nat.mul_le_mul_right n hi
   rw [Nat.add_mul] at this
   omega
 rw [e1, e2, Int.toNat_natCast, turnS, turnTo_get n _ _ _ hlt]
 have m1 : (i * n + j) % n = j := by rw [Nat.mul_comm, Nat.mul_add_mod, Nat.mod_eq_of_lt hj]
 have m2 : (i * n + j) / n = i := by rw [Nat.mul_comm, Nat.mul_add_div (by omega), Nat.div_eq_of_lt hj, Nat.add_zero]
 rw [m1, m2]
theorem flat_prm {b : Bd} (hf : b.Fit) (q : Pl) {n : Int} (h : b.inB (q.sr n) (q.sc n) = true) : (flatB b q).prm (flatP q).row ((flatP q).col + n) = b.prm (q.sr n) (q.sc n) := by
 unfold flatB flatP Pl.sr Pl.sc at *
 cases hd : q.down
 · simp only [Bool.false_eq_true, if_false]
 · rw [hd] at h
   simp only [if_true] at h ⊢
   exact tr_prm hf h
def lsI (t : TS) (b : Bd) (q : Pl) : List Int := (List.range q.word.length).map fun i : Nat => if b.let_ (q.sr i) (q.sc i) then valT t (q.word.getD i 0) else ltF (b.prm (q.sr i) (q.sc i)) * valT t (q.word.getD i 0)
def pusI (b : Bd) (q : Pl) : Str := (newL b q).map fun i : Nat => b.prm (q.sr i) (q.sc i)
def sqI (t : TS) (b : Bd) (M : Bd) (a : Int × Int) (s : Int × Int) : Int := if s == a then ltF (b.prm a.1 a.2) * valT t (M.cell s.1 s.2) else valT t (M.cell s.1 s.2)
def crI (t : TS) (b : Bd) (q : Pl) (x : (Int × Int) × List (Int × Int)) : Int := (x.2.map (sqI t b (madeB b q) x.1)).sum * wfL [b.prm x.1.1 x.1.2]
def partsI (t : TS) (b : Bd) (q : Pl) : List Int := ((lsI t b q).sum * wfL (pusI b q)) :: (crossP b q (newL b q)).map (crI t b q)
def scoreI (t : TS) (b : Bd) (q : Pl) : Int := (partsI t b q).sum + if (newL b q).length = 7 then 50 else 0
def lsS (t : TS) (b : Bd) (q : Pl) : List Int := (List.range q.word.length).map fun i : Nat => if b.at_ q.row (q.col + i) == 46 then ltF (b.prm q.row (q.col + i)) * valT t (q.word.getD i 0) else valT t (q.word.getD i 0)
def mainF (b : Bd) (q : Pl) : Int := (freshL b q).foldl (fun a (i : Nat) => a * wdF (b.prm q.row (q.col + i))) 1
def crS (t : TS) (b : Bd) (q : Pl) (i : Nat) : Int :=
 ((List.range (crossAt b q i).length).map fun k : Nat => if ((upTo b (q.col + i) q.row.toNat : Nat) : Int) + k = q.row then ltF (b.prm q.row (q.col + i)) * valT t (q.word.getD i 0) else valT t ((crossAt b q i).getD k 0)).sum * wdF (b.prm q.row (q.col + i))
def partsS (t : TS) (b : Bd) (q : Pl) : List Int := ((lsS t b q).sum * mainF b q) :: ((freshL b q).filter fun i => decide (1 < (crossAt b q i).length)).map (crS t b q)
def scoreS (t : TS) (b : Bd) (q : Pl) : Int := (partsS t b q).sum + if (freshL b q).length = 7 then 50 else 0
section
variable {b : Bd} {q : Pl} {t : TS}
theorem ls_same (hb : bdB b = true) (hon : OnQ b q) : lsS t (flatB b q) (flatP q) = lsI t b q := by
 unfold lsS lsI
 rw [flatP_word]
 refine List.map_congr_left fun i hi => ?_
 have hin := hon i (List.mem_range.1 hi)
 rw [flat_at (bdB.fit hb) q hin, flat_prm (bdB.fit hb) q hin]
 unfold Bd.let_
 have hz := bdB_nz hb _ _ hin
 rw [← cell_in hin] at hz
 cases h46 : (b.cell (q.sr i) (q.sc i) == 46)
 · simp [hz]
 · simp
theorem main_same (hb : bdB b = true) (hon : OnQ b q) : mainF (flatB b q) (flatP q) = wfL (pusI b q) := by
 unfold mainF wfL pusI
 rw [fresh_new hb hon, List.foldl_map]
 have hlt : ∀ x ∈ newL b q, x < q.word.length := fun x hx => List.mem_range.1 (List.mem_filter.1 hx).1
 have key : ∀ (N : List Nat) (a : Int), (∀ x ∈ N, x < q.word.length) → N.foldl (fun a (i : Nat) => a * wdF ((flatB b q).prm (flatP q).row ((flatP q).col + i))) a = N.foldl (fun a (i : Nat) => a * wdF (b.prm (q.sr i) (q.sc i))) a := by
   intro N
   induction N with
   | nil => intro a _; rfl
   | cons x N ih =>
     intro a h
     rw [List.foldl_cons, List.foldl_cons, flat_prm (bdB.fit hb) q (hon x (h x (List.mem_cons_self ..)))]
     exact ih _ fun y hy => h y (List.mem_cons_of_mem _ hy)
 exact key _ 1 hlt
theorem seqGo_range (B : Bd) (d : Bool) (r c : Int) : ∀ (f : Nat) (n : Int), seqGo B d r c f n = (List.range (seqGo B d r c f n).length).map fun k : Nat => n + k
 | 0, n => by simp [seqGo]
 | f + 1, n => by
   rw [seqGo]
   split
   · rw [List.length_cons, List.range_succ_eq_map, List.map_cons, List.map_map]
     have ih := seqGo_range B d r c f (n + 1)
     congr 1
     · simp
     · conv => lhs; rw [ih]
       refine List.map_congr_left fun k _ => ?_
       show n + 1 + (k : Int) = n + ((k + 1 : Nat) : Int)
       omega
   · simp
theorem cr_same (hb : bdB b = true) (hon : OnQ b q) {i : Nat} (hi : i < q.word.length) (hw : lettB q.word = true) :
   crS t (flatB b q) (flatP q) i = crI t b q ((q.sr i, q.sc i), seqL (madeB b q) (!q.down) (q.sr i) (q.sc i)) := by
 have hff := flat_fit' (bdB.fit hb) q
 have hin := flat_rowB (b := b) q i
 rw [hon i hi, inB_iff] at hin
 have h15 := hff.hi
 obtain ⟨R, hR⟩ : ∃ R : Nat, (flatP q).row = (R : Int) := ⟨(flatP q).row.toNat, by omega⟩
 have hu := bef_up (i := i) hb hon hR R 0 16 (by omega) (by omega)
 have hw' := cross_seq hb hon hi hw
 unfold crS crI
 rw [hw', flat_prm (bdB.fit hb) q (hon i hi)]
 have e1 : wfL [b.prm (q.sr i) (q.sc i)] = wdF (b.prm (q.sr i) (q.sc i)) := by simp [wfL]
 simp only [e1]
 congr 2
 have hsl : (sqW (madeB b q) (seqL (madeB b q) (!q.down) (q.sr i) (q.sc i))).length = (seqN (madeB b q) (!q.down) (q.sr i) (q.sc i)).length := by simp [sqW, seqL]
 rw [hsl]
 have hsq : seqL (madeB b q) (!q.down) (q.sr i) (q.sc i) = (List.range (seqN (madeB b q) (!q.down) (q.sr i) (q.sc i)).length).map fun k : Nat => sqAt (!q.down) (q.sr i) (q.sc i) (-((befN (madeB b q) (!q.down) (q.sr i) (q.sc i) 16 0 : Nat) : Int) + k) := by
   unfold seqL
   conv => lhs; unfold seqN; rw [seqGo_range]
   rw [List.map_map]
   rfl
 generalize hn : (seqN (madeB b q) (!q.down) (q.sr i) (q.sc i)).length = n at hsq ⊢
 rw [hsq, List.map_map]
 refine List.map_congr_left fun k hk => ?_
 have hk := List.mem_range.1 hk
 have hz := across_zero (bdB.fit hb) hon hi
 have hat : sqAt (!q.down) (q.sr i) (q.sc i) 0 = (q.sr i, q.sc i) := by unfold sqAt; cases q.down <;> simp
 show _ = sqI t b (madeB b q) (q.sr i, q.sc i) (sqAt (!q.down) (q.sr i) (q.sc i) (-((befN (madeB b q) (!q.down) (q.sr i) (q.sc i) 16 0 : Nat) : Int) + k))
 have hgd : (sqW (madeB b q) ((List.range n).map fun k : Nat => sqAt (!q.down) (q.sr i) (q.sc i) (-((befN (madeB b q) (!q.down) (q.sr i) (q.sc i) 16 0 : Nat) : Int) + k))).getD k 0 = (madeB b q).cell (sqAt (!q.down) (q.sr i) (q.sc i) (-((befN (madeB b q) (!q.down) (q.sr i) (q.sc i) 16 0 : Nat) : Int) + k)).1 (sqAt (!q.down) (q.sr i) (q.sc i) (-((befN (madeB b q) (!q.down) (q.sr i) (q.sc i) 16 0 : Nat) : Int) + k)).2 := by
   unfold sqW
   rw [List.getD_eq_getElem?_getD, List.getElem?_map, List.getElem?_map, List.getElem?_range hk]
   rfl
 rw [hgd, hR, Int.toNat_natCast, flatP_word]
 unfold sqI
 generalize hm : -((befN (madeB b q) (!q.down) (q.sr i) (q.sc i) 16 0 : Nat) : Int) + (k : Int) = m at *
 by_cases h0 : m = 0
 · subst h0
   rw [if_pos (by omega), if_pos (by rw [hat]; simp), hz]
 · have hne : (sqAt (!q.down) (q.sr i) (q.sc i) m == (q.sr i, q.sc i)) = false := by
     rw [beq_eq_false_iff_ne]
     unfold sqAt
     cases q.down <;> simp <;> omega
   rw [if_neg (by omega), hne]
   rfl
theorem parts_same (hb : bdB b = true) (hon : OnQ b q) (hw : lettB q.word = true) : partsS t (flatB b q) (flatP q) = partsI t b q := by
 unfold partsS partsI
 rw [ls_same hb hon, main_same hb hon, fresh_new hb hon]
 congr 1
 have hlt : ∀ x ∈ newL b q, x < q.word.length := fun x hx => List.mem_range.1 (List.mem_filter.1 hx).1
 unfold crossP sqL
 generalize newL b q = N at hlt
 induction N with
 | nil => rfl
 | cons x N ih =>
   have ih := ih fun y hy => hlt y (List.mem_cons_of_mem _ hy)
   have hx := hlt x (List.mem_cons_self ..)
   have hlen : (crossAt (flatB b q) (flatP q) x).length = (seqL (madeB b q) (!q.down) (q.sr x) (q.sc x)).length := by rw [cross_seq hb hon hx hw]; simp [sqW]
   simp only [List.map_cons, List.filter_cons, hlen]
   by_cases h2 : 2 ≤ (seqL (madeB b q) (!q.down) (q.sr x) (q.sc x)).length
   · rw [if_pos (by simp; omega), if_pos (by simpa using h2), List.map_cons, List.map_cons, ih, cr_same hb hon hx hw]
   · rw [if_neg (by simp; omega), if_neg (by simpa using h2), ih]
theorem score_same (hb : bdB b = true) (hv : validI b q = true) : scoreS t (flatB b q) (flatP q) = scoreI t b q := by
 obtain ⟨hon, hw, _, _⟩ := validI_facts hv
 unfold scoreS scoreI
 rw [parts_same hb hon hw, fresh_new hb hon]
end
end Go.Proofs.YtohopceknpgcnaaGreatDoor
namespace Go.Proofs.YtohopceknpgcnaaGreatDoor
open Go.RowKit RegP RegL RegV
set_option maxHeartbeats 2000000
set_option maxRecDepth 100000
structure TsAt (w : World) (p : Addr) (t : TS) (A1 : Option Addr) (c1 : Nat) (A2 : Option Addr) (c2 : Nat) : Prop where
 x0 : w.cell? p = some (sv t.letters)
 x1 : w.cell? { block := p.block, off := p.off + 1 } = some (.slice A1 t.values.length c1)
 x2 : w.cell? { block := p.block, off := p.off + 2 } = some (.slice A2 t.counts.length c2)
 x3 : w.cell? { block := p.block, off := p.off + 3 } = some (.int .i64 t.blanks)
 inn : TsIn w t A1 A2
theorem TsAt.lt {w : World} {p : Addr} {t : TS} {A1 A2 : Option Addr} {c1 c2 : Nat} (h : TsAt w p t A1 c1 A2 c2) : p.block < w.heap.size := World.block_lt_of_cell? w p h.x0
theorem TsAt.below {w w' : World} {p : Addr} {t : TS} {A1 A2 : Option Addr} {c1 c2 : Nat} (h : TsAt w p t A1 c1 A2 c2) (hb : Below w.heap.size w w') : TsAt w' p t A1 c1 A2 c2 :=
 ⟨(hb.cell h.lt).trans h.x0, (hb.cell (show ({ block := p.block, off := p.off + 1 } : Addr).block < _ from h.lt)).trans h.x1, (hb.cell (show ({ block := p.block, off := p.off + 2 } : Addr).block < _ from h.lt)).trans h.x2, (hb.cell (show ({ block := p.block, off := p.off + 3 } : Addr).block < _ from h.lt)).trans h.x3, h.inn.below hb⟩
theorem TsAt.dr {w w' : World} {p : Addr} {t : TS} {A1 A2 : Option Addr} {c1 c2 : Nat} (h : TsAt w p t A1 c1 A2 c2) (hd : Dr w w') : TsAt w' p t A1 c1 A2 c2 := by
 obtain ⟨n, rfl⟩ := hd
 exact ⟨h.x0, h.x1, h.x2, h.x3, ⟨h.inn.r1, h.inn.r2⟩⟩
theorem findK_drop (s : Str) (c : UInt8) (k : Nat) (h : k < s.length) : findK (s.drop k) c = if s[k] == c then 0 else findK (s.drop (k + 1)) c + 1 := by
 rw [drop_cons s k h]
 rfl
theorem l02Find_any (p : Addr) (t : TS) (A1 A2 : Option Addr) (c1 c2 : Nat) (c : UInt8) (w : World) (hp : TsAt w p t A1 c1 A2 c2) (hl : t.letters.length ≤ 2 ^ 40) :
   Calls Tryz.prog 205 #[.pointer (some p), bv c] w fun e w' => e = .returned (.int .i64 (if findK t.letters c < t.letters.length then (findK t.letters c : Int) else -1)) ∧ w = w' := by
 have d0 := hp.x0
 obtain ⟨L, V, C, B⟩ := t
 simp only at *
 obtain ⟨F, hF⟩ : ∃ F, F = findK L c := ⟨_, rfl⟩
 rw [← hF]
 have hFh := Lib.hid hF
 obtain ⟨R, hR⟩ : ∃ R : Int, R = if F < L.length then (F : Int) else -1 := ⟨_, rfl⟩
 rw [← hR]
 have hRh := Lib.hid hR
 clear hF hp hR
 go_enter Tryz.func205, Tryz.ntmps205
 go_wp2_with (fail)
 go_loop [5] (fun i => ∃ k : Nat, k ≤ L.length ∧ i = .int .i64 k ∧ Hid (F = k + findK (L.drop k) c)) (fun i => L.length - (intOf i).toNat)
 case atStart => exact ⟨0, by omega, rfl, Lib.hid (by rw [hFh.out]; simp)⟩
 case round =>
   obtain ⟨k, hk, rfl, he⟩ := hrel
   by_cases hlt : k < L.length
   · have hd := Lib.hid (findK_drop L c k hlt)
     have hq : (((L[k]).toNat : Int) == (c.toNat : Int)) = (L[k] == c) := u8_eq L[k] c
     cases hc : (L[k] == c)
     all_goals
       rw [hc] at hq hd
       go_wp2_with (fail)
     · go_round
       case rel => exact ⟨k + 1, by omega, by go_num, Lib.hid (by rw [he.out, hd.out]; simp; omega)⟩
       case measure => simp [intOf]; omega
     · go_ret
       exact ⟨ret_int (by rw [hRh.out, he.out, hd.out]; simp [hlt]), rfl⟩
   · obtain rfl : k = L.length := by omega
     rw [drop_all L _ (Nat.le_refl _)] at he
     have hlt' : ¬ (L.length : Int) < (L.length : Int) := by omega
     go_wp2_with (fail)
     go_ret
     exact ⟨ret_int (by rw [hRh.out, he.out]; simp [findK]), rfl⟩
theorem l02Value_any (p : Addr) (t : TS) (A1 A2 : Option Addr) (c1 c2 : Nat) (c : UInt8) (w : World) (hp : TsAt w p t A1 c1 A2 c2) (hl : t.letters.length ≤ 2 ^ 40) (hv : t.values.length = t.letters.length) :
   Calls Tryz.prog 172 #[.pointer (some p), bv c] w fun e w' => e = .returned (.int .i64 (valT t c)) ∧ w = w' := by
 have kf := fun w h => l02Find_any p t A1 A2 c1 c2 c w h hl
 have d0 := hp.x1
 have r1 := hp.inn.r1
 unfold valT
 by_cases hlt : findK t.letters c < t.letters.length
 · rw [if_pos hlt]
   simp only [if_pos hlt] at kf
   obtain ⟨F, hF⟩ : ∃ F, F = findK t.letters c := ⟨_, rfl⟩
   rw [← hF] at kf hlt ⊢
   have hltV : F < t.values.length := by omega
   obtain ⟨a1, rfl, hab1, hx1⟩ := r1.el hltV
   have hv' : Hid (t.values.getD F 0 = t.values[F]) := Lib.hid (by rw [List.getD_eq_getElem?_getD, List.getElem?_eq_getElem hltV]; rfl)
   have j1 : (F : Int) < (t.values.length : Int) := by omega
   have j2 : (0 : Int) ≤ (F : Int) := by omega
   have hv40 : t.values.length ≤ 2 ^ 40 := by omega
   clear hF hv
   simp only [xv] at hx1
   have kf := kf w hp
   go_enter Tryz.func172, Tryz.ntmps172
   go_wp2_with (go_at_call 205; refine kf.mono ?_; rintro e w3 ⟨rfl, rfl⟩)
   go_ret
   exact ⟨ret_int hv'.out.symm, rfl⟩
 · rw [if_neg hlt]
   simp only [if_neg hlt] at kf
   have kf := kf w hp
   go_enter Tryz.func172, Tryz.ntmps172
   go_wp2_with (go_at_call 205; refine kf.mono ?_; rintro e w3 ⟨rfl, rfl⟩)
   go_ret
   exact ⟨rfl, rfl⟩
structure TsOk (t : TS) : Prop where
 len : t.letters.length ≤ 26
 vals : t.values.length = t.letters.length
 cnts : t.counts.length = t.letters.length
 lo : ∀ c, 0 ≤ valT t c
 hi : ∀ c, valT t c ≤ 20
theorem tsB_ok {t : TS} (h : tsB t = true) : TsOk t := by
 unfold tsB at h
 simp only [Bool.and_eq_true, decide_eq_true_eq] at h
 obtain ⟨h1, h2, h3, h4, h5, h6, h7⟩ := h
 have hb := vcB_sum t.values t.counts (by omega) h6
 have key : ∀ c, 0 ≤ valT t c ∧ valT t c ≤ 20 := fun c => by
   unfold valT
   split
   · rename_i hk
     have hk' : findK t.letters c < t.values.length := by omega
     rw [List.getD_eq_getElem?_getD, List.getElem?_eq_getElem hk']
     exact hb.2 _ (List.getElem_mem hk')
   · omega
 exact ⟨smFrom_26 h2, h3, h4, fun c => (key c).1, fun c => (key c).2⟩
theorem l13Premium_any (p : Addr) (b : Bd) (r c : Int) (w : World) (hp : BAt w p b) (hf : b.Fit) (hi : b.inB r c = true) :
   Calls Tryz.prog 204 #[.pointer (some p), .int .i64 r, .int .i64 c] w fun e w' => e = .returned (bv (b.prm r c)) ∧ Below w.heap.size w w' := by
 have h0 := hp.1
 have h2 := hp.2.1
 obtain ⟨⟨r0, r1⟩, c0, c1⟩ := inB_iff.1 hi
 obtain ⟨m0, m1, m2, m3, m4⟩ := mul_bounds hf.lo hf.hi r0 r1 c0 c1
 have h5 := hf.lo
 have h15 := hf.hi
 have hlen := hf.prem
 have m5 : r * b.size + c < (b.prem.length : Int) := by omega
 have m6 : IntKind.i64.wrap (r * b.size) = r * b.size := IntWalk.i64_in _ (by omega)
 obtain ⟨k, hk⟩ : ∃ k : Nat, r * b.size + c = (k : Int) := ⟨(r * b.size + c).toNat, by omega⟩
 have hat : b.prm r c = b.prem.getD k 0 := by rw [Bd.prm, hk]; rfl
 have m7 : IntKind.i64.wrap (r * b.size + c) = (k : Int) := by rw [hk]; exact IntWalk.i64_in _ (by omega)
 have hkl : k < b.prem.length := by omega
 have m8 : (k : Int) < (b.prem.length : Int) := by omega
 have m9 : (0 : Int) ≤ k := by omega
 rw [hat, show b.prem.getD k 0 = b.prem[k] by simp [List.getD, List.getElem?_eq_getElem hkl]]
 clear hat hk m5 hlen m3
 go_enter Tryz.func204, Tryz.ntmps204
 go_wp2_with (fail)
 go_quiet (fail)
 go_wp2
 go_ret
 exact ⟨rfl, Dr.below ⟨_, rfl⟩⟩
theorem l13Letter_any (pt p : Addr) (t : TS) (A1 A2 : Option Addr) (c1 c2 : Nat) (b : Bd) (r c : Int) (l : UInt8) (w : World) (ht : TsAt w pt t A1 c1 A2 c2) (hp : BAt w p b) (ho : TsOk t) (hf : b.Fit) (hi : b.inB r c = true) :
   Calls Tryz.prog 171 #[.pointer (some pt), .pointer (some p), .int .i64 r, .int .i64 c, bv l] w fun e w' => e = .returned (.int .i64 (ltF (b.prm r c) * valT t l)) ∧ Below w.heap.size w w' := by
 have kv := l02Value_any pt t A1 A2 c1 c2 l w ht (by have := ho.len; omega) ho.vals
 have kp := l13Premium_any p b r c w hp hf hi
 have v0 := ho.lo l
 have v20 := ho.hi l
 have hdef : Hid (ltF (b.prm r c) = if b.prm r c == 50 then 2 else if b.prm r c == 51 then 3 else 1) := Lib.hid rfl
 obtain ⟨P, hP⟩ : ∃ P, P = b.prm r c := ⟨_, rfl⟩
 obtain ⟨V, hV⟩ : ∃ V, V = valT t l := ⟨_, rfl⟩
 obtain ⟨F, hF⟩ : ∃ F, F = ltF (b.prm r c) := ⟨_, rfl⟩
 rw [← hF] at hdef ⊢
 rw [← hP] at kp hdef
 rw [← hV] at kv v0 v20 ⊢
 clear hP hV hF ho hf hi
 have q1 : ((P.toNat : Int) == 50) = (P == 50) := u8_eq P 50
 have q2 : ((P.toNat : Int) == 51) = (P == 51) := u8_eq P 51
 cases e1 : (P == 50)
 · cases e2 : (P == 51)
   all_goals
     rw [e1] at q1 hdef
     rw [e2] at q2 hdef
     go_enter Tryz.func171, Tryz.ntmps171
     go_wp2_with (first
       | (go_at_call 172; refine kv.mono ?_; rintro e w1 ⟨rfl, rfl⟩)
       | (go_at_call 204; refine kp.mono ?_; rintro e w2 ⟨rfl, hb⟩))
     go_ret
     exact ⟨ret_int (by rw [hdef.out]; simp), hb⟩
 · rw [e1] at q1 hdef
   go_enter Tryz.func171, Tryz.ntmps171
   go_wp2_with (first
     | (go_at_call 172; refine kv.mono ?_; rintro e w1 ⟨rfl, rfl⟩)
     | (go_at_call 204; refine kp.mono ?_; rintro e w2 ⟨rfl, hb⟩))
   go_ret
   exact ⟨ret_int (by rw [hdef.out]; simp), hb⟩
theorem l13Factor_any (p : Addr) (b : Bd) (r c : Int) (w : World) (hp : BAt w p b) (hf : b.Fit) (hi : b.inB r c = true) :
   Calls Tryz.prog 173 #[.pointer (some p), .int .i64 r, .int .i64 c] w fun e w' => e = .returned (.int .i64 (wdF (b.prm r c))) ∧ Below w.heap.size w w' := by
 have kp := l13Premium_any p b r c w hp hf hi
 have hdef : Hid (wdF (b.prm r c) = if b.prm r c == 100 then 2 else if b.prm r c == 116 then 3 else 1) := Lib.hid rfl
 obtain ⟨P, hP⟩ : ∃ P, P = b.prm r c := ⟨_, rfl⟩
 obtain ⟨F, hF⟩ : ∃ F, F = wdF (b.prm r c) := ⟨_, rfl⟩
 rw [← hF] at hdef ⊢
 rw [← hP] at kp hdef
 clear hP hF hf hi
 have q1 : ((P.toNat : Int) == 100) = (P == 100) := u8_eq P 100
 have q2 : ((P.toNat : Int) == 116) = (P == 116) := u8_eq P 116
 cases e1 : (P == 100)
 · cases e2 : (P == 116)
   all_goals
     rw [e1] at q1 hdef
     rw [e2] at q2 hdef
     go_enter Tryz.func173, Tryz.ntmps173
     go_wp2_with (go_at_call 204; refine kp.mono ?_; rintro e w2 ⟨rfl, hb⟩)
     go_ret
     exact ⟨ret_int (by rw [hdef.out]; simp), hb⟩
 · rw [e1] at q1 hdef
   go_enter Tryz.func173, Tryz.ntmps173
   go_wp2_with (go_at_call 204; refine kp.mono ?_; rintro e w2 ⟨rfl, hb⟩)
   go_ret
   exact ⟨ret_int (by rw [hdef.out]; simp), hb⟩
end Go.Proofs.YtohopceknpgcnaaGreatDoor
namespace Go.Proofs.YtohopceknpgcnaaGreatDoor
theorem OnB_len {b : Bd} (hf : b.Fit) {q : Pl} (h : OnB b q) : q.word.length ≤ 15 := by
 rcases Nat.eq_zero_or_pos q.word.length with h0 | h0
 · omega
 · have a0 := h 0 h0
   have a1 := h (q.word.length - 1) (by omega)
   rw [inB_iff] at a0 a1
   have := hf.hi
   omega
theorem wdF_bd (p : UInt8) : 1 ≤ wdF p ∧ wdF p ≤ 3 := by
 unfold wdF
 split
 · omega
 · split <;> omega
theorem ltF_bd (p : UInt8) : 1 ≤ ltF p ∧ ltF p ≤ 3 := by
 unfold ltF
 split
 · omega
 · split <;> omega
theorem wfL_step {l : Str} {k : Nat} (h : k < l.length) : wfL (l.take (k + 1)) = wfL (l.take k) * wdF l[k] := by
 unfold wfL
 rw [List.take_add_one, List.getElem?_eq_getElem h, List.foldl_append]
 rfl
theorem wfL_pow (l : Str) : ∀ k : Nat, 1 ≤ wfL (l.take k) ∧ wfL (l.take k) ≤ 3 ^ k
 | 0 => by simp [wfL]
 | k + 1 => by
   obtain ⟨h1, h2⟩ := wfL_pow l k
   by_cases h : k < l.length
   · rw [wfL_step h]
     obtain ⟨d1, d2⟩ := wdF_bd l[k]
     constructor
     · have := Int.mul_le_mul h1 d1 (by omega) (by omega : (0 : Int) ≤ wfL (l.take k))
       omega
     · rw [Int.pow_succ]
       exact Int.mul_le_mul h2 d2 (by omega) (by omega)
   · rw [List.take_of_length_le (by omega : l.length ≤ k + 1), ← List.take_of_length_le (by omega : l.length ≤ k)]
     rw [Int.pow_succ]
     omega
theorem wfL_bd {l : Str} (hl : l.length ≤ 15) (k : Nat) : 1 ≤ wfL (l.take k) ∧ wfL (l.take k) ≤ 14348907 := by
 by_cases hk : k ≤ 15
 · obtain ⟨h1, h2⟩ := wfL_pow l k
   refine ⟨h1, Int.le_trans h2 ?_⟩
   have h3 : (3 : Nat) ^ k ≤ 3 ^ 15 := Nat.pow_le_pow_right (by omega) hk
   have h4 : (3 : Int) ^ k = ((3 ^ k : Nat) : Int) := by push_cast; rfl
   rw [h4]
   have : (3 : Nat) ^ 15 = 14348907 := by decide
   omega
 · obtain ⟨h1, h2⟩ := wfL_pow l 15
   rw [List.take_of_length_le (by omega)] at h1 h2 ⊢
   exact ⟨h1, by simpa using h2⟩
theorem wfL_all {l : Str} (hl : l.length ≤ 15) : 1 ≤ wfL l ∧ wfL l ≤ 14348907 := by
 have := wfL_bd hl l.length
 rwa [List.take_length] at this
theorem sum_bd {M : Int} (hM : 0 ≤ M) : ∀ {l : List Int}, (∀ x ∈ l, 0 ≤ x ∧ x ≤ M) → 0 ≤ l.sum ∧ l.sum ≤ M * l.length
 | [], _ => by simp
 | x :: r, h => by
   obtain ⟨h1, h2⟩ := h x (List.mem_cons_self ..)
   obtain ⟨h3, h4⟩ := sum_bd hM (l := r) fun y hy => h y (List.mem_cons_of_mem _ hy)
   rw [List.sum_cons, List.length_cons]
   refine ⟨by omega, ?_⟩
   have : M * ((r.length + 1 : Nat) : Int) = M * r.length + M := by push_cast; rw [Int.mul_add, Int.mul_one]
   omega
theorem sum_take_bd {M : Int} (hM : 0 ≤ M) {l : List Int} (h : ∀ x ∈ l, 0 ≤ x ∧ x ≤ M) (k : Nat) : 0 ≤ (l.take k).sum ∧ (l.take k).sum ≤ M * l.length := by
 obtain ⟨h1, h2⟩ := sum_bd hM (l := l.take k) fun x hx => h x (List.mem_of_mem_take hx)
 refine ⟨h1, Int.le_trans h2 (Int.mul_le_mul_of_nonneg_left ?_ hM)⟩
 have := List.length_take_le' k l
 omega
theorem lt_val {t : TS} (ho : TsOk t) (p c : UInt8) : 0 ≤ ltF p * valT t c ∧ ltF p * valT t c ≤ 60 := by
 obtain ⟨h1, h2⟩ := ltF_bd p
 have h3 := ho.lo c
 have h4 := ho.hi c
 refine ⟨Int.mul_nonneg (by omega) h3, ?_⟩
 have := Int.mul_le_mul h2 h4 h3 (by omega : (0 : Int) ≤ 3)
 omega
theorem lsS_mem {t : TS} (ho : TsOk t) (b : Bd) (q : Pl) : ∀ x ∈ lsS t b q, 0 ≤ x ∧ x ≤ 60 := fun x hx => by
 unfold lsS at hx
 obtain ⟨i, _, rfl⟩ := List.mem_map.1 hx
 split
 · exact lt_val ho _ _
 · have h3 := ho.lo (q.word.getD i 0)
   have h4 := ho.hi (q.word.getD i 0)
   omega
theorem lsS_length (t : TS) (b : Bd) (q : Pl) : (lsS t b q).length = q.word.length := by simp [lsS]
theorem mainF_wf (b : Bd) (q : Pl) : mainF b q = wfL ((freshL b q).map fun i : Nat => b.prm q.row (q.col + i)) := by
 unfold mainF wfL
 rw [List.foldl_map]
theorem freshL_15 {b : Bd} (hf : b.Fit) {q : Pl} (h : OnB b q) : (freshL b q).length ≤ 15 := Nat.le_trans (freshTo_length b q _) (OnB_len hf h)
def crE (t : TS) (b : Bd) (q : Pl) (i k : Nat) : Int := if ((upTo b (q.col + i) q.row.toNat : Nat) : Int) + k = q.row then ltF (b.prm q.row (q.col + i)) * valT t (q.word.getD i 0) else valT t ((crossAt b q i).getD k 0)
def crTo (t : TS) (b : Bd) (q : Pl) (i m : Nat) : Int := ((List.range m).map (crE t b q i)).sum
theorem crS_to (t : TS) (b : Bd) (q : Pl) (i : Nat) : crS t b q i = crTo t b q i (crossAt b q i).length * wdF (b.prm q.row (q.col + i)) := rfl
theorem crTo_step (t : TS) (b : Bd) (q : Pl) (i m : Nat) : crTo t b q i (m + 1) = crTo t b q i m + crE t b q i m := by
 unfold crTo
 rw [List.range_succ, List.map_append, List.sum_append]
 simp
theorem crE_bd {t : TS} (ho : TsOk t) (b : Bd) (q : Pl) (i k : Nat) : 0 ≤ crE t b q i k ∧ crE t b q i k ≤ 60 := by
 unfold crE
 split
 · exact lt_val ho _ _
 · have h3 := ho.lo ((crossAt b q i).getD k 0)
   have h4 := ho.hi ((crossAt b q i).getD k 0)
   omega
theorem crTo_bd {t : TS} (ho : TsOk t) (b : Bd) (q : Pl) (i m : Nat) : 0 ≤ crTo t b q i m ∧ crTo t b q i m ≤ 60 * m := by
 obtain ⟨h1, h2⟩ := sum_bd (M := 60) (by omega) (l := (List.range m).map (crE t b q i)) fun x hx => by
   obtain ⟨k, _, rfl⟩ := List.mem_map.1 hx
   exact crE_bd ho b q i k
 rw [List.length_map, List.length_range] at h2
 exact ⟨h1, h2⟩
theorem crS_bd {t : TS} (ho : TsOk t) (b : Bd) (q : Pl) (i : Nat) : 0 ≤ crS t b q i ∧ crS t b q i ≤ 2880 := by
 rw [crS_to]
 obtain ⟨h1, h2⟩ := crTo_bd ho b q i (crossAt b q i).length
 have hl : (crossAt b q i).length ≤ 16 := crossS_length _ _ _ _
 obtain ⟨d1, d2⟩ := wdF_bd (b.prm q.row (q.col + i))
 refine ⟨Int.mul_nonneg h1 (by omega), ?_⟩
 have := Int.mul_le_mul (show crTo t b q i (crossAt b q i).length ≤ 960 by omega) d2 (by omega) (by omega : (0 : Int) ≤ 960)
 omega
theorem main_bd {t : TS} (ho : TsOk t) {b : Bd} (hf : b.Fit) {q : Pl} (h : OnB b q) : 0 ≤ (lsS t b q).sum * mainF b q ∧ (lsS t b q).sum * mainF b q ≤ 13000000000 := by
 obtain ⟨h1, h2⟩ := sum_bd (M := 60) (by omega) (lsS_mem ho b q)
 rw [lsS_length] at h2
 have hl := OnB_len hf h
 obtain ⟨d1, d2⟩ := wfL_all (l := (freshL b q).map fun i : Nat => b.prm q.row (q.col + i)) (by rw [List.length_map]; exact freshL_15 hf h)
 rw [← mainF_wf] at d1 d2
 refine ⟨Int.mul_nonneg h1 (by omega), ?_⟩
 have := Int.mul_le_mul (show (lsS t b q).sum ≤ 900 by omega) d2 (by omega) (by omega : (0 : Int) ≤ 900)
 omega
theorem partsS_mem {t : TS} (ho : TsOk t) {b : Bd} (hf : b.Fit) {q : Pl} (h : OnB b q) : ∀ x ∈ partsS t b q, 0 ≤ x ∧ x ≤ 13000000000 := fun x hx => by
 unfold partsS at hx
 rcases List.mem_cons.1 hx with e | hx
 · subst e; exact main_bd ho hf h
 · obtain ⟨i, _, rfl⟩ := List.mem_map.1 hx
   obtain ⟨h1, h2⟩ := crS_bd ho b q i
   omega
theorem partsS_length {t : TS} {b : Bd} (hf : b.Fit) {q : Pl} (h : OnB b q) : (partsS t b q).length ≤ 16 := by
 unfold partsS
 rw [List.length_cons, List.length_map]
 have h1 := List.length_filter_le (fun i => decide (1 < (crossAt b q i).length)) (freshL b q)
 have h2 := freshL_15 hf h
 omega
def partsTo (t : TS) (b : Bd) (q : Pl) (k : Nat) : List Int := ((lsS t b q).sum * mainF b q) :: (((freshL b q).take k).filter fun i => decide (1 < (crossAt b q i).length)).map (crS t b q)
theorem partsS_to (t : TS) (b : Bd) (q : Pl) : partsS t b q = partsTo t b q (freshL b q).length := by
 unfold partsS partsTo
 rw [List.take_length]
theorem partsTo_step (t : TS) (b : Bd) (q : Pl) (k : Nat) (h : k < (freshL b q).length) : partsTo t b q (k + 1) = if decide (1 < (crossAt b q (freshL b q)[k]).length) then partsTo t b q k ++ [crS t b q (freshL b q)[k]] else partsTo t b q k := by
 unfold partsTo
 rw [List.take_add_one, List.getElem?_eq_getElem h, List.filter_append]
 by_cases hx : 1 < (crossAt b q (freshL b q)[k]).length
 · simp [hx]
 · simp [hx]
end Go.Proofs.YtohopceknpgcnaaGreatDoor
namespace Go.Proofs.YtohopceknpgcnaaGreatDoor
open Go.RowKit RegP RegL RegV
abbrev Mv := Pl × Int
def mvC (m : Mv) : List Value := [.int .i64 m.1.row, .int .i64 m.1.col, .bool m.1.down, sv m.1.word, .int .i64 m.2]
def mvsC (ms : List Mv) : List Value := ms.flatMap mvC
theorem mvsC_append (a b : List Mv) : mvsC (a ++ b) = mvsC a ++ mvsC b := by simp [mvsC]
theorem mvsC_one (p : Mv) : mvsC [p] = mvC p := by simp [mvsC]
theorem mvsC_length (a : List Mv) : (mvsC a).length = a.length * 5 := by
 induction a with
 | nil => rfl
 | cons p r ih =>
   show (mvC p ++ mvsC r).length = _
   rw [List.length_append, ih, List.length_cons]
   show 5 + r.length * 5 = (r.length + 1) * 5
   omega
theorem mvsC_get (ps : List Mv) (k j : Nat) (h : k < ps.length) (hj : j < 5) : (mvsC ps)[k * 5 + j]? = (mvC ps[k])[j]? := by
 induction ps generalizing k with
 | nil => simp at h
 | cons p r ih =>
   have hl : (mvC p).length = 5 := rfl
   show (mvC p ++ mvsC r)[_]? = _
   cases k with
   | zero => rw [List.getElem?_append_left (by omega)]; simp
   | succ k =>
     rw [List.getElem?_append_right (by omega), hl, show (k + 1) * 5 + j - 5 = k * 5 + j by omega, ih k (by simpa using h)]
     rfl
theorem Reads.mv {w : World} {B g o : Nat} {ps : List Mv} (h : Reads w B 5 (some ⟨g, o, none⟩) ps.length (mvsC ps)) {k : Nat} (hk : k < ps.length) :
   w.cell? ⟨g, o + k * 5, none⟩ = some (.int .i64 ps[k].1.row) ∧ w.cell? ⟨g, o + k * 5 + 1, none⟩ = some (.int .i64 ps[k].1.col) ∧ w.cell? ⟨g, o + k * 5 + 2, none⟩ = some (.bool ps[k].1.down) ∧ w.cell? ⟨g, o + k * 5 + 3, none⟩ = some (sv ps[k].1.word) ∧ w.cell? ⟨g, o + k * 5 + 4, none⟩ = some (.int .i64 ps[k].2) := by
 obtain ⟨ad, e, _, hc⟩ := h.2 (by omega)
 injection e with e
 subst e
 have hadd : ∀ n, (⟨g, o, none⟩ : Addr).add n = ⟨g, o + n, none⟩ := fun n => by unfold Addr.add; split <;> simp_all
 have h0 := hc (k * 5 + 0) _ (by rw [mvsC_get ps k 0 hk (by omega)]; rfl)
 have h1 := hc (k * 5 + 1) _ (by rw [mvsC_get ps k 1 hk (by omega)]; rfl)
 have h2 := hc (k * 5 + 2) _ (by rw [mvsC_get ps k 2 hk (by omega)]; rfl)
 have h3 := hc (k * 5 + 3) _ (by rw [mvsC_get ps k 3 hk (by omega)]; rfl)
 have h4 := hc (k * 5 + 4) _ (by rw [mvsC_get ps k 4 hk (by omega)]; rfl)
 rw [hadd] at h0 h1 h2 h3 h4
 exact ⟨h0, h1, h2, h3, h4⟩
theorem moveT : SlT Tryz.prog 33 72 (.agg #[.int .i64 0, .int .i64 0, .bool false, sv [], .int .i64 0]) 5 48 := ⟨Tryz.underlying33, by kernel_rfl, rfl, by decide⟩
def movesL (t : TS) (b : Bd) (ws : List Str) (rack : Str) : List Mv := (playsL b ws rack).map fun p => (p, scoreS t (flatB b p) (flatP p))
def movesCode (t : TS) (b : Bd) (ws : List Str) (rack : Str) : Int := if tsB t then playsCode b ws rack else 1
theorem movesL_length (t : TS) (b : Bd) (ws : List Str) (rack : Str) : (movesL t b ws rack).length = (playsL b ws rack).length := List.length_map ..
theorem plays_400 {b : Bd} {ws : List Str} {rack : Str} (hc : playsCode b ws rack = 0) : (playsL b ws rack).length ≤ 400 := by
 rw [playsL_length]
 unfold playsCode at hc
 split at hc
 · split at hc
   · cases hc
   · omega
 · cases hc
theorem movesL_take (t : TS) (b : Bd) (ws : List Str) (rack : Str) (k : Nat) (h : k < (playsL b ws rack).length) :
   (movesL t b ws rack).take (k + 1) = (movesL t b ws rack).take k ++ [((playsL b ws rack)[k], scoreS t (flatB b (playsL b ws rack)[k]) (flatP (playsL b ws rack)[k]))] := by
 have h' : k < (movesL t b ws rack).length := by rw [movesL_length]; exact h
 rw [List.take_succ_eq_append_getElem h']
 simp [movesL]
def MovesPost (w : World) (t : TS) (b : Bd) (ws : List Str) (rack : Str) (e : Ending) (w' : World) : Prop :=
 ∃ v, e = .returned (.tuple #[v, .int .i64 (movesCode t b ws rack)]) ∧ (movesCode t b ws rack = 0 → w'.ownsRow w.heap.size 72 5 v (movesL t b ws rack).length (mvsC (movesL t b ws rack))) ∧ (movesCode t b ws rack ≠ 0 → v = .slice none 0 0) ∧ Below w.heap.size w w'
theorem MovesPost.no {w w' : World} {t : TS} {b : Bd} {ws : List Str} {rack : Str} {c : Int} (h : movesCode t b ws rack = c) (hc : c ≠ 0) (hb : Below w.heap.size w w') : MovesPost w t b ws rack (.returned (.tuple #[.slice none 0 0, .int .i64 c])) w' :=
 ⟨_, by rw [h], fun h2 => absurd (h ▸ h2) hc, fun _ => rfl, hb⟩
theorem MovesPost.yes {w w' : World} {t : TS} {b : Bd} {ws : List Str} {rack : Str} {v : Value} (h : movesCode t b ws rack = 0) (hv : w'.ownsRow w.heap.size 72 5 v (movesL t b ws rack).length (mvsC (movesL t b ws rack))) (hb : Below w.heap.size w w') : MovesPost w t b ws rack (.returned (.tuple #[v, .int .i64 0])) w' :=
 ⟨v, by rw [h], fun _ => hv, fun h2 => absurd h h2, hb⟩
set_option maxHeartbeats 2000000
set_option maxRecDepth 100000
def mvV (m : Mv) : Value := .agg #[.int .i64 m.1.row, .int .i64 m.1.col, .bool m.1.down, sv m.1.word, .int .i64 m.2]
theorem eqPlay_same (q : Pl) (w : World) :
   Calls Tryz.prog 65 #[q.v, q.v] w fun e w' => e = .returned (.bool true) ∧ Below w.heap.size w w' := by
 obtain ⟨r, c, d, s⟩ := q
 simp only [Pl.v]
 have hb := ((Below.refl w.heap.size w).alloc (Nat.le_refl _) (.cells #[.int .i64 r, .int .i64 c, .bool d, sv s] 69)).alloc (by simp) (.cells #[.int .i64 r, .int .i64 c, .bool d, sv s] 69)
 have h1 : (r != r) = false := by simp
 have h2 : (c != c) = false := by simp
 have h3 : (d != d) = false := by simp
 have h4 : (s == s) = true := by simp
 go_enter Tryz.func65, Tryz.ntmps65
 go_wp2_with (fail)
 go_ret
 exact ⟨rfl, hb⟩
theorem eqMove_same (m : Mv) (w : World) :
   Calls Tryz.prog 35 #[mvV m, mvV m] w fun e w' => e = .returned (.bool true) ∧ Below w.heap.size w w' := by
 have kp := fun w => eqPlay_same m.1 w
 obtain ⟨⟨r, c, d, s⟩, x⟩ := m
 simp only [Pl.v, mvV] at *
 obtain ⟨W, hW⟩ : ∃ W, W = (w.alloc (.cells #[.int .i64 r, .int .i64 c, .bool d, sv s, .int .i64 x] 72)).alloc (.cells #[.int .i64 r, .int .i64 c, .bool d, sv s, .int .i64 x] 72) := ⟨_, rfl⟩
 have hb : Below w.heap.size w W := by rw [hW]; exact ((Below.refl _ _).alloc (Nat.le_refl _) _).alloc (by simp) _
 have hX : Blk W w.heap.size 72 #[.int .i64 r, .int .i64 c, .bool d, sv s, .int .i64 x] := by rw [hW]; exact (Blk.new w _ _).alloc _
 have hY : Blk W (w.heap.size + 1) 72 #[.int .i64 r, .int .i64 c, .bool d, sv s, .int .i64 x] := by rw [hW]; exact Blk.new1 w _ _ _
 have h1 : (x != x) = false := by simp
 go_enter Tryz.func35, Tryz.ntmps35
 go_wp2_with (go_at_call 65; rw [← hW]; refine (kp _).mono ?_; rintro e w1 ⟨rfl, hb1⟩
              have hX1 := hX.below hb1 hX.lt
              have hY1 := hY.below hb1 hY.lt
              have x4 : w1.cell? ⟨w.heap.size, 4, none⟩ = some (.int .i64 x) := hX1.cell 4
              have y4 : w1.cell? ⟨w.heap.size + 1, 4, none⟩ = some (.int .i64 x) := hY1.cell 4)
 go_ret
 exact ⟨rfl, hb.trans (hb1.mono hb.size)⟩
theorem eqMoveS_same (A1 A2 : Option Addr) (c1 c2 : Nat) (ms : List Mv) (w : World) (h1 : Reads w w.heap.size 5 A1 ms.length (mvsC ms)) (h2 : Reads w w.heap.size 5 A2 ms.length (mvsC ms)) (hf1 : ∀ ad, A1 = some ad → ∃ g, ad = ⟨g, 0, none⟩) (hf2 : ∀ ad, A2 = some ad → ∃ g, ad = ⟨g, 0, none⟩) (hn : ms.length ≤ 2 ^ 40) :
   Calls Tryz.prog 14 #[.slice A1 ms.length c1, .slice A2 ms.length c2] w fun e w' => e = .returned (.bool true) ∧ Below w.heap.size w w' := by
 have hl1 : ((ms.length : Int) != (ms.length : Int)) = false := by simp
 go_enter Tryz.func14, Tryz.ntmps14
 go_wp2_with (fail)
 go_loopw [5] (fun i wr => ∃ k : Nat, k ≤ ms.length ∧ i = .int .i64 k ∧ Below w.heap.size w wr) (fun i _ => ms.length - (intOf i).toNat)
 case atStart => exact ⟨0, by omega, rfl, Below.refl _ _⟩
 case round =>
   obtain ⟨k, hk, rfl, hb⟩ := hrel
   by_cases hkl : k < ms.length
   · have r1 := (h1.below hb).more hb.size
     have r2 := (h2.below hb).more hb.size
     obtain ⟨ad1, e1, hd1, _⟩ := r1.2 (by omega)
     obtain ⟨g1, rfl⟩ := hf1 ad1 e1
     obtain ⟨ad2, e2, hd2, _⟩ := r2.2 (by omega)
     obtain ⟨g2, rfl⟩ := hf2 ad2 e2
     subst e1 e2
     obtain ⟨x0, x1, x2, x3, x4⟩ := r1.mv hkl
     obtain ⟨y0, y1, y2, y3, y4⟩ := r2.mv hkl
     simp only [Nat.zero_add] at x0 x1 x2 x3 x4 y0 y1 y2 y3 y4
     have km := fun w => eqMove_same ms[k] w
     obtain ⟨m, hm⟩ : ∃ m, m = ms[k] := ⟨_, rfl⟩
     rw [← hm] at km x0 x1 x2 x3 x4 y0 y1 y2 y3 y4
     clear hm r1 r2
     obtain ⟨⟨r, c, d, s⟩, x⟩ := m
     simp only [mvV] at km x0 x1 x2 x3 x4 y0 y1 y2 y3 y4
     have hg1 : g1 < wr.heap.size := hd1
     have hg2 : g2 < wr.heap.size := hd2
     have hkk : (k : Int) < (ms.length : Int) := by omega
     have hk0 : (0 : Int) ≤ (k : Int) := by omega
     go_wp2_with (fail)
     refine wp_region_b 10 (by kernel_rfl) (by kernel_rfl) ?_
     simp only [qqT, List.take_zero, qqD, List.drop_zero]
     iterate 10
       apply pc_step rfl
       · intro w4 hb4 K hK
         have a0 := (hb4.cell (p := ⟨g1, k * 5, none⟩) hg1).trans x0
         have a1 := (hb4.cell (p := ⟨g1, k * 5 + 1, none⟩) hg1).trans x1
         have a2 := (hb4.cell (p := ⟨g1, k * 5 + 2, none⟩) hg1).trans x2
         have a3 := (hb4.cell (p := ⟨g1, k * 5 + 3, none⟩) hg1).trans x3
         have a4 := (hb4.cell (p := ⟨g1, k * 5 + 4, none⟩) hg1).trans x4
         have b0 := (hb4.cell (p := ⟨g2, k * 5, none⟩) hg2).trans y0
         have b1 := (hb4.cell (p := ⟨g2, k * 5 + 1, none⟩) hg2).trans y1
         have b2 := (hb4.cell (p := ⟨g2, k * 5 + 2, none⟩) hg2).trans y2
         have b3 := (hb4.cell (p := ⟨g2, k * 5 + 3, none⟩) hg2).trans y3
         have b4 := (hb4.cell (p := ⟨g2, k * 5 + 4, none⟩) hg2).trans y4
         go_wp2_with (first | (go_at_call 35; refine (km _).mono ?_; rintro e w5 ⟨rfl, hb5⟩))
         all_goals first | exact hb4 | exact hb4.trans (hb5.mono hb4.size) | exact hb4.trans (hd5.below.mono hb4.size)
       simp only [Act.put, qqS, qqC, qqZ]
     refine pc_nil ?_
     intro w4 hb4
     have hb5 := hb.trans (hb4.mono hb.size)
     go_wp2_with (fail)
     go_roundw
     case rel => exact ⟨k + 1, by omega, by go_num, hb5⟩
     case measure => simp [intOf]; omega
   · obtain rfl : k = ms.length := by omega
     have hkk : ¬ (ms.length : Int) < (ms.length : Int) := by omega
     go_wp2_with (fail)
     go_ret
     exact ⟨rfl, hb⟩
def markMv (k : Nat) : Mv := (⟨(k : Int), (k : Int) + 1, (k + 2) % 3 == 0, markT (k + 3)⟩, (k : Int) + 4)
def marksM (k n : Nat) : List Mv := (List.range n).map fun i => markMv (k + 5 * i)
theorem marksM_length (k n : Nat) : (marksM k n).length = n := by simp [marksM]
theorem marksM_succ (k n : Nat) : marksM k (n + 1) = marksM k n ++ [markMv (k + 5 * n)] := by simp [marksM, List.range_succ]
def markToM (ms : List Mv) (k j : Nat) : List Value := mvsC (marksM k j) ++ mvsC (ms.drop j)
theorem markToM_length (ms : List Mv) (k j : Nat) (h : j ≤ ms.length) : (markToM ms k j).length = ms.length * 5 := by
 unfold markToM
 rw [List.length_append, mvsC_length, mvsC_length, marksM_length, List.length_drop]
 omega
theorem set5 (X R : List Value) (o0 o1 o2 o3 o4 a b c d e : Value) (n : Nat) (h : X.length = n) :
   (((((X ++ o0 :: o1 :: o2 :: o3 :: o4 :: R).set n a).set (n + 1) b).set (n + 2) c).set (n + 3) d).set (n + 4) e = X ++ a :: b :: c :: d :: e :: R := by
 subst h
 simp
theorem markToM_step (ms : List Mv) (k j : Nat) (h : j < ms.length) :
   (((((markToM ms k j).set (j * 5) (.int .i64 ((k + 5 * j : Nat) : Int))).set (j * 5 + 1) (.int .i64 (((k + 5 * j : Nat) : Int) + 1))).set (j * 5 + 2) (.bool ((k + 5 * j + 2) % 3 == 0))).set (j * 5 + 3) (sv (markT (k + 5 * j + 3)))).set (j * 5 + 4) (.int .i64 (((k + 5 * j : Nat) : Int) + 4)) = markToM ms k (j + 1) := by
 unfold markToM
 rw [drop_cons ms j h, marksM_succ, mvsC_append, mvsC_one]
 show (((((mvsC (marksM k j) ++ (.int .i64 ms[j].1.row :: .int .i64 ms[j].1.col :: .bool ms[j].1.down :: sv ms[j].1.word :: .int .i64 ms[j].2 :: mvsC (ms.drop (j + 1)))).set (j * 5) _).set (j * 5 + 1) _).set (j * 5 + 2) _).set (j * 5 + 3) _).set (j * 5 + 4) _ = _
 rw [set5 _ _ _ _ _ _ _ _ _ _ _ _ (j * 5) (by rw [mvsC_length, marksM_length])]
 rw [List.append_assoc]
 rfl
theorem markToM_end (ms : List Mv) (k : Nat) : markToM ms k ms.length = mvsC (marksM k ms.length) := by
 unfold markToM
 rw [List.drop_length]
 simp [mvsC]
theorem markToM_start (ms : List Mv) (k : Nat) : markToM ms k 0 = mvsC ms := rfl
theorem markMoveS_any (v : Value) (ms : List Mv) (k base : Nat) (w : World) (own0 : w.ownsRow base 72 5 v ms.length (mvsC ms)) (hn : ms.length ≤ 2 ^ 30) (hk : k ≤ 2 ^ 32) (h0 : 0 < k) :
   Calls Tryz.prog 19 #[v, .int .i64 k] w fun e w' => e = .returned (.int .i64 ((k + 5 * ms.length : Nat) : Int)) ∧ w'.ownsRow base 72 5 v ms.length (mvsC (marksM k ms.length)) ∧ w.grownBy w' v.ownBlock := by
 have hst := Lib.hid (markToM_step ms k)
 have hen := Lib.hid (markToM_end ms k)
 have hcl := Lib.hid (markToM_length ms k)
 rw [← markToM_start ms k] at own0
 obtain ⟨R, hR⟩ : ∃ R : Int, R = ((k + 5 * ms.length : Nat) : Int) := ⟨_, rfl⟩
 rw [← hR]
 have hR' := Lib.hid hR
 clear hR
 rcases Nat.eq_zero_or_pos ms.length with hz | hz
 · obtain ⟨A, c, hv, -, -⟩ := own_sl own0
   rw [hz] at hv
   subst hv
   have hRk : R = (k : Int) := by rw [hR'.out, hz]; rfl
   have hres : w.ownsRow base 72 5 (.slice A 0 c) ms.length (mvsC (marksM k ms.length)) := by rw [← hen.out, hz]; rw [hz] at own0; exact own0
   clear own0
   go_enter Tryz.func19, Tryz.ntmps19
   go_wp2_with (fail)
   go_loopw [1, 5] (fun kv i wr => kv = .int .i64 (k : Int) ∧ i = .int .i64 0 ∧ wr = w) (fun _ _ _ => 0)
   case atStart => exact ⟨rfl, rfl, rfl⟩
   case round =>
     obtain ⟨rfl, rfl, rfl⟩ := hrel
     go_wp2_with (fail)
     go_ret
     exact ⟨ret_int hRk.symm, hres, ⟨rfl, rfl, rfl, Nat.le_refl _, fun _ _ _ => rfl⟩⟩
 · obtain ⟨g, cap, hv, hbg, hlt⟩ := own0.form hz
   subst hv
   clear hz
   have hgr0 : w.grownBy w (some g) := ⟨rfl, rfl, rfl, Nat.le_refl _, fun _ _ _ => rfl⟩
   go_enter Tryz.func19, Tryz.ntmps19
   go_wp2_with (fail)
   go_loopw [1, 5] (fun kv i wr => ∃ j : Nat, j ≤ ms.length ∧ i = .int .i64 j ∧ kv = .int .i64 ((k + 5 * j : Nat) : Int) ∧ wr.ownsRow base 72 5 (.slice (some ⟨g, 0, none⟩) ms.length cap) ms.length (markToM ms k j) ∧ w.grownBy wr (some g)) (fun _ i _ => ms.length - (intOf i).toNat)
   case atStart => exact ⟨0, by omega, rfl, rfl, own0, hgr0⟩
   case round =>
     clear own0 hgr0
     obtain ⟨j, hj, rfl, rfl, own, hgr⟩ := hrel
     by_cases hjl : j < ms.length
     · have hstep := Lib.hid (hst.out j hjl)
       have km := fun w => markText_any (k + 5 * j + 3) w (by omega) (by omega)
       obtain ⟨y, hy⟩ : ∃ y, y = markT (k + 5 * j + 3) := ⟨_, rfl⟩
       rw [← hy] at hstep km
       clear hy
       have hjj : (j : Int) < (ms.length : Int) := by omega
       have hj0 : (0 : Int) ≤ (j : Int) := by omega
       obtain ⟨m, hm⟩ : ∃ m : Int, m = ((k + 5 * j : Nat) : Int) := ⟨_, rfl⟩
       have hm1 : ((k + 5 * (j + 1) : Nat) : Int) = m + 5 := by omega
       have hm2 : 0 ≤ m := by omega
       have hm3 : m ≤ 17179869184 := by omega
       have hm4 : ((k + 5 * j + 3 : Nat) : Int) = m + 1 + 1 + 1 := by omega
       obtain ⟨bb, hbb⟩ : ∃ bb, bb = ((k + 5 * j + 2) % 3 == 0) := ⟨_, rfl⟩
       have hmod : ((m + 1 + 1) % 3 == 0) = bb := by
         rw [hbb, Bool.eq_iff_iff]
         simp
         omega
       rw [← hm, ← hbb] at hstep
       rw [hm4] at km
       rw [← hm]
       have hm1' := Lib.hid hm1
       clear hm hm1 hm4 hbb
       have hyl := hcl.out j hj
       obtain ⟨Y, hY⟩ : ∃ Y, Y = markToM ms k j := ⟨_, rfl⟩
       rw [← hY] at hstep own hyl
       clear hY
       have cell : ∀ i, i < 5 → ∃ z, wr.cell? ⟨g, j * 5 + i, none⟩ = some z := fun i hi => ⟨Y[j * 5 + i]'(by omega), (own.cellAt (j * 5 + i) (by omega)).trans (List.getElem?_eq_getElem _)⟩
       obtain ⟨z0, c0⟩ := cell 0 (by omega)
       obtain ⟨z1, c1⟩ := cell 1 (by omega)
       obtain ⟨z2, c2⟩ := cell 2 (by omega)
       obtain ⟨z3, c3⟩ := cell 3 (by omega)
       obtain ⟨z4, c4⟩ := cell 4 (by omega)
       have f0 := own.frozenAt (j * 5)
       have f1 := own.frozenAt (j * 5 + 1)
       have f2 := own.frozenAt (j * 5 + 2)
       simp only [Nat.add_zero] at c0
       have hyl' := Lib.hid hyl
       clear cell hyl
       have o3 := (((own.stored (j * 5) (.int .i64 m)).1.stored (j * 5 + 1) (.int .i64 (m + 1))).1.stored (j * 5 + 2) (.bool bb)).1
       have hg3 := grown_set (grown_set (grown_set hgr (j * 5) (.int .i64 m)) (j * 5 + 1) (.int .i64 (m + 1))) (j * 5 + 2) (.bool bb)
       obtain ⟨Z, hZ⟩ : ∃ Z, Z = ((Y.set (j * 5) (.int .i64 m)).set (j * 5 + 1) (.int .i64 (m + 1))).set (j * 5 + 2) (.bool bb) := ⟨_, rfl⟩
       have hZl : Z.length = ms.length * 5 := by rw [hZ]; simp only [List.length_set]; exact hyl'.out
       rw [← hZ] at o3 hstep
       clear hZ
       have hst2 : Hid ((Z.set (j * 5 + 3) (sv y)).set (j * 5 + 4) (.int .i64 (m + 1 + 1 + 1 + 1)) = markToM ms k (j + 1)) := Lib.hid (by rw [← hstep.out]; congr 2; omega)
       clear hstep
       go_wp2_with (go_at_call 40; refine (km _).mono ?_; rintro e w5 ⟨rfl, hb5⟩
                    have own5 := own_call o3 hb5
                    have hg5 := grown_call hg3 hb5
                    have d3 : w5.cell? ⟨g, j * 5 + 3, none⟩ = some _ := (own5.cellAt (j * 5 + 3) (by omega)).trans (List.getElem?_eq_getElem (by omega))
                    have d4 : w5.cell? ⟨g, j * 5 + 4, none⟩ = some _ := (own5.cellAt (j * 5 + 4) (by omega)).trans (List.getElem?_eq_getElem (by omega))
                    have f3 := own5.frozenAt (j * 5 + 3)
                    have f4 := own5.frozenAt (j * 5 + 4))
       have hs := ((own5.stored (j * 5 + 3) (sv y)).1.stored (j * 5 + 4) (.int .i64 (m + 1 + 1 + 1 + 1))).1
       rw [hst2.out] at hs
       go_roundw
       case rel => exact ⟨j + 1, by omega, by go_num, by rw [hm1'.out]; congr 1; omega, hs, grown_set (grown_set hg5 _ _) _ _⟩
       case measure => simp only [intOf]; omega
     · obtain rfl : j = ms.length := by omega
       rw [hen.out] at own
       go_wp2_with (fail)
       go_ret
       exact ⟨ret_int (by rw [hR'.out]), own, hgr⟩
theorem heldMoveS_same (A : Option Addr) (c n k : Nat) (w : World) (h : Reads w w.heap.size 5 A n (mvsC (marksM k n))) (hf : ∀ ad, A = some ad → ∃ g, ad = ⟨g, 0, none⟩) (hn : n ≤ 2 ^ 30) (hk : k ≤ 2 ^ 32) (h0 : 0 < k) :
   Calls Tryz.prog 20 #[.slice A n c, .int .i64 k] w fun e w' => e = .returned (.int .i64 ((k + 5 * n : Nat) : Int)) ∧ Below w.heap.size w w' := by
 have hl := marksM_length k n
 have hget : Hid (∀ j (hj : j < n) (hj' : j < (marksM k n).length), (marksM k n)[j] = markMv (k + 5 * j)) := Lib.hid (fun j hj hj' => by simp [marksM])
 obtain ⟨P, hP⟩ : ∃ P, P = marksM k n := ⟨_, rfl⟩
 rw [← hP] at h hl hget
 clear hP
 obtain ⟨R, hR⟩ : ∃ R : Int, R = ((k + 5 * n : Nat) : Int) := ⟨_, rfl⟩
 rw [← hR]
 have hR' := Lib.hid hR
 have hl' := Lib.hid hl
 clear hR hl
 go_enter Tryz.func20, Tryz.ntmps20
 go_wp2_with (fail)
 go_loopw [1, 5] (fun kv i wr => ∃ j : Nat, j ≤ n ∧ i = .int .i64 j ∧ kv = .int .i64 ((k + 5 * j : Nat) : Int) ∧ Below w.heap.size w wr) (fun _ i _ => n - (intOf i).toNat)
 case atStart => exact ⟨0, by omega, rfl, rfl, Below.refl _ _⟩
 case round =>
   obtain ⟨j, hj, rfl, rfl, hb⟩ := hrel
   by_cases hjl : j < n
   · have r1 := (h.below hb).more hb.size
     obtain ⟨ad1, e1, hd1, _⟩ := r1.2 (by omega)
     obtain ⟨g, rfl⟩ := hf ad1 e1
     subst e1
     rw [← hl'.out] at r1
     obtain ⟨x0, x1, x2, x3, x4⟩ := r1.mv (k := j) (by rw [hl'.out]; exact hjl)
     rw [hget.out j hjl] at x0 x1 x2 x3 x4
     simp only [Nat.zero_add, markMv] at x0 x1 x2 x3 x4
     have km := fun w => markText_any (k + 5 * j + 3) w (by omega) (by omega)
     obtain ⟨y, hy⟩ : ∃ y, y = markT (k + 5 * j + 3) := ⟨_, rfl⟩
     rw [← hy] at x3 km
     clear hy
     have hg : g < wr.heap.size := hd1
     have hjj : (j : Int) < (n : Int) := by omega
     have hj0 : (0 : Int) ≤ (j : Int) := by omega
     obtain ⟨m, hm⟩ : ∃ m : Int, m = ((k + 5 * j : Nat) : Int) := ⟨_, rfl⟩
     have hm1 : ((k + 5 * (j + 1) : Nat) : Int) = m + 1 + 1 + 1 + 1 + 1 := by omega
     have hm2 : 0 ≤ m := by omega
     have hm3 : m ≤ 17179869184 := by omega
     have hm4 : ((k + 5 * j + 3 : Nat) : Int) = m + 1 + 1 + 1 := by omega
     obtain ⟨bb, hbb⟩ : ∃ bb, bb = ((k + 5 * j + 2) % 3 == 0) := ⟨_, rfl⟩
     have hmod : ((m + 1 + 1) % 3 == 0) = bb := by
       rw [hbb, Bool.eq_iff_iff]
       simp
       omega
     rw [← hm] at x0 x1 x4
     rw [show m + 4 = m + 1 + 1 + 1 + 1 by omega] at x4
     rw [← hbb] at x2
     rw [hm4] at km
     rw [← hm]
     have hm1' := Lib.hid hm1
     clear hm hm1 hm4 hbb r1
     have n0 : (m != m) = false := by simp
     have n1 : (m + 1 != m + 1) = false := by simp
     have n2 : (bb != bb) = false := by simp
     have n3 : (y == y) = true := by simp
     have n4 : (m + 1 + 1 + 1 + 1 != m + 1 + 1 + 1 + 1) = false := by simp
     go_wp2_with (fail)
     refine wp_region_b 9 (by kernel_rfl) (by kernel_rfl) ?_
     simp only [qqT, List.take_zero, qqD, List.drop_zero]
     iterate 9
       apply pc_step rfl
       · intro w4 hb4 K hK
         have a3 := (hb4.cell (p := ⟨g, j * 5 + 3, none⟩) hg).trans x3
         go_wp2_with (first | (go_at_call 40; refine (km _).mono ?_; rintro e w5 ⟨rfl, hb5⟩))
         all_goals first | exact hb4 | exact hb4.trans (hb5.mono hb4.size) | exact hb4.trans (hd5.below.mono hb4.size)
       simp only [Act.put, qqS, qqC, qqZ]
     refine pc_nil ?_
     intro w4 hb4
     have a4 := (hb4.cell (p := ⟨g, j * 5 + 4, none⟩) hg).trans x4
     have hb5 := hb.trans (hb4.mono hb.size)
     go_wp2_with (fail)
     go_roundw
     case rel => exact ⟨j + 1, by omega, by go_num, by rw [hm1'.out], hb5⟩
     case measure => simp only [intOf]; omega
   · obtain rfl : j = n := by omega
     go_wp2_with (fail)
     go_ret
     exact ⟨ret_int (by rw [hR'.out]), hb⟩
end Go.Proofs.YtohopceknpgcnaaGreatDoor
namespace Go.Proofs.YtohopceknpgcnaaGreatDoor
namespace RegV
open Go.RowKit RegP RegL
structure SX (W : World) (T : Nat → Option (Value → World → Prop)) (σ : Nat → Value) (L : Nat → Bool) (w : World) : Prop where
 low : Below W.heap.size W w
 cp : ∀ i P, T i = some P → L i = true → P (σ i) w
def StabX (T : Nat → Option (Value → World → Prop)) : Prop := ∀ i P, T i = some P → ∀ u w w', P u w → Below w.heap.size w w' → P u w'
section
variable {W w w' : World} {T : Nat → Option (Value → World → Prop)} {σ : Nat → Value} {L : Nat → Bool} {i : Nat} {u : Value} {P : Value → World → Prop}
theorem SX.start : SX W T (fun _ => undef) (fun _ => false) W.drew := ⟨(Below.refl _ _).drew, fun _ _ _ h => by cases h⟩
theorem SX.below (h : SX W T σ L w) (hs : StabX T) (hb : Below w.heap.size w w') : SX W T σ L w' :=
 ⟨h.low.trans (hb.mono h.low.size), fun i P hi hL => hs i P hi _ _ _ (h.cp i P hi hL) hb⟩
theorem SX.keep (h : SX W T σ L w) (hi : T i = none) : SX W T σ (upd L i) w :=
 ⟨h.low, fun j P hj hL => by
   have hne : j ≠ i := fun e => by rw [e, hi] at hj; cases hj
   rw [upd_ne L hne] at hL
   exact h.cp j P hj hL⟩
theorem SX.put (h : SX W T σ L w) (hs : StabX T) (hb : Below w.heap.size w w') (hi : T i = some P) (hu : P u w') : SX W T (sub σ i u) (upd L i) w' := by
 have h := h.below hs hb
 refine ⟨h.low, fun j Q hj hL => ?_⟩
 by_cases hne : j = i
 · subst hne
   rw [hi] at hj
   injection hj with hj
   subst hj
   rw [sub_same]
   exact hu
 · rw [upd_ne L hne] at hL
   rw [sub_ne _ _ hne]
   exact h.cp j Q hj hL
theorem SX.get (h : SX W T σ L w) (hi : T i = some P) (hL : L i = true) : P (σ i) w := h.cp i P hi hL
end
end RegV
end Go.Proofs.YtohopceknpgcnaaGreatDoor
