/-
  Plain law: one score of a play in both packages; the forms that the walks of the scores end in; Contracts: premiums, scores of letters, factors (layer 13 of the spec package); The state of a region that draws its order, calls functions, lays a literal and appends it to a row of the call's own; Contracts: the scores of the letters of a play on a flat board, the factor of its word (layer 13 of the spec package). PRINTED BY wip/mk90.py (with wip/L90.head); Bounds of scores and of factors, in plain Lean; Contract: the factor of a main word (layer 13 of the spec package).
  Conditions: as each part below says.
-/
import Derived.Test.YtohopceknpgcnaaGreatDoorM18
import Derived.Test.YtohopceknpgcnaaGreatDoorM09
import Derived.Test.YtohopceknpgcnaaGreatDoorM07
import Derived.Test.YtohopceknpgcnaaGreatDoorM04
/-
  Plain law: one score of a play in both packages; the forms that the walks of the scores end in.
  Conditions: a valid board and play.
-/
namespace Go.Proofs.YtohopceknpgcnaaGreatDoor

theorem tr_prm {b : Bd} (hf : b.Fit) {r c : Int} (h : b.inB c r = true) : b.tr.prm r c = b.prm c r := by
  rw [inB_iff] at h
  obtain ⟨⟨c0, c1⟩, r0, r1⟩ := h
  have h5 := hf.lo
  have h15 := hf.hi
  obtain ⟨n, hn⟩ : ∃ n : Nat, b.size = (n : Int) := ⟨b.size.toNat, by omega⟩
  obtain ⟨i, rfl⟩ : ∃ i : Nat, r = (i : Int) := ⟨r.toNat, by omega⟩
  obtain ⟨j, rfl⟩ : ∃ j : Nat, c = (j : Int) := ⟨c.toNat, by omega⟩
  have hi : i < n := by omega
  have hj : j < n := by omega
  show (turnS b.size.toNat b.prem).getD ((i : Int) * b.size + j).toNat 0 = b.prem.getD ((j : Int) * b.size + i).toNat 0
  rw [hn]
  have e1 : ((i : Int) * (n : Int) + (j : Int)).toNat = i * n + j := by
    rw [← Int.natCast_mul, ← Int.natCast_add, Int.toNat_natCast]
  have e2 : ((j : Int) * (n : Int) + (i : Int)).toNat = j * n + i := by
    rw [← Int.natCast_mul, ← Int.natCast_add, Int.toNat_natCast]
  have hlt : i * n + j < n * n := by
    have : (i + 1) * n ≤ n * n := Nat.mul_le_mul_right n hi
    rw [Nat.add_mul] at this
    omega
  rw [e1, e2, Int.toNat_natCast, turnS, turnTo_get n _ _ _ hlt]
  have m1 : (i * n + j) % n = j := by rw [Nat.mul_comm, Nat.mul_add_mod, Nat.mod_eq_of_lt hj]
  have m2 : (i * n + j) / n = i := by rw [Nat.mul_comm, Nat.mul_add_div (by omega), Nat.div_eq_of_lt hj, Nat.add_zero]
  rw [m1, m2]
theorem flat_prm {b : Bd} (hf : b.Fit) (q : Pl) {n : Int} (h : b.inB (q.sr n) (q.sc n) = true) : (flatB b q).prm (flatP q).row ((flatP q).col + n) = b.prm (q.sr n) (q.sc n) := by
  unfold flatB flatP Pl.sr Pl.sc at *
  cases hd : q.down
  · simp only [Bool.false_eq_true, if_false]
  · rw [hd] at h
    simp only [if_true] at h ⊢
    exact tr_prm hf h
/-- The scores of the letters; of the words; of a play: by directions. -/
def lsI (t : TS) (b : Bd) (q : Pl) : List Int := (List.range q.word.length).map fun i : Nat => if b.let_ (q.sr i) (q.sc i) then valT t (q.word.getD i 0) else ltF (b.prm (q.sr i) (q.sc i)) * valT t (q.word.getD i 0)
def pusI (b : Bd) (q : Pl) : Str := (newL b q).map fun i : Nat => b.prm (q.sr i) (q.sc i)
def sqI (t : TS) (b : Bd) (M : Bd) (a : Int × Int) (s : Int × Int) : Int := if s == a then ltF (b.prm a.1 a.2) * valT t (M.cell s.1 s.2) else valT t (M.cell s.1 s.2)
def crI (t : TS) (b : Bd) (q : Pl) (x : (Int × Int) × List (Int × Int)) : Int := (x.2.map (sqI t b (madeB b q) x.1)).sum * wfL [b.prm x.1.1 x.1.2]
def partsI (t : TS) (b : Bd) (q : Pl) : List Int := ((lsI t b q).sum * wfL (pusI b q)) :: (crossP b q (newL b q)).map (crI t b q)
def scoreI (t : TS) (b : Bd) (q : Pl) : Int := (partsI t b q).sum + if (newL b q).length = 7 then 50 else 0
/-- The same on a flat board. -/
def lsS (t : TS) (b : Bd) (q : Pl) : List Int := (List.range q.word.length).map fun i : Nat => if b.at_ q.row (q.col + i) == 46 then ltF (b.prm q.row (q.col + i)) * valT t (q.word.getD i 0) else valT t (q.word.getD i 0)
def mainF (b : Bd) (q : Pl) : Int := (freshL b q).foldl (fun a (i : Nat) => a * wdF (b.prm q.row (q.col + i))) 1
def crS (t : TS) (b : Bd) (q : Pl) (i : Nat) : Int :=
  ((List.range (crossAt b q i).length).map fun k : Nat => if ((upTo b (q.col + i) q.row.toNat : Nat) : Int) + k = q.row then ltF (b.prm q.row (q.col + i)) * valT t (q.word.getD i 0) else valT t ((crossAt b q i).getD k 0)).sum * wdF (b.prm q.row (q.col + i))
def partsS (t : TS) (b : Bd) (q : Pl) : List Int := ((lsS t b q).sum * mainF b q) :: ((freshL b q).filter fun i => decide (1 < (crossAt b q i).length)).map (crS t b q)
def scoreS (t : TS) (b : Bd) (q : Pl) : Int := (partsS t b q).sum + if (freshL b q).length = 7 then 50 else 0
section
variable {b : Bd} {q : Pl} {t : TS}
theorem ls_same (hb : bdB b = true) (hon : OnQ b q) : lsS t (flatB b q) (flatP q) = lsI t b q := by
  unfold lsS lsI
  rw [flatP_word]
  refine List.map_congr_left fun i hi => ?_
  have hin := hon i (List.mem_range.1 hi)
  rw [flat_at (bdB.fit hb) q hin, flat_prm (bdB.fit hb) q hin]
  unfold Bd.let_
  have hz := bdB_nz hb _ _ hin
  rw [← cell_in hin] at hz
  cases h46 : (b.cell (q.sr i) (q.sc i) == 46)
  · simp [hz]
  · simp
theorem main_same (hb : bdB b = true) (hon : OnQ b q) : mainF (flatB b q) (flatP q) = wfL (pusI b q) := by
  unfold mainF wfL pusI
  rw [fresh_new hb hon, List.foldl_map]
  have hlt : ∀ x ∈ newL b q, x < q.word.length := fun x hx => List.mem_range.1 (List.mem_filter.1 hx).1
  have key : ∀ (N : List Nat) (a : Int), (∀ x ∈ N, x < q.word.length) → N.foldl (fun a (i : Nat) => a * wdF ((flatB b q).prm (flatP q).row ((flatP q).col + i))) a = N.foldl (fun a (i : Nat) => a * wdF (b.prm (q.sr i) (q.sc i))) a := by
    intro N
    induction N with
    | nil => intro a _; rfl
    | cons x N ih =>
      intro a h
      rw [List.foldl_cons, List.foldl_cons, flat_prm (bdB.fit hb) q (hon x (h x (List.mem_cons_self ..)))]
      exact ih _ fun y hy => h y (List.mem_cons_of_mem _ hy)
  exact key _ 1 hlt
theorem seqGo_range (B : Bd) (d : Bool) (r c : Int) : ∀ (f : Nat) (n : Int), seqGo B d r c f n = (List.range (seqGo B d r c f n).length).map fun k : Nat => n + k
  | 0, n => by simp [seqGo]
  | f + 1, n => by
    rw [seqGo]
    split
    · rw [List.length_cons, List.range_succ_eq_map, List.map_cons, List.map_map]
      have ih := seqGo_range B d r c f (n + 1)
      congr 1
      · simp
      · conv => lhs; rw [ih]
        refine List.map_congr_left fun k _ => ?_
        show n + 1 + (k : Int) = n + ((k + 1 : Nat) : Int)
        omega
    · simp
theorem cr_same (hb : bdB b = true) (hon : OnQ b q) {i : Nat} (hi : i < q.word.length) (hw : lettB q.word = true) :
    crS t (flatB b q) (flatP q) i = crI t b q ((q.sr i, q.sc i), seqL (madeB b q) (!q.down) (q.sr i) (q.sc i)) := by
  have hff := flat_fit' (bdB.fit hb) q
  have hin := flat_rowB (b := b) q i
  rw [hon i hi, inB_iff] at hin
  have h15 := hff.hi
  obtain ⟨R, hR⟩ : ∃ R : Nat, (flatP q).row = (R : Int) := ⟨(flatP q).row.toNat, by omega⟩
  have hu := bef_up (i := i) hb hon hR R 0 16 (by omega) (by omega)
  have hw' := cross_seq hb hon hi hw
  unfold crS crI
  rw [hw', flat_prm (bdB.fit hb) q (hon i hi)]
  have e1 : wfL [b.prm (q.sr i) (q.sc i)] = wdF (b.prm (q.sr i) (q.sc i)) := by simp [wfL]
  simp only [e1]
  congr 2
  have hsl : (sqW (madeB b q) (seqL (madeB b q) (!q.down) (q.sr i) (q.sc i))).length = (seqN (madeB b q) (!q.down) (q.sr i) (q.sc i)).length := by simp [sqW, seqL]
  rw [hsl]
  have hsq : seqL (madeB b q) (!q.down) (q.sr i) (q.sc i) = (List.range (seqN (madeB b q) (!q.down) (q.sr i) (q.sc i)).length).map fun k : Nat => sqAt (!q.down) (q.sr i) (q.sc i) (-((befN (madeB b q) (!q.down) (q.sr i) (q.sc i) 16 0 : Nat) : Int) + k) := by
    unfold seqL
    conv => lhs; unfold seqN; rw [seqGo_range]
    rw [List.map_map]
    rfl
  generalize hn : (seqN (madeB b q) (!q.down) (q.sr i) (q.sc i)).length = n at hsq ⊢
  rw [hsq, List.map_map]
  refine List.map_congr_left fun k hk => ?_
  have hk := List.mem_range.1 hk
  have hz := across_zero (bdB.fit hb) hon hi
  have hat : sqAt (!q.down) (q.sr i) (q.sc i) 0 = (q.sr i, q.sc i) := by unfold sqAt; cases q.down <;> simp
  show _ = sqI t b (madeB b q) (q.sr i, q.sc i) (sqAt (!q.down) (q.sr i) (q.sc i) (-((befN (madeB b q) (!q.down) (q.sr i) (q.sc i) 16 0 : Nat) : Int) + k))
  have hgd : (sqW (madeB b q) ((List.range n).map fun k : Nat => sqAt (!q.down) (q.sr i) (q.sc i) (-((befN (madeB b q) (!q.down) (q.sr i) (q.sc i) 16 0 : Nat) : Int) + k))).getD k 0 = (madeB b q).cell (sqAt (!q.down) (q.sr i) (q.sc i) (-((befN (madeB b q) (!q.down) (q.sr i) (q.sc i) 16 0 : Nat) : Int) + k)).1 (sqAt (!q.down) (q.sr i) (q.sc i) (-((befN (madeB b q) (!q.down) (q.sr i) (q.sc i) 16 0 : Nat) : Int) + k)).2 := by
    unfold sqW
    rw [List.getD_eq_getElem?_getD, List.getElem?_map, List.getElem?_map, List.getElem?_range hk]
    rfl
  rw [hgd, hR, Int.toNat_natCast, flatP_word]
  unfold sqI
  generalize hm : -((befN (madeB b q) (!q.down) (q.sr i) (q.sc i) 16 0 : Nat) : Int) + (k : Int) = m at *
  by_cases h0 : m = 0
  · subst h0
    rw [if_pos (by omega), if_pos (by rw [hat]; simp), hz]
  · have hne : (sqAt (!q.down) (q.sr i) (q.sc i) m == (q.sr i, q.sc i)) = false := by
      rw [beq_eq_false_iff_ne]
      unfold sqAt
      cases q.down <;> simp <;> omega
    rw [if_neg (by omega), hne]
    rfl
theorem parts_same (hb : bdB b = true) (hon : OnQ b q) (hw : lettB q.word = true) : partsS t (flatB b q) (flatP q) = partsI t b q := by
  unfold partsS partsI
  rw [ls_same hb hon, main_same hb hon, fresh_new hb hon]
  congr 1
  have hlt : ∀ x ∈ newL b q, x < q.word.length := fun x hx => List.mem_range.1 (List.mem_filter.1 hx).1
  unfold crossP sqL
  generalize newL b q = N at hlt
  induction N with
  | nil => rfl
  | cons x N ih =>
    have ih := ih fun y hy => hlt y (List.mem_cons_of_mem _ hy)
    have hx := hlt x (List.mem_cons_self ..)
    have hlen : (crossAt (flatB b q) (flatP q) x).length = (seqL (madeB b q) (!q.down) (q.sr x) (q.sc x)).length := by rw [cross_seq hb hon hx hw]; simp [sqW]
    simp only [List.map_cons, List.filter_cons, hlen]
    by_cases h2 : 2 ≤ (seqL (madeB b q) (!q.down) (q.sr x) (q.sc x)).length
    · rw [if_pos (by simp; omega), if_pos (by simpa using h2), List.map_cons, List.map_cons, ih, cr_same hb hon hx hw]
    · rw [if_neg (by simp; omega), if_neg (by simpa using h2), ih]
/-- One score, in both packages. -/
theorem score_same (hb : bdB b = true) (hv : validI b q = true) : scoreS t (flatB b q) (flatP q) = scoreI t b q := by
  obtain ⟨hon, hw, _, _⟩ := validI_facts hv
  unfold scoreS scoreI
  rw [parts_same hb hon hw, fresh_new hb hon]
end
end Go.Proofs.YtohopceknpgcnaaGreatDoor
/-
  Contracts: premiums, scores of letters, factors (layer 13 of the spec package).
  Conditions: a valid board and a valid tile set lie in memory; the square is on the board.
-/
namespace Go.Proofs.YtohopceknpgcnaaGreatDoor
open Go.RowKit RegP RegL RegV
set_option maxHeartbeats 2000000
set_option maxRecDepth 100000

/-- What a valid tile set has. -/
structure TsOk (t : TS) : Prop where
  len : t.letters.length ≤ 26
  vals : t.values.length = t.letters.length
  cnts : t.counts.length = t.letters.length
  lo : ∀ c, 0 ≤ valT t c
  hi : ∀ c, valT t c ≤ 20
theorem tsB_ok {t : TS} (h : tsB t = true) : TsOk t := by
  unfold tsB at h
  simp only [Bool.and_eq_true, decide_eq_true_eq] at h
  obtain ⟨h1, h2, h3, h4, h5, h6, h7⟩ := h
  have hb := vcB_sum t.values t.counts (by omega) h6
  have key : ∀ c, 0 ≤ valT t c ∧ valT t c ≤ 20 := fun c => by
    unfold valT
    split
    · rename_i hk
      have hk' : findK t.letters c < t.values.length := by omega
      rw [List.getD_eq_getElem?_getD, List.getElem?_eq_getElem hk']
      exact hb.2 _ (List.getElem_mem hk')
    · omega
  exact ⟨smFrom_26 h2, h3, h4, fun c => (key c).1, fun c => (key c).2⟩
theorem l13Premium_any (p : Addr) (b : Bd) (r c : Int) (w : World) (hp : BAt w p b) (hf : b.Fit) (hi : b.inB r c = true) :
    Calls Tryz.prog 204 #[.pointer (some p), .int .i64 r, .int .i64 c] w fun e w' => e = .returned (bv (b.prm r c)) ∧ Below w.heap.size w w' := by
  have h0 := hp.1
  have h2 := hp.2.1
  obtain ⟨⟨r0, r1⟩, c0, c1⟩ := inB_iff.1 hi
  obtain ⟨m0, m1, m2, m3, m4⟩ := mul_bounds hf.lo hf.hi r0 r1 c0 c1
  have h5 := hf.lo
  have h15 := hf.hi
  have hlen := hf.prem
  have m5 : r * b.size + c < (b.prem.length : Int) := by omega
  have m6 : IntKind.i64.wrap (r * b.size) = r * b.size := IntWalk.i64_in _ (by omega)
  obtain ⟨k, hk⟩ : ∃ k : Nat, r * b.size + c = (k : Int) := ⟨(r * b.size + c).toNat, by omega⟩
  have hat : b.prm r c = b.prem.getD k 0 := by rw [Bd.prm, hk]; rfl
  have m7 : IntKind.i64.wrap (r * b.size + c) = (k : Int) := by rw [hk]; exact IntWalk.i64_in _ (by omega)
  have hkl : k < b.prem.length := by omega
  have m8 : (k : Int) < (b.prem.length : Int) := by omega
  have m9 : (0 : Int) ≤ k := by omega
  rw [hat, show b.prem.getD k 0 = b.prem[k] by simp [List.getD, List.getElem?_eq_getElem hkl]]
  clear hat hk m5 hlen m3
  go_enter Tryz.func204, Tryz.ntmps204
  go_wp2_with (fail)
  go_quiet (fail)
  go_wp2
  go_ret
  exact ⟨rfl, Dr.below ⟨_, rfl⟩⟩
theorem l13Letter_any (pt p : Addr) (t : TS) (A1 A2 : Option Addr) (c1 c2 : Nat) (b : Bd) (r c : Int) (l : UInt8) (w : World) (ht : TsAt w pt t A1 c1 A2 c2) (hp : BAt w p b) (ho : TsOk t) (hf : b.Fit) (hi : b.inB r c = true) :
    Calls Tryz.prog 171 #[.pointer (some pt), .pointer (some p), .int .i64 r, .int .i64 c, bv l] w fun e w' => e = .returned (.int .i64 (ltF (b.prm r c) * valT t l)) ∧ Below w.heap.size w w' := by
  have kv := l02Value_any pt t A1 A2 c1 c2 l w ht (by have := ho.len; omega) ho.vals
  have kp := l13Premium_any p b r c w hp hf hi
  have v0 := ho.lo l
  have v20 := ho.hi l
  have hdef : Hid (ltF (b.prm r c) = if b.prm r c == 50 then 2 else if b.prm r c == 51 then 3 else 1) := Lib.hid rfl
  obtain ⟨P, hP⟩ : ∃ P, P = b.prm r c := ⟨_, rfl⟩
  obtain ⟨V, hV⟩ : ∃ V, V = valT t l := ⟨_, rfl⟩
  obtain ⟨F, hF⟩ : ∃ F, F = ltF (b.prm r c) := ⟨_, rfl⟩
  rw [← hF] at hdef ⊢
  rw [← hP] at kp hdef
  rw [← hV] at kv v0 v20 ⊢
  clear hP hV hF ho hf hi
  have q1 : ((P.toNat : Int) == 50) = (P == 50) := u8_eq P 50
  have q2 : ((P.toNat : Int) == 51) = (P == 51) := u8_eq P 51
  cases e1 : (P == 50)
  · cases e2 : (P == 51)
    all_goals
      rw [e1] at q1 hdef
      rw [e2] at q2 hdef
      go_enter Tryz.func171, Tryz.ntmps171
      go_wp2_with (first
        | (go_at_call 172; refine kv.mono ?_; rintro e w1 ⟨rfl, rfl⟩)
        | (go_at_call 204; refine kp.mono ?_; rintro e w2 ⟨rfl, hb⟩))
      go_ret
      exact ⟨ret_int (by rw [hdef.out]; simp), hb⟩
  · rw [e1] at q1 hdef
    go_enter Tryz.func171, Tryz.ntmps171
    go_wp2_with (first
      | (go_at_call 172; refine kv.mono ?_; rintro e w1 ⟨rfl, rfl⟩)
      | (go_at_call 204; refine kp.mono ?_; rintro e w2 ⟨rfl, hb⟩))
    go_ret
    exact ⟨ret_int (by rw [hdef.out]; simp), hb⟩
theorem l13Factor_any (p : Addr) (b : Bd) (r c : Int) (w : World) (hp : BAt w p b) (hf : b.Fit) (hi : b.inB r c = true) :
    Calls Tryz.prog 173 #[.pointer (some p), .int .i64 r, .int .i64 c] w fun e w' => e = .returned (.int .i64 (wdF (b.prm r c))) ∧ Below w.heap.size w w' := by
  have kp := l13Premium_any p b r c w hp hf hi
  have hdef : Hid (wdF (b.prm r c) = if b.prm r c == 100 then 2 else if b.prm r c == 116 then 3 else 1) := Lib.hid rfl
  obtain ⟨P, hP⟩ : ∃ P, P = b.prm r c := ⟨_, rfl⟩
  obtain ⟨F, hF⟩ : ∃ F, F = wdF (b.prm r c) := ⟨_, rfl⟩
  rw [← hF] at hdef ⊢
  rw [← hP] at kp hdef
  clear hP hF hf hi
  have q1 : ((P.toNat : Int) == 100) = (P == 100) := u8_eq P 100
  have q2 : ((P.toNat : Int) == 116) = (P == 116) := u8_eq P 116
  cases e1 : (P == 100)
  · cases e2 : (P == 116)
    all_goals
      rw [e1] at q1 hdef
      rw [e2] at q2 hdef
      go_enter Tryz.func173, Tryz.ntmps173
      go_wp2_with (go_at_call 204; refine kp.mono ?_; rintro e w2 ⟨rfl, hb⟩)
      go_ret
      exact ⟨ret_int (by rw [hdef.out]; simp), hb⟩
  · rw [e1] at q1 hdef
    go_enter Tryz.func173, Tryz.ntmps173
    go_wp2_with (go_at_call 204; refine kp.mono ?_; rintro e w2 ⟨rfl, hb⟩)
    go_ret
    exact ⟨ret_int (by rw [hdef.out]; simp), hb⟩
end Go.Proofs.YtohopceknpgcnaaGreatDoor
/-
  The state of a region that draws its order, calls functions, lays a literal and appends it to a row of the call's own.
  Conditions: none.
-/
namespace Go.Proofs.YtohopceknpgcnaaGreatDoor
namespace RegV
open Go.RowKit RegP RegL

/-- Number b lays the literal, number a appends it; the numbers in pre are done before b. R: what holds of the append's value and the world behind it. -/
def SC (b a : Nat) (pre : List Nat) (W : World) (ob : Obj) (R : Value → World → Prop) (σ : Nat → Value) (L : Nat → Bool) (w : World) : Prop :=
  (L a = true ∧ L b = true ∧ (∀ e ∈ pre, L e = true) ∧ R (σ a) w) ∨ (L a = false ∧ L b = true ∧ (∀ e ∈ pre, L e = true) ∧ ∃ w1, Below W.heap.size W w1 ∧ σ b = .slice (some ⟨w1.heap.size, 0, none⟩) 1 1 ∧ w = w1.alloc ob) ∨ (L a = false ∧ L b = false ∧ Below W.heap.size W w)
section
variable {b a i : Nat} {pre : List Nat} {W w w' : World} {ob : Obj} {R : Value → World → Prop} {σ : Nat → Value} {L : Nat → Bool} {u : Value}
theorem SC.start : SC b a pre W ob R σ (fun _ => false) W.drew := .inr (.inr ⟨rfl, rfl, (Below.refl _ _).drew⟩)
theorem SC.keep (h : SC b a pre W ob R σ L w) (ha : i ≠ a) (hb : i ≠ b) : SC b a pre W ob R σ (upd L i) w := by
  have e1 : upd L i a = L a := upd_ne L (Ne.symm ha)
  have e2 : upd L i b = L b := upd_ne L (Ne.symm hb)
  have e3 : (∀ e ∈ pre, L e = true) → ∀ e ∈ pre, upd L i e = true := fun h3 e he => by unfold upd; simp [h3 e he]
  rcases h with ⟨h1, h2, h3, h4⟩ | ⟨h1, h2, h3, h4⟩ | ⟨h1, h2, h3⟩
  · exact .inl ⟨e1.trans h1, e2.trans h2, e3 h3, h4⟩
  · exact .inr (.inl ⟨e1.trans h1, e2.trans h2, e3 h3, h4⟩)
  · exact .inr (.inr ⟨e1.trans h1, e2.trans h2, h3⟩)
theorem SC.low (h : SC b a pre W ob R σ L w) (hi : i ∈ pre) (hL : L i = false) : Below W.heap.size W w := by
  rcases h with ⟨_, _, h3, _⟩ | ⟨_, _, h3, _⟩ | ⟨_, _, h3⟩
  · rw [h3 i hi] at hL; cases hL
  · rw [h3 i hi] at hL; cases hL
  · exact h3
theorem SC.call (h : SC b a pre W ob R σ L w) (hi : i ∈ pre) (hL : L i = false) (ha : i ≠ a) (hb : i ≠ b) (hw : Below w.heap.size w w') : SC b a pre W ob R σ (upd L i) w' := by
  rcases h with ⟨_, _, h3, _⟩ | ⟨_, _, h3, _⟩ | ⟨h1, h2, h3⟩
  · rw [h3 i hi] at hL; cases hL
  · rw [h3 i hi] at hL; cases hL
  · exact .inr (.inr ⟨(upd_ne L (Ne.symm ha)).trans h1, (upd_ne L (Ne.symm hb)).trans h2, h3.trans (hw.mono h3.size)⟩)
theorem SC.atb (h : SC b a pre W ob R σ L w) (hL : L b = false) : Below W.heap.size W w := by
  rcases h with ⟨_, h2, _⟩ | ⟨_, h2, _⟩ | ⟨_, _, h3⟩
  · rw [h2] at hL; cases hL
  · rw [h2] at hL; cases hL
  · exact h3
theorem SC.tob (h : SC b a pre W ob R σ L w) (hL : L b = false) (hab : a ≠ b) (hp : ∀ e ∈ pre, L e = true) : SC b a pre W ob R (sub σ b (.slice (some ⟨w.heap.size, 0, none⟩) 1 1)) (upd L b) (w.alloc ob) := by
  rcases h with ⟨_, h2, _⟩ | ⟨_, h2, _⟩ | ⟨h1, _, h3⟩
  · rw [h2] at hL; cases hL
  · rw [h2] at hL; cases hL
  · refine .inr (.inl ⟨(upd_ne L hab).trans h1, upd_same L b, fun e he => ?_, w, h3, sub_same .., rfl⟩)
    unfold upd; simp [hp e he]
theorem SC.ata (h : SC b a pre W ob R σ L w) (hL : L a = false) (hb : L b = true) : ∃ w1, Below W.heap.size W w1 ∧ σ b = .slice (some ⟨w1.heap.size, 0, none⟩) 1 1 ∧ w = w1.alloc ob := by
  rcases h with ⟨h1, _⟩ | ⟨_, _, _, h3⟩ | ⟨_, h2, _⟩
  · rw [h1] at hL; cases hL
  · exact h3
  · rw [h2] at hb; cases hb
theorem SC.toa (hb : L b = true) (hp : ∀ e ∈ pre, L e = true) (hR : R u w') : SC b a pre W ob R (sub σ a u) (upd L a) w' := by
  refine .inl ⟨upd_same L a, ?_, fun e he => ?_, by rw [sub_same]; exact hR⟩
  · unfold upd; simp [hb]
  · unfold upd; simp [hp e he]
theorem SC.fin (h : SC b a pre W ob R σ L w) (hL : L a = true) : R (σ a) w := by
  rcases h with ⟨_, _, _, h4⟩ | ⟨h1, _⟩ | ⟨h1, _⟩
  · exact h4
  · rw [h1] at hL; cases hL
  · rw [h1] at hL; cases hL
end
end RegV
end Go.Proofs.YtohopceknpgcnaaGreatDoor
/-
  Contracts: the scores of the letters of a play on a flat board, the factor of its word (layer 13 of the spec package). PRINTED BY wip/mk90.py (with wip/L90.head).
  Conditions: a valid board and a valid tile set lie in memory; the play's squares are on the board.
-/
namespace Go.Proofs.YtohopceknpgcnaaGreatDoor
open Go.RowKit RegP RegL RegV
set_option maxHeartbeats 4000000
set_option maxRecDepth 100000

def lsE (t : TS) (b : Bd) (q : Pl) (i : Nat) : Int := if b.at_ q.row (q.col + i) == 46 then ltF (b.prm q.row (q.col + i)) * valT t (q.word.getD i 0) else valT t (q.word.getD i 0)
def lsTo (t : TS) (b : Bd) (q : Pl) (m : Nat) : List Int := (List.range m).map (lsE t b q)
theorem lsTo_length (t : TS) (b : Bd) (q : Pl) (m : Nat) : (lsTo t b q m).length = m := by simp [lsTo]
theorem lsTo_step (t : TS) (b : Bd) (q : Pl) (m : Nat) : lsTo t b q (m + 1) = lsTo t b q m ++ [lsE t b q m] := by
  unfold lsTo
  rw [List.range_succ, List.map_append]
  rfl
theorem lsS_to (t : TS) (b : Bd) (q : Pl) : lsS t b q = lsTo t b q q.word.length := rfl
theorem l13Letters_any (pt p : Addr) (t : TS) (A1 A2 : Option Addr) (c1 c2 : Nat) (b : Bd) (q : Pl) (w : World) (ht : TsAt w pt t A1 c1 A2 c2) (hp : BAt w p b) (ho : TsOk t) (hf : b.Fit) (hon : OnB b q) (hl : q.word.length ≤ 2 ^ 38) :
    Calls Tryz.prog 168 #[.pointer (some pt), .pointer (some p), q.v] w fun e w' => ∃ v, e = .returned v ∧ w'.ownsRow w.heap.size 2 1 v (lsS t b q).length ((lsS t b q).map xv) ∧ Below w.heap.size w w' := by
  have kv := fun l w h => l02Value_any pt t A1 A2 c1 c2 l w h (by have := ho.len; omega) ho.vals
  have kl0 := fun r c l (hi : b.inB r c = true) w h1 h2 => l13Letter_any pt p t A1 A2 c1 c2 b r c l w h1 h2 ho hf hi
  have hstep := Lib.hid (lsTo_step t b q)
  have hend := Lib.hid (lsS_to t b q)
  have hz : lsTo t b q 0 = [] := rfl
  have hE : Hid (∀ k (h : k < q.word.length), lsE t b q k = if b.at_ q.row (q.col + k) == 46 then ltF (b.prm q.row (q.col + k)) * valT t q.word[k] else valT t q.word[k]) := Lib.hid (fun k h => by
    unfold lsE
    rw [List.getD_eq_getElem?_getD, List.getElem?_eq_getElem h]
    rfl)
  have hlen := lsTo_length t b q q.word.length
  rw [← lsS_to] at hlen
  rw [hlen]
  obtain ⟨F, hF⟩ : ∃ F, F = lsTo t b q := ⟨_, rfl⟩
  obtain ⟨E, hEe⟩ : ∃ E, E = lsE t b q := ⟨_, rfl⟩
  obtain ⟨G, hG⟩ : ∃ G, G = lsS t b q := ⟨_, rfl⟩
  rw [← hF] at hstep hz hend
  rw [← hEe] at hstep hE
  rw [← hG] at hend ⊢
  clear hF hG hEe hlen
  obtain ⟨r, c, dn, s⟩ := q
  simp only [OnB] at hon
  have hblt := hp.lt
  have h15 := hf.hi
  simp only at hl hend hE
  simp only [Pl.v]
  go_enter Tryz.func168, Tryz.ntmps168
  go_wp2_with (fail)
  go_loopw [7, 8] (fun o i wr => ∃ k : Nat, k ≤ s.length ∧ i = .int .i64 k ∧ wr.ownsRow w.heap.size 2 1 o k ((F k).map xv) ∧ Below w.heap.size w wr ∧ Blk wr w.heap.size 69 #[.int .i64 r, .int .i64 c, .bool dn, sv s]) (fun _ i _ => s.length - (intOf i).toNat)
  case atStart =>
    refine ⟨0, by omega, rfl, ?_, ((Below.refl _ _).alloc (Nat.le_refl _) _).alloc (by simp) _, (Blk.new w _ _).alloc _⟩
    exact own_cast (lit1 w _ #[] 0 (Nat.le_refl _) (by unfold maxLen; omega) rfl) (by rw [hz]; rfl) rfl
  case round =>
    obtain ⟨k, hk, rfl, hown, hw, hbx⟩ := hrel
    have e0 : wr.cell? ⟨w.heap.size, 0, none⟩ = some (.int .i64 r) := hbx.cell 0
    have e1 : wr.cell? ⟨w.heap.size, 1, none⟩ = some (.int .i64 c) := hbx.cell 1
    have e3 : wr.cell? ⟨w.heap.size, 3, none⟩ = some (sv s) := hbx.cell 3
    have hpr := hp.below hw hblt
    have htr := ht.below hw
    by_cases hlt : k < s.length
    · have hk1 : (k : Int) < (s.length : Int) := by omega
      have hk0 : (0 : Int) ≤ (k : Int) := by omega
      have hik : b.inB r (c + (k : Int)) = true := hon k hlt
      obtain ⟨⟨r0, r1⟩, c0, c1⟩ := inB_iff.1 hik
      have hst := Lib.hid (hstep.out k)
      have hEk := Lib.hid (hE.out k hlt)
      have kl := fun (hi : b.inB r (c + (k : Int)) = true) => kl0 r (c + k) s[k] hi
      have kvk := fun w => kv s[k] w
      have hq : (((b.at_ r (c + k)).toNat : Int) == 46) = (b.at_ r (c + k) == 46) := u8_eq _ 46
      obtain ⟨x, hx⟩ : ∃ x, x = b.at_ r (c + k) := ⟨_, rfl⟩
      rw [← hx] at hq hEk
      have hx' := Lib.hid hx
      clear hx
      have hcl : c + (k : Int) ≤ 14 := by omega
      have hc0' : -274877906944 ≤ c := by omega
      obtain ⟨Y, hY⟩ : ∃ Y, Y = valT t s[k] := ⟨_, rfl⟩
      rw [← hY] at hEk
      simp only [← hY] at kl kvk
      obtain ⟨X, hX⟩ : ∃ X, X = ltF (b.prm r (c + k)) * Y := ⟨_, rfl⟩
      rw [← hX] at hEk
      simp only [← hX] at kl
      clear hY hX kl0 kv hE hstep
      cases hx1 : (x == 46)
      all_goals rw [hx1] at hq hEk
      · go_wp2_with (first
          | (go_at_call 167; refine (l11At_any p b r _ _ hpr hf hik).mono ?_; rw [← hx'.out]; rintro e w2 ⟨rfl, hd2⟩; have hw2 := hw.trans (hd2.below.mono hw.size); have hown2 := own_call hown hd2.below; have hbx2 := hbx.below hd2.below hbx.lt
             have g3 : w2.cell? ⟨w.heap.size, 3, none⟩ = some (sv s) := hbx2.cell 3)
          | (go_at_call 172; refine (kvk _ (ht.below hw2)).mono ?_; rintro e w3 ⟨rfl, rfl⟩)
          | (at_builtin; refine wpList_app i64T rfl (.tmp 42) (.tmp 49) rfl _ _ _ rfl w.heap.size hown2 [.int .i64 Y] rfl (by simp [Value.oneCell']) rfl (by omega) (by omega) hw2.size ?_; intro v1 w1 hown1 hg1 _))
        go_roundw
        case rel => exact ⟨k + 1, by omega, by go_num, own_cast hown1 (by rw [hst.out, hEk.out, List.map_append]; rfl) rfl, Below.own hw2 hw2.size hown2 (Nat.le_refl _) hg1, hbx2.grown hg1 (fun h => own_blk_ne hown2 hbx2 (by decide) h.symm)⟩
        case measure => simp [intOf]; omega
      · go_wp2_with (go_at_call 167; refine (l11At_any p b r _ _ hpr hf hik).mono ?_; rw [← hx'.out]; rintro e w2 ⟨rfl, hd2⟩; have hw2 := hw.trans (hd2.below.mono hw.size); have hown2 := own_call hown hd2.below; have hbx2 := hbx.below hd2.below hbx.lt)
        clear hw hown hbx e0 e1 e3 hpr htr hd2
        obtain ⟨hbl, hown, hbx⟩ := And.intro hw2 (And.intro hown2 hbx2)
        clear hw2 hown2 hbx2
        refine wp_region_v 16 16 (SC 14 15 [4, 6, 10, 13] w2 (.cells #[.int .i64 X] 2) (fun u w' => ∃ w1, Below w2.heap.size w2 w1 ∧ w'.ownsRow w.heap.size 2 1 u (k + 1) ((F k).map xv ++ [.int .i64 X]) ∧ w1.grownBy w' (u7).ownBlock)) (by kernel_rfl) (by kernel_rfl) ⟨fun _ => undef, SC.start⟩ ?_
        simp only [List.take_succ_cons, List.take_zero, List.drop_succ_cons, List.drop_zero]
        apply pv_step (fun _ => rfl)
        · intro σ L w' hS h1 h2 K hK
          clear h2
          go_wp2
          exact hS.keep (by decide) (by decide)
        simp only [Act.put, List.setIfInBounds_toArray, List.set_cons_succ, List.set_cons_zero]
        apply pv_step (fun _ => rfl)
        · intro σ L w' hS h1 h2 K hK
          clear h2
          go_wp2
          exact hS.keep (by decide) (by decide)
        simp only [Act.put, List.setIfInBounds_toArray, List.set_cons_succ, List.set_cons_zero]
        apply pv_step (fun _ => rfl)
        · intro σ L w' hS h1 h2 K hK
          clear h2
          go_wp2
          exact hS.keep (by decide) (by decide)
        simp only [Act.put, List.setIfInBounds_toArray, List.set_cons_succ, List.set_cons_zero]
        apply pv_step (fun _ => rfl)
        · intro σ L w' hS h1 h2 K hK
          clear h2
          go_wp2
          exact hS.keep (by decide) (by decide)
        simp only [Act.put, List.setIfInBounds_toArray, List.set_cons_succ, List.set_cons_zero]
        apply pv_step (fun _ => rfl)
        · intro σ L w' hS h1 h2 K hK
          clear h2
          have f := hbx.below (hS.low (by decide) h1) hbx.lt
          have f0 : w'.cell? ⟨w.heap.size, 0, none⟩ = some (.int .i64 r) := f.cell 0
          have f1 : w'.cell? ⟨w.heap.size, 1, none⟩ = some (.int .i64 c) := f.cell 1
          have f3 : w'.cell? ⟨w.heap.size, 3, none⟩ = some (sv s) := f.cell 3
          go_wp2
          exact hS.keep (by decide) (by decide)
        simp only [Act.put, List.setIfInBounds_toArray, List.set_cons_succ, List.set_cons_zero]
        apply pv_step (fun _ => rfl)
        · intro σ L w' hS h1 h2 K hK
          clear h2
          go_wp2
          exact hS.keep (by decide) (by decide)
        simp only [Act.put, List.setIfInBounds_toArray, List.set_cons_succ, List.set_cons_zero]
        apply pv_step (fun _ => rfl)
        · intro σ L w' hS h1 h2 K hK
          clear h2
          have f := hbx.below (hS.low (by decide) h1) hbx.lt
          have f0 : w'.cell? ⟨w.heap.size, 0, none⟩ = some (.int .i64 r) := f.cell 0
          have f1 : w'.cell? ⟨w.heap.size, 1, none⟩ = some (.int .i64 c) := f.cell 1
          have f3 : w'.cell? ⟨w.heap.size, 3, none⟩ = some (sv s) := f.cell 3
          go_wp2
          exact hS.keep (by decide) (by decide)
        simp only [Act.put, List.setIfInBounds_toArray, List.set_cons_succ, List.set_cons_zero]
        apply pv_step (fun _ => rfl)
        · intro σ L w' hS h1 h2 K hK
          clear h2
          go_wp2
          exact hS.keep (by decide) (by decide)
        simp only [Act.put, List.setIfInBounds_toArray, List.set_cons_succ, List.set_cons_zero]
        apply pv_step (fun _ => rfl)
        · intro σ L w' hS h1 h2 K hK
          clear h2
          go_wp2
          exact hS.keep (by decide) (by decide)
        simp only [Act.put, List.setIfInBounds_toArray, List.set_cons_succ, List.set_cons_zero]
        apply pv_step (fun _ => rfl)
        · intro σ L w' hS h1 h2 K hK
          clear h2
          go_wp2
          exact hS.keep (by decide) (by decide)
        simp only [Act.put, List.setIfInBounds_toArray, List.set_cons_succ, List.set_cons_zero]
        apply pv_step (fun _ => rfl)
        · intro σ L w' hS h1 h2 K hK
          clear h2
          have f := hbx.below (hS.low (by decide) h1) hbx.lt
          have f0 : w'.cell? ⟨w.heap.size, 0, none⟩ = some (.int .i64 r) := f.cell 0
          have f1 : w'.cell? ⟨w.heap.size, 1, none⟩ = some (.int .i64 c) := f.cell 1
          have f3 : w'.cell? ⟨w.heap.size, 3, none⟩ = some (sv s) := f.cell 3
          go_wp2
          exact hS.keep (by decide) (by decide)
        simp only [Act.put, List.setIfInBounds_toArray, List.set_cons_succ, List.set_cons_zero]
        apply pv_step (fun _ => rfl)
        · intro σ L w' hS h1 h2 K hK
          clear h2
          go_wp2
          exact hS.keep (by decide) (by decide)
        simp only [Act.put, List.setIfInBounds_toArray, List.set_cons_succ, List.set_cons_zero]
        apply pv_step (fun _ => rfl)
        · intro σ L w' hS h1 h2 K hK
          clear h2
          go_wp2
          exact hS.keep (by decide) (by decide)
        simp only [Act.put, List.setIfInBounds_toArray, List.set_cons_succ, List.set_cons_zero]
        apply pv_step (v := .int .i64 X) (fun _ => rfl)
        · intro σ L w' hS h1 h2 K hK
          clear h2
          have hl := hS.low (by decide) h1
          go_wp2_with (go_at_call 171; refine (kl hik _ (ht.below (hbl.trans (hl.mono hbl.size))) (hp.below (hbl.trans (hl.mono hbl.size)) hblt)).mono ?_; rintro e w2 ⟨rfl, hb2⟩)
          exact hS.call (by decide) h1 (by decide) (by decide) hb2
        simp only [Act.put, List.setIfInBounds_toArray, List.set_cons_succ, List.set_cons_zero]
        apply pv_free (fun _ => rfl)
        · intro σ L w' hS h1 h2 K hK
          have hp := h2 13 (List.contains_iff_mem.1 (by kernel_rfl))
          have hp4 := h2 4 (List.contains_iff_mem.1 (by kernel_rfl))
          have hp6 := h2 6 (List.contains_iff_mem.1 (by kernel_rfl))
          have hp10 := h2 10 (List.contains_iff_mem.1 (by kernel_rfl))
          clear h2
          have hS' := hS.tob h1 (by decide) (by simp [hp, hp4, hp6, hp10])
          have hlit := run_lit1 i64T (.int .i64 X) #[.int .i64 X] rfl rfl (by omega)
          go_wp2
          exact hS'
        simp only [Act.put, List.setIfInBounds_toArray, List.set_cons_succ, List.set_cons_zero]
        apply pv_free (fun _ => rfl)
        · intro σ L w' hS h1 h2 K hK
          have g14 := h2 14 (List.contains_iff_mem.1 (by kernel_rfl))
          have g13 := h2 13 (List.contains_iff_mem.1 (by kernel_rfl))
          have g4 := h2 4 (List.contains_iff_mem.1 (by kernel_rfl))
          have g6 := h2 6 (List.contains_iff_mem.1 (by kernel_rfl))
          have g10 := h2 10 (List.contains_iff_mem.1 (by kernel_rfl))
          clear h2
          obtain ⟨w1, hl1, e1, rfl⟩ := hS.ata h1 g14
          refine oper_app i64T (.tmp 26) (.tmp 40) rfl u7 k _ rfl w.heap.size (own_call hown hl1) [.int .i64 X] rfl (by simp [Value.oneCell']) w1.heap.size rfl e1 (by omega) (by omega) (Nat.le_trans hbl.size hl1.size) ?_
          intro v1 w1' h11 h12 h13
          exact hK v1 w1' (SC.toa g14 (by simp [g4, g6, g10, g13]) ⟨w1, hl1, h11, h12⟩)
        simp only [Act.put, List.setIfInBounds_toArray, List.set_cons_succ, List.set_cons_zero]
        refine pv_nil fun σ w8 hS => ?_
        obtain ⟨w1, hl1, own8, hg8⟩ := hS.fin rfl
        obtain ⟨v8, hv8⟩ : ∃ v8, v8 = σ 15 := ⟨_, rfl⟩
        rw [← hv8] at own8
        simp only [← hv8]
        clear hS hv8
        have hown1 := own_call hown hl1
        have hb1 := hbl.trans (hl1.mono hbl.size)
        have hbx1 := hbx.below hl1 hbx.lt
        go_wp2_with (fail)
        go_roundw
        case rel => exact ⟨k + 1, by omega, by go_num, own_cast own8 (by rw [hst.out, hEk.out, List.map_append]; rfl) rfl, Below.own hb1 hb1.size hown1 (Nat.le_refl _) hg8, hbx1.grown hg8 (fun h => own_blk_ne hown1 hbx1 (by decide) h.symm)⟩
        case measure => simp [intOf]; omega
    · obtain rfl : k = s.length := by omega
      go_wp2_with (fail)
      go_ret
      exact ⟨_, rfl, own_cast hown (by rw [hend.out]) rfl, hw⟩
end Go.Proofs.YtohopceknpgcnaaGreatDoor
/-
  Bounds of scores and of factors, in plain Lean.
  Conditions: none.
-/
namespace Go.Proofs.YtohopceknpgcnaaGreatDoor

theorem OnB_len {b : Bd} (hf : b.Fit) {q : Pl} (h : OnB b q) : q.word.length ≤ 15 := by
  rcases Nat.eq_zero_or_pos q.word.length with h0 | h0
  · omega
  · have a0 := h 0 h0
    have a1 := h (q.word.length - 1) (by omega)
    rw [inB_iff] at a0 a1
    have := hf.hi
    omega
theorem wdF_bd (p : UInt8) : 1 ≤ wdF p ∧ wdF p ≤ 3 := by
  unfold wdF
  split
  · omega
  · split <;> omega
theorem ltF_bd (p : UInt8) : 1 ≤ ltF p ∧ ltF p ≤ 3 := by
  unfold ltF
  split
  · omega
  · split <;> omega
theorem wfL_step {l : Str} {k : Nat} (h : k < l.length) : wfL (l.take (k + 1)) = wfL (l.take k) * wdF l[k] := by
  unfold wfL
  rw [List.take_add_one, List.getElem?_eq_getElem h, List.foldl_append]
  rfl
theorem wfL_pow (l : Str) : ∀ k : Nat, 1 ≤ wfL (l.take k) ∧ wfL (l.take k) ≤ 3 ^ k
  | 0 => by simp [wfL]
  | k + 1 => by
    obtain ⟨h1, h2⟩ := wfL_pow l k
    by_cases h : k < l.length
    · rw [wfL_step h]
      obtain ⟨d1, d2⟩ := wdF_bd l[k]
      constructor
      · have := Int.mul_le_mul h1 d1 (by omega) (by omega : (0 : Int) ≤ wfL (l.take k))
        omega
      · rw [Int.pow_succ]
        exact Int.mul_le_mul h2 d2 (by omega) (by omega)
    · rw [List.take_of_length_le (by omega : l.length ≤ k + 1), ← List.take_of_length_le (by omega : l.length ≤ k)]
      rw [Int.pow_succ]
      omega
theorem wfL_bd {l : Str} (hl : l.length ≤ 15) (k : Nat) : 1 ≤ wfL (l.take k) ∧ wfL (l.take k) ≤ 14348907 := by
  by_cases hk : k ≤ 15
  · obtain ⟨h1, h2⟩ := wfL_pow l k
    refine ⟨h1, Int.le_trans h2 ?_⟩
    have h3 : (3 : Nat) ^ k ≤ 3 ^ 15 := Nat.pow_le_pow_right (by omega) hk
    have h4 : (3 : Int) ^ k = ((3 ^ k : Nat) : Int) := by push_cast; rfl
    rw [h4]
    have : (3 : Nat) ^ 15 = 14348907 := by decide
    omega
  · obtain ⟨h1, h2⟩ := wfL_pow l 15
    rw [List.take_of_length_le (by omega)] at h1 h2 ⊢
    exact ⟨h1, by simpa using h2⟩
theorem wfL_all {l : Str} (hl : l.length ≤ 15) : 1 ≤ wfL l ∧ wfL l ≤ 14348907 := by
  have := wfL_bd hl l.length
  rwa [List.take_length] at this
/-- Sums of what lies in bounds. -/
theorem sum_bd {M : Int} (hM : 0 ≤ M) : ∀ {l : List Int}, (∀ x ∈ l, 0 ≤ x ∧ x ≤ M) → 0 ≤ l.sum ∧ l.sum ≤ M * l.length
  | [], _ => by simp
  | x :: r, h => by
    obtain ⟨h1, h2⟩ := h x (List.mem_cons_self ..)
    obtain ⟨h3, h4⟩ := sum_bd hM (l := r) fun y hy => h y (List.mem_cons_of_mem _ hy)
    rw [List.sum_cons, List.length_cons]
    refine ⟨by omega, ?_⟩
    have : M * ((r.length + 1 : Nat) : Int) = M * r.length + M := by push_cast; rw [Int.mul_add, Int.mul_one]
    omega
theorem sum_take_bd {M : Int} (hM : 0 ≤ M) {l : List Int} (h : ∀ x ∈ l, 0 ≤ x ∧ x ≤ M) (k : Nat) : 0 ≤ (l.take k).sum ∧ (l.take k).sum ≤ M * l.length := by
  obtain ⟨h1, h2⟩ := sum_bd hM (l := l.take k) fun x hx => h x (List.mem_of_mem_take hx)
  refine ⟨h1, Int.le_trans h2 (Int.mul_le_mul_of_nonneg_left ?_ hM)⟩
  have := List.length_take_le' k l
  omega
theorem lt_val {t : TS} (ho : TsOk t) (p c : UInt8) : 0 ≤ ltF p * valT t c ∧ ltF p * valT t c ≤ 60 := by
  obtain ⟨h1, h2⟩ := ltF_bd p
  have h3 := ho.lo c
  have h4 := ho.hi c
  refine ⟨Int.mul_nonneg (by omega) h3, ?_⟩
  have := Int.mul_le_mul h2 h4 h3 (by omega : (0 : Int) ≤ 3)
  omega
theorem lsS_mem {t : TS} (ho : TsOk t) (b : Bd) (q : Pl) : ∀ x ∈ lsS t b q, 0 ≤ x ∧ x ≤ 60 := fun x hx => by
  unfold lsS at hx
  obtain ⟨i, _, rfl⟩ := List.mem_map.1 hx
  split
  · exact lt_val ho _ _
  · have h3 := ho.lo (q.word.getD i 0)
    have h4 := ho.hi (q.word.getD i 0)
    omega
theorem lsS_length (t : TS) (b : Bd) (q : Pl) : (lsS t b q).length = q.word.length := by simp [lsS]
theorem mainF_wf (b : Bd) (q : Pl) : mainF b q = wfL ((freshL b q).map fun i : Nat => b.prm q.row (q.col + i)) := by
  unfold mainF wfL
  rw [List.foldl_map]
theorem freshL_15 {b : Bd} (hf : b.Fit) {q : Pl} (h : OnB b q) : (freshL b q).length ≤ 15 := Nat.le_trans (freshTo_length b q _) (OnB_len hf h)
/-- The score of a letter of a crossing word. -/
def crE (t : TS) (b : Bd) (q : Pl) (i k : Nat) : Int := if ((upTo b (q.col + i) q.row.toNat : Nat) : Int) + k = q.row then ltF (b.prm q.row (q.col + i)) * valT t (q.word.getD i 0) else valT t ((crossAt b q i).getD k 0)
def crTo (t : TS) (b : Bd) (q : Pl) (i m : Nat) : Int := ((List.range m).map (crE t b q i)).sum
theorem crS_to (t : TS) (b : Bd) (q : Pl) (i : Nat) : crS t b q i = crTo t b q i (crossAt b q i).length * wdF (b.prm q.row (q.col + i)) := rfl
theorem crTo_step (t : TS) (b : Bd) (q : Pl) (i m : Nat) : crTo t b q i (m + 1) = crTo t b q i m + crE t b q i m := by
  unfold crTo
  rw [List.range_succ, List.map_append, List.sum_append]
  simp
theorem crE_bd {t : TS} (ho : TsOk t) (b : Bd) (q : Pl) (i k : Nat) : 0 ≤ crE t b q i k ∧ crE t b q i k ≤ 60 := by
  unfold crE
  split
  · exact lt_val ho _ _
  · have h3 := ho.lo ((crossAt b q i).getD k 0)
    have h4 := ho.hi ((crossAt b q i).getD k 0)
    omega
theorem crTo_bd {t : TS} (ho : TsOk t) (b : Bd) (q : Pl) (i m : Nat) : 0 ≤ crTo t b q i m ∧ crTo t b q i m ≤ 60 * m := by
  obtain ⟨h1, h2⟩ := sum_bd (M := 60) (by omega) (l := (List.range m).map (crE t b q i)) fun x hx => by
    obtain ⟨k, _, rfl⟩ := List.mem_map.1 hx
    exact crE_bd ho b q i k
  rw [List.length_map, List.length_range] at h2
  exact ⟨h1, h2⟩
theorem crS_bd {t : TS} (ho : TsOk t) (b : Bd) (q : Pl) (i : Nat) : 0 ≤ crS t b q i ∧ crS t b q i ≤ 2880 := by
  rw [crS_to]
  obtain ⟨h1, h2⟩ := crTo_bd ho b q i (crossAt b q i).length
  have hl : (crossAt b q i).length ≤ 16 := crossS_length _ _ _ _
  obtain ⟨d1, d2⟩ := wdF_bd (b.prm q.row (q.col + i))
  refine ⟨Int.mul_nonneg h1 (by omega), ?_⟩
  have := Int.mul_le_mul (show crTo t b q i (crossAt b q i).length ≤ 960 by omega) d2 (by omega) (by omega : (0 : Int) ≤ 960)
  omega
theorem main_bd {t : TS} (ho : TsOk t) {b : Bd} (hf : b.Fit) {q : Pl} (h : OnB b q) : 0 ≤ (lsS t b q).sum * mainF b q ∧ (lsS t b q).sum * mainF b q ≤ 13000000000 := by
  obtain ⟨h1, h2⟩ := sum_bd (M := 60) (by omega) (lsS_mem ho b q)
  rw [lsS_length] at h2
  have hl := OnB_len hf h
  obtain ⟨d1, d2⟩ := wfL_all (l := (freshL b q).map fun i : Nat => b.prm q.row (q.col + i)) (by rw [List.length_map]; exact freshL_15 hf h)
  rw [← mainF_wf] at d1 d2
  refine ⟨Int.mul_nonneg h1 (by omega), ?_⟩
  have := Int.mul_le_mul (show (lsS t b q).sum ≤ 900 by omega) d2 (by omega) (by omega : (0 : Int) ≤ 900)
  omega
theorem partsS_mem {t : TS} (ho : TsOk t) {b : Bd} (hf : b.Fit) {q : Pl} (h : OnB b q) : ∀ x ∈ partsS t b q, 0 ≤ x ∧ x ≤ 13000000000 := fun x hx => by
  unfold partsS at hx
  rcases List.mem_cons.1 hx with e | hx
  · subst e; exact main_bd ho hf h
  · obtain ⟨i, _, rfl⟩ := List.mem_map.1 hx
    obtain ⟨h1, h2⟩ := crS_bd ho b q i
    omega
theorem partsS_length {t : TS} {b : Bd} (hf : b.Fit) {q : Pl} (h : OnB b q) : (partsS t b q).length ≤ 16 := by
  unfold partsS
  rw [List.length_cons, List.length_map]
  have h1 := List.length_filter_le (fun i => decide (1 < (crossAt b q i).length)) (freshL b q)
  have h2 := freshL_15 hf h
  omega
/-- The parts, as far as the first k new squares. -/
def partsTo (t : TS) (b : Bd) (q : Pl) (k : Nat) : List Int := ((lsS t b q).sum * mainF b q) :: (((freshL b q).take k).filter fun i => decide (1 < (crossAt b q i).length)).map (crS t b q)
theorem partsS_to (t : TS) (b : Bd) (q : Pl) : partsS t b q = partsTo t b q (freshL b q).length := by
  unfold partsS partsTo
  rw [List.take_length]
theorem partsTo_step (t : TS) (b : Bd) (q : Pl) (k : Nat) (h : k < (freshL b q).length) : partsTo t b q (k + 1) = if decide (1 < (crossAt b q (freshL b q)[k]).length) then partsTo t b q k ++ [crS t b q (freshL b q)[k]] else partsTo t b q k := by
  unfold partsTo
  rw [List.take_add_one, List.getElem?_eq_getElem h, List.filter_append]
  by_cases hx : 1 < (crossAt b q (freshL b q)[k]).length
  · simp [hx]
  · simp [hx]
end Go.Proofs.YtohopceknpgcnaaGreatDoor
/-
  Contract: the factor of a main word (layer 13 of the spec package).
  Conditions: a valid board lies in memory; the play's squares are on the board.
-/
namespace Go.Proofs.YtohopceknpgcnaaGreatDoor
open Go.RowKit RegP RegL RegV
set_option maxHeartbeats 4000000
set_option maxRecDepth 100000

theorem l13Main_any (p : Addr) (b : Bd) (q : Pl) (w : World) (hp : BAt w p b) (hf : b.Fit) (hon : OnB b q) :
    Calls Tryz.prog 169 #[.pointer (some p), q.v] w fun e w' => e = .returned (.int .i64 (mainF b q)) ∧ Below w.heap.size w w' := by
  have hl15 := OnB_len hf hon
  have hfr := fun w hp => l12Fresh_any p b q w hp hf hon (by omega)
  have kf := fun r c (hi : b.inB r c = true) w h => l13Factor_any p b r c w h hf hi
  have hGx := freshTo_lt b q q.word.length
  change ∀ x ∈ freshL b q, _ at hGx
  have hG15 := freshL_15 hf hon
  obtain ⟨P, hP⟩ : ∃ P, P = (freshL b q).map fun i : Nat => b.prm q.row (q.col + i) := ⟨_, rfl⟩
  have hPl : P.length = (freshL b q).length := by rw [hP, List.length_map]
  have hPk : Hid (∀ (k x : Nat) (_ : (freshL b q)[k]? = some x) (h2 : k < P.length), P[k] = b.prm q.row (q.col + x)) := Lib.hid (fun k x h h2 => by
    have e : P[k]? = some (b.prm q.row (q.col + x)) := by rw [hP, List.getElem?_map, h]; rfl
    rw [List.getElem?_eq_getElem h2] at e
    exact Option.some.inj e)
  have hbd := fun k => wfL_bd (l := P) (by omega) k
  have hst := fun k (h : k < P.length) => wfL_step h
  have hend : Hid (mainF b q = wfL (P.take P.length)) := Lib.hid (by rw [mainF_wf, ← hP, List.take_length])
  have hz : wfL (P.take 0) = 1 := rfl
  obtain ⟨M, hM⟩ : ∃ M, M = mainF b q := ⟨_, rfl⟩
  rw [← hM] at hend ⊢
  obtain ⟨G, hG⟩ : ∃ G, G = freshL b q := ⟨_, rfl⟩
  rw [← hG] at hfr hGx hG15 hPl hPk
  obtain ⟨F, hF⟩ : ∃ F : Nat → Int, F = fun k => wfL (P.take k) := ⟨_, rfl⟩
  have hFk : ∀ k, wfL (P.take k) = F k := fun k => by rw [hF]
  simp only [hFk] at hbd hst hend hz
  have hst' := Lib.hid hst
  have hbd' := Lib.hid hbd
  have hPl' := Lib.hid hPl
  clear hP hM hG hF hFk hst hbd hPl
  obtain ⟨r, c, dn, s⟩ := q
  simp only [OnB] at hon
  simp only at hl15 hPk hGx
  simp only [Pl.v] at hfr ⊢
  have hblt := hp.lt
  have h15 := hf.hi
  have hbx := (Blk.new w 69 #[.int .i64 r, .int .i64 c, .bool dn, sv s])
  have hbW := (Below.refl w.heap.size w).alloc (Nat.le_refl _) (.cells #[.int .i64 r, .int .i64 c, .bool dn, sv s] 69)
  go_enter Tryz.func169, Tryz.ntmps169
  go_wp2_with (go_at_call 121; refine (hfr _ (hp.alloc _)).mono ?_; rintro e w1 ⟨v1, rfl, own1, hb1⟩; obtain ⟨A1, c1, rfl, hc1, hr1⟩ := own_sl own1; have hbx1 := hbx.below hb1 hbx.lt; have hw1 := hbW.trans (hb1.mono hbW.size); have hp1 := hp.below hw1 hblt)
  go_loopw [6, 7] (fun o i wr => ∃ k : Nat, k ≤ G.length ∧ i = .int .i64 k ∧ o = .int .i64 (F k) ∧ Below w1.heap.size w1 wr) (fun _ i _ => G.length - (intOf i).toNat)
  case atStart => exact ⟨0, by omega, rfl, by rw [hz], Below.refl _ _⟩
  case round =>
    obtain ⟨k, hk, rfl, rfl, hb⟩ := hrel
    have hr := hr1.below' hb (Nat.le_refl _)
    have hzz := hb.size
    have hbxr := hbx1.below hb hbx1.lt
    have hwr := hw1.trans (hb.mono hw1.size)
    have hpr := hp1.below hb hp1.lt
    clear hbx
    by_cases hkl : k < G.length
    · obtain ⟨ad, rfl, hadb, hc3⟩ := hr.el hkl
      have hx := hGx G[k] (List.getElem_mem _)
      have hkP : k < P.length := by rw [hPl'.out]; exact hkl
      have hstk := Lib.hid (hst'.out k hkP)
      have hPx := Lib.hid (hPk.out k _ (List.getElem?_eq_getElem hkl) hkP)
      obtain ⟨f1, f2⟩ := hbd'.out k
      obtain ⟨g1, g2⟩ := wdF_bd P[k]
      obtain ⟨x, hxx⟩ : ∃ x, x = G[k] := ⟨_, rfl⟩
      rw [← hxx] at hx hc3 hPx
      clear hxx
      have hkk : (k : Int) < (G.length : Int) := by omega
      have hin := hon x hx
      obtain ⟨⟨r0, r1⟩, c0, c1'⟩ := inB_iff.1 hin
      have hcx0 : -274877906944 ≤ c := by omega
      have hcx1 : c ≤ 14 := by omega
      have hc3' : wr.cell? (ad.add k) = some (.int .i64 x) := hc3
      have hadk : (ad.add k).block < wr.heap.size := by rw [block_of_add]; omega
      have kfx := kf r (c + x) hin
      rw [← hPx.out] at kfx
      obtain ⟨D, hD⟩ : ∃ D, D = wdF P[k] := ⟨_, rfl⟩
      rw [← hD] at kfx hstk g1 g2
      obtain ⟨f, hfk⟩ : ∃ f, f = F k := ⟨_, rfl⟩
      rw [← hfk] at hstk f1 f2
      simp only [← hfk]
      clear hD hfk hPx kf
      have m1 : 0 ≤ f * D := Int.mul_nonneg (by omega) (by omega)
      have m2 : f * D ≤ 43046721 := by
        have := Int.mul_le_mul f2 g2 (by omega) (by omega : (0 : Int) ≤ 14348907)
        omega
      have m3 : IntKind.i64.wrap (f * D) = f * D := IntWalk.i64_in _ (by omega)
      have m4 : IntKind.i64.wrap (c + (x : Int)) = c + (x : Int) := IntWalk.i64_in _ (by omega)
      go_wp2_with (fail)
      refine wp_region_b 13 (by kernel_rfl) (by kernel_rfl) ?_
      simp only [List.take_succ_cons, List.take_zero, List.drop_succ_cons, List.drop_zero]
      iterate 13
        apply pc_step rfl
        · intro w4 hb4 K hK
          have f0 : w4.cell? (ad.add k) = some (.int .i64 x) := (hb4.cell hadk).trans hc3'
          have hbx4 := hbxr.below hb4 hbxr.lt
          have d0 : w4.cell? ⟨w.heap.size, 0, none⟩ = some (.int .i64 r) := hbx4.cell 0
          have d1 : w4.cell? ⟨w.heap.size, 1, none⟩ = some (.int .i64 c) := hbx4.cell 1
          go_wp2_with (first | (go_at_call 173; refine (kfx _ (hpr.below hb4 hpr.lt)).mono ?_; rintro e w5 ⟨rfl, hb5⟩))
          first | exact hb4 | exact hb4.trans (hb5.mono hb4.size) | exact hb4.trans (hd5.below.mono hb4.size)
        simp only [Act.put, List.setIfInBounds_toArray, List.set_cons_succ, List.set_cons_zero]
      refine pc_nil ?_
      intro w4 hb4
      go_wp2_with (fail)
      go_roundw
      case rel => exact ⟨k + 1, by omega, by go_num, by rw [hstk.out], hb.trans (hb4.mono hb.size)⟩
      case measure => simp [intOf]; omega
    · obtain rfl : k = G.length := by omega
      have hlt' : ¬ (G.length : Int) < (G.length : Int) := by omega
      go_wp2_with (fail)
      go_ret
      exact ⟨ret_int (by rw [hend.out, hPl'.out]), hwr⟩
end Go.Proofs.YtohopceknpgcnaaGreatDoor
