/-
  Plain laws: boards, piles, plays and their codes are the same in both packages; Plain law: one score of a play in both packages; the forms that the walks of the scores end in; Contracts: values of letters (layer 2 of the spec package); Contracts: premiums, scores of letters, factors (layer 13 of the spec package).
  Conditions: a valid board and rack; a valid board and play; a tile set lies in memory; lengths at most 2^40; a valid board and a valid tile set lie in memory; the square is on the board.
-/
import Derived.Test.YtdkckikobefekaaGreatDoorM08
import Derived.Test.YtdkckikobefekaaGreatDoorM17
import Derived.Test.YtdkckikobefekaaGreatDoorM06
import Derived.Test.YtdkckikobefekaaGreatDoorM04
import Derived.Test.YtdkckikobefekaaGreatDoorM07
namespace Go.Proofs.YtdkckikobefekaaGreatDoor
set_option linter.unusedVariables false
theorem turnTo_get (n : Nat) (s : Str) (m i : Nat) (h : i < m) : (turnTo n s m).getD i 0 = s.getD ((i % n) * n + i / n) 0 := by
 unfold turnTo
 rw [List.getD_eq_getElem?_getD, List.getElem?_map, List.getElem?_range h]
 rfl
theorem tr_inB (b : Bd) (r c : Int) : b.tr.inB r c = b.inB c r := by
 unfold Bd.inB Bd.tr
 exact Bool.and_comm _ _
theorem tr_at {b : Bd} (hf : b.Fit) {r c : Int} (h : b.inB c r = true) : b.tr.at_ r c = b.at_ c r := by
 rw [inB_iff] at h
 obtain ⟨⟨c0, c1⟩, r0, r1⟩ := h
 have h5 := hf.lo
 have h15 := hf.hi
 obtain ⟨n, hn⟩ : ∃ n : Nat, b.size = (n : Int) := ⟨b.size.toNat, by omega⟩
 obtain ⟨i, rfl⟩ : ∃ i : Nat, r = (i : Int) := ⟨r.toNat, by omega⟩
 obtain ⟨j, rfl⟩ : ∃ j : Nat, c = (j : Int) := ⟨c.toNat, by omega⟩
 have hi : i < n := by omega
 have hj : j < n := by omega
 show (turnS b.size.toNat b.cells).getD ((i : Int) * b.size + j).toNat 0 = b.cells.getD ((j : Int) * b.size + i).toNat 0
 rw [hn]
 have e1 : ((i : Int) * (n : Int) + (j : Int)).toNat = i * n + j := by
   rw [← Int.natCast_mul, ← Int.natCast_add, Int.toNat_natCast]
 have e2 : ((j : Int) * (n : Int) + (i : Int)).toNat = j * n + i := by
   rw [← Int.natCast_mul, ← Int.natCast_add, Int.toNat_natCast]
 have hlt : i * n + j < n * n := by
   have : (i + 1) * n ≤ n * n := Nat.mul_le_mul_right n hi
   rw [Nat.add_mul] at this
   omega
 rw [e1, e2, Int.toNat_natCast, turnS, turnTo_get n _ _ _ hlt]
 have m1 : (i * n + j) % n = j := by rw [Nat.mul_comm, Nat.mul_add_mod, Nat.mod_eq_of_lt hj]
 have m2 : (i * n + j) / n = i := by rw [Nat.mul_comm, Nat.mul_add_div (by omega), Nat.div_eq_of_lt hj, Nat.add_zero]
 rw [m1, m2]
theorem tr_cell {b : Bd} (hf : b.Fit) (r c : Int) : b.tr.cell r c = b.cell c r := by
 unfold Bd.cell
 rw [tr_inB]
 cases h : b.inB c r
 · rfl
 · simp only [if_true]; exact tr_at hf h
def Nz (b : Bd) : Prop := ∀ r c, b.inB r c = true → b.at_ r c ≠ 0
theorem cellB_nz {c : UInt8} (h : cellB c = true) : c ≠ 0 := by
 rintro rfl
 exact absurd h (by decide)
theorem bdB_cells {b : Bd} (h : bdB b = true) : b.cells.all cellB = true := by
 have h' := h
 simp only [bdB, Bool.and_eq_true, decide_eq_true_eq] at h
 rw [okFrom_eq _ _ (by have := h.2.1; have := h.2.2.1; omega)] at h
 simp only [Bool.and_eq_true] at h
 exact h.2.2.2.2
theorem at_mem {b : Bd} (hf : b.Fit) {r c : Int} (h : b.inB r c = true) : b.at_ r c ∈ b.cells := by
 rw [inB_iff] at h
 obtain ⟨⟨r0, r1⟩, c0, c1⟩ := h
 have hm := mul_bounds hf.lo hf.hi r0 r1 c0 c1
 have hl : (r * b.size + c).toNat < b.cells.length := by have := hf.cells; omega
 unfold Bd.at_
 rw [List.getD_eq_getElem?_getD, List.getElem?_eq_getElem hl]
 exact List.getElem_mem hl
theorem bdB_at {b : Bd} (h : bdB b = true) {r c : Int} (hi : b.inB r c = true) : cellB (b.at_ r c) = true :=
 List.all_eq_true.1 (bdB_cells h) _ (at_mem (bdB.fit h) hi)
theorem bdB_nz {b : Bd} (h : bdB b = true) : Nz b := fun _ _ hi => cellB_nz (bdB_at h hi)
theorem cell_in {b : Bd} {r c : Int} (h : b.inB r c = true) : b.cell r c = b.at_ r c := by unfold Bd.cell; rw [if_pos h]
theorem cell_out {b : Bd} {r c : Int} (h : b.inB r c = false) : b.cell r c = 0 := by unfold Bd.cell; rw [h]; rfl
theorem full_let {b : Bd} (hn : Nz b) (r c : Int) : b.full r c = b.let_ r c := by
 unfold Bd.full Bd.let_
 cases h : b.inB r c
 · rw [cell_out h]; rfl
 · rw [cell_in h]
   have := hn r c h
   simp [this]
theorem Nz.tr {b : Bd} (hf : b.Fit) (h : Nz b) : Nz b.tr := fun r c hi => by
 rw [tr_inB] at hi
 rw [tr_at hf hi]
 exact h c r hi
theorem flat_nz {b : Bd} (hf : b.Fit) (h : Nz b) (q : Pl) : Nz (flatB b q) := by
 unfold flatB; split
 · exact h.tr hf
 · exact h
theorem flat_size (b : Bd) (q : Pl) : (flatB b q).size = b.size := by unfold flatB; split <;> rfl
theorem flat_cell {b : Bd} (hf : b.Fit) (q : Pl) (n m : Int) : (flatB b q).cell ((flatP q).row + m) ((flatP q).col + n) = if q.down then b.cell (q.row + n) (q.col + m) else b.cell (q.row + m) (q.col + n) := by
 unfold flatB flatP
 cases hd : q.down
 · rfl
 · simp only [if_true]
   exact tr_cell hf _ _
theorem flat_inB {b : Bd} (q : Pl) (n m : Int) : (flatB b q).inB ((flatP q).row + m) ((flatP q).col + n) = if q.down then b.inB (q.row + n) (q.col + m) else b.inB (q.row + m) (q.col + n) := by
 unfold flatB flatP
 cases hd : q.down
 · rfl
 · simp only [if_true]
   exact tr_inB b _ _
theorem flat_row {b : Bd} (hf : b.Fit) (q : Pl) (n : Int) : (flatB b q).cell (flatP q).row ((flatP q).col + n) = b.cell (q.sr n) (q.sc n) := by
 have := flat_cell hf q n 0
 rw [Int.add_zero] at this
 rw [this]
 unfold Pl.sr Pl.sc
 cases q.down <;> simp
theorem flat_rowB {b : Bd} (q : Pl) (n : Int) : (flatB b q).inB (flatP q).row ((flatP q).col + n) = b.inB (q.sr n) (q.sc n) := by
 have := flat_inB (b := b) q n 0
 rw [Int.add_zero] at this
 rw [this]
 unfold Pl.sr Pl.sc
 cases q.down <;> simp
theorem let_eq {b b' : Bd} {r c r' c' : Int} (h : b.cell r c = b'.cell r' c') : b.let_ r c = b'.let_ r' c' := by unfold Bd.let_; rw [h]
theorem flat_full {b : Bd} (hf : b.Fit) (hn : Nz b) (q : Pl) (n : Int) : (flatB b q).full (flatP q).row ((flatP q).col + n) = b.let_ (q.sr n) (q.sc n) := by
 rw [full_let (flat_nz hf hn q)]
 exact let_eq (flat_row hf q n)
theorem flat_at {b : Bd} (hf : b.Fit) (q : Pl) {n : Int} (h : b.inB (q.sr n) (q.sc n) = true) : (flatB b q).at_ (flatP q).row ((flatP q).col + n) = b.cell (q.sr n) (q.sc n) := by
 rw [← cell_in (by rw [flat_rowB]; exact h)]
 exact flat_row hf q n
theorem fitGo_eq (b : Bd) (row : Int) : ∀ (s : Str) (fr : Bool) (c : Int), fitGo b row fr s c =
   ((List.range s.length).all (fun i => b.at_ row (c + (i : Nat)) == 46 || b.at_ row (c + (i : Nat)) == s.getD i 0) && (fr || (List.range s.length).any fun i => b.at_ row (c + (i : Nat)) == 46))
 | [], fr, c => by simp [fitGo]
 | x :: r, fr, c => by
   rw [fitGo, fitGo_eq b row r, fitGo_eq b row r]
   have hs : ∀ i : Nat, c + 1 + (i : Int) = c + ((i + 1 : Nat) : Int) := fun i => by omega
   simp only [List.length_cons, List.range_succ_eq_map, List.all_cons, List.any_cons, List.all_map, List.any_map, Function.comp_def, hs, Int.natCast_zero, Int.add_zero, List.getD_cons_zero, List.getD_cons_succ, Nat.succ_eq_add_one]
   cases h : (b.at_ row c == 46)
   · cases h2 : (b.at_ row c == x) <;> simp
   · simp
theorem onq_all {b : Bd} {q : Pl} (hon : OnQ b q) (f g : Nat → Bool) (h : ∀ i, i < q.word.length → b.inB (q.sr i) (q.sc i) = true → f i = g i) : (List.range q.word.length).all f = (List.range q.word.length).all g := by
 rw [Bool.eq_iff_iff, List.all_eq_true, List.all_eq_true]
 exact ⟨fun hh i hi => by rw [← h i (List.mem_range.1 hi) (hon i (List.mem_range.1 hi))]; exact hh i hi, fun hh i hi => by rw [h i (List.mem_range.1 hi) (hon i (List.mem_range.1 hi))]; exact hh i hi⟩
theorem onq_any {b : Bd} {q : Pl} (hon : OnQ b q) (f g : Nat → Bool) (h : ∀ i, i < q.word.length → b.inB (q.sr i) (q.sc i) = true → f i = g i) : (List.range q.word.length).any f = (List.range q.word.length).any g := by
 rw [Bool.eq_iff_iff, List.any_eq_true, List.any_eq_true]
 exact ⟨fun ⟨i, hi, hh⟩ => ⟨i, hi, by rw [← h i (List.mem_range.1 hi) (hon i (List.mem_range.1 hi))]; exact hh⟩, fun ⟨i, hi, hh⟩ => ⟨i, hi, by rw [h i (List.mem_range.1 hi) (hon i (List.mem_range.1 hi))]; exact hh⟩⟩
theorem onQ_of {b : Bd} {q : Pl} (h0 : b.inB q.row q.col = true) (h1 : b.inB (q.sr ((q.word.length : Int) - 1)) (q.sc ((q.word.length : Int) - 1)) = true) : OnQ b q := by
 intro i hi
 rw [inB_iff] at h0 h1 ⊢
 unfold Pl.sr Pl.sc at h1 ⊢
 cases hd : q.down <;> simp only [hd, Bool.false_eq_true, if_false, if_true] at h1 ⊢ <;> omega
theorem end_in {b : Bd} {q : Pl} (h0 : b.inB q.row q.col = true) (hl : 1 ≤ q.word.length) : decide ((flatP q).col + (q.word.length : Int) ≤ b.size) = b.inB (q.sr ((q.word.length : Int) - 1)) (q.sc ((q.word.length : Int) - 1)) := by
 rw [inB_iff] at h0
 rw [Bool.eq_iff_iff, inB_iff, decide_eq_true_eq]
 unfold Pl.sr Pl.sc flatP Pl.tr
 cases hd : q.down <;> simp only [Bool.false_eq_true, if_false, if_true] <;> omega
theorem okB_validI {b : Bd} (hb : bdB b = true) (q : Pl) : okB b q = validI b q := by
 have hf := bdB.fit hb
 have hn := bdB_nz hb
 have hw := flatP_word q
 have hs := flat_size b q
 unfold okB validI fitsB
 rw [hb, hw, hs, Bool.true_and]
 cases hwd : wordB q.word
 · simp
 have hl : 1 ≤ q.word.length := by
   unfold wordB at hwd
   simp only [Bool.and_eq_true, decide_eq_true_eq] at hwd
   omega
 have e0 : (flatB b q).inB (flatP q).row (flatP q).col = b.inB q.row q.col := by
   have := flat_rowB (b := b) q 0
   rw [Int.add_zero] at this
   rw [this]
   unfold Pl.sr Pl.sc
   cases q.down <;> simp
 rw [e0]
 cases h0 : b.inB q.row q.col
 · simp
 rw [end_in h0 hl]
 cases h1 : b.inB (q.sr ((q.word.length : Int) - 1)) (q.sc ((q.word.length : Int) - 1))
 · simp
 have hon := onQ_of h0 h1
 have em : (flatB b q).full (flatP q).row ((flatP q).col - 1) = b.let_ (q.sr (-1)) (q.sc (-1)) := flat_full hf hn q (-1)
 have en : (flatB b q).full (flatP q).row ((flatP q).col + q.word.length) = b.let_ (q.sr q.word.length) (q.sc q.word.length) := flat_full hf hn q _
 rw [em, en, fitGo_eq]
 simp only [Bool.true_and, Bool.false_or]
 rw [Bool.and_assoc, Bool.and_assoc]
 congr 2
 congr 1
 · refine onq_all hon _ _ fun i _ hi => ?_
   unfold fitQ cellQ
   rw [flat_at hf q hi]
 · refine onq_any hon _ _ fun i _ hi => ?_
   unfold cellQ
   rw [flat_at hf q hi]
theorem fresh_new {b : Bd} (hb : bdB b = true) {q : Pl} (hon : OnQ b q) : freshL (flatB b q) (flatP q) = newL b q := by
 have hf := bdB.fit hb
 unfold freshL newL freshTo newTo
 rw [flatP_word]
 refine List.filter_congr fun i hi => ?_
 have hin := hon i (List.mem_range.1 hi)
 rw [flat_at hf q hin]
 unfold Bd.let_
 have hz := bdB_nz hb _ _ hin
 rw [← cell_in hin] at hz
 simp [hz]
theorem placed_new {b : Bd} (hb : bdB b = true) {q : Pl} (hon : OnQ b q) : placedS (flatB b q) (flatP q) = placedI b q := by
 unfold placedS placedI
 rw [fresh_new hb hon, flatP_word]
structure Inv (C : List Int) (p : Str) : Prop where
 len : C.length = 27
 cnt : ∀ x, tileB x = true → C.getD (tileK x) 0 = (p.count x : Int)
theorem tileB_iff (x : UInt8) : tileB x = true ↔ x = 63 ∨ (97 ≤ x.toNat ∧ x.toNat ≤ 122) := by
 unfold tileB smallB
 simp only [Bool.or_eq_true, beq_iff_eq, Bool.and_eq_true, decide_eq_true_eq]
 constructor
 · rintro (h | h)
   · exact .inl h
   · exact .inr (by omega)
 · rintro (h | h)
   · exact .inl h
   · exact .inr (by omega)
theorem tileK_63 : tileK 63 = 0 := rfl
theorem tileK_small {x : UInt8} (h : 97 ≤ x.toNat) : tileK x = x.toNat - 96 := by
 unfold tileK
 have : (x == 63) = false := by
   rw [beq_eq_false_iff_ne]
   rintro rfl
   exact absurd h (by decide)
 rw [this]; rfl
theorem tileK_lt' {x : UInt8} (h : tileB x = true) : tileK x < 27 := by
 rcases (tileB_iff x).1 h with rfl | ⟨h1, h2⟩
 · decide
 · rw [tileK_small h1]; omega
theorem tileK_inj {x y : UInt8} (hx : tileB x = true) (hy : tileB y = true) (h : tileK x = tileK y) : x = y := by
 rcases (tileB_iff x).1 hx with rfl | ⟨h1, h2⟩ <;> rcases (tileB_iff y).1 hy with rfl | ⟨h3, h4⟩
 · rfl
 · rw [tileK_63, tileK_small h3] at h; omega
 · rw [tileK_63, tileK_small h1] at h; omega
 · rw [tileK_small h1, tileK_small h3] at h
   exact UInt8.toNat_inj.1 (by omega)
theorem getD_set_eq {C : List Int} {k : Nat} (v : Int) (h : k < C.length) : (C.set k v).getD k 0 = v := by
 rw [List.getD_eq_getElem?_getD, List.getElem?_set_self h]; rfl
theorem getD_set_ne' {C : List Int} {k j : Nat} (v : Int) (h : k ≠ j) : (C.set k v).getD j 0 = C.getD j 0 := by
 rw [List.getD_eq_getElem?_getD, List.getElem?_set_ne h, ← List.getD_eq_getElem?_getD]
theorem Inv.take {C : List Int} {p : Str} (h : Inv C p) {c : UInt8} (hc : tileB c = true) (hm : c ∈ p) : Inv (C.set (tileK c) (C.getD (tileK c) 0 - 1)) (p.erase c) := by
 refine ⟨by rw [List.length_set]; exact h.len, fun x hx => ?_⟩
 have hlt : tileK c < C.length := by rw [h.len]; exact tileK_lt' hc
 have hpos : 0 < p.count c := List.count_pos_iff.2 hm
 by_cases he : tileK c = tileK x
 · obtain rfl := tileK_inj hc hx he
   rw [getD_set_eq _ hlt, h.cnt c hc, List.count_erase_self]
   omega
 · rw [getD_set_ne' _ he, h.cnt x hx]
   have hne : x ≠ c := fun e => he (by rw [e])
   rw [List.count_erase_of_ne hne]
theorem Inv.add {C : List Int} {p : Str} (h : Inv C p) {c : UInt8} (hc : tileB c = true) : Inv (incAt C (tileK c)) (p ++ [c]) := by
 refine ⟨by unfold incAt; rw [List.length_set]; exact h.len, fun x hx => ?_⟩
 have hlt : tileK c < C.length := by rw [h.len]; exact tileK_lt' hc
 unfold incAt
 by_cases he : tileK c = tileK x
 · obtain rfl := tileK_inj hc hx he
   rw [getD_set_eq _ hlt, h.cnt c hc, List.count_append]
   simp
 · rw [getD_set_ne' _ he, h.cnt x hx]
   have hne : c ≠ x := fun e => he (by rw [e])
   rw [List.count_append, List.count_singleton]
   simp [hne]
theorem Inv.foldl : ∀ (s : Str) {C : List Int} {p : Str}, Inv C p → s.all tileB = true → Inv (s.foldl (fun c x => incAt c (tileK x)) C) (p ++ s)
 | [], C, p, h, _ => by simpa using h
 | x :: s, C, p, h, hs => by
   rw [List.all_cons, Bool.and_eq_true] at hs
   have := Inv.foldl s (h.add hs.1) hs.2
   rw [List.append_assoc] at this
   exact this
theorem Inv.zero : Inv zeroC [] := ⟨rfl, fun x _ => by
 rw [List.count_nil, zeroC, List.getD_eq_getElem?_getD, List.getElem?_replicate]
 split <;> rfl⟩
theorem Inv.counts {s : Str} (h : s.all tileB = true) : Inv (countsL s) s := by
 have := Inv.foldl s Inv.zero h
 exact this
theorem takeGo_nil1 : ∀ a : Str, (takeGo a []).1 = a
 | [] => rfl
 | x :: a => by rw [takeGo, takeGo_nil1 a]
theorem takeS_one (c : UInt8) : ∀ p : Str, takeS p [c] = p.erase c
 | [] => rfl
 | x :: a => by
   have ih := takeS_one c a
   unfold takeS at ih ⊢
   rw [takeGo, List.erase_cons]
   by_cases h : c = x
   · subst h; simp [takeGo_nil1]
   · have : (x == c) = false := by simpa using fun e : x = c => h e.symm
     rw [if_neg h, this]
     simp [ih]
theorem takeB_one (c : UInt8) : ∀ p : Str, takeB p [c] = decide (c ∈ p)
 | [] => by simp [takeB, takeGo]
 | x :: a => by
   have ih := takeB_one c a
   unfold takeB at ih ⊢
   rw [takeGo]
   by_cases h : c = x
   · subst h; simp [takeGo_nil]
   · rw [if_neg h]
     simp only [ih, List.mem_cons, h, false_or]
def Asc (s : Str) : Prop := s.Pairwise fun a b => a.toNat ≤ b.toNat
theorem pileFrom_asc : ∀ (s : Str) (q : UInt8), pileFrom (some q) s = true → s.all tileB = true ∧ Asc (q :: s)
 | [], q, _ => ⟨rfl, List.pairwise_singleton _ _⟩
 | a :: r, q, h => by
   rw [pileFrom] at h
   simp only [Bool.and_eq_true] at h
   obtain ⟨h1, h2⟩ := pileFrom_asc r a h.2
   have hle : q.toNat ≤ a.toNat := by have := h.1.2; unfold leB at this; simpa using this
   refine ⟨by rw [List.all_cons, h1, h.1.1]; rfl, List.pairwise_cons.2 ⟨fun b hb => ?_, h2⟩⟩
   rcases List.mem_cons.1 hb with e | hb
   · subst e; exact hle
   · exact Nat.le_trans hle ((List.pairwise_cons.1 h2).1 b hb)
theorem pileB_asc {s : Str} (h : pileB s = true) : s.all tileB = true ∧ Asc s := by
 unfold pileB at h
 rw [Bool.and_eq_true] at h
 match s, h.1 with
 | [], _ => exact ⟨rfl, List.Pairwise.nil⟩
 | a :: r, h1 =>
   rw [pileFrom, Bool.and_eq_true] at h1
   obtain ⟨h2, h3⟩ := pileFrom_asc r a h1.2
   exact ⟨by rw [List.all_cons, h1.1, h2]; rfl, h3⟩
theorem rackB_asc {s : Str} (h : rackB s = true) : s.all tileB = true ∧ Asc s := by
 unfold rackB at h
 rw [Bool.and_eq_true] at h
 exact pileB_asc h.1
theorem asc_notin {a : Str} {x c : UInt8} (h : Asc (x :: a)) (hc : c.toNat < x.toNat) : (x :: a).count c = 0 := by
 rw [List.count_eq_zero]
 intro hm
 rcases List.mem_cons.1 hm with e | hm
 · subst e; omega
 · have := (List.pairwise_cons.1 h).1 c hm; omega
theorem takeGo_count : ∀ (a b : Str), Asc a → Asc b → ((takeGo a b).2 = [] ↔ ∀ c, b.count c ≤ a.count c)
 | [], b, _, _ => by
   rw [takeGo]
   constructor
   · rintro h c
     have h : b = [] := h
     subst h; simp
   · intro h
     show b = []
     match b, h with
     | [], _ => rfl
     | y :: b, h => have := h y; simp at this
 | x :: a, [], _, _ => by simp [takeGo]
 | x :: a, y :: b, ha, hb => by
   have ha' := (List.pairwise_cons.1 ha).2
   have hb' := (List.pairwise_cons.1 hb).2
   rw [takeGo]
   by_cases h : y = x
   · subst h
     rw [if_pos rfl, takeGo_count a b ha' hb']
     refine forall_congr' fun c => ?_
     rw [List.count_cons, List.count_cons]
     omega
   · rw [if_neg h]
     show (takeGo a (y :: b)).2 = [] ↔ _
     rw [takeGo_count a (y :: b) ha' hb]
     constructor
     · intro hh c
       have := hh c
       rw [List.count_cons (b := x)]
       omega
     · intro hh c
       have h1 := hh c
       by_cases hcx : c = x
       · subst hcx
         rcases Nat.lt_or_ge c.toNat y.toNat with hlt | hge
         · rw [asc_notin hb hlt]; exact Nat.zero_le _
         · have hne : y.toNat ≠ c.toNat := fun e => h (UInt8.toNat_inj.1 e)
           have h2 := hh y
           rw [asc_notin ha (by omega), List.count_cons_self] at h2
           omega
       · rw [List.count_cons_of_ne (fun e => hcx e.symm)] at h1
         exact h1
theorem insK_spec (l : Str) (c : UInt8) : ∀ k, k ≤ l.length → insK l c k ≤ k ∧ (∀ i (hi : i < l.length), i < k → insK l c k ≤ i → c.toNat < l[i].toNat) ∧ (∀ h : insK l c k - 1 < l.length, 0 < insK l c k → l[insK l c k - 1].toNat ≤ c.toNat)
 | 0, _ => ⟨Nat.le_refl _, fun i _ h => absurd h (by omega), fun _ h => by simp [insK] at h⟩
 | k + 1, hk => by
   obtain ⟨h0, h1, h2⟩ := insK_spec l c k (by omega)
   rw [insK, List.getElem?_eq_getElem (by omega : k < l.length), Option.getD_some]
   by_cases hc : c.toNat < l[k].toNat
   · simp only [hc, if_true]
     refine ⟨by omega, fun i hi h h' => ?_, h2⟩
     by_cases hik : i = k
     · subst hik; exact hc
     · exact h1 i hi (by omega) h'
   · simp only [hc, if_false]
     exact ⟨Nat.le_refl _, fun i _ h h' => absurd h (by omega), fun _ _ => by simpa using hc⟩
theorem asc_insR {l : Str} (c : UInt8) (h : Asc l) : Asc (insR l c) := by
 unfold insR
 obtain ⟨h0, h1, h2⟩ := insK_spec l c l.length (Nat.le_refl _)
 obtain ⟨m, hm⟩ : ∃ m, m = insK l c l.length := ⟨_, rfl⟩
 rw [← hm] at h0 h1 h2 ⊢
 clear hm
 have hp := List.pairwise_iff_getElem.1 h
 have hd : ∀ b ∈ l.drop m, c.toNat ≤ b.toNat := by
   intro b hb
   obtain ⟨i, hi, rfl⟩ := List.mem_iff_getElem.1 hb
   rw [List.getElem_drop]
   exact Nat.le_of_lt (h1 _ _ (by simp at hi; omega) (by omega))
 have ht : ∀ b ∈ l.take m, b.toNat ≤ c.toNat := by
   intro b hb
   obtain ⟨i, hi, rfl⟩ := List.mem_iff_getElem.1 hb
   rw [List.getElem_take]
   have him : i < m := by simp at hi; omega
   have hl := h2 (by omega) (by omega)
   by_cases he : i = m - 1
   · subst he; exact hl
   · exact Nat.le_trans (hp i (m - 1) (by omega) (by omega) (by omega)) hl
 refine List.pairwise_append.2 ⟨h.sublist (List.take_sublist _ _), List.pairwise_cons.2 ⟨hd, h.sublist (List.drop_sublist _ _)⟩, fun a ha b hb => ?_⟩
 rcases List.mem_cons.1 hb with e | hb
 · subst e; exact ht a ha
 · exact Nat.le_trans (ht a ha) (hd b hb)
theorem count_insR (l : Str) (c x : UInt8) : (insR l c).count x = l.count x + [c].count x := by
 unfold insR
 rw [List.count_append, List.count_cons, List.count_singleton]
 have := congrArg (List.count x) (List.take_append_drop (insK l c l.length) l)
 rw [List.count_append] at this
 omega
theorem foldl_insR : ∀ (s l : Str), Asc l → Asc (s.foldl insR l) ∧ ∀ x, (s.foldl insR l).count x = l.count x + s.count x
 | [], l, h => ⟨h, fun x => by simp⟩
 | c :: s, l, h => by
   obtain ⟨h1, h2⟩ := foldl_insR s (insR l c) (asc_insR c h)
   refine ⟨h1, fun x => ?_⟩
   rw [List.foldl_cons, h2, count_insR, List.count_singleton, List.count_cons (a := x)]
   omega
theorem isort_asc (s : Str) : Asc (isort s) := (foldl_insR s [] List.Pairwise.nil).1
theorem isort_count (s : Str) (x : UInt8) : (isort s).count x = s.count x := by
 have := (foldl_insR s [] List.Pairwise.nil).2 x
 rw [List.count_nil, Nat.zero_add] at this
 exact this
theorem tileC_tileK {x : UInt8} (h : tileB x = true) : tileC (tileK x) = x := by
 rcases (tileB_iff x).1 h with rfl | ⟨h1, h2⟩
 · rfl
 · rw [tileK_small h1]
   unfold tileC
   rw [if_neg (by omega)]
   apply UInt8.toNat_inj.1
   rw [UInt8.toNat_ofNat']
   omega
theorem tileK_tileC {k : Nat} (h : k < 27) : tileK (tileC k) = k := by
 by_cases h0 : k = 0
 · subst h0; rfl
 · have e : (tileC k).toNat = 96 + k := by
     unfold tileC
     rw [if_neg h0, UInt8.toNat_ofNat']
     omega
   rw [tileK_small (by omega), e]
   omega
theorem pileTo_count (c : List Int) {x : UInt8} (h : tileB x = true) : ∀ k, k ≤ 27 → (pileTo c k).count x = if tileK x < k then (c.getD (tileK x) 0).toNat else 0
 | 0, _ => rfl
 | k + 1, hk => by
   have e : pileTo c (k + 1) = pileTo c k ++ List.replicate (c.getD k 0).toNat (tileC k) := by simp [pileTo, List.range_succ]
   rw [e, List.count_append, pileTo_count c h k (by omega), List.count_replicate]
   by_cases he : tileK x = k
   · subst he
     rw [tileC_tileK h, if_neg (by omega), if_pos (by simp), if_pos (by omega), Nat.zero_add]
   · have hne : (tileC k == x) = false := by
       rw [beq_eq_false_iff_ne]
       intro e2
       rw [← e2, tileK_tileC (by omega)] at he
       exact he rfl
     rw [hne]
     have : (if (false = true) then (c.getD k 0).toNat else 0) = 0 := rfl
     rw [this]
     by_cases hlt : tileK x < k
     · rw [if_pos hlt, if_pos (by omega), Nat.add_zero]
     · rw [if_neg hlt, if_neg (by omega)]
theorem pileL_tile' (c : List Int) : (pileL c).all tileB = true := by
 unfold pileL pileTo
 rw [List.all_flatMap, List.all_eq_true]
 intro i hi
 have hi := List.mem_range.1 hi
 rw [List.all_eq_true]
 intro x hx
 rw [List.eq_of_mem_replicate hx]
 by_cases h0 : i = 0
 · subst h0; rfl
 · have e : (tileC i).toNat = 96 + i := by
     unfold tileC
     rw [if_neg h0, UInt8.toNat_ofNat']
     omega
   exact (tileB_iff _).2 (.inr (by omega))
theorem lessOk_count {a b : Str} (ha : a.all tileB = true) (hb : b.all tileB = true) : lessOk (countsL a) (countsL b) = true ↔ ∀ c, b.count c ≤ a.count c := by
 have ia := Inv.counts ha
 have ib := Inv.counts hb
 unfold lessOk
 rw [List.all_eq_true]
 constructor
 · intro h c
   by_cases hc : tileB c = true
   · have := h (tileK c) (List.mem_range.2 (tileK_lt' hc))
     rw [ia.cnt c hc, ib.cnt c hc, decide_eq_true_eq] at this
     omega
   · rw [List.count_eq_zero.2 (fun hm => hc (List.all_eq_true.1 hb c hm))]
     exact Nat.zero_le _
 · intro h i hi
   have hi := List.mem_range.1 hi
   have ht : tileB (tileC i) = true := by
     by_cases h0 : i = 0
     · subst h0; rfl
     · have e : (tileC i).toNat = 96 + i := by
         unfold tileC
         rw [if_neg h0, UInt8.toNat_ofNat']
         omega
       exact (tileB_iff _).2 (.inr (by omega))
   have h1 := ia.cnt _ ht
   have h2 := ib.cnt _ ht
   rw [tileK_tileC hi] at h1 h2
   rw [h1, h2, decide_eq_true_eq]
   have := h (tileC i)
   omega
theorem blank_tiles {s : Str} (h : lettB s = true) : (s.map blankC).all tileB = true := by
 rw [List.all_map, List.all_eq_true]
 intro c hc
 have := List.all_eq_true.1 h c hc
 show tileB (blankC c) = true
 unfold blankC
 split
 · rfl
 · rename_i hcap
   rw [Bool.or_eq_true] at this
   rcases this with h1 | h1
   · unfold tileB; rw [h1, Bool.or_true]
   · exact absurd h1 hcap
theorem take_less {rack s : Str} (hr : rackB rack = true) (hs : lettB s = true) : takeB rack (tilesS s) = withoutB rack (tilesP s) := by
 obtain ⟨h1, h2⟩ := rackB_asc hr
 have ht := blank_tiles hs
 have hi := Inv.counts ht
 rw [Bool.eq_iff_iff]
 unfold takeB withoutB
 rw [lessOk_count h1 (show (tilesP s).all tileB = true from pileL_tile' _), List.isEmpty_iff, takeGo_count _ _ h2 (show Asc (tilesS s) from isort_asc _)]
 refine forall_congr' fun c => ?_
 unfold tilesP tilesS
 rw [isort_count]
 have e : (pileL (countsL (s.map blankC))).count c = (s.map blankC).count c := by
   by_cases hc : tileB c = true
   · unfold pileL
     rw [pileTo_count _ hc 27 (Nat.le_refl _), if_pos (tileK_lt' hc), hi.cnt c hc, Int.toNat_natCast]
   · rw [List.count_eq_zero.2 (fun hm => hc (List.all_eq_true.1 (pileL_tile' _) c hm)), List.count_eq_zero.2 (fun hm => hc (List.all_eq_true.1 ht c hm))]
 rw [e]
theorem idx_inj {n r c r' c' : Int} (hn : 0 < n) (c0 : 0 ≤ c) (c1 : c < n) (c0' : 0 ≤ c') (c1' : c' < n) (h : r * n + c = r' * n + c') : r = r' ∧ c = c' := by
 have e1 : (r * n + c) % n = c := by rw [Int.add_comm, Int.add_mul_emod_self_right, Int.emod_eq_of_lt c0 c1]
 have e2 : (r' * n + c') % n = c' := by rw [Int.add_comm, Int.add_mul_emod_self_right, Int.emod_eq_of_lt c0' c1']
 have hc : c = c' := by rw [← e1, ← e2, h]
 subst hc
 have : r * n = r' * n := by omega
 exact ⟨Int.eq_of_mul_eq_mul_right (by omega) this, rfl⟩
theorem idx_nat {b : Bd} (hf : b.Fit) {r c r' c' : Int} (h : b.inB r c = true) (h' : b.inB r' c' = true) (e : (r * b.size + c).toNat = (r' * b.size + c').toNat) : r = r' ∧ c = c' := by
 rw [inB_iff] at h h'
 have h5 := hf.lo
 have m1 := mul_bounds hf.lo hf.hi h.1.1 h.1.2 h.2.1 h.2.2
 have m2 := mul_bounds hf.lo hf.hi h'.1.1 h'.1.2 h'.2.1 h'.2.2
 exact idx_inj (n := b.size) (by omega) (by omega) (by omega) (by omega) (by omega) (by omega)
theorem made_step (b : Bd) (q : Pl) (k : Nat) : madeTo b q (k + 1) = (madeTo b q k).set (idxOf b q k) (q.word.getD k 0) := by
 simp [madeTo, List.range_succ]
theorem made_len (b : Bd) (q : Pl) : ∀ k, (madeTo b q k).length = b.cells.length
 | 0 => rfl
 | k + 1 => by rw [made_step, List.length_set]; exact made_len b q k
theorem made_other (b : Bd) (q : Pl) (j : Nat) : ∀ k, (∀ i, i < k → idxOf b q i ≠ j) → (madeTo b q k).getD j 0 = b.cells.getD j 0
 | 0, _ => rfl
 | k + 1, h => by
   rw [made_step, List.getD_eq_getElem?_getD, List.getElem?_set_ne (h k (by omega)), ← List.getD_eq_getElem?_getD]
   exact made_other b q j k fun i hi => h i (by omega)
theorem made_same {b : Bd} (hf : b.Fit) {q : Pl} (hon : OnQ b q) {i : Nat} : ∀ k, i < k → k ≤ q.word.length → (madeTo b q k).getD (idxOf b q i) 0 = q.word.getD i 0
 | 0, h, _ => absurd h (by omega)
 | k + 1, h, hk => by
   rw [made_step, List.getD_eq_getElem?_getD]
   by_cases he : i = k
   · subst he
     have hin := hon i (by omega)
     rw [inB_iff] at hin
     have hm := mul_bounds hf.lo hf.hi hin.1.1 hin.1.2 hin.2.1 hin.2.2
     have hl : idxOf b q i < (madeTo b q i).length := by
       rw [made_len]; have := hf.cells; unfold idxOf; omega
     rw [List.getElem?_set_self hl]
     rfl
   · have hne : idxOf b q k ≠ idxOf b q i := fun e => by
       have := idx_nat hf (hon k (by omega)) (hon i (by omega)) e
       unfold Pl.sr Pl.sc at this
       cases hd : q.down <;> simp only [hd, Bool.false_eq_true, if_false, if_true] at this <;> omega
     rw [List.getElem?_set_ne hne, ← List.getD_eq_getElem?_getD]
     exact made_same hf hon k (by omega) (by omega)
theorem made_inB (b : Bd) (q : Pl) (r c : Int) : (madeB b q).inB r c = b.inB r c := rfl
theorem made_on {b : Bd} (hf : b.Fit) {q : Pl} (hon : OnQ b q) {i : Nat} (h : i < q.word.length) : (madeB b q).cell (q.sr i) (q.sc i) = q.word.getD i 0 := by
 rw [cell_in (by rw [made_inB]; exact hon i h)]
 exact made_same hf hon _ h (Nat.le_refl _)
theorem made_off {b : Bd} (hf : b.Fit) {q : Pl} (hon : OnQ b q) {r c : Int} (h : ∀ i : Nat, i < q.word.length → ¬(q.sr i = r ∧ q.sc i = c)) : (madeB b q).cell r c = b.cell r c := by
 unfold Bd.cell
 rw [made_inB]
 cases hi : b.inB r c
 · rfl
 · simp only [if_true]
   exact made_other b q _ _ fun i hk e => h i hk (idx_nat hf (hon i hk) hi e)
section
variable {b : Bd} {q : Pl} {i : Nat}
theorem across_cell (hf : b.Fit) (hon : OnQ b q) (n : Int) (hn : n ≠ 0) :
   (madeB b q).cell (sqAt (!q.down) (q.sr i) (q.sc i) n).1 (sqAt (!q.down) (q.sr i) (q.sc i) n).2 = (flatB b q).cell ((flatP q).row + n) ((flatP q).col + (i : Int)) := by
 rw [flat_cell hf, made_off hf hon (fun k hk => ?_)]
 · unfold sqAt Pl.sr Pl.sc
   cases q.down <;> rfl
 · unfold sqAt Pl.sr Pl.sc
   cases q.down <;> simp <;> omega
theorem across_zero (hf : b.Fit) (hon : OnQ b q) (hi : i < q.word.length) :
   (madeB b q).cell (sqAt (!q.down) (q.sr i) (q.sc i) 0).1 (sqAt (!q.down) (q.sr i) (q.sc i) 0).2 = q.word.getD i 0 := by
 have e : ((sqAt (!q.down) (q.sr i) (q.sc i) 0).1, (sqAt (!q.down) (q.sr i) (q.sc i) 0).2) = (q.sr i, q.sc i) := by
   unfold sqAt; cases q.down <;> simp
 injection e with e1 e2
 rw [e1, e2]
 exact made_on hf hon hi
theorem across_on (hb : bdB b = true) (hon : OnQ b q) (n : Int) (hn : n ≠ 0) :
   onAt (madeB b q) (!q.down) (q.sr i) (q.sc i) n = (flatB b q).full ((flatP q).row + n) ((flatP q).col + (i : Int)) := by
 rw [full_let (flat_nz (bdB.fit hb) (bdB_nz hb) q)]
 exact let_eq (across_cell (bdB.fit hb) hon n hn)
theorem across_on0 (hb : bdB b = true) (hon : OnQ b q) (hi : i < q.word.length) (hw : lettB q.word = true) : onAt (madeB b q) (!q.down) (q.sr i) (q.sc i) 0 = true := by
 unfold onAt Bd.let_
 rw [across_zero (bdB.fit hb) hon hi]
 have hm : q.word.getD i 0 ∈ q.word := by
   rw [List.getD_eq_getElem?_getD, List.getElem?_eq_getElem hi]; exact List.getElem_mem hi
 have := List.all_eq_true.1 hw _ hm
 generalize q.word.getD i 0 = x at this
 have h0 : x ≠ 0 := by rintro rfl; exact absurd this (by decide)
 have h46 : x ≠ 46 := by rintro rfl; exact absurd this (by decide)
 simp [h0, h46]
theorem full_bd {b : Bd} (hf : b.Fit) {r c : Int} (h : b.full r c = true) : 0 ≤ r ∧ r < 15 := by
 unfold Bd.full at h
 rw [Bool.and_eq_true, inB_iff] at h
 have := hf.hi
 omega
theorem bef_up (hb : bdB b = true) (hon : OnQ b q) {R : Nat} (hR : (flatP q).row = (R : Int)) : ∀ (k m f : Nat), k + m = R → k < f →
   (upTo (flatB b q) ((flatP q).col + (i : Int)) k : Int) = (R : Int) - (befN (madeB b q) (!q.down) (q.sr i) (q.sc i) f m : Nat)
 | 0, m, f + 1, h, _ => by
   have hno : onAt (madeB b q) (!q.down) (q.sr i) (q.sc i) (-(m : Int) - 1) = false := by
     rw [across_on hb hon _ (by omega), Bool.eq_false_iff]
     intro hh
     have hf : (flatB b q).Fit := by
       have := flat_size b q
       exact ⟨by rw [this]; exact (bdB.fit hb).lo, by rw [this]; exact (bdB.fit hb).hi, by unfold flatB; split; exact (Bd.Fit.tr (bdB.fit hb)).prem; exact (bdB.fit hb).prem, by unfold flatB; split; exact (Bd.Fit.tr (bdB.fit hb)).cells; exact (bdB.fit hb).cells⟩
     have := full_bd hf hh
     omega
   rw [upTo, befN, hno]
   simp only [Bool.false_eq_true, if_false]
   omega
 | k + 1, m, f + 1, h, hf => by
   have he : onAt (madeB b q) (!q.down) (q.sr i) (q.sc i) (-(m : Int) - 1) = (flatB b q).full (k : Int) ((flatP q).col + (i : Int)) := by
     rw [across_on hb hon _ (by omega)]
     congr 1
     omega
   rw [upTo, befN, he]
   cases hc : (flatB b q).full (k : Int) ((flatP q).col + (i : Int))
   · simp only [Bool.false_eq_true, if_false]
     omega
   · simp only [if_true]
     exact bef_up hb hon hR k (m + 1) f (by omega) (by omega)
theorem seq_cross (hb : bdB b = true) (hon : OnQ b q) (hi : i < q.word.length) (hw : lettB q.word = true) {R : Nat} (hR : (flatP q).row = (R : Int)) (hR15 : R < 15) (hff : (flatB b q).Fit) : ∀ (fu r fs : Nat), r + fu = 16 → fu ≤ fs →
   crossGo (flatB b q) R ((flatP q).col + (i : Int)) (q.word.getD i 0) fu r = (seqGo (madeB b q) (!q.down) (q.sr i) (q.sc i) fs ((r : Int) - R)).map fun n => (madeB b q).cell (sqAt (!q.down) (q.sr i) (q.sc i) n).1 (sqAt (!q.down) (q.sr i) (q.sc i) n).2
 | 0, r, 0, _, _ => by rw [crossGo, seqGo]; rfl
 | 0, r, fs + 1, h, _ => by
   have hno : onAt (madeB b q) (!q.down) (q.sr i) (q.sc i) ((r : Int) - R) = false := by
     rw [across_on hb hon _ (by omega), Bool.eq_false_iff]
     intro hh
     have := full_bd hff hh
     omega
   rw [crossGo, seqGo, hno]; rfl
 | fu + 1, r, fs + 1, h, hs => by
   have ih := seq_cross hb hon hi hw hR hR15 hff fu (r + 1) fs (by omega) (by omega)
   rw [show (((r + 1 : Nat) : Int) - (R : Int)) = (r : Int) - R + 1 from by omega] at ih
   rw [crossGo, seqGo, ih]
   by_cases hr : r = R
   · subst hr
     rw [Int.sub_self, across_on0 hb hon hi hw]
     simp only [if_true, List.map_cons]
     rw [across_zero (bdB.fit hb) hon hi]
   · have e1 : (flatP q).row + ((r : Int) - R) = (r : Int) := by omega
     have ho := across_on (i := i) hb hon ((r : Int) - R) (by omega)
     have hc := across_cell (i := i) (bdB.fit hb) hon ((r : Int) - R) (by omega)
     rw [e1] at ho hc
     rw [if_neg hr, ho]
     cases hfu : (flatB b q).full (r : Int) ((flatP q).col + (i : Int))
     · rfl
     · simp only [if_true, List.map_cons]
       rw [hc, cell_in]
       unfold Bd.full at hfu
       rw [Bool.and_eq_true] at hfu
       exact hfu.1
theorem flat_fit' (hf : b.Fit) (q : Pl) : (flatB b q).Fit := by
 unfold flatB; split
 · exact hf.tr
 · exact hf
theorem cross_seq (hb : bdB b = true) (hon : OnQ b q) (hi : i < q.word.length) (hw : lettB q.word = true) :
   crossAt (flatB b q) (flatP q) i = sqW (madeB b q) (seqL (madeB b q) (!q.down) (q.sr i) (q.sc i)) := by
 have hff := flat_fit' (bdB.fit hb) q
 have hin := flat_rowB (b := b) q i
 rw [hon i hi, inB_iff] at hin
 have h15 := hff.hi
 obtain ⟨R, hR⟩ : ∃ R : Nat, (flatP q).row = (R : Int) := ⟨(flatP q).row.toNat, by omega⟩
 have hR15 : R < 15 := by omega
 unfold crossAt crossS sqW seqL seqN
 rw [flatP_word, hR, Int.toNat_natCast, List.map_map]
 have hu := bef_up (i := i) hb hon hR R 0 16 (by omega) (by omega)
 have hul : upTo (flatB b q) ((flatP q).col + (i : Int)) R ≤ R := by omega
 have := seq_cross hb hon hi hw hR hR15 hff (16 - upTo (flatB b q) ((flatP q).col + (i : Int)) R) (upTo (flatB b q) ((flatP q).col + (i : Int)) R) 32 (by omega) (by omega)
 rw [this, show ((upTo (flatB b q) ((flatP q).col + (i : Int)) R : Nat) : Int) - R = -((befN (madeB b q) (!q.down) (q.sr i) (q.sc i) 16 0 : Nat) : Int) from by omega]
 rfl
theorem words_same (hb : bdB b = true) (hon : OnQ b q) (hw : lettB q.word = true) : wordsL b q = wordsI b q := by
 unfold wordsL wordsI formedL crossW crossP sqL
 rw [fresh_new hb hon, flatP_word, List.map_cons]
 congr 1
 have hlt : ∀ x ∈ newL b q, x < q.word.length := fun x hx => List.mem_range.1 (List.mem_filter.1 hx).1
 generalize newL b q = N at hlt
 unfold keepL
 induction N with
 | nil => rfl
 | cons x N ih =>
   have ih := ih fun y hy => hlt y (List.mem_cons_of_mem _ hy)
   have hx := cross_seq hb hon (hlt x (List.mem_cons_self ..)) hw
   have hlen : (crossAt (flatB b q) (flatP q) x).length = (seqL (madeB b q) (!q.down) (q.sr x) (q.sc x)).length := by rw [hx]; simp [sqW]
   simp only [List.map_cons, List.filter_cons, hlen]
   by_cases h2 : 2 ≤ (seqL (madeB b q) (!q.down) (q.sr x) (q.sc x)).length
   · rw [if_pos (by simp; omega), if_pos (by simpa using h2), List.map_cons, List.map_cons, ih, hx]
   · rw [if_neg (by simp; omega), if_neg (by simpa using h2), ih]
end
theorem validI_facts {b : Bd} {q : Pl} (h : validI b q = true) : OnQ b q ∧ lettB q.word = true ∧ 2 ≤ q.word.length ∧ q.word.length ≤ 12 := by
 unfold validI at h
 simp only [Bool.and_eq_true] at h
 obtain ⟨⟨⟨⟨⟨⟨hw, h0⟩, h1⟩, _⟩, _⟩, _⟩, _⟩ := h
 unfold wordB placedB inR at hw
 simp only [Bool.and_eq_true, decide_eq_true_eq] at hw
 exact ⟨onQ_of h0 h1, hw.2.1, by omega, by omega⟩
theorem placedI_lett {b : Bd} {q : Pl} (h : lettB q.word = true) : lettB (placedI b q) = true := by
 unfold lettB placedI
 rw [List.all_map, List.all_eq_true]
 intro i hi
 have hlt : i < q.word.length := List.mem_range.1 (List.mem_filter.1 hi).1
 have hm : q.word.getD i 0 ∈ q.word := by
   rw [List.getD_eq_getElem?_getD, List.getElem?_eq_getElem hlt]; exact List.getElem_mem hlt
 exact List.all_eq_true.1 h _ hm
theorem formed_len {b : Bd} {q : Pl} (hb : bdB b = true) (hon : OnQ b q) (hw : lettB q.word = true) : (formedL (flatB b q) (flatP q)).length = (wordsI b q).length := by
 rw [← words_same hb hon hw, wordsL, List.length_map]
theorem empty_new {b : Bd} (hb : bdB b = true) {q : Pl} (hon : OnQ b q) (h : lettersS b = []) : newL b q = List.range q.word.length := by
 unfold newL newTo
 rw [List.filter_eq_self]
 intro i hi
 have hin := hon i (List.mem_range.1 hi)
 have hm := at_mem (bdB.fit hb) hin
 unfold lettersS at h
 rw [List.filter_eq_nil_iff] at h
 have := h _ hm
 unfold Bd.let_
 rw [cell_in hin]
 simp at this
 simp [this]
theorem touch_same {b : Bd} (hb : bdB b = true) {q : Pl} (hv : validI b q = true) : touchB b q = touchI b q := by
 obtain ⟨hon, hw, h2, h12⟩ := validI_facts hv
 unfold touchB touchI
 by_cases h : lettersS b = []
 · rw [if_pos h, h, if_pos (by rfl), empty_new hb hon h]
   rw [Bool.eq_iff_iff, List.any_eq_true]
   simp only [Bool.and_eq_true, decide_eq_true_eq]
   unfold flatP Pl.tr sqL Pl.sr Pl.sc
   constructor
   · rintro ⟨h3, h4, h5⟩
     cases hd : q.down
     · simp only [hd, Bool.false_eq_true, if_false] at h3 h4 h5 ⊢
       refine ⟨_, List.mem_map.2 ⟨(b.size / 2 - q.col).toNat, List.mem_range.2 (by omega), rfl⟩, ?_⟩
       rw [beq_iff_eq, Prod.mk.injEq]
       omega
     · simp only [hd, if_true] at h3 h4 h5 ⊢
       refine ⟨_, List.mem_map.2 ⟨(b.size / 2 - q.row).toNat, List.mem_range.2 (by omega), rfl⟩, ?_⟩
       rw [beq_iff_eq, Prod.mk.injEq]
       omega
   · rintro ⟨x, hx, he⟩
     obtain ⟨i, hi, rfl⟩ := List.mem_map.1 hx
     have hi := List.mem_range.1 hi
     rw [beq_iff_eq, Prod.mk.injEq] at he
     cases hd : q.down <;> simp only [hd, Bool.false_eq_true, if_false, if_true] at he ⊢ <;> omega
 · have h' : (lettersS b).isEmpty = false := by rw [Bool.eq_false_iff]; intro e; exact h (List.isEmpty_iff.1 e)
   rw [if_neg h, h', if_neg (by decide), fresh_new hb hon, formed_len hb hon hw]
theorem legal_same {b : Bd} (hb : bdB b = true) (lex : List Str) {rack : Str} (hr : rackB rack = true) (q : Pl) : legalC b lex rack q = codeI b lex rack q := by
 unfold legalC codeI
 rw [okB_validI hb]
 cases hv : validI b q
 · rfl
 · obtain ⟨hon, hw, h2, h12⟩ := validI_facts hv
   rw [placed_new hb hon, take_less hr (placedI_lett hw), touch_same hb hv]
   unfold doubleB wrongL wrongS
   rw [fresh_new hb hon, formed_len hb hon hw, words_same hb hon hw]
theorem tr_prm {b : Bd} (hf : b.Fit) {r c : Int} (h : b.inB c r = true) : b.tr.prm r c = b.prm c r := by
 rw [inB_iff] at h
 obtain ⟨⟨c0, c1⟩, r0, r1⟩ := h
 have h5 := hf.lo
 have h15 := hf.hi
 obtain ⟨n, hn⟩ : ∃ n : Nat, b.size = (n : Int) := ⟨b.size.toNat, by omega⟩
 obtain ⟨i, rfl⟩ : ∃ i : Nat, r = (i : Int) := ⟨r.toNat, by omega⟩
 obtain ⟨j, rfl⟩ : ∃ j : Nat, c = (j : Int) := ⟨c.toNat, by omega⟩
 have hi : i < n := by omega
 have hj : j < n := by omega
 show (turnS b.size.toNat b.prem).getD ((i : Int) * b.size + j).toNat 0 = b.prem.getD ((j : Int) * b.size + i).toNat 0
 rw [hn]
 have e1 : ((i : Int) * (n : Int) + (j : Int)).toNat = i * n + j := by
   rw [← Int.natCast_mul, ← Int.natCast_add, Int.toNat_natCast]
 have e2 : ((j : Int) * (n : Int) + (i : Int)).toNat = j * n + i := by
   rw [← Int.natCast_mul, ← Int.natCast_add, Int.toNat_natCast]
 have hlt : i * n + j < n * n := by
   have : (i + 1) * n ≤ n * n := Nat.mul_le_mul_right n hi
   rw [Nat.add_mul] at this
   omega
 rw [e1, e2, Int.toNat_natCast, turnS, turnTo_get n _ _ _ hlt]
 have m1 : (i * n + j) % n = j := by rw [Nat.mul_comm, Nat.mul_add_mod, Nat.mod_eq_of_lt hj]
 have m2 : (i * n + j) / n = i := by rw [Nat.mul_comm, Nat.mul_add_div (by omega), Nat.div_eq_of_lt hj, Nat.add_zero]
 rw [m1, m2]
theorem flat_prm {b : Bd} (hf : b.Fit) (q : Pl) {n : Int} (h : b.inB (q.sr n) (q.sc n) = true) : (flatB b q).prm (flatP q).row ((flatP q).col + n) = b.prm (q.sr n) (q.sc n) := by
 unfold flatB flatP Pl.sr Pl.sc at *
 cases hd : q.down
 · simp only [Bool.false_eq_true, if_false]
 · rw [hd] at h
   simp only [if_true] at h ⊢
   exact tr_prm hf h
def lsI (t : TS) (b : Bd) (q : Pl) : List Int := (List.range q.word.length).map fun i : Nat => if b.let_ (q.sr i) (q.sc i) then valT t (q.word.getD i 0) else ltF (b.prm (q.sr i) (q.sc i)) * valT t (q.word.getD i 0)
def pusI (b : Bd) (q : Pl) : Str := (newL b q).map fun i : Nat => b.prm (q.sr i) (q.sc i)
def sqI (t : TS) (b : Bd) (M : Bd) (a : Int × Int) (s : Int × Int) : Int := if s == a then ltF (b.prm a.1 a.2) * valT t (M.cell s.1 s.2) else valT t (M.cell s.1 s.2)
def crI (t : TS) (b : Bd) (q : Pl) (x : (Int × Int) × List (Int × Int)) : Int := (x.2.map (sqI t b (madeB b q) x.1)).sum * wfL [b.prm x.1.1 x.1.2]
def partsI (t : TS) (b : Bd) (q : Pl) : List Int := ((lsI t b q).sum * wfL (pusI b q)) :: (crossP b q (newL b q)).map (crI t b q)
def scoreI (t : TS) (b : Bd) (q : Pl) : Int := (partsI t b q).sum + if (newL b q).length = 7 then 50 else 0
def lsS (t : TS) (b : Bd) (q : Pl) : List Int := (List.range q.word.length).map fun i : Nat => if b.at_ q.row (q.col + i) == 46 then ltF (b.prm q.row (q.col + i)) * valT t (q.word.getD i 0) else valT t (q.word.getD i 0)
def mainF (b : Bd) (q : Pl) : Int := (freshL b q).foldl (fun a (i : Nat) => a * wdF (b.prm q.row (q.col + i))) 1
def crS (t : TS) (b : Bd) (q : Pl) (i : Nat) : Int :=
 ((List.range (crossAt b q i).length).map fun k : Nat => if ((upTo b (q.col + i) q.row.toNat : Nat) : Int) + k = q.row then ltF (b.prm q.row (q.col + i)) * valT t (q.word.getD i 0) else valT t ((crossAt b q i).getD k 0)).sum * wdF (b.prm q.row (q.col + i))
def partsS (t : TS) (b : Bd) (q : Pl) : List Int := ((lsS t b q).sum * mainF b q) :: ((freshL b q).filter fun i => decide (1 < (crossAt b q i).length)).map (crS t b q)
def scoreS (t : TS) (b : Bd) (q : Pl) : Int := (partsS t b q).sum + if (freshL b q).length = 7 then 50 else 0
section
variable {b : Bd} {q : Pl} {t : TS}
theorem ls_same (hb : bdB b = true) (hon : OnQ b q) : lsS t (flatB b q) (flatP q) = lsI t b q := by
 unfold lsS lsI
 rw [flatP_word]
 refine List.map_congr_left fun i hi => ?_
 have hin := hon i (List.mem_range.1 hi)
 rw [flat_at (bdB.fit hb) q hin, flat_prm (bdB.fit hb) q hin]
 unfold Bd.let_
 have hz := bdB_nz hb _ _ hin
 rw [← cell_in hin] at hz
 cases h46 : (b.cell (q.sr i) (q.sc i) == 46)
 · simp [hz]
 · simp
theorem main_same (hb : bdB b = true) (hon : OnQ b q) : mainF (flatB b q) (flatP q) = wfL (pusI b q) := by
 unfold mainF wfL pusI
 rw [fresh_new hb hon, List.foldl_map]
 have hlt : ∀ x ∈ newL b q, x < q.word.length := fun x hx => List.mem_range.1 (List.mem_filter.1 hx).1
 have key : ∀ (N : List Nat) (a : Int), (∀ x ∈ N, x < q.word.length) → N.foldl (fun a (i : Nat) => a * wdF ((flatB b q).prm (flatP q).row ((flatP q).col + i))) a = N.foldl (fun a (i : Nat) => a * wdF (b.prm (q.sr i) (q.sc i))) a := by
   intro N
   induction N with
   | nil => intro a _; rfl
   | cons x N ih =>
     intro a h
     rw [List.foldl_cons, List.foldl_cons, flat_prm (bdB.fit hb) q (hon x (h x (List.mem_cons_self ..)))]
     exact ih _ fun y hy => h y (List.mem_cons_of_mem _ hy)
 exact key _ 1 hlt
theorem seqGo_range (B : Bd) (d : Bool) (r c : Int) : ∀ (f : Nat) (n : Int), seqGo B d r c f n = (List.range (seqGo B d r c f n).length).map fun k : Nat => n + k
 | 0, n => by simp [seqGo]
 | f + 1, n => by
   rw [seqGo]
   split
   · rw [List.length_cons, List.range_succ_eq_map, List.map_cons, List.map_map]
     have ih := seqGo_range B d r c f (n + 1)
     congr 1
     · simp
     · conv => lhs; rw [ih]
       refine List.map_congr_left fun k _ => ?_
       show n + 1 + (k : Int) = n + ((k + 1 : Nat) : Int)
       omega
   · simp
theorem cr_same (hb : bdB b = true) (hon : OnQ b q) {i : Nat} (hi : i < q.word.length) (hw : lettB q.word = true) :
   crS t (flatB b q) (flatP q) i = crI t b q ((q.sr i, q.sc i), seqL (madeB b q) (!q.down) (q.sr i) (q.sc i)) := by
 have hff := flat_fit' (bdB.fit hb) q
 have hin := flat_rowB (b := b) q i
 rw [hon i hi, inB_iff] at hin
 have h15 := hff.hi
 obtain ⟨R, hR⟩ : ∃ R : Nat, (flatP q).row = (R : Int) := ⟨(flatP q).row.toNat, by omega⟩
 have hu := bef_up (i := i) hb hon hR R 0 16 (by omega) (by omega)
 have hw' := cross_seq hb hon hi hw
 unfold crS crI
 rw [hw', flat_prm (bdB.fit hb) q (hon i hi)]
 have e1 : wfL [b.prm (q.sr i) (q.sc i)] = wdF (b.prm (q.sr i) (q.sc i)) := by simp [wfL]
 simp only [e1]
 congr 2
 have hsl : (sqW (madeB b q) (seqL (madeB b q) (!q.down) (q.sr i) (q.sc i))).length = (seqN (madeB b q) (!q.down) (q.sr i) (q.sc i)).length := by simp [sqW, seqL]
 rw [hsl]
 have hsq : seqL (madeB b q) (!q.down) (q.sr i) (q.sc i) = (List.range (seqN (madeB b q) (!q.down) (q.sr i) (q.sc i)).length).map fun k : Nat => sqAt (!q.down) (q.sr i) (q.sc i) (-((befN (madeB b q) (!q.down) (q.sr i) (q.sc i) 16 0 : Nat) : Int) + k) := by
   unfold seqL
   conv => lhs; unfold seqN; rw [seqGo_range]
   rw [List.map_map]
   rfl
 generalize hn : (seqN (madeB b q) (!q.down) (q.sr i) (q.sc i)).length = n at hsq ⊢
 rw [hsq, List.map_map]
 refine List.map_congr_left fun k hk => ?_
 have hk := List.mem_range.1 hk
 have hz := across_zero (bdB.fit hb) hon hi
 have hat : sqAt (!q.down) (q.sr i) (q.sc i) 0 = (q.sr i, q.sc i) := by unfold sqAt; cases q.down <;> simp
 show _ = sqI t b (madeB b q) (q.sr i, q.sc i) (sqAt (!q.down) (q.sr i) (q.sc i) (-((befN (madeB b q) (!q.down) (q.sr i) (q.sc i) 16 0 : Nat) : Int) + k))
 have hgd : (sqW (madeB b q) ((List.range n).map fun k : Nat => sqAt (!q.down) (q.sr i) (q.sc i) (-((befN (madeB b q) (!q.down) (q.sr i) (q.sc i) 16 0 : Nat) : Int) + k))).getD k 0 = (madeB b q).cell (sqAt (!q.down) (q.sr i) (q.sc i) (-((befN (madeB b q) (!q.down) (q.sr i) (q.sc i) 16 0 : Nat) : Int) + k)).1 (sqAt (!q.down) (q.sr i) (q.sc i) (-((befN (madeB b q) (!q.down) (q.sr i) (q.sc i) 16 0 : Nat) : Int) + k)).2 := by
   unfold sqW
   rw [List.getD_eq_getElem?_getD, List.getElem?_map, List.getElem?_map, List.getElem?_range hk]
   rfl
 rw [hgd, hR, Int.toNat_natCast, flatP_word]
 unfold sqI
 generalize hm : -((befN (madeB b q) (!q.down) (q.sr i) (q.sc i) 16 0 : Nat) : Int) + (k : Int) = m at *
 by_cases h0 : m = 0
 · subst h0
   rw [if_pos (by omega), if_pos (by rw [hat]; simp), hz]
 · have hne : (sqAt (!q.down) (q.sr i) (q.sc i) m == (q.sr i, q.sc i)) = false := by
     rw [beq_eq_false_iff_ne]
     unfold sqAt
     cases q.down <;> simp <;> omega
   rw [if_neg (by omega), hne]
   rfl
theorem parts_same (hb : bdB b = true) (hon : OnQ b q) (hw : lettB q.word = true) : partsS t (flatB b q) (flatP q) = partsI t b q := by
 unfold partsS partsI
 rw [ls_same hb hon, main_same hb hon, fresh_new hb hon]
 congr 1
 have hlt : ∀ x ∈ newL b q, x < q.word.length := fun x hx => List.mem_range.1 (List.mem_filter.1 hx).1
 unfold crossP sqL
 generalize newL b q = N at hlt
 induction N with
 | nil => rfl
 | cons x N ih =>
   have ih := ih fun y hy => hlt y (List.mem_cons_of_mem _ hy)
   have hx := hlt x (List.mem_cons_self ..)
   have hlen : (crossAt (flatB b q) (flatP q) x).length = (seqL (madeB b q) (!q.down) (q.sr x) (q.sc x)).length := by rw [cross_seq hb hon hx hw]; simp [sqW]
   simp only [List.map_cons, List.filter_cons, hlen]
   by_cases h2 : 2 ≤ (seqL (madeB b q) (!q.down) (q.sr x) (q.sc x)).length
   · rw [if_pos (by simp; omega), if_pos (by simpa using h2), List.map_cons, List.map_cons, ih, cr_same hb hon hx hw]
   · rw [if_neg (by simp; omega), if_neg (by simpa using h2), ih]
theorem score_same (hb : bdB b = true) (hv : validI b q = true) : scoreS t (flatB b q) (flatP q) = scoreI t b q := by
 obtain ⟨hon, hw, _, _⟩ := validI_facts hv
 unfold scoreS scoreI
 rw [parts_same hb hon hw, fresh_new hb hon]
end
end Go.Proofs.YtdkckikobefekaaGreatDoor
namespace Go.Proofs.YtdkckikobefekaaGreatDoor
open Go.RowKit RegP RegL RegV
set_option maxHeartbeats 2000000
set_option maxRecDepth 100000
structure TsAt (w : World) (p : Addr) (t : TS) (A1 : Option Addr) (c1 : Nat) (A2 : Option Addr) (c2 : Nat) : Prop where
 x0 : w.cell? p = some (sv t.letters)
 x1 : w.cell? { block := p.block, off := p.off + 1 } = some (.slice A1 t.values.length c1)
 x2 : w.cell? { block := p.block, off := p.off + 2 } = some (.slice A2 t.counts.length c2)
 x3 : w.cell? { block := p.block, off := p.off + 3 } = some (.int .i64 t.blanks)
 inn : TsIn w t A1 A2
theorem TsAt.lt {w : World} {p : Addr} {t : TS} {A1 A2 : Option Addr} {c1 c2 : Nat} (h : TsAt w p t A1 c1 A2 c2) : p.block < w.heap.size := World.block_lt_of_cell? w p h.x0
theorem TsAt.below {w w' : World} {p : Addr} {t : TS} {A1 A2 : Option Addr} {c1 c2 : Nat} (h : TsAt w p t A1 c1 A2 c2) (hb : Below w.heap.size w w') : TsAt w' p t A1 c1 A2 c2 :=
 ⟨(hb.cell h.lt).trans h.x0, (hb.cell (show ({ block := p.block, off := p.off + 1 } : Addr).block < _ from h.lt)).trans h.x1, (hb.cell (show ({ block := p.block, off := p.off + 2 } : Addr).block < _ from h.lt)).trans h.x2, (hb.cell (show ({ block := p.block, off := p.off + 3 } : Addr).block < _ from h.lt)).trans h.x3, h.inn.below hb⟩
theorem TsAt.dr {w w' : World} {p : Addr} {t : TS} {A1 A2 : Option Addr} {c1 c2 : Nat} (h : TsAt w p t A1 c1 A2 c2) (hd : Dr w w') : TsAt w' p t A1 c1 A2 c2 := by
 obtain ⟨n, rfl⟩ := hd
 exact ⟨h.x0, h.x1, h.x2, h.x3, ⟨h.inn.r1, h.inn.r2⟩⟩
theorem findK_drop (s : Str) (c : UInt8) (k : Nat) (h : k < s.length) : findK (s.drop k) c = if s[k] == c then 0 else findK (s.drop (k + 1)) c + 1 := by
 rw [drop_cons s k h]
 rfl
theorem l02Find_any (p : Addr) (t : TS) (A1 A2 : Option Addr) (c1 c2 : Nat) (c : UInt8) (w : World) (hp : TsAt w p t A1 c1 A2 c2) (hl : t.letters.length ≤ 2 ^ 40) :
   Calls Tryz.prog 291 #[.pointer (some p), bv c] w fun e w' => e = .returned (.int .i64 (if findK t.letters c < t.letters.length then (findK t.letters c : Int) else -1)) ∧ w = w' := by
 have d0 := hp.x0
 obtain ⟨L, V, C, B⟩ := t
 simp only at *
 obtain ⟨F, hF⟩ : ∃ F, F = findK L c := ⟨_, rfl⟩
 rw [← hF]
 have hFh := Lib.hid hF
 obtain ⟨R, hR⟩ : ∃ R : Int, R = if F < L.length then (F : Int) else -1 := ⟨_, rfl⟩
 rw [← hR]
 have hRh := Lib.hid hR
 clear hF hp hR
 go_enter Tryz.func291, Tryz.ntmps291
 go_wp2_with (fail)
 go_loop [5] (fun i => ∃ k : Nat, k ≤ L.length ∧ i = .int .i64 k ∧ Hid (F = k + findK (L.drop k) c)) (fun i => L.length - (intOf i).toNat)
 case atStart => exact ⟨0, by omega, rfl, Lib.hid (by rw [hFh.out]; simp)⟩
 case round =>
   obtain ⟨k, hk, rfl, he⟩ := hrel
   by_cases hlt : k < L.length
   · have hd := Lib.hid (findK_drop L c k hlt)
     have hq : (((L[k]).toNat : Int) == (c.toNat : Int)) = (L[k] == c) := u8_eq L[k] c
     cases hc : (L[k] == c)
     all_goals
       rw [hc] at hq hd
       go_wp2_with (fail)
     · go_round
       case rel => exact ⟨k + 1, by omega, by go_num, Lib.hid (by rw [he.out, hd.out]; simp; omega)⟩
       case measure => simp [intOf]; omega
     · go_ret
       exact ⟨ret_int (by rw [hRh.out, he.out, hd.out]; simp [hlt]), rfl⟩
   · obtain rfl : k = L.length := by omega
     rw [drop_all L _ (Nat.le_refl _)] at he
     have hlt' : ¬ (L.length : Int) < (L.length : Int) := by omega
     go_wp2_with (fail)
     go_ret
     exact ⟨ret_int (by rw [hRh.out, he.out]; simp [findK]), rfl⟩
theorem l02Value_any (p : Addr) (t : TS) (A1 A2 : Option Addr) (c1 c2 : Nat) (c : UInt8) (w : World) (hp : TsAt w p t A1 c1 A2 c2) (hl : t.letters.length ≤ 2 ^ 40) (hv : t.values.length = t.letters.length) :
   Calls Tryz.prog 223 #[.pointer (some p), bv c] w fun e w' => e = .returned (.int .i64 (valT t c)) ∧ w = w' := by
 have kf := fun w h => l02Find_any p t A1 A2 c1 c2 c w h hl
 have d0 := hp.x1
 have r1 := hp.inn.r1
 unfold valT
 by_cases hlt : findK t.letters c < t.letters.length
 · rw [if_pos hlt]
   simp only [if_pos hlt] at kf
   obtain ⟨F, hF⟩ : ∃ F, F = findK t.letters c := ⟨_, rfl⟩
   rw [← hF] at kf hlt ⊢
   have hltV : F < t.values.length := by omega
   obtain ⟨a1, rfl, hab1, hx1⟩ := r1.el hltV
   have hv' : Hid (t.values.getD F 0 = t.values[F]) := Lib.hid (by rw [List.getD_eq_getElem?_getD, List.getElem?_eq_getElem hltV]; rfl)
   have j1 : (F : Int) < (t.values.length : Int) := by omega
   have j2 : (0 : Int) ≤ (F : Int) := by omega
   have hv40 : t.values.length ≤ 2 ^ 40 := by omega
   clear hF hv
   simp only [xv] at hx1
   have kf := kf w hp
   go_enter Tryz.func223, Tryz.ntmps223
   go_wp2_with (go_at_call 291; refine kf.mono ?_; rintro e w3 ⟨rfl, rfl⟩)
   go_ret
   exact ⟨ret_int hv'.out.symm, rfl⟩
 · rw [if_neg hlt]
   simp only [if_neg hlt] at kf
   have kf := kf w hp
   go_enter Tryz.func223, Tryz.ntmps223
   go_wp2_with (go_at_call 291; refine kf.mono ?_; rintro e w3 ⟨rfl, rfl⟩)
   go_ret
   exact ⟨rfl, rfl⟩
structure TsOk (t : TS) : Prop where
 len : t.letters.length ≤ 26
 vals : t.values.length = t.letters.length
 cnts : t.counts.length = t.letters.length
 lo : ∀ c, 0 ≤ valT t c
 hi : ∀ c, valT t c ≤ 20
theorem tsB_ok {t : TS} (h : tsB t = true) : TsOk t := by
 unfold tsB at h
 simp only [Bool.and_eq_true, decide_eq_true_eq] at h
 obtain ⟨h1, h2, h3, h4, h5, h6, h7⟩ := h
 have hb := vcB_sum t.values t.counts (by omega) h6
 have key : ∀ c, 0 ≤ valT t c ∧ valT t c ≤ 20 := fun c => by
   unfold valT
   split
   · rename_i hk
     have hk' : findK t.letters c < t.values.length := by omega
     rw [List.getD_eq_getElem?_getD, List.getElem?_eq_getElem hk']
     exact hb.2 _ (List.getElem_mem hk')
   · omega
 exact ⟨smFrom_26 h2, h3, h4, fun c => (key c).1, fun c => (key c).2⟩
theorem l13Premium_any (p : Addr) (b : Bd) (r c : Int) (w : World) (hp : BAt w p b) (hf : b.Fit) (hi : b.inB r c = true) :
   Calls Tryz.prog 290 #[.pointer (some p), .int .i64 r, .int .i64 c] w fun e w' => e = .returned (bv (b.prm r c)) ∧ Below w.heap.size w w' := by
 have h0 := hp.1
 have h2 := hp.2.1
 obtain ⟨⟨r0, r1⟩, c0, c1⟩ := inB_iff.1 hi
 obtain ⟨m0, m1, m2, m3, m4⟩ := mul_bounds hf.lo hf.hi r0 r1 c0 c1
 have h5 := hf.lo
 have h15 := hf.hi
 have hlen := hf.prem
 have m5 : r * b.size + c < (b.prem.length : Int) := by omega
 have m6 : IntKind.i64.wrap (r * b.size) = r * b.size := IntWalk.i64_in _ (by omega)
 obtain ⟨k, hk⟩ : ∃ k : Nat, r * b.size + c = (k : Int) := ⟨(r * b.size + c).toNat, by omega⟩
 have hat : b.prm r c = b.prem.getD k 0 := by rw [Bd.prm, hk]; rfl
 have m7 : IntKind.i64.wrap (r * b.size + c) = (k : Int) := by rw [hk]; exact IntWalk.i64_in _ (by omega)
 have hkl : k < b.prem.length := by omega
 have m8 : (k : Int) < (b.prem.length : Int) := by omega
 have m9 : (0 : Int) ≤ k := by omega
 rw [hat, show b.prem.getD k 0 = b.prem[k] by simp [List.getD, List.getElem?_eq_getElem hkl]]
 clear hat hk m5 hlen m3
 go_enter Tryz.func290, Tryz.ntmps290
 go_wp2_with (fail)
 go_quiet (fail)
 go_wp2
 go_ret
 exact ⟨rfl, Dr.below ⟨_, rfl⟩⟩
theorem l13Letter_any (pt p : Addr) (t : TS) (A1 A2 : Option Addr) (c1 c2 : Nat) (b : Bd) (r c : Int) (l : UInt8) (w : World) (ht : TsAt w pt t A1 c1 A2 c2) (hp : BAt w p b) (ho : TsOk t) (hf : b.Fit) (hi : b.inB r c = true) :
   Calls Tryz.prog 222 #[.pointer (some pt), .pointer (some p), .int .i64 r, .int .i64 c, bv l] w fun e w' => e = .returned (.int .i64 (ltF (b.prm r c) * valT t l)) ∧ Below w.heap.size w w' := by
 have kv := l02Value_any pt t A1 A2 c1 c2 l w ht (by have := ho.len; omega) ho.vals
 have kp := l13Premium_any p b r c w hp hf hi
 have v0 := ho.lo l
 have v20 := ho.hi l
 have hdef : Hid (ltF (b.prm r c) = if b.prm r c == 50 then 2 else if b.prm r c == 51 then 3 else 1) := Lib.hid rfl
 obtain ⟨P, hP⟩ : ∃ P, P = b.prm r c := ⟨_, rfl⟩
 obtain ⟨V, hV⟩ : ∃ V, V = valT t l := ⟨_, rfl⟩
 obtain ⟨F, hF⟩ : ∃ F, F = ltF (b.prm r c) := ⟨_, rfl⟩
 rw [← hF] at hdef ⊢
 rw [← hP] at kp hdef
 rw [← hV] at kv v0 v20 ⊢
 clear hP hV hF ho hf hi
 have q1 : ((P.toNat : Int) == 50) = (P == 50) := u8_eq P 50
 have q2 : ((P.toNat : Int) == 51) = (P == 51) := u8_eq P 51
 cases e1 : (P == 50)
 · cases e2 : (P == 51)
   all_goals
     rw [e1] at q1 hdef
     rw [e2] at q2 hdef
     go_enter Tryz.func222, Tryz.ntmps222
     go_wp2_with (first
       | (go_at_call 223; refine kv.mono ?_; rintro e w1 ⟨rfl, rfl⟩)
       | (go_at_call 290; refine kp.mono ?_; rintro e w2 ⟨rfl, hb⟩))
     go_ret
     exact ⟨ret_int (by rw [hdef.out]; simp), hb⟩
 · rw [e1] at q1 hdef
   go_enter Tryz.func222, Tryz.ntmps222
   go_wp2_with (first
     | (go_at_call 223; refine kv.mono ?_; rintro e w1 ⟨rfl, rfl⟩)
     | (go_at_call 290; refine kp.mono ?_; rintro e w2 ⟨rfl, hb⟩))
   go_ret
   exact ⟨ret_int (by rw [hdef.out]; simp), hb⟩
theorem l13Factor_any (p : Addr) (b : Bd) (r c : Int) (w : World) (hp : BAt w p b) (hf : b.Fit) (hi : b.inB r c = true) :
   Calls Tryz.prog 224 #[.pointer (some p), .int .i64 r, .int .i64 c] w fun e w' => e = .returned (.int .i64 (wdF (b.prm r c))) ∧ Below w.heap.size w w' := by
 have kp := l13Premium_any p b r c w hp hf hi
 have hdef : Hid (wdF (b.prm r c) = if b.prm r c == 100 then 2 else if b.prm r c == 116 then 3 else 1) := Lib.hid rfl
 obtain ⟨P, hP⟩ : ∃ P, P = b.prm r c := ⟨_, rfl⟩
 obtain ⟨F, hF⟩ : ∃ F, F = wdF (b.prm r c) := ⟨_, rfl⟩
 rw [← hF] at hdef ⊢
 rw [← hP] at kp hdef
 clear hP hF hf hi
 have q1 : ((P.toNat : Int) == 100) = (P == 100) := u8_eq P 100
 have q2 : ((P.toNat : Int) == 116) = (P == 116) := u8_eq P 116
 cases e1 : (P == 100)
 · cases e2 : (P == 116)
   all_goals
     rw [e1] at q1 hdef
     rw [e2] at q2 hdef
     go_enter Tryz.func224, Tryz.ntmps224
     go_wp2_with (go_at_call 290; refine kp.mono ?_; rintro e w2 ⟨rfl, hb⟩)
     go_ret
     exact ⟨ret_int (by rw [hdef.out]; simp), hb⟩
 · rw [e1] at q1 hdef
   go_enter Tryz.func224, Tryz.ntmps224
   go_wp2_with (go_at_call 290; refine kp.mono ?_; rintro e w2 ⟨rfl, hb⟩)
   go_ret
   exact ⟨ret_int (by rw [hdef.out]; simp), hb⟩
end Go.Proofs.YtdkckikobefekaaGreatDoor
