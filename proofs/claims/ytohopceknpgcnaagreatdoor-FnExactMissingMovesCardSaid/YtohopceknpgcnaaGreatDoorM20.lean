/-
  Plain law: what trying finds is the same in both packages, up to its order.
  Conditions: a valid lexicon, board and rack.
-/
import Derived.Test.YtohopceknpgcnaaGreatDoorM19
namespace Go.Proofs.YtohopceknpgcnaaGreatDoor
set_option linter.unusedVariables false
theorem turnTo_get (n : Nat) (s : Str) (m i : Nat) (h : i < m) : (turnTo n s m).getD i 0 = s.getD ((i % n) * n + i / n) 0 := by
 unfold turnTo
 rw [List.getD_eq_getElem?_getD, List.getElem?_map, List.getElem?_range h]
 rfl
theorem tr_inB (b : Bd) (r c : Int) : b.tr.inB r c = b.inB c r := by
 unfold Bd.inB Bd.tr
 exact Bool.and_comm _ _
theorem tr_at {b : Bd} (hf : b.Fit) {r c : Int} (h : b.inB c r = true) : b.tr.at_ r c = b.at_ c r := by
 rw [inB_iff] at h
 obtain ⟨⟨c0, c1⟩, r0, r1⟩ := h
 have h5 := hf.lo
 have h15 := hf.hi
 obtain ⟨n, hn⟩ : ∃ n : Nat, b.size = (n : Int) := ⟨b.size.toNat, by omega⟩
 obtain ⟨i, rfl⟩ : ∃ i : Nat, r = (i : Int) := ⟨r.toNat, by omega⟩
 obtain ⟨j, rfl⟩ : ∃ j : Nat, c = (j : Int) := ⟨c.toNat, by omega⟩
 have hi : i < n := by omega
 have hj : j < n := by omega
 show (turnS b.size.toNat b.cells).getD ((i : Int) * b.size + j).toNat 0 = b.cells.getD ((j : Int) * b.size + i).toNat 0
 rw [hn]
 have e1 : ((i : Int) * (n : Int) + (j : Int)).toNat = i * n + j := by
   rw [← Int.natCast_mul, ← Int.natCast_add, Int.toNat_natCast]
 have e2 : ((j : Int) * (n : Int) + (i : Int)).toNat = j * n + i := by
   rw [← Int.natCast_mul, ← Int.natCast_add, Int.toNat_natCast]
 have hlt : i * n + j < n * n := by
   have : (i + 1) * n ≤ n * n := Nat.mul_le_mul_right n hi
   rw [Nat.add_mul] at this
   omega
 rw [e1, e2, Int.toNat_natCast, turnS, turnTo_get n _ _ _ hlt]
 have m1 : (i * n + j) % n = j := by rw [Nat.mul_comm, Nat.mul_add_mod, Nat.mod_eq_of_lt hj]
 have m2 : (i * n + j) / n = i := by rw [Nat.mul_comm, Nat.mul_add_div (by omega), Nat.div_eq_of_lt hj, Nat.add_zero]
 rw [m1, m2]
theorem tr_cell {b : Bd} (hf : b.Fit) (r c : Int) : b.tr.cell r c = b.cell c r := by
 unfold Bd.cell
 rw [tr_inB]
 cases h : b.inB c r
 · rfl
 · simp only [if_true]; exact tr_at hf h
def Nz (b : Bd) : Prop := ∀ r c, b.inB r c = true → b.at_ r c ≠ 0
theorem cellB_nz {c : UInt8} (h : cellB c = true) : c ≠ 0 := by
 rintro rfl
 exact absurd h (by decide)
theorem bdB_cells {b : Bd} (h : bdB b = true) : b.cells.all cellB = true := by
 have h' := h
 simp only [bdB, Bool.and_eq_true, decide_eq_true_eq] at h
 rw [okFrom_eq _ _ (by have := h.2.1; have := h.2.2.1; omega)] at h
 simp only [Bool.and_eq_true] at h
 exact h.2.2.2.2
theorem at_mem {b : Bd} (hf : b.Fit) {r c : Int} (h : b.inB r c = true) : b.at_ r c ∈ b.cells := by
 rw [inB_iff] at h
 obtain ⟨⟨r0, r1⟩, c0, c1⟩ := h
 have hm := mul_bounds hf.lo hf.hi r0 r1 c0 c1
 have hl : (r * b.size + c).toNat < b.cells.length := by have := hf.cells; omega
 unfold Bd.at_
 rw [List.getD_eq_getElem?_getD, List.getElem?_eq_getElem hl]
 exact List.getElem_mem hl
theorem bdB_at {b : Bd} (h : bdB b = true) {r c : Int} (hi : b.inB r c = true) : cellB (b.at_ r c) = true :=
 List.all_eq_true.1 (bdB_cells h) _ (at_mem (bdB.fit h) hi)
theorem bdB_nz {b : Bd} (h : bdB b = true) : Nz b := fun _ _ hi => cellB_nz (bdB_at h hi)
theorem cell_in {b : Bd} {r c : Int} (h : b.inB r c = true) : b.cell r c = b.at_ r c := by unfold Bd.cell; rw [if_pos h]
theorem cell_out {b : Bd} {r c : Int} (h : b.inB r c = false) : b.cell r c = 0 := by unfold Bd.cell; rw [h]; rfl
theorem full_let {b : Bd} (hn : Nz b) (r c : Int) : b.full r c = b.let_ r c := by
 unfold Bd.full Bd.let_
 cases h : b.inB r c
 · rw [cell_out h]; rfl
 · rw [cell_in h]
   have := hn r c h
   simp [this]
theorem Nz.tr {b : Bd} (hf : b.Fit) (h : Nz b) : Nz b.tr := fun r c hi => by
 rw [tr_inB] at hi
 rw [tr_at hf hi]
 exact h c r hi
theorem flat_nz {b : Bd} (hf : b.Fit) (h : Nz b) (q : Pl) : Nz (flatB b q) := by
 unfold flatB; split
 · exact h.tr hf
 · exact h
theorem flat_size (b : Bd) (q : Pl) : (flatB b q).size = b.size := by unfold flatB; split <;> rfl
theorem flat_cell {b : Bd} (hf : b.Fit) (q : Pl) (n m : Int) : (flatB b q).cell ((flatP q).row + m) ((flatP q).col + n) = if q.down then b.cell (q.row + n) (q.col + m) else b.cell (q.row + m) (q.col + n) := by
 unfold flatB flatP
 cases hd : q.down
 · rfl
 · simp only [if_true]
   exact tr_cell hf _ _
theorem flat_inB {b : Bd} (q : Pl) (n m : Int) : (flatB b q).inB ((flatP q).row + m) ((flatP q).col + n) = if q.down then b.inB (q.row + n) (q.col + m) else b.inB (q.row + m) (q.col + n) := by
 unfold flatB flatP
 cases hd : q.down
 · rfl
 · simp only [if_true]
   exact tr_inB b _ _
theorem flat_row {b : Bd} (hf : b.Fit) (q : Pl) (n : Int) : (flatB b q).cell (flatP q).row ((flatP q).col + n) = b.cell (q.sr n) (q.sc n) := by
 have := flat_cell hf q n 0
 rw [Int.add_zero] at this
 rw [this]
 unfold Pl.sr Pl.sc
 cases q.down <;> simp
theorem flat_rowB {b : Bd} (q : Pl) (n : Int) : (flatB b q).inB (flatP q).row ((flatP q).col + n) = b.inB (q.sr n) (q.sc n) := by
 have := flat_inB (b := b) q n 0
 rw [Int.add_zero] at this
 rw [this]
 unfold Pl.sr Pl.sc
 cases q.down <;> simp
theorem let_eq {b b' : Bd} {r c r' c' : Int} (h : b.cell r c = b'.cell r' c') : b.let_ r c = b'.let_ r' c' := by unfold Bd.let_; rw [h]
theorem flat_full {b : Bd} (hf : b.Fit) (hn : Nz b) (q : Pl) (n : Int) : (flatB b q).full (flatP q).row ((flatP q).col + n) = b.let_ (q.sr n) (q.sc n) := by
 rw [full_let (flat_nz hf hn q)]
 exact let_eq (flat_row hf q n)
theorem flat_at {b : Bd} (hf : b.Fit) (q : Pl) {n : Int} (h : b.inB (q.sr n) (q.sc n) = true) : (flatB b q).at_ (flatP q).row ((flatP q).col + n) = b.cell (q.sr n) (q.sc n) := by
 rw [← cell_in (by rw [flat_rowB]; exact h)]
 exact flat_row hf q n
theorem fitGo_eq (b : Bd) (row : Int) : ∀ (s : Str) (fr : Bool) (c : Int), fitGo b row fr s c =
   ((List.range s.length).all (fun i => b.at_ row (c + (i : Nat)) == 46 || b.at_ row (c + (i : Nat)) == s.getD i 0) && (fr || (List.range s.length).any fun i => b.at_ row (c + (i : Nat)) == 46))
 | [], fr, c => by simp [fitGo]
 | x :: r, fr, c => by
   rw [fitGo, fitGo_eq b row r, fitGo_eq b row r]
   have hs : ∀ i : Nat, c + 1 + (i : Int) = c + ((i + 1 : Nat) : Int) := fun i => by omega
   simp only [List.length_cons, List.range_succ_eq_map, List.all_cons, List.any_cons, List.all_map, List.any_map, Function.comp_def, hs, Int.natCast_zero, Int.add_zero, List.getD_cons_zero, List.getD_cons_succ, Nat.succ_eq_add_one]
   cases h : (b.at_ row c == 46)
   · cases h2 : (b.at_ row c == x) <;> simp
   · simp
theorem onq_all {b : Bd} {q : Pl} (hon : OnQ b q) (f g : Nat → Bool) (h : ∀ i, i < q.word.length → b.inB (q.sr i) (q.sc i) = true → f i = g i) : (List.range q.word.length).all f = (List.range q.word.length).all g := by
 rw [Bool.eq_iff_iff, List.all_eq_true, List.all_eq_true]
 exact ⟨fun hh i hi => by rw [← h i (List.mem_range.1 hi) (hon i (List.mem_range.1 hi))]; exact hh i hi, fun hh i hi => by rw [h i (List.mem_range.1 hi) (hon i (List.mem_range.1 hi))]; exact hh i hi⟩
theorem onq_any {b : Bd} {q : Pl} (hon : OnQ b q) (f g : Nat → Bool) (h : ∀ i, i < q.word.length → b.inB (q.sr i) (q.sc i) = true → f i = g i) : (List.range q.word.length).any f = (List.range q.word.length).any g := by
 rw [Bool.eq_iff_iff, List.any_eq_true, List.any_eq_true]
 exact ⟨fun ⟨i, hi, hh⟩ => ⟨i, hi, by rw [← h i (List.mem_range.1 hi) (hon i (List.mem_range.1 hi))]; exact hh⟩, fun ⟨i, hi, hh⟩ => ⟨i, hi, by rw [h i (List.mem_range.1 hi) (hon i (List.mem_range.1 hi))]; exact hh⟩⟩
theorem onQ_of {b : Bd} {q : Pl} (h0 : b.inB q.row q.col = true) (h1 : b.inB (q.sr ((q.word.length : Int) - 1)) (q.sc ((q.word.length : Int) - 1)) = true) : OnQ b q := by
 intro i hi
 rw [inB_iff] at h0 h1 ⊢
 unfold Pl.sr Pl.sc at h1 ⊢
 cases hd : q.down <;> simp only [hd, Bool.false_eq_true, if_false, if_true] at h1 ⊢ <;> omega
theorem end_in {b : Bd} {q : Pl} (h0 : b.inB q.row q.col = true) (hl : 1 ≤ q.word.length) : decide ((flatP q).col + (q.word.length : Int) ≤ b.size) = b.inB (q.sr ((q.word.length : Int) - 1)) (q.sc ((q.word.length : Int) - 1)) := by
 rw [inB_iff] at h0
 rw [Bool.eq_iff_iff, inB_iff, decide_eq_true_eq]
 unfold Pl.sr Pl.sc flatP Pl.tr
 cases hd : q.down <;> simp only [Bool.false_eq_true, if_false, if_true] <;> omega
theorem okB_validI {b : Bd} (hb : bdB b = true) (q : Pl) : okB b q = validI b q := by
 have hf := bdB.fit hb
 have hn := bdB_nz hb
 have hw := flatP_word q
 have hs := flat_size b q
 unfold okB validI fitsB
 rw [hb, hw, hs, Bool.true_and]
 cases hwd : wordB q.word
 · simp
 have hl : 1 ≤ q.word.length := by
   unfold wordB at hwd
   simp only [Bool.and_eq_true, decide_eq_true_eq] at hwd
   omega
 have e0 : (flatB b q).inB (flatP q).row (flatP q).col = b.inB q.row q.col := by
   have := flat_rowB (b := b) q 0
   rw [Int.add_zero] at this
   rw [this]
   unfold Pl.sr Pl.sc
   cases q.down <;> simp
 rw [e0]
 cases h0 : b.inB q.row q.col
 · simp
 rw [end_in h0 hl]
 cases h1 : b.inB (q.sr ((q.word.length : Int) - 1)) (q.sc ((q.word.length : Int) - 1))
 · simp
 have hon := onQ_of h0 h1
 have em : (flatB b q).full (flatP q).row ((flatP q).col - 1) = b.let_ (q.sr (-1)) (q.sc (-1)) := flat_full hf hn q (-1)
 have en : (flatB b q).full (flatP q).row ((flatP q).col + q.word.length) = b.let_ (q.sr q.word.length) (q.sc q.word.length) := flat_full hf hn q _
 rw [em, en, fitGo_eq]
 simp only [Bool.true_and, Bool.false_or]
 rw [Bool.and_assoc, Bool.and_assoc]
 congr 2
 congr 1
 · refine onq_all hon _ _ fun i _ hi => ?_
   unfold fitQ cellQ
   rw [flat_at hf q hi]
 · refine onq_any hon _ _ fun i _ hi => ?_
   unfold cellQ
   rw [flat_at hf q hi]
theorem fresh_new {b : Bd} (hb : bdB b = true) {q : Pl} (hon : OnQ b q) : freshL (flatB b q) (flatP q) = newL b q := by
 have hf := bdB.fit hb
 unfold freshL newL freshTo newTo
 rw [flatP_word]
 refine List.filter_congr fun i hi => ?_
 have hin := hon i (List.mem_range.1 hi)
 rw [flat_at hf q hin]
 unfold Bd.let_
 have hz := bdB_nz hb _ _ hin
 rw [← cell_in hin] at hz
 simp [hz]
theorem placed_new {b : Bd} (hb : bdB b = true) {q : Pl} (hon : OnQ b q) : placedS (flatB b q) (flatP q) = placedI b q := by
 unfold placedS placedI
 rw [fresh_new hb hon, flatP_word]
structure Inv (C : List Int) (p : Str) : Prop where
 len : C.length = 27
 cnt : ∀ x, tileB x = true → C.getD (tileK x) 0 = (p.count x : Int)
theorem tileB_iff (x : UInt8) : tileB x = true ↔ x = 63 ∨ (97 ≤ x.toNat ∧ x.toNat ≤ 122) := by
 unfold tileB smallB
 simp only [Bool.or_eq_true, beq_iff_eq, Bool.and_eq_true, decide_eq_true_eq]
 constructor
 · rintro (h | h)
   · exact .inl h
   · exact .inr (by omega)
 · rintro (h | h)
   · exact .inl h
   · exact .inr (by omega)
theorem tileK_63 : tileK 63 = 0 := rfl
theorem tileK_small {x : UInt8} (h : 97 ≤ x.toNat) : tileK x = x.toNat - 96 := by
 unfold tileK
 have : (x == 63) = false := by
   rw [beq_eq_false_iff_ne]
   rintro rfl
   exact absurd h (by decide)
 rw [this]; rfl
theorem tileK_lt' {x : UInt8} (h : tileB x = true) : tileK x < 27 := by
 rcases (tileB_iff x).1 h with rfl | ⟨h1, h2⟩
 · decide
 · rw [tileK_small h1]; omega
theorem tileK_inj {x y : UInt8} (hx : tileB x = true) (hy : tileB y = true) (h : tileK x = tileK y) : x = y := by
 rcases (tileB_iff x).1 hx with rfl | ⟨h1, h2⟩ <;> rcases (tileB_iff y).1 hy with rfl | ⟨h3, h4⟩
 · rfl
 · rw [tileK_63, tileK_small h3] at h; omega
 · rw [tileK_63, tileK_small h1] at h; omega
 · rw [tileK_small h1, tileK_small h3] at h
   exact UInt8.toNat_inj.1 (by omega)
theorem getD_set_eq {C : List Int} {k : Nat} (v : Int) (h : k < C.length) : (C.set k v).getD k 0 = v := by
 rw [List.getD_eq_getElem?_getD, List.getElem?_set_self h]; rfl
theorem getD_set_ne' {C : List Int} {k j : Nat} (v : Int) (h : k ≠ j) : (C.set k v).getD j 0 = C.getD j 0 := by
 rw [List.getD_eq_getElem?_getD, List.getElem?_set_ne h, ← List.getD_eq_getElem?_getD]
theorem Inv.take {C : List Int} {p : Str} (h : Inv C p) {c : UInt8} (hc : tileB c = true) (hm : c ∈ p) : Inv (C.set (tileK c) (C.getD (tileK c) 0 - 1)) (p.erase c) := by
 refine ⟨by rw [List.length_set]; exact h.len, fun x hx => ?_⟩
 have hlt : tileK c < C.length := by rw [h.len]; exact tileK_lt' hc
 have hpos : 0 < p.count c := List.count_pos_iff.2 hm
 by_cases he : tileK c = tileK x
 · obtain rfl := tileK_inj hc hx he
   rw [getD_set_eq _ hlt, h.cnt c hc, List.count_erase_self]
   omega
 · rw [getD_set_ne' _ he, h.cnt x hx]
   have hne : x ≠ c := fun e => he (by rw [e])
   rw [List.count_erase_of_ne hne]
theorem Inv.add {C : List Int} {p : Str} (h : Inv C p) {c : UInt8} (hc : tileB c = true) : Inv (incAt C (tileK c)) (p ++ [c]) := by
 refine ⟨by unfold incAt; rw [List.length_set]; exact h.len, fun x hx => ?_⟩
 have hlt : tileK c < C.length := by rw [h.len]; exact tileK_lt' hc
 unfold incAt
 by_cases he : tileK c = tileK x
 · obtain rfl := tileK_inj hc hx he
   rw [getD_set_eq _ hlt, h.cnt c hc, List.count_append]
   simp
 · rw [getD_set_ne' _ he, h.cnt x hx]
   have hne : c ≠ x := fun e => he (by rw [e])
   rw [List.count_append, List.count_singleton]
   simp [hne]
theorem Inv.foldl : ∀ (s : Str) {C : List Int} {p : Str}, Inv C p → s.all tileB = true → Inv (s.foldl (fun c x => incAt c (tileK x)) C) (p ++ s)
 | [], C, p, h, _ => by simpa using h
 | x :: s, C, p, h, hs => by
   rw [List.all_cons, Bool.and_eq_true] at hs
   have := Inv.foldl s (h.add hs.1) hs.2
   rw [List.append_assoc] at this
   exact this
theorem Inv.zero : Inv zeroC [] := ⟨rfl, fun x _ => by
 rw [List.count_nil, zeroC, List.getD_eq_getElem?_getD, List.getElem?_replicate]
 split <;> rfl⟩
theorem Inv.counts {s : Str} (h : s.all tileB = true) : Inv (countsL s) s := by
 have := Inv.foldl s Inv.zero h
 exact this
theorem takeGo_nil1 : ∀ a : Str, (takeGo a []).1 = a
 | [] => rfl
 | x :: a => by rw [takeGo, takeGo_nil1 a]
theorem takeS_one (c : UInt8) : ∀ p : Str, takeS p [c] = p.erase c
 | [] => rfl
 | x :: a => by
   have ih := takeS_one c a
   unfold takeS at ih ⊢
   rw [takeGo, List.erase_cons]
   by_cases h : c = x
   · subst h; simp [takeGo_nil1]
   · have : (x == c) = false := by simpa using fun e : x = c => h e.symm
     rw [if_neg h, this]
     simp [ih]
theorem takeB_one (c : UInt8) : ∀ p : Str, takeB p [c] = decide (c ∈ p)
 | [] => by simp [takeB, takeGo]
 | x :: a => by
   have ih := takeB_one c a
   unfold takeB at ih ⊢
   rw [takeGo]
   by_cases h : c = x
   · subst h; simp [takeGo_nil]
   · rw [if_neg h]
     simp only [ih, List.mem_cons, h, false_or]
theorem waysR_pre' : ∀ (r : Str) (C : List Int) (pre : Str), waysR C pre r = (waysR C [] r).map (pre ++ ·)
 | [], C, pre => by simp [waysR]
 | x :: r, C, pre => by
   rw [waysR, waysR, waysR_pre' r _ (pre ++ [upC x]), waysR_pre' r _ (pre ++ [x]), waysR_pre' r _ ([] ++ [upC x]), waysR_pre' r _ ([] ++ [x])]
   rw [List.map_append]
   congr 1
   · split
     · rfl
     · simp
   · split
     · rfl
     · simp
theorem waysF_waysR : ∀ (r : Str) (C : List Int) (p : Str), Inv C p → r.all smallB = true → waysF p r = waysR C [] r
 | [], _, _, _, _ => rfl
 | x :: r, C, p, h, hs => by
   rw [List.all_cons, Bool.and_eq_true] at hs
   have hx : tileB x = true := by unfold tileB; rw [hs.1, Bool.or_true]
   have key : ∀ (c d : UInt8), tileB c = true → (if takeB p [c] = true then (waysF (takeS p [c]) r).map (d :: ·) else []) = (if C.getD (tileK c) 0 = 0 then [] else waysR (C.set (tileK c) (C.getD (tileK c) 0 - 1)) ([] ++ [d]) r) := by
     intro c d hc
     rw [takeB_one, takeS_one, h.cnt c hc]
     by_cases hm : c ∈ p
     · have hpos : 0 < p.count c := List.count_pos_iff.2 hm
       rw [if_pos (by simpa using hm), if_neg (by omega)]
       rw [← h.cnt c hc, waysR_pre', waysF_waysR r _ _ (h.take hc hm) hs.2]
       rfl
     · have hz : p.count c = 0 := List.count_eq_zero.2 hm
       rw [if_neg (by simpa using hm), if_pos (by omega)]
   rw [waysF, waysR]
   exact congr (congrArg _ (key 63 (upC x) (by decide))) (key x x hx)
theorem canC_need : ∀ (r : Str) (C : List Int) (bl : Int) (p : Str), C.length = 27 → (∀ x, smallB x = true → (p.count x : Int) = max (C.getD (tileK x) 0) 0) → r.all smallB = true → canC C bl r = decide ((needF p r : Int) ≤ bl)
 | [], C, bl, p, _, _, _ => by rw [Bool.eq_iff_iff, decide_eq_true_iff]; show decide (0 ≤ bl) = true ↔ _; rw [decide_eq_true_iff]; simp [needF]
 | x :: r, C, bl, p, hl, h, hs => by
   rw [List.all_cons, Bool.and_eq_true] at hs
   have hx : tileB x = true := by unfold tileB; rw [hs.1, Bool.or_true]
   have hlt : tileK x < C.length := by rw [hl]; exact tileK_lt' hx
   have hcx := h x hs.1
   rw [canC, needF, takeB_one, takeS_one]
   by_cases hm : x ∈ p
   · have hpos : 0 < p.count x := List.count_pos_iff.2 hm
     rw [if_neg (by omega), if_pos (by simpa using hm)]
     refine canC_need r _ bl _ (by rw [List.length_set]; exact hl) (fun y hy => ?_) hs.2
     have hyt : tileB y = true := by unfold tileB; rw [hy, Bool.or_true]
     by_cases he : tileK x = tileK y
     · obtain rfl := tileK_inj hx hyt he
       rw [getD_set_eq _ hlt, List.count_erase_self]
       omega
     · rw [getD_set_ne' _ he, List.count_erase_of_ne (fun e => he (by rw [e]))]
       exact h y hy
   · have hz : p.count x = 0 := List.count_eq_zero.2 hm
     rw [if_pos (by omega), if_neg (by simpa using hm)]
     rw [canC_need r _ (bl - 1) p (by rw [List.length_set]; exact hl) (fun y hy => ?_) hs.2]
     · rw [Bool.eq_iff_iff, decide_eq_true_eq, decide_eq_true_eq]; omega
     · have hyt : tileB y = true := by unfold tileB; rw [hy, Bool.or_true]
       by_cases he : tileK x = tileK y
       · obtain rfl := tileK_inj hx hyt he
         rw [getD_set_eq _ hlt]
         omega
       · rw [getD_set_ne' _ he]
         exact h y hy
theorem canB_canMake {p word : Str} (hp : p.all tileB = true) (hw : word.all smallB = true) : canB p word = canMakeC (countsL p) word := by
 have h := Inv.counts hp
 have h0 := h.cnt 63 (by decide)
 rw [tileK_63] at h0
 unfold canB canMakeC blanksN
 rw [canC_need word _ _ p h.len (fun x hx => ?_) hw, h0]
 · rw [Bool.eq_iff_iff, decide_eq_true_eq, decide_eq_true_eq]; omega
 · rw [h.cnt x (by unfold tileB; rw [hx, Bool.or_true])]
   omega
def Asc (s : Str) : Prop := s.Pairwise fun a b => a.toNat ≤ b.toNat
theorem pileFrom_asc : ∀ (s : Str) (q : UInt8), pileFrom (some q) s = true → s.all tileB = true ∧ Asc (q :: s)
 | [], q, _ => ⟨rfl, List.pairwise_singleton _ _⟩
 | a :: r, q, h => by
   rw [pileFrom] at h
   simp only [Bool.and_eq_true] at h
   obtain ⟨h1, h2⟩ := pileFrom_asc r a h.2
   have hle : q.toNat ≤ a.toNat := by have := h.1.2; unfold leB at this; simpa using this
   refine ⟨by rw [List.all_cons, h1, h.1.1]; rfl, List.pairwise_cons.2 ⟨fun b hb => ?_, h2⟩⟩
   rcases List.mem_cons.1 hb with e | hb
   · subst e; exact hle
   · exact Nat.le_trans hle ((List.pairwise_cons.1 h2).1 b hb)
theorem pileB_asc {s : Str} (h : pileB s = true) : s.all tileB = true ∧ Asc s := by
 unfold pileB at h
 rw [Bool.and_eq_true] at h
 match s, h.1 with
 | [], _ => exact ⟨rfl, List.Pairwise.nil⟩
 | a :: r, h1 =>
   rw [pileFrom, Bool.and_eq_true] at h1
   obtain ⟨h2, h3⟩ := pileFrom_asc r a h1.2
   exact ⟨by rw [List.all_cons, h1.1, h2]; rfl, h3⟩
theorem rackB_asc {s : Str} (h : rackB s = true) : s.all tileB = true ∧ Asc s := by
 unfold rackB at h
 rw [Bool.and_eq_true] at h
 exact pileB_asc h.1
theorem asc_notin {a : Str} {x c : UInt8} (h : Asc (x :: a)) (hc : c.toNat < x.toNat) : (x :: a).count c = 0 := by
 rw [List.count_eq_zero]
 intro hm
 rcases List.mem_cons.1 hm with e | hm
 · subst e; omega
 · have := (List.pairwise_cons.1 h).1 c hm; omega
theorem takeGo_count : ∀ (a b : Str), Asc a → Asc b → ((takeGo a b).2 = [] ↔ ∀ c, b.count c ≤ a.count c)
 | [], b, _, _ => by
   rw [takeGo]
   constructor
   · rintro h c
     have h : b = [] := h
     subst h; simp
   · intro h
     show b = []
     match b, h with
     | [], _ => rfl
     | y :: b, h => have := h y; simp at this
 | x :: a, [], _, _ => by simp [takeGo]
 | x :: a, y :: b, ha, hb => by
   have ha' := (List.pairwise_cons.1 ha).2
   have hb' := (List.pairwise_cons.1 hb).2
   rw [takeGo]
   by_cases h : y = x
   · subst h
     rw [if_pos rfl, takeGo_count a b ha' hb']
     refine forall_congr' fun c => ?_
     rw [List.count_cons, List.count_cons]
     omega
   · rw [if_neg h]
     show (takeGo a (y :: b)).2 = [] ↔ _
     rw [takeGo_count a (y :: b) ha' hb]
     constructor
     · intro hh c
       have := hh c
       rw [List.count_cons (b := x)]
       omega
     · intro hh c
       have h1 := hh c
       by_cases hcx : c = x
       · subst hcx
         rcases Nat.lt_or_ge c.toNat y.toNat with hlt | hge
         · rw [asc_notin hb hlt]; exact Nat.zero_le _
         · have hne : y.toNat ≠ c.toNat := fun e => h (UInt8.toNat_inj.1 e)
           have h2 := hh y
           rw [asc_notin ha (by omega), List.count_cons_self] at h2
           omega
       · rw [List.count_cons_of_ne (fun e => hcx e.symm)] at h1
         exact h1
theorem insK_spec (l : Str) (c : UInt8) : ∀ k, k ≤ l.length → insK l c k ≤ k ∧ (∀ i (hi : i < l.length), i < k → insK l c k ≤ i → c.toNat < l[i].toNat) ∧ (∀ h : insK l c k - 1 < l.length, 0 < insK l c k → l[insK l c k - 1].toNat ≤ c.toNat)
 | 0, _ => ⟨Nat.le_refl _, fun i _ h => absurd h (by omega), fun _ h => by simp [insK] at h⟩
 | k + 1, hk => by
   obtain ⟨h0, h1, h2⟩ := insK_spec l c k (by omega)
   rw [insK, List.getElem?_eq_getElem (by omega : k < l.length), Option.getD_some]
   by_cases hc : c.toNat < l[k].toNat
   · simp only [hc, if_true]
     refine ⟨by omega, fun i hi h h' => ?_, h2⟩
     by_cases hik : i = k
     · subst hik; exact hc
     · exact h1 i hi (by omega) h'
   · simp only [hc, if_false]
     exact ⟨Nat.le_refl _, fun i _ h h' => absurd h (by omega), fun _ _ => by simpa using hc⟩
theorem asc_insR {l : Str} (c : UInt8) (h : Asc l) : Asc (insR l c) := by
 unfold insR
 obtain ⟨h0, h1, h2⟩ := insK_spec l c l.length (Nat.le_refl _)
 obtain ⟨m, hm⟩ : ∃ m, m = insK l c l.length := ⟨_, rfl⟩
 rw [← hm] at h0 h1 h2 ⊢
 clear hm
 have hp := List.pairwise_iff_getElem.1 h
 have hd : ∀ b ∈ l.drop m, c.toNat ≤ b.toNat := by
   intro b hb
   obtain ⟨i, hi, rfl⟩ := List.mem_iff_getElem.1 hb
   rw [List.getElem_drop]
   exact Nat.le_of_lt (h1 _ _ (by simp at hi; omega) (by omega))
 have ht : ∀ b ∈ l.take m, b.toNat ≤ c.toNat := by
   intro b hb
   obtain ⟨i, hi, rfl⟩ := List.mem_iff_getElem.1 hb
   rw [List.getElem_take]
   have him : i < m := by simp at hi; omega
   have hl := h2 (by omega) (by omega)
   by_cases he : i = m - 1
   · subst he; exact hl
   · exact Nat.le_trans (hp i (m - 1) (by omega) (by omega) (by omega)) hl
 refine List.pairwise_append.2 ⟨h.sublist (List.take_sublist _ _), List.pairwise_cons.2 ⟨hd, h.sublist (List.drop_sublist _ _)⟩, fun a ha b hb => ?_⟩
 rcases List.mem_cons.1 hb with e | hb
 · subst e; exact ht a ha
 · exact Nat.le_trans (ht a ha) (hd b hb)
theorem count_insR (l : Str) (c x : UInt8) : (insR l c).count x = l.count x + [c].count x := by
 unfold insR
 rw [List.count_append, List.count_cons, List.count_singleton]
 have := congrArg (List.count x) (List.take_append_drop (insK l c l.length) l)
 rw [List.count_append] at this
 omega
theorem foldl_insR : ∀ (s l : Str), Asc l → Asc (s.foldl insR l) ∧ ∀ x, (s.foldl insR l).count x = l.count x + s.count x
 | [], l, h => ⟨h, fun x => by simp⟩
 | c :: s, l, h => by
   obtain ⟨h1, h2⟩ := foldl_insR s (insR l c) (asc_insR c h)
   refine ⟨h1, fun x => ?_⟩
   rw [List.foldl_cons, h2, count_insR, List.count_singleton, List.count_cons (a := x)]
   omega
theorem isort_asc (s : Str) : Asc (isort s) := (foldl_insR s [] List.Pairwise.nil).1
theorem isort_count (s : Str) (x : UInt8) : (isort s).count x = s.count x := by
 have := (foldl_insR s [] List.Pairwise.nil).2 x
 rw [List.count_nil, Nat.zero_add] at this
 exact this
theorem tileC_tileK {x : UInt8} (h : tileB x = true) : tileC (tileK x) = x := by
 rcases (tileB_iff x).1 h with rfl | ⟨h1, h2⟩
 · rfl
 · rw [tileK_small h1]
   unfold tileC
   rw [if_neg (by omega)]
   apply UInt8.toNat_inj.1
   rw [UInt8.toNat_ofNat']
   omega
theorem tileK_tileC {k : Nat} (h : k < 27) : tileK (tileC k) = k := by
 by_cases h0 : k = 0
 · subst h0; rfl
 · have e : (tileC k).toNat = 96 + k := by
     unfold tileC
     rw [if_neg h0, UInt8.toNat_ofNat']
     omega
   rw [tileK_small (by omega), e]
   omega
theorem pileTo_count (c : List Int) {x : UInt8} (h : tileB x = true) : ∀ k, k ≤ 27 → (pileTo c k).count x = if tileK x < k then (c.getD (tileK x) 0).toNat else 0
 | 0, _ => rfl
 | k + 1, hk => by
   have e : pileTo c (k + 1) = pileTo c k ++ List.replicate (c.getD k 0).toNat (tileC k) := by simp [pileTo, List.range_succ]
   rw [e, List.count_append, pileTo_count c h k (by omega), List.count_replicate]
   by_cases he : tileK x = k
   · subst he
     rw [tileC_tileK h, if_neg (by omega), if_pos (by simp), if_pos (by omega), Nat.zero_add]
   · have hne : (tileC k == x) = false := by
       rw [beq_eq_false_iff_ne]
       intro e2
       rw [← e2, tileK_tileC (by omega)] at he
       exact he rfl
     rw [hne]
     have : (if (false = true) then (c.getD k 0).toNat else 0) = 0 := rfl
     rw [this]
     by_cases hlt : tileK x < k
     · rw [if_pos hlt, if_pos (by omega), Nat.add_zero]
     · rw [if_neg hlt, if_neg (by omega)]
theorem pileL_tile' (c : List Int) : (pileL c).all tileB = true := by
 unfold pileL pileTo
 rw [List.all_flatMap, List.all_eq_true]
 intro i hi
 have hi := List.mem_range.1 hi
 rw [List.all_eq_true]
 intro x hx
 rw [List.eq_of_mem_replicate hx]
 by_cases h0 : i = 0
 · subst h0; rfl
 · have e : (tileC i).toNat = 96 + i := by
     unfold tileC
     rw [if_neg h0, UInt8.toNat_ofNat']
     omega
   exact (tileB_iff _).2 (.inr (by omega))
theorem lessOk_count {a b : Str} (ha : a.all tileB = true) (hb : b.all tileB = true) : lessOk (countsL a) (countsL b) = true ↔ ∀ c, b.count c ≤ a.count c := by
 have ia := Inv.counts ha
 have ib := Inv.counts hb
 unfold lessOk
 rw [List.all_eq_true]
 constructor
 · intro h c
   by_cases hc : tileB c = true
   · have := h (tileK c) (List.mem_range.2 (tileK_lt' hc))
     rw [ia.cnt c hc, ib.cnt c hc, decide_eq_true_eq] at this
     omega
   · rw [List.count_eq_zero.2 (fun hm => hc (List.all_eq_true.1 hb c hm))]
     exact Nat.zero_le _
 · intro h i hi
   have hi := List.mem_range.1 hi
   have ht : tileB (tileC i) = true := by
     by_cases h0 : i = 0
     · subst h0; rfl
     · have e : (tileC i).toNat = 96 + i := by
         unfold tileC
         rw [if_neg h0, UInt8.toNat_ofNat']
         omega
       exact (tileB_iff _).2 (.inr (by omega))
   have h1 := ia.cnt _ ht
   have h2 := ib.cnt _ ht
   rw [tileK_tileC hi] at h1 h2
   rw [h1, h2, decide_eq_true_eq]
   have := h (tileC i)
   omega
theorem blank_tiles {s : Str} (h : lettB s = true) : (s.map blankC).all tileB = true := by
 rw [List.all_map, List.all_eq_true]
 intro c hc
 have := List.all_eq_true.1 h c hc
 show tileB (blankC c) = true
 unfold blankC
 split
 · rfl
 · rename_i hcap
   rw [Bool.or_eq_true] at this
   rcases this with h1 | h1
   · unfold tileB; rw [h1, Bool.or_true]
   · exact absurd h1 hcap
theorem take_less {rack s : Str} (hr : rackB rack = true) (hs : lettB s = true) : takeB rack (tilesS s) = withoutB rack (tilesP s) := by
 obtain ⟨h1, h2⟩ := rackB_asc hr
 have ht := blank_tiles hs
 have hi := Inv.counts ht
 rw [Bool.eq_iff_iff]
 unfold takeB withoutB
 rw [lessOk_count h1 (show (tilesP s).all tileB = true from pileL_tile' _), List.isEmpty_iff, takeGo_count _ _ h2 (show Asc (tilesS s) from isort_asc _)]
 refine forall_congr' fun c => ?_
 unfold tilesP tilesS
 rw [isort_count]
 have e : (pileL (countsL (s.map blankC))).count c = (s.map blankC).count c := by
   by_cases hc : tileB c = true
   · unfold pileL
     rw [pileTo_count _ hc 27 (Nat.le_refl _), if_pos (tileK_lt' hc), hi.cnt c hc, Int.toNat_natCast]
   · rw [List.count_eq_zero.2 (fun hm => hc (List.all_eq_true.1 (pileL_tile' _) c hm)), List.count_eq_zero.2 (fun hm => hc (List.all_eq_true.1 ht c hm))]
 rw [e]
theorem idx_inj {n r c r' c' : Int} (hn : 0 < n) (c0 : 0 ≤ c) (c1 : c < n) (c0' : 0 ≤ c') (c1' : c' < n) (h : r * n + c = r' * n + c') : r = r' ∧ c = c' := by
 have e1 : (r * n + c) % n = c := by rw [Int.add_comm, Int.add_mul_emod_self_right, Int.emod_eq_of_lt c0 c1]
 have e2 : (r' * n + c') % n = c' := by rw [Int.add_comm, Int.add_mul_emod_self_right, Int.emod_eq_of_lt c0' c1']
 have hc : c = c' := by rw [← e1, ← e2, h]
 subst hc
 have : r * n = r' * n := by omega
 exact ⟨Int.eq_of_mul_eq_mul_right (by omega) this, rfl⟩
theorem idx_nat {b : Bd} (hf : b.Fit) {r c r' c' : Int} (h : b.inB r c = true) (h' : b.inB r' c' = true) (e : (r * b.size + c).toNat = (r' * b.size + c').toNat) : r = r' ∧ c = c' := by
 rw [inB_iff] at h h'
 have h5 := hf.lo
 have m1 := mul_bounds hf.lo hf.hi h.1.1 h.1.2 h.2.1 h.2.2
 have m2 := mul_bounds hf.lo hf.hi h'.1.1 h'.1.2 h'.2.1 h'.2.2
 exact idx_inj (n := b.size) (by omega) (by omega) (by omega) (by omega) (by omega) (by omega)
theorem made_step (b : Bd) (q : Pl) (k : Nat) : madeTo b q (k + 1) = (madeTo b q k).set (idxOf b q k) (q.word.getD k 0) := by
 simp [madeTo, List.range_succ]
theorem made_len (b : Bd) (q : Pl) : ∀ k, (madeTo b q k).length = b.cells.length
 | 0 => rfl
 | k + 1 => by rw [made_step, List.length_set]; exact made_len b q k
theorem made_other (b : Bd) (q : Pl) (j : Nat) : ∀ k, (∀ i, i < k → idxOf b q i ≠ j) → (madeTo b q k).getD j 0 = b.cells.getD j 0
 | 0, _ => rfl
 | k + 1, h => by
   rw [made_step, List.getD_eq_getElem?_getD, List.getElem?_set_ne (h k (by omega)), ← List.getD_eq_getElem?_getD]
   exact made_other b q j k fun i hi => h i (by omega)
theorem made_same {b : Bd} (hf : b.Fit) {q : Pl} (hon : OnQ b q) {i : Nat} : ∀ k, i < k → k ≤ q.word.length → (madeTo b q k).getD (idxOf b q i) 0 = q.word.getD i 0
 | 0, h, _ => absurd h (by omega)
 | k + 1, h, hk => by
   rw [made_step, List.getD_eq_getElem?_getD]
   by_cases he : i = k
   · subst he
     have hin := hon i (by omega)
     rw [inB_iff] at hin
     have hm := mul_bounds hf.lo hf.hi hin.1.1 hin.1.2 hin.2.1 hin.2.2
     have hl : idxOf b q i < (madeTo b q i).length := by
       rw [made_len]; have := hf.cells; unfold idxOf; omega
     rw [List.getElem?_set_self hl]
     rfl
   · have hne : idxOf b q k ≠ idxOf b q i := fun e => by
       have := idx_nat hf (hon k (by omega)) (hon i (by omega)) e
       unfold Pl.sr Pl.sc at this
       cases hd : q.down <;> simp only [hd, Bool.false_eq_true, if_false, if_true] at this <;> omega
     rw [List.getElem?_set_ne hne, ← List.getD_eq_getElem?_getD]
     exact made_same hf hon k (by omega) (by omega)
theorem made_inB (b : Bd) (q : Pl) (r c : Int) : (madeB b q).inB r c = b.inB r c := rfl
theorem made_on {b : Bd} (hf : b.Fit) {q : Pl} (hon : OnQ b q) {i : Nat} (h : i < q.word.length) : (madeB b q).cell (q.sr i) (q.sc i) = q.word.getD i 0 := by
 rw [cell_in (by rw [made_inB]; exact hon i h)]
 exact made_same hf hon _ h (Nat.le_refl _)
theorem made_off {b : Bd} (hf : b.Fit) {q : Pl} (hon : OnQ b q) {r c : Int} (h : ∀ i : Nat, i < q.word.length → ¬(q.sr i = r ∧ q.sc i = c)) : (madeB b q).cell r c = b.cell r c := by
 unfold Bd.cell
 rw [made_inB]
 cases hi : b.inB r c
 · rfl
 · simp only [if_true]
   exact made_other b q _ _ fun i hk e => h i hk (idx_nat hf (hon i hk) hi e)
section
variable {b : Bd} {q : Pl} {i : Nat}
theorem across_cell (hf : b.Fit) (hon : OnQ b q) (n : Int) (hn : n ≠ 0) :
   (madeB b q).cell (sqAt (!q.down) (q.sr i) (q.sc i) n).1 (sqAt (!q.down) (q.sr i) (q.sc i) n).2 = (flatB b q).cell ((flatP q).row + n) ((flatP q).col + (i : Int)) := by
 rw [flat_cell hf, made_off hf hon (fun k hk => ?_)]
 · unfold sqAt Pl.sr Pl.sc
   cases q.down <;> rfl
 · unfold sqAt Pl.sr Pl.sc
   cases q.down <;> simp <;> omega
theorem across_zero (hf : b.Fit) (hon : OnQ b q) (hi : i < q.word.length) :
   (madeB b q).cell (sqAt (!q.down) (q.sr i) (q.sc i) 0).1 (sqAt (!q.down) (q.sr i) (q.sc i) 0).2 = q.word.getD i 0 := by
 have e : ((sqAt (!q.down) (q.sr i) (q.sc i) 0).1, (sqAt (!q.down) (q.sr i) (q.sc i) 0).2) = (q.sr i, q.sc i) := by
   unfold sqAt; cases q.down <;> simp
 injection e with e1 e2
 rw [e1, e2]
 exact made_on hf hon hi
theorem across_on (hb : bdB b = true) (hon : OnQ b q) (n : Int) (hn : n ≠ 0) :
   onAt (madeB b q) (!q.down) (q.sr i) (q.sc i) n = (flatB b q).full ((flatP q).row + n) ((flatP q).col + (i : Int)) := by
 rw [full_let (flat_nz (bdB.fit hb) (bdB_nz hb) q)]
 exact let_eq (across_cell (bdB.fit hb) hon n hn)
theorem across_on0 (hb : bdB b = true) (hon : OnQ b q) (hi : i < q.word.length) (hw : lettB q.word = true) : onAt (madeB b q) (!q.down) (q.sr i) (q.sc i) 0 = true := by
 unfold onAt Bd.let_
 rw [across_zero (bdB.fit hb) hon hi]
 have hm : q.word.getD i 0 ∈ q.word := by
   rw [List.getD_eq_getElem?_getD, List.getElem?_eq_getElem hi]; exact List.getElem_mem hi
 have := List.all_eq_true.1 hw _ hm
 generalize q.word.getD i 0 = x at this
 have h0 : x ≠ 0 := by rintro rfl; exact absurd this (by decide)
 have h46 : x ≠ 46 := by rintro rfl; exact absurd this (by decide)
 simp [h0, h46]
theorem full_bd {b : Bd} (hf : b.Fit) {r c : Int} (h : b.full r c = true) : 0 ≤ r ∧ r < 15 := by
 unfold Bd.full at h
 rw [Bool.and_eq_true, inB_iff] at h
 have := hf.hi
 omega
theorem bef_up (hb : bdB b = true) (hon : OnQ b q) {R : Nat} (hR : (flatP q).row = (R : Int)) : ∀ (k m f : Nat), k + m = R → k < f →
   (upTo (flatB b q) ((flatP q).col + (i : Int)) k : Int) = (R : Int) - (befN (madeB b q) (!q.down) (q.sr i) (q.sc i) f m : Nat)
 | 0, m, f + 1, h, _ => by
   have hno : onAt (madeB b q) (!q.down) (q.sr i) (q.sc i) (-(m : Int) - 1) = false := by
     rw [across_on hb hon _ (by omega), Bool.eq_false_iff]
     intro hh
     have hf : (flatB b q).Fit := by
       have := flat_size b q
       exact ⟨by rw [this]; exact (bdB.fit hb).lo, by rw [this]; exact (bdB.fit hb).hi, by unfold flatB; split; exact (Bd.Fit.tr (bdB.fit hb)).prem; exact (bdB.fit hb).prem, by unfold flatB; split; exact (Bd.Fit.tr (bdB.fit hb)).cells; exact (bdB.fit hb).cells⟩
     have := full_bd hf hh
     omega
   rw [upTo, befN, hno]
   simp only [Bool.false_eq_true, if_false]
   omega
 | k + 1, m, f + 1, h, hf => by
   have he : onAt (madeB b q) (!q.down) (q.sr i) (q.sc i) (-(m : Int) - 1) = (flatB b q).full (k : Int) ((flatP q).col + (i : Int)) := by
     rw [across_on hb hon _ (by omega)]
     congr 1
     omega
   rw [upTo, befN, he]
   cases hc : (flatB b q).full (k : Int) ((flatP q).col + (i : Int))
   · simp only [Bool.false_eq_true, if_false]
     omega
   · simp only [if_true]
     exact bef_up hb hon hR k (m + 1) f (by omega) (by omega)
theorem seq_cross (hb : bdB b = true) (hon : OnQ b q) (hi : i < q.word.length) (hw : lettB q.word = true) {R : Nat} (hR : (flatP q).row = (R : Int)) (hR15 : R < 15) (hff : (flatB b q).Fit) : ∀ (fu r fs : Nat), r + fu = 16 → fu ≤ fs →
   crossGo (flatB b q) R ((flatP q).col + (i : Int)) (q.word.getD i 0) fu r = (seqGo (madeB b q) (!q.down) (q.sr i) (q.sc i) fs ((r : Int) - R)).map fun n => (madeB b q).cell (sqAt (!q.down) (q.sr i) (q.sc i) n).1 (sqAt (!q.down) (q.sr i) (q.sc i) n).2
 | 0, r, 0, _, _ => by rw [crossGo, seqGo]; rfl
 | 0, r, fs + 1, h, _ => by
   have hno : onAt (madeB b q) (!q.down) (q.sr i) (q.sc i) ((r : Int) - R) = false := by
     rw [across_on hb hon _ (by omega), Bool.eq_false_iff]
     intro hh
     have := full_bd hff hh
     omega
   rw [crossGo, seqGo, hno]; rfl
 | fu + 1, r, fs + 1, h, hs => by
   have ih := seq_cross hb hon hi hw hR hR15 hff fu (r + 1) fs (by omega) (by omega)
   rw [show (((r + 1 : Nat) : Int) - (R : Int)) = (r : Int) - R + 1 from by omega] at ih
   rw [crossGo, seqGo, ih]
   by_cases hr : r = R
   · subst hr
     rw [Int.sub_self, across_on0 hb hon hi hw]
     simp only [if_true, List.map_cons]
     rw [across_zero (bdB.fit hb) hon hi]
   · have e1 : (flatP q).row + ((r : Int) - R) = (r : Int) := by omega
     have ho := across_on (i := i) hb hon ((r : Int) - R) (by omega)
     have hc := across_cell (i := i) (bdB.fit hb) hon ((r : Int) - R) (by omega)
     rw [e1] at ho hc
     rw [if_neg hr, ho]
     cases hfu : (flatB b q).full (r : Int) ((flatP q).col + (i : Int))
     · rfl
     · simp only [if_true, List.map_cons]
       rw [hc, cell_in]
       unfold Bd.full at hfu
       rw [Bool.and_eq_true] at hfu
       exact hfu.1
theorem flat_fit' (hf : b.Fit) (q : Pl) : (flatB b q).Fit := by
 unfold flatB; split
 · exact hf.tr
 · exact hf
theorem cross_seq (hb : bdB b = true) (hon : OnQ b q) (hi : i < q.word.length) (hw : lettB q.word = true) :
   crossAt (flatB b q) (flatP q) i = sqW (madeB b q) (seqL (madeB b q) (!q.down) (q.sr i) (q.sc i)) := by
 have hff := flat_fit' (bdB.fit hb) q
 have hin := flat_rowB (b := b) q i
 rw [hon i hi, inB_iff] at hin
 have h15 := hff.hi
 obtain ⟨R, hR⟩ : ∃ R : Nat, (flatP q).row = (R : Int) := ⟨(flatP q).row.toNat, by omega⟩
 have hR15 : R < 15 := by omega
 unfold crossAt crossS sqW seqL seqN
 rw [flatP_word, hR, Int.toNat_natCast, List.map_map]
 have hu := bef_up (i := i) hb hon hR R 0 16 (by omega) (by omega)
 have hul : upTo (flatB b q) ((flatP q).col + (i : Int)) R ≤ R := by omega
 have := seq_cross hb hon hi hw hR hR15 hff (16 - upTo (flatB b q) ((flatP q).col + (i : Int)) R) (upTo (flatB b q) ((flatP q).col + (i : Int)) R) 32 (by omega) (by omega)
 rw [this, show ((upTo (flatB b q) ((flatP q).col + (i : Int)) R : Nat) : Int) - R = -((befN (madeB b q) (!q.down) (q.sr i) (q.sc i) 16 0 : Nat) : Int) from by omega]
 rfl
theorem words_same (hb : bdB b = true) (hon : OnQ b q) (hw : lettB q.word = true) : wordsL b q = wordsI b q := by
 unfold wordsL wordsI formedL crossW crossP sqL
 rw [fresh_new hb hon, flatP_word, List.map_cons]
 congr 1
 have hlt : ∀ x ∈ newL b q, x < q.word.length := fun x hx => List.mem_range.1 (List.mem_filter.1 hx).1
 generalize newL b q = N at hlt
 unfold keepL
 induction N with
 | nil => rfl
 | cons x N ih =>
   have ih := ih fun y hy => hlt y (List.mem_cons_of_mem _ hy)
   have hx := cross_seq hb hon (hlt x (List.mem_cons_self ..)) hw
   have hlen : (crossAt (flatB b q) (flatP q) x).length = (seqL (madeB b q) (!q.down) (q.sr x) (q.sc x)).length := by rw [hx]; simp [sqW]
   simp only [List.map_cons, List.filter_cons, hlen]
   by_cases h2 : 2 ≤ (seqL (madeB b q) (!q.down) (q.sr x) (q.sc x)).length
   · rw [if_pos (by simp; omega), if_pos (by simpa using h2), List.map_cons, List.map_cons, ih, hx]
   · rw [if_neg (by simp; omega), if_neg (by simpa using h2), ih]
end
theorem validI_facts {b : Bd} {q : Pl} (h : validI b q = true) : OnQ b q ∧ lettB q.word = true ∧ 2 ≤ q.word.length ∧ q.word.length ≤ 12 := by
 unfold validI at h
 simp only [Bool.and_eq_true] at h
 obtain ⟨⟨⟨⟨⟨⟨hw, h0⟩, h1⟩, _⟩, _⟩, _⟩, _⟩ := h
 unfold wordB placedB inR at hw
 simp only [Bool.and_eq_true, decide_eq_true_eq] at hw
 exact ⟨onQ_of h0 h1, hw.2.1, by omega, by omega⟩
theorem placedI_lett {b : Bd} {q : Pl} (h : lettB q.word = true) : lettB (placedI b q) = true := by
 unfold lettB placedI
 rw [List.all_map, List.all_eq_true]
 intro i hi
 have hlt : i < q.word.length := List.mem_range.1 (List.mem_filter.1 hi).1
 have hm : q.word.getD i 0 ∈ q.word := by
   rw [List.getD_eq_getElem?_getD, List.getElem?_eq_getElem hlt]; exact List.getElem_mem hlt
 exact List.all_eq_true.1 h _ hm
theorem formed_len {b : Bd} {q : Pl} (hb : bdB b = true) (hon : OnQ b q) (hw : lettB q.word = true) : (formedL (flatB b q) (flatP q)).length = (wordsI b q).length := by
 rw [← words_same hb hon hw, wordsL, List.length_map]
theorem empty_new {b : Bd} (hb : bdB b = true) {q : Pl} (hon : OnQ b q) (h : lettersS b = []) : newL b q = List.range q.word.length := by
 unfold newL newTo
 rw [List.filter_eq_self]
 intro i hi
 have hin := hon i (List.mem_range.1 hi)
 have hm := at_mem (bdB.fit hb) hin
 unfold lettersS at h
 rw [List.filter_eq_nil_iff] at h
 have := h _ hm
 unfold Bd.let_
 rw [cell_in hin]
 simp at this
 simp [this]
theorem touch_same {b : Bd} (hb : bdB b = true) {q : Pl} (hv : validI b q = true) : touchB b q = touchI b q := by
 obtain ⟨hon, hw, h2, h12⟩ := validI_facts hv
 unfold touchB touchI
 by_cases h : lettersS b = []
 · rw [if_pos h, h, if_pos (by rfl), empty_new hb hon h]
   rw [Bool.eq_iff_iff, List.any_eq_true]
   simp only [Bool.and_eq_true, decide_eq_true_eq]
   unfold flatP Pl.tr sqL Pl.sr Pl.sc
   constructor
   · rintro ⟨h3, h4, h5⟩
     cases hd : q.down
     · simp only [hd, Bool.false_eq_true, if_false] at h3 h4 h5 ⊢
       refine ⟨_, List.mem_map.2 ⟨(b.size / 2 - q.col).toNat, List.mem_range.2 (by omega), rfl⟩, ?_⟩
       rw [beq_iff_eq, Prod.mk.injEq]
       omega
     · simp only [hd, if_true] at h3 h4 h5 ⊢
       refine ⟨_, List.mem_map.2 ⟨(b.size / 2 - q.row).toNat, List.mem_range.2 (by omega), rfl⟩, ?_⟩
       rw [beq_iff_eq, Prod.mk.injEq]
       omega
   · rintro ⟨x, hx, he⟩
     obtain ⟨i, hi, rfl⟩ := List.mem_map.1 hx
     have hi := List.mem_range.1 hi
     rw [beq_iff_eq, Prod.mk.injEq] at he
     cases hd : q.down <;> simp only [hd, Bool.false_eq_true, if_false, if_true] at he ⊢ <;> omega
 · have h' : (lettersS b).isEmpty = false := by rw [Bool.eq_false_iff]; intro e; exact h (List.isEmpty_iff.1 e)
   rw [if_neg h, h', if_neg (by decide), fresh_new hb hon, formed_len hb hon hw]
theorem legal_same {b : Bd} (hb : bdB b = true) (lex : List Str) {rack : Str} (hr : rackB rack = true) (q : Pl) : legalC b lex rack q = codeI b lex rack q := by
 unfold legalC codeI
 rw [okB_validI hb]
 cases hv : validI b q
 · rfl
 · obtain ⟨hon, hw, h2, h12⟩ := validI_facts hv
   rw [placed_new hb hon, take_less hr (placedI_lett hw), touch_same hb hv]
   unfold doubleB wrongL wrongS
   rw [fresh_new hb hon, formed_len hb hon hw, words_same hb hon hw]
theorem needGo_eq (b : Bd) (row : Int) : ∀ (s out : Str) (c : Int), needGo b row out s c =
   if (List.range s.length).all (fun i => b.at_ row (c + (i : Nat)) == 46 || lowC (b.at_ row (c + (i : Nat))) == s.getD i 0) then some (out ++ ((List.range s.length).filter fun i => b.at_ row (c + (i : Nat)) == 46).map fun i => s.getD i 0) else none
 | [], out, c => by simp [needGo]
 | x :: r, out, c => by
   rw [needGo, needGo_eq b row r, needGo_eq b row r]
   have hs : ∀ i : Nat, c + 1 + (i : Int) = c + ((i + 1 : Nat) : Int) := fun i => by omega
   simp only [List.length_cons, List.range_succ_eq_map, List.all_cons, List.all_map, List.filter_cons, List.filter_map, Function.comp_def, hs, Int.natCast_zero, Int.add_zero, List.getD_cons_zero, List.getD_cons_succ, Nat.succ_eq_add_one]
   cases h : (b.at_ row c == 46)
   · cases h2 : (lowC (b.at_ row c) == x) <;> simp [Function.comp_def]
   · simp [Function.comp_def]
theorem smallLow {c : UInt8} (h : smallB c = true) : c ≠ 0 ∧ lowC c = c := by
 unfold smallB at h
 simp only [Bool.and_eq_true, decide_eq_true_eq] at h
 refine ⟨by rintro rfl; exact absurd h.1 (by decide), ?_⟩
 unfold lowC capB
 have : (decide (65 ≤ (c.toNat : Int)) && decide ((c.toNat : Int) ≤ 90)) = false := by
   rw [Bool.and_eq_false_iff]
   right
   rw [decide_eq_false_iff_not]
   omega
 rw [this]
 rfl
theorem getD_small {word : Str} (h : word.all smallB = true) {i : Nat} (hi : i < word.length) : smallB (word.getD i 0) = true := by
 rw [List.getD_eq_getElem?_getD, List.getElem?_eq_getElem hi]
 exact List.all_eq_true.1 h _ (List.getElem_mem hi)
theorem takeOk_eq {b : Bd} {q : Pl} {word : Str} (h : word.all smallB = true) {i : Nat} (hi : i < word.length) (hz : cellQ b q i ≠ 0) : takeOk b q word i = (cellQ b q i == 46 || lowC (cellQ b q i) == word.getD i 0) := by
 obtain ⟨h1, h2⟩ := smallLow (getD_small h hi)
 unfold takeOk takeC
 cases h46 : (cellQ b q i == 46)
 · simp [hz]
 · simp only [if_true, h2, beq_self_eq_true, Bool.and_true, Bool.true_or, Bool.not_eq_true', beq_eq_false_iff_ne]
   exact h1
section
variable {b : Bd} {word : Str} {r c : Int} {d : Bool}
theorem need_let (hb : bdB b = true) (hw : word.all smallB = true) (hon : OnQ b ⟨r, c, d, word⟩) :
   needGo (flatB b ⟨r, c, d, word⟩) (flatP ⟨r, c, d, word⟩).row [] word (flatP ⟨r, c, d, word⟩).col = if okTo b ⟨r, c, d, []⟩ word word.length then some (lettI b word r c d) else none := by
 have hat : ∀ i : Nat, i < word.length → (flatB b ⟨r, c, d, word⟩).at_ (flatP ⟨r, c, d, word⟩).row ((flatP ⟨r, c, d, word⟩).col + (i : Int)) = cellQ b ⟨r, c, d, []⟩ i := fun i hi => flat_at (bdB.fit hb) ⟨r, c, d, word⟩ (hon i hi)
 have hnz : ∀ i : Nat, i < word.length → cellQ b ⟨r, c, d, []⟩ i ≠ 0 := fun i hi => by
   have h1 := hon i hi
   have h2 := bdB_nz hb _ _ h1
   rw [← cell_in h1] at h2
   exact h2
 rw [needGo_eq]
 have e1 : (List.range word.length).all (fun i => (flatB b ⟨r, c, d, word⟩).at_ (flatP ⟨r, c, d, word⟩).row ((flatP ⟨r, c, d, word⟩).col + (i : Int)) == 46 || lowC ((flatB b ⟨r, c, d, word⟩).at_ (flatP ⟨r, c, d, word⟩).row ((flatP ⟨r, c, d, word⟩).col + (i : Int))) == word.getD i 0) = okTo b ⟨r, c, d, []⟩ word word.length := by
   unfold okTo
   refine onq_all (q := ⟨r, c, d, word⟩) hon _ _ fun i hi _ => ?_
   rw [hat i hi, takeOk_eq hw hi (hnz i hi)]
 have e2 : (List.range word.length).filter (fun i : Nat => (flatB b ⟨r, c, d, word⟩).at_ (flatP ⟨r, c, d, word⟩).row ((flatP ⟨r, c, d, word⟩).col + (i : Int)) == 46) = (List.range word.length).filter fun i => cellQ b ⟨r, c, d, []⟩ i == 46 := by
   refine List.filter_congr fun i hi => ?_
   rw [hat i (List.mem_range.1 hi)]
 rw [e1, e2]
 rfl
theorem putTo_getD (b : Bd) (q : Pl) (word : Str) (n i : Nat) (h : i < n) : (putTo b q word n).getD i 0 = takeC b q word i := by
 unfold putTo
 rw [List.getD_eq_getElem?_getD, List.getElem?_map, List.getElem?_range h]
 rfl
theorem valid_put (hb : bdB b = true) (hl : longB word = true) (hon : OnQ b ⟨r, c, d, word⟩) :
   wordB (putQ b word r c d).word = true ∧ fitTo b (putQ b word r c d) (putQ b word r c d).word.length = true ∧ freeTo b (putQ b word r c d) (putQ b word r c d).word.length = !(lettI b word r c d).isEmpty := by
 have hlen : (putQ b word r c d).word.length = word.length := putTo_length b _ word word.length
 unfold longB isWordB inR at hl
 simp only [Bool.and_eq_true, decide_eq_true_eq] at hl
 rw [hlen]
 have hlett : ∀ i : Nat, i < word.length → (smallB (takeC b ⟨r, c, d, []⟩ word i) || capB (takeC b ⟨r, c, d, []⟩ word i)) = true := fun i hi => by
   unfold takeC
   cases h46 : (cellQ b ⟨r, c, d, []⟩ i == 46)
   · have h1 := bdB_at hb (hon i hi)
     have h2 : cellQ b ⟨r, c, d, []⟩ i = b.at_ ((⟨r, c, d, word⟩ : Pl).sr i) ((⟨r, c, d, word⟩ : Pl).sc i) := cell_in (hon i hi)
     rw [← h2] at h1
     unfold cellB at h1
     rw [h46] at h1
     simpa using h1
   · simp only [if_true]
     rw [getD_small hl.2.1 hi]
     rfl
 refine ⟨?_, ?_, ?_⟩
 · unfold wordB placedB inR
   rw [hlen]
   simp only [Bool.and_eq_true, decide_eq_true_eq]
   refine ⟨by omega, ?_, by omega, by omega⟩
   show (putTo b _ word word.length).all _ = true
   unfold putTo
   rw [List.all_map, List.all_eq_true]
   exact fun i hi => hlett i (List.mem_range.1 hi)
 · unfold fitTo
   rw [List.all_eq_true]
   intro i hi
   have hi := List.mem_range.1 hi
   have e : (putQ b word r c d).word.getD i 0 = takeC b ⟨r, c, d, []⟩ word i := putTo_getD b _ word _ i hi
   unfold fitQ
   rw [e]
   show (cellQ b ⟨r, c, d, []⟩ i == 46 || cellQ b ⟨r, c, d, []⟩ i == _) = true
   unfold takeC
   cases h46 : (cellQ b ⟨r, c, d, []⟩ i == 46)
   · simp
   · rfl
 · unfold freeTo lettI letTo
   show (List.range word.length).any (fun i => cellQ b ⟨r, c, d, []⟩ i == 46) = _
   generalize List.range word.length = R
   induction R with
   | nil => rfl
   | cons x R ih =>
     rw [List.any_cons, ih, List.filter_cons]
     cases h : (cellQ b ⟨r, c, d, []⟩ x == 46) <;> simp
theorem fillTo_snoc (A : Str) (x : UInt8) (N : List Nat) (L : Str) : ∀ k, (∀ j, j < k → N.getD j 0 < A.length) → fillTo (A ++ [x]) N L k = fillTo A N L k ++ [x]
 | 0, _ => rfl
 | k + 1, h => by
   rw [fillTo_succ, fillTo_succ, fillTo_snoc A x N L k fun j hj => h j (by omega), List.set_append_left]
   rw [fillTo_length]
   exact h k (by omega)
theorem fillTo_more (A : Str) (N : List Nat) (m : Nat) (L : Str) : ∀ k, k ≤ N.length → fillTo A (N ++ [m]) L k = fillTo A N L k
 | 0, _ => rfl
 | k + 1, h => by
   rw [fillTo_succ, fillTo_succ, fillTo_more A N m L k (by omega)]
   congr 1
   rw [List.getD_eq_getElem?_getD, List.getElem?_append_left (by omega), ← List.getD_eq_getElem?_getD]
theorem fillGo_snoc (f : Bd) (row : Int) (x : UInt8) : ∀ (w : Str) (c : Int) (ls : Str), fillGo f row (w ++ [x]) c ls = fillGo f row w c ls ++ [if f.at_ row (c + (w.length : Int)) == 46 then ls.getD (dotN f row w c) 0 else f.at_ row (c + (w.length : Int))]
 | [], c, ls => by
   simp only [List.nil_append, fillGo, List.length_nil, Int.natCast_zero, Int.add_zero, dotN]
   cases ls <;> cases (f.at_ row c == 46) <;> rfl
 | y :: w, c, ls => by
   have e : c + 1 + (w.length : Int) = c + ((y :: w).length : Int) := by rw [List.length_cons]; omega
   have ht : ∀ n, ls.tail.getD n 0 = ls.getD (n + 1) 0 := fun n => by cases ls <;> simp
   rw [List.cons_append, fillGo, fillGo, fillGo_snoc f row x w, fillGo_snoc f row x w, e]
   rw [dotN]
   cases h : (f.at_ row c == 46)
   · simp only [Bool.false_eq_true, if_false, List.cons_append]
   · simp only [if_true, List.cons_append, ht]
theorem dotN_snoc (f : Bd) (row : Int) (x : UInt8) : ∀ (w : Str) (c : Int), dotN f row (w ++ [x]) c = dotN f row w c + if f.at_ row (c + (w.length : Int)) == 46 then 1 else 0
 | [], c => by
   simp only [List.nil_append, dotN, List.length_nil, Int.natCast_zero, Int.add_zero]
   cases (f.at_ row c == 46) <;> rfl
 | y :: w, c => by
   have e : c + 1 + (w.length : Int) = c + ((y :: w).length : Int) := by rw [List.length_cons]; omega
   rw [List.cons_append, dotN, dotN, dotN_snoc f row x w, e]
   cases h : (f.at_ row c == 46)
   · simp only [Bool.false_eq_true, if_false]
   · simp only [if_true]; omega
theorem fill_same (hb : bdB b = true) (hon : OnQ b ⟨r, c, d, word⟩) (L : Str) : ∀ k, k ≤ word.length →
   dotN (flatB b ⟨r, c, d, word⟩) (flatP ⟨r, c, d, word⟩).row (word.take k) (flatP ⟨r, c, d, word⟩).col = ((List.range k).filter fun i => cellQ b ⟨r, c, d, []⟩ i == 46).length ∧
   fillGo (flatB b ⟨r, c, d, word⟩) (flatP ⟨r, c, d, word⟩).row (word.take k) (flatP ⟨r, c, d, word⟩).col L = fillTo (putTo b ⟨r, c, d, []⟩ word k) ((List.range k).filter fun i => cellQ b ⟨r, c, d, []⟩ i == 46) L ((List.range k).filter fun i => cellQ b ⟨r, c, d, []⟩ i == 46).length
 | 0, _ => ⟨rfl, rfl⟩
 | k + 1, hk => by
   obtain ⟨h1, h2⟩ := fill_same hb hon L k (by omega)
   have hat : (flatB b ⟨r, c, d, word⟩).at_ (flatP ⟨r, c, d, word⟩).row ((flatP ⟨r, c, d, word⟩).col + (k : Int)) = cellQ b ⟨r, c, d, []⟩ k := flat_at (bdB.fit hb) ⟨r, c, d, word⟩ (hon k hk)
   have hlen : (word.take k).length = k := by rw [List.length_take]; omega
   have hlt : ∀ j, j < ((List.range k).filter fun i => cellQ b ⟨r, c, d, []⟩ i == 46).length → ((List.range k).filter fun i => cellQ b ⟨r, c, d, []⟩ i == 46).getD j 0 < (putTo b ⟨r, c, d, []⟩ word k).length := fun j hj => by
     rw [putTo_length, List.getD_eq_getElem?_getD, List.getElem?_eq_getElem hj]
     exact List.mem_range.1 (List.mem_filter.1 (List.getElem_mem hj)).1
   have hput : putTo b ⟨r, c, d, []⟩ word (k + 1) = putTo b ⟨r, c, d, []⟩ word k ++ [takeC b ⟨r, c, d, []⟩ word k] := by simp [putTo, List.range_succ]
   rw [List.take_succ_eq_append_getElem (by omega), dotN_snoc, fillGo_snoc, hlen, hat, h1, h2, hput, List.range_succ, List.filter_append]
   cases h46 : (cellQ b ⟨r, c, d, []⟩ k == 46)
   · have e : [k].filter (fun i => cellQ b ⟨r, c, d, []⟩ i == 46) = [] := by rw [List.filter_cons, h46]; rfl
     rw [e, List.append_nil]
     refine ⟨rfl, ?_⟩
     rw [fillTo_snoc _ _ _ _ _ hlt]
     unfold takeC
     rw [h46]
     rfl
   · have e : [k].filter (fun i => cellQ b ⟨r, c, d, []⟩ i == 46) = [k] := by rw [List.filter_cons, h46]; rfl
     rw [e, List.length_append]
     refine ⟨rfl, ?_⟩
     show _ = fillTo _ _ L (_ + 1)
     rw [fillTo_succ, fillTo_more _ _ _ _ _ (Nat.le_refl _), fillTo_snoc _ _ _ _ _ hlt]
     rw [List.getD_eq_getElem?_getD (l := _ ++ [k]), List.getElem?_append_right (Nat.le_refl _), Nat.sub_self]
     show _ = (_ ++ [_]).set k _
     rw [List.set_append_right _ _ (by rw [fillTo_length, putTo_length]; exact Nat.le_refl _)]
     rw [fillTo_length, putTo_length, Nat.sub_self]
     rfl
theorem new_put (hb : bdB b = true) (hon : OnQ b ⟨r, c, d, word⟩) : newL b (putQ b word r c d) = (List.range word.length).filter fun i => cellQ b ⟨r, c, d, []⟩ i == 46 := by
 have hlen : (putQ b word r c d).word.length = word.length := putTo_length b _ word word.length
 unfold newL newTo
 rw [hlen]
 refine List.filter_congr fun i hi => ?_
 have h1 := hon i (List.mem_range.1 hi)
 have h2 := bdB_nz hb _ _ h1
 rw [← cell_in h1] at h2
 have h2 : cellQ b ⟨r, c, d, []⟩ i ≠ 0 := h2
 show (!(!(cellQ b ⟨r, c, d, []⟩ i == 0) && !(cellQ b ⟨r, c, d, []⟩ i == 46))) = _
 simp [h2]
theorem way_fill (hb : bdB b = true) (hon : OnQ b ⟨r, c, d, word⟩) (way : Str) :
   wayPl (flatB b ⟨r, c, d, word⟩) word (flatP ⟨r, c, d, word⟩).row (flatP ⟨r, c, d, word⟩).col d way = fillQ b (putQ b word r c d) way := by
 have h := (fill_same hb hon way word.length (Nat.le_refl _)).2
 rw [List.take_length] at h
 unfold fillQ wayPl
 rw [new_put hb hon, h]
 cases d <;> rfl
theorem place_same (hb : bdB b = true) (ws : List Str) {rack : Str} (hr : rackB rack = true) (hl : longB word = true) :
   tryL b ws rack (flatB b ⟨r, c, d, word⟩) word (flatP ⟨r, c, d, word⟩).row (flatP ⟨r, c, d, word⟩).col d = wordI b ws rack r c d word := by
 have hf := bdB.fit hb
 have hn := bdB_nz hb
 have hl' := hl
 unfold longB isWordB inR at hl'
 simp only [Bool.and_eq_true, decide_eq_true_eq] at hl'
 have hlen : (putQ b word r c d).word.length = word.length := putTo_length b _ word word.length
 have k0 : (flatB b ⟨r, c, d, word⟩).inB (flatP ⟨r, c, d, word⟩).row (flatP ⟨r, c, d, word⟩).col = b.inB r c := by
   have := flat_rowB (b := b) ⟨r, c, d, word⟩ 0
   rw [Int.add_zero] at this
   rw [this]
   unfold Pl.sr Pl.sc
   cases d <;> simp
 have k1 : (flatB b ⟨r, c, d, word⟩).inB (flatP ⟨r, c, d, word⟩).row ((flatP ⟨r, c, d, word⟩).col + word.length - 1) = b.inB ((⟨r, c, d, word⟩ : Pl).sr ((word.length : Int) - 1)) ((⟨r, c, d, word⟩ : Pl).sc ((word.length : Int) - 1)) := by
   rw [← flat_rowB, Int.add_sub_assoc]
 have k2 : (flatB b ⟨r, c, d, word⟩).full (flatP ⟨r, c, d, word⟩).row ((flatP ⟨r, c, d, word⟩).col - 1) = b.let_ ((⟨r, c, d, word⟩ : Pl).sr (-1)) ((⟨r, c, d, word⟩ : Pl).sc (-1)) := flat_full hf hn ⟨r, c, d, word⟩ (-1)
 have k3 : (flatB b ⟨r, c, d, word⟩).full (flatP ⟨r, c, d, word⟩).row ((flatP ⟨r, c, d, word⟩).col + word.length) = b.let_ ((⟨r, c, d, word⟩ : Pl).sr word.length) ((⟨r, c, d, word⟩ : Pl).sc word.length) := flat_full hf hn ⟨r, c, d, word⟩ _
 have hneed : needOk (flatB b ⟨r, c, d, word⟩) word (flatP ⟨r, c, d, word⟩).row (flatP ⟨r, c, d, word⟩).col = (b.inB r c && (b.inB ((⟨r, c, d, word⟩ : Pl).sr ((word.length : Int) - 1)) ((⟨r, c, d, word⟩ : Pl).sc ((word.length : Int) - 1)) && (!b.let_ ((⟨r, c, d, word⟩ : Pl).sr (-1)) ((⟨r, c, d, word⟩ : Pl).sc (-1)) && !b.let_ ((⟨r, c, d, word⟩ : Pl).sr word.length) ((⟨r, c, d, word⟩ : Pl).sc word.length)))) := by
   unfold needOk
   rw [k0, k1, k2, k3, show decide (2 ≤ word.length) = true from by simpa using hl'.1, Bool.true_and]
 have hval : validI b (putQ b word r c d) = (wordB (putQ b word r c d).word && needOk (flatB b ⟨r, c, d, word⟩) word (flatP ⟨r, c, d, word⟩).row (flatP ⟨r, c, d, word⟩).col && (fitTo b (putQ b word r c d) (putQ b word r c d).word.length && freeTo b (putQ b word r c d) (putQ b word r c d).word.length)) := by
   rw [hneed]
   unfold validI
   rw [hlen]
   show (wordB _ && b.inB r c && b.inB ((⟨r, c, d, word⟩ : Pl).sr ((word.length : Int) - 1)) ((⟨r, c, d, word⟩ : Pl).sc ((word.length : Int) - 1)) && !b.let_ ((⟨r, c, d, word⟩ : Pl).sr (-1)) ((⟨r, c, d, word⟩ : Pl).sc (-1)) && !b.let_ ((⟨r, c, d, word⟩ : Pl).sr word.length) ((⟨r, c, d, word⟩ : Pl).sc word.length) && _ && _) = _
   simp only [Bool.and_assoc]
 unfold tryL wordI goodI needS
 rw [hval]
 cases hK : needOk (flatB b ⟨r, c, d, word⟩) word (flatP ⟨r, c, d, word⟩).row (flatP ⟨r, c, d, word⟩).col
 · simp
 · rw [hneed] at hK
   simp only [Bool.and_eq_true] at hK
   have hon : OnQ b ⟨r, c, d, word⟩ := onQ_of hK.1 hK.2.1
   rw [if_pos rfl, need_let hb hl'.2.1 hon]
   unfold standB
   rw [hl, hK.1]
   cases hok : okTo b ⟨r, c, d, []⟩ word word.length
   · simp
   · obtain ⟨v1, v2, v3⟩ := valid_put hb hl hon
     rw [v1, v2, v3, ← canB_canMake (rackB_asc hr).1 (show (lettI b word r c d).all smallB = true from ?_)]
     · simp only [if_true, Bool.true_and]
       by_cases he : lettI b word r c d = []
       · rw [he]; rfl
       · have he' : (lettI b word r c d).isEmpty = false := by rw [Bool.eq_false_iff]; intro e; exact he (List.isEmpty_iff.1 e)
         rw [if_neg he, he']
         cases hc : canB rack (lettI b word r c d)
         · rfl
         · simp only [if_true, Bool.not_false, Bool.true_and]
           have hsm : (lettI b word r c d).all smallB = true := ?_
           · unfold wayI waysI
             rw [← canB_canMake (rackB_asc hr).1 hsm, hc, if_pos rfl, ← waysF_waysR _ _ _ (Inv.counts (rackB_asc hr).1) hsm]
             have e1 : wayPl (flatB b ⟨r, c, d, word⟩) word (flatP ⟨r, c, d, word⟩).row (flatP ⟨r, c, d, word⟩).col d = fillQ b (putQ b word r c d) := funext fun way => way_fill hb hon way
             have e2 : (fun p => decide (legalC b ws rack p = 0)) = fun q => codeI b ws rack q == 0 := funext fun p => by rw [legal_same hb ws hr]; rfl
             rw [e1, e2]
           · unfold lettI letTo
             rw [List.all_map, List.all_eq_true]
             exact fun i hi => getD_small hl'.2.1 (List.mem_range.1 (List.mem_filter.1 hi).1)
     · unfold lettI letTo
       rw [List.all_map, List.all_eq_true]
       exact fun i hi => getD_small hl'.2.1 (List.mem_range.1 (List.mem_filter.1 hi).1)
end
section
variable {α β γ : Type}
theorem flatMap_perm (l : List α) (f g : α → List γ) (h : ∀ a ∈ l, (f a).Perm (g a)) : (l.flatMap f).Perm (l.flatMap g) := by
 induction l with
 | nil => exact List.Perm.refl _
 | cons a l ih =>
   rw [List.flatMap_cons, List.flatMap_cons]
   exact (h a (List.mem_cons_self ..)).append (ih fun x hx => h x (List.mem_cons_of_mem _ hx))
theorem flatMap_app (l : List α) (f g : α → List γ) : (l.flatMap fun a => f a ++ g a).Perm (l.flatMap f ++ l.flatMap g) := by
 induction l with
 | nil => exact List.Perm.refl _
 | cons a l ih =>
   rw [List.flatMap_cons, List.flatMap_cons, List.flatMap_cons]
   refine (List.Perm.append_left _ ih).trans ?_
   rw [List.append_assoc, List.append_assoc]
   refine List.Perm.append_left _ ?_
   rw [← List.append_assoc, ← List.append_assoc]
   exact List.Perm.append_right _ List.perm_append_comm
theorem flatMap_swap (l : List α) (m : List β) (f : α → β → List γ) : (l.flatMap fun a => m.flatMap fun b => f a b).Perm (m.flatMap fun b => l.flatMap fun a => f a b) := by
 induction l with
 | nil =>
   have : (m.flatMap fun b => ([] : List α).flatMap fun a => f a b) = [] := by simp
   rw [this]
   exact List.Perm.refl _
 | cons a l ih =>
   rw [List.flatMap_cons]
   refine (List.Perm.append_left _ ih).trans ?_
   exact (flatMap_app m (fun b => f a b) fun b => l.flatMap fun a => f a b).symm
theorem flatMap_getD (d : α) : ∀ (l : List α) (f : α → List γ), ((List.range l.length).flatMap fun i => f (l.getD i d)) = l.flatMap f
 | [], _ => rfl
 | x :: l, f => by
   rw [List.length_cons, List.range_succ_eq_map, List.flatMap_cons, List.flatMap_cons, List.flatMap_map]
   congr 1
   exact flatMap_getD d l f
theorem range_two (n : Nat) (h : Nat → Nat → List γ) : ∀ m, ((List.range (m * n)).flatMap fun k => h (k / n) (k % n)) = (List.range m).flatMap fun r => (List.range n).flatMap fun c => h r c
 | 0 => by simp
 | m + 1 => by
   rw [Nat.add_mul, Nat.one_mul, List.range_add, List.flatMap_append, range_two n h m, List.range_succ, List.flatMap_append, List.flatMap_map, List.flatMap_cons, List.flatMap_nil, List.append_nil]
   congr 1
   rw [List.flatMap_def, List.flatMap_def]
   congr 1
   refine List.map_congr_left fun c hc => ?_
   have hc := List.mem_range.1 hc
   rw [Nat.mul_comm m n, Nat.mul_add_mod, Nat.mod_eq_of_lt hc, Nat.mul_add_div (by omega), Nat.div_eq_of_lt hc, Nat.add_zero]
end
def Rel (ps t : List Pl) : Prop := ps = t ∨ (400 < ps.length ∧ 400 < t.length)
theorem Rel.iff {ps t : List Pl} (h : Rel ps t) : 400 < ps.length ↔ 400 < t.length := by
 rcases h with rfl | ⟨h1, h2⟩
 · exact Iff.rfl
 · exact ⟨fun _ => h2, fun _ => h1⟩
theorem Rel.eq {ps t : List Pl} (h : Rel ps t) (hn : ¬ 400 < ps.length) : ps = t := h.resolve_right fun e => hn e.1
section
variable {b : Bd} {ws : List Str} {rack : Str}
theorem Rel.try_ {ps t : List Pl} (h : Rel ps t) (f : Bd) (word : Str) (row col : Int) (down : Bool) : Rel (tryF b ws rack f word row col down ps) (t ++ tryL b ws rack f word row col down) := by
 unfold tryF
 by_cases hl : 400 < ps.length
 · rw [if_pos hl]
   exact .inr ⟨hl, by have := h.iff.1 hl; rw [List.length_append]; omega⟩
 · rw [if_neg hl, h.eq hl]
   exact .inl rfl
def bothT (b : Bd) (ws : List Str) (rack word : Str) (r c : Nat) : List Pl := tryL b ws rack b word r c false ++ tryL b ws rack b.tr word r c true
theorem Rel.place {ps t : List Pl} (h : Rel ps t) (word : Str) (r c : Nat) : Rel (placeF b ws rack word r c ps) (t ++ bothT b ws rack word r c) := by
 unfold bothT
 rw [← List.append_assoc]
 exact (h.try_ _ _ _ _ _).try_ _ _ _ _ _
theorem Rel.col {ps t : List Pl} (h : Rel ps t) (word : Str) (r : Nat) : ∀ k, Rel (colF b ws rack word r k ps) (t ++ (List.range k).flatMap fun c => bothT b ws rack word r c)
 | 0 => by simpa [colF] using h
 | k + 1 => by
   have := (Rel.col h word r k).place (b := b) (ws := ws) (rack := rack) word r k
   rw [List.range_succ, List.flatMap_append, List.flatMap_cons, List.flatMap_nil, List.append_nil, ← List.append_assoc]
   exact this
theorem Rel.row {ps t : List Pl} (h : Rel ps t) (word : Str) (n : Nat) : ∀ k, Rel (rowF b ws rack word n k ps) (t ++ (List.range k).flatMap fun r => (List.range n).flatMap fun c => bothT b ws rack word r c)
 | 0 => by simpa [rowF] using h
 | k + 1 => by
   have := (Rel.row h word n k).col (b := b) (ws := ws) (rack := rack) word k n
   rw [List.range_succ, List.flatMap_append, List.flatMap_cons, List.flatMap_nil, List.append_nil, ← List.append_assoc]
   exact this
theorem Rel.word {ps t : List Pl} (h : Rel ps t) (n : Nat) : ∀ k, Rel (wordF b ws rack n k ps) (t ++ (List.range k).flatMap fun i => (List.range n).flatMap fun r => (List.range n).flatMap fun c => bothT b ws rack (ws.getD i []) r c)
 | 0 => by simpa [wordF] using h
 | k + 1 => by
   have := (Rel.word h n k).row (b := b) (ws := ws) (rack := rack) (ws.getD k []) n n
   rw [List.range_succ, List.flatMap_append, List.flatMap_cons, List.flatMap_nil, List.append_nil, ← List.append_assoc]
   exact this
def totalL (b : Bd) (ws : List Str) (rack : Str) : List Pl := ws.flatMap fun word => (List.range b.size.toNat).flatMap fun r => (List.range b.size.toNat).flatMap fun c => bothT b ws rack word r c
theorem found_total (b : Bd) (ws : List Str) (rack : Str) : Rel (foundL b ws rack) (totalL b ws rack) := by
 have := Rel.word (b := b) (ws := ws) (rack := rack) (ps := []) (t := []) (.inl rfl) b.size.toNat ws.length
 rw [List.nil_append, flatMap_getD [] ws fun word => (List.range b.size.toNat).flatMap fun r => (List.range b.size.toNat).flatMap fun c => bothT b ws rack word r c] at this
 exact this
theorem both_word (hb : bdB b = true) (hr : rackB rack = true) {word : Str} (hl : longB word = true) (r c : Nat) : bothT b ws rack word r c = wordI b ws rack r c false word ++ wordI b ws rack c r true word := by
 unfold bothT
 rw [← place_same (r := (r : Int)) (c := (c : Int)) (d := false) hb ws hr hl, ← place_same (r := (c : Int)) (c := (r : Int)) (d := true) hb ws hr hl]
 rfl
theorem lexB_long {ws : List Str} (h : lexB ws = true) : ∀ w ∈ ws, longB w = true := by
 unfold lexB at h
 rw [Bool.and_eq_true] at h
 have key : ∀ (l : List Str) (o : Option Str), lexFrom o l = true → ∀ w ∈ l, longB w = true := by
   intro l
   induction l with
   | nil => intro _ _ w hw; cases hw
   | cons a l ih =>
     intro o ho w hw
     cases o
     · rw [lexFrom, Bool.and_eq_true] at ho
       rcases List.mem_cons.1 hw with e | hw
       · subst e; exact ho.1
       · exact ih _ ho.2 w hw
     · rw [lexFrom, Bool.and_eq_true, Bool.and_eq_true] at ho
       rcases List.mem_cons.1 hw with e | hw
       · subst e; exact ho.1.1
       · exact ih _ ho.2 w hw
 exact key ws none h.1
theorem total_try (h : argsB b ws rack = true) : (totalL b ws rack).Perm (tryI b ws rack) := by
 unfold argsB at h
 simp only [Bool.and_eq_true] at h
 obtain ⟨hl, hb, hr⟩ := h
 have hlong := lexB_long hl
 have h5 := (bdB.fit hb).lo
 obtain ⟨n, hn⟩ : ∃ n : Nat, b.size = (n : Int) := ⟨b.size.toNat, by omega⟩
 have n5 : 5 ≤ n := by omega
 have hnn : ((n * n : Nat) : Int) = (n : Int) * (n : Int) := Int.natCast_mul n n
 have e2 : (2 * b.size * b.size).toNat = n * n + n * n := by
   rw [hn, Int.mul_assoc, ← hnn]; omega
 have ef : ∀ k, k < n * n → placeI b ws rack k ws = ws.flatMap (wordI b ws rack ((k / n : Nat) : Int) ((k % n : Nat) : Int) false) := fun k hk => by
   unfold placeI rowI colI downI
   rw [hn, ← hnn, Int.emod_eq_of_lt (by omega) (by omega), decide_eq_false (by omega), Int.natCast_ediv, Int.natCast_emod]
 have et : ∀ k, k < n * n → placeI b ws rack (n * n + k) ws = ws.flatMap (wordI b ws rack ((k / n : Nat) : Int) ((k % n : Nat) : Int) true) := fun k hk => by
   unfold placeI rowI colI downI
   rw [hn, ← hnn, decide_eq_true (by omega), Int.natCast_add, Int.add_emod_left, Int.emod_eq_of_lt (by omega) (by omega), Int.natCast_ediv, Int.natCast_emod]
 have hA : tryI b ws rack = ((List.range n).flatMap fun r => (List.range n).flatMap fun c => ws.flatMap (wordI b ws rack (r : Nat) (c : Nat) false)) ++ ((List.range n).flatMap fun r => (List.range n).flatMap fun c => ws.flatMap (wordI b ws rack (r : Nat) (c : Nat) true)) := by
   unfold tryI allI
   rw [e2, List.range_add, List.flatMap_append, List.flatMap_map]
   congr 1
   · rw [← range_two n (fun r c => ws.flatMap (wordI b ws rack (r : Nat) (c : Nat) false)) n, List.flatMap_def, List.flatMap_def]
     congr 1
     exact List.map_congr_left fun k hk => ef k (List.mem_range.1 hk)
   · rw [← range_two n (fun r c => ws.flatMap (wordI b ws rack (r : Nat) (c : Nat) true)) n, List.flatMap_def, List.flatMap_def]
     congr 1
     exact List.map_congr_left fun k hk => et k (List.mem_range.1 hk)
 rw [hA]
 unfold totalL
 rw [hn, Int.toNat_natCast]
 have s1 : (ws.flatMap fun word => (List.range n).flatMap fun r => (List.range n).flatMap fun c => bothT b ws rack word r c).Perm (ws.flatMap fun word => (List.range n).flatMap fun r => (List.range n).flatMap fun c => wordI b ws rack (r : Nat) (c : Nat) false word ++ wordI b ws rack (c : Nat) (r : Nat) true word) :=
   flatMap_perm _ _ _ fun w hw => flatMap_perm _ _ _ fun r _ => flatMap_perm _ _ _ fun c _ => by rw [both_word hb hr (hlong w hw)]
 refine s1.trans ?_
 refine (flatMap_swap ws (List.range n) _).trans ?_
 refine (flatMap_perm _ _ _ fun r _ => (flatMap_swap ws (List.range n) _).trans (flatMap_perm _ _ _ fun c _ => flatMap_app ws _ _)).trans ?_
 refine (flatMap_perm _ _ _ fun r _ => flatMap_app (List.range n) _ _).trans ?_
 refine (flatMap_app (List.range n) _ _).trans ?_
 exact List.Perm.append_left _ (flatMap_swap (List.range n) (List.range n) fun r c => ws.flatMap (wordI b ws rack (c : Nat) (r : Nat) true))
theorem found_many (h : argsB b ws rack = true) : 400 < (foundL b ws rack).length ↔ 400 < (tryI b ws rack).length := by
 rw [(found_total b ws rack).iff, (total_try h).length_eq]
theorem found_perm (h : argsB b ws rack = true) (hn : ¬ 400 < (foundL b ws rack).length) : (foundL b ws rack).Perm (tryI b ws rack) := by
 rw [(found_total b ws rack).eq hn]
 exact total_try h
end
end Go.Proofs.YtohopceknpgcnaaGreatDoor
