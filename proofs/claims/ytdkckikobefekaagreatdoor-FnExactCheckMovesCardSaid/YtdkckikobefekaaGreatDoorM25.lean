/-
  What tryPlays finds: the plays of a word at a place, of a place, of all places (layer 16 of the impl package); Plain law: the ways to make a word, head first and as a whole; Plain law: what trying finds is the same in both packages, up to its order; Contract: tryPlays (layer 16 of the impl package); Contracts: values and scores of letters (layers 2, 11 and 13 of the impl package).
  Conditions: none; a valid lexicon, board and rack; strings of common size; the words' slice reads as a list of strings; the library's variable MaxLen reads as a number; the slices of the tile set lie in memory; a valid tile set and board.
-/
import Derived.Test.YtdkckikobefekaaGreatDoorM17
import Derived.Test.YtdkckikobefekaaGreatDoorM24
import Derived.Test.YtdkckikobefekaaGreatDoorM21
import Derived.Test.YtdkckikobefekaaGreatDoorM18
import Derived.Test.YtdkckikobefekaaGreatDoorM20
import Derived.Test.YtdkckikobefekaaGreatDoorM22
import Derived.Test.YtdkckikobefekaaGreatDoorM23
import Derived.MapKept
namespace Go.Proofs.YtdkckikobefekaaGreatDoor
open Go.RowKit RegP RegL RegV
def lettI (b : Bd) (word : Str) (r c : Int) (d : Bool) : Str := letTo b ⟨r, c, d, []⟩ word word.length
def goodI (b : Bd) (rack word : Str) (r c : Int) (d : Bool) : Bool := (standB b word r c d && validI b (putQ b word r c d)) && canMakeC (countsL rack) (lettI b word r c d)
def wayI (b : Bd) (lex : List Str) (rack word : Str) (r c : Int) (d : Bool) (ways : List Str) : List Pl := (ways.map (fillQ b (putQ b word r c d))).filter fun q => codeI b lex rack q == 0
def wordI (b : Bd) (lex : List Str) (rack : Str) (r c : Int) (d : Bool) (word : Str) : List Pl :=
 if goodI b rack word r c d then wayI b lex rack word r c d (waysI (countsL rack) (lettI b word r c d)) else []
def rowI (b : Bd) (k : Nat) : Int := ((k : Int) % (b.size * b.size)) / b.size
def colI (b : Bd) (k : Nat) : Int := ((k : Int) % (b.size * b.size)) % b.size
def downI (b : Bd) (k : Nat) : Bool := decide (b.size * b.size ≤ (k : Int))
def placeI (b : Bd) (lex : List Str) (rack : Str) (k : Nat) (ws : List Str) : List Pl := ws.flatMap (wordI b lex rack (rowI b k) (colI b k) (downI b k))
def allI (b : Bd) (lex : List Str) (rack : Str) (k : Nat) : List Pl := (List.range k).flatMap fun i => placeI b lex rack i lex
def tryI (b : Bd) (lex : List Str) (rack : Str) : List Pl := allI b lex rack (2 * b.size * b.size).toNat
theorem letTo_small (b : Bd) (q : Pl) {word : Str} (h : word.all smallB = true) (k : Nat) (hk : k ≤ word.length) : (letTo b q word k).all smallB = true := by
 rw [List.all_eq_true]
 intro c hc
 obtain ⟨i, hi, rfl⟩ := List.mem_map.1 hc
 have hlt := List.mem_range.1 (List.mem_filter.1 hi).1
 have hil : i < word.length := by omega
 rw [List.getD_eq_getElem?_getD, List.getElem?_eq_getElem hil]
 exact List.all_eq_true.1 h _ (List.getElem_mem hil)
end Go.Proofs.YtdkckikobefekaaGreatDoor
namespace Go.Proofs.YtdkckikobefekaaGreatDoor
theorem waysR_len : ∀ (r : Str) (C : List Int) (pre : Str), ∀ y ∈ waysR C pre r, y.length = pre.length + r.length
 | [], C, pre, y, h => by simp [waysR] at h; simp [h]
 | x :: r, C, pre, y, h => by
   rw [waysR, List.mem_append] at h
   rcases h with h | h
   · split at h
     · cases h
     · have := waysR_len r _ _ y h; simp at this ⊢; omega
   · split at h
     · cases h
     · have := waysR_len r _ _ y h; simp at this ⊢; omega
theorem waysI_len (C : List Int) (word : Str) : ∀ y ∈ waysI C word, y.length = word.length := fun y h => by
 unfold waysI at h
 split at h
 · have := waysR_len word C [] y h; simpa using this
 · cases h
theorem waysR_lett : ∀ (r : Str) (C : List Int) (pre : Str), lettB pre = true → r.all smallB = true → ∀ y ∈ waysR C pre r, lettB y = true
 | [], C, pre, hp, _, y, h => by simp [waysR] at h; rw [h]; exact hp
 | x :: r, C, pre, hp, hr, y, h => by
   rw [List.all_cons, Bool.and_eq_true] at hr
   have hu : lettB (pre ++ [upC x]) = true := by
     unfold lettB at hp ⊢
     rw [List.all_append, hp, Bool.true_and]
     have h2 := hr.1
     unfold smallB at h2
     have h3 : (upC x).toNat = x.toNat - 32 := by
       unfold upC
       simp only [Bool.and_eq_true, decide_eq_true_eq] at h2
       rw [UInt8.toNat_sub]
       have : (32 : UInt8).toNat = 32 := rfl
       omega
     simp only [Bool.and_eq_true, decide_eq_true_eq] at h2
     simp only [List.all_cons, List.all_nil, Bool.and_true, Bool.or_eq_true]
     right
     unfold capB
     simp only [Bool.and_eq_true, decide_eq_true_eq]
     omega
   have hs : lettB (pre ++ [x]) = true := by
     unfold lettB at hp ⊢
     rw [List.all_append, hp]
     simp [hr.1]
   rw [waysR, List.mem_append] at h
   rcases h with h | h
   · split at h
     · cases h
     · exact waysR_lett r _ _ hu hr.2 y h
   · split at h
     · cases h
     · exact waysR_lett r _ _ hs hr.2 y h
theorem waysI_ascii (C : List Int) {word : Str} (hw : word.all smallB = true) : ∀ y ∈ waysI C word, asciiB y = true := fun y h => by
 unfold waysI at h
 split at h
 · exact lettB_ascii (waysR_lett word C [] rfl hw y h)
 · cases h
theorem fillTo_ascii {word : Str} (hw : asciiB word = true) (N : List Nat) {L : Str} (hL : asciiB L = true) : ∀ k, asciiB (fillTo word N L k) = true
 | 0 => hw
 | k + 1 => by
   rw [fillTo_succ]
   refine List.all_eq_true.2 fun c hc => ?_
   rcases List.mem_or_eq_of_mem_set hc with h | h
   · exact List.all_eq_true.1 (fillTo_ascii hw N hL k) c h
   · subst h; simpa using asciiB_getD hL k
theorem letTo_new (b : Bd) (word : Str) (r c : Int) (d : Bool) (hs : standB b word r c d = true) : newL b (putQ b word r c d) = (List.range word.length).filter (fun i => cellQ b ⟨r, c, d, []⟩ i == 46) := by
 unfold standB at hs
 simp only [Bool.and_eq_true] at hs
 have hok := hs.2
 have hl : (putQ b word r c d).word.length = word.length := putTo_length b _ word word.length
 show (List.range _).filter _ = _
 rw [hl]
 refine List.filter_congr fun i hi => ?_
 have h1 : takeOk b ⟨r, c, d, []⟩ word i = true := List.all_eq_true.1 hok i hi
 have hz : cellQ b ⟨r, c, d, []⟩ i = b.cell ((putQ b word r c d).sr i) ((putQ b word r c d).sc i) := rfl
 unfold takeOk takeC at h1
 unfold Bd.let_
 rw [← hz]
 cases h46 : (cellQ b ⟨r, c, d, []⟩ i == 46)
 · rw [h46] at h1
   simp only [Bool.false_eq_true, if_false, Bool.and_eq_true, Bool.not_eq_true'] at h1
   rw [h1.1]; rfl
 · simp
theorem letTo_newl (b : Bd) (word : Str) (r c : Int) (d : Bool) (hs : standB b word r c d = true) : (newL b (putQ b word r c d)).length = (lettI b word r c d).length := by
 rw [letTo_new b word r c d hs, lettI, letTo, List.length_map]
set_option linter.unusedVariables false
theorem waysR_pre' : ∀ (r : Str) (C : List Int) (pre : Str), waysR C pre r = (waysR C [] r).map (pre ++ ·)
 | [], C, pre => by simp [waysR]
 | x :: r, C, pre => by
   rw [waysR, waysR, waysR_pre' r _ (pre ++ [upC x]), waysR_pre' r _ (pre ++ [x]), waysR_pre' r _ ([] ++ [upC x]), waysR_pre' r _ ([] ++ [x])]
   rw [List.map_append]
   congr 1
   · split
     · rfl
     · simp
   · split
     · rfl
     · simp
theorem waysF_waysR : ∀ (r : Str) (C : List Int) (p : Str), Inv C p → r.all smallB = true → waysF p r = waysR C [] r
 | [], _, _, _, _ => rfl
 | x :: r, C, p, h, hs => by
   rw [List.all_cons, Bool.and_eq_true] at hs
   have hx : tileB x = true := by unfold tileB; rw [hs.1, Bool.or_true]
   have key : ∀ (c d : UInt8), tileB c = true → (if takeB p [c] = true then (waysF (takeS p [c]) r).map (d :: ·) else []) = (if C.getD (tileK c) 0 = 0 then [] else waysR (C.set (tileK c) (C.getD (tileK c) 0 - 1)) ([] ++ [d]) r) := by
     intro c d hc
     rw [takeB_one, takeS_one, h.cnt c hc]
     by_cases hm : c ∈ p
     · have hpos : 0 < p.count c := List.count_pos_iff.2 hm
       rw [if_pos (by simpa using hm), if_neg (by omega)]
       rw [← h.cnt c hc, waysR_pre', waysF_waysR r _ _ (h.take hc hm) hs.2]
       rfl
     · have hz : p.count c = 0 := List.count_eq_zero.2 hm
       rw [if_neg (by simpa using hm), if_pos (by omega)]
   rw [waysF, waysR]
   exact congr (congrArg _ (key 63 (upC x) (by decide))) (key x x hx)
theorem canC_need : ∀ (r : Str) (C : List Int) (bl : Int) (p : Str), C.length = 27 → (∀ x, smallB x = true → (p.count x : Int) = max (C.getD (tileK x) 0) 0) → r.all smallB = true → canC C bl r = decide ((needF p r : Int) ≤ bl)
 | [], C, bl, p, _, _, _ => by rw [Bool.eq_iff_iff, decide_eq_true_iff]; show decide (0 ≤ bl) = true ↔ _; rw [decide_eq_true_iff]; simp [needF]
 | x :: r, C, bl, p, hl, h, hs => by
   rw [List.all_cons, Bool.and_eq_true] at hs
   have hx : tileB x = true := by unfold tileB; rw [hs.1, Bool.or_true]
   have hlt : tileK x < C.length := by rw [hl]; exact tileK_lt' hx
   have hcx := h x hs.1
   rw [canC, needF, takeB_one, takeS_one]
   by_cases hm : x ∈ p
   · have hpos : 0 < p.count x := List.count_pos_iff.2 hm
     rw [if_neg (by omega), if_pos (by simpa using hm)]
     refine canC_need r _ bl _ (by rw [List.length_set]; exact hl) (fun y hy => ?_) hs.2
     have hyt : tileB y = true := by unfold tileB; rw [hy, Bool.or_true]
     by_cases he : tileK x = tileK y
     · obtain rfl := tileK_inj hx hyt he
       rw [getD_set_eq _ hlt, List.count_erase_self]
       omega
     · rw [getD_set_ne' _ he, List.count_erase_of_ne (fun e => he (by rw [e]))]
       exact h y hy
   · have hz : p.count x = 0 := List.count_eq_zero.2 hm
     rw [if_pos (by omega), if_neg (by simpa using hm)]
     rw [canC_need r _ (bl - 1) p (by rw [List.length_set]; exact hl) (fun y hy => ?_) hs.2]
     · rw [Bool.eq_iff_iff, decide_eq_true_eq, decide_eq_true_eq]; omega
     · have hyt : tileB y = true := by unfold tileB; rw [hy, Bool.or_true]
       by_cases he : tileK x = tileK y
       · obtain rfl := tileK_inj hx hyt he
         rw [getD_set_eq _ hlt]
         omega
       · rw [getD_set_ne' _ he]
         exact h y hy
theorem canB_canMake {p word : Str} (hp : p.all tileB = true) (hw : word.all smallB = true) : canB p word = canMakeC (countsL p) word := by
 have h := Inv.counts hp
 have h0 := h.cnt 63 (by decide)
 rw [tileK_63] at h0
 unfold canB canMakeC blanksN
 rw [canC_need word _ _ p h.len (fun x hx => ?_) hw, h0]
 · rw [Bool.eq_iff_iff, decide_eq_true_eq, decide_eq_true_eq]; omega
 · rw [h.cnt x (by unfold tileB; rw [hx, Bool.or_true])]
   omega
theorem needGo_eq (b : Bd) (row : Int) : ∀ (s out : Str) (c : Int), needGo b row out s c =
   if (List.range s.length).all (fun i => b.at_ row (c + (i : Nat)) == 46 || lowC (b.at_ row (c + (i : Nat))) == s.getD i 0) then some (out ++ ((List.range s.length).filter fun i => b.at_ row (c + (i : Nat)) == 46).map fun i => s.getD i 0) else none
 | [], out, c => by simp [needGo]
 | x :: r, out, c => by
   rw [needGo, needGo_eq b row r, needGo_eq b row r]
   have hs : ∀ i : Nat, c + 1 + (i : Int) = c + ((i + 1 : Nat) : Int) := fun i => by omega
   simp only [List.length_cons, List.range_succ_eq_map, List.all_cons, List.all_map, List.filter_cons, List.filter_map, Function.comp_def, hs, Int.natCast_zero, Int.add_zero, List.getD_cons_zero, List.getD_cons_succ, Nat.succ_eq_add_one]
   cases h : (b.at_ row c == 46)
   · cases h2 : (lowC (b.at_ row c) == x) <;> simp [Function.comp_def]
   · simp [Function.comp_def]
theorem smallLow {c : UInt8} (h : smallB c = true) : c ≠ 0 ∧ lowC c = c := by
 unfold smallB at h
 simp only [Bool.and_eq_true, decide_eq_true_eq] at h
 refine ⟨by rintro rfl; exact absurd h.1 (by decide), ?_⟩
 unfold lowC capB
 have : (decide (65 ≤ (c.toNat : Int)) && decide ((c.toNat : Int) ≤ 90)) = false := by
   rw [Bool.and_eq_false_iff]
   right
   rw [decide_eq_false_iff_not]
   omega
 rw [this]
 rfl
theorem getD_small {word : Str} (h : word.all smallB = true) {i : Nat} (hi : i < word.length) : smallB (word.getD i 0) = true := by
 rw [List.getD_eq_getElem?_getD, List.getElem?_eq_getElem hi]
 exact List.all_eq_true.1 h _ (List.getElem_mem hi)
theorem takeOk_eq {b : Bd} {q : Pl} {word : Str} (h : word.all smallB = true) {i : Nat} (hi : i < word.length) (hz : cellQ b q i ≠ 0) : takeOk b q word i = (cellQ b q i == 46 || lowC (cellQ b q i) == word.getD i 0) := by
 obtain ⟨h1, h2⟩ := smallLow (getD_small h hi)
 unfold takeOk takeC
 cases h46 : (cellQ b q i == 46)
 · simp [hz]
 · simp only [if_true, h2, beq_self_eq_true, Bool.and_true, Bool.true_or, Bool.not_eq_true', beq_eq_false_iff_ne]
   exact h1
section
variable {b : Bd} {word : Str} {r c : Int} {d : Bool}
theorem need_let (hb : bdB b = true) (hw : word.all smallB = true) (hon : OnQ b ⟨r, c, d, word⟩) :
   needGo (flatB b ⟨r, c, d, word⟩) (flatP ⟨r, c, d, word⟩).row [] word (flatP ⟨r, c, d, word⟩).col = if okTo b ⟨r, c, d, []⟩ word word.length then some (lettI b word r c d) else none := by
 have hat : ∀ i : Nat, i < word.length → (flatB b ⟨r, c, d, word⟩).at_ (flatP ⟨r, c, d, word⟩).row ((flatP ⟨r, c, d, word⟩).col + (i : Int)) = cellQ b ⟨r, c, d, []⟩ i := fun i hi => flat_at (bdB.fit hb) ⟨r, c, d, word⟩ (hon i hi)
 have hnz : ∀ i : Nat, i < word.length → cellQ b ⟨r, c, d, []⟩ i ≠ 0 := fun i hi => by
   have h1 := hon i hi
   have h2 := bdB_nz hb _ _ h1
   rw [← cell_in h1] at h2
   exact h2
 rw [needGo_eq]
 have e1 : (List.range word.length).all (fun i => (flatB b ⟨r, c, d, word⟩).at_ (flatP ⟨r, c, d, word⟩).row ((flatP ⟨r, c, d, word⟩).col + (i : Int)) == 46 || lowC ((flatB b ⟨r, c, d, word⟩).at_ (flatP ⟨r, c, d, word⟩).row ((flatP ⟨r, c, d, word⟩).col + (i : Int))) == word.getD i 0) = okTo b ⟨r, c, d, []⟩ word word.length := by
   unfold okTo
   refine onq_all (q := ⟨r, c, d, word⟩) hon _ _ fun i hi _ => ?_
   rw [hat i hi, takeOk_eq hw hi (hnz i hi)]
 have e2 : (List.range word.length).filter (fun i : Nat => (flatB b ⟨r, c, d, word⟩).at_ (flatP ⟨r, c, d, word⟩).row ((flatP ⟨r, c, d, word⟩).col + (i : Int)) == 46) = (List.range word.length).filter fun i => cellQ b ⟨r, c, d, []⟩ i == 46 := by
   refine List.filter_congr fun i hi => ?_
   rw [hat i (List.mem_range.1 hi)]
 rw [e1, e2]
 rfl
theorem putTo_getD (b : Bd) (q : Pl) (word : Str) (n i : Nat) (h : i < n) : (putTo b q word n).getD i 0 = takeC b q word i := by
 unfold putTo
 rw [List.getD_eq_getElem?_getD, List.getElem?_map, List.getElem?_range h]
 rfl
theorem valid_put (hb : bdB b = true) (hl : longB word = true) (hon : OnQ b ⟨r, c, d, word⟩) :
   wordB (putQ b word r c d).word = true ∧ fitTo b (putQ b word r c d) (putQ b word r c d).word.length = true ∧ freeTo b (putQ b word r c d) (putQ b word r c d).word.length = !(lettI b word r c d).isEmpty := by
 have hlen : (putQ b word r c d).word.length = word.length := putTo_length b _ word word.length
 unfold longB isWordB inR at hl
 simp only [Bool.and_eq_true, decide_eq_true_eq] at hl
 rw [hlen]
 have hlett : ∀ i : Nat, i < word.length → (smallB (takeC b ⟨r, c, d, []⟩ word i) || capB (takeC b ⟨r, c, d, []⟩ word i)) = true := fun i hi => by
   unfold takeC
   cases h46 : (cellQ b ⟨r, c, d, []⟩ i == 46)
   · have h1 := bdB_at hb (hon i hi)
     have h2 : cellQ b ⟨r, c, d, []⟩ i = b.at_ ((⟨r, c, d, word⟩ : Pl).sr i) ((⟨r, c, d, word⟩ : Pl).sc i) := cell_in (hon i hi)
     rw [← h2] at h1
     unfold cellB at h1
     rw [h46] at h1
     simpa using h1
   · simp only [if_true]
     rw [getD_small hl.2.1 hi]
     rfl
 refine ⟨?_, ?_, ?_⟩
 · unfold wordB placedB inR
   rw [hlen]
   simp only [Bool.and_eq_true, decide_eq_true_eq]
   refine ⟨by omega, ?_, by omega, by omega⟩
   show (putTo b _ word word.length).all _ = true
   unfold putTo
   rw [List.all_map, List.all_eq_true]
   exact fun i hi => hlett i (List.mem_range.1 hi)
 · unfold fitTo
   rw [List.all_eq_true]
   intro i hi
   have hi := List.mem_range.1 hi
   have e : (putQ b word r c d).word.getD i 0 = takeC b ⟨r, c, d, []⟩ word i := putTo_getD b _ word _ i hi
   unfold fitQ
   rw [e]
   show (cellQ b ⟨r, c, d, []⟩ i == 46 || cellQ b ⟨r, c, d, []⟩ i == _) = true
   unfold takeC
   cases h46 : (cellQ b ⟨r, c, d, []⟩ i == 46)
   · simp
   · rfl
 · unfold freeTo lettI letTo
   show (List.range word.length).any (fun i => cellQ b ⟨r, c, d, []⟩ i == 46) = _
   generalize List.range word.length = R
   induction R with
   | nil => rfl
   | cons x R ih =>
     rw [List.any_cons, ih, List.filter_cons]
     cases h : (cellQ b ⟨r, c, d, []⟩ x == 46) <;> simp
theorem fillTo_snoc (A : Str) (x : UInt8) (N : List Nat) (L : Str) : ∀ k, (∀ j, j < k → N.getD j 0 < A.length) → fillTo (A ++ [x]) N L k = fillTo A N L k ++ [x]
 | 0, _ => rfl
 | k + 1, h => by
   rw [fillTo_succ, fillTo_succ, fillTo_snoc A x N L k fun j hj => h j (by omega), List.set_append_left]
   rw [fillTo_length]
   exact h k (by omega)
theorem fillTo_more (A : Str) (N : List Nat) (m : Nat) (L : Str) : ∀ k, k ≤ N.length → fillTo A (N ++ [m]) L k = fillTo A N L k
 | 0, _ => rfl
 | k + 1, h => by
   rw [fillTo_succ, fillTo_succ, fillTo_more A N m L k (by omega)]
   congr 1
   rw [List.getD_eq_getElem?_getD, List.getElem?_append_left (by omega), ← List.getD_eq_getElem?_getD]
theorem fillGo_snoc (f : Bd) (row : Int) (x : UInt8) : ∀ (w : Str) (c : Int) (ls : Str), fillGo f row (w ++ [x]) c ls = fillGo f row w c ls ++ [if f.at_ row (c + (w.length : Int)) == 46 then ls.getD (dotN f row w c) 0 else f.at_ row (c + (w.length : Int))]
 | [], c, ls => by
   simp only [List.nil_append, fillGo, List.length_nil, Int.natCast_zero, Int.add_zero, dotN]
   cases ls <;> cases (f.at_ row c == 46) <;> rfl
 | y :: w, c, ls => by
   have e : c + 1 + (w.length : Int) = c + ((y :: w).length : Int) := by rw [List.length_cons]; omega
   have ht : ∀ n, ls.tail.getD n 0 = ls.getD (n + 1) 0 := fun n => by cases ls <;> simp
   rw [List.cons_append, fillGo, fillGo, fillGo_snoc f row x w, fillGo_snoc f row x w, e]
   rw [dotN]
   cases h : (f.at_ row c == 46)
   · simp only [Bool.false_eq_true, if_false, List.cons_append]
   · simp only [if_true, List.cons_append, ht]
theorem dotN_snoc (f : Bd) (row : Int) (x : UInt8) : ∀ (w : Str) (c : Int), dotN f row (w ++ [x]) c = dotN f row w c + if f.at_ row (c + (w.length : Int)) == 46 then 1 else 0
 | [], c => by
   simp only [List.nil_append, dotN, List.length_nil, Int.natCast_zero, Int.add_zero]
   cases (f.at_ row c == 46) <;> rfl
 | y :: w, c => by
   have e : c + 1 + (w.length : Int) = c + ((y :: w).length : Int) := by rw [List.length_cons]; omega
   rw [List.cons_append, dotN, dotN, dotN_snoc f row x w, e]
   cases h : (f.at_ row c == 46)
   · simp only [Bool.false_eq_true, if_false]
   · simp only [if_true]; omega
theorem fill_same (hb : bdB b = true) (hon : OnQ b ⟨r, c, d, word⟩) (L : Str) : ∀ k, k ≤ word.length →
   dotN (flatB b ⟨r, c, d, word⟩) (flatP ⟨r, c, d, word⟩).row (word.take k) (flatP ⟨r, c, d, word⟩).col = ((List.range k).filter fun i => cellQ b ⟨r, c, d, []⟩ i == 46).length ∧
   fillGo (flatB b ⟨r, c, d, word⟩) (flatP ⟨r, c, d, word⟩).row (word.take k) (flatP ⟨r, c, d, word⟩).col L = fillTo (putTo b ⟨r, c, d, []⟩ word k) ((List.range k).filter fun i => cellQ b ⟨r, c, d, []⟩ i == 46) L ((List.range k).filter fun i => cellQ b ⟨r, c, d, []⟩ i == 46).length
 | 0, _ => ⟨rfl, rfl⟩
 | k + 1, hk => by
   obtain ⟨h1, h2⟩ := fill_same hb hon L k (by omega)
   have hat : (flatB b ⟨r, c, d, word⟩).at_ (flatP ⟨r, c, d, word⟩).row ((flatP ⟨r, c, d, word⟩).col + (k : Int)) = cellQ b ⟨r, c, d, []⟩ k := flat_at (bdB.fit hb) ⟨r, c, d, word⟩ (hon k hk)
   have hlen : (word.take k).length = k := by rw [List.length_take]; omega
   have hlt : ∀ j, j < ((List.range k).filter fun i => cellQ b ⟨r, c, d, []⟩ i == 46).length → ((List.range k).filter fun i => cellQ b ⟨r, c, d, []⟩ i == 46).getD j 0 < (putTo b ⟨r, c, d, []⟩ word k).length := fun j hj => by
     rw [putTo_length, List.getD_eq_getElem?_getD, List.getElem?_eq_getElem hj]
     exact List.mem_range.1 (List.mem_filter.1 (List.getElem_mem hj)).1
   have hput : putTo b ⟨r, c, d, []⟩ word (k + 1) = putTo b ⟨r, c, d, []⟩ word k ++ [takeC b ⟨r, c, d, []⟩ word k] := by simp [putTo, List.range_succ]
   rw [List.take_succ_eq_append_getElem (by omega), dotN_snoc, fillGo_snoc, hlen, hat, h1, h2, hput, List.range_succ, List.filter_append]
   cases h46 : (cellQ b ⟨r, c, d, []⟩ k == 46)
   · have e : [k].filter (fun i => cellQ b ⟨r, c, d, []⟩ i == 46) = [] := by rw [List.filter_cons, h46]; rfl
     rw [e, List.append_nil]
     refine ⟨rfl, ?_⟩
     rw [fillTo_snoc _ _ _ _ _ hlt]
     unfold takeC
     rw [h46]
     rfl
   · have e : [k].filter (fun i => cellQ b ⟨r, c, d, []⟩ i == 46) = [k] := by rw [List.filter_cons, h46]; rfl
     rw [e, List.length_append]
     refine ⟨rfl, ?_⟩
     show _ = fillTo _ _ L (_ + 1)
     rw [fillTo_succ, fillTo_more _ _ _ _ _ (Nat.le_refl _), fillTo_snoc _ _ _ _ _ hlt]
     rw [List.getD_eq_getElem?_getD (l := _ ++ [k]), List.getElem?_append_right (Nat.le_refl _), Nat.sub_self]
     show _ = (_ ++ [_]).set k _
     rw [List.set_append_right _ _ (by rw [fillTo_length, putTo_length]; exact Nat.le_refl _)]
     rw [fillTo_length, putTo_length, Nat.sub_self]
     rfl
theorem new_put (hb : bdB b = true) (hon : OnQ b ⟨r, c, d, word⟩) : newL b (putQ b word r c d) = (List.range word.length).filter fun i => cellQ b ⟨r, c, d, []⟩ i == 46 := by
 have hlen : (putQ b word r c d).word.length = word.length := putTo_length b _ word word.length
 unfold newL newTo
 rw [hlen]
 refine List.filter_congr fun i hi => ?_
 have h1 := hon i (List.mem_range.1 hi)
 have h2 := bdB_nz hb _ _ h1
 rw [← cell_in h1] at h2
 have h2 : cellQ b ⟨r, c, d, []⟩ i ≠ 0 := h2
 show (!(!(cellQ b ⟨r, c, d, []⟩ i == 0) && !(cellQ b ⟨r, c, d, []⟩ i == 46))) = _
 simp [h2]
theorem way_fill (hb : bdB b = true) (hon : OnQ b ⟨r, c, d, word⟩) (way : Str) :
   wayPl (flatB b ⟨r, c, d, word⟩) word (flatP ⟨r, c, d, word⟩).row (flatP ⟨r, c, d, word⟩).col d way = fillQ b (putQ b word r c d) way := by
 have h := (fill_same hb hon way word.length (Nat.le_refl _)).2
 rw [List.take_length] at h
 unfold fillQ wayPl
 rw [new_put hb hon, h]
 cases d <;> rfl
theorem place_same (hb : bdB b = true) (ws : List Str) {rack : Str} (hr : rackB rack = true) (hl : longB word = true) :
   tryL b ws rack (flatB b ⟨r, c, d, word⟩) word (flatP ⟨r, c, d, word⟩).row (flatP ⟨r, c, d, word⟩).col d = wordI b ws rack r c d word := by
 have hf := bdB.fit hb
 have hn := bdB_nz hb
 have hl' := hl
 unfold longB isWordB inR at hl'
 simp only [Bool.and_eq_true, decide_eq_true_eq] at hl'
 have hlen : (putQ b word r c d).word.length = word.length := putTo_length b _ word word.length
 have k0 : (flatB b ⟨r, c, d, word⟩).inB (flatP ⟨r, c, d, word⟩).row (flatP ⟨r, c, d, word⟩).col = b.inB r c := by
   have := flat_rowB (b := b) ⟨r, c, d, word⟩ 0
   rw [Int.add_zero] at this
   rw [this]
   unfold Pl.sr Pl.sc
   cases d <;> simp
 have k1 : (flatB b ⟨r, c, d, word⟩).inB (flatP ⟨r, c, d, word⟩).row ((flatP ⟨r, c, d, word⟩).col + word.length - 1) = b.inB ((⟨r, c, d, word⟩ : Pl).sr ((word.length : Int) - 1)) ((⟨r, c, d, word⟩ : Pl).sc ((word.length : Int) - 1)) := by
   rw [← flat_rowB, Int.add_sub_assoc]
 have k2 : (flatB b ⟨r, c, d, word⟩).full (flatP ⟨r, c, d, word⟩).row ((flatP ⟨r, c, d, word⟩).col - 1) = b.let_ ((⟨r, c, d, word⟩ : Pl).sr (-1)) ((⟨r, c, d, word⟩ : Pl).sc (-1)) := flat_full hf hn ⟨r, c, d, word⟩ (-1)
 have k3 : (flatB b ⟨r, c, d, word⟩).full (flatP ⟨r, c, d, word⟩).row ((flatP ⟨r, c, d, word⟩).col + word.length) = b.let_ ((⟨r, c, d, word⟩ : Pl).sr word.length) ((⟨r, c, d, word⟩ : Pl).sc word.length) := flat_full hf hn ⟨r, c, d, word⟩ _
 have hneed : needOk (flatB b ⟨r, c, d, word⟩) word (flatP ⟨r, c, d, word⟩).row (flatP ⟨r, c, d, word⟩).col = (b.inB r c && (b.inB ((⟨r, c, d, word⟩ : Pl).sr ((word.length : Int) - 1)) ((⟨r, c, d, word⟩ : Pl).sc ((word.length : Int) - 1)) && (!b.let_ ((⟨r, c, d, word⟩ : Pl).sr (-1)) ((⟨r, c, d, word⟩ : Pl).sc (-1)) && !b.let_ ((⟨r, c, d, word⟩ : Pl).sr word.length) ((⟨r, c, d, word⟩ : Pl).sc word.length)))) := by
   unfold needOk
   rw [k0, k1, k2, k3, show decide (2 ≤ word.length) = true from by simpa using hl'.1, Bool.true_and]
 have hval : validI b (putQ b word r c d) = (wordB (putQ b word r c d).word && needOk (flatB b ⟨r, c, d, word⟩) word (flatP ⟨r, c, d, word⟩).row (flatP ⟨r, c, d, word⟩).col && (fitTo b (putQ b word r c d) (putQ b word r c d).word.length && freeTo b (putQ b word r c d) (putQ b word r c d).word.length)) := by
   rw [hneed]
   unfold validI
   rw [hlen]
   show (wordB _ && b.inB r c && b.inB ((⟨r, c, d, word⟩ : Pl).sr ((word.length : Int) - 1)) ((⟨r, c, d, word⟩ : Pl).sc ((word.length : Int) - 1)) && !b.let_ ((⟨r, c, d, word⟩ : Pl).sr (-1)) ((⟨r, c, d, word⟩ : Pl).sc (-1)) && !b.let_ ((⟨r, c, d, word⟩ : Pl).sr word.length) ((⟨r, c, d, word⟩ : Pl).sc word.length) && _ && _) = _
   simp only [Bool.and_assoc]
 unfold tryL wordI goodI needS
 rw [hval]
 cases hK : needOk (flatB b ⟨r, c, d, word⟩) word (flatP ⟨r, c, d, word⟩).row (flatP ⟨r, c, d, word⟩).col
 · simp
 · rw [hneed] at hK
   simp only [Bool.and_eq_true] at hK
   have hon : OnQ b ⟨r, c, d, word⟩ := onQ_of hK.1 hK.2.1
   rw [if_pos rfl, need_let hb hl'.2.1 hon]
   unfold standB
   rw [hl, hK.1]
   cases hok : okTo b ⟨r, c, d, []⟩ word word.length
   · simp
   · obtain ⟨v1, v2, v3⟩ := valid_put hb hl hon
     rw [v1, v2, v3, ← canB_canMake (rackB_asc hr).1 (show (lettI b word r c d).all smallB = true from ?_)]
     · simp only [if_true, Bool.true_and]
       by_cases he : lettI b word r c d = []
       · rw [he]; rfl
       · have he' : (lettI b word r c d).isEmpty = false := by rw [Bool.eq_false_iff]; intro e; exact he (List.isEmpty_iff.1 e)
         rw [if_neg he, he']
         cases hc : canB rack (lettI b word r c d)
         · rfl
         · simp only [if_true, Bool.not_false, Bool.true_and]
           have hsm : (lettI b word r c d).all smallB = true := ?_
           · unfold wayI waysI
             rw [← canB_canMake (rackB_asc hr).1 hsm, hc, if_pos rfl, ← waysF_waysR _ _ _ (Inv.counts (rackB_asc hr).1) hsm]
             have e1 : wayPl (flatB b ⟨r, c, d, word⟩) word (flatP ⟨r, c, d, word⟩).row (flatP ⟨r, c, d, word⟩).col d = fillQ b (putQ b word r c d) := funext fun way => way_fill hb hon way
             have e2 : (fun p => decide (legalC b ws rack p = 0)) = fun q => codeI b ws rack q == 0 := funext fun p => by rw [legal_same hb ws hr]; rfl
             rw [e1, e2]
           · unfold lettI letTo
             rw [List.all_map, List.all_eq_true]
             exact fun i hi => getD_small hl'.2.1 (List.mem_range.1 (List.mem_filter.1 hi).1)
     · unfold lettI letTo
       rw [List.all_map, List.all_eq_true]
       exact fun i hi => getD_small hl'.2.1 (List.mem_range.1 (List.mem_filter.1 hi).1)
end
section
variable {α β γ : Type}
theorem flatMap_perm (l : List α) (f g : α → List γ) (h : ∀ a ∈ l, (f a).Perm (g a)) : (l.flatMap f).Perm (l.flatMap g) := by
 induction l with
 | nil => exact List.Perm.refl _
 | cons a l ih =>
   rw [List.flatMap_cons, List.flatMap_cons]
   exact (h a (List.mem_cons_self ..)).append (ih fun x hx => h x (List.mem_cons_of_mem _ hx))
theorem flatMap_app (l : List α) (f g : α → List γ) : (l.flatMap fun a => f a ++ g a).Perm (l.flatMap f ++ l.flatMap g) := by
 induction l with
 | nil => exact List.Perm.refl _
 | cons a l ih =>
   rw [List.flatMap_cons, List.flatMap_cons, List.flatMap_cons]
   refine (List.Perm.append_left _ ih).trans ?_
   rw [List.append_assoc, List.append_assoc]
   refine List.Perm.append_left _ ?_
   rw [← List.append_assoc, ← List.append_assoc]
   exact List.Perm.append_right _ List.perm_append_comm
theorem flatMap_swap (l : List α) (m : List β) (f : α → β → List γ) : (l.flatMap fun a => m.flatMap fun b => f a b).Perm (m.flatMap fun b => l.flatMap fun a => f a b) := by
 induction l with
 | nil =>
   have : (m.flatMap fun b => ([] : List α).flatMap fun a => f a b) = [] := by simp
   rw [this]
   exact List.Perm.refl _
 | cons a l ih =>
   rw [List.flatMap_cons]
   refine (List.Perm.append_left _ ih).trans ?_
   exact (flatMap_app m (fun b => f a b) fun b => l.flatMap fun a => f a b).symm
theorem flatMap_getD (d : α) : ∀ (l : List α) (f : α → List γ), ((List.range l.length).flatMap fun i => f (l.getD i d)) = l.flatMap f
 | [], _ => rfl
 | x :: l, f => by
   rw [List.length_cons, List.range_succ_eq_map, List.flatMap_cons, List.flatMap_cons, List.flatMap_map]
   congr 1
   exact flatMap_getD d l f
theorem range_two (n : Nat) (h : Nat → Nat → List γ) : ∀ m, ((List.range (m * n)).flatMap fun k => h (k / n) (k % n)) = (List.range m).flatMap fun r => (List.range n).flatMap fun c => h r c
 | 0 => by simp
 | m + 1 => by
   rw [Nat.add_mul, Nat.one_mul, List.range_add, List.flatMap_append, range_two n h m, List.range_succ, List.flatMap_append, List.flatMap_map, List.flatMap_cons, List.flatMap_nil, List.append_nil]
   congr 1
   rw [List.flatMap_def, List.flatMap_def]
   congr 1
   refine List.map_congr_left fun c hc => ?_
   have hc := List.mem_range.1 hc
   rw [Nat.mul_comm m n, Nat.mul_add_mod, Nat.mod_eq_of_lt hc, Nat.mul_add_div (by omega), Nat.div_eq_of_lt hc, Nat.add_zero]
end
def Rel (ps t : List Pl) : Prop := ps = t ∨ (400 < ps.length ∧ 400 < t.length)
theorem Rel.iff {ps t : List Pl} (h : Rel ps t) : 400 < ps.length ↔ 400 < t.length := by
 rcases h with rfl | ⟨h1, h2⟩
 · exact Iff.rfl
 · exact ⟨fun _ => h2, fun _ => h1⟩
theorem Rel.eq {ps t : List Pl} (h : Rel ps t) (hn : ¬ 400 < ps.length) : ps = t := h.resolve_right fun e => hn e.1
section
variable {b : Bd} {ws : List Str} {rack : Str}
theorem Rel.try_ {ps t : List Pl} (h : Rel ps t) (f : Bd) (word : Str) (row col : Int) (down : Bool) : Rel (tryF b ws rack f word row col down ps) (t ++ tryL b ws rack f word row col down) := by
 unfold tryF
 by_cases hl : 400 < ps.length
 · rw [if_pos hl]
   exact .inr ⟨hl, by have := h.iff.1 hl; rw [List.length_append]; omega⟩
 · rw [if_neg hl, h.eq hl]
   exact .inl rfl
def bothT (b : Bd) (ws : List Str) (rack word : Str) (r c : Nat) : List Pl := tryL b ws rack b word r c false ++ tryL b ws rack b.tr word r c true
theorem Rel.place {ps t : List Pl} (h : Rel ps t) (word : Str) (r c : Nat) : Rel (placeF b ws rack word r c ps) (t ++ bothT b ws rack word r c) := by
 unfold bothT
 rw [← List.append_assoc]
 exact (h.try_ _ _ _ _ _).try_ _ _ _ _ _
theorem Rel.col {ps t : List Pl} (h : Rel ps t) (word : Str) (r : Nat) : ∀ k, Rel (colF b ws rack word r k ps) (t ++ (List.range k).flatMap fun c => bothT b ws rack word r c)
 | 0 => by simpa [colF] using h
 | k + 1 => by
   have := (Rel.col h word r k).place (b := b) (ws := ws) (rack := rack) word r k
   rw [List.range_succ, List.flatMap_append, List.flatMap_cons, List.flatMap_nil, List.append_nil, ← List.append_assoc]
   exact this
theorem Rel.row {ps t : List Pl} (h : Rel ps t) (word : Str) (n : Nat) : ∀ k, Rel (rowF b ws rack word n k ps) (t ++ (List.range k).flatMap fun r => (List.range n).flatMap fun c => bothT b ws rack word r c)
 | 0 => by simpa [rowF] using h
 | k + 1 => by
   have := (Rel.row h word n k).col (b := b) (ws := ws) (rack := rack) word k n
   rw [List.range_succ, List.flatMap_append, List.flatMap_cons, List.flatMap_nil, List.append_nil, ← List.append_assoc]
   exact this
theorem Rel.word {ps t : List Pl} (h : Rel ps t) (n : Nat) : ∀ k, Rel (wordF b ws rack n k ps) (t ++ (List.range k).flatMap fun i => (List.range n).flatMap fun r => (List.range n).flatMap fun c => bothT b ws rack (ws.getD i []) r c)
 | 0 => by simpa [wordF] using h
 | k + 1 => by
   have := (Rel.word h n k).row (b := b) (ws := ws) (rack := rack) (ws.getD k []) n n
   rw [List.range_succ, List.flatMap_append, List.flatMap_cons, List.flatMap_nil, List.append_nil, ← List.append_assoc]
   exact this
def totalL (b : Bd) (ws : List Str) (rack : Str) : List Pl := ws.flatMap fun word => (List.range b.size.toNat).flatMap fun r => (List.range b.size.toNat).flatMap fun c => bothT b ws rack word r c
theorem found_total (b : Bd) (ws : List Str) (rack : Str) : Rel (foundL b ws rack) (totalL b ws rack) := by
 have := Rel.word (b := b) (ws := ws) (rack := rack) (ps := []) (t := []) (.inl rfl) b.size.toNat ws.length
 rw [List.nil_append, flatMap_getD [] ws fun word => (List.range b.size.toNat).flatMap fun r => (List.range b.size.toNat).flatMap fun c => bothT b ws rack word r c] at this
 exact this
theorem both_word (hb : bdB b = true) (hr : rackB rack = true) {word : Str} (hl : longB word = true) (r c : Nat) : bothT b ws rack word r c = wordI b ws rack r c false word ++ wordI b ws rack c r true word := by
 unfold bothT
 rw [← place_same (r := (r : Int)) (c := (c : Int)) (d := false) hb ws hr hl, ← place_same (r := (c : Int)) (c := (r : Int)) (d := true) hb ws hr hl]
 rfl
theorem lexB_long {ws : List Str} (h : lexB ws = true) : ∀ w ∈ ws, longB w = true := by
 unfold lexB at h
 rw [Bool.and_eq_true] at h
 have key : ∀ (l : List Str) (o : Option Str), lexFrom o l = true → ∀ w ∈ l, longB w = true := by
   intro l
   induction l with
   | nil => intro _ _ w hw; cases hw
   | cons a l ih =>
     intro o ho w hw
     cases o
     · rw [lexFrom, Bool.and_eq_true] at ho
       rcases List.mem_cons.1 hw with e | hw
       · subst e; exact ho.1
       · exact ih _ ho.2 w hw
     · rw [lexFrom, Bool.and_eq_true, Bool.and_eq_true] at ho
       rcases List.mem_cons.1 hw with e | hw
       · subst e; exact ho.1.1
       · exact ih _ ho.2 w hw
 exact key ws none h.1
theorem total_try (h : argsB b ws rack = true) : (totalL b ws rack).Perm (tryI b ws rack) := by
 unfold argsB at h
 simp only [Bool.and_eq_true] at h
 obtain ⟨hl, hb, hr⟩ := h
 have hlong := lexB_long hl
 have h5 := (bdB.fit hb).lo
 obtain ⟨n, hn⟩ : ∃ n : Nat, b.size = (n : Int) := ⟨b.size.toNat, by omega⟩
 have n5 : 5 ≤ n := by omega
 have hnn : ((n * n : Nat) : Int) = (n : Int) * (n : Int) := Int.natCast_mul n n
 have e2 : (2 * b.size * b.size).toNat = n * n + n * n := by
   rw [hn, Int.mul_assoc, ← hnn]; omega
 have ef : ∀ k, k < n * n → placeI b ws rack k ws = ws.flatMap (wordI b ws rack ((k / n : Nat) : Int) ((k % n : Nat) : Int) false) := fun k hk => by
   unfold placeI rowI colI downI
   rw [hn, ← hnn, Int.emod_eq_of_lt (by omega) (by omega), decide_eq_false (by omega), Int.natCast_ediv, Int.natCast_emod]
 have et : ∀ k, k < n * n → placeI b ws rack (n * n + k) ws = ws.flatMap (wordI b ws rack ((k / n : Nat) : Int) ((k % n : Nat) : Int) true) := fun k hk => by
   unfold placeI rowI colI downI
   rw [hn, ← hnn, decide_eq_true (by omega), Int.natCast_add, Int.add_emod_left, Int.emod_eq_of_lt (by omega) (by omega), Int.natCast_ediv, Int.natCast_emod]
 have hA : tryI b ws rack = ((List.range n).flatMap fun r => (List.range n).flatMap fun c => ws.flatMap (wordI b ws rack (r : Nat) (c : Nat) false)) ++ ((List.range n).flatMap fun r => (List.range n).flatMap fun c => ws.flatMap (wordI b ws rack (r : Nat) (c : Nat) true)) := by
   unfold tryI allI
   rw [e2, List.range_add, List.flatMap_append, List.flatMap_map]
   congr 1
   · rw [← range_two n (fun r c => ws.flatMap (wordI b ws rack (r : Nat) (c : Nat) false)) n, List.flatMap_def, List.flatMap_def]
     congr 1
     exact List.map_congr_left fun k hk => ef k (List.mem_range.1 hk)
   · rw [← range_two n (fun r c => ws.flatMap (wordI b ws rack (r : Nat) (c : Nat) true)) n, List.flatMap_def, List.flatMap_def]
     congr 1
     exact List.map_congr_left fun k hk => et k (List.mem_range.1 hk)
 rw [hA]
 unfold totalL
 rw [hn, Int.toNat_natCast]
 have s1 : (ws.flatMap fun word => (List.range n).flatMap fun r => (List.range n).flatMap fun c => bothT b ws rack word r c).Perm (ws.flatMap fun word => (List.range n).flatMap fun r => (List.range n).flatMap fun c => wordI b ws rack (r : Nat) (c : Nat) false word ++ wordI b ws rack (c : Nat) (r : Nat) true word) :=
   flatMap_perm _ _ _ fun w hw => flatMap_perm _ _ _ fun r _ => flatMap_perm _ _ _ fun c _ => by rw [both_word hb hr (hlong w hw)]
 refine s1.trans ?_
 refine (flatMap_swap ws (List.range n) _).trans ?_
 refine (flatMap_perm _ _ _ fun r _ => (flatMap_swap ws (List.range n) _).trans (flatMap_perm _ _ _ fun c _ => flatMap_app ws _ _)).trans ?_
 refine (flatMap_perm _ _ _ fun r _ => flatMap_app (List.range n) _ _).trans ?_
 refine (flatMap_app (List.range n) _ _).trans ?_
 exact List.Perm.append_left _ (flatMap_swap (List.range n) (List.range n) fun r c => ws.flatMap (wordI b ws rack (c : Nat) (r : Nat) true))
theorem found_many (h : argsB b ws rack = true) : 400 < (foundL b ws rack).length ↔ 400 < (tryI b ws rack).length := by
 rw [(found_total b ws rack).iff, (total_try h).length_eq]
theorem found_perm (h : argsB b ws rack = true) (hn : ¬ 400 < (foundL b ws rack).length) : (foundL b ws rack).Perm (tryI b ws rack) := by
 rw [(found_total b ws rack).eq hn]
 exact total_try h
end
end Go.Proofs.YtdkckikobefekaaGreatDoor
namespace Go.Proofs.YtdkckikobefekaaGreatDoor
open Go.RowKit RegP RegL RegV
set_option maxHeartbeats 1000000
theorem cellB_ascii {c : UInt8} (h : cellB c = true) : c.toNat < 128 := by
 unfold cellB smallB capB at h
 simp only [Bool.or_eq_true, beq_iff_eq, Bool.and_eq_true, decide_eq_true_eq] at h
 rcases h with (h | h) | h
 · subst h; decide
 · omega
 · omega
theorem bdB_ascii {b : Bd} (h : bdB b = true) : asciiB b.cells = true := by
 refine List.all_eq_true.2 fun c hc => ?_
 have := cellB_ascii (List.all_eq_true.1 (bdB_cells h) c hc)
 simpa using this
theorem small_ascii {s : Str} (h : s.all smallB = true) : asciiB s = true := by
 refine List.all_eq_true.2 fun c hc => ?_
 have := List.all_eq_true.1 h c hc
 unfold smallB at this
 simp only [Bool.and_eq_true, decide_eq_true_eq] at this
 simp only [decide_eq_true_eq]
 omega
theorem lexB_inc {ws : List Str} (h : lexB ws = true) : incB ws = true := by
 unfold lexB at h
 rw [lexFrom_eq] at h
 simp only [Bool.and_eq_true] at h
 exact h.1.1
theorem round_ok (A : Option Addr) (c : Nat) (lex : List Str) (b : Bd) (rack : Str) (w : World) (hm : MaxOk w) (hr : Reads w w.heap.size 1 A lex.length (lex.map sv)) (hA : Plain0 A) (hok : argsB b lex rack = true)
   (r cc : Int) (d : Bool) (h1 : -400000000000 ≤ r) (h2 : r ≤ 400000000000) (h3 : -400000000000 ≤ cc) (h4 : cc ≤ 400000000000) (word : Str) (hw : word ∈ lex) :
   RoundOk A c lex b rack (countsL rack) w r cc d word (wordI b lex rack r cc d word) := by
 unfold argsB at hok
 simp only [Bool.and_eq_true] at hok
 obtain ⟨hlx, hbd, hrk⟩ := hok
 have hf := bdB.fit hbd
 have hs : sizeB b.size = true := by
   have := hbd
   unfold bdB at this
   rw [Bool.and_eq_true] at this
   exact this.1
 have hba := bdB_ascii hbd
 obtain ⟨hws, hwl⟩ := lexB_words hlx word hw
 have hwa := small_ascii hws
 have hrt := (rackB_asc hrk).1
 have hrl := rackB_len hrk
 have hC := countsL_length rack
 have hCb : ∀ j, 0 ≤ (countsL rack).getD j 0 ∧ (countsL rack).getD j 0 ≤ 2 ^ 40 := fun j => by
   have := countsL_bd rack j
   exact ⟨this.2, by omega⟩
 have hn := fun W => needs_any b word r cc d W hf hs hba hwa (by omega) h1 h2 h3 h4
 cases hst : standB b word r cc d
 · refine ⟨[], ⟨0, 0, false, []⟩, false, false, [], fun _ => ⟨0, 0, false, []⟩, fun _ => 0, fun W => ?_, (fun h => by cases h), (fun h => by cases h), (fun h => by cases h), (fun h => by cases h), by simp, ?_⟩
   · have := hn W
     unfold needI at this
     rw [hst] at this
     exact this
   · unfold wordI goodI
     rw [hst]
     rfl
 · have hls : (lettI b word r cc d).all smallB = true := letTo_small b _ hws _ (Nat.le_refl _)
   have hll : (lettI b word r cc d).length ≤ 12 := Nat.le_trans (letTo_length b _ word word.length) hwl
   have hpl : (putQ b word r cc d).word.length = word.length := putTo_length b _ word word.length
   have hpa : asciiB (putQ b word r cc d).word = true := putTo_ascii hba _ hwa _
   have hwi := waysI_length (countsL rack) (lettI b word r cc d)
   have hpw : 2 ^ (lettI b word r cc d).length ≤ 2 ^ 12 := Nat.pow_le_pow_right (by decide) hll
   refine ⟨lettI b word r cc d, putQ b word r cc d, validI b (putQ b word r cc d), canMakeC (countsL rack) (lettI b word r cc d), waysI (countsL rack) (lettI b word r cc d), fillQ b (putQ b word r cc d), codeI b lex rack, fun W => ?_, fun _ W => canMake_any _ _ W hC hCb (by omega) hls, fun _ W => waysToMake_any _ _ W hls (by omega) hC hCb, fun _ x hx W => ?_, fun _ x hx W hW => ?_, Nat.le_trans hwi (Nat.le_trans hpw (by decide)), ?_⟩
   · have := hn W
     unfold needI at this
     rw [hst] at this
     exact this
   · exact filled_any b _ x W hf hpa (by omega) (by rw [letTo_newl b word r cc d hst]; exact waysI_len _ _ x hx) h1 h2 h3 h4
   · refine legal_any b A c lex rack (fillQ b (putQ b word r cc d) x) W (hm.below hW) hf hs hba (fillTo_ascii hpa _ (waysI_ascii _ hls x hx) _) (by show (fillTo _ _ x _).length ≤ _; rw [fillTo_length]; omega) h1 h2 h3 h4 ((hr.below hW).more hW.size) hA (lexB_inc hlx) (by have := lexB_len hlx; omega) hrt (by omega)
   · unfold wordI goodI wayI
     rw [hst, Bool.true_and]
def TryAll (w : World) (b : Bd) (lex : List Str) (rack : Str) (e : Ending) (w' : World) : Prop :=
 Below w.heap.size w w' ∧ (if argsB b lex rack then (if 400 < (tryI b lex rack).length then e = .returned (.tuple #[.slice none 0 0, .int .i64 5]) else ∃ v ps', ps' = sortI (tryI b lex rack) ∧ w'.ownsRow w.heap.size 61 4 v ps'.length (psC ps') ∧ e = .returned (.tuple #[v, .int .i64 0])) else e = .returned (.tuple #[.slice none 0 0, .int .i64 1]))
theorem tryPlays_any (A : Option Addr) (c : Nat) (lex : List Str) (b : Bd) (rack : Str) (w : World) (hm : MaxOk w) (hr : Reads w w.heap.size 1 A lex.length (lex.map sv)) (hA : Plain0 A) (hn : lex.length ≤ 2 ^ 32) (hls : ∀ x ∈ lex, x.length ≤ 2 ^ 40) (hp : b.prem.length ≤ 2 ^ 40) (hcl : b.cells.length ≤ 2 ^ 40) (hrk : rack.length ≤ 2 ^ 32) :
   Calls Tryz.prog 141 #[.agg #[.slice A lex.length c], b.v, sv rack] w (TryAll w b lex rack) := by
 cases hok : argsB b lex rack
 · refine (tryPlays_bad A c lex b rack w hr hn hls hp hcl hrk hok).mono ?_
   rintro e w' ⟨rfl, hb⟩
   exact ⟨hb, by rw [hok]; rfl⟩
 · have hok' := hok
   unfold argsB at hok'
   simp only [Bool.and_eq_true] at hok'
   obtain ⟨hlx, hbd, hrb⟩ := hok'
   have hf := bdB.fit hbd
   have h5 := hf.lo
   have h15 := hf.hi
   have n1 : 25 ≤ b.size * b.size := by
     have := Int.mul_le_mul h5 h5 (by omega) (by omega)
     omega
   have n2 : b.size * b.size ≤ 225 := by
     have := Int.mul_le_mul h15 h15 (by omega) (by omega)
     omega
   refine (tryPlays_walk (fun ps' ps => ps' = sortI ps) A c lex b rack (countsL rack) w (fun k word => wordI b lex rack (rowI b k) (colI b k) (downI b k) word) hf (countsL_length rack) hn hr (fun W hW => ?_) (fun W => ?_) (fun W => ?_) (fun W => ?_) (fun ps v base W h1 h2 => sortPlays_any ps v base W h1 h2) (fun k hk word hw => ?_)).mono ?_
   · have := iValidLexicon_any A c lex W ((hr.below hW).more hW.size) (by omega) hls
     rw [hlx] at this
     exact this
   · have := iValidBoard_any b W hp hcl
     rw [hbd] at this
     exact this
   · have := iValidRack_any rack W (by omega)
     rw [hrb] at this
     exact this
   · exact countsOf_any rack W (by omega) (rackB_asc hrb).1
   · have e0 := Int.emod_nonneg (k : Int) (show b.size * b.size ≠ 0 by omega)
     have e1 := Int.emod_lt_of_pos (k : Int) (show 0 < b.size * b.size by omega)
     have e2 := Int.ediv_nonneg e0 (show 0 ≤ b.size by omega)
     have e3 := Int.ediv_le_self b.size e0
     have e4 := Int.emod_nonneg ((k : Int) % (b.size * b.size)) (show b.size ≠ 0 by omega)
     have e5 := Int.emod_lt_of_pos ((k : Int) % (b.size * b.size)) (show 0 < b.size by omega)
     exact round_ok A c lex b rack w hm hr hA hok _ _ _ (by omega) (by omega) (by omega) (by omega) word hw
   · rintro e w' ⟨hb, h⟩
     refine ⟨hb, ?_⟩
     rw [hok, if_pos rfl]
     exact h
set_option maxHeartbeats 2000000
set_option maxRecDepth 100000
theorem indexByte_find : ∀ (s : Str) (c : UInt8), Lib.indexByte s c = if findK s c < s.length then (findK s c : Int) else -1
 | [], _ => by simp [Lib.indexByte, findK]
 | b :: l, c => by
   have ih := indexByte_find l c
   simp only [Lib.indexByte, findK, List.length_cons]
   by_cases h : (b == c) = true
   · simp [h]
   · simp only [if_neg h, ih]
     by_cases h2 : findK l c < l.length
     · have : ((findK l c : Int) == -1) = false := by simp
       rw [if_pos h2, if_pos (show findK l c + 1 < l.length + 1 by omega), this]
       simp
     · rw [if_neg h2, if_neg (show ¬ findK l c + 1 < l.length + 1 by omega)]
       rfl
theorem valueOf_any (t : TS) (A1 A2 : Option Addr) (c1 c2 : Nat) (c : UInt8) (w : World) (hi : TsIn w t A1 A2) (hl : t.letters.length ≤ 2 ^ 40) (hv : t.values.length = t.letters.length) :
   Calls Tryz.prog 245 #[t.v A1 c1 A2 c2, bv c] w fun e w' => e = .returned (.int .i64 (valT t c)) ∧ Below w.heap.size w w' := by
 have k1 := fun w => Tryz.strings_IndexByte ⟨t.letters.toArray⟩ (c.toNat : Int) w
 have hc : ((c.toNat : Int)).toNat.toUInt8 = c := by simp
 rw [hc] at k1
 have hsl : (ByteArray.mk t.letters.toArray).data.toList = t.letters := by simp
 rw [hsl, indexByte_find] at k1
 have r1 := hi.r1
 simp only [TS.v]
 have hbW := (Below.refl w.heap.size w).alloc (Nat.le_refl _) (.cells #[sv t.letters, .slice A1 t.values.length c1, .slice A2 t.counts.length c2, .int .i64 t.blanks] 39)
 unfold valT
 by_cases hlt : findK t.letters c < t.letters.length
 · rw [if_pos hlt]
   simp only [if_pos hlt] at k1
   obtain ⟨F, hF⟩ : ∃ F, F = findK t.letters c := ⟨_, rfl⟩
   rw [← hF] at k1 hlt ⊢
   have hltV : F < t.values.length := by omega
   obtain ⟨a1, rfl, hab1, hx1⟩ := r1.el hltV
   have hv' : Hid (t.values.getD F 0 = t.values[F]) := Lib.hid (by rw [List.getD_eq_getElem?_getD, List.getElem?_eq_getElem hltV]; rfl)
   have hx1' := (hbW.cell (by rw [block_of_add]; exact hab1)).trans hx1
   have j1 : (F : Int) < (t.values.length : Int) := by omega
   have j2 : (0 : Int) ≤ (F : Int) := by omega
   have hv40 : t.values.length ≤ 2 ^ 40 := by omega
   clear hF hv hc hsl
   simp only [xv] at hx1'
   go_enter Tryz.func245, Tryz.ntmps245
   go_wp2_with (go_at_call 298; refine (k1 _).mono ?_; rintro e w3 ⟨rfl, rfl⟩)
   go_ret
   exact ⟨ret_int hv'.out.symm, hbW⟩
 · rw [if_neg hlt]
   simp only [if_neg hlt] at k1
   clear hc hsl hv
   go_enter Tryz.func245, Tryz.ntmps245
   go_wp2_with (go_at_call 298; refine (k1 _).mono ?_; rintro e w3 ⟨rfl, rfl⟩)
   go_ret
   exact ⟨rfl, hbW⟩
theorem premium_any (b : Bd) (r c : Int) (w : World) (hf : b.Fit) (hin : b.inB r c = true) :
   Calls Tryz.prog 243 #[b.v, .int .i64 r, .int .i64 c] w fun e w' => e = .returned (bv (b.prm r c)) ∧ Below w.heap.size w w' := by
 have h5 := hf.lo
 have h15 := hf.hi
 have hcl := hf.prem
 obtain ⟨⟨r0, r1⟩, c0, c1⟩ := inB_iff.1 hin
 obtain ⟨m0, m1, m2, m3, m4⟩ := mul_bounds h5 h15 r0 r1 c0 c1
 have hat : Hid (b.prm r c = b.prem.getD (r * b.size + c).toNat 0) := Lib.hid rfl
 obtain ⟨T, hT⟩ : ∃ T, T = b.prm r c := ⟨_, rfl⟩
 rw [← hT] at hat ⊢
 clear hT hin hf
 obtain ⟨n, p, s⟩ := b
 simp only [Bd.v] at *
 have hbW := (Below.refl w.heap.size w).alloc (Nat.le_refl _) (.cells #[.int .i64 n, sv p, sv s] 41)
 have hcl' := Lib.hid hcl
 have hlt : r * n + c < (p.length : Int) := by omega
 clear hcl
 have hsum : r * n + c ≤ 1000 := by omega
 have hnat : (r * n + c).toNat < p.length := by omega
 have hget : Hid (p[(r * n + c).toNat] = T) := Lib.hid (by rw [hat.out, List.getD_eq_getElem?_getD, List.getElem?_eq_getElem hnat]; rfl)
 go_enter Tryz.func243, Tryz.ntmps243
 go_wp2_with (fail)
 go_ret
 exact ⟨by rw [← hget.out]; rfl, hbW⟩
def facF2 : Value := .func (.func 332) #[] #[]
def facF3 : Value := .func (.func 333) #[] #[]
def facO : Obj := .map #[⟨.int .u8 50, facF2, 0⟩, ⟨.int .u8 51, facF3, 1⟩] 2
theorem fac2_any (x : Int) (w : World) (h0 : 0 ≤ x) (h1 : x ≤ 20) :
   Calls Tryz.prog 332 #[.int .i64 x] w fun e w' => e = .returned (.int .i64 (2 * x)) ∧ w = w' := by
 go_enter Tryz.func332, Tryz.ntmps332
 go_wp2_with (fail)
 go_ret
 exact ⟨rfl, rfl⟩
theorem fac3_any (x : Int) (w : World) (h0 : 0 ≤ x) (h1 : x ≤ 20) :
   Calls Tryz.prog 333 #[.int .i64 x] w fun e w' => e = .returned (.int .i64 (3 * x)) ∧ w = w' := by
 go_enter Tryz.func333, Tryz.ntmps333
 go_wp2_with (fail)
 go_ret
 exact ⟨rfl, rfl⟩
theorem alloc_set (w : World) (o o' : Obj) : ({ w.alloc o with heap := (w.alloc o).heap.setIfInBounds w.heap.size o' } : World) = w.alloc o' := by
 have e : (w.alloc o).heap.setIfInBounds w.heap.size o' = (w.alloc o').heap := by
   show (w.heap.push o).setIfInBounds w.heap.size o' = w.heap.push o'
   apply Array.ext
   · simp
   · intro i h1 h2
     rw [Array.getElem_setIfInBounds (by simpa using h1), Array.getElem_push, Array.getElem_push]
     simp at h1 h2
     split <;> split <;> first | rfl | omega
 rw [e]
 rfl
theorem run_ins (w : World) (es : Array MapEntry) (clock : Nat) (k : Int) (v : Value) (hn : Instr.findNow (.int .u8) (.int .u8 k) es.toList 0 = some none) :
   (Instr.mapUpdate 328 (.map (some w.heap.size)) (.int .u8 k) v).run Tryz.prog (w.alloc (.map es clock)) = .ok () (w.alloc (.map (es.push ⟨.int .u8 k, v, clock⟩) (clock + 1))) := by
 have hg : (w.alloc (.map es clock)).heap[w.heap.size]? = some (.map es clock) := (MapKept.heap_alloc w _).1
 have hm := Tryz.underlying328
 have hd := Tryz.underlying5
 have hk : MapKept.IsKey (.int .u8) (.int .u8 k) := rfl
 simp [Instr.mapUpdate, run_underlying hm, MapKept.run_getObj_map hg, MapKept.run_checkKey hd hk, MapKept.run_findKey hd hn, MapKept.run_setObj_map _ hg, Result.andThen]
 exact alloc_set w _ _
theorem letterFactors_any (w : World) :
   Calls Tryz.prog 297 #[] w fun e w' => e = .returned (.map (some w.heap.size)) ∧ w' = w.alloc facO := by
 have m0 := run_makeMap (P := Tryz.prog) 328 w
 have m1 := run_ins w #[] 0 50 facF2 rfl
 have m2 := run_ins w #[⟨.int .u8 50, facF2, 0⟩] 1 51 facF3 rfl
 simp only [facF2, facF3] at m1 m2
 go_enter Tryz.func297, Tryz.ntmps297
 go_wp2_with (fail)
 go_ret
 exact ⟨rfl, rfl⟩
theorem run_look (w : World) (g : Nat) (k : Int) (i : Nat) (v : Value) (hg : w.heap[g]? = some facO) (hn : Instr.findNow (.int .u8) (.int .u8 k) [⟨.int .u8 50, facF2, 0⟩, ⟨.int .u8 51, facF3, 1⟩] 0 = some (some (i, v))) :
   (Instr.lookup 328 (.map (some g)) (.int .u8 k) true).run Tryz.prog w = .ok (.tuple #[v, .bool true]) w := by
 have hm := Tryz.underlying328
 have hd := Tryz.underlying5
 have hk : MapKept.IsKey (.int .u8) (.int .u8 k) := rfl
 simp [Instr.lookup, run_underlying hm, MapKept.run_getObj_map hg, MapKept.run_checkKey hd hk, MapKept.run_findKey hd hn, Result.andThen]
theorem run_look0 (w : World) (g : Nat) (k : Int) (hg : w.heap[g]? = some facO) (hn : Instr.findNow (.int .u8) (.int .u8 k) [⟨.int .u8 50, facF2, 0⟩, ⟨.int .u8 51, facF3, 1⟩] 0 = some none) :
   (Instr.lookup 328 (.map (some g)) (.int .u8 k) true).run Tryz.prog w = .ok (.tuple #[.nilFunc, .bool false]) w := by
 have hm := Tryz.underlying328
 have hd := Tryz.underlying5
 have hk : MapKept.IsKey (.int .u8) (.int .u8 k) := rfl
 have hz : (zeroValue 272).run Tryz.prog w = .ok .nilFunc w := rfl
 simp [Instr.lookup, run_underlying hm, MapKept.run_getObj_map hg, MapKept.run_checkKey hd hk, MapKept.run_findKey hd hn, Result.andThen, hz]
theorem letterScore_any (t : TS) (A1 A2 : Option Addr) (c1 c2 : Nat) (l p : UInt8) (w : World) (hi : TsIn w t A1 A2) (ho : TsOk t) :
   Calls Tryz.prog 244 #[t.v A1 c1 A2 c2, bv l, bv p] w fun e w' => e = .returned (.int .i64 (ltF p * valT t l)) ∧ Below w.heap.size w w' := by
 have kv := fun w h => valueOf_any t A1 A2 c1 c2 l w h (by have := ho.len; omega) ho.vals
 have v0 := ho.lo l
 have v1 := ho.hi l
 obtain ⟨V, hV⟩ : ∃ V, V = valT t l := ⟨_, rfl⟩
 rw [← hV] at kv v0 v1 ⊢
 clear hV ho
 simp only [TS.v] at kv ⊢
 have hbW := (Below.refl w.heap.size w).alloc (Nat.le_refl _) (.cells #[sv t.letters, .slice A1 t.values.length c1, .slice A2 t.counts.length c2, .int .i64 t.blanks] 39)
 have hB := Blk.new w 39 #[sv t.letters, .slice A1 t.values.length c1, .slice A2 t.counts.length c2, .int .i64 t.blanks]
 obtain ⟨W, hW⟩ : ∃ W, W = w.alloc (.cells #[sv t.letters, .slice A1 t.values.length c1, .slice A2 t.counts.length c2, .int .i64 t.blanks] 39) := ⟨_, rfl⟩
 rw [← hW] at hbW hB
 have hiW := hi.below hbW
 have d0 : W.cell? ⟨w.heap.size, 0, none⟩ = some (sv t.letters) := hB.cell 0
 have d1 : W.cell? ⟨w.heap.size, 1, none⟩ = some (.slice A1 t.values.length c1) := hB.cell 1
 have d2 : W.cell? ⟨w.heap.size, 2, none⟩ = some (.slice A2 t.counts.length c2) := hB.cell 2
 have d3 : W.cell? ⟨w.heap.size, 3, none⟩ = some (.int .i64 t.blanks) := hB.cell 3
 have hlk : ∀ w1 : World, (w1.alloc facO).heap[w1.heap.size]? = some facO := fun w1 => (MapKept.heap_alloc w1 _).1
 by_cases h2 : p = 50
 · subst h2
   have hres : ltF 50 * V = 2 * V := rfl
   rw [hres]
   have hlk : ∀ w1 : World, (Instr.lookup 328 (.map (some w1.heap.size)) (bv 50) true).run Tryz.prog (w1.alloc facO) = .ok (.tuple #[facF2, .bool true]) (w1.alloc facO) := fun w1 => run_look (w1.alloc facO) w1.heap.size 50 0 facF2 (hlk w1) rfl
   simp only [facF2] at hlk
   go_enter Tryz.func244, Tryz.ntmps244
   go_wp2_with (first
     | (go_at_call 245; rw [← hW]; refine (kv _ hiW).mono ?_; rintro e w1 ⟨rfl, hb1⟩)
     | (go_at_call 297; refine (letterFactors_any _).mono ?_; rintro e w2 ⟨rfl, rfl⟩; have hlk := hlk w1)
     | (go_at_call 332; refine (fac2_any V _ v0 v1).mono ?_; rintro e w3 ⟨rfl, rfl⟩))
   go_ret
   exact ⟨rfl, hbW.trans ((hb1.alloc hb1.size _).mono hbW.size)⟩
 · by_cases h3 : p = 51
   · subst h3
     have hres : ltF 51 * V = 3 * V := rfl
     rw [hres]
     have hlk : ∀ w1 : World, (Instr.lookup 328 (.map (some w1.heap.size)) (bv 51) true).run Tryz.prog (w1.alloc facO) = .ok (.tuple #[facF3, .bool true]) (w1.alloc facO) := fun w1 => run_look (w1.alloc facO) w1.heap.size 51 1 facF3 (hlk w1) rfl
     simp only [facF3] at hlk
     go_enter Tryz.func244, Tryz.ntmps244
     go_wp2_with (first
       | (go_at_call 245; rw [← hW]; refine (kv _ hiW).mono ?_; rintro e w1 ⟨rfl, hb1⟩)
       | (go_at_call 297; refine (letterFactors_any _).mono ?_; rintro e w2 ⟨rfl, rfl⟩; have hlk := hlk w1)
       | (go_at_call 333; refine (fac3_any V _ v0 v1).mono ?_; rintro e w3 ⟨rfl, rfl⟩))
     go_ret
     exact ⟨rfl, hbW.trans ((hb1.alloc hb1.size _).mono hbW.size)⟩
   · have hres : ltF p * V = V := by
       have e2 : (p == 50) = false := by simpa using h2
       have e3 : (p == 51) = false := by simpa using h3
       unfold ltF
       rw [e2, e3]
       simp
     rw [hres]
     have q2 : ((p.toNat : Int) == 50) = false := by
       have : ¬ p.toNat = 50 := fun e => h2 (UInt8.toNat_inj.1 e)
       simp; omega
     have q3 : ((p.toNat : Int) == 51) = false := by
       have : ¬ p.toNat = 51 := fun e => h3 (UInt8.toNat_inj.1 e)
       simp; omega
     have hn : Instr.findNow (.int .u8) (.int .u8 (p.toNat : Int)) [⟨.int .u8 50, facF2, 0⟩, ⟨.int .u8 51, facF3, 1⟩] 0 = some none := by
       simp [Instr.findNow, Instr.sameNow, q2, q3]
     have hlk : ∀ w1 : World, (Instr.lookup 328 (.map (some w1.heap.size)) (bv p) true).run Tryz.prog (w1.alloc facO) = .ok (.tuple #[.nilFunc, .bool false]) (w1.alloc facO) := fun w1 => run_look0 (w1.alloc facO) w1.heap.size (p.toNat : Int) (hlk w1) hn
     clear hn q2 q3
     go_enter Tryz.func244, Tryz.ntmps244
     go_wp2_with (first
       | (go_at_call 245; rw [← hW]; refine (kv _ hiW).mono ?_; rintro e w1 ⟨rfl, hb1⟩)
       | (go_at_call 297; refine (letterFactors_any _).mono ?_; rintro e w2 ⟨rfl, rfl⟩; have hlk := hlk w1))
     go_ret
     exact ⟨rfl, hbW.trans ((hb1.alloc hb1.size _).mono hbW.size)⟩
end Go.Proofs.YtdkckikobefekaaGreatDoor
