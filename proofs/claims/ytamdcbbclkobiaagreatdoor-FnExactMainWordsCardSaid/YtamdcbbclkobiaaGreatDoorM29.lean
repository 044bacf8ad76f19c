/-
  Contract: tryPlays (layer 16 of the impl package); Contracts: slices.Sort and slices.Compact at strings, over a row that the caller owns; Contract: MainWords of the impl package (layer 16); Contract: the size of a list of strings (the laws package); Contracts: the sizes of a lexicon and of a board, the impl package's board of a board (the laws package); Contract: equal lists of strings (the laws package); Contract: the impl package's board of a board (the laws package); Contract: the text of a mark (the laws package); Contract: are the marks held (the laws package).
  Conditions: as each part below says.
-/
import Derived.Test.YtamdcbbclkobiaaGreatDoorM20
import Derived.Test.YtamdcbbclkobiaaGreatDoorM21
import Derived.Test.YtamdcbbclkobiaaGreatDoorM22
import Derived.Test.YtamdcbbclkobiaaGreatDoorM23
import Derived.Test.YtamdcbbclkobiaaGreatDoorM28
import Derived.Test.YtamdcbbclkobiaaGreatDoorM03
import Derived.Test.YtamdcbbclkobiaaGreatDoorM12
import Derived.Test.YtamdcbbclkobiaaGreatDoorM07
import Derived.Test.YtamdcbbclkobiaaGreatDoorM05
import Derived.Great.BuildSlice
import Derived.Lib.Builder
import Derived.Lib.UnsafeStr
import Derived.Laws.Externs
import Derived.RegionTactic
import Derived.Laws.Rows
import Derived.Laws.Tables
import Derived.Lib.OthersKept
/-
  Contract: tryPlays (layer 16 of the impl package).
  Conditions: strings of common size; the words' slice reads as a list of strings; the library's variable MaxLen reads as a number.
-/
namespace Go.Proofs.YtamdcbbclkobiaaGreatDoor
open Go.RowKit RegP RegL RegV
set_option maxHeartbeats 1000000

theorem cellB_ascii {c : UInt8} (h : cellB c = true) : c.toNat < 128 := by
  unfold cellB smallB capB at h
  simp only [Bool.or_eq_true, beq_iff_eq, Bool.and_eq_true, decide_eq_true_eq] at h
  rcases h with (h | h) | h
  · subst h; decide
  · omega
  · omega
theorem bdB_ascii {b : Bd} (h : bdB b = true) : asciiB b.cells = true := by
  refine List.all_eq_true.2 fun c hc => ?_
  have := cellB_ascii (List.all_eq_true.1 (bdB_cells h) c hc)
  simpa using this
theorem small_ascii {s : Str} (h : s.all smallB = true) : asciiB s = true := by
  refine List.all_eq_true.2 fun c hc => ?_
  have := List.all_eq_true.1 h c hc
  unfold smallB at this
  simp only [Bool.and_eq_true, decide_eq_true_eq] at this
  simp only [decide_eq_true_eq]
  omega
theorem lexB_inc {ws : List Str} (h : lexB ws = true) : incB ws = true := by
  unfold lexB at h
  rw [lexFrom_eq] at h
  simp only [Bool.and_eq_true] at h
  exact h.1.1
theorem round_ok (A : Option Addr) (c : Nat) (lex : List Str) (b : Bd) (rack : Str) (w : World) (hm : MaxOk w) (hr : Reads w w.heap.size 1 A lex.length (lex.map sv)) (hA : Plain0 A) (hok : argsB b lex rack = true)
    (r cc : Int) (d : Bool) (h1 : -400000000000 ≤ r) (h2 : r ≤ 400000000000) (h3 : -400000000000 ≤ cc) (h4 : cc ≤ 400000000000) (word : Str) (hw : word ∈ lex) :
    RoundOk A c lex b rack (countsL rack) w r cc d word (wordI b lex rack r cc d word) := by
  unfold argsB at hok
  simp only [Bool.and_eq_true] at hok
  obtain ⟨hlx, hbd, hrk⟩ := hok
  have hf := bdB.fit hbd
  have hs : sizeB b.size = true := by
    have := hbd
    unfold bdB at this
    rw [Bool.and_eq_true] at this
    exact this.1
  have hba := bdB_ascii hbd
  obtain ⟨hws, hwl⟩ := lexB_words hlx word hw
  have hwa := small_ascii hws
  have hrt := (rackB_asc hrk).1
  have hrl := rackB_len hrk
  have hC := countsL_length rack
  have hCb : ∀ j, 0 ≤ (countsL rack).getD j 0 ∧ (countsL rack).getD j 0 ≤ 2 ^ 40 := fun j => by
    have := countsL_bd rack j
    exact ⟨this.2, by omega⟩
  have hn := fun W => needs_any b word r cc d W hf hs hba hwa (by omega) h1 h2 h3 h4
  cases hst : standB b word r cc d
  · refine ⟨[], ⟨0, 0, false, []⟩, false, false, [], fun _ => ⟨0, 0, false, []⟩, fun _ => 0, fun W => ?_, (fun h => by cases h), (fun h => by cases h), (fun h => by cases h), (fun h => by cases h), by simp, ?_⟩
    · have := hn W
      unfold needI at this
      rw [hst] at this
      exact this
    · unfold wordI goodI
      rw [hst]
      rfl
  · have hls : (lettI b word r cc d).all smallB = true := letTo_small b _ hws _ (Nat.le_refl _)
    have hll : (lettI b word r cc d).length ≤ 12 := Nat.le_trans (letTo_length b _ word word.length) hwl
    have hpl : (putQ b word r cc d).word.length = word.length := putTo_length b _ word word.length
    have hpa : asciiB (putQ b word r cc d).word = true := putTo_ascii hba _ hwa _
    have hwi := waysI_length (countsL rack) (lettI b word r cc d)
    have hpw : 2 ^ (lettI b word r cc d).length ≤ 2 ^ 12 := Nat.pow_le_pow_right (by decide) hll
    refine ⟨lettI b word r cc d, putQ b word r cc d, validI b (putQ b word r cc d), canMakeC (countsL rack) (lettI b word r cc d), waysI (countsL rack) (lettI b word r cc d), fillQ b (putQ b word r cc d), codeI b lex rack, fun W => ?_, fun _ W => canMake_any _ _ W hC hCb (by omega) hls, fun _ W => waysToMake_any _ _ W hls (by omega) hC hCb, fun _ x hx W => ?_, fun _ x hx W hW => ?_, Nat.le_trans hwi (Nat.le_trans hpw (by decide)), ?_⟩
    · have := hn W
      unfold needI at this
      rw [hst] at this
      exact this
    · exact filled_any b _ x W hf hpa (by omega) (by rw [letTo_newl b word r cc d hst]; exact waysI_len _ _ x hx) h1 h2 h3 h4
    · refine legal_any b A c lex rack (fillQ b (putQ b word r cc d) x) W (hm.below hW) hf hs hba (fillTo_ascii hpa _ (waysI_ascii _ hls x hx) _) (by show (fillTo _ _ x _).length ≤ _; rw [fillTo_length]; omega) h1 h2 h3 h4 ((hr.below hW).more hW.size) hA (lexB_inc hlx) (by have := lexB_len hlx; omega) hrt (by omega)
    · unfold wordI goodI wayI
      rw [hst, Bool.true_and]
/-- What tryPlays answers. -/
def TryAll (w : World) (b : Bd) (lex : List Str) (rack : Str) (e : Ending) (w' : World) : Prop :=
  Below w.heap.size w w' ∧ (if argsB b lex rack then (if 400 < (tryI b lex rack).length then e = .returned (.tuple #[.slice none 0 0, .int .i64 5]) else ∃ v ps', ps' = sortI (tryI b lex rack) ∧ w'.ownsRow w.heap.size 48 4 v ps'.length (psC ps') ∧ e = .returned (.tuple #[v, .int .i64 0])) else e = .returned (.tuple #[.slice none 0 0, .int .i64 1]))
theorem tryPlays_any (A : Option Addr) (c : Nat) (lex : List Str) (b : Bd) (rack : Str) (w : World) (hm : MaxOk w) (hr : Reads w w.heap.size 1 A lex.length (lex.map sv)) (hA : Plain0 A) (hn : lex.length ≤ 2 ^ 32) (hls : ∀ x ∈ lex, x.length ≤ 2 ^ 40) (hp : b.prem.length ≤ 2 ^ 40) (hcl : b.cells.length ≤ 2 ^ 40) (hrk : rack.length ≤ 2 ^ 32) :
    Calls Tryz.prog 20 #[.agg #[.slice A lex.length c], b.v, sv rack] w (TryAll w b lex rack) := by
  cases hok : argsB b lex rack
  · refine (tryPlays_bad A c lex b rack w hr hn hls hp hcl hrk hok).mono ?_
    rintro e w' ⟨rfl, hb⟩
    exact ⟨hb, by rw [hok]; rfl⟩
  · have hok' := hok
    unfold argsB at hok'
    simp only [Bool.and_eq_true] at hok'
    obtain ⟨hlx, hbd, hrb⟩ := hok'
    have hf := bdB.fit hbd
    have h5 := hf.lo
    have h15 := hf.hi
    have n1 : 25 ≤ b.size * b.size := by
      have := Int.mul_le_mul h5 h5 (by omega) (by omega)
      omega
    have n2 : b.size * b.size ≤ 225 := by
      have := Int.mul_le_mul h15 h15 (by omega) (by omega)
      omega
    refine (tryPlays_walk (fun ps' ps => ps' = sortI ps) A c lex b rack (countsL rack) w (fun k word => wordI b lex rack (rowI b k) (colI b k) (downI b k) word) hf (countsL_length rack) hn hr (fun W hW => ?_) (fun W => ?_) (fun W => ?_) (fun W => ?_) (fun ps v base W h1 h2 => sortPlays_any ps v base W h1 h2) (fun k hk word hw => ?_)).mono ?_
    · have := iValidLexicon_any A c lex W ((hr.below hW).more hW.size) (by omega) hls
      rw [hlx] at this
      exact this
    · have := iValidBoard_any b W hp hcl
      rw [hbd] at this
      exact this
    · have := iValidRack_any rack W (by omega)
      rw [hrb] at this
      exact this
    · exact countsOf_any rack W (by omega) (rackB_asc hrb).1
    · have e0 := Int.emod_nonneg (k : Int) (show b.size * b.size ≠ 0 by omega)
      have e1 := Int.emod_lt_of_pos (k : Int) (show 0 < b.size * b.size by omega)
      have e2 := Int.ediv_nonneg e0 (show 0 ≤ b.size by omega)
      have e3 := Int.ediv_le_self b.size e0
      have e4 := Int.emod_nonneg ((k : Int) % (b.size * b.size)) (show b.size ≠ 0 by omega)
      have e5 := Int.emod_lt_of_pos ((k : Int) % (b.size * b.size)) (show 0 < b.size by omega)
      exact round_ok A c lex b rack w hm hr hA hok _ _ _ (by omega) (by omega) (by omega) (by omega) word hw
    · rintro e w' ⟨hb, h⟩
      refine ⟨hb, ?_⟩
      rw [hok, if_pos rfl]
      exact h
end Go.Proofs.YtamdcbbclkobiaaGreatDoor
/-
  Contracts: slices.Sort and slices.Compact at strings, over a row that the caller owns.
  Conditions: rows of common size.
-/
namespace Go.Proofs.YtamdcbbclkobiaaGreatDoor
open Go.RowKit Go.Sort Go.Lib RegP RegL RegV
set_option maxHeartbeats 1000000

theorem holds_ownS {w : World} {base e n g cap : Nat} {l : List Str} (h : w.ownsRow base e 1 (.slice (some ⟨g, 0, none⟩) n cap) n (l.map sv)) : Holds encStr w g 0 l.toArray := by
  rcases h.2 with ⟨e0, _⟩ | ⟨g', cap', cur, e0, hb, hg, hn, hm, hs, ht⟩
  · cases e0
  · injection e0 with e1 _ e3
    injection e1 with e1
    injection e1 with e1
    subst e1
    intro j hj
    have hj' : j < l.length := by simpa using hj
    have hl := h.1
    rw [List.length_map] at hl
    refine ⟨?_, by simp [World.frozen?, hg]⟩
    have e2 : (cur.toList.take (n * 1))[j]? = (l.map sv)[j]? := by rw [ht]
    rw [List.getElem?_take, if_pos (by omega), Array.getElem?_toList, List.getElem?_map, List.getElem?_eq_getElem hj'] at e2
    simp only [World.cell?, hg, Nat.zero_add]
    simp only [Option.isSome_none, Bool.false_eq_true, if_false]
    rw [e2]
    simp [getElem!_pos, hj', encStr]
theorem own_putS {w w1 : World} {base e n g cap : Nat} {xs : List Value} (h : w.ownsRow base e 1 (.slice (some ⟨g, 0, none⟩) n cap) n xs) (ys : List Str) (hy : ys.length = n) (m : Nat) (hm : m ≤ n)
    (h1 : ∀ cur, w.heap[g]? = some (.cells cur e (0, 0)) → w1.heap[g]? = some (.cells (putCells encStr 0 ys.toArray cur) e (0, 0))) :
    w1.ownsRow base e 1 (.slice (some ⟨g, 0, none⟩) m cap) m ((ys.take m).map sv) := by
  rcases h.2 with ⟨e0, _⟩ | ⟨g', cap', cur, e0, hb, hg, hn, hmx, hs, ht⟩
  · cases e0
  · injection e0 with e1 _ e3
    injection e1 with e1
    injection e1 with e1
    subst e1; subst e3
    refine ⟨by simp; omega, .inr ⟨g, cap, putCells encStr 0 ys.toArray cur, rfl, hb, h1 cur hg, Nat.le_trans hm hn, hmx, by simpa [putCells] using hs, ?_⟩⟩
    apply List.ext_getElem?
    intro j
    rw [List.getElem?_take, Array.getElem?_toList]
    by_cases hj : j < m * 1
    · have hjc : j < cur.size := by omega
      have hjy : j < ys.length := by omega
      rw [if_pos hj]
      simp only [putCells, Array.getElem?_mapIdx, Array.getElem?_eq_getElem hjc, Option.map_some]
      rw [if_pos (by simp; omega), List.getElem?_map, List.getElem?_take, if_pos (by omega), List.getElem?_eq_getElem hjy]
      simp [getElem!_pos, hjy, encStr]
    · rw [if_neg hj, List.getElem?_eq_none (by simp; omega)]
theorem put_heap {w : World} {g q : Nat} {d : Array Str} {os : Array Obj} {e : TypeId} (hlt : g < w.heap.size) (cur : Array Value) (hg : w.heap[g]? = some (.cells cur e (0, 0))) :
    (grow (putRow encStr (Sort.ahead w q) g 0 d) os).heap[g]? = some (.cells (putCells encStr 0 d cur) e (0, 0)) := by
  show ((putRow encStr (Sort.ahead w q) g 0 d).heap ++ os)[g]? = _
  rw [Array.getElem?_append_left (by simpa [putRow, mapBlock, Sort.ahead] using hlt)]
  simp [putRow, mapBlock, Sort.ahead, Array.getElem?_modify, hg, onCells]
theorem put_heap' {w : World} {g q : Nat} {d : Array Str} {e : TypeId} (cur : Array Value) (hg : w.heap[g]? = some (.cells cur e (0, 0))) :
    (putRow encStr (Sort.ahead w q) g 0 d).heap[g]? = some (.cells (putCells encStr 0 d cur) e (0, 0)) := by
  simp [putRow, mapBlock, Sort.ahead, Array.getElem?_modify, hg, onCells]
theorem grown_putS {w : World} {g q : Nat} {d : Array Str} {os : Array Obj} : w.grownBy (grow (putRow encStr (Sort.ahead w q) g 0 d) os) (some g) := by
  refine ⟨rfl, rfl, rfl, ?_, fun k hk hne => ?_⟩
  · show _ ≤ ((putRow encStr (Sort.ahead w q) g 0 d).heap ++ os).size
    simp [putRow, mapBlock, Sort.ahead]
  · show ((putRow encStr (Sort.ahead w q) g 0 d).heap ++ os)[k]? = _
    have hg : g ≠ k := fun e => hne (by rw [e])
    rw [Array.getElem?_append_left (by simpa [putRow, mapBlock, Sort.ahead] using hk)]
    simp [putRow, mapBlock, Sort.ahead, Array.getElem?_modify, hg]
theorem grown_putS' {w : World} {g q : Nat} {d : Array Str} : w.grownBy (putRow encStr (Sort.ahead w q) g 0 d) (some g) := by
  refine ⟨rfl, rfl, rfl, ?_, fun k hk hne => ?_⟩
  · simp [putRow, mapBlock, Sort.ahead]
  · have hg : g ≠ k := fun e => hne (by rw [e])
    simp [putRow, mapBlock, Sort.ahead, Array.getElem?_modify, hg]
theorem sortStr_any (l : List Str) (v : Value) (base : Nat) (w : World) (hl : l.length ≤ 2 ^ 40) (hown : w.ownsRow base 9 1 v l.length (l.map sv)) :
    Calls Tryz.prog 22 #[v] w fun e w' => e = .returned (.tuple #[]) ∧ w'.ownsRow base 9 1 v l.length ((l.mergeSort fun x y => decide (x ≤ y)).map sv) ∧ w.grownBy w' v.ownBlock := by
  rcases Nat.eq_zero_or_pos l.length with h0 | h0
  · obtain rfl : l = [] := List.eq_nil_of_length_eq_zero h0
    obtain ⟨A, c, rfl, _⟩ := own_sl hown
    refine Calls.mono (Tryz.slices_Sort_string_none A c w) ?_
    rintro e w' ⟨rfl, rfl⟩
    exact ⟨rfl, by simpa using hown, ⟨rfl, rfl, rfl, Nat.le_refl _, fun _ _ _ => rfl⟩⟩
  · obtain ⟨g, cap, hv, hbg, hlt⟩ := hown.form h0
    subst hv
    refine Calls.mono (Tryz.slices_Sort_string g 0 cap l w (holds_ownS hown) hlt (by omega)) ?_
    rintro e w' ⟨rfl, n, os, rfl⟩
    have hp := own_putS hown (l.mergeSort fun x y => decide (x ≤ y)) (List.length_mergeSort _) l.length (Nat.le_refl _) (w1 := grow (putRow encStr (Sort.ahead w n) g 0 (l.mergeSort fun x y => decide (x ≤ y)).toArray) os) (fun cur hg => put_heap hlt cur hg)
    rw [List.take_of_length_le (by rw [List.length_mergeSort]; exact Nat.le_refl _)] at hp
    exact ⟨rfl, hp, grown_putS⟩
theorem compact_le (zs : List Str) : (Lib.compact zs).length ≤ zs.length := by
  simp only [Lib.compact, Lib.compactUpTo, List.length_map]
  refine Nat.le_trans (List.length_filter_le _ _) ?_
  simp
theorem compactStr_any (zs : List Str) (v : Value) (base : Nat) (w : World) (hl : zs.length ≤ 2 ^ 40) (hown : w.ownsRow base 9 1 v zs.length (zs.map sv)) :
    Calls Tryz.prog 23 #[v] w fun e w' => ∃ v', e = .returned v' ∧ w'.ownsRow base 9 1 v' (Lib.compact zs).length ((Lib.compact zs).map sv) ∧ w.grownBy w' v.ownBlock := by
  rcases Nat.eq_zero_or_pos zs.length with h0 | h0
  · obtain rfl : zs = [] := List.eq_nil_of_length_eq_zero h0
    obtain ⟨A, c, rfl, _⟩ := own_sl hown
    refine Calls.mono (Tryz.slices_Compact_string_empty A c w) ?_
    rintro e w' ⟨rfl, rfl⟩
    exact ⟨_, rfl, hown, ⟨rfl, rfl, rfl, Nat.le_refl _, fun _ _ _ => rfl⟩⟩
  · obtain ⟨g, cap, hv, hbg, hlt⟩ := hown.form h0
    subst hv
    have hcap : zs.length ≤ cap := by
      obtain ⟨A, c, e1, h1, _⟩ := own_sl hown
      injection e1 with _ _ e3
      rw [e3]; exact h1
    have hcl := compact_le zs
    refine Calls.mono (Tryz.slices_Compact_string g 0 cap zs w (holds_ownS hown) (by omega) hcap) ?_
    rintro e w' ⟨rfl, q, rfl⟩
    have hp := own_putS hown (Lib.compact zs ++ List.replicate (zs.length - (Lib.compact zs).length) []) (by simp; omega) (Lib.compact zs).length hcl (w1 := putRow encStr (Sort.ahead w q) g 0 (Lib.compact zs ++ List.replicate (zs.length - (Lib.compact zs).length) []).toArray) (fun cur hg => put_heap' cur hg)
    rw [List.take_left] at hp
    exact ⟨_, rfl, hp, grown_putS'⟩
end Go.Proofs.YtamdcbbclkobiaaGreatDoor
/-
  Contract: MainWords of the impl package (layer 16).
  Conditions: strings of common size; the words' slice reads as a list of strings; the library's variable MaxLen reads as a number.
-/
namespace Go.Proofs.YtamdcbbclkobiaaGreatDoor
open Go.RowKit RegP RegL RegV
set_option maxHeartbeats 2000000
set_option maxRecDepth 100000

theorem tryI_word (b : Bd) (lex : List Str) (rack : Str) : ∀ p ∈ tryI b lex rack, asciiB p.word = true ∧ p.word.length ≤ 12 := by
  intro p hp
  unfold tryI allI at hp
  obtain ⟨k, _, hp⟩ := List.mem_flatMap.1 hp
  unfold placeI at hp
  obtain ⟨word, _, hp⟩ := List.mem_flatMap.1 hp
  unfold wordI at hp
  split at hp
  · unfold wayI at hp
    have hc := (List.mem_filter.1 hp).2
    have hv : validI b p = true := by
      cases hv : validI b p
      · unfold codeI at hc
        rw [hv] at hc
        simp at hc
      · rfl
    obtain ⟨_, h1, _, h3⟩ := validI_facts hv
    exact ⟨lettB_ascii h1, h3⟩
  · cases hp
theorem iMainWords_bad (A : Option Addr) (c : Nat) (lex : List Str) (b : Bd) (rack : Str) (w : World) (C : Int) (hC : C ≠ 0) (hC1 : playsCode b lex rack = C)
    (kt : ∀ W, Below w.heap.size w W → Calls Tryz.prog 20 #[.agg #[.slice A lex.length c], b.v, sv rack] W fun e w' => e = .returned (.tuple #[.slice none 0 0, .int .i64 C]) ∧ Below W.heap.size W w') :
    Calls Tryz.prog 9 #[.agg #[.slice A lex.length c], b.v, sv rack] w (MainPost w b lex rack) := by
  have hend : Hid (∀ w', Below w.heap.size w w' → MainPost w b lex rack (.returned (.tuple #[.slice none 0 0, .int .i64 C])) w') := Lib.hid (fun w' h => MainPost.no hC1 hC h)
  obtain ⟨Ps, hPs⟩ : ∃ Ps, Ps = MainPost w b lex rack := ⟨_, rfl⟩
  rw [← hPs] at hend ⊢
  clear hPs hC1
  have hne : (C != 0) = true := by simpa using hC
  have hne2 : (C == 0) = false := by simpa using hC
  obtain ⟨sz, bp, bc⟩ := b
  simp only [Bd.v] at *
  obtain ⟨W, hW⟩ : ∃ W, W = (w.alloc (.cells #[.slice A lex.length c] 31)).alloc (.cells #[.int .i64 sz, sv bp, sv bc] 33) := ⟨_, rfl⟩
  have hb : Below w.heap.size w W := by rw [hW]; exact ((Below.refl _ _).alloc (Nat.le_refl _) _).alloc (by simp) _
  go_enter Tryz.func9, Tryz.ntmps9
  go_wp2_with (go_at_call 20; rw [← hW]; refine (kt _ hb).mono ?_; rintro e w1 ⟨rfl, hb1⟩)
  exact hend.out _ (hb.trans (hb1.mono hb.size))
theorem iMainWords_good (A : Option Addr) (c : Nat) (lex : List Str) (b : Bd) (rack : Str) (w : World) (T : List Pl) (hT : ∀ p ∈ T, asciiB p.word = true ∧ p.word.length ≤ 12) (hTl : T.length ≤ 400) (hC : playsCode b lex rack = 0) (hM : ∀ ps : List Pl, ps.Perm T → canon (ps.map fun p => lowS p.word) = mainL b lex rack)
    (kt : ∀ W, Below w.heap.size w W → Calls Tryz.prog 20 #[.agg #[.slice A lex.length c], b.v, sv rack] W fun e w' => (∃ v ps', ps'.Perm T ∧ w'.ownsRow W.heap.size 48 4 v ps'.length (psC ps') ∧ e = .returned (.tuple #[v, .int .i64 0])) ∧ Below W.heap.size W w') :
    Calls Tryz.prog 9 #[.agg #[.slice A lex.length c], b.v, sv rack] w (MainPost w b lex rack) := by
  have hend : Hid (∀ v w' (ps : List Pl), ps.Perm T → w'.ownsRow w.heap.size 9 1 v (Lib.compact ((ps.map fun p => lowS p.word).mergeSort fun x y => decide (x ≤ y))).length ((Lib.compact ((ps.map fun p => lowS p.word).mergeSort fun x y => decide (x ≤ y))).map sv) → Below w.heap.size w w' → MainPost w b lex rack (.returned (.tuple #[v, .int .i64 0])) w') := Lib.hid (fun v w' ps hp ho hb => MainPost.yes hC (by rw [cmp_sort, hM ps hp] at ho; exact ho) hb)
  obtain ⟨Ps, hPs⟩ : ∃ Ps, Ps = MainPost w b lex rack := ⟨_, rfl⟩
  rw [← hPs] at hend ⊢
  clear hPs hC hM
  obtain ⟨sz, bp, bc⟩ := b
  simp only [Bd.v] at *
  obtain ⟨W, hW⟩ : ∃ W, W = (w.alloc (.cells #[.slice A lex.length c] 31)).alloc (.cells #[.int .i64 sz, sv bp, sv bc] 33) := ⟨_, rfl⟩
  have hb : Below w.heap.size w W := by rw [hW]; exact ((Below.refl _ _).alloc (Nat.le_refl _) _).alloc (by simp) _
  go_enter Tryz.func9, Tryz.ntmps9
  go_wp2_with (go_at_call 20; rw [← hW]; refine (kt _ hb).mono ?_; rintro e w1 ⟨⟨v1, P, hP, own1, rfl⟩, hb1⟩; obtain ⟨A1, c1, rfl, hc1, hr1, hf1⟩ := own_form own1)
  have hw1 := hb.trans (hb1.mono hb.size)
  have hPw : ∀ p ∈ P, asciiB p.word = true ∧ p.word.length ≤ 12 := fun p hp => hT p (hP.mem_iff.1 hp)
  have hPl : P.length ≤ 400 := by rw [hP.length_eq]; exact hTl
  have hend' := Lib.hid (fun v w' => hend.out v w' P hP)
  clear hW kt hend hP own1 hT hTl hb hb1
  have own0 := World.ownsRow_lit (base := w.heap.size) (size := 1) (e := 9) w1 #[] 0 hw1.size (by unfold maxLen; omega) rfl
  go_loopw [10, 26] (fun o i wr => ∃ k : Nat, k ≤ P.length ∧ i = .int .i64 k ∧ wr.ownsRow w1.heap.size 9 1 o ((P.take k).map fun p => lowS p.word).length (((P.take k).map fun p => lowS p.word).map sv) ∧ Reads wr w1.heap.size 4 A1 P.length (psC P) ∧ Below w.heap.size w wr ∧ w1.heap.size ≤ wr.heap.size) (fun _ i _ => P.length - (intOf i).toNat)
  case atStart => exact ⟨0, by omega, rfl, own_new own0 (fun k hk => by simp [Value.ownBlock] at hk; omega), hr1.alloc (Nat.le_refl _) _, hw1.alloc hw1.size _, by simp⟩
  case round =>
    clear own0
    obtain ⟨k, hk, rfl, own2, hr2, hb2, hz2⟩ := hrel
    by_cases hkl : k < P.length
    · have hkk : (k : Int) < (P.length : Int) := by omega
      obtain ⟨ad, ea, hlt⟩ := hr2.2 (by omega)
      obtain ⟨g, rfl⟩ := hf1 ad ea
      subst ea
      obtain ⟨e0, e1, e2, e3⟩ := hr2.pl hkl
      simp only [Nat.zero_add] at e0 e1 e2 e3
      have hx := hPw P[k] (List.getElem_mem hkl)
      have hstep : Hid ((P.take (k + 1)).map (fun p => lowS p.word) = (P.take k).map (fun p => lowS p.word) ++ [lowS P[k].word]) := Lib.hid (by rw [List.take_succ_eq_append_getElem hkl, List.map_append]; rfl)
      have hcl : ((P.take k).map fun p => lowS p.word).length ≤ 400 := by rw [List.length_map, List.length_take]; omega
      obtain ⟨⟨pr, pc, pd, y⟩, hy⟩ : ∃ p, p = P[k] := ⟨_, rfl⟩
      rw [← hy] at e0 e1 e2 e3 hx hstep
      clear hy
      obtain ⟨C, hC'⟩ : ∃ C, C = (P.take k).map fun p => lowS p.word := ⟨_, rfl⟩
      rw [← hC'] at own2 hstep hcl
      clear hC'
      have hCl : C.length + 1 ≤ 1099511627776 := by omega
      have hlit := run_lit1 strT1 (sv (lowS y)) #[sv (lowS y)] rfl rfl (by omega)
      have hgz : g < wr.heap.size := by have := hlt.1; simp at this; omega
      go_wp2_with (first
        | (go_at_call 21; refine (lower_any y _ (by have := hx.2; simp only at this; omega) hx.1).mono ?_; rintro e w3 ⟨rfl, hb3⟩
           have hbA : Below wr.heap.size wr w3 := ((Below.refl _ _).alloc (Nat.le_refl _) _).trans (hb3.mono (by simp))
           have own3 := own_call own2 hbA
           have hz3 := Nat.le_trans hz2 hbA.size
           have hb33 := hb2.trans (hbA.mono hb2.size))
        | (at_builtin; refine wpList_app strT1 rfl (.tmp 30) (.tmp 34) rfl _ C.length _ rfl w1.heap.size own3 [sv (lowS y)] rfl (by simp [Value.oneCell', sv]) rfl hCl (by omega) hz3 ?_; intro v6 w6 own6 hg6 hat6))
      go_roundw
      case rel => exact ⟨k + 1, by omega, by go_num, own_cast own6 (by rw [hstep.out]; simp) (by rw [hstep.out]; simp), (hr2.below' hbA hz2).below' (Below.own (Below.refl _ _) hz3 own3 (Nat.le_refl _) hg6) (Nat.le_refl _), Below.own hb33 hb33.size own3 (by have := hw1.size; omega) hg6, Nat.le_trans hz3 hg6.size⟩
      case measure => simp only [intOf]; omega
    · obtain rfl : k = P.length := by omega
      rw [List.take_length] at own2
      obtain ⟨L, hL⟩ : ∃ L, L = P.map fun p => lowS p.word := ⟨_, rfl⟩
      have hLl : L.length ≤ 400 := by rw [hL, List.length_map]; exact hPl
      rw [← hL] at own2 hend'
      clear hL
      have hw1z := hw1.size
      go_wp2_with (first
        | (go_at_call 22; refine (sortStr_any L _ _ _ (by omega) own2).mono ?_; rintro e w5 ⟨rfl, own5, hg5⟩
           have hb5 := Below.own hb2 hb2.size own2 hw1z hg5
           have hls : (L.mergeSort fun x y => decide (x ≤ y)).length = L.length := List.length_mergeSort _
           have own5' := own_cast own5 rfl hls.symm)
        | (go_at_call 23; refine (compactStr_any _ _ _ _ (by omega) own5').mono ?_; rintro e w6 ⟨v6, rfl, own6, hg6⟩))
      exact hend'.out _ _ (own_base own6 hw1z) (Below.own hb5 hb5.size own5' hw1z hg6)
theorem iMainWords_any (A : Option Addr) (c : Nat) (lex : List Str) (b : Bd) (rack : Str) (w : World) (hm : MaxOk w) (hr : Reads w w.heap.size 1 A lex.length (lex.map sv)) (hA : Plain0 A) (hn : lex.length ≤ 2 ^ 32) (hls : ∀ x ∈ lex, x.length ≤ 2 ^ 40) (hp : b.prem.length ≤ 2 ^ 40) (hcl : b.cells.length ≤ 2 ^ 40) (hrk : rack.length ≤ 2 ^ 32) :
    Calls Tryz.prog 9 #[.agg #[.slice A lex.length c], b.v, sv rack] w (MainPost w b lex rack) := by
  have kt := fun (W : World) (hW : Below w.heap.size w W) => tryPlays_any A c lex b rack W (hm.below hW) ((hr.below hW).more hW.size) hA hn hls hp hcl hrk
  cases hok : argsB b lex rack
  · refine iMainWords_bad A c lex b rack w 1 (by decide) (by unfold playsCode; rw [hok]; rfl) fun W hW => (kt W hW).mono ?_
    rintro e w' ⟨h1, h2⟩
    rw [hok] at h2
    exact ⟨h2, h1⟩
  · by_cases hbig : 400 < (foundL b lex rack).length
    · refine iMainWords_bad A c lex b rack w 5 (by decide) (by unfold playsCode; rw [hok, if_pos rfl, if_pos hbig]) fun W hW => (kt W hW).mono ?_
      rintro e w' ⟨h1, h2⟩
      rw [hok, if_pos rfl, if_pos ((found_many hok).1 hbig)] at h2
      exact ⟨h2, h1⟩
    · have hfp := found_perm hok hbig
      refine iMainWords_good A c lex b rack w (tryI b lex rack) (tryI_word b lex rack) (by rw [← hfp.length_eq]; omega) (by unfold playsCode; rw [hok, if_pos rfl, if_neg hbig]) (fun ps hps => by rw [mainL_found]; exact canon_perm ((hps.trans hfp.symm).map _)) fun W hW => (kt W hW).mono ?_
      rintro e w' ⟨h1, h2⟩
      rw [hok, if_pos rfl, if_neg (fun h => hbig ((found_many hok).2 h))] at h2
      obtain ⟨v, ps', rfl, h3, h4⟩ := h2
      exact ⟨⟨v, _, sortI_perm _, h3, h4⟩, h1⟩
end Go.Proofs.YtamdcbbclkobiaaGreatDoor
/-
  Contract: the size of a list of strings (the laws package).
  Conditions: the slice reads as a list of strings; strings and the room of common size.
-/
namespace Go.Proofs.YtamdcbbclkobiaaGreatDoor
open Go.RowKit RegP RegL RegV
set_option maxHeartbeats 2000000
set_option maxRecDepth 100000

def szGo : List Str → Int → Int
  | [], l => l
  | x :: r, l => if l - x.length < 0 then -1 else szGo r (l - x.length)
def szS (a : List Str) (l : Int) : Int := if l - a.length < 0 then -1 else szGo a (l - a.length)
theorem szStringS_any (A : Option Addr) (c : Nat) (a : List Str) (l : Int) (w : World) (h : Reads w w.heap.size 1 A a.length (a.map sv)) (hn : a.length ≤ 9223372036854775807) (hs : ∀ x ∈ a, x.length ≤ 9223372036854775807) (h0 : 0 ≤ l) (h1 : l ≤ 2 ^ 40) :
    Calls Tryz.prog 15 #[.slice A a.length c, .int .i64 l] w fun e w' => e = .returned (.int .i64 (szS a l)) ∧ Below w.heap.size w w' := by
  have hdef : Hid (szS a l = if l - a.length < 0 then -1 else szGo a (l - a.length)) := Lib.hid rfl
  obtain ⟨R, hR⟩ : ∃ R, R = szS a l := ⟨_, rfl⟩
  rw [← hR] at hdef ⊢
  clear hR
  by_cases hl : l - (a.length : Int) < 0
  · have hR : R = -1 := by rw [hdef.out, if_pos hl]
    subst hR
    go_enter Tryz.func15, Tryz.ntmps15
    go_wp2_with (fail)
    go_ret
    exact ⟨rfl, Below.refl _ _⟩
  · have hR : Hid (R = szGo a (l - a.length)) := Lib.hid (by rw [hdef.out, if_neg hl])
    clear hdef
    obtain ⟨l1, hl1⟩ : ∃ l1, l1 = l - (a.length : Int) := ⟨_, rfl⟩
    have hl0 : 0 ≤ l1 := by omega
    have hl2 : l1 ≤ 2 ^ 40 := by omega
    have hs' := Lib.hid hs
    have hl1' := Lib.hid hl1
    rw [← hl1] at hR hl
    clear hs
    go_enter Tryz.func15, Tryz.ntmps15
    go_wp2_with (fail)
    go_loopw [1, 5] (fun lv i wr => ∃ (k : Nat) (m : Int), k ≤ a.length ∧ i = .int .i64 k ∧ lv = .int .i64 m ∧ 0 ≤ m ∧ m ≤ 2 ^ 40 ∧ Hid (R = szGo (a.drop k) m) ∧ Below w.heap.size w wr) (fun _ i _ => a.length - (intOf i).toNat)
    case atStart => exact ⟨0, l1, by omega, rfl, by rw [hl1'.out], hl0, hl2, Lib.hid (by rw [hR.out]; rfl), Below.refl _ _⟩
    case round =>
      clear hl1 hl0 hl2 hR hl
      obtain ⟨k, m, hk, rfl, rfl, hm0, hm1, he, hb⟩ := hrel
      by_cases hkl : k < a.length
      · obtain ⟨ad, rfl, hd1, hc1⟩ := (h.below hb).el hkl
        have hst : Hid (R = if m - (a[k]).length < 0 then -1 else szGo (a.drop (k + 1)) (m - (a[k]).length)) := Lib.hid (by rw [he.out, drop_cons a k hkl]; rfl)
        have hxl := hs'.out _ (List.getElem_mem hkl)
        obtain ⟨x, hx⟩ : ∃ x, x = a[k] := ⟨_, rfl⟩
        rw [← hx] at hst hc1 hxl
        clear hx
        have hkk : (k : Int) < (a.length : Int) := by omega
        have hk0 : (0 : Int) ≤ (k : Int) := by omega
        have hz1 : ad.block < wr.heap.size := Nat.lt_of_lt_of_le hd1 hb.size
        by_cases hneg : m - (x.length : Int) < 0
        · have hR2 : R = -1 := by rw [hst.out, if_pos hneg]
          subst hR2
          go_wp2_with (fail)
          go_ret
          exact ⟨rfl, hb⟩
        · have hst2 : Hid (R = szGo (a.drop (k + 1)) (m - x.length)) := Lib.hid (by rw [hst.out, if_neg hneg])
          go_wp2_with (fail)
          go_roundw
          case rel => exact ⟨k + 1, m - x.length, by omega, by go_num, rfl, by omega, by omega, hst2, hb⟩
          case measure => simp [intOf]; omega
      · obtain rfl : k = a.length := by omega
        have hkk : ¬ (a.length : Int) < (a.length : Int) := by omega
        have hRt : Hid (R = m) := Lib.hid (by rw [he.out, List.drop_length]; rfl)
        go_wp2_with (fail)
        go_ret
        exact ⟨ret_int hRt.out.symm, hb⟩
end Go.Proofs.YtamdcbbclkobiaaGreatDoor
/-
  Contracts: the sizes of a lexicon and of a board, the impl package's board of a board (the laws package).
  Conditions: the words' slice reads as a list of strings; numbers of common size.
-/
namespace Go.Proofs.YtamdcbbclkobiaaGreatDoor
open Go.RowKit RegP RegL RegV
set_option maxHeartbeats 2000000
set_option maxRecDepth 100000

theorem szS_ge (a : List Str) (l : Int) : -1 ≤ szS a l := by
  have key : ∀ (a : List Str) (l : Int), 0 ≤ l → -1 ≤ szGo a l := by
    intro a
    induction a with
    | nil => intro l h; simp only [szGo]; omega
    | cons x r ih =>
      intro l h
      simp only [szGo]
      split
      · omega
      · exact ih _ (by omega)
  unfold szS
  split
  · omega
  · exact key _ _ (by omega)
theorem szLexicon_any (A : Option Addr) (c : Nat) (a : List Str) (l : Int) (w : World) (h : Reads w w.heap.size 1 A a.length (a.map sv)) (hn : a.length ≤ 9223372036854775807) (hs : ∀ x ∈ a, x.length ≤ 9223372036854775807) (h0 : 0 ≤ l) (h1 : l ≤ 2 ^ 40) :
    Calls Tryz.prog 4 #[.agg #[.slice A a.length c], .int .i64 l] w fun e w' => e = .returned (.int .i64 (szS a l)) ∧ Below w.heap.size w w' := by
  have k1 := fun (W : World) (hW : Below w.heap.size w W) => szStringS_any A c a l W ((h.below hW).more hW.size) hn hs h0 h1
  have hge := szS_ge a l
  obtain ⟨R, hR⟩ : ∃ R, R = szS a l := ⟨_, rfl⟩
  rw [← hR] at k1 hge ⊢
  clear hR h hs
  have hb := (Below.refl w.heap.size w).alloc (Nat.le_refl _) (.cells #[.slice A a.length c] 24)
  by_cases hneg : R < 0
  · obtain rfl : R = -1 := by omega
    go_enter Tryz.func4, Tryz.ntmps4
    go_wp2_with (go_at_call 15; refine (k1 _ hb).mono ?_; rintro e w1 ⟨rfl, hb1⟩)
    go_ret
    exact ⟨rfl, hb.trans (hb1.mono hb.size)⟩
  · go_enter Tryz.func4, Tryz.ntmps4
    go_wp2_with (go_at_call 15; refine (k1 _ hb).mono ?_; rintro e w1 ⟨rfl, hb1⟩)
    go_ret
    exact ⟨rfl, hb.trans (hb1.mono hb.size)⟩
def szB (b : Bd) (l : Int) : Int := if l - b.prem.length < 0 then -1 else if l - b.prem.length - b.cells.length < 0 then -1 else l - b.prem.length - b.cells.length
theorem szBoard_any (b : Bd) (l : Int) (w : World) (h0 : 0 ≤ l) (h1 : l ≤ 2 ^ 40) (hp : b.prem.length ≤ 9223372036854775807) (hc : b.cells.length ≤ 9223372036854775807) :
    Calls Tryz.prog 5 #[b.v, .int .i64 l] w fun e w' => e = .returned (.int .i64 (szB b l)) ∧ Below w.heap.size w w' := by
  have hdef : Hid (szB b l = if l - b.prem.length < 0 then -1 else if l - b.prem.length - b.cells.length < 0 then -1 else l - b.prem.length - b.cells.length) := Lib.hid rfl
  obtain ⟨R, hR⟩ : ∃ R, R = szB b l := ⟨_, rfl⟩
  rw [← hR] at hdef ⊢
  clear hR
  obtain ⟨sz, bp, bc⟩ := b
  simp only [Bd.v] at *
  have hb := (Below.refl w.heap.size w).alloc (Nat.le_refl _) (.cells #[.int .i64 sz, sv bp, sv bc] 26)
  by_cases n1 : l - (bp.length : Int) < 0
  · have hR : R = -1 := by rw [hdef.out, if_pos n1]
    subst hR
    go_enter Tryz.func5, Tryz.ntmps5
    go_wp2_with (fail)
    go_ret
    exact ⟨rfl, hb⟩
  · by_cases n2 : l - (bp.length : Int) - (bc.length : Int) < 0
    · have hR : R = -1 := by rw [hdef.out, if_neg n1, if_pos n2]
      subst hR
      go_enter Tryz.func5, Tryz.ntmps5
      go_wp2_with (fail)
      go_ret
      exact ⟨rfl, hb⟩
    · have hR : R = l - bp.length - bc.length := by rw [hdef.out, if_neg n1, if_neg n2]
      subst hR
      clear hdef
      go_enter Tryz.func5, Tryz.ntmps5
      go_wp2_with (fail)
      go_ret
      exact ⟨rfl, hb⟩
end Go.Proofs.YtamdcbbclkobiaaGreatDoor
/-
  Contract: equal lists of strings (the laws package).
  Conditions: both slices read as lists of strings.
-/
namespace Go.Proofs.YtamdcbbclkobiaaGreatDoor
open Go.RowKit RegP RegL RegV
set_option maxHeartbeats 2000000
set_option maxRecDepth 100000

theorem eqStringS_any (A1 A2 : Option Addr) (c1 c2 : Nat) (a b : List Str) (w : World) (h1 : Reads w w.heap.size 1 A1 a.length (a.map sv)) (h2 : Reads w w.heap.size 1 A2 b.length (b.map sv)) (hn : a.length ≤ 2 ^ 40) :
    Calls Tryz.prog 10 #[.slice A1 a.length c1, .slice A2 b.length c2] w fun e w' => e = .returned (.bool (a == b)) ∧ Below w.heap.size w w' := by
  obtain ⟨R, hR⟩ : ∃ R, R = (a == b) := ⟨_, rfl⟩
  rw [← hR]
  have hR' := Lib.hid hR
  clear hR
  by_cases hl : a.length = b.length
  · have hl1 : ((a.length : Int) != (b.length : Int)) = false := by rw [hl]; simp
    have hl' := Lib.hid hl
    clear hl
    go_enter Tryz.func10, Tryz.ntmps10
    go_wp2_with (fail)
    go_loopw [5] (fun i wr => ∃ k : Nat, k ≤ a.length ∧ i = .int .i64 k ∧ Hid (R = (a.drop k == b.drop k)) ∧ Below w.heap.size w wr) (fun i _ => a.length - (intOf i).toNat)
    case atStart => exact ⟨0, by omega, rfl, Lib.hid (by rw [hR'.out]; rfl), Below.refl _ _⟩
    case round =>
      obtain ⟨k, hk, rfl, he, hb⟩ := hrel
      by_cases hkl : k < a.length
      · have hkb : k < b.length := by rw [← hl'.out]; exact hkl
        obtain ⟨ad1, rfl, hd1, hc1⟩ := (h1.below hb).el hkl
        obtain ⟨ad2, rfl, hd2, hc2⟩ := (h2.below hb).el hkb
        have hst : Hid (R = (a[k] == b[k] && (a.drop (k + 1) == b.drop (k + 1)))) := Lib.hid (by rw [he.out, drop_cons a k hkl, drop_cons b k hkb]; rfl)
        obtain ⟨x, hx⟩ : ∃ x, x = a[k] := ⟨_, rfl⟩
        obtain ⟨y, hy⟩ : ∃ y, y = b[k] := ⟨_, rfl⟩
        rw [← hx] at hst hc1
        rw [← hy] at hst hc2
        clear hx hy
        have hkk : (k : Int) < (a.length : Int) := by omega
        have hkk2 : (k : Int) < (b.length : Int) := by omega
        have hk0 : (0 : Int) ≤ (k : Int) := by omega
        have hz1 : ad1.block < wr.heap.size := Nat.lt_of_lt_of_le hd1 hb.size
        have hz2 : ad2.block < wr.heap.size := Nat.lt_of_lt_of_le hd2 hb.size
        obtain ⟨t, ht⟩ : ∃ t, t = (x == y) := ⟨_, rfl⟩
        rw [← ht] at hst
        have ht' : (x == y) = t := ht.symm
        clear ht
        cases t
        all_goals
          go_wp2_with (fail)
          refine wp_region_b 9 (by kernel_rfl) (by kernel_rfl) ?_
          simp only [List.take_succ_cons, List.take_zero, List.drop_succ_cons, List.drop_zero]
          iterate 9
            apply pc_step rfl
            · intro w4 hb4 K hK
              have e1 : w4.cell? (ad1.add k) = some (sv x) := (hb4.cell (by rw [block_of_add]; exact hz1)).trans hc1
              have e2 : w4.cell? (ad2.add k) = some (sv y) := (hb4.cell (by rw [block_of_add]; exact hz2)).trans hc2
              go_wp2_with (fail)
              first | exact hb4 | exact hb4.trans (hb5.mono hb4.size) | exact hb4.trans (hd5.below.mono hb4.size)
            simp only [Act.put, List.setIfInBounds_toArray, List.set_cons_succ, List.set_cons_zero]
          refine pc_nil ?_
          intro w4 hb4
          have hb5 := hb.trans (hb4.mono hb.size)
          clear hb4 hc1 hc2
          go_wp2_with (fail)
        · go_ret
          exact ⟨ret_bool (by rw [hst.out]; rfl), hb5⟩
        · go_roundw
          case rel => exact ⟨k + 1, by omega, by go_num, Lib.hid (by rw [hst.out]; simp), hb5⟩
          case measure => simp [intOf]; omega
      · obtain rfl : k = a.length := by omega
        have hkk : ¬ (a.length : Int) < (a.length : Int) := by omega
        have hRt : Hid (R = true) := Lib.hid (by rw [he.out, List.drop_length, hl'.out, List.drop_length]; rfl)
        go_wp2_with (fail)
        go_ret
        exact ⟨ret_bool hRt.out.symm, hb⟩
  · have hl1 : ((a.length : Int) != (b.length : Int)) = true := by rw [bne_iff_ne]; omega
    have hRf : R = false := by rw [hR'.out, beq_eq_false_iff_ne]; intro e; exact hl (by rw [e])
    subst hRf
    clear hl
    go_enter Tryz.func10, Tryz.ntmps10
    go_wp2_with (fail)
    go_ret
    exact ⟨rfl, Below.refl _ _⟩
end Go.Proofs.YtamdcbbclkobiaaGreatDoor
/-
  Contract: the impl package's board of a board (the laws package).
  Conditions: none.
-/
namespace Go.Proofs.YtamdcbbclkobiaaGreatDoor
open Go.RowKit RegP RegL RegV
set_option maxHeartbeats 2000000
set_option maxRecDepth 100000

theorem toBoard_any (b : Bd) (w : World) :
    Calls Tryz.prog 8 #[b.v] w fun e w' => e = .returned b.v ∧ Below w.heap.size w w' := by
  obtain ⟨sz, bp, bc⟩ := b
  simp only [Bd.v]
  go_enter Tryz.func8, Tryz.ntmps8
  go_wp2_with (fail)
  exact ret_row (by rfl) (w.heap.size + 1) 33 #[.int .i64 sz, sv bp, sv bc] _ rfl ((Blk.new1 w _ _ _).alloc _) Tryz.underlying33 rfl (by kernel_rfl) rfl ⟨rfl, (((Below.refl _ _).alloc (Nat.le_refl _) _).alloc (by simp) _).alloc (by simp; omega) _⟩
theorem eqLexicon_any (A1 A2 : Option Addr) (c1 c2 : Nat) (a b : List Str) (w : World) (h1 : Reads w w.heap.size 1 A1 a.length (a.map sv)) (h2 : Reads w w.heap.size 1 A2 b.length (b.map sv)) (hn : a.length ≤ 2 ^ 40) :
    Calls Tryz.prog 11 #[.agg #[.slice A1 a.length c1], .agg #[.slice A2 b.length c2]] w fun e w' => e = .returned (.bool (a == b)) ∧ Below w.heap.size w w' := by
  have k1 := fun (W : World) (hW : Below w.heap.size w W) => eqStringS_any A1 A2 c1 c2 a b W ((h1.below hW).more hW.size) ((h2.below hW).more hW.size) hn
  obtain ⟨R, hR⟩ : ∃ R, R = (a == b) := ⟨_, rfl⟩
  rw [← hR] at k1 ⊢
  clear hR h1 h2
  have hb := ((Below.refl w.heap.size w).alloc (Nat.le_refl _) (.cells #[.slice A1 a.length c1] 31)).alloc (by simp) (.cells #[.slice A2 b.length c2] 31)
  cases R
  all_goals
    go_enter Tryz.func11, Tryz.ntmps11
    go_wp2_with (go_at_call 10; refine (k1 _ hb).mono ?_; rintro e w1 ⟨rfl, hb1⟩)
    go_ret
    exact ⟨rfl, hb.trans (hb1.mono hb.size)⟩
end Go.Proofs.YtamdcbbclkobiaaGreatDoor
/-
  Contract: the text of a mark (the laws package).
  Conditions: a number of common size.
-/
namespace Go.Proofs.YtamdcbbclkobiaaGreatDoor
open Go.RowKit RegP RegL RegV
set_option maxHeartbeats 2000000
set_option maxRecDepth 100000

def digS : Nat → Nat → Str → Str
  | 0, _, out => out
  | f + 1, n, out => if n = 0 then out else digS f (n / 10) (UInt8.ofNat (48 + n % 10) :: out)
theorem digS_zero : ∀ f out, digS f 0 out = out
  | 0, _ => rfl
  | _ + 1, _ => by simp [digS]
def markT (k : Nat) : Str := if k = 0 then [109, 48] else 109 :: digS k k []
theorem markText_any (k : Nat) (w : World) (hk : k ≤ 2 ^ 40) (h0 : 0 < k) :
    Calls Tryz.prog 24 #[.int .i64 k] w fun e w' => e = .returned (sv (markT k)) ∧ Below w.heap.size w w' := by
  have hdef : Hid (markT k = 109 :: digS k k []) := Lib.hid (by rw [markT, if_neg (by omega)])
  obtain ⟨R, hR⟩ : ∃ R, R = markT k := ⟨_, rfl⟩
  obtain ⟨D, hD⟩ : ∃ D, D = digS k k [] := ⟨_, rfl⟩
  rw [← hR] at hdef ⊢
  rw [← hD] at hdef
  have hD' := Lib.hid hD
  clear hR hD
  have hkk : ¬ (k : Int) ≤ 0 := by omega
  go_enter Tryz.func24, Tryz.ntmps24
  go_wp2_with (fail)
  go_loopw [0, 3] (fun kv ov wr => ∃ (f n : Nat) (out : Str), n ≤ f ∧ n ≤ k ∧ kv = .int .i64 n ∧ ov = sv out ∧ out.length + n ≤ 2 ^ 41 ∧ Hid (D = digS f n out) ∧ Below w.heap.size w wr) (fun kv _ _ => (intOf kv).toNat)
  case atStart => exact ⟨k, k, [], by omega, by omega, rfl, rfl, by simp; omega, hD', Below.refl _ _⟩
  case round =>
    obtain ⟨f, n, out, hnf, hnk, rfl, rfl, hol, hd, hb⟩ := hrel
    by_cases hn : 0 < n
    · obtain ⟨f', rfl⟩ : ∃ f', f = f' + 1 := ⟨f - 1, by omega⟩
      have hst : Hid (D = digS f' (n / 10) (UInt8.ofNat (48 + n % 10) :: out)) := Lib.hid (by rw [hd.out, digS, if_neg (by omega)])
      obtain ⟨ch, hch⟩ : ∃ ch, ch = UInt8.ofNat (48 + n % 10) := ⟨_, rfl⟩
      rw [← hch] at hst
      have hcv : ((ch.toNat : Nat) : Int) = 48 + (n : Int) % 10 := by
        rw [hch, UInt8.toNat_ofNat']
        omega
      have hm : (n : Int).tmod 10 = (n : Int) % 10 := Int.tmod_eq_emod_of_nonneg (by omega)
      have hdv : (n : Int).tdiv 10 = ((n / 10 : Nat) : Int) := by rw [Int.tdiv_eq_ediv_of_nonneg (by omega)]; omega
      clear hch
      have hbv : bv ch = .int .u8 (48 + (n : Int) % 10) := by rw [← hcv]
      have hcs := run_string_own (P := Tryz.prog) (wr.alloc (.cells #[bv ch] 5)) 57 9 5 Tryz.underlying57 Tryz.underlying5 Tryz.underlying9 (l := [ch]) (World.ownsRow_lit (base := wr.heap.size) (size := 1) (e := 5) wr #[bv ch] 1 (Nat.le_refl _) (by unfold maxLen; omega) rfl)
      rw [hbv] at hcs
      have hcs' : (convert 57 9 (.slice (some ⟨wr.heap.size, 0, none⟩) 1 1)).run Tryz.prog (wr.alloc (.cells #[.int .u8 (48 + (n : Int) % 10)] 5)) = .ok (sv [ch]) (wr.alloc (.cells #[.int .u8 (48 + (n : Int) % 10)] 5)) := hcs
      clear hcs hbv hcv
      go_wp2_with (fail)
      go_roundw
      case rel => exact ⟨f', n / 10, ch :: out, by omega, by omega, by congr 1, rfl, by simp; omega, hst, hb.alloc hb.size _⟩
      case measure => simp only [intOf]; omega
    · obtain rfl : n = 0 := by omega
      have hDo : Hid (D = out) := Lib.hid (by rw [hd.out, digS_zero])
      go_wp2_with (fail)
      go_ret
      exact ⟨ret_str (by rw [hdef.out, hDo.out]), hb⟩
end Go.Proofs.YtamdcbbclkobiaaGreatDoor
/-
  Contract: are the marks held (the laws package).
  Conditions: the slice reads as a list of strings; a number of common size.
-/
namespace Go.Proofs.YtamdcbbclkobiaaGreatDoor
open Go.RowKit RegP RegL RegV
set_option maxHeartbeats 2000000
set_option maxRecDepth 100000

def heldB : List Str → Nat → Bool
  | [], _ => true
  | x :: r, k => x == markT k && heldB r (k + 1)
theorem heldStringS_any (A : Option Addr) (c : Nat) (a : List Str) (k : Nat) (w : World) (h : Reads w w.heap.size 1 A a.length (a.map sv)) (hn : a.length ≤ 2 ^ 32) (hk : k ≤ 2 ^ 32) (h0 : 0 < k) :
    Calls Tryz.prog 14 #[.slice A a.length c, .int .i64 k] w fun e w' => e = .returned (.int .i64 (if heldB a k then ((k + a.length : Nat) : Int) else -1)) ∧ Below w.heap.size w w' := by
  obtain ⟨R, hR⟩ : ∃ R : Int, R = if heldB a k then ((k + a.length : Nat) : Int) else -1 := ⟨_, rfl⟩
  rw [← hR]
  obtain ⟨H, hH⟩ : ∃ H, H = heldB a k := ⟨_, rfl⟩
  rw [← hH] at hR
  have hH' := Lib.hid hH
  have hR' := Lib.hid hR
  clear hH hR
  go_enter Tryz.func14, Tryz.ntmps14
  go_wp2_with (fail)
  go_loopw [1, 5] (fun kv i wr => ∃ (j : Nat), j ≤ a.length ∧ i = .int .i64 j ∧ kv = .int .i64 ((k + j : Nat) : Int) ∧ Hid (H = heldB (a.drop j) (k + j)) ∧ Below w.heap.size w wr) (fun _ i _ => a.length - (intOf i).toNat)
  case atStart => exact ⟨0, by omega, rfl, rfl, Lib.hid (by rw [hH'.out]; rfl), Below.refl _ _⟩
  case round =>
    obtain ⟨j, hj, rfl, rfl, he, hb⟩ := hrel
    by_cases hkl : j < a.length
    · obtain ⟨ad1, rfl, hd1, hc1⟩ := (h.below hb).el hkl
      have hst : Hid (H = (a[j] == markT (k + j) && heldB (a.drop (j + 1)) (k + (j + 1)))) := Lib.hid (by rw [he.out, drop_cons a j hkl]; rfl)
      have km := fun w => markText_any (k + j) w (by omega) (by omega)
      obtain ⟨x, hx⟩ : ∃ x, x = a[j] := ⟨_, rfl⟩
      obtain ⟨y, hy⟩ : ∃ y, y = markT (k + j) := ⟨_, rfl⟩
      rw [← hx] at hst hc1
      rw [← hy] at hst km
      clear hx hy
      have hkk : (j : Int) < (a.length : Int) := by omega
      have hk0 : (0 : Int) ≤ (j : Int) := by omega
      have hz1 : ad1.block < wr.heap.size := Nat.lt_of_lt_of_le hd1 hb.size
      obtain ⟨m, hm⟩ : ∃ m : Int, m = ((k + j : Nat) : Int) := ⟨_, rfl⟩
      have hm1 : ((k + (j + 1) : Nat) : Int) = m + 1 := by omega
      have hm2 : 0 ≤ m := by omega
      have hm3 : m ≤ 17179869184 := by omega
      rw [← hm] at km ⊢
      have hm1' := Lib.hid hm1
      clear hm hm1
      obtain ⟨t, ht⟩ : ∃ t, t = (x == y) := ⟨_, rfl⟩
      rw [← ht] at hst
      have ht' : (x == y) = t := ht.symm
      clear ht
      cases t
      all_goals
        go_wp2_with (fail)
        refine wp_region_b 7 (by kernel_rfl) (by kernel_rfl) ?_
        simp only [List.take_succ_cons, List.take_zero, List.drop_succ_cons, List.drop_zero]
        iterate 7
          apply pc_step rfl
          · intro w4 hb4 K hK
            have e1 : w4.cell? (ad1.add j) = some (sv x) := (hb4.cell (by rw [block_of_add]; exact hz1)).trans hc1
            go_wp2_with (first | (go_at_call 24; (with_reducible refine (km _).mono ?_); rintro e w5 ⟨rfl, hb5⟩))
            first | exact hb4 | exact hb4.trans (hb5.mono hb4.size) | exact hb4.trans (hd5.below.mono hb4.size)
          simp only [Act.put, List.setIfInBounds_toArray, List.set_cons_succ, List.set_cons_zero]
        refine pc_nil ?_
        intro w4 hb4
        have hb6 := hb.trans (hb4.mono hb.size)
        clear hb4 hc1
        go_wp2_with (fail)
      · have hHf : H = false := by rw [hst.out]; rfl
        go_ret
        exact ⟨ret_int (by rw [hR'.out, hHf]; rfl), hb6⟩
      · go_roundw
        case rel => exact ⟨j + 1, by omega, by go_num, by rw [hm1'.out], Lib.hid (by rw [hst.out]; simp), hb6⟩
        case measure => simp [intOf]; omega
    · obtain rfl : j = a.length := by omega
      have hkk : ¬ (a.length : Int) < (a.length : Int) := by omega
      have hHt : H = true := by rw [he.out, List.drop_length]; rfl
      go_wp2_with (fail)
      go_ret
      exact ⟨ret_int (by rw [hR'.out, hHt]; rfl), hb⟩
end Go.Proofs.YtamdcbbclkobiaaGreatDoor
