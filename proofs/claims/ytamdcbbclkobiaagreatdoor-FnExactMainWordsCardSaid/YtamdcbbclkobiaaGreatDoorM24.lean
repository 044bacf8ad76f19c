/-
  Contracts: the wrong words of a play (layer 12 of the impl package); Contracts: the letters on a board, blank boards (layer 11 of the impl package); Contract: how a play touches the letters on a board (layer 12 of the impl package).
  Conditions: as each part below says.
-/
import Derived.Test.YtamdcbbclkobiaaGreatDoorM18
import Derived.Test.YtamdcbbclkobiaaGreatDoorM23
import Derived.Test.YtamdcbbclkobiaaGreatDoorM11
import Derived.Test.YtamdcbbclkobiaaGreatDoorM14
import Derived.Test.YtamdcbbclkobiaaGreatDoorM15
import Derived.Lib.Builder
import Derived.Lib.UnsafeStr
import Derived.Laws.Externs
import Derived.RegionTactic
import Derived.Laws.Rows
import Derived.Laws.Tables
import Derived.Lib.OthersKept
/-
  Contracts: the wrong words of a play (layer 12 of the impl package).
  Conditions: as for the words of a play; the words of the lexicon increase.
-/
namespace Go.Proofs.YtamdcbbclkobiaaGreatDoor
open Go.RowKit RegP RegL RegV
set_option maxHeartbeats 1000000
set_option maxRecDepth 100000

/-- The words that a lexicon does not have. -/
def wrongS (lex ws : List Str) : List Str := ws.filter fun x => !hasB lex x
theorem wrongS_step (lex ws : List Str) (k : Nat) (h : k < ws.length) : wrongS lex (ws.take (k + 1)) = if hasB lex ws[k] then wrongS lex (ws.take k) else wrongS lex (ws.take k) ++ [ws[k]] := by
  rw [List.take_succ_eq_append_getElem h]
  unfold wrongS
  rw [List.filter_append]
  cases hh : hasB lex ws[k] <;> simp [hh]
theorem wrongS_length (lex ws : List Str) : (wrongS lex ws).length ≤ ws.length := List.length_filter_le _ _
theorem selected_any (A Ax : Option Addr) (c cx g : Nat) (lex ws : List Str) (w : World) (hg : w.cell? ⟨g, 0, none⟩ = some (.slice A lex.length c)) (hr : Reads w w.heap.size 1 A lex.length (lex.map sv)) (hA : Plain0 A) (hi : incB lex = true) (hn : lex.length ≤ 2 ^ 32)
    (hx : Reads w w.heap.size 1 Ax ws.length (ws.map sv)) (hl : ws.length ≤ 2 ^ 33) :
    Calls Tryz.prog 117 #[.slice Ax ws.length cx, .func (.func 118) #[] #[.pointer (some ⟨g, 0, none⟩)]] w fun e w' => ∃ v, e = .returned v ∧ w'.ownsRow w.heap.size 9 1 v (wrongS lex ws).length ((wrongS lex ws).map sv) ∧ Below w.heap.size w w' := by
  have hgz : g < w.heap.size := World.block_lt_of_cell? w _ hg
  have kc : ∀ (s : Str) (W : World), Below w.heap.size w W → Calls Tryz.prog 118 #[sv s, .pointer (some ⟨g, 0, none⟩)] W fun e w' => e = .returned (.bool (!hasB lex s)) ∧ Below W.heap.size W w' := fun s W hW =>
    wrong1_any g A c lex s W (by rw [hW.cell (by exact hgz)]; exact hg) ((hr.below hW).more hW.size) hA hi hn
  have hst := Lib.hid (wrongS_step lex ws)
  have hln := Lib.hid (fun k => wrongS_length lex (ws.take k))
  have hend : Hid (wrongS lex ws = wrongS lex (ws.take ws.length)) := Lib.hid (by rw [List.take_length])
  have h0 : Hid (wrongS lex (ws.take 0) = []) := Lib.hid rfl
  obtain ⟨WS, hWS⟩ : ∃ WS, WS = wrongS lex := ⟨_, rfl⟩
  obtain ⟨HB, hHB⟩ : ∃ HB, HB = hasB lex := ⟨_, rfl⟩
  rw [← hWS] at hst hln hend h0 ⊢
  rw [← hHB] at kc hst
  clear hWS hHB hi hA hr hg
  have hx0 : Reads (w.alloc (.cells #[] 9)) w.heap.size 1 Ax ws.length (ws.map sv) := hx.alloc (Nat.le_refl _) _
  have ow0 := World.ownsRow_lit (base := w.heap.size) (size := 1) (e := 9) w #[] 0 (Nat.le_refl _) (by unfold maxLen; omega) rfl
  have hb0 := (Below.refl w.heap.size w).alloc (Nat.le_refl _) (.cells #[] 9)
  go_enter Tryz.func117, Tryz.ntmps117
  go_wp2_with (fail)
  go_loopw [5, 11] (fun o i wr => ∃ k : Nat, k ≤ ws.length ∧ i = .int .i64 k ∧ wr.ownsRow w.heap.size 9 1 o (WS (ws.take k)).length ((WS (ws.take k)).map sv) ∧ Below w.heap.size w wr) (fun _ i _ => ws.length - (intOf i).toNat)
  case atStart => exact ⟨0, by omega, rfl, by rw [h0.out]; exact ow0, hb0⟩
  case round =>
    clear ow0 hb0 hx0
    obtain ⟨k, hk, rfl, own, hb⟩ := hrel
    by_cases hkl : k < ws.length
    · obtain ⟨ad, rfl, hadb, hc⟩ := (hx.below hb).el hkl
      have hstep := Lib.hid (hst.out k hkl)
      obtain ⟨x, hxx⟩ : ∃ x, x = ws[k] := ⟨_, rfl⟩
      rw [← hxx] at hstep hc
      clear hxx
      have hkk : (k : Int) < (ws.length : Int) := by omega
      have hadz : ad.block < wr.heap.size := Nat.lt_of_lt_of_le hadb hb.size
      have hl2 := hln.out k
      rw [List.length_take] at hl2
      obtain ⟨S, hS⟩ : ∃ S, S = WS (ws.take k) := ⟨_, rfl⟩
      rw [← hS] at own hstep hl2
      clear hS
      have kcx := kc x wr hb
      have hSl : S.length + 1 ≤ 1099511627776 := by omega
      obtain ⟨h, hh⟩ : ∃ h, h = HB x := ⟨_, rfl⟩
      rw [← hh] at kcx hstep
      clear hh hl2
      cases h
      · have hst2 : Hid (WS (ws.take (k + 1)) = S ++ [x]) := Lib.hid (by rw [hstep.out]; rfl)
        simp only [Bool.not_false] at kcx
        have hlit := run_lit1 strT1 (sv x) #[sv x] rfl rfl (by omega)
        go_wp2_with (first
          | (go_at_call 118; refine kcx.mono ?_; rintro e w2 ⟨rfl, hb2⟩
             have own2 := own_call own hb2
             have hb3 := hb.trans (hb2.mono hb.size)
             have hz3 := hb3.size)
          | (at_builtin; refine wpList_app strT1 rfl (.tmp 18) (.tmp 20) rfl _ S.length _ rfl w.heap.size own2 [sv x] rfl (by simp [Value.oneCell', sv]) rfl hSl (by omega) hz3 ?_; intro v6 w6 own6 hg6 hat6))
        go_roundw
        case rel => exact ⟨k + 1, by omega, by go_num, own_cast own6 (by rw [hst2.out]; simp) (by rw [hst2.out]; simp), Below.own hb3 hz3 own2 (Nat.le_refl _) hg6⟩
        case measure => simp [intOf]; omega
      · have hst2 : Hid (WS (ws.take (k + 1)) = S) := Lib.hid (by rw [hstep.out]; rfl)
        simp only [Bool.not_true] at kcx
        go_wp2_with (go_at_call 118; refine kcx.mono ?_; rintro e w2 ⟨rfl, hb2⟩)
        go_roundw
        case rel => exact ⟨k + 1, by omega, by go_num, by rw [hst2.out]; exact own_call own hb2, hb.trans (hb2.mono hb.size)⟩
        case measure => simp [intOf]; omega
    · obtain rfl : k = ws.length := by omega
      have hkk : ¬ (ws.length : Int) < (ws.length : Int) := by omega
      rw [← hend.out] at own
      go_wp2_with (fail)
      go_ret
      exact ⟨_, rfl, own, hb⟩
theorem wrongWords_any (b : Bd) (q : Pl) (A : Option Addr) (c : Nat) (lex : List Str) (w : World) (hf : b.Fit) (hba : asciiB b.cells = true) (ha : asciiB q.word = true) (hon : OnQ b q) (hl : q.word.length ≤ 2 ^ 32) (h1 : -400000000000 ≤ q.row) (h2 : q.row ≤ 400000000000) (h3 : -400000000000 ≤ q.col) (h4 : q.col ≤ 400000000000)
    (hr : Reads w w.heap.size 1 A lex.length (lex.map sv)) (hA : Plain0 A) (hi : incB lex = true) (hn : lex.length ≤ 2 ^ 32) :
    Calls Tryz.prog 70 #[b.v, .agg #[.slice A lex.length c], q.v] w fun e w' => ∃ v, e = .returned v ∧ w'.ownsRow w.heap.size 9 1 v (wrongS lex (wordsI b q)).length ((wrongS lex (wordsI b q)).map sv) ∧ Below w.heap.size w w' := by
  have kw := fun w => wordsFormed_any b q w hf hba ha hon hl h1 h2 h3 h4
  have hwl : (wordsI b q).length ≤ 2 ^ 33 := by
    have := crossP_length b q (newL b q)
    have h := newTo_length b q q.word.length
    change (newL b q).length ≤ _ at h
    simp [wordsI, crossW]; omega
  obtain ⟨WI, hWI⟩ : ∃ WI, WI = wordsI b q := ⟨_, rfl⟩
  rw [← hWI] at kw hwl ⊢
  clear hWI hf hba ha hon h1 h2 h3 h4
  obtain ⟨Z, hZ⟩ : ∃ Z, Z = wrongS lex WI := ⟨_, rfl⟩
  have ksel := fun (Ax : Option Addr) (cx g : Nat) (W : World) (hg : W.cell? ⟨g, 0, none⟩ = some (.slice A lex.length c)) (hr : Reads W W.heap.size 1 A lex.length (lex.map sv)) (hx : Reads W W.heap.size 1 Ax WI.length (WI.map sv)) => selected_any A Ax c cx g lex WI W hg hr hA hi hn hx hwl
  rw [← hZ] at ksel ⊢
  clear hZ hi
  simp only [Bd.v, Pl.v] at *
  have hmf : ∀ (fn : Fn) (first cap : Array Value) (w : World), (Instr.makeFunc fn first cap).run Tryz.prog w = .ok (.func fn first cap) w := fun _ _ _ _ => rfl
  obtain ⟨sz, bp, bc⟩ := b
  obtain ⟨qr, qc, qd, qw⟩ := q
  obtain ⟨W0, hW0⟩ : ∃ W0, W0 = ((w.alloc (.cells #[.int .i64 sz, sv bp, sv bc] 33)).alloc (.cells #[.slice A lex.length c] 31)).alloc (.cells #[.int .i64 qr, .int .i64 qc, .bool qd, sv qw] 48) := ⟨_, rfl⟩
  have hL0 : Blk W0 (w.heap.size + 1) 31 #[.slice A lex.length c] := by rw [hW0]; exact (Blk.new1 w _ _ _).alloc _
  have hb0 : Below w.heap.size w W0 := by rw [hW0]; exact (((Below.refl _ _).alloc (Nat.le_refl _) _).alloc (by simp) _).alloc (by simp; omega) _
  go_enter Tryz.func70, Tryz.ntmps70
  go_wp2_with (first
    | (go_at_call 69; rw [← hW0]; refine (kw _).mono ?_; rintro e w1 ⟨v, rfl, own, hb1⟩; obtain ⟨Ax, cx, rfl, hcx, hrx⟩ := own_sl own
       have hb01 := hb0.trans (hb1.mono hb0.size)
       have hL1 := hL0.below hb1 hL0.lt)
    | (go_at_call 117; refine (ksel _ _ _ _ (hL1.cell 0) ((hr.below hb01).more hb01.size) hrx).mono ?_; rintro e w2 ⟨v, rfl, own2, hb2⟩))
  go_ret
  exact ⟨_, rfl, own_base own2 hb01.size, hb01.trans (hb2.mono hb01.size)⟩
end Go.Proofs.YtamdcbbclkobiaaGreatDoor
/-
  Contracts: the letters on a board, blank boards (layer 11 of the impl package).
  Conditions: the library's own variable is as the program sets it.
-/
namespace Go.Proofs.YtamdcbbclkobiaaGreatDoor
open Go.RowKit RegP RegL RegV
set_option maxHeartbeats 1000000
set_option maxRecDepth 100000

theorem replace_dots : ∀ s : Str, Lib.replaceK [46] [] (Lib.count s [46]) s = s.filter fun c => !(c == 46)
  | [] => rfl
  | c :: l => by
    have ih := replace_dots l
    by_cases hc : c = 46
    · subst hc
      rw [Lib.count_cons_eq, Nat.add_comm, Lib.replaceK_hit [46] [] _ _ 0 (by rfl)]
      simpa using ih
    · have hf : (c :: l).filter (fun c => !(c == 46)) = c :: l.filter (fun c => !(c == 46)) := List.filter_cons_of_pos (by simpa using hc)
      rw [Lib.count_cons_ne c 46 l hc, hf]
      cases hk : Lib.count l [46] with
      | zero =>
        rw [hk] at ih
        show c :: l = _
        rw [← ih]; rfl
      | succ k =>
        rw [hk] at ih
        obtain ⟨i, hi⟩ := Lib.index_of_count (s := l) (old := [46]) (by omega)
        rw [Lib.replaceK_hit [46] [] k l i hi] at ih
        have hi2 : Lib.index (c :: l) [46] = ((i + 1 : Nat) : Int) := by
          rw [Lib.index]
          have hp : ([46] : Str).isPrefixOf (c :: l) = false := by
            simp [List.isPrefixOf]
            exact fun h => hc h.symm
          rw [hp, hi]
          have : ((i : Int) == -1) = false := by rw [beq_eq_false_iff_ne]; omega
          rw [this]; simp
        rw [Lib.replaceK_hit [46] [] k (c :: l) (i + 1) hi2, ← ih]
        simp
theorem replaceAll_dots (s : Str) : Lib.replaceAll s [46] [] = s.filter fun c => !(c == 46) := by
  unfold Lib.replaceAll Lib.replace
  rw [if_neg (by decide)]
  have : Lib.replaceNum s [46] (-1) = Lib.count s [46] := by unfold Lib.replaceNum; rw [if_pos (.inl (by decide))]
  rw [this, replace_dots]
/-- The library's variable. -/
def MaxOk (w : World) : Prop := ∃ m : Int, w.cell? ⟨1, 0, none⟩ = some (.int .i64 m)
theorem MaxOk.below {w w' : World} (h : MaxOk w) (hb : Below w.heap.size w w') : MaxOk w' := by
  obtain ⟨m, h⟩ := h
  exact ⟨m, by rw [hb.cell (World.block_lt_of_cell? w _ h)]; exact h⟩
theorem MaxOk.alloc {w : World} (h : MaxOk w) (o : Obj) : MaxOk (w.alloc o) := h.below ((Below.refl _ _).alloc (Nat.le_refl _) o)
theorem lettersOn_any (b : Bd) (w : World) (hm : MaxOk w) (hl : b.cells.length ≤ 2 ^ 30) :
    Calls Tryz.prog 163 #[b.v] w fun e w' => e = .returned (sv (lettersS b)) ∧ Below w.heap.size w w' := by
  have key : ∀ W, Below w.heap.size w W → Calls Tryz.prog 185 #[sv b.cells, .string ⟨#[46]⟩, .string ⟨#[]⟩] W fun e w' => e = .returned (sv (lettersS b)) ∧ Below W.heap.size W w' := fun W hW => by
    obtain ⟨m, hm⟩ := hm.below hW
    have h := Tryz.strings_ReplaceAll ⟨b.cells.toArray⟩ ⟨#[46]⟩ ⟨#[]⟩ m W (by simp [ByteArray.size]; omega) hm (by decide) (by simp [ByteArray.size]; omega)
    have e : Lib.replaceAll (ByteArray.mk b.cells.toArray).data.toList (ByteArray.mk #[46]).data.toList (ByteArray.mk #[]).data.toList = lettersS b := replaceAll_dots b.cells
    rw [e] at h
    exact h
  obtain ⟨L, hL⟩ : ∃ L, L = lettersS b := ⟨_, rfl⟩
  rw [← hL] at key ⊢
  clear hL hm
  simp only [Bd.v] at *
  have hbW := (Below.refl w.heap.size w).alloc (Nat.le_refl _) (.cells #[.int .i64 b.size, sv b.prem, sv b.cells] 33)
  go_enter Tryz.func163, Tryz.ntmps163
  go_wp2_with (go_at_call 185; refine (key _ hbW).mono ?_; rintro e w1 ⟨rfl, hb1⟩)
  go_ret
  exact ⟨rfl, hbW.trans (hb1.mono hbW.size)⟩
theorem blank_any (b : Bd) (w : World) (hm : MaxOk w) (hl : b.cells.length ≤ 2 ^ 30) :
    Calls Tryz.prog 114 #[b.v] w fun e w' => e = .returned (.bool (lettersS b).isEmpty) ∧ Below w.heap.size w w' := by
  have key := fun w hm => lettersOn_any b w hm hl
  have he := sv_beq (lettersS b) []
  have he2 : (lettersS b == []) = (lettersS b).isEmpty := by cases lettersS b <;> rfl
  rw [he2] at he
  obtain ⟨L, hL⟩ : ∃ L, L = lettersS b := ⟨_, rfl⟩
  rw [← hL] at key he ⊢
  clear hL he2
  obtain ⟨R, hR⟩ : ∃ R, R = L.isEmpty := ⟨_, rfl⟩
  rw [← hR] at he ⊢
  clear hR
  simp only [Bd.v] at *
  have hbW := (Below.refl w.heap.size w).alloc (Nat.le_refl _) (.cells #[.int .i64 b.size, sv b.prem, sv b.cells] 33)
  have hmW := hm.alloc (.cells #[.int .i64 b.size, sv b.prem, sv b.cells] 33)
  have he' : (L.toArray == #[]) = R := he
  clear he
  go_enter Tryz.func114, Tryz.ntmps114
  cases R
  all_goals
    go_wp2_with (go_at_call 163; refine (key _ hmW).mono ?_; rintro e w1 ⟨rfl, hb1⟩)
    go_ret
    exact ⟨ret_bool (by simp_all), hbW.trans (hb1.mono hbW.size)⟩
end Go.Proofs.YtamdcbbclkobiaaGreatDoor
/-
  Contract: how a play touches the letters on a board (layer 12 of the impl package).
  Conditions: as for the words of a play.
-/
namespace Go.Proofs.YtamdcbbclkobiaaGreatDoor
open Go.RowKit RegP RegL RegV
set_option maxHeartbeats 1000000
set_option maxRecDepth 100000

/-- Does a play touch the letters on a board, or the middle of a blank one? -/
def touchI (b : Bd) (q : Pl) : Bool :=
  if (lettersS b).isEmpty then (sqL q (newL b q)).any (fun s => s == (b.size / 2, b.size / 2))
  else decide ((newL b q).length < q.word.length) || decide (1 < (wordsI b q).length)
theorem sq_any (S : List (Int × Int)) (p : Int × Int) (k : Nat) (h : k < S.length) (h0 : (S.take k).any (fun s => s == p) = false) :
    (S.take (k + 1)).any (fun s => s == p) = (S[k] == p) ∧ ((S[k] == p) = true → S.any (fun s => s == p) = true) := by
  constructor
  · rw [List.take_succ_eq_append_getElem h, List.any_append, h0]; simp
  · intro hp
    exact List.any_eq_true.2 ⟨S[k], List.getElem_mem h, hp⟩
theorem touches_any (b : Bd) (q : Pl) (w : World) (hm : MaxOk w) (hf : b.Fit) (hba : asciiB b.cells = true) (ha : asciiB q.word = true) (hon : OnQ b q) (hl : q.word.length ≤ 2 ^ 32) (h1 : -400000000000 ≤ q.row) (h2 : q.row ≤ 400000000000) (h3 : -400000000000 ≤ q.col) (h4 : q.col ≤ 400000000000) :
    Calls Tryz.prog 68 #[b.v, q.v] w fun e w' => e = .returned (.bool (touchI b q)) ∧ Below w.heap.size w w' := by
  have kn := fun w => newSquares_any b q w hf ha hl h1 h2 h3 h4
  have kw := fun w => wordsFormed_any b q w hf hba ha hon hl h1 h2 h3 h4
  have hcl : b.cells.length ≤ 2 ^ 30 := by
    have h1 := hf.cells; have h5 := hf.lo; have h15 := hf.hi
    have := (mul_bounds (r := 0) (c := 0) h5 h15 (by omega) (by omega) (by omega) (by omega)).2.2.2.2
    omega
  have kb := fun w hm => blank_any b w hm hcl
  have h5 := hf.lo
  have h15 := hf.hi
  have hNl := newTo_length b q q.word.length
  change (newL b q).length ≤ _ at hNl
  have hWl : (wordsI b q).length ≤ 2 ^ 33 := by
    have := crossP_length b q (newL b q)
    simp [wordsI, crossW]; omega
  have hSl : (sqL q (newL b q)).length = (newL b q).length := by simp [sqL]
  have hdef : Hid (touchI b q = if (lettersS b).isEmpty then (sqL q (newL b q)).any (fun s => s == (b.size / 2, b.size / 2)) else decide ((newL b q).length < q.word.length) || decide (1 < (wordsI b q).length)) := Lib.hid rfl
  have hany := Lib.hid (sq_any (sqL q (newL b q)) (b.size / 2, b.size / 2))
  obtain ⟨LE, hLE⟩ : ∃ LE, LE = (lettersS b).isEmpty := ⟨_, rfl⟩
  obtain ⟨WI, hWI⟩ : ∃ WI, WI = wordsI b q := ⟨_, rfl⟩
  obtain ⟨SQ, hSQ⟩ : ∃ SQ, SQ = sqL q (newL b q) := ⟨_, rfl⟩
  obtain ⟨N, hN⟩ : ∃ N, N = newL b q := ⟨_, rfl⟩
  obtain ⟨R, hR⟩ : ∃ R, R = touchI b q := ⟨_, rfl⟩
  rw [← hLE] at kb hdef
  rw [← hWI] at kw hdef hWl
  rw [← hSQ] at kn hdef hSl hany
  rw [← hN] at kn hdef hSl hNl
  rw [← hR] at hdef ⊢
  clear hLE hWI hSQ hN hR hf hba ha hon h1 h2 h3 h4 hcl
  have hSl' := Lib.hid hSl
  clear hSl
  obtain ⟨sz, bp, bc⟩ := b
  obtain ⟨qr, qc, qd, qw⟩ := q
  simp only [Bd.v, Pl.v] at *
  have hB1 := Blk.new1 w (.cells #[.int .i64 sz, sv bp, sv bc] 33) 48 #[.int .i64 qr, .int .i64 qc, .bool qd, sv qw]
  have hB0 := (Blk.new w 33 #[.int .i64 sz, sv bp, sv bc]).alloc (.cells #[.int .i64 qr, .int .i64 qc, .bool qd, sv qw] 48)
  have hbW := ((Below.refl w.heap.size w).alloc (Nat.le_refl _) (.cells #[.int .i64 sz, sv bp, sv bc] 33)).alloc (by simp) (.cells #[.int .i64 qr, .int .i64 qc, .bool qd, sv qw] 48)
  have hmW := (hm.alloc (.cells #[.int .i64 sz, sv bp, sv bc] 33)).alloc (.cells #[.int .i64 qr, .int .i64 qc, .bool qd, sv qw] 48)
  have hd2 : sz.tdiv 2 = sz / 2 := Int.tdiv_eq_ediv_of_nonneg (by omega)
  clear hm
  cases LE
  · have hR : Hid (R = (decide (N.length < qw.length) || decide (1 < WI.length))) := Lib.hid (by rw [hdef.out]; rfl)
    clear hany hdef
    by_cases hlt : N.length < qw.length
    · have hR2 : R = true := by rw [hR.out, decide_eq_true hlt]; rfl
      subst hR2
      have hlt' : (N.length : Int) < (qw.length : Int) := by omega
      clear hR
      go_enter Tryz.func68, Tryz.ntmps68
      go_wp2_with (first
        | (go_at_call 65; refine (kn _).mono ?_; rintro e w1 ⟨v1, v2, rfl, ownA, ownB, hb1⟩; obtain ⟨A1, n1, rfl, hn1, hr1, hf1⟩ := own_form ownA; clear ownA ownB
           have hD0 := hB0.below hb1 hB0.lt
           have hD1 := hB1.below hb1 hB1.lt
           have c0 : w1.cell? ⟨w.heap.size, 0, none⟩ = some (.int .i64 sz) := hD0.cell 0
           have c1 : w1.cell? ⟨w.heap.size, 1, none⟩ = some (sv bp) := hD0.cell 1
           have c2 : w1.cell? ⟨w.heap.size, 2, none⟩ = some (sv bc) := hD0.cell 2
           have hm1 := hmW.below hb1)
        | (go_at_call 114; refine (kb _ hm1).mono ?_; rintro e w2 ⟨rfl, hb2⟩
           have hE1 := hD1.below hb2 hD1.lt
           have d3 : w2.cell? ⟨w.heap.size + 1, 3, none⟩ = some (sv qw) := hE1.cell 3))
      go_ret
      exact ⟨rfl, (hbW.trans (hb1.mono hbW.size)).trans (hb2.mono (hbW.trans (hb1.mono hbW.size)).size)⟩
    · obtain ⟨T, hT⟩ : ∃ T, T = decide (1 < WI.length) := ⟨_, rfl⟩
      have hR2 : R = T := by rw [hR.out, decide_eq_false hlt, hT]; rfl
      subst hR2
      have hlt' : ¬ (N.length : Int) < (qw.length : Int) := by omega
      have hgt : decide ((1 : Int) < (WI.length : Int)) = R := by rw [hT, decide_eq_decide]; omega
      clear hR
      go_enter Tryz.func68, Tryz.ntmps68
      go_wp2_with (first
        | (go_at_call 65; refine (kn _).mono ?_; rintro e w1 ⟨v1, v2, rfl, ownA, ownB, hb1⟩; obtain ⟨A1, n1, rfl, hn1, hr1, hf1⟩ := own_form ownA; clear ownA ownB
           have hD0 := hB0.below hb1 hB0.lt
           have hD1 := hB1.below hb1 hB1.lt
           have c0 : w1.cell? ⟨w.heap.size, 0, none⟩ = some (.int .i64 sz) := hD0.cell 0
           have c1 : w1.cell? ⟨w.heap.size, 1, none⟩ = some (sv bp) := hD0.cell 1
           have c2 : w1.cell? ⟨w.heap.size, 2, none⟩ = some (sv bc) := hD0.cell 2
           have hm1 := hmW.below hb1)
        | (go_at_call 114; refine (kb _ hm1).mono ?_; rintro e w2 ⟨rfl, hb2⟩
           have hE0 := hD0.below hb2 hD0.lt
           have hE1 := hD1.below hb2 hD1.lt
           have e0 : w2.cell? ⟨w.heap.size, 0, none⟩ = some (.int .i64 sz) := hE0.cell 0
           have e1 : w2.cell? ⟨w.heap.size, 1, none⟩ = some (sv bp) := hE0.cell 1
           have e2 : w2.cell? ⟨w.heap.size, 2, none⟩ = some (sv bc) := hE0.cell 2
           have d0 : w2.cell? ⟨w.heap.size + 1, 0, none⟩ = some (.int .i64 qr) := hE1.cell 0
           have d1 : w2.cell? ⟨w.heap.size + 1, 1, none⟩ = some (.int .i64 qc) := hE1.cell 1
           have d2 : w2.cell? ⟨w.heap.size + 1, 2, none⟩ = some (.bool qd) := hE1.cell 2
           have d3 : w2.cell? ⟨w.heap.size + 1, 3, none⟩ = some (sv qw) := hE1.cell 3)
        | (go_at_call 69; refine (kw _).mono ?_; rintro e w3 ⟨v3, rfl, ow3, hb3⟩; obtain ⟨A3, n3, rfl, hn3, hr3⟩ := own_sl ow3; clear ow3))
      have hb12 := (hbW.trans (hb1.mono hbW.size)).trans (hb2.mono (hbW.trans (hb1.mono hbW.size)).size)
      go_ret
      exact ⟨ret_bool (by rw [← hgt, decide_eq_decide]; omega), hb12.trans (hb3.mono hb12.size)⟩
  · have hR : Hid (R = SQ.any (fun s => s == (sz / 2, sz / 2))) := Lib.hid (by rw [hdef.out]; rfl)
    have hNz : N.length ≤ 2 ^ 32 := by omega
    clear hdef kw hNl hWl
    have hd2' : 0 ≤ sz / 2 ∧ sz / 2 ≤ 7 := by omega
    obtain ⟨mid, hmid⟩ : ∃ mid, mid = sz / 2 := ⟨_, rfl⟩
    rw [← hmid] at hd2 hR hany hd2'
    clear hmid
    go_enter Tryz.func68, Tryz.ntmps68
    go_wp2_with (first
      | (go_at_call 65; refine (kn _).mono ?_; rintro e w1 ⟨v1, v2, rfl, ownA, ownB, hb1⟩; obtain ⟨A1, n1, rfl, hn1, hr1, hf1⟩ := own_form ownA; clear ownA ownB
         have hD0 := hB0.below hb1 hB0.lt
         have hD1 := hB1.below hb1 hB1.lt
         have c0 : w1.cell? ⟨w.heap.size, 0, none⟩ = some (.int .i64 sz) := hD0.cell 0
         have c1 : w1.cell? ⟨w.heap.size, 1, none⟩ = some (sv bp) := hD0.cell 1
         have c2 : w1.cell? ⟨w.heap.size, 2, none⟩ = some (sv bc) := hD0.cell 2
         have hm1 := hmW.below hb1)
      | (go_at_call 114; refine (kb _ hm1).mono ?_; rintro e w2 ⟨rfl, hb2⟩
         have hE0 := hD0.below hb2 hD0.lt
         have hE1 := hD1.below hb2 hD1.lt
         have e0 : w2.cell? ⟨w.heap.size, 0, none⟩ = some (.int .i64 sz) := hE0.cell 0))
    have hb12 := (hbW.trans (hb1.mono hbW.size)).trans (hb2.mono (hbW.trans (hb1.mono hbW.size)).size)
    obtain ⟨W, hW⟩ : ∃ W, W = w2.alloc (.cells #[.int .i64 mid, .int .i64 mid] 87) := ⟨_, rfl⟩
    have hb3 : Below w2.heap.size w2 W := by rw [hW]; exact (Below.refl _ _).alloc (Nat.le_refl _) _
    have hC : Blk W w2.heap.size 87 #[.int .i64 mid, .int .i64 mid] := by rw [hW]; exact Blk.new _ _ _
    have hr3 := (hr1.below hb2).below' hb3 hb2.size
    rw [← hW]
    clear hW
    have hbW3 := hb12.trans (hb3.mono hb12.size)
    have hz3 := Nat.le_trans hb2.size hb3.size
    have hz12 := hb2.size
    clear hb1 hb2 hb3 hD0 hD1 hE0 hE1 c0 c1 c2 e0 hm1 hmW hB0 hB1 hbW hr1 hb12
    go_loopw [41] (fun i wr => ∃ k : Nat, k ≤ N.length ∧ i = .int .i64 k ∧ (SQ.take k).any (fun s => s == (mid, mid)) = false ∧ Below W.heap.size W wr) (fun i _ => N.length - (intOf i).toNat)
    case atStart => exact ⟨0, by omega, rfl, rfl, Below.refl _ _⟩
    case round =>
      obtain ⟨k, hk, rfl, hno, hbr⟩ := hrel
      by_cases hkl : k < N.length
      · have hkS : k < SQ.length := by rw [hSl'.out]; exact hkl
        have hrr : Reads wr w1.heap.size 2 A1 SQ.length (sqC SQ) := by rw [hSl'.out]; exact hr3.below' hbr hz3
        obtain ⟨ad, rfl, hadb, _⟩ := hrr.2 (by omega)
        obtain ⟨g, rfl⟩ := hf1 ad rfl
        obtain ⟨e0, e1⟩ := hrr.sq (k := k) hkS
        simp only [Nat.zero_add] at e0 e1
        obtain ⟨n1', n2'⟩ := hany.out k hkS hno
        obtain ⟨sr, hsr⟩ : ∃ sr, sr = SQ[k].1 := ⟨_, rfl⟩
        obtain ⟨sc, hsc⟩ : ∃ sc, sc = SQ[k].2 := ⟨_, rfl⟩
        have hsk : SQ[k] = (sr, sc) := by rw [hsr, hsc]
        rw [hsk] at n1' n2'
        rw [← hsr] at e0
        rw [← hsc] at e1
        have hkk : (k : Int) < (N.length : Int) := by omega
        have hgz : g < wr.heap.size := by simp at hadb; have := hbr.size; omega
        have hCr := hC.below hbr hC.lt
        have hCz := hCr.lt
        have m0 : wr.cell? ⟨w2.heap.size, 0, none⟩ = some (.int .i64 mid) := hCr.cell 0
        have m1 : wr.cell? ⟨w2.heap.size, 1, none⟩ = some (.int .i64 mid) := hCr.cell 1
        have n1 := Lib.hid n1'
        have n2 := Lib.hid n2'
        clear n1' n2' hsk hsr hsc hrr
        by_cases heq : (sr, sc) = (mid, mid)
        · have hR2 : R = true := by rw [hR.out]; exact n2.out (by simp [heq])
          injection heq with h1 h2
          subst h1 h2 hR2
          clear hR n1 n2
          go_wp2_with (fail)
          go_ret
          exact ⟨rfl, hbW3.trans ((hbr.mono hbW3.size).alloc (by have := hbW3.size; have := hbr.size; omega) _)⟩
        · have hb5 : (((sr, sc) : Int × Int) == (mid, mid)) = false := by simpa using heq
          have hno2 : Hid ((SQ.take (k + 1)).any (fun s => s == (mid, mid)) = false) := Lib.hid (by rw [n1.out, hb5])
          have hne : sr = mid → ¬ sc = mid := fun e1 e2 => heq (by rw [e1, e2])
          clear n1 n2 hno hb5 heq hR
          by_cases h1 : sr = mid
          · have h2 := hne h1
            subst h1
            clear hne
            go_wp2_with (fail)
            go_roundw
            case rel => exact ⟨k + 1, by omega, by go_num, hno2.out, hbr.alloc hbr.size _⟩
            case measure => simp [intOf]; omega
          · clear hne
            go_wp2_with (fail)
            go_roundw
            case rel => exact ⟨k + 1, by omega, by go_num, hno2.out, hbr.alloc hbr.size _⟩
            case measure => simp [intOf]; omega
      · obtain rfl : k = N.length := by omega
        have hR2 : Hid (R = false) := Lib.hid (by rw [hR.out, ← hno, ← hSl'.out, List.take_length])
        have hkk : ¬ (N.length : Int) < (N.length : Int) := by omega
        go_wp2_with (fail)
        go_ret
        exact ⟨ret_bool hR2.out.symm, hbW3.trans (hbr.mono hbW3.size)⟩
end Go.Proofs.YtamdcbbclkobiaaGreatDoor
