/-
  Contract: all plays by trying (layer 16 of the spec package): the search and its order; Contracts: the legal plays and their main words by trying (layer 16 of the spec package); The plays that are found by trying, in plain Lean: each is legal; sorting permutes them; Contract: the main words of the legal plays (layer 16 of the spec package); A region that draws its order, all of whose operations leave what was: the state that asks no more; Contracts: a strings.Builder that the call has made: a byte written, the string read.
  Conditions: as each part below says.
-/
import Derived.Test.YtamdcbbclkobiaaGreatDoorM10
import Derived.Test.YtamdcbbclkobiaaGreatDoorM11
import Derived.Test.YtamdcbbclkobiaaGreatDoorM03
import Derived.Great.BuildSlice
import Derived.Lib.Builder
import Derived.Lib.UnsafeStr
import Derived.Laws.Externs
import Derived.RegionTactic
import Derived.Laws.Rows
import Derived.Laws.Tables
import Derived.Lib.OthersKept
import Derived.Test.YtamdcbbclkobiaaGreatDoorM09
/-
  Contract: all plays by trying (layer 16 of the spec package): the search and its order.
  Conditions: a board that is valid and a lexicon of small letters lie in memory.
-/
namespace Go.Proofs.YtamdcbbclkobiaaGreatDoor
open Go.RowKit RegP RegL RegV
set_option maxHeartbeats 1000000
set_option maxRecDepth 100000

section
variable (b : Bd) (ws : List Str) (rack : Str)
def placeF (word : Str) (row col : Nat) (ps : List Pl) : List Pl := tryF b ws rack b.tr word row col true (tryF b ws rack b word row col false ps)
def colF (word : Str) (row : Nat) : Nat → List Pl → List Pl
  | 0, ps => ps
  | k + 1, ps => placeF b ws rack word row k (colF word row k ps)
def rowF (word : Str) (n : Nat) : Nat → List Pl → List Pl
  | 0, ps => ps
  | k + 1, ps => colF b ws rack word k n (rowF word n k ps)
def wordF (n : Nat) : Nat → List Pl → List Pl
  | 0, ps => ps
  | k + 1, ps => rowF b ws rack (ws.getD k []) n n (wordF n k ps)
/-- The plays that are found, in the order of the search. -/
def foundL : List Pl := wordF b ws rack b.size.toNat ws.length []
end
section
variable {b : Bd} {ws : List Str} {rack : Str}
theorem placeF_length (hf : b.Fit) (word : Str) (row col : Nat) (ps : List Pl) (h : ps.length ≤ 2 ^ 16) : (placeF b ws rack word row col ps).length ≤ 2 ^ 16 := tryF_length b ws rack b.tr hf.tr word row col true _ (tryF_length b ws rack b hf word row col false ps h)
theorem colF_length (hf : b.Fit) (word : Str) (row : Nat) : ∀ (k : Nat) (ps : List Pl), ps.length ≤ 2 ^ 16 → (colF b ws rack word row k ps).length ≤ 2 ^ 16
  | 0, _, h => h
  | k + 1, ps, h => placeF_length hf word row k _ (colF_length hf word row k ps h)
theorem rowF_length (hf : b.Fit) (word : Str) (n : Nat) : ∀ (k : Nat) (ps : List Pl), ps.length ≤ 2 ^ 16 → (rowF b ws rack word n k ps).length ≤ 2 ^ 16
  | 0, _, h => h
  | k + 1, ps, h => colF_length hf word k n _ (rowF_length hf word n k ps h)
theorem wordF_length (hf : b.Fit) (n : Nat) : ∀ (k : Nat) (ps : List Pl), ps.length ≤ 2 ^ 16 → (wordF b ws rack n k ps).length ≤ 2 ^ 16
  | 0, _, h => h
  | k + 1, ps, h => rowF_length hf _ n n _ (wordF_length hf n k ps h)
theorem foundL_length (hf : b.Fit) : (foundL b ws rack).length ≤ 2 ^ 16 := wordF_length hf _ _ [] (by simp)
end

/-- What lies in memory when the search begins. -/
structure ACtx (W : World) (gt base : Nat) (pl : Addr) (gb gf : Nat) (o0 : Value) (b : Bd) (A : Option Addr) (c0 : Nat) (ws : List Str) : Prop where
  hbase : base ≤ W.heap.size
  hpb : BAt W ⟨gb, 0, none⟩ b
  hbd : bdB b = true
  hlx : LxAt W pl A c0 ws
  hlo : 0 < ws.length → ∀ x, A = some x → x.block < base
  hgb : gb < base
  hgl : pl.block < base
  hbt : base ≤ gt
  hff : BAt W ⟨gf, 0, none⟩ b.tr
  hgf : gf ≠ gt
  hgf2 : o0.ownBlock ≠ some gf
  ho : ∀ k, o0.ownBlock = some k → base ≤ k
  hn : ws.length ≤ 2 ^ 40
  hwl : ∀ x ∈ ws, x.length ≤ 2 ^ 37
  hws : ∀ x ∈ ws, x.all smallB = true
/-- The state of the search. -/
def ARel (W : World) (gt base : Nat) (pl : Addr) (gb : Nat) (rack : Str) (o0 : Value) (ps : List Pl) (wr : World) : Prop :=
  ∃ o, TAt wr gt pl ⟨gb, 0, none⟩ rack o ps base ∧ Kept W wr gt o0 o
section
variable {W wr : World} {gt base : Nat} {pl : Addr} {gb gf : Nat} {o0 : Value} {b : Bd} {A : Option Addr} {c0 : Nat} {ws : List Str} {rack : Str} {ps : List Pl}
theorem ARel.low (c : ACtx W gt base pl gb gf o0 b A c0 ws) (h : ARel W gt base pl gb rack o0 ps wr) : Below base W wr := by
  obtain ⟨o, h1, h2⟩ := h
  exact h2.below c.hbt c.ho c.hbase
theorem ARel.drew (h : ARel W gt base pl gb rack o0 ps wr) : ARel W gt base pl gb rack o0 ps wr.drew := by
  obtain ⟨o, h1, h2⟩ := h
  exact ⟨o, h1.below (Below.refl _ _).drew, h2.trans (Kept.of_below (Below.refl _ _).drew gt o)⟩
theorem ARel.b_ (c : ACtx W gt base pl gb gf o0 b A c0 ws) (h : ARel W gt base pl gb rack o0 ps wr) : BAt wr ⟨gb, 0, none⟩ b := c.hpb.below (h.low c) c.hgb
theorem ARel.lx (c : ACtx W gt base pl gb gf o0 b A c0 ws) (h : ARel W gt base pl gb rack o0 ps wr) : LxAt wr pl A c0 ws := c.hlx.low c.hgl c.hlo (h.low c)
theorem ARel.step1 (c : ACtx W gt base pl gb gf o0 b A c0 ws) (h : ARel W gt base pl gb rack o0 ps wr) (hrk : rack.length ≤ 2 ^ 37) (hps : ps.length ≤ 2 ^ 16) (word : Str) (hw : word ∈ ws) (row col : Int) :
    Calls Tryz.prog 50 #[.pointer (some ⟨gt, 0, none⟩), .pointer (some ⟨gb, 0, none⟩), sv word, .int .i64 row, .int .i64 col, .bool false] wr fun e w' => e = .returned (.tuple #[]) ∧ ARel W gt base pl gb rack o0 (tryF b ws rack b word row col false ps) w' := by
  have hb := h.b_ c
  have hl := h.lx c
  have hlow := h.low c
  obtain ⟨o, h1, h2⟩ := h
  refine (try_any gt pl gb rack o ps base ⟨gb, 0, none⟩ b b A c0 ws word row col false wr h1 (Nat.le_trans c.hbase hlow.size) hb (bdB.fit c.hbd) hb c.hbd hl c.hn (c.hwl word hw) hrk (by omega) c.hlo ?_ ?_ c.hgb c.hgl c.hbt (c.hws word hw)).mono ?_
  · have := c.hgb; have := c.hbt; show gb ≠ gt; omega
  · intro e
    have := (h1.own.lt gb e).1
    have := c.hgb
    omega
  · rintro e w' ⟨o', h3, h4, h5⟩
    exact ⟨h3, o', h4, h2.trans h5⟩
theorem ARel.step2 (c : ACtx W gt base pl gb gf o0 b A c0 ws) (h : ARel W gt base pl gb rack o0 ps wr) (hrk : rack.length ≤ 2 ^ 37) (hps : ps.length ≤ 2 ^ 16) (word : Str) (hw : word ∈ ws) (row col : Int) :
    Calls Tryz.prog 50 #[.pointer (some ⟨gt, 0, none⟩), .pointer (some ⟨gf, 0, none⟩), sv word, .int .i64 row, .int .i64 col, .bool true] wr fun e w' => e = .returned (.tuple #[]) ∧ ARel W gt base pl gb rack o0 (tryF b ws rack b.tr word row col true ps) w' := by
  have hb := h.b_ c
  have hl := h.lx c
  have hlow := h.low c
  obtain ⟨o, h1, h2⟩ := h
  have hgo : o.ownBlock ≠ some gf := by
    rcases h2.at_ with e | ⟨k, hk, e⟩
    · rw [e]; exact c.hgf2
    · rw [e]; intro e2; injection e2 with e2; have := c.hff.lt; simp only at this; omega
  refine (try_any gt pl gb rack o ps base ⟨gf, 0, none⟩ b.tr b A c0 ws word row col true wr h1 (Nat.le_trans c.hbase hlow.size) (c.hff.kept h2 c.hgf c.hgf2) (bdB.fit c.hbd).tr hb c.hbd hl c.hn (c.hwl word hw) hrk (by omega) c.hlo c.hgf hgo c.hgb c.hgl c.hbt (c.hws word hw)).mono ?_
  rintro e w' ⟨o', h3, h4, h5⟩
  exact ⟨h3, o', h4, h2.trans h5⟩
end

theorem l16All_any (pl : Addr) (gb : Nat) (rack : Str) (b : Bd) (A : Option Addr) (c0 : Nat) (ws : List Str) (w : World) (hpb : BAt w ⟨gb, 0, none⟩ b) (hbd : bdB b = true) (hlx : LxAt w pl A c0 ws) (hn : ws.length ≤ 2 ^ 40) (hwl : ∀ x ∈ ws, x.length ≤ 2 ^ 37) (hws : ∀ x ∈ ws, x.all smallB = true) (hrk : rack.length ≤ 2 ^ 37) :
    Calls Tryz.prog 28 #[.pointer (some pl), .pointer (some ⟨gb, 0, none⟩), sv rack] w (SortPost w (sortN (foundL b ws rack).length (foundL b ws rack))) := by
  have hf := bdB.fit hbd
  have htr := fun (w : World) (hp : BAt w ⟨gb, 0, none⟩ b) => l11Transpose_any ⟨gb, 0, none⟩ b w hp hf
  obtain ⟨f, hfe⟩ : ∃ f, f = b.tr := ⟨_, rfl⟩
  rw [← hfe] at htr
  simp only [Bd.v] at htr
  have hfe' := Lib.hid hfe
  clear hfe
  go_enter Tryz.func28, Tryz.ntmps28
  go_wp2_with (first
    | (go_at_call 49; refine (htr _ ((hpb.alloc _).alloc _)).mono ?_; rintro e w1 ⟨rfl, hb1⟩))
  obtain ⟨W, hW⟩ : ∃ W, W = w1.alloc (.cells #[.int .i64 f.size, sv f.prem, sv f.cells] 33) := ⟨_, rfl⟩
  rw [← hW]
  have hB0 : Below w.heap.size w ((w.alloc (.cells #[] 48)).alloc (.cells #[.pointer (some pl), .pointer (some ⟨gb, 0, none⟩), sv rack, .slice (some ⟨w.heap.size, 0, none⟩) 0 0] 78)) := ((Below.refl _ _).alloc (Nat.le_refl _) _).alloc (by simp) _
  have hB1 := hB0.trans (hb1.mono hB0.size)
  have hWb : Below w.heap.size w W := by rw [hW]; exact hB1.alloc hB1.size _
  have hT0 : TAt ((w.alloc (.cells #[] 48)).alloc (.cells #[.pointer (some pl), .pointer (some ⟨gb, 0, none⟩), sv rack, .slice (some ⟨w.heap.size, 0, none⟩) 0 0] 78)) (w.heap.size + 1) pl ⟨gb, 0, none⟩ rack (.slice (some ⟨w.heap.size, 0, none⟩) 0 0) [] w.heap.size :=
    ⟨Blk.new1 w _ _ _, (World.ownsRow_lit (base := w.heap.size) (size := 4) (e := 48) w #[] 0 (Nat.le_refl _) (by unfold maxLen; omega) rfl).alloc _⟩
  have hz1 : w.heap.size + 2 ≤ w1.heap.size := by have := hb1.size; simpa using this
  have hTW : TAt W (w.heap.size + 1) pl ⟨gb, 0, none⟩ rack (.slice (some ⟨w.heap.size, 0, none⟩) 0 0) [] w.heap.size := by rw [hW]; exact (hT0.below hb1).below ((Below.refl _ _).alloc (Nat.le_refl _) _)
  have hff : BAt W ⟨w1.heap.size, 0, none⟩ f := by rw [hW]; exact BAt.new w1 f _
  have hc : ACtx W (w.heap.size + 1) w.heap.size pl gb w1.heap.size (.slice (some ⟨w.heap.size, 0, none⟩) 0 0) b A c0 ws :=
    ⟨hWb.size, hpb.below hWb hpb.lt, hbd, hlx.below hWb, fun h x e => by
      obtain ⟨ad, e2, h2, _⟩ := hlx.reads.2 h
      rw [e] at e2; injection e2 with e2; rw [e2]; exact h2, hpb.lt, World.block_lt_of_cell? w pl hlx.cell, by omega, by rw [← hfe'.out]; exact hff, by omega, by simp [Value.ownBlock]; omega, fun k hk => by simp [Value.ownBlock] at hk; omega, hn, hwl, hws⟩
  have hA0 : ARel W (w.heap.size + 1) w.heap.size pl gb rack (.slice (some ⟨w.heap.size, 0, none⟩) 0 0) [] W := ⟨_, hTW, Kept.refl _ _ _⟩
  obtain ⟨n, hsz⟩ : ∃ n : Nat, b.size = (n : Int) := ⟨b.size.toNat, by have := hf.lo; omega⟩
  have hend : Hid (wordF b ws rack n ws.length [] = foundL b ws rack) := Lib.hid (by unfold foundL; rw [hsz]; rfl)
  have hnn : n ≤ 15 := by have := hf.hi; omega
  have hbs : ∀ wr : World, BAt wr ⟨gb, 0, none⟩ b → wr.cell? ⟨gb, 0, none⟩ = some (.int .i64 (n : Int)) := fun wr h => by rw [← hsz]; exact h.1
  have hbs' := Lib.hid hbs
  obtain ⟨o0, ho0⟩ : ∃ o0 : Value, o0 = .slice (some ⟨w.heap.size, 0, none⟩) 0 0 := ⟨_, rfl⟩
  rw [← ho0] at hc hA0
  obtain ⟨gf, hgf⟩ : ∃ gf, gf = w1.heap.size := ⟨_, rfl⟩
  rw [← hgf] at hc ⊢
  clear hbs hsz hT0 hTW hff hW hB0 hB1 hb1 hz1 ho0 hgf htr hfe' hpb hlx
  go_loopw [9] (fun i wr => ∃ k : Nat, k ≤ ws.length ∧ i = .int .i64 k ∧ ARel W (w.heap.size + 1) w.heap.size pl gb rack o0 (wordF b ws rack n k []) wr) (fun i _ => ws.length - (intOf i).toNat)
  case atStart => exact ⟨0, by omega, rfl, hA0⟩
  case round =>
    clear hA0
    obtain ⟨k, hk, rfl, hA⟩ := hrel
    have hl := hA.lx hc
    have e0 := hl.cell
    by_cases hkl : k < ws.length
    · have hkk : (k : Int) < (ws.length : Int) := by omega
      have hlk := wordF_length (b := b) (ws := ws) (rack := rack) hf n k [] (by simp)
      have hmem : ws[k] ∈ ws := List.getElem_mem hkl
      have hel := Lib.hid (fun (wr : World) (h : LxAt wr pl A c0 ws) => h.reads.el hkl)
      have hstep : Hid (wordF b ws rack n (k + 1) [] = rowF b ws rack ws[k] n n (wordF b ws rack n k [])) := Lib.hid (by rw [wordF, List.getD_eq_getElem?_getD, List.getElem?_eq_getElem hkl]; rfl)
      obtain ⟨word, hword⟩ : ∃ word, word = ws[k] := ⟨_, rfl⟩
      rw [← hword] at hmem hel hstep
      clear hword
      obtain ⟨P0, hP0⟩ : ∃ P0, P0 = wordF b ws rack n k [] := ⟨_, rfl⟩
      rw [← hP0] at hA hlk hstep
      clear hP0
      go_wp2_with (fail)
      obtain ⟨wo, rfl⟩ : ∃ wo : World, wo = wr := ⟨_, rfl⟩
      go_loopw [10, 11] (fun i _ wr => ∃ r : Nat, r ≤ n ∧ i = .int .i64 r ∧ ARel W (w.heap.size + 1) w.heap.size pl gb rack o0 (rowF b ws rack word n r P0) wr) (fun i _ _ => n - (intOf i).toNat)
      case atStart => exact ⟨0, by omega, rfl, hA⟩
      case round =>
        clear hA e0 hl
        obtain ⟨r, hr, rfl, hA⟩ := hrel
        have hb := hbs'.out wr (hA.b_ hc)
        have hlr := rowF_length (b := b) (ws := ws) (rack := rack) hf word n r P0 hlk
        by_cases hrn : r < n
        · have hrr : (r : Int) < (n : Int) := by omega
          have hstep2 : Hid (rowF b ws rack word n (r + 1) P0 = colF b ws rack word r n (rowF b ws rack word n r P0)) := Lib.hid (by rw [rowF])
          obtain ⟨P1, hP1⟩ : ∃ P1, P1 = rowF b ws rack word n r P0 := ⟨_, rfl⟩
          rw [← hP1] at hA hlr hstep2
          clear hP1
          go_wp2_with (fail)
          obtain ⟨wo, rfl⟩ : ∃ wo : World, wo = wr := ⟨_, rfl⟩
          go_loopw [11] (fun i wr => ∃ c : Nat, c ≤ n ∧ i = .int .i64 c ∧ ARel W (w.heap.size + 1) w.heap.size pl gb rack o0 (colF b ws rack word r c P1) wr) (fun i _ => n - (intOf i).toNat)
          case atStart => exact ⟨0, by omega, rfl, hA⟩
          case round =>
            clear hA hb
            obtain ⟨c, hcn, rfl, hA⟩ := hrel
            have hb := hbs'.out wr (hA.b_ hc)
            have hlc := colF_length (b := b) (ws := ws) (rack := rack) hf word r c P1 hlr
            by_cases hc1 : c < n
            · have hcc : (c : Int) < (n : Int) := by omega
              have hstep3 : Hid (colF b ws rack word r (c + 1) P1 = placeF b ws rack word r c (colF b ws rack word r c P1)) := Lib.hid (by rw [colF])
              obtain ⟨P2, hP2⟩ : ∃ P2, P2 = colF b ws rack word r c P1 := ⟨_, rfl⟩
              rw [← hP2] at hA hlc hstep3
              clear hP2
              have e0 := (hA.lx hc).cell
              obtain ⟨ad, rfl, hadb, e1⟩ := hel.out wr (hA.lx hc)
              have hl2 := tryF_length b ws rack b hf word r c false P2 hlc
              go_wp2_with (first
                | (go_at_call 50; refine (hA3.step2 hc hrk hl2 word hmem r c).mono ?_; rintro e w4 ⟨rfl, hA4⟩)
                | (go_at_call 50; refine (hA.step1 hc hrk hlc word hmem r c).mono ?_; rintro e w3 ⟨rfl, hA3⟩
                   have e3 := (hA3.lx hc).cell
                   have e4 : w3.cell? (ad.add k) = some (sv word) := by
                     obtain ⟨ad', e, _, h⟩ := hel.out w3 (hA3.lx hc)
                     injection e with e
                     rw [e]; exact h))
              go_roundw
              case rel => exact ⟨c + 1, by omega, by go_num, by rw [hstep3.out]; exact hA4⟩
              case measure => simp [intOf]; omega
            · obtain rfl : c = n := by omega
              go_wp2_with (fail)
              go_roundw
              case rel => exact ⟨r + 1, by omega, by go_num, by rw [hstep2.out]; exact hA⟩
              case measure => simp [intOf]; omega
        · obtain rfl : r = n := by omega
          go_wp2_with (fail)
          go_roundw
          case rel => exact ⟨k + 1, by omega, by go_num, by rw [hstep.out]; exact hA⟩
          case measure => simp [intOf]; omega
    · obtain rfl : k = ws.length := by omega
      have hS := Lib.hid (fun w' v (h : PSl w' v (foundL b ws rack)) (hle : (foundL b ws rack).length ≤ 2 ^ 37) => l16Sort_any (foundL b ws rack).length (foundL b ws rack) v w' (Nat.le_refl _) hle h)
      have hfl := foundL_length (b := b) (ws := ws) (rack := rack) hf
      have hlow := hA.low hc
      rw [hend.out] at hA
      obtain ⟨o, h1, h2⟩ := hA
      have hpsl : PSl wr o (foundL b ws rack) := PSl.of_own h1.own
      have e3 : wr.cell? ⟨w.heap.size + 1, 3, none⟩ = some o := h1.blk.cell 3
      go_wp2_with (go_at_call 51; refine (hS.out _ _ hpsl (by omega)).mono ?_; rintro e w5 ⟨v5, rfl, hp5, hb5⟩)
      go_ret
      exact ⟨_, rfl, hp5, hWb.trans (hlow.trans (hb5.mono (Nat.le_trans hWb.size hlow.size)))⟩
end Go.Proofs.YtamdcbbclkobiaaGreatDoor
/-
  Contracts: the legal plays and their main words by trying (layer 16 of the spec package).
  Conditions: a lexicon and a board lie in memory.
-/
namespace Go.Proofs.YtamdcbbclkobiaaGreatDoor
open Go.RowKit RegP RegL RegV
set_option maxHeartbeats 1000000
set_option maxRecDepth 100000

def argsB (b : Bd) (ws : List Str) (rack : Str) : Bool := lexB ws && (bdB b && rackB rack)
def playsCode (b : Bd) (ws : List Str) (rack : Str) : Int := if argsB b ws rack then if 400 < (foundL b ws rack).length then 5 else 0 else 1
/-- The legal plays in their order. -/
def playsL (b : Bd) (ws : List Str) (rack : Str) : List Pl := sortN (foundL b ws rack).length (foundL b ws rack)
theorem playsL_length (b : Bd) (ws : List Str) (rack : Str) : (playsL b ws rack).length = (foundL b ws rack).length := sortN_length _ _
def PlaysPost (w : World) (b : Bd) (ws : List Str) (rack : Str) (e : Ending) (w' : World) : Prop :=
  ∃ v, e = .returned (.tuple #[v, .int .i64 (playsCode b ws rack)]) ∧ (playsCode b ws rack = 0 → PSl w' v (playsL b ws rack)) ∧ (playsCode b ws rack ≠ 0 → v = .slice none 0 0) ∧ Below w.heap.size w w'
theorem PlaysPost.no {w w' : World} {b : Bd} {ws : List Str} {rack : Str} {c : Int} (h : playsCode b ws rack = c) (hc : c ≠ 0) (hb : Below w.heap.size w w') : PlaysPost w b ws rack (.returned (.tuple #[.slice none 0 0, .int .i64 c])) w' :=
  ⟨_, by rw [h], fun h2 => absurd (h ▸ h2) hc, fun _ => rfl, hb⟩
theorem PlaysPost.yes {w w' : World} {b : Bd} {ws : List Str} {rack : Str} {v : Value} (h : playsCode b ws rack = 0) (hv : PSl w' v (playsL b ws rack)) (hb : Below w.heap.size w w') : PlaysPost w b ws rack (.returned (.tuple #[v, .int .i64 0])) w' :=
  ⟨v, by rw [h], fun _ => hv, fun h2 => absurd h h2, hb⟩
theorem lexB_words {ws : List Str} (h : lexB ws = true) : ∀ x ∈ ws, x.all smallB = true ∧ x.length ≤ 12 := by
  unfold lexB at h
  rw [Bool.and_eq_true, lexFrom_eq, Bool.and_eq_true] at h
  intro x hx
  have := List.all_eq_true.1 h.1.2 x hx
  unfold longB isWordB inR at this
  simp only [Bool.and_eq_true, decide_eq_true_eq] at this
  exact ⟨this.2.1, by omega⟩
theorem lexB_len {ws : List Str} (h : lexB ws = true) : ws.length ≤ 200 := by
  unfold lexB at h
  rw [Bool.and_eq_true] at h
  simpa using h.2
theorem rackB_len {rack : Str} (h : rackB rack = true) : rack.length ≤ 7 := by
  unfold rackB at h
  rw [Bool.and_eq_true] at h
  simpa using h.2

theorem l16Plays_any (pl : Addr) (gb : Nat) (rack : Str) (b : Bd) (A : Option Addr) (c0 : Nat) (ws : List Str) (w : World) (hpb : BAt w ⟨gb, 0, none⟩ b) (hlx : LxAt w pl A c0 ws) (hn : ws.length ≤ 2 ^ 40) (hwl : ∀ x ∈ ws, x.length ≤ 2 ^ 40) (hrk : rack.length ≤ 2 ^ 40) (h1 : b.prem.length ≤ 2 ^ 40) (h2 : b.cells.length ≤ 2 ^ 40) :
    Calls Tryz.prog 16 #[.pointer (some pl), .pointer (some ⟨gb, 0, none⟩), sv rack] w (PlaysPost w b ws rack) := by
  have k1 := fun (w : World) (h : LxAt w pl A c0 ws) => l05Ok_any A c0 ws pl w h.cell h.reads hn hwl
  have k2 := fun (w : World) (h : BAt w ⟨gb, 0, none⟩ b) => l11Ok_any ⟨gb, 0, none⟩ b w h h1 h2
  have k3 := fun (w : World) => l03Rack_any rack w hrk
  have hcode : Hid (playsCode b ws rack = if argsB b ws rack then if 400 < (foundL b ws rack).length then 5 else 0 else 1) := Lib.hid rfl
  have hargs : Hid (argsB b ws rack = (lexB ws && (bdB b && rackB rack))) := Lib.hid rfl
  cases e1 : lexB ws
  · rw [e1] at k1 hargs
    go_enter Tryz.func16, Tryz.ntmps16
    go_wp2_with (go_at_call 25; refine (k1 _ hlx).mono ?_; rintro e w1 ⟨rfl, hb1⟩)
    go_ret2
    exact PlaysPost.no (by rw [hcode.out, hargs.out]; rfl) (by decide) hb1
  · rw [e1] at k1 hargs
    cases e2 : bdB b
    · rw [e2] at k2 hargs
      go_enter Tryz.func16, Tryz.ntmps16
      go_wp2_with (first
        | (go_at_call 25; refine (k1 _ hlx).mono ?_; rintro e w1 ⟨rfl, hb1⟩)
        | (go_at_call 26; refine (k2 _ (hpb.below hb1 hpb.lt)).mono ?_; rintro e w2 ⟨rfl, hd2⟩))
      go_ret2
      exact PlaysPost.no (by rw [hcode.out, hargs.out]; rfl) (by decide) (hb1.trans (hd2.below.mono hb1.size))
    · rw [e2] at k2 hargs
      cases e3 : rackB rack
      · rw [e3] at k3 hargs
        go_enter Tryz.func16, Tryz.ntmps16
        go_wp2_with (first
          | (go_at_call 25; refine (k1 _ hlx).mono ?_; rintro e w1 ⟨rfl, hb1⟩)
          | (go_at_call 26; refine (k2 _ (hpb.below hb1 hpb.lt)).mono ?_; rintro e w2 ⟨rfl, hd2⟩)
          | (go_at_call 27; refine (k3 _).mono ?_; rintro e w3 ⟨rfl, hd3⟩))
        go_ret2
        exact PlaysPost.no (by rw [hcode.out, hargs.out]; rfl) (by decide) (hb1.trans ((hd2.trans hd3).below.mono hb1.size))
      · rw [e3] at k3 hargs
        have hwd := lexB_words e1
        have hrl := rackB_len e3
        have k4 := fun (w : World) (hp : BAt w ⟨gb, 0, none⟩ b) (hl : LxAt w pl A c0 ws) => l16All_any pl gb rack b A c0 ws w hp e2 hl hn (fun x hx => by have := (hwd x hx).2; omega) (fun x hx => (hwd x hx).1) (by omega)
        have hpl : Hid (playsL b ws rack = sortN (foundL b ws rack).length (foundL b ws rack)) := Lib.hid rfl
        have hfl := foundL_length (ws := ws) (rack := rack) (bdB.fit e2)
        have hsl := playsL_length b ws rack
        rw [hpl.out] at hsl
        obtain ⟨S, hS⟩ : ∃ S, S = sortN (foundL b ws rack).length (foundL b ws rack) := ⟨_, rfl⟩
        obtain ⟨F, hF⟩ : ∃ F, F = foundL b ws rack := ⟨_, rfl⟩
        rw [← hS] at k4 hpl hsl
        rw [← hF] at hcode hsl hfl
        clear hS hF hwd
        have hSl : S.length ≤ 2 ^ 16 := by omega
        have hsl' := Lib.hid hsl
        clear hsl
        by_cases h4 : 400 < S.length
        · have h4' : (400 : Int) < (S.length : Int) := by omega
          go_enter Tryz.func16, Tryz.ntmps16
          go_wp2_with (first
            | (go_at_call 25; refine (k1 _ hlx).mono ?_; rintro e w1 ⟨rfl, hb1⟩)
            | (go_at_call 26; refine (k2 _ (hpb.below hb1 hpb.lt)).mono ?_; rintro e w2 ⟨rfl, hd2⟩)
            | (go_at_call 27; refine (k3 _).mono ?_; rintro e w3 ⟨rfl, hd3⟩
               have hb3 := hb1.trans ((hd2.trans hd3).below.mono hb1.size))
            | (go_at_call 28; refine (k4 _ (hpb.below hb3 hpb.lt) (hlx.below hb3)).mono ?_; rintro e w4 ⟨v4, rfl, ⟨A4, c4, rfl, hc4, hr4, hf4⟩, hb4⟩))
          go_ret2
          exact PlaysPost.no (by rw [hcode.out, hargs.out, ← hsl'.out]; simp [h4]) (by decide) (hb3.trans (hb4.mono hb3.size))
        · have h4' : decide (400 < S.length) = false := decide_eq_false h4
          go_enter Tryz.func16, Tryz.ntmps16
          go_wp2_with (first
            | (go_at_call 25; refine (k1 _ hlx).mono ?_; rintro e w1 ⟨rfl, hb1⟩)
            | (go_at_call 26; refine (k2 _ (hpb.below hb1 hpb.lt)).mono ?_; rintro e w2 ⟨rfl, hd2⟩)
            | (go_at_call 27; refine (k3 _).mono ?_; rintro e w3 ⟨rfl, hd3⟩
               have hb3 := hb1.trans ((hd2.trans hd3).below.mono hb1.size))
            | (go_at_call 28; refine (k4 _ (hpb.below hb3 hpb.lt) (hlx.below hb3)).mono ?_; rintro e w4 ⟨v4, rfl, ⟨A4, c4, rfl, hc4, hr4, hf4⟩, hb4⟩))
          go_ret2
          exact PlaysPost.yes (by rw [hcode.out, hargs.out, ← hsl'.out]; simp [h4]) (by rw [hpl.out]; exact ⟨A4, c4, rfl, hc4, hr4, hf4⟩) (hb3.trans (hb4.mono hb3.size))
end Go.Proofs.YtamdcbbclkobiaaGreatDoor
/-
  The plays that are found by trying, in plain Lean: each is legal; sorting permutes them.
  Conditions: none.
-/
namespace Go.Proofs.YtamdcbbclkobiaaGreatDoor

theorem mrg_perm : ∀ a b : List Pl, (mrg a b).Perm (a ++ b)
  | a, [] => by simp [mrg]
  | [], b :: r => by simp [mrg]
  | x :: a, y :: b => by
    rw [mrg]
    split
    · exact (mrg_perm a (y :: b)).cons x
    · exact ((mrg_perm (x :: a) b).cons y).trans List.perm_middle.symm
termination_by a b => a.length + b.length
theorem sortN_perm : ∀ (n : Nat) (l : List Pl), (sortN n l).Perm l
  | 0, _ => List.Perm.refl _
  | n + 1, l => by
    rw [sortN]
    split
    · exact List.Perm.refl _
    · refine (mrg_perm _ _).trans ?_
      refine ((sortN_perm n _).append (sortN_perm n _)).trans ?_
      rw [List.take_append_drop]
theorem playsL_perm (b : Bd) (ws : List Str) (rack : Str) : (playsL b ws rack).Perm (foundL b ws rack) := sortN_perm _ _

/-- All plays of a list are legal. -/
def AllLegal (b : Bd) (ws : List Str) (rack : Str) (ps : List Pl) : Prop := ∀ p ∈ ps, legalC b ws rack p = 0
section
variable {b : Bd} {ws : List Str} {rack : Str} {ps : List Pl}
theorem tryL_legal (f : Bd) (word : Str) (row col : Int) (down : Bool) : AllLegal b ws rack (tryL b ws rack f word row col down) := by
  intro p hp
  unfold tryL at hp
  split at hp
  · cases hp
  · split at hp
    · cases hp
    · split at hp
      · simpa using (List.mem_filter.1 hp).2
      · cases hp
theorem tryF_legal (f : Bd) (word : Str) (row col : Int) (down : Bool) (h : AllLegal b ws rack ps) : AllLegal b ws rack (tryF b ws rack f word row col down ps) := by
  intro p hp
  unfold tryF at hp
  split at hp
  · exact h p hp
  · rcases List.mem_append.1 hp with hp | hp
    · exact h p hp
    · exact tryL_legal f word row col down p hp
theorem colF_legal (word : Str) (row : Nat) : ∀ (k : Nat) (ps : List Pl), AllLegal b ws rack ps → AllLegal b ws rack (colF b ws rack word row k ps)
  | 0, _, h => h
  | k + 1, ps, h => tryF_legal _ _ _ _ _ (tryF_legal _ _ _ _ _ (colF_legal word row k ps h))
theorem rowF_legal (word : Str) (n : Nat) : ∀ (k : Nat) (ps : List Pl), AllLegal b ws rack ps → AllLegal b ws rack (rowF b ws rack word n k ps)
  | 0, _, h => h
  | k + 1, ps, h => colF_legal word k n _ (rowF_legal word n k ps h)
theorem wordF_legal (n : Nat) : ∀ (k : Nat) (ps : List Pl), AllLegal b ws rack ps → AllLegal b ws rack (wordF b ws rack n k ps)
  | 0, _, h => h
  | k + 1, ps, h => rowF_legal _ n n _ (wordF_legal n k ps h)
theorem foundL_legal : AllLegal b ws rack (foundL b ws rack) := wordF_legal _ _ [] (fun p hp => by cases hp)
theorem playsL_legal : AllLegal b ws rack (playsL b ws rack) := fun p hp => foundL_legal p ((playsL_perm b ws rack).mem_iff.1 hp)
theorem legal_word {p : Pl} (h : legalC b ws rack p = 0) : p.word.length ≤ 12 := by
  unfold legalC at h
  cases ho : okB b p
  · rw [ho] at h; simp at h
  · exact (okB_on ho).2.2
theorem playsL_words : ∀ p ∈ playsL b ws rack, p.word.length ≤ 12 := fun p hp => legal_word (playsL_legal p hp)
end
/-- The main words of plays: each once, in order. -/
def mainL (b : Bd) (ws : List Str) (rack : Str) : List Str := canon ((playsL b ws rack).map fun p => lowS p.word)
theorem mainL_found (b : Bd) (ws : List Str) (rack : Str) : mainL b ws rack = canon ((foundL b ws rack).map fun p => lowS p.word) := canon_perm ((playsL_perm b ws rack).map _)
end Go.Proofs.YtamdcbbclkobiaaGreatDoor
/-
  Contract: the main words of the legal plays (layer 16 of the spec package).
  Conditions: a lexicon lies in memory; lengths at most 2^40.
-/
namespace Go.Proofs.YtamdcbbclkobiaaGreatDoor
open Go.RowKit RegP RegL RegV
set_option maxHeartbeats 1000000
set_option maxRecDepth 100000

/-- What MainWords answers: a list of its own and a code. -/
def MainPost (w : World) (b : Bd) (ws : List Str) (rack : Str) (e : Ending) (w' : World) : Prop :=
  ∃ v, e = .returned (.tuple #[v, .int .i64 (playsCode b ws rack)]) ∧ (playsCode b ws rack = 0 → w'.ownsRow w.heap.size 9 1 v (mainL b ws rack).length ((mainL b ws rack).map sv)) ∧ (playsCode b ws rack ≠ 0 → v = .slice none 0 0) ∧ Below w.heap.size w w'
theorem MainPost.no {w w' : World} {b : Bd} {ws : List Str} {rack : Str} {c : Int} (h : playsCode b ws rack = c) (hc : c ≠ 0) (hb : Below w.heap.size w w') : MainPost w b ws rack (.returned (.tuple #[.slice none 0 0, .int .i64 c])) w' :=
  ⟨_, by rw [h], fun h2 => absurd (h ▸ h2) hc, fun _ => rfl, hb⟩
theorem MainPost.yes {w w' : World} {b : Bd} {ws : List Str} {rack : Str} {v : Value} (h : playsCode b ws rack = 0) (hv : w'.ownsRow w.heap.size 9 1 v (mainL b ws rack).length ((mainL b ws rack).map sv)) (hb : Below w.heap.size w w') : MainPost w b ws rack (.returned (.tuple #[v, .int .i64 0])) w' :=
  ⟨v, by rw [h], fun _ => hv, fun h2 => absurd h h2, hb⟩
theorem own_new {w : World} {base base' e size n : Nat} {v : Value} {xs : List Value} (h : w.ownsRow base e size v n xs) (hb : ∀ k, v.ownBlock = some k → base' ≤ k) : w.ownsRow base' e size v n xs := by
  refine ⟨h.1, h.2.imp id ?_⟩
  rintro ⟨g, cap, cur, rfl, h1, h2, h3⟩
  exact ⟨g, cap, cur, rfl, hb g rfl, h2, h3⟩

theorem sMainWords_any (A : Option Addr) (c0 : Nat) (b : Bd) (ws : List Str) (rack : Str) (w : World) (hr : Reads w w.heap.size 1 A ws.length (ws.map sv)) (hn : ws.length ≤ 2 ^ 40) (hwl : ∀ x ∈ ws, x.length ≤ 2 ^ 40) (hrk : rack.length ≤ 2 ^ 40) (h1 : b.prem.length ≤ 2 ^ 40) (h2 : b.cells.length ≤ 2 ^ 40) :
    Calls Tryz.prog 6 #[.agg #[.slice A ws.length c0], b.v, sv rack] w (MainPost w b ws rack) := by
  have kp := fun (pl : Addr) (gb : Nat) (w : World) (hp : BAt w ⟨gb, 0, none⟩ b) (hl : LxAt w pl A c0 ws) => l16Plays_any pl gb rack b A c0 ws w hp hl hn hwl hrk h1 h2
  simp only [Bd.v]
  obtain ⟨W, hW⟩ : ∃ W, W = (w.alloc (.cells #[.slice A ws.length c0] 31)).alloc (.cells #[.int .i64 b.size, sv b.prem, sv b.cells] 33) := ⟨_, rfl⟩
  have hbW : Below w.heap.size w W := by rw [hW]; exact ((Below.refl _ _).alloc (Nat.le_refl _) _).alloc (by simp) _
  have hlx : LxAt W ⟨w.heap.size, 0, none⟩ A c0 ws := ⟨by rw [hW]; exact ((Blk.new w _ _).alloc _).cell 0, (hr.below hbW).more hbW.size⟩
  have hpb : BAt W ⟨w.heap.size + 1, 0, none⟩ b := by rw [hW]; have h := BAt.new (w.alloc (.cells #[.slice A ws.length c0] 31)) b 33; simpa using h
  have hk := kp ⟨w.heap.size, 0, none⟩ (w.heap.size + 1) W hpb hlx
  clear kp hpb hlx hr h1 h2
  by_cases hc : playsCode b ws rack = 0
  · have hpw := playsL_words (b := b) (ws := ws) (rack := rack)
    have hml : Hid (mainL b ws rack = canon ((playsL b ws rack).map fun p => lowS p.word)) := Lib.hid rfl
    have hpl : (playsL b ws rack).length ≤ 400 := by
      rw [playsL_length]
      unfold playsCode at hc
      split at hc
      · split at hc
        · cases hc
        · omega
      · cases hc
    have hk2 : Calls Tryz.prog 16 #[.pointer (some ⟨w.heap.size, 0, none⟩), .pointer (some ⟨w.heap.size + 1, 0, none⟩), sv rack] W (fun e w' => ∃ v, e = .returned (.tuple #[v, .int .i64 0]) ∧ PSl w' v (playsL b ws rack) ∧ Below W.heap.size W w') :=
      hk.mono fun e w' ⟨v, h1, h2, _, h4⟩ => ⟨v, by rw [h1, hc], h2 hc, h4⟩
    have hC := Lib.hid hc
    clear hk hc
    obtain ⟨P, hP⟩ : ∃ P, P = playsL b ws rack := ⟨_, rfl⟩
    rw [← hP] at hpw hml hpl hk2
    clear hP
    go_enter Tryz.func6, Tryz.ntmps6
    go_wp2_with (go_at_call 16; rw [← hW]; refine hk2.mono ?_; rintro e w1 ⟨v1, rfl, ⟨A1, c1, rfl, hc1, hr1, hf1⟩, hb1⟩)
    have hw1 := hbW.trans (hb1.mono hbW.size)
    clear hW hk2
    have own0 := World.ownsRow_lit (base := w.heap.size) (size := 1) (e := 9) w1 #[] 0 hw1.size (by unfold maxLen; omega) rfl
    go_loopw [10, 11] (fun o i wr => ∃ k : Nat, k ≤ P.length ∧ i = .int .i64 k ∧ wr.ownsRow w.heap.size 9 1 o (canon ((P.take k).map fun p => lowS p.word)).length ((canon ((P.take k).map fun p => lowS p.word)).map sv) ∧ Reads wr w1.heap.size 4 A1 P.length (psC P) ∧ Below w.heap.size w wr ∧ w1.heap.size ≤ wr.heap.size) (fun _ i _ => P.length - (intOf i).toNat)
    case atStart => exact ⟨0, by omega, rfl, own0, hr1.alloc (Nat.le_refl _) _, hw1.alloc hw1.size _, by simp⟩
    case round =>
      clear own0
      obtain ⟨k, hk, rfl, own2, hr2, hb2, hz2⟩ := hrel
      by_cases hkl : k < P.length
      · have hkk : (k : Int) < (P.length : Int) := by omega
        obtain ⟨ad, ea, hlt⟩ := hr2.2 (by omega)
        obtain ⟨g, off, rfl⟩ := hf1 ad ea
        subst ea
        have hP := Lib.hid (hr2.pl hkl)
        have e3 := hP.out.2.2.2
        have hx := hpw P[k] (List.getElem_mem hkl)
        have hstep : Hid (canon ((P.take (k + 1)).map fun p => lowS p.word) = insL (canon ((P.take k).map fun p => lowS p.word)) (lowS P[k].word)) := Lib.hid (by rw [List.take_succ_eq_append_getElem hkl, List.map_append]; exact canon_snoc _ _)
        have hcl := canon_length ((P.take k).map fun p => lowS p.word)
        rw [List.length_map, List.length_take] at hcl
        obtain ⟨y, hy⟩ : ∃ y, y = P[k].word := ⟨_, rfl⟩
        rw [← hy] at e3 hx hstep
        clear hy hP
        obtain ⟨C, hC'⟩ : ∃ C, C = canon ((P.take k).map fun p => lowS p.word) := ⟨_, rfl⟩
        rw [← hC'] at own2 hstep hcl
        clear hC'
        have hCl : C.length ≤ 400 := by omega
        clear hcl
        have hyl : (lowS y).length ≤ 2 ^ 40 := by simp [lowS]; omega
        go_wp2_with (first
          | (go_at_call 17; refine (l03Insert_any w.heap.size _ C (lowS y) _ (own_call own2 hb3) (Nat.le_trans hb2.size hb3.size) (by omega) hyl).mono ?_; rintro e w4 ⟨v4, rfl, own4, hb4⟩)
          | (go_at_call 18; refine (l03Small_any y _ (by omega)).mono ?_; rintro e w3 ⟨rfl, hb3⟩))
        go_roundw
        case rel => exact ⟨k + 1, by omega, by go_num, by rw [hstep.out]; exact own4, (hr2.below' hb3 hz2).below' hb4 (Nat.le_trans hz2 hb3.size), (hb2.trans (hb3.mono hb2.size)).trans (hb4.mono (Nat.le_trans hb2.size hb3.size)), Nat.le_trans hz2 (Nat.le_trans hb3.size hb4.size)⟩
        case measure => simp [intOf]; omega
      · obtain rfl : k = P.length := by omega
        rw [List.take_length] at own2
        go_wp2_with (fail)
        go_ret2
        exact MainPost.yes hC.out (by rw [hml.out]; exact own2) hb2
  · have hk2 : Calls Tryz.prog 16 #[.pointer (some ⟨w.heap.size, 0, none⟩), .pointer (some ⟨w.heap.size + 1, 0, none⟩), sv rack] W (fun e w' => e = .returned (.tuple #[.slice none 0 0, .int .i64 (playsCode b ws rack)]) ∧ Below W.heap.size W w') :=
      hk.mono fun e w' ⟨v, h1, _, h3, h4⟩ => ⟨by rw [h1, h3 hc], h4⟩
    have hne : (playsCode b ws rack == 0) = false := by simpa using hc
    have hne2 : (playsCode b ws rack != 0) = true := by simpa using hc
    obtain ⟨C, hC⟩ : ∃ C, C = playsCode b ws rack := ⟨_, rfl⟩
    rw [← hC] at hk2 hne hne2 hc
    have hcc := Lib.hid hc
    have hC' := Lib.hid hC
    clear hk hC hc
    go_enter Tryz.func6, Tryz.ntmps6
    go_wp2_with (go_at_call 16; rw [← hW]; refine hk2.mono ?_; rintro e w1 ⟨rfl, hb1⟩)
    go_ret2
    exact MainPost.no hC'.out.symm hcc.out (hbW.trans (hb1.mono hbW.size))
end Go.Proofs.YtamdcbbclkobiaaGreatDoor
/-
  A region that draws its order, all of whose operations leave what was: the state that asks no more.
  Conditions: none.
-/
namespace Go.Proofs.YtamdcbbclkobiaaGreatDoor
namespace RegV
open Go.RowKit RegP RegL
/-- All is as it was below the start. -/
def SBel (W : World) : (Nat → Bool) → World → Prop := fun _ w => Below W.heap.size W w
end RegV
end Go.Proofs.YtamdcbbclkobiaaGreatDoor
/-
  Contracts: a strings.Builder that the call has made: a byte written, the string read.
  Conditions: at most 2^37 bytes.
-/
namespace Go.Proofs.YtamdcbbclkobiaaGreatDoor
open Go.RowKit RegP RegL RegV
set_option maxHeartbeats 1000000
set_option maxRecDepth 100000

/-- A builder in block g with the bytes l; its buffer lies from block base on. -/
def BldAt (w : World) (g base : Nat) (p : Value) (l : Str) : Prop := base ≤ g ∧ ∃ v, Blk w g 107 #[p, v] ∧ w.ownsRow base 5 1 v l.length (l.map bv) ∧ (l = [] → v = .slice none 0 0)
def selfP (g : Nat) : Value := .pointer (some ⟨g, 0, none⟩)
theorem Blk.shape {w : World} {g : Nat} {t : TypeId} {cs : Array Value} (h : Blk w g t cs) : w.shape? g = some (t, cs.size) := by
  unfold Blk at h
  simp [World.shape?, h]
theorem copy_used (g : Nat) (w : World) (h0 : w.cell? ⟨g, 0, none⟩ = some (.pointer (some ⟨g, 0, none⟩))) :
    Calls Tryz.prog 131 #[.pointer (some ⟨g, 0, none⟩)] w fun e w' => e = .returned (.tuple #[]) ∧ w = w' := by
  obtain ⟨j, hj, _⟩ := Option.map_eq_some_iff.1 (show (Tryz.prog.info? 107).map (·.size) = some 2 by kernel_rfl)
  have hq := fun w => Lib.run_neq_ptr_same (P := Tryz.prog) w ⟨g, 0, none⟩ Tryz.underlying105 hj
  go_enter Tryz.func131, Tryz.ntmps131
  go_wp2_with (fail)
  go_end0
  exact ⟨rfl, rfl⟩
theorem copy_fresh (g : Nat) (w : World) (v : Value) (hb : Blk w g 107 #[.pointer none, v]) :
    Calls Tryz.prog 131 #[.pointer (some ⟨g, 0, none⟩)] w fun e w' => e = .returned (.tuple #[]) ∧ w' = w.setCell ⟨g, 0, none⟩ (.pointer (some ⟨g, 0, none⟩)) := by
  obtain ⟨j, hj, hjs⟩ := Option.map_eq_some_iff.1 (show (Tryz.prog.info? 107).map (·.size) = some 2 by kernel_rfl)
  have h0 : w.cell? ⟨g, 0, none⟩ = some (.pointer none) := hb.cell 0
  have hz : w.frozen? ⟨g, 0, none⟩ = false := hb.frozen 0
  have hs : w.shape? g = some (107, 2) := hb.shape
  have k1 := Lib.run_to_unsafe (P := Tryz.prog) (dst := 190) w ⟨g, 0, none⟩ Tryz.underlying105 Tryz.underlying190 hj (by rw [hjs]; decide) hs (Nat.zero_lt_succ 1)
  have k2 := Lib.run_from_unsafe (P := Tryz.prog) w ⟨g, 0, none⟩ Tryz.underlying190 Tryz.underlying105 hj hs (by kernel_rfl)
  have k3 : ∀ x : Value, (callFunc 170 #[x]).run Tryz.prog w = .ok (.value x) w := fun x => by
    rw [run_callFunc_extern Tryz.func170 (by kernel_rfl) (by kernel_rfl) (by kernel_rfl) (e := Extern.AbiNoEscape.same) (by kernel_rfl)]
    rfl
  go_enter Tryz.func131, Tryz.ntmps131
  go_wp2_with (fail)
  go_end0
  exact ⟨rfl, rfl⟩
theorem copyCheck_any (g base : Nat) (p : Value) (l : Str) (w : World) (hp : p = .pointer none ∨ p = selfP g) (h : BldAt w g base p l) :
    Calls Tryz.prog 131 #[.pointer (some ⟨g, 0, none⟩)] w fun e w' => e = .returned (.tuple #[]) ∧ BldAt w' g base (selfP g) l ∧ Below base w w' := by
  obtain ⟨hbg, v, hb, hown, hnil⟩ := h
  rcases hp with rfl | rfl
  · refine (copy_fresh g w v hb).mono ?_
    rintro e w' ⟨rfl, rfl⟩
    exact ⟨rfl, ⟨hbg, v, hb.set_ 0 _, own_far hown (own_blk_ne hown hb (by decide)) _, hnil⟩, (Below.refl _ _).setCell hbg _⟩
  · refine (copy_used g w (hb.cell 0)).mono ?_
    rintro e w' ⟨rfl, rfl⟩
    exact ⟨rfl, ⟨hbg, v, hb, hown, hnil⟩, Below.refl _ _⟩
theorem WriteByte_any (g base : Nat) (p : Value) (l : Str) (c : UInt8) (w : World) (hp : p = .pointer none ∨ p = selfP g) (h : BldAt w g base p l) (hl : l.length ≤ 2 ^ 37) (hbw : base ≤ w.heap.size) :
    Calls Tryz.prog 75 #[.pointer (some ⟨g, 0, none⟩), bv c] w fun e w' => e = .returned .nilIface ∧ BldAt w' g base (selfP g) (l ++ [c]) ∧ Below base w w' := by
  have kc := fun w h => copyCheck_any g base p l w hp h
  go_enter Tryz.func75, Tryz.ntmps75
  go_wp2_with (first
    | (go_at_call 131; refine (kc _ h).mono ?_; rintro e w1 ⟨rfl, ⟨hbg, v, hb, hown, _⟩, hb1⟩
       obtain ⟨A1, n1, rfl, _, _⟩ := own_sl hown
       have c1 : w1.cell? ⟨g, 1, none⟩ = some (.slice A1 l.length n1) := hb.cell 1
       have hz1 := hb1.size)
    | (at_builtin; refine wpList_app byteT rfl (.tmp 11) (.tmp 13) rfl _ l.length (l.map bv) rfl base hown [bv c] rfl (by simp [Value.oneCell']) rfl (by omega) (by omega) (by omega) ?_; intro v2 w2 own2 hg2 hat2
       have hne := own_blk_ne hown hb (by decide)
       have hB2 := hb.grown hg2 (fun h => hne h.symm)
       have d1 : w2.cell? ⟨g, 1, none⟩ = some (.slice A1 l.length n1) := hB2.cell 1
       have f1 : w2.frozen? ⟨g, 1, none⟩ = false := hB2.frozen 1
       have hb2 := Below.own hb1 (Nat.le_trans hbw hz1) hown (Nat.le_refl _) hg2
       obtain ⟨A2, c2, rfl, _, _⟩ := own_sl own2))
  go_ret
  exact ⟨rfl, ⟨hbg, .slice A2 (l.length + 1) c2, hB2.set_ 1 _, own_cast (own_far own2 (own_blk_ne (t := 107) own2 hB2 (by decide)) _) (by simp) (by simp), fun h => by simp at h⟩, hb2.setCell hbg _⟩
theorem String_any (g base : Nat) (p : Value) (l : Str) (w : World) (h : BldAt w g base p l) :
    Calls Tryz.prog 76 #[.pointer (some ⟨g, 0, none⟩)] w fun e w' => e = .returned (sv l) ∧ Below base w w' := by
  obtain ⟨hbg, v, hb, hown, hnil⟩ := h
  rcases hown.2 with ⟨rfl, h0⟩ | ⟨gv, cap, cur, rfl, hgv, hcur, hlc, hcm, hcs, htk⟩
  · obtain rfl : l = [] := List.eq_nil_of_length_eq_zero h0
    have c1 : w.drew.cell? ⟨g, 1, none⟩ = some (.slice none 0 0) := hb.drew.cell 1
    have k1 := fun w => Lib.run_unsafeString_none (P := Tryz.prog) w 158 3 9 none
    have k2 : (Builtin.unsafeSliceData_ #[57] 158 #[.slice none 0 0]).run Tryz.prog w.drew = .ok (.pointer none) w.drew := rfl
    clear hown h0
    go_enter Tryz.func76, Tryz.ntmps76
    go_wp2_with (fail)
    go_region
    all_goals (go_wp2; go_ret; exact ⟨rfl, (Below.refl _ _).drew⟩)
  · have c1 : w.drew.cell? ⟨g, 1, none⟩ = some (.slice (some ⟨gv, 0, none⟩) l.length cap) := hb.drew.cell 1
    have hBc : Blk w gv 5 cur := hcur
    by_cases hl : l = []
    · have := hnil hl
      cases this
    · have k2 : (Builtin.unsafeSliceData_ #[57] 158 #[.slice (some ⟨gv, 0, none⟩) l.length cap]).run Tryz.prog w.drew = .ok (.pointer (some ⟨gv, 0, none⟩)) w.drew := Lib.run_unsafeSliceData_row _ _ _ _ _ _ (by have := List.length_pos_iff.2 hl; omega)
      have k3 : (Builtin.unsafeString_ #[158, 3] 9 #[.pointer (some ⟨gv, 0, none⟩), .int .i64 l.length]).run Tryz.prog w.drew = .ok (.string ⟨l.toArray⟩) (w.drew.freeze ⟨gv, 0, none⟩ l.length) := by
        refine Lib.run_unsafeString_row w.drew 158 3 9 5 Tryz.underlying158 (by kernel_rfl) gv cur.size hBc.drew.shape l hl (by omega) (by unfold maxLen at hcm; omega) ?_
        intro j x hx
        exact hown.cells (g := gv) rfl j (.int .u8 x.toNat) (by rw [List.getElem?_map, hx]; rfl)
      have hl' := Lib.hid hl
      clear hown hlc hcs htk hl
      go_enter Tryz.func76, Tryz.ntmps76
      go_wp2_with (fail)
      go_region
      all_goals (go_wp2; go_ret; exact ⟨rfl, Lib.below_freeze (Below.refl _ _).drew (p := ⟨gv, 0, none⟩) hgv _⟩)
end Go.Proofs.YtamdcbbclkobiaaGreatDoor
