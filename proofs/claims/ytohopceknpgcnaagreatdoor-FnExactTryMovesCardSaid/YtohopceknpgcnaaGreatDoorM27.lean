/-
  What holds of the values in the regions of the laws on moves; the law's own blocks; the answer of TryMoves as one list; The walk of the law FnExactTryMoves (the laws package). PRINTED BY wip/mk108.py (with wip/L108.head); The walk of the law FnExactTryMoves at every argument (the laws package); What comes in: lexicons, boards, tile sets; the row's wrap.
  Conditions: as each part below says.
-/
import Derived.Test.YtohopceknpgcnaaGreatDoorM25
import Derived.Test.YtohopceknpgcnaaGreatDoorM26
import Derived.Test.YtohopceknpgcnaaGreatDoorM20
import Derived.Test.YtohopceknpgcnaaGreatDoorM14
import Derived.Test.YtohopceknpgcnaaGreatDoorM09
import Derived.ProofKit
import Derived.Lay
import Derived.LaidMore
import Derived.Carry
import Derived.SizedLaws
import Derived.Deep.Strs
import Derived.Lib.SmallJoins
import Derived.Shelf.Vars
import Derived.ShapedOpen
import Derived.ChangeSlices
/-
  What holds of the values in the regions of the laws on moves; the law's own blocks; the answer of TryMoves as one list.
  Conditions: none.
-/
namespace Go.Proofs.YtohopceknpgcnaaGreatDoor
open Go.RowKit RegP RegL RegV

/-- A copied lexicon; a copied tile set; an answer of two results; a row. -/
def PLx (B n : Nat) (V : List Value) : Value → World → Prop := fun u x => ∃ v, u = .agg #[v] ∧ x.ownsRow B 9 1 v n V
def PTs (B : Nat) (t : TS) : Value → World → Prop := fun u x => ∃ v1 v2, u = .agg #[sv t.letters, v1, v2, .int .i64 t.blanks] ∧ TsOwn B t v1 v2 x
def PRs (B : Nat) (e : TypeId) (size n : Nat) (C : Int) (xs : List Value) : Value → World → Prop := fun u x => ∃ v, u = .tuple #[v, .int .i64 C] ∧ x.ownsRow B e size v n xs
def PAs (B : Nat) (e : TypeId) (size n : Nat) (xs : List Value) : Value → World → Prop := fun u x => x.ownsRow B e size u n xs
theorem PLx.st {B n : Nat} {V : List Value} {u : Value} {w w' : World} (h : PLx B n V u w) (hb : Below w.heap.size w w') : PLx B n V u w' := by
  obtain ⟨v, h1, h2⟩ := h
  exact ⟨v, h1, own_call h2 hb⟩
theorem PTs.st {B : Nat} {t : TS} {u : Value} {w w' : World} (h : PTs B t u w) (hb : Below w.heap.size w w') : PTs B t u w' := by
  obtain ⟨v1, v2, h1, h2⟩ := h
  exact ⟨v1, v2, h1, h2.below hb⟩
theorem PRs.st {B : Nat} {e : TypeId} {size n : Nat} {C : Int} {xs : List Value} {u : Value} {w w' : World} (h : PRs B e size n C xs u w) (hb : Below w.heap.size w w') : PRs B e size n C xs u w' := by
  obtain ⟨v, h1, h2⟩ := h
  exact ⟨v, h1, own_call h2 hb⟩
theorem PAs.st {B : Nat} {e : TypeId} {size n : Nat} {xs : List Value} {u : Value} {w w' : World} (h : PAs B e size n xs u w) (hb : Below w.heap.size w w') : PAs B e size n xs u w' := own_call h hb
theorem PLx.mk {B n : Nat} {V : List Value} {v : Value} {x : World} (h : x.ownsRow B 9 1 v n V) : PLx B n V (.agg #[v]) x := ⟨v, rfl, h⟩
theorem PTs.mk {B : Nat} {t : TS} {v1 v2 : Value} {x : World} (h : TsOwn B t v1 v2 x) : PTs B t (.agg #[sv t.letters, v1, v2, .int .i64 t.blanks]) x := ⟨v1, v2, rfl, h⟩
theorem PRs.mk {B : Nat} {e : TypeId} {size n : Nat} {C : Int} {xs : List Value} {v : Value} {x : World} (h : x.ownsRow B e size v n xs) : PRs B e size n C xs (.tuple #[v, .int .i64 C]) x := ⟨v, rfl, h⟩
theorem TsOwn.base {B B' : Nat} {t : TS} {v1 v2 : Value} {w : World} (h : TsOwn B t v1 v2 w) (hb : B' ≤ B) : TsOwn B' t v1 v2 w := ⟨own_base h.1 hb, own_base h.2.1 hb, h.2.2⟩
/-- Three copies and a call; one copy and a call; one copy. -/
def T3c (B n : Nat) (V : List Value) (t : TS) (e : TypeId) (size m : Nat) (C : Int) (xs : List Value) : Nat → Option (Value → World → Prop) := fun i =>
  match i with
  | 1 => some (PLx B n V)
  | 3 => some (PTs B t)
  | 7 => some (PRs B e size m C xs)
  | 8 => some (PRs B e size m C xs)
  | 9 => some (PAs B e size m xs)
  | 11 => some (PAs B e size m xs)
  | _ => none
def T1c (B : Nat) (e : TypeId) (size m : Nat) (C : Int) (xs : List Value) : Nat → Option (Value → World → Prop) := fun i =>
  match i with
  | 5 => some (PRs B e size m C xs)
  | 6 => some (PRs B e size m C xs)
  | 7 => some (PAs B e size m xs)
  | 9 => some (PAs B e size m xs)
  | _ => none
def TL (B n : Nat) (V : List Value) : Nat → Option (Value → World → Prop) := fun i =>
  match i with
  | 2 => some (PLx B n V)
  | _ => none
def TT (B : Nat) (t : TS) : Nat → Option (Value → World → Prop) := fun i =>
  match i with
  | 2 => some (PTs B t)
  | _ => none
theorem T3c.stab {B n : Nat} {V : List Value} {t : TS} {e : TypeId} {size m : Nat} {C : Int} {xs : List Value} : StabX (T3c B n V t e size m C xs) := by
  intro i P h u w w' hP hb
  unfold T3c at h
  split at h <;> first | (injection h with h; subst h; first | exact PLx.st hP hb | exact PTs.st hP hb | exact PRs.st hP hb | exact PAs.st hP hb) | cases h
theorem T1c.stab {B : Nat} {e : TypeId} {size m : Nat} {C : Int} {xs : List Value} : StabX (T1c B e size m C xs) := by
  intro i P h u w w' hP hb
  unfold T1c at h
  split at h <;> first | (injection h with h; subst h; first | exact PRs.st hP hb | exact PAs.st hP hb) | cases h
theorem TL.stab {B n : Nat} {V : List Value} : StabX (TL B n V) := by
  intro i P h u w w' hP hb
  unfold TL at h
  split at h <;> first | (injection h with h; subst h; exact PLx.st hP hb) | cases h
theorem TT.stab {B : Nat} {t : TS} : StabX (TT B t) := by
  intro i P h u w w' hP hb
  unfold TT at h
  split at h <;> first | (injection h with h; subst h; exact PTs.st hP hb) | cases h
/-- The arguments lie in the law's own blocks. -/
structure LA3 (w : World) (A : Option Addr) (c n : Nat) (t : TS) (A1 : Option Addr) (c1 : Nat) (A2 : Option Addr) (c2 : Nat) (sz : Int) (bp bc : Str) (wr : World) : Prop where
  low : Below w.heap.size w wr
  lx : Blk wr w.heap.size 24 #[.slice A n c]
  ts : Blk wr (w.heap.size + 1) 27 #[sv t.letters, .slice A1 t.values.length c1, .slice A2 t.counts.length c2, .int .i64 t.blanks]
  bd : Blk wr (w.heap.size + 1 + 1) 29 #[.int .i64 sz, sv bp, sv bc]
section
variable {w wr w' : World} {A A1 A2 : Option Addr} {c n c1 c2 : Nat} {t : TS} {sz : Int} {bp bc : Str}
theorem LA3.call (h : LA3 w A c n t A1 c1 A2 c2 sz bp bc wr) (hb : Below wr.heap.size wr w') : LA3 w A c n t A1 c1 A2 c2 sz bp bc w' :=
  ⟨h.low.trans (hb.mono h.low.size), h.lx.below hb h.lx.lt, h.ts.below hb h.ts.lt, h.bd.below hb h.bd.lt⟩
theorem LA3.grow {base size m : Nat} {v : Value} {xs : List Value} {e : TypeId} (h : LA3 w A c n t A1 c1 A2 c2 sz bp bc wr) (ho : wr.ownsRow base e size v m xs) (hB : w.heap.size ≤ base) (h1 : e ≠ 24) (h2 : e ≠ 27) (h3 : e ≠ 29) (hg : wr.grownBy w' v.ownBlock) : LA3 w A c n t A1 c1 A2 c2 sz bp bc w' :=
  ⟨Below.own h.low h.low.size ho hB hg, h.lx.grown hg (fun e => own_blk_ne ho h.lx h1 e.symm), h.ts.grown hg (fun e => own_blk_ne ho h.ts h2 e.symm), h.bd.grown hg (fun e => own_blk_ne ho h.bd h3 e.symm)⟩
theorem LA3.g2 {base : Nat} {v1 v2 : Value} {u : TS} (h : LA3 w A c n t A1 c1 A2 c2 sz bp bc wr) (ho : TsOwn base u v1 v2 wr) (hB : w.heap.size ≤ base) (hg : G2 wr w' v1.ownBlock v2.ownBlock) : LA3 w A c n t A1 c1 A2 c2 sz bp bc w' :=
  ⟨Below.g2 h.low h.low.size (fun k hk => Nat.le_trans hB (ho.1.lt k hk).1) (fun k hk => Nat.le_trans hB (ho.2.1.lt k hk).1) hg, h.lx.g2 hg (own_blk_ne ho.1 h.lx (by decide)) (own_blk_ne ho.2.1 h.lx (by decide)), h.ts.g2 hg (own_blk_ne ho.1 h.ts (by decide)) (own_blk_ne ho.2.1 h.ts (by decide)), h.bd.g2 hg (own_blk_ne ho.1 h.bd (by decide)) (own_blk_ne ho.2.1 h.bd (by decide))⟩
end
/-- Rows of two types lie apart. -/
theorem own_diff {w : World} {base base2 e e2 size size2 n n2 : Nat} {v v2 : Value} {xs xs2 : List Value} (h : w.ownsRow base e size v n xs) (h2 : w.ownsRow base2 e2 size2 v2 n2 xs2) (hne : e ≠ e2) : ∀ k, v.ownBlock = some k → v2.ownBlock ≠ some k := fun k hk hk2 => by
  rcases h.2 with ⟨rfl, _⟩ | ⟨g, cap, cur, rfl, _, hh, _⟩
  · cases hk
  · have hgk : g = k := by simpa [Value.ownBlock] using hk
    subst hgk
    exact own_blk_ne (t := e) (cs := cur) h2 hh (Ne.symm hne) hk2
theorem TsOwn.grown {base base2 e size n : Nat} {t : TS} {v1 v2 v : Value} {xs : List Value} {w w' : World} (h : TsOwn base t v1 v2 w) (h2 : w.ownsRow base2 e size v n xs) (hne : 2 ≠ e) (hg : w.grownBy w' v.ownBlock) : TsOwn base t v1 v2 w' := ⟨own_grown h.1 h2 hne hg, own_grown h.2.1 h2 hne hg, h.2.2⟩
theorem TsOwn.in_ {base : Nat} {t : TS} {A1 A2 : Option Addr} {c1 c2 : Nat} {w : World} (h : TsOwn base t (.slice A1 t.values.length c1) (.slice A2 t.counts.length c2) w) : TsIn w t A1 A2 := ⟨Reads.of_own h.1, Reads.of_own h.2.1⟩
theorem TsOwn.form {base : Nat} {t : TS} {v1 v2 : Value} {w : World} (h : TsOwn base t v1 v2 w) : ∃ A1 c1 A2 c2, v1 = .slice A1 t.values.length c1 ∧ v2 = .slice A2 t.counts.length c2 := by
  obtain ⟨A1, c1, e1, -, -, -⟩ := own_form h.1
  obtain ⟨A2, c2, e2, -, -, -⟩ := own_form h.2.1
  exact ⟨A1, c1, A2, c2, e1, e2⟩
/-- The answer's list. -/
def ansM (C : Int) (M : List Mv) : List Mv := if C = 0 then M else []
theorem MovesPost.ans {w w' : World} {t : TS} {b : Bd} {ws : List Str} {rack : Str} {e : Ending} (h : MovesPost w t b ws rack e w') :
    ∃ v, e = .returned (.tuple #[v, .int .i64 (movesCode t b ws rack)]) ∧ w'.ownsRow w.heap.size 72 5 v (ansM (movesCode t b ws rack) (movesL t b ws rack)).length (mvsC (ansM (movesCode t b ws rack) (movesL t b ws rack))) ∧ Below w.heap.size w w' := by
  obtain ⟨v, h1, h2, h3, h4⟩ := h
  refine ⟨v, h1, ?_, h4⟩
  unfold ansM
  by_cases hc : movesCode t b ws rack = 0
  · rw [if_pos hc]; exact h2 hc
  · rw [if_neg hc, h3 hc]
    exact ⟨rfl, .inl ⟨rfl, rfl⟩⟩
theorem ansM_len (t : TS) (b : Bd) (ws : List Str) (rack : Str) : (ansM (movesCode t b ws rack) (movesL t b ws rack)).length ≤ 400 := by
  unfold ansM
  split
  · rename_i h0
    unfold movesCode at h0
    split at h0
    · rw [movesL_length]
      exact plays_400 h0
    · cases h0
  · simp
end Go.Proofs.YtohopceknpgcnaaGreatDoor
/-
  The walk of the law FnExactTryMoves (the laws package). PRINTED BY wip/mk108.py (with wip/L108.head).
  Conditions: strings of common size; the slices lie in memory; the library's variable MaxLen reads as a number.
-/
namespace Go.Proofs.YtohopceknpgcnaaGreatDoor
open Go.RowKit RegP RegL RegV
set_option maxHeartbeats 4000000
set_option maxRecDepth 100000

theorem law_main (A : Option Addr) (c : Nat) (lex : List Str) (t : TS) (A1 A2 : Option Addr) (c1 c2 : Nat) (b : Bd) (rack : Str) (w : World) (hm : MaxOk w) (hr : Reads w w.heap.size 1 A lex.length (lex.map sv)) (hi : TsIn w t A1 A2) (hln : lex.length ≤ 2 ^ 20) (hls : ∀ x ∈ lex, x.length ≤ 2 ^ 20) (htl : t.letters.length ≤ 2 ^ 20) (htv : t.values.length ≤ 2 ^ 20) (htc : t.counts.length ≤ 2 ^ 20) (hrk : rack.length ≤ 2 ^ 20) (l1 : Int) (hl1 : szS lex (2 ^ 20) = l1) (hl0 : 0 ≤ l1) (hl2 : l1 ≤ 2 ^ 20) (l2 : Int) (hl3 : szT t l1 = l2) (hl4 : 0 ≤ l2) (hl5 : l2 ≤ 2 ^ 20) (l3 : Int) (hl6 : szB b l2 = l3) (hl7 : 0 ≤ l3) :
    Calls Tryz.prog 3 #[.agg #[.slice A lex.length c], t.v A1 c1 A2 c2, b.v, sv rack] w fun e w' => e = .returned (.bool true) ∧ Below w.heap.size w w' := by
  obtain ⟨hbp, hbc⟩ := szB_bd (b := b) (l := l2) (by omega)
  have ksl := fun (W : World) (hW : Below w.heap.size w W) => szLexicon_any A c lex (2 ^ 20) W ((hr.below hW).more hW.size) (by omega) (fun x hx => by have := hls x hx; omega) (by decide) (by decide)
  have kst := fun W => szTileSet_any t A1 A2 c1 c2 l1 W (by omega) (by omega) (by omega) hl0 (by omega)
  have ksb := fun W => szBoard_any b l2 W hl4 (by omega) (by omega) (by omega)
  rw [hl1] at ksl
  rw [hl3] at kst
  rw [hl6] at ksb
  have ktl := fun (W : World) (hW : Below w.heap.size w W) => toLexicon_any A c lex W ((hr.below hW).more hW.size) (by omega)
  have ktt := fun (W : World) (hW : Below w.heap.size w W) => toTileSet_any t A1 A2 c1 c2 W (hi.below hW) (by omega) (by omega)
  have ktb := fun W => toBoard_any b W
  have ksp := fun (Ax : Option Addr) (cx : Nat) (A1 A2 : Option Addr) (c1 c2 : Nat) (W : World) (hi : TsIn W t A1 A2) (h : Reads W W.heap.size 1 Ax lex.length (lex.map sv)) => (sTryMoves_any rack t A1 A2 c1 c2 b Ax cx lex W hi h (by omega) (fun x hx => by have := hls x hx; omega) (by omega) (by omega) (by omega) (by omega) (by omega) (by omega)).mono fun e w' h => MovesPost.ans h
  have kim := fun (Ax : Option Addr) (cx : Nat) (A1 A2 : Option Addr) (c1 c2 : Nat) (W : World) (hW : Below w.heap.size w W) (hi : TsIn W t A1 A2) (h : Reads W W.heap.size 1 Ax lex.length (lex.map sv)) (hA : Plain0 Ax) => (iTryMoves_any Ax cx lex t A1 A2 c1 c2 b rack W (hm.below hW) hi h hA (by omega) (fun x hx => by have := hls x hx; omega) (by omega) (by omega) (by omega) (by omega) (by omega) (by omega)).mono fun e w' h => MovesPost.ans h
  have hMl := ansM_len t b lex rack
  obtain ⟨C, hC⟩ : ∃ C, C = movesCode t b lex rack := ⟨_, rfl⟩
  rw [← hC] at ksp kim hMl
  obtain ⟨Z, hZ⟩ : ∃ Z, Z = ansM C (movesL t b lex rack) := ⟨_, rfl⟩
  rw [← hZ] at ksp kim hMl
  clear hC hZ hl1 hl3 hl6 hbp hbc hm
  obtain ⟨sz, bp, bc⟩ := b
  simp only [Bd.v, TS.v] at *
  obtain ⟨V, hV⟩ : ∃ V, V = lex.map sv := ⟨_, rfl⟩
  have keqx := fun (B1 B2 : Option Addr) (d1 d2 : Nat) (W : World) (h1 : Reads W W.heap.size 1 B1 lex.length (lex.map sv)) (h2 : Reads W W.heap.size 1 B2 lex.length (lex.map sv)) => eqLexicon_any B1 B2 d1 d2 lex lex W h1 h2 (by omega)
  rw [beq_self_eq_true] at keqx
  have keqt := fun (B1 B2 D1 D2 : Option Addr) (d1 d2 d3 d4 : Nat) (W : World) (h1 : TsIn W t B1 B2) (h2 : TsIn W t D1 D2) => eqTileSet_any t t B1 B2 D1 D2 d1 d2 d3 d4 W h1 h2 (by omega) (by omega)
  simp only [eqTB_self, TS.v] at keqt
  have kml := fun (v : Value) (base : Nat) (W : World) (h : W.ownsRow base 9 1 v lex.length (lex.map sv)) => markLexicon_any v lex 1 base W h (by omega) (by decide) (by decide)
  rw [← hV] at ktl ksp kim hr keqx kml
  clear hV
  obtain ⟨XV, hXV⟩ : ∃ XV, XV = mvsC Z := ⟨_, rfl⟩
  have kem := fun (B1 B2 : Option Addr) (d1 d2 : Nat) (W : World) (h1 : Reads W W.heap.size 5 B1 Z.length (mvsC Z)) (h2 : Reads W W.heap.size 5 B2 Z.length (mvsC Z)) hf1 hf2 => eqMoveS_same B1 B2 d1 d2 Z W h1 h2 hf1 hf2 (by omega)
  have kmm := fun (v : Value) (base : Nat) (W : World) (h : W.ownsRow base 72 5 v Z.length (mvsC Z)) => markMoveS_any v Z 1 base W h (by omega) (by decide) (by decide)
  have khm := fun (B1 : Option Addr) (d1 : Nat) (W : World) (h : Reads W W.heap.size 5 B1 Z.length (mvsC (marksM 1 Z.length))) hf => heldMoveS_same B1 d1 Z.length 1 W h hf (by omega) (by decide) (by decide)
  have kmt := fun (v1 v2 : Value) (base : Nat) (W : World) (h : TsOwn base t v1 v2 W) => markTileSet_any t v1 v2 (1 + lex.length) base W h (by omega) (by omega) (by omega) (by omega)
  rw [← hXV] at ksp kim kem kmm
  clear hXV
  obtain ⟨MV, hMV⟩ : ∃ MV, MV = mvsC (marksM 1 Z.length) := ⟨_, rfl⟩
  obtain ⟨R1, hR1⟩ : ∃ R1 : Int, R1 = ((1 + lex.length : Nat) : Int) := ⟨_, rfl⟩
  obtain ⟨R2, hR2⟩ : ∃ R2 : Int, R2 = ((1 + lex.length + t.values.length + t.counts.length : Nat) : Int) := ⟨_, rfl⟩
  obtain ⟨R3, hR3⟩ : ∃ R3 : Int, R3 = ((1 + 5 * Z.length : Nat) : Int) := ⟨_, rfl⟩
  rw [← hMV, ← hR3] at kmm khm
  rw [← hR1] at kml kmt
  rw [← hR2] at kmt
  have hR2n : ¬ R2 < 0 := by omega
  have hR3n : ¬ R3 < 0 := by omega
  have hRR : (R3 != R3) = false := by simp
  have hCC : (C != C) = false := by simp
  clear hMV hR1 hR2 hR3
  have hrk' : ¬ (1048576 : Int) < (rack.length : Int) := by omega
  have hl0' : ¬ l1 < 0 := by omega
  have hl4' : ¬ l2 < 0 := by omega
  have hl7' : ¬ l3 < 0 := by omega
  obtain ⟨W, hW⟩ : ∃ W, W = ((w.alloc (.cells #[.slice A lex.length c] 24)).alloc (.cells #[sv t.letters, .slice A1 t.values.length c1, .slice A2 t.counts.length c2, .int .i64 t.blanks] 27)).alloc (.cells #[.int .i64 sz, sv bp, sv bc] 29) := ⟨_, rfl⟩
  have hL : LA3 w A c lex.length t A1 c1 A2 c2 sz bp bc W := by
    rw [hW]
    exact ⟨(((Below.refl _ _).alloc (Nat.le_refl _) _).alloc (by simp) _).alloc (by simp; omega) _, ((Blk.new w _ _).alloc _).alloc _, (Blk.new1 w _ _ _).alloc _, Blk.new2 w _ _ _ _⟩
  go_enter Tryz.func3, Tryz.ntmps3
  go_wp2_with (first
    | (go_at_call 6; rw [← hW]; refine (ksl _ hL.low).mono ?_; rintro e w1 ⟨rfl, hb1⟩; have hL1 := hL.call hb1
       have f1 : w1.cell? ⟨w.heap.size + 1, 0, none⟩ = some (sv t.letters) := hL1.ts.cell 0
       have f2 : w1.cell? ⟨w.heap.size + 1, 1, none⟩ = some (.slice A1 t.values.length c1) := hL1.ts.cell 1
       have f3 : w1.cell? ⟨w.heap.size + 1, 2, none⟩ = some (.slice A2 t.counts.length c2) := hL1.ts.cell 2
       have f4 : w1.cell? ⟨w.heap.size + 1, 3, none⟩ = some (.int .i64 t.blanks) := hL1.ts.cell 3)
    | (go_at_call 7; refine (kst _).mono ?_; rintro e w2 ⟨rfl, hb2⟩; have hL2 := hL1.call hb2
       have g1 : w2.cell? ⟨w.heap.size + 1 + 1, 0, none⟩ = some (.int .i64 sz) := hL2.bd.cell 0
       have g2 : w2.cell? ⟨w.heap.size + 1 + 1, 1, none⟩ = some (sv bp) := hL2.bd.cell 1
       have g3 : w2.cell? ⟨w.heap.size + 1 + 1, 2, none⟩ = some (sv bc) := hL2.bd.cell 2)
    | (go_at_call 8; refine (ksb _).mono ?_; rintro e w3 ⟨rfl, hb3⟩; have hL3 := hL2.call hb3))
  clear hL hL1 hL2 hb1 hb2 hb3 f1 f2 f3 f4 g1 g2 g3 ksl kst ksb
  refine wp_region_v 14 13 (SX w3 (T3c w3.heap.size lex.length V t 72 5 Z.length C XV)) (by kernel_rfl) (by kernel_rfl) ⟨fun _ => undef, SX.start⟩ ?_
  simp only [List.take_succ_cons, List.take_zero, List.drop_succ_cons, List.drop_zero]
  apply pv_step (fun _ => rfl)
  · intro σ L w1 hS h1 h2 K hK
    clear h2
    have f := hL3.lx.below hS.low hL3.lx.lt
    have f0 : w1.cell? ⟨w.heap.size, 0, none⟩ = some (.slice A lex.length c) := f.cell 0
    go_wp2
    exact hS.keep rfl
  simp only [Act.put, List.setIfInBounds_toArray, List.set_cons_succ, List.set_cons_zero]
  apply pv_free (fun _ => rfl)
  · intro σ L w1 hS h1 h2 K hK
    clear h2
    go_wp2_with (go_at_call 10; refine (ktl _ (hL3.low.trans (hS.low.mono hL3.low.size))).mono ?_; rintro e w5 ⟨v5, rfl, own5, hb5⟩)
    exact hS.put T3c.stab hb5 rfl (PLx.mk (own_base own5 hS.low.size))
  simp only [Act.put, List.setIfInBounds_toArray, List.set_cons_succ, List.set_cons_zero]
  apply pv_step (fun _ => rfl)
  · intro σ L w1 hS h1 h2 K hK
    clear h2
    have f := hL3.ts.below hS.low hL3.ts.lt
    have f0 : w1.cell? ⟨w.heap.size + 1, 0, none⟩ = some (sv t.letters) := f.cell 0
    have f1 : w1.cell? ⟨w.heap.size + 1, 1, none⟩ = some (.slice A1 t.values.length c1) := f.cell 1
    have f2 : w1.cell? ⟨w.heap.size + 1, 2, none⟩ = some (.slice A2 t.counts.length c2) := f.cell 2
    have f3 : w1.cell? ⟨w.heap.size + 1, 3, none⟩ = some (.int .i64 t.blanks) := f.cell 3
    go_wp2
    exact hS.keep rfl
  simp only [Act.put, List.setIfInBounds_toArray, List.set_cons_succ, List.set_cons_zero]
  apply pv_free (fun _ => rfl)
  · intro σ L w1 hS h1 h2 K hK
    clear h2
    go_wp2_with (go_at_call 11; refine (ktt _ (hL3.low.trans (hS.low.mono hL3.low.size))).mono ?_; rintro e w5 ⟨v5, v6, rfl, own5, hb5⟩)
    exact hS.put T3c.stab hb5 rfl (PTs.mk (own5.base hS.low.size))
  simp only [Act.put, List.setIfInBounds_toArray, List.set_cons_succ, List.set_cons_zero]
  apply pv_step (fun _ => rfl)
  · intro σ L w1 hS h1 h2 K hK
    clear h2
    have f := hL3.bd.below hS.low hL3.bd.lt
    have f0 : w1.cell? ⟨w.heap.size + 1 + 1, 0, none⟩ = some (.int .i64 sz) := f.cell 0
    have f1 : w1.cell? ⟨w.heap.size + 1 + 1, 1, none⟩ = some (sv bp) := f.cell 1
    have f2 : w1.cell? ⟨w.heap.size + 1 + 1, 2, none⟩ = some (sv bc) := f.cell 2
    go_wp2
    exact hS.keep rfl
  simp only [Act.put, List.setIfInBounds_toArray, List.set_cons_succ, List.set_cons_zero]
  apply pv_step (v := .agg #[.int .i64 sz, sv bp, sv bc]) (fun _ => rfl)
  · intro σ L w1 hS h1 h2 K hK
    clear h2
    simp only [Act.put, List.setIfInBounds_toArray, List.set_cons_succ, List.set_cons_zero] at hK
    go_wp2_with (go_at_call 12; refine (ktb _).mono ?_; rintro e w5 ⟨rfl, hb5⟩)
    exact (hS.below T3c.stab hb5).keep rfl
  simp only [Act.put, List.setIfInBounds_toArray, List.set_cons_succ, List.set_cons_zero]
  apply pv_step (fun _ => rfl)
  · intro σ L w1 hS h1 h2 K hK
    clear h2
    go_wp2
    exact hS.keep rfl
  simp only [Act.put, List.setIfInBounds_toArray, List.set_cons_succ, List.set_cons_zero]
  apply pv_free (fun _ => rfl)
  · intro σ L w1 hS h1 h2 K hK
    have hl := h2 1 (List.contains_iff_mem.1 (by kernel_rfl))
    have ht := h2 3 (List.contains_iff_mem.1 (by kernel_rfl))
    clear h2
    obtain ⟨vL, eL, ownL⟩ := hS.get (i := 1) rfl hl
    obtain ⟨v1, v2, eT, ownT⟩ := hS.get (i := 3) rfl ht
    obtain ⟨D1, d1, D2, d2, rfl, rfl⟩ := ownT.form
    obtain ⟨Ax, cx, rfl, -, hrx, hfx⟩ := own_form ownL
    simp only [eL, eT] at hK ⊢
    go_wp2_with (go_at_call 9; refine (ksp Ax cx D1 D2 d1 d2 _ ownT.in_ hrx).mono ?_; rintro e w5 ⟨v5, rfl, own5, hb5⟩)
    exact hS.put T3c.stab hb5 rfl (PRs.mk (own_base own5 hS.low.size))
  simp only [Act.put, List.setIfInBounds_toArray, List.set_cons_succ, List.set_cons_zero]
  apply pv_free (fun _ => rfl)
  · intro σ L w1 hS h1 h2 K hK
    have hl := h2 7 (List.contains_iff_mem.1 (by kernel_rfl))
    clear h2
    go_wp2
    exact hS.put T3c.stab (Below.refl _ _) rfl (hS.get (i := 7) rfl hl)
  simp only [Act.put, List.setIfInBounds_toArray, List.set_cons_succ, List.set_cons_zero]
  apply pv_free (fun _ => rfl)
  · intro σ L w1 hS h1 h2 K hK
    have hl := h2 8 (List.contains_iff_mem.1 (by kernel_rfl))
    clear h2
    obtain ⟨v9, e9, own9⟩ := hS.get (i := 8) rfl hl
    simp only [e9] at hK ⊢
    go_wp2
    exact hS.put T3c.stab (Below.refl _ _) rfl own9
  simp only [Act.put, List.setIfInBounds_toArray, List.set_cons_succ, List.set_cons_zero]
  apply pv_step (v := .int .i64 C) (fun _ => rfl)
  · intro σ L w1 hS h1 h2 K hK
    have hl := h2 8 (List.contains_iff_mem.1 (by kernel_rfl))
    clear h2
    obtain ⟨v9, e9, own9⟩ := hS.get (i := 8) rfl hl
    simp only [e9] at hK ⊢
    go_wp2
    exact hS.keep rfl
  simp only [Act.put, List.setIfInBounds_toArray, List.set_cons_succ, List.set_cons_zero]
  apply pv_free (fun _ => rfl)
  · intro σ L w1 hS h1 h2 K hK
    have hl := h2 9 (List.contains_iff_mem.1 (by kernel_rfl))
    clear h2
    go_wp2
    exact hS.put T3c.stab (Below.refl _ _) rfl (hS.get (i := 9) rfl hl)
  simp only [Act.put, List.setIfInBounds_toArray, List.set_cons_succ, List.set_cons_zero]
  apply pv_step (fun _ => rfl)
  · intro σ L w1 hS h1 h2 K hK
    clear h2
    go_wp2
    exact hS.keep rfl
  simp only [Act.put, List.setIfInBounds_toArray, List.set_cons_succ, List.set_cons_zero]
  refine pv_nil fun σ w4 hS => ?_
  have ownw := hS.get (i := 11) rfl rfl
  have hbw4 := hS.low
  clear hS
  change w4.ownsRow _ _ _ _ _ _ at ownw
  generalize σ 1 = s1
  generalize σ 3 = s3
  generalize σ 7 = s7
  generalize σ 8 = s8
  generalize σ 9 = s9
  generalize σ 11 = s11 at ownw ⊢
  obtain ⟨A8, c8, rfl, -, -, hf8⟩ := own_form ownw
  have hL4 := hL3.call hbw4
  have hbase3 : w.heap.size ≤ w3.heap.size := hL3.low.size
  have f0 : w4.cell? ⟨w.heap.size, 0, none⟩ = some (.slice A lex.length c) := hL4.lx.cell 0
  clear hbw4
  go_wp2_with (first
    | (go_at_call 10; refine (ktl _ hL4.low).mono ?_; rintro e w5 ⟨vx, rfl, ownx, hb5⟩; obtain ⟨Ax, cx, rfl, -, -, hfx⟩ := own_form ownx
       obtain ⟨gx, hgx⟩ : ∃ gx, gx = w5.heap.size := ⟨_, rfl⟩
       obtain ⟨w6, hw6⟩ : ∃ w6, w6 = w5.alloc (.cells #[.slice Ax lex.length cx] 36) := ⟨_, rfl⟩
       have hb6 : Below w5.heap.size w5 w6 := by rw [hw6]; exact (Below.refl _ _).alloc (Nat.le_refl _) _
       have hx6 : Blk w6 gx 36 #[.slice Ax lex.length cx] := by rw [hw6, hgx]; exact Blk.new _ _ _
       have hL6 := (hL4.call hb5).call hb6
       have ownx6 := own_call ownx hb6
       have ownw6 := own_call (own_call ownw hb5) hb6
       have hL5 := hL4.call hb5
       have f1 : w5.cell? ⟨w.heap.size + 1, 0, none⟩ = some (sv t.letters) := hL5.ts.cell 0
       have f2 : w5.cell? ⟨w.heap.size + 1, 1, none⟩ = some (.slice A1 t.values.length c1) := hL5.ts.cell 1
       have f3 : w5.cell? ⟨w.heap.size + 1, 2, none⟩ = some (.slice A2 t.counts.length c2) := hL5.ts.cell 2
       have f4 : w5.cell? ⟨w.heap.size + 1, 3, none⟩ = some (.int .i64 t.blanks) := hL5.ts.cell 3
       have f5 := hL5.ts.lt
       have f6 : w.heap.size + 1 ≠ w5.heap.size := by omega)
    | (go_at_call 11; rw [← hw6]; refine (ktt _ hL6.low).mono ?_; rintro e w7 ⟨v1, v2, rfl, ownt, hb7⟩; obtain ⟨D1, d1, D2, d2, rfl, rfl⟩ := ownt.form))
  have hbx : w.heap.size ≤ w4.heap.size := hL4.low.size
  have hbt : w.heap.size ≤ w6.heap.size := hL6.low.size
  obtain ⟨gt, hgt⟩ : ∃ gt, gt = w7.heap.size := ⟨_, rfl⟩
  obtain ⟨w8, hw8⟩ : ∃ w8, w8 = w7.alloc (.cells #[sv t.letters, .slice D1 t.values.length d1, .slice D2 t.counts.length d2, .int .i64 t.blanks] 38) := ⟨_, rfl⟩
  have hb8 : Below w7.heap.size w7 w8 := by rw [hw8]; exact (Below.refl _ _).alloc (Nat.le_refl _) _
  have ht8 : Blk w8 gt 38 #[sv t.letters, .slice D1 t.values.length d1, .slice D2 t.counts.length d2, .int .i64 t.blanks] := by rw [hw8, hgt]; exact Blk.new _ _ _
  rw [← hw8, ← hgt, ← hgx]
  have hL8 := (hL6.call hb7).call hb8
  have hx8 := (hx6.below hb7 hx6.lt).below hb8 (hx6.below hb7 hx6.lt).lt
  have ownx8 := own_call (own_call ownx6 hb7) hb8
  have ownw8 := own_call (own_call ownw6 hb7) hb8
  have ownt8 := ownt.below hb8
  have hp8 : Plain0 Ax := fun ad h => by
    obtain ⟨g, rfl⟩ := hfx ad h
    rfl
  clear hw6 hgx hw8 hgt hb5 hb6 hb7 hb8 hL3 hL4 hL5 hL6 hx6 ownx ownx6 ownw ownw6 ownt f0 f1 f2 f3 f4 f5 f6
  refine wp_region_v 12 11 (SX w8 (T1c w8.heap.size 72 5 Z.length C XV)) (by kernel_rfl) (by kernel_rfl) ⟨fun _ => undef, SX.start⟩ ?_
  simp only [List.take_succ_cons, List.take_zero, List.drop_succ_cons, List.drop_zero]
  apply pv_step (fun _ => rfl)
  · intro σ L w1 hS h1 h2 K hK
    clear h2
    have f := hx8.below hS.low hx8.lt
    have f0 : w1.cell? ⟨gx, 0, none⟩ = some (.slice Ax lex.length cx) := f.cell 0
    go_wp2
    exact hS.keep rfl
  simp only [Act.put, List.setIfInBounds_toArray, List.set_cons_succ, List.set_cons_zero]
  apply pv_step (fun _ => rfl)
  · intro σ L w1 hS h1 h2 K hK
    clear h2
    have f := ht8.below hS.low ht8.lt
    have f0 : w1.cell? ⟨gt, 0, none⟩ = some (sv t.letters) := f.cell 0
    have f1 : w1.cell? ⟨gt, 1, none⟩ = some (.slice D1 t.values.length d1) := f.cell 1
    have f2 : w1.cell? ⟨gt, 2, none⟩ = some (.slice D2 t.counts.length d2) := f.cell 2
    have f3 : w1.cell? ⟨gt, 3, none⟩ = some (.int .i64 t.blanks) := f.cell 3
    go_wp2
    exact hS.keep rfl
  simp only [Act.put, List.setIfInBounds_toArray, List.set_cons_succ, List.set_cons_zero]
  apply pv_step (fun _ => rfl)
  · intro σ L w1 hS h1 h2 K hK
    clear h2
    have f := hL8.bd.below hS.low hL8.bd.lt
    have f0 : w1.cell? ⟨w.heap.size + 1 + 1, 0, none⟩ = some (.int .i64 sz) := f.cell 0
    have f1 : w1.cell? ⟨w.heap.size + 1 + 1, 1, none⟩ = some (sv bp) := f.cell 1
    have f2 : w1.cell? ⟨w.heap.size + 1 + 1, 2, none⟩ = some (sv bc) := f.cell 2
    go_wp2
    exact hS.keep rfl
  simp only [Act.put, List.setIfInBounds_toArray, List.set_cons_succ, List.set_cons_zero]
  apply pv_step (v := .agg #[.int .i64 sz, sv bp, sv bc]) (fun _ => rfl)
  · intro σ L w1 hS h1 h2 K hK
    clear h2
    simp only [Act.put, List.setIfInBounds_toArray, List.set_cons_succ, List.set_cons_zero] at hK
    go_wp2_with (go_at_call 12; refine (ktb _).mono ?_; rintro e w5 ⟨rfl, hb5⟩)
    exact (hS.below T1c.stab hb5).keep rfl
  simp only [Act.put, List.setIfInBounds_toArray, List.set_cons_succ, List.set_cons_zero]
  apply pv_step (fun _ => rfl)
  · intro σ L w1 hS h1 h2 K hK
    clear h2
    go_wp2
    exact hS.keep rfl
  simp only [Act.put, List.setIfInBounds_toArray, List.set_cons_succ, List.set_cons_zero]
  apply pv_free (fun _ => rfl)
  · intro σ L w1 hS h1 h2 K hK
    clear h2
    go_wp2_with (go_at_call 13; refine (kim Ax cx D1 D2 d1 d2 _ (hL8.low.trans (hS.low.mono hL8.low.size)) (ownt8.below hS.low).in_ (Reads.of_own (own_call ownx8 hS.low)) hp8).mono ?_; rintro e w5 ⟨v5, rfl, own5, hb5⟩)
    exact hS.put T1c.stab hb5 rfl (PRs.mk (own_base own5 hS.low.size))
  simp only [Act.put, List.setIfInBounds_toArray, List.set_cons_succ, List.set_cons_zero]
  apply pv_free (fun _ => rfl)
  · intro σ L w1 hS h1 h2 K hK
    have hl := h2 5 (List.contains_iff_mem.1 (by kernel_rfl))
    clear h2
    go_wp2
    exact hS.put T1c.stab (Below.refl _ _) rfl (hS.get (i := 5) rfl hl)
  simp only [Act.put, List.setIfInBounds_toArray, List.set_cons_succ, List.set_cons_zero]
  apply pv_free (fun _ => rfl)
  · intro σ L w1 hS h1 h2 K hK
    have hl := h2 6 (List.contains_iff_mem.1 (by kernel_rfl))
    clear h2
    obtain ⟨v9, e9, own9⟩ := hS.get (i := 6) rfl hl
    simp only [e9] at hK ⊢
    go_wp2
    exact hS.put T1c.stab (Below.refl _ _) rfl own9
  simp only [Act.put, List.setIfInBounds_toArray, List.set_cons_succ, List.set_cons_zero]
  apply pv_step (v := .int .i64 C) (fun _ => rfl)
  · intro σ L w1 hS h1 h2 K hK
    have hl := h2 6 (List.contains_iff_mem.1 (by kernel_rfl))
    clear h2
    obtain ⟨v9, e9, own9⟩ := hS.get (i := 6) rfl hl
    simp only [e9] at hK ⊢
    go_wp2
    exact hS.keep rfl
  simp only [Act.put, List.setIfInBounds_toArray, List.set_cons_succ, List.set_cons_zero]
  apply pv_free (fun _ => rfl)
  · intro σ L w1 hS h1 h2 K hK
    have hl := h2 7 (List.contains_iff_mem.1 (by kernel_rfl))
    clear h2
    go_wp2
    exact hS.put T1c.stab (Below.refl _ _) rfl (hS.get (i := 7) rfl hl)
  simp only [Act.put, List.setIfInBounds_toArray, List.set_cons_succ, List.set_cons_zero]
  apply pv_step (fun _ => rfl)
  · intro σ L w1 hS h1 h2 K hK
    clear h2
    go_wp2
    exact hS.keep rfl
  simp only [Act.put, List.setIfInBounds_toArray, List.set_cons_succ, List.set_cons_zero]
  refine pv_nil fun σ w9 hS => ?_
  have owng := hS.get (i := 9) rfl rfl
  have hbw9 := hS.low
  clear hS
  change w9.ownsRow _ _ _ _ _ _ at owng
  generalize σ 5 = s5
  generalize σ 6 = s6
  generalize σ 7 = s7
  generalize σ 9 = s9 at owng ⊢
  obtain ⟨A11, c11, rfl, -, -, hf11⟩ := own_form owng
  have hbg : w.heap.size ≤ w8.heap.size := hL8.low.size
  have hL9 := hL8.call hbw9
  have hx9 := hx8.below hbw9 hx8.lt
  have ht9 := ht8.below hbw9 ht8.lt
  have ng8 := RowsAt.new ownw8 owng (Nat.le_refl _)
  have ownx9 := own_call ownx8 hbw9
  have ownw9 := own_call ownw8 hbw9
  have ownt9 := ownt8.below hbw9
  clear hL8 hx8 ht8 ownx8 ownw8 ownt8 hbw9 ksp
  go_wp2_with (go_at_call 14; refine (kem _ _ _ _ _ (Reads.of_own owng) (Reads.of_own ownw9) hf11 hf8).mono ?_; rintro e w10 ⟨rfl, hb10⟩)
  have hL10 := hL9.call hb10
  have hx10 := hx9.below hb10 hx9.lt
  have ht10 := ht9.below hb10 ht9.lt
  have ownx10 := own_call ownx9 hb10
  have ownw10 := own_call ownw9 hb10
  have owng10 := own_call owng hb10
  have ownt10 := ownt9.below hb10
  clear hL9 hx9 ht9 ownx9 ownw9 owng ownt9 hb10
  refine wp_region_v 6 5 (SX w10 (TL w10.heap.size lex.length V)) (by kernel_rfl) (by kernel_rfl) ⟨fun _ => undef, SX.start⟩ ?_
  simp only [List.take_succ_cons, List.take_zero, List.drop_succ_cons, List.drop_zero]
  apply pv_step (fun _ => rfl)
  · intro σ L w1 hS h1 h2 K hK
    clear h2
    have f := hx10.below hS.low hx10.lt
    have f0 : w1.cell? ⟨gx, 0, none⟩ = some (.slice Ax lex.length cx) := f.cell 0
    go_wp2
    exact hS.keep rfl
  simp only [Act.put, List.setIfInBounds_toArray, List.set_cons_succ, List.set_cons_zero]
  apply pv_step (fun _ => rfl)
  · intro σ L w1 hS h1 h2 K hK
    clear h2
    have f := hL10.lx.below hS.low hL10.lx.lt
    have f0 : w1.cell? ⟨w.heap.size, 0, none⟩ = some (.slice A lex.length c) := f.cell 0
    go_wp2
    exact hS.keep rfl
  simp only [Act.put, List.setIfInBounds_toArray, List.set_cons_succ, List.set_cons_zero]
  apply pv_free (fun _ => rfl)
  · intro σ L w1 hS h1 h2 K hK
    clear h2
    go_wp2_with (go_at_call 10; refine (ktl _ (hL10.low.trans (hS.low.mono hL10.low.size))).mono ?_; rintro e w5 ⟨v5, rfl, own5, hb5⟩)
    exact hS.put TL.stab hb5 rfl (PLx.mk (own_base own5 hS.low.size))
  simp only [Act.put, List.setIfInBounds_toArray, List.set_cons_succ, List.set_cons_zero]
  apply pv_step (v := .bool true) (fun _ => rfl)
  · intro σ L w1 hS h1 h2 K hK
    have hl := h2 2 (List.contains_iff_mem.1 (by kernel_rfl))
    clear h2
    obtain ⟨vL, eL, ownL⟩ := hS.get (i := 2) rfl hl
    obtain ⟨By, cy, rfl, -, hry, -⟩ := own_form ownL
    simp only [eL] at hK ⊢
    go_wp2_with (go_at_call 15; refine (keqx _ _ _ _ _ (Reads.of_own (own_call ownx10 hS.low)) hry).mono ?_; rintro e w5 ⟨rfl, hb5⟩)
    exact (hS.below TL.stab hb5).keep rfl
  simp only [Act.put, List.setIfInBounds_toArray, List.set_cons_succ, List.set_cons_zero]
  apply pv_step (fun _ => rfl)
  · intro σ L w1 hS h1 h2 K hK
    clear h2
    go_wp2
    exact hS.keep rfl
  simp only [Act.put, List.setIfInBounds_toArray, List.set_cons_succ, List.set_cons_zero]
  refine pv_nil fun σ w11 hS => ?_
  have hbw11 := hS.low
  clear hS
  generalize σ 2 = s2
  have hL11 := hL10.call hbw11
  have hx11 := hx10.below hbw11 hx10.lt
  have ht11 := ht10.below hbw11 ht10.lt
  have ownx11 := own_call ownx10 hbw11
  have ownw11 := own_call ownw10 hbw11
  have owng11 := own_call owng10 hbw11
  have ownt11 := ownt10.below hbw11
  clear hL10 hx10 ht10 ownx10 ownw10 owng10 ownt10 hbw11
  go_wp2_with (fail)
  refine wp_region_v 6 5 (SX w11 (TT w11.heap.size t)) (by kernel_rfl) (by kernel_rfl) ⟨fun _ => undef, SX.start⟩ ?_
  simp only [List.take_succ_cons, List.take_zero, List.drop_succ_cons, List.drop_zero]
  apply pv_step (fun _ => rfl)
  · intro σ L w1 hS h1 h2 K hK
    clear h2
    have f := ht11.below hS.low ht11.lt
    have f0 : w1.cell? ⟨gt, 0, none⟩ = some (sv t.letters) := f.cell 0
    have f1 : w1.cell? ⟨gt, 1, none⟩ = some (.slice D1 t.values.length d1) := f.cell 1
    have f2 : w1.cell? ⟨gt, 2, none⟩ = some (.slice D2 t.counts.length d2) := f.cell 2
    have f3 : w1.cell? ⟨gt, 3, none⟩ = some (.int .i64 t.blanks) := f.cell 3
    go_wp2
    exact hS.keep rfl
  simp only [Act.put, List.setIfInBounds_toArray, List.set_cons_succ, List.set_cons_zero]
  apply pv_step (fun _ => rfl)
  · intro σ L w1 hS h1 h2 K hK
    clear h2
    have f := hL11.ts.below hS.low hL11.ts.lt
    have f0 : w1.cell? ⟨w.heap.size + 1, 0, none⟩ = some (sv t.letters) := f.cell 0
    have f1 : w1.cell? ⟨w.heap.size + 1, 1, none⟩ = some (.slice A1 t.values.length c1) := f.cell 1
    have f2 : w1.cell? ⟨w.heap.size + 1, 2, none⟩ = some (.slice A2 t.counts.length c2) := f.cell 2
    have f3 : w1.cell? ⟨w.heap.size + 1, 3, none⟩ = some (.int .i64 t.blanks) := f.cell 3
    go_wp2
    exact hS.keep rfl
  simp only [Act.put, List.setIfInBounds_toArray, List.set_cons_succ, List.set_cons_zero]
  apply pv_free (fun _ => rfl)
  · intro σ L w1 hS h1 h2 K hK
    clear h2
    go_wp2_with (go_at_call 11; refine (ktt _ (hL11.low.trans (hS.low.mono hL11.low.size))).mono ?_; rintro e w5 ⟨v5, v6, rfl, own5, hb5⟩)
    exact hS.put TT.stab hb5 rfl (PTs.mk (own5.base hS.low.size))
  simp only [Act.put, List.setIfInBounds_toArray, List.set_cons_succ, List.set_cons_zero]
  apply pv_step (v := .bool true) (fun _ => rfl)
  · intro σ L w1 hS h1 h2 K hK
    have hl := h2 2 (List.contains_iff_mem.1 (by kernel_rfl))
    clear h2
    obtain ⟨v1, v2, eT, ownT⟩ := hS.get (i := 2) rfl hl
    obtain ⟨E1, x1, E2, x2, rfl, rfl⟩ := ownT.form
    simp only [eT] at hK ⊢
    go_wp2_with (go_at_call 16; refine (keqt _ _ _ _ _ _ _ _ _ (ownt11.below hS.low).in_ ownT.in_).mono ?_; rintro e w5 ⟨rfl, hb5⟩)
    exact (hS.below TT.stab hb5).keep rfl
  simp only [Act.put, List.setIfInBounds_toArray, List.set_cons_succ, List.set_cons_zero]
  apply pv_step (fun _ => rfl)
  · intro σ L w1 hS h1 h2 K hK
    clear h2
    go_wp2
    exact hS.keep rfl
  simp only [Act.put, List.setIfInBounds_toArray, List.set_cons_succ, List.set_cons_zero]
  refine pv_nil fun σ w12 hS => ?_
  have hbw12 := hS.low
  clear hS
  generalize σ 2 = s2
  have hL12 := hL11.call hbw12
  have hx12 := hx11.below hbw12 hx11.lt
  have ht12 := ht11.below hbw12 ht11.lt
  have ownx12 := own_call ownx11 hbw12
  have ownw12 := own_call ownw11 hbw12
  have owng12 := own_call owng11 hbw12
  have ownt12 := ownt11.below hbw12
  clear hL11 hx11 ht11 ownx11 ownw11 owng11 ownt11 hbw12
  have n8g : Hid (∀ k, (Value.slice A8 Z.length c8).ownBlock = some k → (Value.slice A11 Z.length c11).ownBlock ≠ some k) := Lib.hid (fun k hk e => ng8 k e hk)
  have f1 : w12.cell? ⟨gx, 0, none⟩ = some (.slice Ax lex.length cx) := hx12.cell 0
  clear ng8
  go_wp2_with (first
    | (go_at_call 17; refine (kml _ _ _ ownx12).mono ?_; rintro e w13 ⟨rfl, -, hgx13⟩
       have hL13 := hL12.grow ownx12 hbx (by decide) (by decide) (by decide) hgx13
       have ownw13 := own_grown ownw12 ownx12 (by decide) hgx13
       have owng13 := own_grown owng12 ownx12 (by decide) hgx13
       have ownt13 := ownt12.grown ownx12 (by decide) hgx13
       have ht13 := ht12.grown hgx13 (fun e => own_blk_ne ownx12 ht12 (by decide) e.symm)
       have f2 : w13.cell? ⟨gt, 0, none⟩ = some (sv t.letters) := ht13.cell 0
       have f3 : w13.cell? ⟨gt, 1, none⟩ = some (.slice D1 t.values.length d1) := ht13.cell 1
       have f4 : w13.cell? ⟨gt, 2, none⟩ = some (.slice D2 t.counts.length d2) := ht13.cell 2
       have f5 : w13.cell? ⟨gt, 3, none⟩ = some (.int .i64 t.blanks) := ht13.cell 3)
    | (go_at_call 18; refine (kmt _ _ _ _ ownt13).mono ?_; rintro e w14 ⟨rfl, hg14⟩
       have hL14 := hL13.g2 ownt13 hbt hg14
       have ownw14 := own_g2 ownw13 (own_diff ownw13 ownt13.1 (by decide)) (own_diff ownw13 ownt13.2.1 (by decide)) hg14
       have owng14 := own_g2 owng13 (own_diff owng13 ownt13.1 (by decide)) (own_diff owng13 ownt13.2.1 (by decide)) hg14)
    | (go_at_call 14; refine (kem _ _ _ _ _ (Reads.of_own owng14) (Reads.of_own ownw14) hf11 hf8).mono ?_; rintro e w15 ⟨rfl, hb15⟩
       have hL15 := hL14.call hb15
       have ownw15 := own_call ownw14 hb15
       have owng15 := own_call owng14 hb15)
    | (go_at_call 19; refine (kmm _ _ _ owng15).mono ?_; rintro e w16 ⟨rfl, owng16, hgg16⟩
       have hL16 := hL15.grow owng15 hbg (by decide) (by decide) (by decide) hgg16
       have ownw16 := own_ob ownw15 n8g.out hgg16)
    | (go_at_call 20; refine (khm _ _ _ (Reads.of_own owng16) hf11).mono ?_; rintro e w17 ⟨rfl, hb17⟩
       have hL17 := hL16.call hb17
       have ownw17 := own_call ownw16 hb17
       have owng17 := own_call owng16 hb17))
  clear hL12 hL13 hL14 hL15 hL16 ownw12 ownw13 ownw14 ownw15 ownw16 owng12 owng13 owng14 owng15 owng16 ownx12 hx12 f1 f2 f3 f4 f5 hgx13 hg14 hgg16 hb15 hb17 ht12 ht13 ownt12 ownt13
  refine wp_region_v 14 13 (SX w17 (T3c w17.heap.size lex.length V t 72 5 Z.length C XV)) (by kernel_rfl) (by kernel_rfl) ⟨fun _ => undef, SX.start⟩ ?_
  simp only [List.take_succ_cons, List.take_zero, List.drop_succ_cons, List.drop_zero]
  apply pv_step (fun _ => rfl)
  · intro σ L w1 hS h1 h2 K hK
    clear h2
    have f := hL17.lx.below hS.low hL17.lx.lt
    have f0 : w1.cell? ⟨w.heap.size, 0, none⟩ = some (.slice A lex.length c) := f.cell 0
    go_wp2
    exact hS.keep rfl
  simp only [Act.put, List.setIfInBounds_toArray, List.set_cons_succ, List.set_cons_zero]
  apply pv_free (fun _ => rfl)
  · intro σ L w1 hS h1 h2 K hK
    clear h2
    go_wp2_with (go_at_call 10; refine (ktl _ (hL17.low.trans (hS.low.mono hL17.low.size))).mono ?_; rintro e w5 ⟨v5, rfl, own5, hb5⟩)
    exact hS.put T3c.stab hb5 rfl (PLx.mk (own_base own5 hS.low.size))
  simp only [Act.put, List.setIfInBounds_toArray, List.set_cons_succ, List.set_cons_zero]
  apply pv_step (fun _ => rfl)
  · intro σ L w1 hS h1 h2 K hK
    clear h2
    have f := hL17.ts.below hS.low hL17.ts.lt
    have f0 : w1.cell? ⟨w.heap.size + 1, 0, none⟩ = some (sv t.letters) := f.cell 0
    have f1 : w1.cell? ⟨w.heap.size + 1, 1, none⟩ = some (.slice A1 t.values.length c1) := f.cell 1
    have f2 : w1.cell? ⟨w.heap.size + 1, 2, none⟩ = some (.slice A2 t.counts.length c2) := f.cell 2
    have f3 : w1.cell? ⟨w.heap.size + 1, 3, none⟩ = some (.int .i64 t.blanks) := f.cell 3
    go_wp2
    exact hS.keep rfl
  simp only [Act.put, List.setIfInBounds_toArray, List.set_cons_succ, List.set_cons_zero]
  apply pv_free (fun _ => rfl)
  · intro σ L w1 hS h1 h2 K hK
    clear h2
    go_wp2_with (go_at_call 11; refine (ktt _ (hL17.low.trans (hS.low.mono hL17.low.size))).mono ?_; rintro e w5 ⟨v5, v6, rfl, own5, hb5⟩)
    exact hS.put T3c.stab hb5 rfl (PTs.mk (own5.base hS.low.size))
  simp only [Act.put, List.setIfInBounds_toArray, List.set_cons_succ, List.set_cons_zero]
  apply pv_step (fun _ => rfl)
  · intro σ L w1 hS h1 h2 K hK
    clear h2
    have f := hL17.bd.below hS.low hL17.bd.lt
    have f0 : w1.cell? ⟨w.heap.size + 1 + 1, 0, none⟩ = some (.int .i64 sz) := f.cell 0
    have f1 : w1.cell? ⟨w.heap.size + 1 + 1, 1, none⟩ = some (sv bp) := f.cell 1
    have f2 : w1.cell? ⟨w.heap.size + 1 + 1, 2, none⟩ = some (sv bc) := f.cell 2
    go_wp2
    exact hS.keep rfl
  simp only [Act.put, List.setIfInBounds_toArray, List.set_cons_succ, List.set_cons_zero]
  apply pv_step (v := .agg #[.int .i64 sz, sv bp, sv bc]) (fun _ => rfl)
  · intro σ L w1 hS h1 h2 K hK
    clear h2
    simp only [Act.put, List.setIfInBounds_toArray, List.set_cons_succ, List.set_cons_zero] at hK
    go_wp2_with (go_at_call 12; refine (ktb _).mono ?_; rintro e w5 ⟨rfl, hb5⟩)
    exact (hS.below T3c.stab hb5).keep rfl
  simp only [Act.put, List.setIfInBounds_toArray, List.set_cons_succ, List.set_cons_zero]
  apply pv_step (fun _ => rfl)
  · intro σ L w1 hS h1 h2 K hK
    clear h2
    go_wp2
    exact hS.keep rfl
  simp only [Act.put, List.setIfInBounds_toArray, List.set_cons_succ, List.set_cons_zero]
  apply pv_free (fun _ => rfl)
  · intro σ L w1 hS h1 h2 K hK
    have hl := h2 1 (List.contains_iff_mem.1 (by kernel_rfl))
    have ht := h2 3 (List.contains_iff_mem.1 (by kernel_rfl))
    clear h2
    obtain ⟨vL, eL, ownL⟩ := hS.get (i := 1) rfl hl
    obtain ⟨v1, v2, eT, ownT⟩ := hS.get (i := 3) rfl ht
    obtain ⟨D1, d1, D2, d2, rfl, rfl⟩ := ownT.form
    obtain ⟨Ax, cx, rfl, -, hrx, hfx⟩ := own_form ownL
    simp only [eL, eT] at hK ⊢
    go_wp2_with (go_at_call 13; refine (kim Ax cx D1 D2 d1 d2 _ (hL17.low.trans (hS.low.mono hL17.low.size)) ownT.in_ hrx (fun ad h => by obtain ⟨g, rfl⟩ := hfx ad h; rfl)).mono ?_; rintro e w5 ⟨v5, rfl, own5, hb5⟩)
    exact hS.put T3c.stab hb5 rfl (PRs.mk (own_base own5 hS.low.size))
  simp only [Act.put, List.setIfInBounds_toArray, List.set_cons_succ, List.set_cons_zero]
  apply pv_free (fun _ => rfl)
  · intro σ L w1 hS h1 h2 K hK
    have hl := h2 7 (List.contains_iff_mem.1 (by kernel_rfl))
    clear h2
    go_wp2
    exact hS.put T3c.stab (Below.refl _ _) rfl (hS.get (i := 7) rfl hl)
  simp only [Act.put, List.setIfInBounds_toArray, List.set_cons_succ, List.set_cons_zero]
  apply pv_free (fun _ => rfl)
  · intro σ L w1 hS h1 h2 K hK
    have hl := h2 8 (List.contains_iff_mem.1 (by kernel_rfl))
    clear h2
    obtain ⟨v9, e9, own9⟩ := hS.get (i := 8) rfl hl
    simp only [e9] at hK ⊢
    go_wp2
    exact hS.put T3c.stab (Below.refl _ _) rfl own9
  simp only [Act.put, List.setIfInBounds_toArray, List.set_cons_succ, List.set_cons_zero]
  apply pv_step (v := .int .i64 C) (fun _ => rfl)
  · intro σ L w1 hS h1 h2 K hK
    have hl := h2 8 (List.contains_iff_mem.1 (by kernel_rfl))
    clear h2
    obtain ⟨v9, e9, own9⟩ := hS.get (i := 8) rfl hl
    simp only [e9] at hK ⊢
    go_wp2
    exact hS.keep rfl
  simp only [Act.put, List.setIfInBounds_toArray, List.set_cons_succ, List.set_cons_zero]
  apply pv_free (fun _ => rfl)
  · intro σ L w1 hS h1 h2 K hK
    have hl := h2 9 (List.contains_iff_mem.1 (by kernel_rfl))
    clear h2
    go_wp2
    exact hS.put T3c.stab (Below.refl _ _) rfl (hS.get (i := 9) rfl hl)
  simp only [Act.put, List.setIfInBounds_toArray, List.set_cons_succ, List.set_cons_zero]
  apply pv_step (fun _ => rfl)
  · intro σ L w1 hS h1 h2 K hK
    clear h2
    go_wp2
    exact hS.keep rfl
  simp only [Act.put, List.setIfInBounds_toArray, List.set_cons_succ, List.set_cons_zero]
  refine pv_nil fun σ w18 hS => ?_
  have ownh := hS.get (i := 11) rfl rfl
  have hbw18 := hS.low
  clear hS
  change w18.ownsRow _ _ _ _ _ _ at ownh
  generalize σ 1 = s1
  generalize σ 3 = s3
  generalize σ 7 = s7
  generalize σ 8 = s8
  generalize σ 9 = s9
  generalize σ 11 = s11 at ownh ⊢
  obtain ⟨A16, c16, rfl, -, -, hf16⟩ := own_form ownh
  have ownw18 := own_call ownw17 hbw18
  have owng18 := own_call owng17 hbw18
  have hL18 := hL17.call hbw18
  clear hL17 ownw17 owng17 hbw18
  go_wp2_with (first
    | (go_at_call 14; refine (kem _ _ _ _ _ (Reads.of_own ownh) (Reads.of_own ownw18) hf16 hf8).mono ?_; rintro e w19 ⟨rfl, hb19⟩
       have hL19 := hL18.call hb19
       have owng19 := own_call owng18 hb19)
    | (go_at_call 20; refine (khm _ _ _ (Reads.of_own owng19) hf11).mono ?_; rintro e w20 ⟨rfl, hb20⟩
       have hL20 := hL19.call hb20))
  go_ret
  exact ⟨rfl, hL20.low⟩
end Go.Proofs.YtohopceknpgcnaaGreatDoor
/-
  The walk of the law FnExactTryMoves at every argument (the laws package).
  Conditions: the slices lie in memory; the library's variable MaxLen reads as a number.
-/
namespace Go.Proofs.YtohopceknpgcnaaGreatDoor
open Go.RowKit RegP RegL RegV
set_option maxHeartbeats 2000000
set_option maxRecDepth 100000

theorem law_any (A : Option Addr) (c : Nat) (lex : List Str) (t : TS) (A1 A2 : Option Addr) (c1 c2 : Nat) (b : Bd) (rack : Str) (w : World) (hm : MaxOk w) (hr : Reads w w.heap.size 1 A lex.length (lex.map sv)) (hi : TsIn w t A1 A2) (hln : lex.length ≤ 9223372036854775807) (hls : ∀ x ∈ lex, x.length ≤ 9223372036854775807) (htl : t.letters.length ≤ 9223372036854775807) (htv : t.values.length ≤ 9223372036854775807) (htc : t.counts.length ≤ 9223372036854775807) (hbp : b.prem.length ≤ 9223372036854775807) (hbc : b.cells.length ≤ 9223372036854775807) :
    Calls Tryz.prog 3 #[.agg #[.slice A lex.length c], t.v A1 c1 A2 c2, b.v, sv rack] w fun e w' => e = .returned (.bool true) ∧ Below w.heap.size w w' := by
  obtain ⟨W, hW⟩ : ∃ W, W = ((w.alloc (.cells #[.slice A lex.length c] 24)).alloc (.cells #[sv t.letters, .slice A1 t.values.length c1, .slice A2 t.counts.length c2, .int .i64 t.blanks] 27)).alloc (.cells #[.int .i64 b.size, sv b.prem, sv b.cells] 29) := ⟨_, rfl⟩
  have hL : LA3 w A c lex.length t A1 c1 A2 c2 b.size b.prem b.cells W := by
    rw [hW]
    exact ⟨(((Below.refl _ _).alloc (Nat.le_refl _) _).alloc (by simp) _).alloc (by simp; omega) _, ((Blk.new w _ _).alloc _).alloc _, (Blk.new1 w _ _ _).alloc _, Blk.new2 w _ _ _ _⟩
  by_cases hrk : rack.length ≤ 2 ^ 20
  · have hrk' : ¬ (1048576 : Int) < (rack.length : Int) := by omega
    have hge := szS_ge lex (2 ^ 20)
    have ksl := fun (W : World) (hW : Below w.heap.size w W) => szLexicon_any A c lex (2 ^ 20) W ((hr.below hW).more hW.size) hln hls (by decide) (by decide)
    by_cases h1 : 0 ≤ szS lex (2 ^ 20)
    · obtain ⟨g1, g2, g3⟩ := szS_bd h1
      have kst := fun W => szTileSet_any t A1 A2 c1 c2 (szS lex (2 ^ 20)) W htl htv htc h1 (by omega)
      by_cases h2 : 0 ≤ szT t (szS lex (2 ^ 20))
      · obtain ⟨u1, u2, u3, u4⟩ := szT_bd h2
        have ksb := fun W => szBoard_any b (szT t (szS lex (2 ^ 20))) W h2 (by omega) hbp hbc
        by_cases h3 : 0 ≤ szB b (szT t (szS lex (2 ^ 20)))
        · exact law_main A c lex t A1 A2 c1 c2 b rack w hm hr hi (by omega) (fun x hx => by have := g2 x hx; omega) (by omega) (by omega) (by omega) hrk _ rfl h1 g3 _ rfl h2 (by omega) _ rfl h3
        · obtain ⟨l1, hl1⟩ : ∃ l1, l1 = szS lex (2 ^ 20) := ⟨_, rfl⟩
          rw [← hl1] at ksl kst ksb h1 h2 h3
          obtain ⟨l2, hl2⟩ : ∃ l2, l2 = szT t l1 := ⟨_, rfl⟩
          rw [← hl2] at kst ksb h2 h3
          obtain ⟨l3, hl3⟩ : ∃ l3, l3 = szB b l2 := ⟨_, rfl⟩
          rw [← hl3] at ksb h3
          have h3' : l3 < 0 := by omega
          have h2' : ¬ l2 < 0 := by omega
          have h1' : ¬ l1 < 0 := by omega
          clear hl1 hl2 hl3 hge g1 g2 g3 u1 u2 u3 u4 hr hi hls htl htv htc hbp hbc hm
          obtain ⟨sz, bp, bc⟩ := b
          simp only [Bd.v, TS.v] at *
          go_enter Tryz.func3, Tryz.ntmps3
          go_wp2_with (first
            | (go_at_call 6; rw [← hW]; refine (ksl _ hL.low).mono ?_; rintro e w1 ⟨rfl, hb1⟩; have hL1 := hL.call hb1
               have f1 : w1.cell? ⟨w.heap.size + 1, 0, none⟩ = some (sv t.letters) := hL1.ts.cell 0
               have f2 : w1.cell? ⟨w.heap.size + 1, 1, none⟩ = some (.slice A1 t.values.length c1) := hL1.ts.cell 1
               have f3 : w1.cell? ⟨w.heap.size + 1, 2, none⟩ = some (.slice A2 t.counts.length c2) := hL1.ts.cell 2
               have f4 : w1.cell? ⟨w.heap.size + 1, 3, none⟩ = some (.int .i64 t.blanks) := hL1.ts.cell 3)
            | (go_at_call 7; refine (kst _).mono ?_; rintro e w2 ⟨rfl, hb2⟩; have hL2 := hL1.call hb2
               have g1 : w2.cell? ⟨w.heap.size + 1 + 1, 0, none⟩ = some (.int .i64 sz) := hL2.bd.cell 0
               have g2 : w2.cell? ⟨w.heap.size + 1 + 1, 1, none⟩ = some (sv bp) := hL2.bd.cell 1
               have g3 : w2.cell? ⟨w.heap.size + 1 + 1, 2, none⟩ = some (sv bc) := hL2.bd.cell 2)
            | (go_at_call 8; refine (ksb _).mono ?_; rintro e w3 ⟨rfl, hb3⟩; have hL3 := hL2.call hb3))
          go_ret
          exact ⟨rfl, hL3.low⟩
      · obtain ⟨l1, hl1⟩ : ∃ l1, l1 = szS lex (2 ^ 20) := ⟨_, rfl⟩
        rw [← hl1] at ksl kst h1 h2
        obtain ⟨l2, hl2⟩ : ∃ l2, l2 = szT t l1 := ⟨_, rfl⟩
        rw [← hl2] at kst h2
        have h2' : l2 < 0 := by omega
        have h1' : ¬ l1 < 0 := by omega
        clear hl1 hl2 hge g1 g2 g3 hr hi hls htl htv htc hbp hbc hm
        obtain ⟨sz, bp, bc⟩ := b
        simp only [Bd.v, TS.v] at *
        go_enter Tryz.func3, Tryz.ntmps3
        go_wp2_with (first
          | (go_at_call 6; rw [← hW]; refine (ksl _ hL.low).mono ?_; rintro e w1 ⟨rfl, hb1⟩; have hL1 := hL.call hb1
             have f1 : w1.cell? ⟨w.heap.size + 1, 0, none⟩ = some (sv t.letters) := hL1.ts.cell 0
             have f2 : w1.cell? ⟨w.heap.size + 1, 1, none⟩ = some (.slice A1 t.values.length c1) := hL1.ts.cell 1
             have f3 : w1.cell? ⟨w.heap.size + 1, 2, none⟩ = some (.slice A2 t.counts.length c2) := hL1.ts.cell 2
             have f4 : w1.cell? ⟨w.heap.size + 1, 3, none⟩ = some (.int .i64 t.blanks) := hL1.ts.cell 3)
          | (go_at_call 7; refine (kst _).mono ?_; rintro e w2 ⟨rfl, hb2⟩; have hL2 := hL1.call hb2))
        go_ret
        exact ⟨rfl, hL2.low⟩
    · obtain ⟨l1, hl1⟩ : ∃ l1, l1 = szS lex (2 ^ 20) := ⟨_, rfl⟩
      rw [← hl1] at ksl h1
      have h1' : l1 < 0 := by omega
      clear hl1 hge hr hi hls htl htv htc hbp hbc hm
      obtain ⟨sz, bp, bc⟩ := b
      simp only [Bd.v, TS.v] at *
      go_enter Tryz.func3, Tryz.ntmps3
      go_wp2_with (go_at_call 6; rw [← hW]; refine (ksl _ hL.low).mono ?_; rintro e w1 ⟨rfl, hb1⟩; have hL1 := hL.call hb1)
      go_ret
      exact ⟨rfl, hL1.low⟩
  · have hrk' : (1048576 : Int) < (rack.length : Int) := by omega
    have hlow := hL.low
    obtain ⟨sz, bp, bc⟩ := b
    simp only [Bd.v, TS.v] at *
    go_enter Tryz.func3, Tryz.ntmps3
    go_wp2_with (fail)
    rw [← hW]
    go_ret
    exact ⟨rfl, hlow⟩
end Go.Proofs.YtohopceknpgcnaaGreatDoor
/-
  What comes in: lexicons, boards, tile sets; the row's wrap.
  Conditions: none.
-/
namespace Go.Proofs.YtohopceknpgcnaaGreatDoor
open Go.ChangeShapes Go.WideShapes Go.ChangeAt Go.RowKit Go.Joins
open Go.ChangeMaps (open_string shut_string)
open RegP RegL RegV
set_option maxRecDepth 100000

/-- The row's wrap, the world's shape and the listed variables handed on. -/
theorem change_shaped_and {H : Type} {enc : TypeId × Value → H} {a : Assume} {C : Checked} {os : Os} {f : FuncId} {fn : Func} {s : ChangeSpec} {conds : List PathCond} {apart fresh handsOn again : Bool} {X : World → Array Value → Prop}
    (hX : ∀ (w w' : World) (args : Array Value), w.heap = w'.heap → X w args → X w' args)
    (own : ownKnob C.prog.godebug = none) (started : os.Started) (noInit : C.prog.inits.idxOf? f = none) (hfn : C.prog.funcs[f]? = some fn)
    (witness : ∃ (w : World) (tape : Tape) (i : Input), w.os = os ∧ (w.forCall tape i).Shaped C.prog ∧ i.vars = [] ∧ Input.okWide C.prog (w.forCall tape i) .any w.heap.size f i ∧
      ((s.pre enc C.prog fn conds apart (w.forCall tape i).memory i.args ∧ X (w.forCall tape i).memory i.args) ∧ sizedMet enc C.prog fn (OpenSpec.ofChange s) apart (w.forCall tape i).memory i.args) ∧ a.holds C.prog (lone (Frame.enter C.prog f i.args .normal) [] (w.forCall tape i)))
    (contract : ∀ (W : World) (base : Nat) (args : Array Value) (ds gs : List (DataW H)) (before : List MemPlace),
      (∀ (j : Nat) t v, fn.params[j]? = some t → args[j]? = some v → Value.okWide C.prog W .any base t v) →
      DataW.Whole enc C.prog fn.params.toList s.vars apart W args.toList ds gs before →
      W.ShapedOpen C.prog → X W args →
      Calls C.prog f args W fun e W' => ∃ v, e = .returned v ∧ s.post enc C.prog fn apart fresh handsOn again W args v W') :
    ReturnsInHanded a C os f .any (fun w args => (s.pre enc C.prog fn conds apart w args ∧ X w args) ∧ sizedMet enc C.prog fn (OpenSpec.ofChange s) apart w args) (s.post enc C.prog fn apart fresh handsOn again) := by
  refine returnsInHanded_of_calls own started noInit witness ?_
  intro w tape i _ hsh _ hok hpre _
  obtain ⟨_, _, _, fn', hfn', _, _, _, _, hval⟩ := hok
  have e : fn' = fn := Option.some.inj (hfn'.symm.trans hfn)
  subst e
  obtain ⟨⟨⟨ds, gs, before, hw, _⟩, hx⟩, _⟩ := hpre
  have hw' := DataW.Whole.of_heap (w' := w.forCall tape i) (by rfl) hw
  refine (contract (w.forCall tape i) w.heap.size i.args ds gs before hval hw' hsh (hX _ _ _ (by rfl) hx)).mono fun e W' ⟨v, he, hp⟩ => ?_
  subst he
  exact ChangeSpec.post_blind hp
theorem max_shaped {W : World} (h : W.ShapedOpen Tryz.prog) : MaxOk W :=
  cell_of_shapedOpen_int (g := 0) (t := 3) (zero := #[.int .i64 0]) (k := .i64) h (of_decide_eq_true (by kernel_rfl)) (by kernel_rfl) rfl (by kernel_rfl) (by kernel_rfl) Tryz.underlying3
theorem ownM : ownKnob Tryz.prog.godebug = none := by kernel_rfl
theorem laidOutM : laidOutB Tryz.prog = true := by kernel_rfl
/-- A lexicon that came in reads as a list of strings. -/
theorem open_lex {H : Type} {enc : TypeId × Value → H} {W : World} {base : Nat} {v : Value} {d : DataW H} {p : List MemPlace} (hv : Value.okWide Tryz.prog W .any base 24 v) (h : DataW.Trod enc Tryz.prog W 0 (fun _ => true) true 24 v d p) :
    ∃ (A : Option Addr) (c : Nat) (lex : List Str), v = .agg #[.slice A lex.length c] ∧ Reads W W.heap.size 1 A lex.length (lex.map sv) ∧ lex.length ≤ 9223372036854775807 ∧ ∀ x ∈ lex, x.length ≤ 9223372036854775807 := by
  obtain ⟨cs, rfl, hsz⟩ := okWide_struct Tryz.underlying24 hv
  have hc1 : Tryz.prog.cellsOf 24 = 1 := by kernel_rfl
  have hc22 : Tryz.prog.cellsOf 22 = 1 := by kernel_rfl
  rw [hc1] at hsz
  obtain ⟨l⟩ := cs
  match l, hsz with
  | [c0], _ =>
    obtain ⟨fuel, hf⟩ := h
    obtain ⟨y0, n, _, _, hy⟩ := trod_struct1 Tryz.underlying24 hf
    have hy' : DataW.trod enc Tryz.prog W 0 (fun _ => true) true n 22 [c0] = some y0 := by simpa [Value.cells, hc22] using hy
    rcases Deep.open_strs Tryz.underlying22 Tryz.underlying9 (by kernel_rfl) hy' with ⟨h1, _⟩ | ⟨a, len, cap, m, Sx, h1, _, hlc, hcm, hm, _, hcell⟩
    · obtain rfl : c0 = .slice none 0 0 := by injection h1
      exact ⟨none, 0, [], rfl, ⟨rfl, fun h => absurd h (by simp)⟩, by simp, fun x hx => by cases hx⟩
    · obtain rfl : c0 = .slice (some a) len cap := by injection h1
      have hlm : len ≤ m := by rw [hm]; simp; exact hlc
      refine ⟨some a, cap, (List.range len).map fun i => (Sx i).data.toList, by simp, ⟨by simp, fun h0 => ?_⟩, ?_, fun x hx => ?_⟩
      · have hl0 : 0 < len := by simpa using h0
        have hlt : a.block < W.heap.size := by
          have := World.block_lt_of_cell? W _ (hcell 0 (by omega)).1
          rwa [block_of_add] at this
        refine ⟨a, rfl, hlt, fun j u hu => ?_⟩
        have hj : j < len := by
          have := (List.getElem?_eq_some_iff.1 hu).1
          simpa using this
        rw [List.getElem?_map, List.getElem?_map, List.getElem?_range hj] at hu
        simp only [Option.map_some, Option.some.injEq] at hu
        rw [← hu, (hcell j (by omega)).1]
      · have hcm' : cap ≤ 9223372036854775807 := hcm
        rw [List.length_map, List.length_range]
        exact Nat.le_trans hlc hcm'
      · obtain ⟨i, hi, rfl⟩ := List.mem_map.1 hx
        have h2 : (Sx i).size ≤ 9223372036854775807 := (hcell i (by have := List.mem_range.1 hi; omega)).2
        exact h2
/-- A board that came in. -/
theorem open_bd {H : Type} {enc : TypeId × Value → H} {W : World} {base : Nat} {v : Value} {d : DataW H} {p : List MemPlace} (hv : Value.okWide Tryz.prog W .any base 29 v) (h : DataW.Trod enc Tryz.prog W 0 (fun _ => true) true 29 v d p) :
    ∃ b : Bd, v = b.v ∧ b.prem.length ≤ 9223372036854775807 ∧ b.cells.length ≤ 9223372036854775807 := by
  obtain ⟨c0, c1, c2, y0, y1, y2, m, rfl, _, _, hy0, hy1, hy2⟩ := open_agg3 Tryz.underlying29 (by kernel_rfl) (by kernel_rfl) hv h
  obtain ⟨k, e0, _, _⟩ := DataW.trod_int Tryz.underlying2 hy0
  obtain ⟨s1, e1, _, w1⟩ := DataW.trod_string Tryz.underlying9 hy1
  obtain ⟨s2, e2, _, w2⟩ := DataW.trod_string Tryz.underlying9 hy2
  injection e0 with e0
  injection e1 with e1
  injection e2 with e2
  subst e0 e1 e2
  exact ⟨⟨k, s1.data.toList, s2.data.toList⟩, rfl, w1, w2⟩
/-- Numbers that came in. -/
theorem open_nums {H : Type} {enc : TypeId × Value → H} {W : World} {fuel : Nat} {v : Value} {x : DataW H × List MemPlace} (h : DataW.trod enc Tryz.prog W 0 (fun _ => true) true fuel 25 [v] = some x) :
    ∃ (A : Option Addr) (c : Nat) (xs : List Int), v = .slice A xs.length c ∧ Reads W W.heap.size 1 A xs.length (xs.map xv) ∧ xs.length ≤ 9223372036854775807 := by
  rcases open_ints Tryz.underlying25 Tryz.underlying2 (by kernel_rfl) h with ⟨h1, _⟩ | ⟨a, len, cap, zs, h1, _, hlc, hcm, hz, _, hcell, _⟩
  · obtain rfl : v = .slice none 0 0 := by injection h1
    exact ⟨none, 0, [], rfl, ⟨rfl, fun h => absurd h (by simp)⟩, by simp⟩
  · obtain rfl : v = .slice (some a) len cap := by injection h1
    have hzl : zs.length = cap := by rw [hz]; simp
    have htl : (zs.take len).length = len := by rw [List.length_take]; omega
    refine ⟨some a, cap, zs.take len, by rw [htl], ⟨by simp, fun h0 => ?_⟩, ?_⟩
    · have hl0 : 0 < len := by rw [htl] at h0; exact h0
      have hlt : a.block < W.heap.size := by
        have := World.block_lt_of_cell? W _ (hcell 0 (by omega))
        rwa [block_of_add] at this
      refine ⟨a, rfl, hlt, fun j u hu => ?_⟩
      have hj : j < len := by
        have := (List.getElem?_eq_some_iff.1 hu).1
        rw [List.length_map, htl] at this
        exact this
      rw [List.getElem?_map, List.getElem?_take_of_lt hj, List.getElem?_eq_getElem (by omega)] at hu
      simp only [Option.map_some, Option.some.injEq] at hu
      rw [← hu, hcell j (by omega), List.getD_eq_getElem?_getD, List.getElem?_eq_getElem (by omega)]
      rfl
    · have hcm' : cap ≤ 9223372036854775807 := hcm
      rw [htl]
      omega
/-- A tile set that came in. -/
theorem open_ts {H : Type} {enc : TypeId × Value → H} {W : World} {base : Nat} {v : Value} {d : DataW H} {p : List MemPlace} (hv : Value.okWide Tryz.prog W .any base 27 v) (h : DataW.Trod enc Tryz.prog W 0 (fun _ => true) true 27 v d p) :
    ∃ (t : TS) (A1 A2 : Option Addr) (c1 c2 : Nat), v = t.v A1 c1 A2 c2 ∧ TsIn W t A1 A2 ∧ t.letters.length ≤ 9223372036854775807 ∧ t.values.length ≤ 9223372036854775807 ∧ t.counts.length ≤ 9223372036854775807 := by
  obtain ⟨c0, c1, c2, c3, y0, y1, y2, y3, m, rfl, _, _, hy0, hy1, hy2, hy3⟩ := open_agg4 Tryz.underlying27 (by kernel_rfl) (by kernel_rfl) hv h
  obtain ⟨s1, e1, _, w1⟩ := DataW.trod_string Tryz.underlying9 hy0
  obtain ⟨A1, d1, xs, rfl, r1, n1⟩ := open_nums hy1
  obtain ⟨A2, d2, ys, rfl, r2, n2⟩ := open_nums hy2
  obtain ⟨k, e3, _, _⟩ := DataW.trod_int Tryz.underlying2 hy3
  injection e1 with e1
  injection e3 with e3
  subst e1 e3
  exact ⟨⟨s1.data.toList, xs, ys, k⟩, A1, A2, d1, d2, rfl, ⟨r1, r2⟩, w1, n1, n2⟩
end Go.Proofs.YtohopceknpgcnaaGreatDoor
