/-
  What holds of the values in the regions of the laws on moves; the law's own blocks; the answer of TryMoves as one list; Contract: valid tile sets (layer 2 of the spec package); The state of a region that draws its order, calls functions, lays a literal and appends it to a row of the call's own; Contracts: the scores of the letters of a play on a flat board, the factor of its word (layer 13 of the spec package). PRINTED BY wip/mk90.py (with wip/L90.head); Contract: the factor of a main word (layer 13 of the spec package).
  Conditions: none; a tile set lies in memory; lengths at most 2^40; a valid board and a valid tile set lie in memory; the play's squares are on the board; a valid board lies in memory; the play's squares are on the board.
-/
import Derived.Test.YtohopceknpgcnaaGreatDoorM04
import Derived.Test.YtohopceknpgcnaaGreatDoorM06
import Derived.Test.YtohopceknpgcnaaGreatDoorM07
import Derived.Test.YtohopceknpgcnaaGreatDoorM21
namespace Go.Proofs.YtohopceknpgcnaaGreatDoor
open Go.RowKit RegP RegL RegV
def PLx (B n : Nat) (V : List Value) : Value → World → Prop := fun u x => ∃ v, u = .agg #[v] ∧ x.ownsRow B 9 1 v n V
def PTs (B : Nat) (t : TS) : Value → World → Prop := fun u x => ∃ v1 v2, u = .agg #[sv t.letters, v1, v2, .int .i64 t.blanks] ∧ TsOwn B t v1 v2 x
def PRs (B : Nat) (e : TypeId) (size n : Nat) (C : Int) (xs : List Value) : Value → World → Prop := fun u x => ∃ v, u = .tuple #[v, .int .i64 C] ∧ x.ownsRow B e size v n xs
def PAs (B : Nat) (e : TypeId) (size n : Nat) (xs : List Value) : Value → World → Prop := fun u x => x.ownsRow B e size u n xs
theorem PLx.st {B n : Nat} {V : List Value} {u : Value} {w w' : World} (h : PLx B n V u w) (hb : Below w.heap.size w w') : PLx B n V u w' := by
 obtain ⟨v, h1, h2⟩ := h
 exact ⟨v, h1, own_call h2 hb⟩
theorem PTs.st {B : Nat} {t : TS} {u : Value} {w w' : World} (h : PTs B t u w) (hb : Below w.heap.size w w') : PTs B t u w' := by
 obtain ⟨v1, v2, h1, h2⟩ := h
 exact ⟨v1, v2, h1, h2.below hb⟩
theorem PRs.st {B : Nat} {e : TypeId} {size n : Nat} {C : Int} {xs : List Value} {u : Value} {w w' : World} (h : PRs B e size n C xs u w) (hb : Below w.heap.size w w') : PRs B e size n C xs u w' := by
 obtain ⟨v, h1, h2⟩ := h
 exact ⟨v, h1, own_call h2 hb⟩
theorem PAs.st {B : Nat} {e : TypeId} {size n : Nat} {xs : List Value} {u : Value} {w w' : World} (h : PAs B e size n xs u w) (hb : Below w.heap.size w w') : PAs B e size n xs u w' := own_call h hb
theorem PLx.mk {B n : Nat} {V : List Value} {v : Value} {x : World} (h : x.ownsRow B 9 1 v n V) : PLx B n V (.agg #[v]) x := ⟨v, rfl, h⟩
theorem PTs.mk {B : Nat} {t : TS} {v1 v2 : Value} {x : World} (h : TsOwn B t v1 v2 x) : PTs B t (.agg #[sv t.letters, v1, v2, .int .i64 t.blanks]) x := ⟨v1, v2, rfl, h⟩
theorem PRs.mk {B : Nat} {e : TypeId} {size n : Nat} {C : Int} {xs : List Value} {v : Value} {x : World} (h : x.ownsRow B e size v n xs) : PRs B e size n C xs (.tuple #[v, .int .i64 C]) x := ⟨v, rfl, h⟩
theorem TsOwn.base {B B' : Nat} {t : TS} {v1 v2 : Value} {w : World} (h : TsOwn B t v1 v2 w) (hb : B' ≤ B) : TsOwn B' t v1 v2 w := ⟨own_base h.1 hb, own_base h.2.1 hb, h.2.2⟩
def T3c (B n : Nat) (V : List Value) (t : TS) (e : TypeId) (size m : Nat) (C : Int) (xs : List Value) : Nat → Option (Value → World → Prop) := fun i =>
 match i with
 | 1 => some (PLx B n V)
 | 3 => some (PTs B t)
 | 7 => some (PRs B e size m C xs)
 | 8 => some (PRs B e size m C xs)
 | 9 => some (PAs B e size m xs)
 | 11 => some (PAs B e size m xs)
 | _ => none
def T1c (B : Nat) (e : TypeId) (size m : Nat) (C : Int) (xs : List Value) : Nat → Option (Value → World → Prop) := fun i =>
 match i with
 | 5 => some (PRs B e size m C xs)
 | 6 => some (PRs B e size m C xs)
 | 7 => some (PAs B e size m xs)
 | 9 => some (PAs B e size m xs)
 | _ => none
def TL (B n : Nat) (V : List Value) : Nat → Option (Value → World → Prop) := fun i =>
 match i with
 | 2 => some (PLx B n V)
 | _ => none
def TT (B : Nat) (t : TS) : Nat → Option (Value → World → Prop) := fun i =>
 match i with
 | 2 => some (PTs B t)
 | _ => none
theorem T3c.stab {B n : Nat} {V : List Value} {t : TS} {e : TypeId} {size m : Nat} {C : Int} {xs : List Value} : StabX (T3c B n V t e size m C xs) := by
 intro i P h u w w' hP hb
 unfold T3c at h
 split at h <;> first | (injection h with h; subst h; first | exact PLx.st hP hb | exact PTs.st hP hb | exact PRs.st hP hb | exact PAs.st hP hb) | cases h
theorem T1c.stab {B : Nat} {e : TypeId} {size m : Nat} {C : Int} {xs : List Value} : StabX (T1c B e size m C xs) := by
 intro i P h u w w' hP hb
 unfold T1c at h
 split at h <;> first | (injection h with h; subst h; first | exact PRs.st hP hb | exact PAs.st hP hb) | cases h
theorem TL.stab {B n : Nat} {V : List Value} : StabX (TL B n V) := by
 intro i P h u w w' hP hb
 unfold TL at h
 split at h <;> first | (injection h with h; subst h; exact PLx.st hP hb) | cases h
theorem TT.stab {B : Nat} {t : TS} : StabX (TT B t) := by
 intro i P h u w w' hP hb
 unfold TT at h
 split at h <;> first | (injection h with h; subst h; exact PTs.st hP hb) | cases h
structure LA3 (w : World) (A : Option Addr) (c n : Nat) (t : TS) (A1 : Option Addr) (c1 : Nat) (A2 : Option Addr) (c2 : Nat) (sz : Int) (bp bc : Str) (wr : World) : Prop where
 low : Below w.heap.size w wr
 lx : Blk wr w.heap.size 24 #[.slice A n c]
 ts : Blk wr (w.heap.size + 1) 27 #[sv t.letters, .slice A1 t.values.length c1, .slice A2 t.counts.length c2, .int .i64 t.blanks]
 bd : Blk wr (w.heap.size + 1 + 1) 29 #[.int .i64 sz, sv bp, sv bc]
section
variable {w wr w' : World} {A A1 A2 : Option Addr} {c n c1 c2 : Nat} {t : TS} {sz : Int} {bp bc : Str}
theorem LA3.call (h : LA3 w A c n t A1 c1 A2 c2 sz bp bc wr) (hb : Below wr.heap.size wr w') : LA3 w A c n t A1 c1 A2 c2 sz bp bc w' :=
 ⟨h.low.trans (hb.mono h.low.size), h.lx.below hb h.lx.lt, h.ts.below hb h.ts.lt, h.bd.below hb h.bd.lt⟩
theorem LA3.grow {base size m : Nat} {v : Value} {xs : List Value} {e : TypeId} (h : LA3 w A c n t A1 c1 A2 c2 sz bp bc wr) (ho : wr.ownsRow base e size v m xs) (hB : w.heap.size ≤ base) (h1 : e ≠ 24) (h2 : e ≠ 27) (h3 : e ≠ 29) (hg : wr.grownBy w' v.ownBlock) : LA3 w A c n t A1 c1 A2 c2 sz bp bc w' :=
 ⟨Below.own h.low h.low.size ho hB hg, h.lx.grown hg (fun e => own_blk_ne ho h.lx h1 e.symm), h.ts.grown hg (fun e => own_blk_ne ho h.ts h2 e.symm), h.bd.grown hg (fun e => own_blk_ne ho h.bd h3 e.symm)⟩
theorem LA3.g2 {base : Nat} {v1 v2 : Value} {u : TS} (h : LA3 w A c n t A1 c1 A2 c2 sz bp bc wr) (ho : TsOwn base u v1 v2 wr) (hB : w.heap.size ≤ base) (hg : G2 wr w' v1.ownBlock v2.ownBlock) : LA3 w A c n t A1 c1 A2 c2 sz bp bc w' :=
 ⟨Below.g2 h.low h.low.size (fun k hk => Nat.le_trans hB (ho.1.lt k hk).1) (fun k hk => Nat.le_trans hB (ho.2.1.lt k hk).1) hg, h.lx.g2 hg (own_blk_ne ho.1 h.lx (by decide)) (own_blk_ne ho.2.1 h.lx (by decide)), h.ts.g2 hg (own_blk_ne ho.1 h.ts (by decide)) (own_blk_ne ho.2.1 h.ts (by decide)), h.bd.g2 hg (own_blk_ne ho.1 h.bd (by decide)) (own_blk_ne ho.2.1 h.bd (by decide))⟩
end
theorem own_diff {w : World} {base base2 e e2 size size2 n n2 : Nat} {v v2 : Value} {xs xs2 : List Value} (h : w.ownsRow base e size v n xs) (h2 : w.ownsRow base2 e2 size2 v2 n2 xs2) (hne : e ≠ e2) : ∀ k, v.ownBlock = some k → v2.ownBlock ≠ some k := fun k hk hk2 => by
 rcases h.2 with ⟨rfl, _⟩ | ⟨g, cap, cur, rfl, _, hh, _⟩
 · cases hk
 · have hgk : g = k := by simpa [Value.ownBlock] using hk
   subst hgk
   exact own_blk_ne (t := e) (cs := cur) h2 hh (Ne.symm hne) hk2
theorem TsOwn.grown {base base2 e size n : Nat} {t : TS} {v1 v2 v : Value} {xs : List Value} {w w' : World} (h : TsOwn base t v1 v2 w) (h2 : w.ownsRow base2 e size v n xs) (hne : 2 ≠ e) (hg : w.grownBy w' v.ownBlock) : TsOwn base t v1 v2 w' := ⟨own_grown h.1 h2 hne hg, own_grown h.2.1 h2 hne hg, h.2.2⟩
theorem TsOwn.in_ {base : Nat} {t : TS} {A1 A2 : Option Addr} {c1 c2 : Nat} {w : World} (h : TsOwn base t (.slice A1 t.values.length c1) (.slice A2 t.counts.length c2) w) : TsIn w t A1 A2 := ⟨Reads.of_own h.1, Reads.of_own h.2.1⟩
theorem TsOwn.form {base : Nat} {t : TS} {v1 v2 : Value} {w : World} (h : TsOwn base t v1 v2 w) : ∃ A1 c1 A2 c2, v1 = .slice A1 t.values.length c1 ∧ v2 = .slice A2 t.counts.length c2 := by
 obtain ⟨A1, c1, e1, -, -, -⟩ := own_form h.1
 obtain ⟨A2, c2, e2, -, -, -⟩ := own_form h.2.1
 exact ⟨A1, c1, A2, c2, e1, e2⟩
def ansM (C : Int) (M : List Mv) : List Mv := if C = 0 then M else []
theorem MovesPost.ans {w w' : World} {t : TS} {b : Bd} {ws : List Str} {rack : Str} {e : Ending} (h : MovesPost w t b ws rack e w') :
   ∃ v, e = .returned (.tuple #[v, .int .i64 (movesCode t b ws rack)]) ∧ w'.ownsRow w.heap.size 72 5 v (ansM (movesCode t b ws rack) (movesL t b ws rack)).length (mvsC (ansM (movesCode t b ws rack) (movesL t b ws rack))) ∧ Below w.heap.size w w' := by
 obtain ⟨v, h1, h2, h3, h4⟩ := h
 refine ⟨v, h1, ?_, h4⟩
 unfold ansM
 by_cases hc : movesCode t b ws rack = 0
 · rw [if_pos hc]; exact h2 hc
 · rw [if_neg hc, h3 hc]
   exact ⟨rfl, .inl ⟨rfl, rfl⟩⟩
set_option maxHeartbeats 20000000
set_option maxRecDepth 100000
def prevL (l : Str) (k : Nat) : Option UInt8 := if k = 0 then none else l[k - 1]?
theorem tripB_step (L : Str) (V C : List Int) (k : Nat) (h : k < L.length) (h1 : k < V.length) (h2 : k < C.length) :
   tripB (prevL L k) (L.drop k) (V.drop k) (C.drop k) = (smallB L[k] && (aftB (prevL L k) L[k] && (inR V[k] 0 20 && (inR C[k] 1 20 && tripB (prevL L (k + 1)) (L.drop (k + 1)) (V.drop (k + 1)) (C.drop (k + 1)))))) := by
 have e : prevL L (k + 1) = some L[k] := by unfold prevL; rw [if_neg (by omega)]; simp [List.getElem?_eq_getElem h]
 rw [e, drop_cons L k h, drop_cons V k h1, drop_cons C k h2]
 rfl
theorem tsB_trip (t : TS) : tsB t = (inR t.letters.length 1 26 && (decide (t.values.length = t.letters.length) && (decide (t.counts.length = t.letters.length) && (inR t.blanks 0 4 && (tripB none t.letters t.values t.counts && decide (t.blanks + t.counts.sum ≤ 120)))))) := by
 unfold tsB
 by_cases h1 : t.values.length = t.letters.length
 · by_cases h2 : t.counts.length = t.letters.length
   · rw [tripB_eq _ _ _ _ h1 h2, decide_eq_true h1, decide_eq_true h2]
     cases hs : smFrom none t.letters
     · simp
     · have := smFrom_26 hs
       have e : inR (t.letters.length : Int) 1 26 = decide (1 ≤ t.letters.length) := by
         unfold inR
         rw [Bool.eq_iff_iff]
         simp
         omega
       rw [e]
       simp
   · rw [decide_eq_false h2]
     simp
 · rw [decide_eq_false h1]
   simp
theorem l02Ok_any (p : Addr) (t : TS) (A1 A2 : Option Addr) (c1 c2 : Nat) (w : World) (hp : TsAt w p t A1 c1 A2 c2) (hl : t.letters.length ≤ 2 ^ 40) (hv : t.values.length ≤ 2 ^ 40) (hc : t.counts.length ≤ 2 ^ 40) :
   Calls Tryz.prog 47 #[.pointer (some p)] w fun e w' => e = .returned (.bool (tsB t)) ∧ Below w.heap.size w w' := by
 rw [tsB_trip]
 obtain ⟨L, V, C, B⟩ := t
 simp only at *
 have kn := fun w => l00In_any (L.length : Int) 1 26 w
 have kb := fun w => l00In_any B 0 4 w
 have kw1 := fun x w => l00In_any x 0 20 w
 have kw2 := fun x w => l00In_any x 1 20 w
 have d0 := hp.x0
 have d1 := hp.x1
 have d2 := hp.x2
 have d3 := hp.x3
 simp only at d0 d1 d2 d3
 obtain ⟨b1, h1⟩ : ∃ b, b = inR (L.length : Int) 1 26 := ⟨_, rfl⟩
 obtain ⟨b3, h3⟩ : ∃ b, b = decide (V.length = L.length) := ⟨_, rfl⟩
 obtain ⟨b4, h4⟩ : ∃ b, b = decide (C.length = L.length) := ⟨_, rfl⟩
 obtain ⟨b5, h5⟩ : ∃ b, b = inR B 0 4 := ⟨_, rfl⟩
 have h3' : ((V.length : Int) != (L.length : Int)) = !b3 := by rw [h3, Bool.eq_iff_iff]; simp; omega
 have h4' : ((C.length : Int) != (L.length : Int)) = !b4 := by rw [h4, Bool.eq_iff_iff]; simp; omega
 have hn26 : Hid (b1 = true → L.length ≤ 26) := Lib.hid (fun e => by have := h1.symm.trans e; unfold inR at this; simp at this; omega)
 have hV : Hid (b3 = true → V.length = L.length) := Lib.hid (fun e => of_decide_eq_true (h3.symm.trans e))
 have hC : Hid (b4 = true → C.length = L.length) := Lib.hid (fun e => of_decide_eq_true (h4.symm.trans e))
 have hB : Hid (b5 = true → 0 ≤ B ∧ B ≤ 4) := Lib.hid (fun e => by have := h5.symm.trans e; unfold inR at this; simpa using this)
 rw [← h1, ← h3, ← h4, ← h5]
 rw [← h1] at kn
 rw [← h5] at kb
 obtain ⟨T, hT⟩ : ∃ T, T = (b1 && (b3 && (b4 && (b5 && (tripB none L V C && decide (B + C.sum ≤ 120)))))) := ⟨_, rfl⟩
 rw [← hT]
 have hdef := Lib.hid hT
 clear h1 h3 h4 h5 hT
 by_cases hall : (b1 && (b3 && (b4 && b5))) = true
 · simp only [Bool.and_eq_true] at hall
   obtain ⟨rfl, rfl, rfl, rfl⟩ := hall
   simp only [Bool.true_and] at hdef
   have hVl := Lib.hid (hV.out rfl)
   have hCl := Lib.hid (hC.out rfl)
   have h26 := hn26.out rfl
   obtain ⟨hb0, hb4⟩ := hB.out rfl
   clear hn26 hV hC hB hl hv hc
   go_enter Tryz.func47, Tryz.ntmps47
   go_wp2_with (first
     | (go_at_call 69; (with_reducible refine (kn _).mono ?_); rintro e w3 ⟨rfl, rfl⟩)
     | (go_at_call 69; (with_reducible refine (kb _).mono ?_); rintro e w3 ⟨rfl, rfl⟩))
   go_loopw [4, 5] (fun tot i wr => ∃ k : Nat, k ≤ L.length ∧ i = .int .i64 k ∧ tot = .int .i64 (B + (C.take k).sum) ∧ B + (C.take k).sum ≤ 4 + 20 * k ∧ 0 ≤ B + (C.take k).sum ∧ Hid (tripB none L V C = tripB (prevL L k) (L.drop k) (V.drop k) (C.drop k)) ∧ Dr w wr) (fun _ i _ => L.length - (intOf i).toNat)
   case atStart => exact ⟨0, by omega, rfl, by simp, by simp; omega, by simp; omega, Lib.hid rfl, Dr.refl _⟩
   case round =>
     clear d0 d1 d2 d3
     obtain ⟨k, hk, rfl, rfl, ht1, ht2, he, hd⟩ := hrel
     obtain ⟨d0, d1, d2, d3, r1, r2⟩ := hp.dr hd
     simp only at d0 d1 d2 d3 r1 r2
     obtain ⟨S, hS⟩ : ∃ S, S = B + (C.take k).sum := ⟨_, rfl⟩
     rw [← hS] at ht1 ht2 ⊢
     by_cases hlt : k < L.length
     · have hltV : k < V.length := by have := hVl.out; omega
       have hltC : k < C.length := by have := hCl.out; omega
       have hst := Lib.hid (tripB_step L V C k hlt hltV hltC)
       have hsm := Lib.hid (sum_take hltC)
       obtain ⟨a1, rfl, hab1, hx1⟩ := r1.el hltV
       obtain ⟨a2, rfl, hab2, hx2⟩ := r2.el hltC
       have kx1 := fun w => kw1 V[k] w
       have kx2 := fun w => kw2 C[k] w
       have hy : Hid (inR C[k] 1 20 = true → 1 ≤ C[k] ∧ C[k] ≤ 20) := Lib.hid (fun e => by unfold inR at e; simpa using e)
       have ks := fun w => l01Small_any L[k] w
       have hS' := Lib.hid hS
       have j0 : (k : Int) < (L.length : Int) := by omega
       have j1 : (k : Int) < (V.length : Int) := by omega
       have j2 : (k : Int) < (C.length : Int) := by omega
       have j3 : (0 : Int) ≤ k := by omega
       clear hS kw1 kw2 kn kb
       generalize V[k] = x at *
       generalize C[k] = y at *
       generalize inR x 0 20 = e3 at *
       generalize inR y 1 20 = e4 at *
       simp only [xv] at hx1 hx2
       obtain ⟨e1, he1⟩ : ∃ e, e = smallB L[k] := ⟨_, rfl⟩
       rw [← he1] at hst ks
       clear he1
       obtain ⟨e2, he2⟩ : ∃ e, e = aftB (prevL L k) L[k] := ⟨_, rfl⟩
       rw [← he2] at hst
       by_cases h0 : 0 < k
       · have i1 : (1 : Int) ≤ (k : Int) := by omega
         have i2 : (k : Int) ≤ (L.length : Int) := by omega
         have i4 : (0 : Int) ≤ (k : Int) - 1 := by omega
         have i5 : (k : Int) - 1 < (L.length : Int) := by omega
         have i3 : ((k : Int) - 1).toNat = k - 1 := by omega
         have hle : decide (L[k].toNat ≤ (L[k - 1]'(by omega)).toNat) = !e2 := by
           rw [he2, prevL, if_neg (by omega), List.getElem?_eq_getElem (by omega : k - 1 < L.length)]
           rw [Bool.eq_iff_iff]
           simp [aftB]
         clear he2
         have hor : (e1 = false) ∨ (e1 = true ∧ e2 = false) ∨ (e1 = true ∧ e2 = true ∧ e3 = false) ∨ (e1 = true ∧ e2 = true ∧ e3 = true ∧ e4 = false) ∨ (e1 = true ∧ e2 = true ∧ e3 = true ∧ e4 = true) := by
           cases e1 <;> cases e2 <;> cases e3 <;> cases e4 <;> simp
         rcases hor with rfl | ⟨rfl, rfl⟩ | ⟨rfl, rfl, rfl⟩ | ⟨rfl, rfl, rfl, rfl⟩ | ⟨rfl, rfl, rfl, rfl⟩
         · go_wp2_with (fail)
           go_quiet (first
               | (go_at_call 70; exact quiet_eq (ks _))
               | (go_at_call 69; (with_reducible exact quiet_eq (kx1 _)))
               | (go_at_call 69; (with_reducible exact quiet_eq (kx2 _))))
           go_wp2_with (fail)
           go_ret
           exact ⟨ret_bool (by rw [hdef.out, he.out, hst.out]; rfl), hd.below.trans (Dr.below ⟨_, rfl⟩ |>.mono hd.below.size)⟩
         · go_wp2_with (fail)
           go_quiet (first
               | (go_at_call 70; exact quiet_eq (ks _))
               | (go_at_call 69; (with_reducible exact quiet_eq (kx1 _)))
               | (go_at_call 69; (with_reducible exact quiet_eq (kx2 _))))
           go_wp2_with (fail)
           go_ret
           exact ⟨ret_bool (by rw [hdef.out, he.out, hst.out]; rfl), hd.below.trans (Dr.below ⟨_, rfl⟩ |>.mono hd.below.size)⟩
         · go_wp2_with (fail)
           go_quiet (first
               | (go_at_call 70; exact quiet_eq (ks _))
               | (go_at_call 69; (with_reducible exact quiet_eq (kx1 _)))
               | (go_at_call 69; (with_reducible exact quiet_eq (kx2 _))))
           go_wp2_with (fail)
           go_ret
           exact ⟨ret_bool (by rw [hdef.out, he.out, hst.out]; rfl), hd.below.trans (Dr.below ⟨_, rfl⟩ |>.mono hd.below.size)⟩
         · go_wp2_with (fail)
           go_quiet (first
               | (go_at_call 70; exact quiet_eq (ks _))
               | (go_at_call 69; (with_reducible exact quiet_eq (kx1 _)))
               | (go_at_call 69; (with_reducible exact quiet_eq (kx2 _))))
           go_wp2_with (fail)
           go_ret
           exact ⟨ret_bool (by rw [hdef.out, he.out, hst.out]; rfl), hd.below.trans (Dr.below ⟨_, rfl⟩ |>.mono hd.below.size)⟩
         · obtain ⟨y1, y2⟩ := hy.out (by simp)
           go_wp2_with (fail)
           go_quiet (first
               | (go_at_call 70; exact quiet_eq (ks _))
               | (go_at_call 69; (with_reducible exact quiet_eq (kx1 _)))
               | (go_at_call 69; (with_reducible exact quiet_eq (kx2 _))))
           go_wp2_with (fail)
           go_roundw
           case rel => exact ⟨k + 1, by omega, by go_num, vi_eq (by rw [hsm.out, hS'.out]; omega), by rw [hsm.out]; have := hS'.out; omega, by rw [hsm.out]; have := hS'.out; omega, Lib.hid (by rw [he.out, hst.out]; rfl), hd.trans ⟨_, rfl⟩⟩
           case measure => simp [intOf]; omega
       · have i0 : ¬ (0 : Int) < (k : Int) := by omega
         have i0' : decide ((0 : Int) < (k : Int)) = false := decide_eq_false i0
         have he2' : e2 = true := by rw [he2, prevL, if_pos (by omega)]; rfl
         subst he2'
         clear he2
         have hor : (e1 = false) ∨ (e1 = true ∧ e3 = false) ∨ (e1 = true ∧ e3 = true ∧ e4 = false) ∨ (e1 = true ∧ e3 = true ∧ e4 = true) := by
           cases e1 <;> cases e3 <;> cases e4 <;> simp
         rcases hor with rfl | ⟨rfl, rfl⟩ | ⟨rfl, rfl, rfl⟩ | ⟨rfl, rfl, rfl⟩
         · go_wp2_with (fail)
           go_quiet (first
               | (go_at_call 70; exact quiet_eq (ks _))
               | (go_at_call 69; (with_reducible exact quiet_eq (kx1 _)))
               | (go_at_call 69; (with_reducible exact quiet_eq (kx2 _))))
           go_wp2_with (fail)
           go_ret
           exact ⟨ret_bool (by rw [hdef.out, he.out, hst.out]; rfl), hd.below.trans (Dr.below ⟨_, rfl⟩ |>.mono hd.below.size)⟩
         · go_wp2_with (fail)
           go_quiet (first
               | (go_at_call 70; exact quiet_eq (ks _))
               | (go_at_call 69; (with_reducible exact quiet_eq (kx1 _)))
               | (go_at_call 69; (with_reducible exact quiet_eq (kx2 _))))
           go_wp2_with (fail)
           go_ret
           exact ⟨ret_bool (by rw [hdef.out, he.out, hst.out]; rfl), hd.below.trans (Dr.below ⟨_, rfl⟩ |>.mono hd.below.size)⟩
         · go_wp2_with (fail)
           go_quiet (first
               | (go_at_call 70; exact quiet_eq (ks _))
               | (go_at_call 69; (with_reducible exact quiet_eq (kx1 _)))
               | (go_at_call 69; (with_reducible exact quiet_eq (kx2 _))))
           go_wp2_with (fail)
           go_ret
           exact ⟨ret_bool (by rw [hdef.out, he.out, hst.out]; rfl), hd.below.trans (Dr.below ⟨_, rfl⟩ |>.mono hd.below.size)⟩
         · obtain ⟨y1, y2⟩ := hy.out (by simp)
           go_wp2_with (fail)
           go_quiet (first
               | (go_at_call 70; exact quiet_eq (ks _))
               | (go_at_call 69; (with_reducible exact quiet_eq (kx1 _)))
               | (go_at_call 69; (with_reducible exact quiet_eq (kx2 _))))
           go_wp2_with (fail)
           go_roundw
           case rel => exact ⟨k + 1, by omega, by go_num, vi_eq (by rw [hsm.out, hS'.out]; omega), by rw [hsm.out]; have := hS'.out; omega, by rw [hsm.out]; have := hS'.out; omega, Lib.hid (by rw [he.out, hst.out]; rfl), hd.trans ⟨_, rfl⟩⟩
           case measure => simp [intOf]; omega
     · obtain rfl : k = L.length := by omega
       have hT : Hid (T = decide (S ≤ 120)) := Lib.hid (by
         rw [hdef.out, he.out, drop_all L _ (Nat.le_refl _), hS, List.take_of_length_le (by have := hCl.out; omega)]
         simp [tripB])
       have hlt' : ¬ (L.length : Int) < (L.length : Int) := by omega
       go_wp2_with (fail)
       go_ret
       exact ⟨ret_bool (by rw [hT.out, hS]), hd.below⟩
 · have hres : Hid (T = false) := Lib.hid (by
     rw [hdef.out]
     cases b1 <;> cases b3 <;> cases b4 <;> cases b5 <;> simp_all)
   have hor : b1 = false ∨ (b1 = true ∧ b3 = false) ∨ (b1 = true ∧ b3 = true ∧ b4 = false) ∨ (b1 = true ∧ b3 = true ∧ b4 = true ∧ b5 = false) := by
     revert hall
     cases b1 <;> cases b3 <;> cases b4 <;> cases b5 <;> simp
   clear hdef hall hn26 hV hC hB
   rcases hor with rfl | ⟨rfl, rfl⟩ | ⟨rfl, rfl, rfl⟩ | ⟨rfl, rfl, rfl, rfl⟩
   all_goals
     go_enter Tryz.func47, Tryz.ntmps47
     go_wp2_with (first
       | (go_at_call 69; (with_reducible refine (kn _).mono ?_); rintro e w3 ⟨rfl, rfl⟩)
       | (go_at_call 69; (with_reducible refine (kb _).mono ?_); rintro e w3 ⟨rfl, rfl⟩))
     go_ret
     exact ⟨ret_bool (by rw [hres.out]), Below.refl _ _⟩
end Go.Proofs.YtohopceknpgcnaaGreatDoor
namespace Go.Proofs.YtohopceknpgcnaaGreatDoor
namespace RegV
open Go.RowKit RegP RegL
def SC (b a : Nat) (pre : List Nat) (W : World) (ob : Obj) (R : Value → World → Prop) (σ : Nat → Value) (L : Nat → Bool) (w : World) : Prop :=
 (L a = true ∧ L b = true ∧ (∀ e ∈ pre, L e = true) ∧ R (σ a) w) ∨ (L a = false ∧ L b = true ∧ (∀ e ∈ pre, L e = true) ∧ ∃ w1, Below W.heap.size W w1 ∧ σ b = .slice (some ⟨w1.heap.size, 0, none⟩) 1 1 ∧ w = w1.alloc ob) ∨ (L a = false ∧ L b = false ∧ Below W.heap.size W w)
section
variable {b a i : Nat} {pre : List Nat} {W w w' : World} {ob : Obj} {R : Value → World → Prop} {σ : Nat → Value} {L : Nat → Bool} {u : Value}
theorem SC.start : SC b a pre W ob R σ (fun _ => false) W.drew := .inr (.inr ⟨rfl, rfl, (Below.refl _ _).drew⟩)
theorem SC.keep (h : SC b a pre W ob R σ L w) (ha : i ≠ a) (hb : i ≠ b) : SC b a pre W ob R σ (upd L i) w := by
 have e1 : upd L i a = L a := upd_ne L (Ne.symm ha)
 have e2 : upd L i b = L b := upd_ne L (Ne.symm hb)
 have e3 : (∀ e ∈ pre, L e = true) → ∀ e ∈ pre, upd L i e = true := fun h3 e he => by unfold upd; simp [h3 e he]
 rcases h with ⟨h1, h2, h3, h4⟩ | ⟨h1, h2, h3, h4⟩ | ⟨h1, h2, h3⟩
 · exact .inl ⟨e1.trans h1, e2.trans h2, e3 h3, h4⟩
 · exact .inr (.inl ⟨e1.trans h1, e2.trans h2, e3 h3, h4⟩)
 · exact .inr (.inr ⟨e1.trans h1, e2.trans h2, h3⟩)
theorem SC.low (h : SC b a pre W ob R σ L w) (hi : i ∈ pre) (hL : L i = false) : Below W.heap.size W w := by
 rcases h with ⟨_, _, h3, _⟩ | ⟨_, _, h3, _⟩ | ⟨_, _, h3⟩
 · rw [h3 i hi] at hL; cases hL
 · rw [h3 i hi] at hL; cases hL
 · exact h3
theorem SC.call (h : SC b a pre W ob R σ L w) (hi : i ∈ pre) (hL : L i = false) (ha : i ≠ a) (hb : i ≠ b) (hw : Below w.heap.size w w') : SC b a pre W ob R σ (upd L i) w' := by
 rcases h with ⟨_, _, h3, _⟩ | ⟨_, _, h3, _⟩ | ⟨h1, h2, h3⟩
 · rw [h3 i hi] at hL; cases hL
 · rw [h3 i hi] at hL; cases hL
 · exact .inr (.inr ⟨(upd_ne L (Ne.symm ha)).trans h1, (upd_ne L (Ne.symm hb)).trans h2, h3.trans (hw.mono h3.size)⟩)
theorem SC.atb (h : SC b a pre W ob R σ L w) (hL : L b = false) : Below W.heap.size W w := by
 rcases h with ⟨_, h2, _⟩ | ⟨_, h2, _⟩ | ⟨_, _, h3⟩
 · rw [h2] at hL; cases hL
 · rw [h2] at hL; cases hL
 · exact h3
theorem SC.tob (h : SC b a pre W ob R σ L w) (hL : L b = false) (hab : a ≠ b) (hp : ∀ e ∈ pre, L e = true) : SC b a pre W ob R (sub σ b (.slice (some ⟨w.heap.size, 0, none⟩) 1 1)) (upd L b) (w.alloc ob) := by
 rcases h with ⟨_, h2, _⟩ | ⟨_, h2, _⟩ | ⟨h1, _, h3⟩
 · rw [h2] at hL; cases hL
 · rw [h2] at hL; cases hL
 · refine .inr (.inl ⟨(upd_ne L hab).trans h1, upd_same L b, fun e he => ?_, w, h3, sub_same .., rfl⟩)
   unfold upd; simp [hp e he]
theorem SC.ata (h : SC b a pre W ob R σ L w) (hL : L a = false) (hb : L b = true) : ∃ w1, Below W.heap.size W w1 ∧ σ b = .slice (some ⟨w1.heap.size, 0, none⟩) 1 1 ∧ w = w1.alloc ob := by
 rcases h with ⟨h1, _⟩ | ⟨_, _, _, h3⟩ | ⟨_, h2, _⟩
 · rw [h1] at hL; cases hL
 · exact h3
 · rw [h2] at hb; cases hb
theorem SC.toa (hb : L b = true) (hp : ∀ e ∈ pre, L e = true) (hR : R u w') : SC b a pre W ob R (sub σ a u) (upd L a) w' := by
 refine .inl ⟨upd_same L a, ?_, fun e he => ?_, by rw [sub_same]; exact hR⟩
 · unfold upd; simp [hb]
 · unfold upd; simp [hp e he]
theorem SC.fin (h : SC b a pre W ob R σ L w) (hL : L a = true) : R (σ a) w := by
 rcases h with ⟨_, _, _, h4⟩ | ⟨h1, _⟩ | ⟨h1, _⟩
 · exact h4
 · rw [h1] at hL; cases hL
 · rw [h1] at hL; cases hL
end
end RegV
end Go.Proofs.YtohopceknpgcnaaGreatDoor
namespace Go.Proofs.YtohopceknpgcnaaGreatDoor
open Go.RowKit RegP RegL RegV
set_option maxHeartbeats 4000000
set_option maxRecDepth 100000
def lsE (t : TS) (b : Bd) (q : Pl) (i : Nat) : Int := if b.at_ q.row (q.col + i) == 46 then ltF (b.prm q.row (q.col + i)) * valT t (q.word.getD i 0) else valT t (q.word.getD i 0)
def lsTo (t : TS) (b : Bd) (q : Pl) (m : Nat) : List Int := (List.range m).map (lsE t b q)
theorem lsTo_length (t : TS) (b : Bd) (q : Pl) (m : Nat) : (lsTo t b q m).length = m := by simp [lsTo]
theorem lsTo_step (t : TS) (b : Bd) (q : Pl) (m : Nat) : lsTo t b q (m + 1) = lsTo t b q m ++ [lsE t b q m] := by
 unfold lsTo
 rw [List.range_succ, List.map_append]
 rfl
theorem lsS_to (t : TS) (b : Bd) (q : Pl) : lsS t b q = lsTo t b q q.word.length := rfl
theorem l13Letters_any (pt p : Addr) (t : TS) (A1 A2 : Option Addr) (c1 c2 : Nat) (b : Bd) (q : Pl) (w : World) (ht : TsAt w pt t A1 c1 A2 c2) (hp : BAt w p b) (ho : TsOk t) (hf : b.Fit) (hon : OnB b q) (hl : q.word.length ≤ 2 ^ 38) :
   Calls Tryz.prog 168 #[.pointer (some pt), .pointer (some p), q.v] w fun e w' => ∃ v, e = .returned v ∧ w'.ownsRow w.heap.size 2 1 v (lsS t b q).length ((lsS t b q).map xv) ∧ Below w.heap.size w w' := by
 have kv := fun l w h => l02Value_any pt t A1 A2 c1 c2 l w h (by have := ho.len; omega) ho.vals
 have kl0 := fun r c l (hi : b.inB r c = true) w h1 h2 => l13Letter_any pt p t A1 A2 c1 c2 b r c l w h1 h2 ho hf hi
 have hstep := Lib.hid (lsTo_step t b q)
 have hend := Lib.hid (lsS_to t b q)
 have hz : lsTo t b q 0 = [] := rfl
 have hE : Hid (∀ k (h : k < q.word.length), lsE t b q k = if b.at_ q.row (q.col + k) == 46 then ltF (b.prm q.row (q.col + k)) * valT t q.word[k] else valT t q.word[k]) := Lib.hid (fun k h => by
   unfold lsE
   rw [List.getD_eq_getElem?_getD, List.getElem?_eq_getElem h]
   rfl)
 have hlen := lsTo_length t b q q.word.length
 rw [← lsS_to] at hlen
 rw [hlen]
 obtain ⟨F, hF⟩ : ∃ F, F = lsTo t b q := ⟨_, rfl⟩
 obtain ⟨E, hEe⟩ : ∃ E, E = lsE t b q := ⟨_, rfl⟩
 obtain ⟨G, hG⟩ : ∃ G, G = lsS t b q := ⟨_, rfl⟩
 rw [← hF] at hstep hz hend
 rw [← hEe] at hstep hE
 rw [← hG] at hend ⊢
 clear hF hG hEe hlen
 obtain ⟨r, c, dn, s⟩ := q
 simp only [OnB] at hon
 have hblt := hp.lt
 have h15 := hf.hi
 simp only at hl hend hE
 simp only [Pl.v]
 go_enter Tryz.func168, Tryz.ntmps168
 go_wp2_with (fail)
 go_loopw [7, 8] (fun o i wr => ∃ k : Nat, k ≤ s.length ∧ i = .int .i64 k ∧ wr.ownsRow w.heap.size 2 1 o k ((F k).map xv) ∧ Below w.heap.size w wr ∧ Blk wr w.heap.size 69 #[.int .i64 r, .int .i64 c, .bool dn, sv s]) (fun _ i _ => s.length - (intOf i).toNat)
 case atStart =>
   refine ⟨0, by omega, rfl, ?_, ((Below.refl _ _).alloc (Nat.le_refl _) _).alloc (by simp) _, (Blk.new w _ _).alloc _⟩
   exact own_cast (lit1 w _ #[] 0 (Nat.le_refl _) (by unfold maxLen; omega) rfl) (by rw [hz]; rfl) rfl
 case round =>
   obtain ⟨k, hk, rfl, hown, hw, hbx⟩ := hrel
   have e0 : wr.cell? ⟨w.heap.size, 0, none⟩ = some (.int .i64 r) := hbx.cell 0
   have e1 : wr.cell? ⟨w.heap.size, 1, none⟩ = some (.int .i64 c) := hbx.cell 1
   have e3 : wr.cell? ⟨w.heap.size, 3, none⟩ = some (sv s) := hbx.cell 3
   have hpr := hp.below hw hblt
   have htr := ht.below hw
   by_cases hlt : k < s.length
   · have hk1 : (k : Int) < (s.length : Int) := by omega
     have hk0 : (0 : Int) ≤ (k : Int) := by omega
     have hik : b.inB r (c + (k : Int)) = true := hon k hlt
     obtain ⟨⟨r0, r1⟩, c0, c1⟩ := inB_iff.1 hik
     have hst := Lib.hid (hstep.out k)
     have hEk := Lib.hid (hE.out k hlt)
     have kl := fun (hi : b.inB r (c + (k : Int)) = true) => kl0 r (c + k) s[k] hi
     have kvk := fun w => kv s[k] w
     have hq : (((b.at_ r (c + k)).toNat : Int) == 46) = (b.at_ r (c + k) == 46) := u8_eq _ 46
     obtain ⟨x, hx⟩ : ∃ x, x = b.at_ r (c + k) := ⟨_, rfl⟩
     rw [← hx] at hq hEk
     have hx' := Lib.hid hx
     clear hx
     have hcl : c + (k : Int) ≤ 14 := by omega
     have hc0' : -274877906944 ≤ c := by omega
     obtain ⟨Y, hY⟩ : ∃ Y, Y = valT t s[k] := ⟨_, rfl⟩
     rw [← hY] at hEk
     simp only [← hY] at kl kvk
     obtain ⟨X, hX⟩ : ∃ X, X = ltF (b.prm r (c + k)) * Y := ⟨_, rfl⟩
     rw [← hX] at hEk
     simp only [← hX] at kl
     clear hY hX kl0 kv hE hstep
     cases hx1 : (x == 46)
     all_goals rw [hx1] at hq hEk
     · go_wp2_with (first
         | (go_at_call 167; refine (l11At_any p b r _ _ hpr hf hik).mono ?_; rw [← hx'.out]; rintro e w2 ⟨rfl, hd2⟩; have hw2 := hw.trans (hd2.below.mono hw.size); have hown2 := own_call hown hd2.below; have hbx2 := hbx.below hd2.below hbx.lt
            have g3 : w2.cell? ⟨w.heap.size, 3, none⟩ = some (sv s) := hbx2.cell 3)
         | (go_at_call 172; refine (kvk _ (ht.below hw2)).mono ?_; rintro e w3 ⟨rfl, rfl⟩)
         | (at_builtin; refine wpList_app i64T rfl (.tmp 42) (.tmp 49) rfl _ _ _ rfl w.heap.size hown2 [.int .i64 Y] rfl (by simp [Value.oneCell']) rfl (by omega) (by omega) hw2.size ?_; intro v1 w1 hown1 hg1 _))
       go_roundw
       case rel => exact ⟨k + 1, by omega, by go_num, own_cast hown1 (by rw [hst.out, hEk.out, List.map_append]; rfl) rfl, Below.own hw2 hw2.size hown2 (Nat.le_refl _) hg1, hbx2.grown hg1 (fun h => own_blk_ne hown2 hbx2 (by decide) h.symm)⟩
       case measure => simp [intOf]; omega
     · go_wp2_with (go_at_call 167; refine (l11At_any p b r _ _ hpr hf hik).mono ?_; rw [← hx'.out]; rintro e w2 ⟨rfl, hd2⟩; have hw2 := hw.trans (hd2.below.mono hw.size); have hown2 := own_call hown hd2.below; have hbx2 := hbx.below hd2.below hbx.lt)
       clear hw hown hbx e0 e1 e3 hpr htr hd2
       obtain ⟨hbl, hown, hbx⟩ := And.intro hw2 (And.intro hown2 hbx2)
       clear hw2 hown2 hbx2
       refine wp_region_v 16 16 (SC 14 15 [4, 6, 10, 13] w2 (.cells #[.int .i64 X] 2) (fun u w' => ∃ w1, Below w2.heap.size w2 w1 ∧ w'.ownsRow w.heap.size 2 1 u (k + 1) ((F k).map xv ++ [.int .i64 X]) ∧ w1.grownBy w' (u7).ownBlock)) (by kernel_rfl) (by kernel_rfl) ⟨fun _ => undef, SC.start⟩ ?_
       simp only [qqT, List.take_zero, qqD, List.drop_zero]
       apply pv_step (fun _ => rfl)
       · intro σ L w' hS h1 h2 K hK
         clear h2
         go_wp2
         exact hS.keep (by decide) (by decide)
       simp only [Act.put, qqS, qqC, qqZ]
       apply pv_step (fun _ => rfl)
       · intro σ L w' hS h1 h2 K hK
         clear h2
         go_wp2
         exact hS.keep (by decide) (by decide)
       simp only [Act.put, qqS, qqC, qqZ]
       apply pv_step (fun _ => rfl)
       · intro σ L w' hS h1 h2 K hK
         clear h2
         go_wp2
         exact hS.keep (by decide) (by decide)
       simp only [Act.put, qqS, qqC, qqZ]
       apply pv_step (fun _ => rfl)
       · intro σ L w' hS h1 h2 K hK
         clear h2
         go_wp2
         exact hS.keep (by decide) (by decide)
       simp only [Act.put, qqS, qqC, qqZ]
       apply pv_step (fun _ => rfl)
       · intro σ L w' hS h1 h2 K hK
         clear h2
         have f := hbx.below (hS.low (by decide) h1) hbx.lt
         have f0 : w'.cell? ⟨w.heap.size, 0, none⟩ = some (.int .i64 r) := f.cell 0
         have f1 : w'.cell? ⟨w.heap.size, 1, none⟩ = some (.int .i64 c) := f.cell 1
         have f3 : w'.cell? ⟨w.heap.size, 3, none⟩ = some (sv s) := f.cell 3
         go_wp2
         exact hS.keep (by decide) (by decide)
       simp only [Act.put, qqS, qqC, qqZ]
       apply pv_step (fun _ => rfl)
       · intro σ L w' hS h1 h2 K hK
         clear h2
         go_wp2
         exact hS.keep (by decide) (by decide)
       simp only [Act.put, qqS, qqC, qqZ]
       apply pv_step (fun _ => rfl)
       · intro σ L w' hS h1 h2 K hK
         clear h2
         have f := hbx.below (hS.low (by decide) h1) hbx.lt
         have f0 : w'.cell? ⟨w.heap.size, 0, none⟩ = some (.int .i64 r) := f.cell 0
         have f1 : w'.cell? ⟨w.heap.size, 1, none⟩ = some (.int .i64 c) := f.cell 1
         have f3 : w'.cell? ⟨w.heap.size, 3, none⟩ = some (sv s) := f.cell 3
         go_wp2
         exact hS.keep (by decide) (by decide)
       simp only [Act.put, qqS, qqC, qqZ]
       apply pv_step (fun _ => rfl)
       · intro σ L w' hS h1 h2 K hK
         clear h2
         go_wp2
         exact hS.keep (by decide) (by decide)
       simp only [Act.put, qqS, qqC, qqZ]
       apply pv_step (fun _ => rfl)
       · intro σ L w' hS h1 h2 K hK
         clear h2
         go_wp2
         exact hS.keep (by decide) (by decide)
       simp only [Act.put, qqS, qqC, qqZ]
       apply pv_step (fun _ => rfl)
       · intro σ L w' hS h1 h2 K hK
         clear h2
         go_wp2
         exact hS.keep (by decide) (by decide)
       simp only [Act.put, qqS, qqC, qqZ]
       apply pv_step (fun _ => rfl)
       · intro σ L w' hS h1 h2 K hK
         clear h2
         have f := hbx.below (hS.low (by decide) h1) hbx.lt
         have f0 : w'.cell? ⟨w.heap.size, 0, none⟩ = some (.int .i64 r) := f.cell 0
         have f1 : w'.cell? ⟨w.heap.size, 1, none⟩ = some (.int .i64 c) := f.cell 1
         have f3 : w'.cell? ⟨w.heap.size, 3, none⟩ = some (sv s) := f.cell 3
         go_wp2
         exact hS.keep (by decide) (by decide)
       simp only [Act.put, qqS, qqC, qqZ]
       apply pv_step (fun _ => rfl)
       · intro σ L w' hS h1 h2 K hK
         clear h2
         go_wp2
         exact hS.keep (by decide) (by decide)
       simp only [Act.put, qqS, qqC, qqZ]
       apply pv_step (fun _ => rfl)
       · intro σ L w' hS h1 h2 K hK
         clear h2
         go_wp2
         exact hS.keep (by decide) (by decide)
       simp only [Act.put, qqS, qqC, qqZ]
       apply pv_step (v := .int .i64 X) (fun _ => rfl)
       · intro σ L w' hS h1 h2 K hK
         clear h2
         have hl := hS.low (by decide) h1
         go_wp2_with (go_at_call 171; refine (kl hik _ (ht.below (hbl.trans (hl.mono hbl.size))) (hp.below (hbl.trans (hl.mono hbl.size)) hblt)).mono ?_; rintro e w2 ⟨rfl, hb2⟩)
         exact hS.call (by decide) h1 (by decide) (by decide) hb2
       simp only [Act.put, qqS, qqC, qqZ]
       apply pv_free (fun _ => rfl)
       · intro σ L w' hS h1 h2 K hK
         have hp := h2 13 (List.contains_iff_mem.1 (by kernel_rfl))
         have hp4 := h2 4 (List.contains_iff_mem.1 (by kernel_rfl))
         have hp6 := h2 6 (List.contains_iff_mem.1 (by kernel_rfl))
         have hp10 := h2 10 (List.contains_iff_mem.1 (by kernel_rfl))
         clear h2
         have hS' := hS.tob h1 (by decide) (by simp [hp, hp4, hp6, hp10])
         have hlit := run_lit1 i64T (.int .i64 X) #[.int .i64 X] rfl rfl (by omega)
         go_wp2
         exact hS'
       simp only [Act.put, qqS, qqC, qqZ]
       apply pv_free (fun _ => rfl)
       · intro σ L w' hS h1 h2 K hK
         have g14 := h2 14 (List.contains_iff_mem.1 (by kernel_rfl))
         have g13 := h2 13 (List.contains_iff_mem.1 (by kernel_rfl))
         have g4 := h2 4 (List.contains_iff_mem.1 (by kernel_rfl))
         have g6 := h2 6 (List.contains_iff_mem.1 (by kernel_rfl))
         have g10 := h2 10 (List.contains_iff_mem.1 (by kernel_rfl))
         clear h2
         obtain ⟨w1, hl1, e1, rfl⟩ := hS.ata h1 g14
         refine oper_app i64T (.tmp 26) (.tmp 40) rfl u7 k _ rfl w.heap.size (own_call hown hl1) [.int .i64 X] rfl (by simp [Value.oneCell']) w1.heap.size rfl e1 (by omega) (by omega) (Nat.le_trans hbl.size hl1.size) ?_
         intro v1 w1' h11 h12 h13
         exact hK v1 w1' (SC.toa g14 (by simp [g4, g6, g10, g13]) ⟨w1, hl1, h11, h12⟩)
       simp only [Act.put, qqS, qqC, qqZ]
       refine pv_nil fun σ w8 hS => ?_
       obtain ⟨w1, hl1, own8, hg8⟩ := hS.fin rfl
       obtain ⟨v8, hv8⟩ : ∃ v8, v8 = σ 15 := ⟨_, rfl⟩
       rw [← hv8] at own8
       simp only [← hv8]
       clear hS hv8
       have hown1 := own_call hown hl1
       have hb1 := hbl.trans (hl1.mono hbl.size)
       have hbx1 := hbx.below hl1 hbx.lt
       go_wp2_with (fail)
       go_roundw
       case rel => exact ⟨k + 1, by omega, by go_num, own_cast own8 (by rw [hst.out, hEk.out, List.map_append]; rfl) rfl, Below.own hb1 hb1.size hown1 (Nat.le_refl _) hg8, hbx1.grown hg8 (fun h => own_blk_ne hown1 hbx1 (by decide) h.symm)⟩
       case measure => simp [intOf]; omega
   · obtain rfl : k = s.length := by omega
     go_wp2_with (fail)
     go_ret
     exact ⟨_, rfl, own_cast hown (by rw [hend.out]) rfl, hw⟩
theorem l13Main_any (p : Addr) (b : Bd) (q : Pl) (w : World) (hp : BAt w p b) (hf : b.Fit) (hon : OnB b q) :
   Calls Tryz.prog 169 #[.pointer (some p), q.v] w fun e w' => e = .returned (.int .i64 (mainF b q)) ∧ Below w.heap.size w w' := by
 have hl15 := OnB_len hf hon
 have hfr := fun w hp => l12Fresh_any p b q w hp hf hon (by omega)
 have kf := fun r c (hi : b.inB r c = true) w h => l13Factor_any p b r c w h hf hi
 have hGx := freshTo_lt b q q.word.length
 change ∀ x ∈ freshL b q, _ at hGx
 have hG15 := freshL_15 hf hon
 obtain ⟨P, hP⟩ : ∃ P, P = (freshL b q).map fun i : Nat => b.prm q.row (q.col + i) := ⟨_, rfl⟩
 have hPl : P.length = (freshL b q).length := by rw [hP, List.length_map]
 have hPk : Hid (∀ (k x : Nat) (_ : (freshL b q)[k]? = some x) (h2 : k < P.length), P[k] = b.prm q.row (q.col + x)) := Lib.hid (fun k x h h2 => by
   have e : P[k]? = some (b.prm q.row (q.col + x)) := by rw [hP, List.getElem?_map, h]; rfl
   rw [List.getElem?_eq_getElem h2] at e
   exact Option.some.inj e)
 have hbd := fun k => wfL_bd (l := P) (by omega) k
 have hst := fun k (h : k < P.length) => wfL_step h
 have hend : Hid (mainF b q = wfL (P.take P.length)) := Lib.hid (by rw [mainF_wf, ← hP, List.take_length])
 have hz : wfL (P.take 0) = 1 := rfl
 obtain ⟨M, hM⟩ : ∃ M, M = mainF b q := ⟨_, rfl⟩
 rw [← hM] at hend ⊢
 obtain ⟨G, hG⟩ : ∃ G, G = freshL b q := ⟨_, rfl⟩
 rw [← hG] at hfr hGx hG15 hPl hPk
 obtain ⟨F, hF⟩ : ∃ F : Nat → Int, F = fun k => wfL (P.take k) := ⟨_, rfl⟩
 have hFk : ∀ k, wfL (P.take k) = F k := fun k => by rw [hF]
 simp only [hFk] at hbd hst hend hz
 have hst' := Lib.hid hst
 have hbd' := Lib.hid hbd
 have hPl' := Lib.hid hPl
 clear hP hM hG hF hFk hst hbd hPl
 obtain ⟨r, c, dn, s⟩ := q
 simp only [OnB] at hon
 simp only at hl15 hPk hGx
 simp only [Pl.v] at hfr ⊢
 have hblt := hp.lt
 have h15 := hf.hi
 have hbx := (Blk.new w 69 #[.int .i64 r, .int .i64 c, .bool dn, sv s])
 have hbW := (Below.refl w.heap.size w).alloc (Nat.le_refl _) (.cells #[.int .i64 r, .int .i64 c, .bool dn, sv s] 69)
 go_enter Tryz.func169, Tryz.ntmps169
 go_wp2_with (go_at_call 121; refine (hfr _ (hp.alloc _)).mono ?_; rintro e w1 ⟨v1, rfl, own1, hb1⟩; obtain ⟨A1, c1, rfl, hc1, hr1⟩ := own_sl own1; have hbx1 := hbx.below hb1 hbx.lt; have hw1 := hbW.trans (hb1.mono hbW.size); have hp1 := hp.below hw1 hblt)
 go_loopw [6, 7] (fun o i wr => ∃ k : Nat, k ≤ G.length ∧ i = .int .i64 k ∧ o = .int .i64 (F k) ∧ Below w1.heap.size w1 wr) (fun _ i _ => G.length - (intOf i).toNat)
 case atStart => exact ⟨0, by omega, rfl, by rw [hz], Below.refl _ _⟩
 case round =>
   obtain ⟨k, hk, rfl, rfl, hb⟩ := hrel
   have hr := hr1.below' hb (Nat.le_refl _)
   have hzz := hb.size
   have hbxr := hbx1.below hb hbx1.lt
   have hwr := hw1.trans (hb.mono hw1.size)
   have hpr := hp1.below hb hp1.lt
   clear hbx
   by_cases hkl : k < G.length
   · obtain ⟨ad, rfl, hadb, hc3⟩ := hr.el hkl
     have hx := hGx G[k] (List.getElem_mem _)
     have hkP : k < P.length := by rw [hPl'.out]; exact hkl
     have hstk := Lib.hid (hst'.out k hkP)
     have hPx := Lib.hid (hPk.out k _ (List.getElem?_eq_getElem hkl) hkP)
     obtain ⟨f1, f2⟩ := hbd'.out k
     obtain ⟨g1, g2⟩ := wdF_bd P[k]
     obtain ⟨x, hxx⟩ : ∃ x, x = G[k] := ⟨_, rfl⟩
     rw [← hxx] at hx hc3 hPx
     clear hxx
     have hkk : (k : Int) < (G.length : Int) := by omega
     have hin := hon x hx
     obtain ⟨⟨r0, r1⟩, c0, c1'⟩ := inB_iff.1 hin
     have hcx0 : -274877906944 ≤ c := by omega
     have hcx1 : c ≤ 14 := by omega
     have hc3' : wr.cell? (ad.add k) = some (.int .i64 x) := hc3
     have hadk : (ad.add k).block < wr.heap.size := by rw [block_of_add]; omega
     have kfx := kf r (c + x) hin
     rw [← hPx.out] at kfx
     obtain ⟨D, hD⟩ : ∃ D, D = wdF P[k] := ⟨_, rfl⟩
     rw [← hD] at kfx hstk g1 g2
     obtain ⟨f, hfk⟩ : ∃ f, f = F k := ⟨_, rfl⟩
     rw [← hfk] at hstk f1 f2
     simp only [← hfk]
     clear hD hfk hPx kf
     have m1 : 0 ≤ f * D := Int.mul_nonneg (by omega) (by omega)
     have m2 : f * D ≤ 43046721 := by
       have := Int.mul_le_mul f2 g2 (by omega) (by omega : (0 : Int) ≤ 14348907)
       omega
     have m3 : IntKind.i64.wrap (f * D) = f * D := IntWalk.i64_in _ (by omega)
     have m4 : IntKind.i64.wrap (c + (x : Int)) = c + (x : Int) := IntWalk.i64_in _ (by omega)
     go_wp2_with (fail)
     refine wp_region_b 13 (by kernel_rfl) (by kernel_rfl) ?_
     simp only [qqT, List.take_zero, qqD, List.drop_zero]
     iterate 13
       apply pc_step rfl
       · intro w4 hb4 K hK
         have f0 : w4.cell? (ad.add k) = some (.int .i64 x) := (hb4.cell hadk).trans hc3'
         have hbx4 := hbxr.below hb4 hbxr.lt
         have d0 : w4.cell? ⟨w.heap.size, 0, none⟩ = some (.int .i64 r) := hbx4.cell 0
         have d1 : w4.cell? ⟨w.heap.size, 1, none⟩ = some (.int .i64 c) := hbx4.cell 1
         go_wp2_with (first | (go_at_call 173; refine (kfx _ (hpr.below hb4 hpr.lt)).mono ?_; rintro e w5 ⟨rfl, hb5⟩))
         first | exact hb4 | exact hb4.trans (hb5.mono hb4.size) | exact hb4.trans (hd5.below.mono hb4.size)
       simp only [Act.put, qqS, qqC, qqZ]
     refine pc_nil ?_
     intro w4 hb4
     go_wp2_with (fail)
     go_roundw
     case rel => exact ⟨k + 1, by omega, by go_num, by rw [hstk.out], hb.trans (hb4.mono hb.size)⟩
     case measure => simp [intOf]; omega
   · obtain rfl : k = G.length := by omega
     have hlt' : ¬ (G.length : Int) < (G.length : Int) := by omega
     go_wp2_with (fail)
     go_ret
     exact ⟨ret_int (by rw [hend.out, hPl'.out]), hwr⟩
end Go.Proofs.YtohopceknpgcnaaGreatDoor
