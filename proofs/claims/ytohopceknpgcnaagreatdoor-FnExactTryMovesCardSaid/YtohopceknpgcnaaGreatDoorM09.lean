/-
  Tile sets: values, factors, validity, in plain Lean; A region that draws its order, all of whose operations leave what was: the state that asks no more; Contracts: letters that rise, valid tile sets (layer 2 of the impl package); Contracts: values of letters (layer 2 of the spec package); Contract: valid tile sets (layer 2 of the spec package); Contracts: a strings.Builder that the call has made: a byte written, the string read; Contracts: tiles, piles and racks (layer 3 of the impl package); Contracts: counts of tiles (layer 3 of the impl package).
  Conditions: as each part below says.
-/
import Derived.Test.YtohopceknpgcnaaGreatDoorM04
import Derived.Test.YtohopceknpgcnaaGreatDoorM07
import Derived.Great.BuildSlice
import Derived.Lib.Builder
import Derived.Lib.UnsafeStr
import Derived.Laws.Externs
import Derived.RegionTactic
import Derived.Laws.Rows
import Derived.Laws.Tables
import Derived.Lib.OthersKept
import Derived.Test.YtohopceknpgcnaaGreatDoorM03
import Derived.Test.YtohopceknpgcnaaGreatDoorM05
import Derived.Test.YtohopceknpgcnaaGreatDoorM02
import Derived.Lib.SlicesCompact
import Derived.Deep.DeepCutAuto
/-
  Tile sets: values, factors, validity, in plain Lean.
  Conditions: none.
-/
namespace Go.Proofs.YtohopceknpgcnaaGreatDoor

/-- A tile set. -/
structure TS where
  letters : Str
  values : List Int
  counts : List Int
  blanks : Int
/-- The first place of a letter. -/
def findK : Str → UInt8 → Nat
  | [], _ => 0
  | x :: r, c => if x == c then 0 else findK r c + 1
def valT (t : TS) (c : UInt8) : Int := if findK t.letters c < t.letters.length then t.values.getD (findK t.letters c) 0 else 0
/-- By what a premium multiplies a letter, a word. -/
def ltF (p : UInt8) : Int := if p == 50 then 2 else if p == 51 then 3 else 1
def wdF (p : UInt8) : Int := if p == 100 then 2 else if p == 116 then 3 else 1
def Bd.prm (b : Bd) (r c : Int) : UInt8 := b.prem.getD (r * b.size + c).toNat 0
def wfL (l : Str) : Int := l.foldl (fun a p => a * wdF p) 1
/-- Does a letter follow another one? -/
def aftB : Option UInt8 → UInt8 → Bool
  | none, _ => true
  | some q, a => decide (q.toNat < a.toNat)
/-- Small letters that rise. -/
def smFrom : Option UInt8 → Str → Bool
  | _, [] => true
  | p, a :: r => smallB a && (aftB p a && smFrom (some a) r)
/-- Values and counts in their bounds. -/
def vcB : List Int → List Int → Bool
  | v :: vs, c :: cs => inR v 0 20 && (inR c 1 20 && vcB vs cs)
  | _, _ => true
/-- The same, letter by letter. -/
def tripB : Option UInt8 → Str → List Int → List Int → Bool
  | p, a :: r, v :: vs, c :: cs => smallB a && (aftB p a && (inR v 0 20 && (inR c 1 20 && tripB (some a) r vs cs)))
  | _, _, _, _ => true
/-- Do the letters rise, pair by pair? -/
def pairB : Str → Bool
  | a :: b :: r => decide (a.toNat < b.toNat) && pairB (b :: r)
  | _ => true
theorem tripB_eq : ∀ (l : Str) (p : Option UInt8) (vs cs : List Int), vs.length = l.length → cs.length = l.length → tripB p l vs cs = (smFrom p l && vcB vs cs)
  | [], p, [], [], _, _ => rfl
  | [], _, _ :: _, _, h, _ => by simp at h
  | [], _, [], _ :: _, _, h => by simp at h
  | _ :: _, _, [], _, h, _ => by simp at h
  | _ :: _, _, _ :: _, [], _, h => by simp at h
  | a :: l, p, v :: vs, c :: cs, h1, h2 => by
    rw [tripB, smFrom, vcB, tripB_eq l (some a) vs cs (by simpa using h1) (by simpa using h2)]
    cases smallB a <;> cases aftB p a <;> cases inR v 0 20 <;> cases inR c 1 20 <;> cases smFrom (some a) l <;> simp
theorem smFrom_some : ∀ (l : Str) (q : UInt8), smFrom (some q) l = (pairB (q :: l) && l.all smallB)
  | [], q => by simp [smFrom, pairB]
  | a :: r, q => by
    rw [smFrom, smFrom_some r a, pairB, List.all_cons]
    show (smallB a && (decide (q.toNat < a.toNat) && _)) = _
    cases smallB a <;> cases decide (q.toNat < a.toNat) <;> cases pairB (a :: r) <;> cases List.all r smallB <;> rfl
theorem smFrom_pair : ∀ (l : Str), smFrom none l = (pairB l && l.all smallB)
  | [] => rfl
  | a :: r => by
    rw [smFrom, smFrom_some r a, List.all_cons]
    show (smallB a && (true && _)) = _
    cases smallB a <;> cases pairB (a :: r) <;> cases List.all r smallB <;> rfl
theorem smFrom_len : ∀ (l : Str) (q : UInt8), smFrom (some q) l = true → smallB q = true → l.length + q.toNat ≤ 122
  | [], q, _, hq => by
    unfold smallB at hq
    simp only [Bool.and_eq_true, decide_eq_true_eq] at hq
    simp only [List.length_nil]
    omega
  | a :: r, q, h, _ => by
    rw [smFrom] at h
    simp only [Bool.and_eq_true, aftB, decide_eq_true_eq] at h
    have h2 := smFrom_len r a h.2.2 h.1
    rw [List.length_cons]
    omega
theorem smFrom_26 {l : Str} (h : smFrom none l = true) : l.length ≤ 26 := by
  match l, h with
  | [], _ => exact Nat.zero_le _
  | a :: r, h =>
    rw [smFrom] at h
    simp only [Bool.and_eq_true] at h
    have h2 := smFrom_len r a h.2.2 h.1
    have h3 := h.1
    unfold smallB at h3
    simp only [Bool.and_eq_true, decide_eq_true_eq] at h3
    rw [List.length_cons]
    omega
/-- Is a tile set valid? -/
def tsB (t : TS) : Bool :=
  decide (1 ≤ t.letters.length) && (smFrom none t.letters && (decide (t.values.length = t.letters.length) && (decide (t.counts.length = t.letters.length) && (inR t.blanks 0 4 && (vcB t.values t.counts && decide (t.blanks + t.counts.sum ≤ 120))))))
theorem vcB_sum : ∀ (vs cs : List Int), vs.length = cs.length → vcB vs cs = true → (∀ c ∈ cs, 1 ≤ c ∧ c ≤ 20) ∧ ∀ v ∈ vs, 0 ≤ v ∧ v ≤ 20
  | [], [], _, _ => ⟨fun _ h => (by cases h), fun _ h => (by cases h)⟩
  | [], _ :: _, h, _ => by simp at h
  | _ :: _, [], h, _ => by simp at h
  | v :: vs, c :: cs, h, hb => by
    rw [vcB] at hb
    simp only [Bool.and_eq_true, inR, decide_eq_true_eq] at hb
    obtain ⟨h1, h2⟩ := vcB_sum vs cs (by simpa using h) hb.2.2
    refine ⟨fun x hx => ?_, fun x hx => ?_⟩
    · rcases List.mem_cons.1 hx with e | hx
      · subst e; exact hb.2.1
      · exact h1 x hx
    · rcases List.mem_cons.1 hx with e | hx
      · subst e; exact hb.1
      · exact h2 x hx
end Go.Proofs.YtohopceknpgcnaaGreatDoor
/-
  A region that draws its order, all of whose operations leave what was: the state that asks no more.
  Conditions: none.
-/
namespace Go.Proofs.YtohopceknpgcnaaGreatDoor
namespace RegV
open Go.RowKit RegP RegL
/-- All is as it was below the start. -/
def SBel (W : World) : (Nat → Bool) → World → Prop := fun _ w => Below W.heap.size W w
end RegV
end Go.Proofs.YtohopceknpgcnaaGreatDoor
/-
  Contracts: letters that rise, valid tile sets (layer 2 of the impl package).
  Conditions: strings of common size; the slices read as lists of numbers.
-/
namespace Go.Proofs.YtohopceknpgcnaaGreatDoor
open Go.RowKit RegP RegL RegV
set_option maxHeartbeats 2000000
set_option maxRecDepth 100000

theorem pairB_drop (s : Str) (k : Nat) (h0 : 0 < k) (h : k < s.length) : pairB (s.drop (k - 1)) = (decide ((s[k - 1]'(by omega)).toNat < s[k].toNat) && pairB (s.drop k)) := by
  obtain ⟨j, rfl⟩ : ∃ j, k = j + 1 := ⟨k - 1, by omega⟩
  simp only [Nat.add_sub_cancel]
  rw [drop_cons s j (by omega), drop_cons s (j + 1) h]
  rfl
theorem pairB_end (s : Str) (k : Nat) (h : s.length ≤ k) (h0 : 0 < k) : pairB (s.drop (k - 1)) = true := by
  by_cases hk : k - 1 < s.length
  · rw [drop_cons s (k - 1) hk, drop_all s (k - 1 + 1) (by omega)]
    rfl
  · rw [drop_all s (k - 1) (by omega)]
    rfl
theorem rising_any (s : Str) (w : World) (hs : s.length ≤ 2 ^ 40) :
    Calls Tryz.prog 50 #[sv s] w fun e w' => e = .returned (.bool (pairB s && s.all smallB)) ∧ Below w.heap.size w w' := by
  have ko := fun w => onlySmall_any s w hs
  obtain ⟨SM, hSM⟩ : ∃ SM, SM = s.all smallB := ⟨_, rfl⟩
  rw [← hSM] at ko ⊢
  clear hSM
  go_enter Tryz.func50, Tryz.ntmps50
  go_wp2_with (fail)
  go_loopw [3] (fun i wr => ∃ k : Nat, 0 < k ∧ i = .int .i64 k ∧ (k ≤ s.length ∨ k = 1) ∧ Hid (pairB s = pairB (s.drop (k - 1))) ∧ Below w.heap.size w wr) (fun i _ => s.length - (intOf i).toNat)
  case atStart => exact ⟨1, by omega, rfl, .inr rfl, Lib.hid rfl, Below.refl _ _⟩
  case round =>
    obtain ⟨k, h0, rfl, hk, he, hb⟩ := hrel
    by_cases hlt : k < s.length
    · have hd := Lib.hid (pairB_drop s k h0 hlt)
      have hlt' : (k : Int) < (s.length : Int) := by omega
      have h0' : (0 : Int) ≤ (k : Int) := by omega
      have hi1 : (1 : Int) ≤ (k : Int) := by omega
      have hi2 : (k : Int) ≤ (s.length : Int) := by omega
      have hi4 : (0 : Int) ≤ (k : Int) - 1 := by omega
      have hi5 : (k : Int) - 1 < (s.length : Int) := by omega
      have hi3 : ((k : Int) - 1).toNat = k - 1 := by omega
      have hle : decide (s[k].toNat ≤ (s[k - 1]'(by omega)).toNat) = !decide ((s[k - 1]'(by omega)).toNat < s[k].toNat) := by
        rw [Bool.eq_iff_iff]; simp
      cases hxy : decide ((s[k - 1]'(by omega)).toNat < s[k].toNat)
      all_goals
        rw [hxy] at hle hd
        simp only [Bool.not_true, Bool.not_false] at hle
        go_wp2_with (fail)
        refine wp_region_b 8 (by kernel_rfl) (by kernel_rfl) ?_
        simp only [List.take_succ_cons, List.take_zero, List.drop_succ_cons, List.drop_zero]
        iterate 8
          apply pc_step rfl
          · intro w4 hb4 K hK
            skip
            go_wp2_with (fail)
            first | exact hb4 | exact hb4.trans (hb5.mono hb4.size) | exact hb4.trans (hd5.below.mono hb4.size)
          simp only [Act.put, List.setIfInBounds_toArray, List.set_cons_succ, List.set_cons_zero]
        refine pc_nil ?_
        intro w4 hb4
        go_wp2_with (fail)
      · go_ret
        exact ⟨ret_bool (by rw [he.out, hd.out]; rfl), hb.trans (hb4.mono hb.size)⟩
      · go_roundw
        case rel => exact ⟨k + 1, by omega, by go_num, .inl (by omega), Lib.hid (by rw [he.out, hd.out]; simp), hb.trans (hb4.mono hb.size)⟩
        case measure => simp [intOf]; omega
    · rw [pairB_end s k (by omega) h0] at he
      have hlt' : ¬ (k : Int) < (s.length : Int) := by omega
      go_wp2_with (go_at_call 77; refine (ko _).mono ?_; rintro e w2 ⟨rfl, hb2⟩)
      go_ret
      exact ⟨ret_bool (by rw [he.out]; simp), hb.trans (hb2.mono hb.size)⟩
/-- Numbers as cells; a tile set as a value. -/
def xv (x : Int) : Value := .int .i64 x
def TS.v (t : TS) (A1 : Option Addr) (c1 : Nat) (A2 : Option Addr) (c2 : Nat) : Value := .agg #[sv t.letters, .slice A1 t.values.length c1, .slice A2 t.counts.length c2, .int .i64 t.blanks]
/-- The slices of a tile set lie in memory. -/
structure TsIn (w : World) (t : TS) (A1 A2 : Option Addr) : Prop where
  r1 : Reads w w.heap.size 1 A1 t.values.length (t.values.map xv)
  r2 : Reads w w.heap.size 1 A2 t.counts.length (t.counts.map xv)
theorem TsIn.below {w w' : World} {t : TS} {A1 A2 : Option Addr} (h : TsIn w t A1 A2) (hb : Below w.heap.size w w') : TsIn w' t A1 A2 :=
  ⟨(h.r1.below hb).more hb.size, (h.r2.below hb).more hb.size⟩
theorem vcB_drop (vs cs : List Int) (k : Nat) (h1 : k < vs.length) (h2 : k < cs.length) : vcB (vs.drop k) (cs.drop k) = (inR vs[k] 0 20 && (inR cs[k] 1 20 && vcB (vs.drop (k + 1)) (cs.drop (k + 1)))) := by
  rw [drop_cons vs k h1, drop_cons cs k h2]
  rfl
theorem sum_take {cs : List Int} {k : Nat} (h : k < cs.length) : (cs.take (k + 1)).sum = (cs.take k).sum + cs[k] := by
  rw [List.take_add_one, List.getElem?_eq_getElem h, List.sum_append]
  simp
theorem validTiles_any (t : TS) (A1 A2 : Option Addr) (c1 c2 : Nat) (w : World) (hi : TsIn w t A1 A2) (hl : t.letters.length ≤ 2 ^ 40) (hv : t.values.length ≤ 2 ^ 40) (hc : t.counts.length ≤ 2 ^ 40) :
    Calls Tryz.prog 32 #[t.v A1 c1 A2 c2] w fun e w' => e = .returned (.bool (tsB t)) ∧ Below w.heap.size w w' := by
  have kr := fun w => rising_any t.letters w hl
  rw [← smFrom_pair] at kr
  have kw := fun w => within_any t.blanks 0 4 w
  have kw1 := fun x w => within_any x 0 20 w
  have kw2 := fun x w => within_any x 1 20 w
  obtain ⟨L, V, C, B⟩ := t
  obtain ⟨r1, r2⟩ := hi
  simp only [TS.v] at *
  obtain ⟨b1, h1⟩ : ∃ b, b = decide ((L.length : Int) < 1) := ⟨_, rfl⟩
  have h1s := h1.symm
  have h1' : decide (1 ≤ L.length) = !b1 := by rw [h1, Bool.eq_iff_iff]; simp; omega
  obtain ⟨b2, h2⟩ : ∃ b, b = smFrom none L := ⟨_, rfl⟩
  obtain ⟨b3, h3⟩ : ∃ b, b = decide (V.length = L.length) := ⟨_, rfl⟩
  obtain ⟨b4, h4⟩ : ∃ b, b = decide (C.length = L.length) := ⟨_, rfl⟩
  obtain ⟨b5, h5⟩ : ∃ b, b = inR B 0 4 := ⟨_, rfl⟩
  have h3' : ((V.length : Int) != (L.length : Int)) = !b3 := by rw [h3, Bool.eq_iff_iff]; simp; omega
  have h4' : ((C.length : Int) != (L.length : Int)) = !b4 := by rw [h4, Bool.eq_iff_iff]; simp; omega
  have hdef : Hid (tsB ⟨L, V, C, B⟩ = (!b1 && (b2 && (b3 && (b4 && (b5 && (vcB V C && decide (B + C.sum ≤ 120)))))))) := Lib.hid (by unfold tsB; rw [h1', h2, h3, h4, h5])
  rw [← h2] at kr
  rw [← h5] at kw
  have hn26 : Hid (b2 = true → L.length ≤ 26) := Lib.hid (fun e => smFrom_26 (h2.symm.trans e))
  have hV : Hid (b3 = true → V.length = L.length) := Lib.hid (fun e => of_decide_eq_true (h3.symm.trans e))
  have hC : Hid (b4 = true → C.length = L.length) := Lib.hid (fun e => of_decide_eq_true (h4.symm.trans e))
  have hB : Hid (b5 = true → 0 ≤ B ∧ B ≤ 4) := Lib.hid (fun e => by have := h5.symm.trans e; unfold inR at this; simpa using this)
  obtain ⟨T, hT⟩ : ∃ T, T = tsB ⟨L, V, C, B⟩ := ⟨_, rfl⟩
  rw [← hT] at hdef ⊢
  clear h1' h2 h3 h4 h5 hT
  have hbW := (Below.refl w.heap.size w).alloc (Nat.le_refl _) (.cells #[sv L, .slice A1 V.length c1, .slice A2 C.length c2, .int .i64 B] 38)
  have hB0 := Blk.new w 38 #[sv L, .slice A1 V.length c1, .slice A2 C.length c2, .int .i64 B]
  by_cases hall : (!b1 && (b2 && (b3 && (b4 && b5)))) = true
  · simp only [Bool.and_eq_true, Bool.not_eq_true'] at hall
    obtain ⟨rfl, rfl, rfl, rfl, rfl⟩ := hall
    simp only [Bool.not_false, Bool.true_and] at hdef
    clear h1
    have hVl := Lib.hid (hV.out rfl)
    have hCl := Lib.hid (hC.out rfl)
    have h26 := hn26.out rfl
    obtain ⟨hb0, hb4⟩ := hB.out rfl
    clear hn26 hV hC hB hl hv hc
    go_enter Tryz.func32, Tryz.ntmps32
    go_wp2_with (first
      | (go_at_call 50; refine (kr _).mono ?_; rintro e w2 ⟨rfl, hb2⟩
         have hB2 := hB0.below hb2 hB0.lt
         have hbb := hbW.trans (hb2.mono hbW.size)
         have d0 : w2.cell? ⟨w.heap.size, 0, none⟩ = some (sv L) := hB2.cell 0
         have d1 : w2.cell? ⟨w.heap.size, 1, none⟩ = some (.slice A1 V.length c1) := hB2.cell 1
         have d2 : w2.cell? ⟨w.heap.size, 2, none⟩ = some (.slice A2 C.length c2) := hB2.cell 2
         have d3 : w2.cell? ⟨w.heap.size, 3, none⟩ = some (.int .i64 B) := hB2.cell 3)
      | (go_at_call 51; refine (kw _).mono ?_; rintro e w3 ⟨rfl, rfl⟩))
    go_loopw [4, 43] (fun tot i wr => ∃ k : Nat, k ≤ C.length ∧ i = .int .i64 k ∧ tot = .int .i64 (B + (C.take k).sum) ∧ B + (C.take k).sum ≤ 4 + 20 * k ∧ 0 ≤ B + (C.take k).sum ∧ Hid (vcB V C = vcB (V.drop k) (C.drop k)) ∧ wr = w2) (fun _ i _ => C.length - (intOf i).toNat)
    case atStart => exact ⟨0, by omega, rfl, by simp, by simp; omega, by simp; omega, Lib.hid rfl, rfl⟩
    case round =>
      obtain ⟨k, hk, rfl, rfl, ht1, ht2, he, rfl⟩ := hrel
      have r1 := (r1.below hbb).more hbb.size
      have r2 := (r2.below hbb).more hbb.size
      obtain ⟨S, hS⟩ : ∃ S, S = B + (C.take k).sum := ⟨_, rfl⟩
      rw [← hS] at ht1 ht2 ⊢
      have hC26 : C.length ≤ 26 := by have := hCl.out; omega
      by_cases hlt : k < C.length
      · have hltV : k < V.length := by have := hVl.out; have := hCl.out; omega
        have hst := Lib.hid (vcB_drop V C k hltV hlt)
        have hsm := Lib.hid (sum_take hlt)
        obtain ⟨a1, rfl, hab1, hx1⟩ := r1.el hltV
        obtain ⟨a2, rfl, hab2, hx2⟩ := r2.el hlt
        have kx1 := fun w => kw1 V[k] w
        have kx2 := fun w => kw2 C[k] w
        have hy : Hid (inR C[k] 1 20 = true → 1 ≤ C[k] ∧ C[k] ≤ 20) := Lib.hid (fun e => by unfold inR at e; simpa using e)
        have hS' := Lib.hid hS
        clear hS kw1 kw2
        generalize V[k] = x at *
        generalize C[k] = y at *
        generalize inR x 0 20 = e1 at *
        generalize inR y 1 20 = e2 at *
        simp only [xv] at hx1 hx2
        have hlt' : (k : Int) < (C.length : Int) := by omega
        cases e1
        · go_wp2_with (go_at_call 51; (with_reducible refine (kx1 _).mono ?_); rintro e w3 ⟨rfl, rfl⟩)
          go_ret
          exact ⟨ret_bool (by rw [hdef.out, he.out, hst.out]; rfl), hbb⟩
        · cases e2
          · go_wp2_with (first
              | (go_at_call 51; (with_reducible refine (kx1 _).mono ?_); rintro e w3 ⟨rfl, rfl⟩)
              | (go_at_call 51; (with_reducible refine (kx2 _).mono ?_); rintro e w3 ⟨rfl, rfl⟩))
            go_ret
            exact ⟨ret_bool (by rw [hdef.out, he.out, hst.out]; rfl), hbb⟩
          · obtain ⟨y1, y2⟩ := hy.out rfl
            go_wp2_with (first
              | (go_at_call 51; (with_reducible refine (kx1 _).mono ?_); rintro e w3 ⟨rfl, rfl⟩)
              | (go_at_call 51; (with_reducible refine (kx2 _).mono ?_); rintro e w3 ⟨rfl, rfl⟩))
            go_roundw
            case rel => exact ⟨k + 1, by omega, by go_num, vi_eq (by rw [hsm.out, hS'.out]; omega), by rw [hsm.out]; have := hS'.out; omega, by rw [hsm.out]; have := hS'.out; omega, Lib.hid (by rw [he.out, hst.out]; rfl), trivial⟩
            case measure => simp [intOf]; omega
      · obtain rfl : k = C.length := by omega
        have hT : Hid (T = decide (S ≤ 120)) := Lib.hid (by
          rw [hdef.out, he.out, drop_all V _ (by have := hVl.out; have := hCl.out; omega), hS, List.take_length]
          simp [vcB])
        have hlt' : ¬ (C.length : Int) < (C.length : Int) := by omega
        go_wp2_with (fail)
        go_ret
        exact ⟨ret_bool (by rw [hT.out, hS, List.take_length]), hbb⟩
  · have hres : Hid (T = false) := Lib.hid (by
      rw [hdef.out]
      cases b1 <;> cases b2 <;> cases b3 <;> cases b4 <;> cases b5 <;> simp_all)
    have hor : b1 = true ∨ (b1 = false ∧ b2 = false) ∨ (b1 = false ∧ b2 = true ∧ b3 = false) ∨ (b1 = false ∧ b2 = true ∧ b3 = true ∧ b4 = false) ∨ (b1 = false ∧ b2 = true ∧ b3 = true ∧ b4 = true ∧ b5 = false) := by
      revert hall
      cases b1 <;> cases b2 <;> cases b3 <;> cases b4 <;> cases b5 <;> simp
    clear hdef hall hn26 hV hC hB
    rcases hor with rfl | ⟨rfl, rfl⟩ | ⟨rfl, rfl, rfl⟩ | ⟨rfl, rfl, rfl, rfl⟩ | ⟨rfl, rfl, rfl, rfl, rfl⟩
    all_goals clear h1
    all_goals
      go_enter Tryz.func32, Tryz.ntmps32
      go_wp2_with (first
        | (go_at_call 50; refine (kr _).mono ?_; rintro e w2 ⟨rfl, hb2⟩
           have hB2 := hB0.below hb2 hB0.lt
           have hbb := hbW.trans (hb2.mono hbW.size)
           have d1 : w2.cell? ⟨w.heap.size, 1, none⟩ = some (.slice A1 V.length c1) := hB2.cell 1
           have d2 : w2.cell? ⟨w.heap.size, 2, none⟩ = some (.slice A2 C.length c2) := hB2.cell 2
           have d3 : w2.cell? ⟨w.heap.size, 3, none⟩ = some (.int .i64 B) := hB2.cell 3)
        | (go_at_call 51; refine (kw _).mono ?_; rintro e w3 ⟨rfl, rfl⟩))
      go_ret
      exact ⟨ret_bool (by rw [hres.out]), by first | exact hbb | exact hbW⟩
end Go.Proofs.YtohopceknpgcnaaGreatDoor
/-
  Contracts: values of letters (layer 2 of the spec package).
  Conditions: a tile set lies in memory; lengths at most 2^40.
-/
namespace Go.Proofs.YtohopceknpgcnaaGreatDoor
open Go.RowKit RegP RegL RegV
set_option maxHeartbeats 2000000
set_option maxRecDepth 100000

/-- A tile set lies in a block. -/
structure TsAt (w : World) (p : Addr) (t : TS) (A1 : Option Addr) (c1 : Nat) (A2 : Option Addr) (c2 : Nat) : Prop where
  x0 : w.cell? p = some (sv t.letters)
  x1 : w.cell? { block := p.block, off := p.off + 1 } = some (.slice A1 t.values.length c1)
  x2 : w.cell? { block := p.block, off := p.off + 2 } = some (.slice A2 t.counts.length c2)
  x3 : w.cell? { block := p.block, off := p.off + 3 } = some (.int .i64 t.blanks)
  inn : TsIn w t A1 A2
theorem TsAt.lt {w : World} {p : Addr} {t : TS} {A1 A2 : Option Addr} {c1 c2 : Nat} (h : TsAt w p t A1 c1 A2 c2) : p.block < w.heap.size := World.block_lt_of_cell? w p h.x0
theorem TsAt.below {w w' : World} {p : Addr} {t : TS} {A1 A2 : Option Addr} {c1 c2 : Nat} (h : TsAt w p t A1 c1 A2 c2) (hb : Below w.heap.size w w') : TsAt w' p t A1 c1 A2 c2 :=
  ⟨(hb.cell h.lt).trans h.x0, (hb.cell (show ({ block := p.block, off := p.off + 1 } : Addr).block < _ from h.lt)).trans h.x1, (hb.cell (show ({ block := p.block, off := p.off + 2 } : Addr).block < _ from h.lt)).trans h.x2, (hb.cell (show ({ block := p.block, off := p.off + 3 } : Addr).block < _ from h.lt)).trans h.x3, h.inn.below hb⟩
theorem TsAt.dr {w w' : World} {p : Addr} {t : TS} {A1 A2 : Option Addr} {c1 c2 : Nat} (h : TsAt w p t A1 c1 A2 c2) (hd : Dr w w') : TsAt w' p t A1 c1 A2 c2 := by
  obtain ⟨n, rfl⟩ := hd
  exact ⟨h.x0, h.x1, h.x2, h.x3, ⟨h.inn.r1, h.inn.r2⟩⟩
theorem findK_drop (s : Str) (c : UInt8) (k : Nat) (h : k < s.length) : findK (s.drop k) c = if s[k] == c then 0 else findK (s.drop (k + 1)) c + 1 := by
  rw [drop_cons s k h]
  rfl
theorem l02Find_any (p : Addr) (t : TS) (A1 A2 : Option Addr) (c1 c2 : Nat) (c : UInt8) (w : World) (hp : TsAt w p t A1 c1 A2 c2) (hl : t.letters.length ≤ 2 ^ 40) :
    Calls Tryz.prog 205 #[.pointer (some p), bv c] w fun e w' => e = .returned (.int .i64 (if findK t.letters c < t.letters.length then (findK t.letters c : Int) else -1)) ∧ w = w' := by
  have d0 := hp.x0
  obtain ⟨L, V, C, B⟩ := t
  simp only at *
  obtain ⟨F, hF⟩ : ∃ F, F = findK L c := ⟨_, rfl⟩
  rw [← hF]
  have hFh := Lib.hid hF
  obtain ⟨R, hR⟩ : ∃ R : Int, R = if F < L.length then (F : Int) else -1 := ⟨_, rfl⟩
  rw [← hR]
  have hRh := Lib.hid hR
  clear hF hp hR
  go_enter Tryz.func205, Tryz.ntmps205
  go_wp2_with (fail)
  go_loop [5] (fun i => ∃ k : Nat, k ≤ L.length ∧ i = .int .i64 k ∧ Hid (F = k + findK (L.drop k) c)) (fun i => L.length - (intOf i).toNat)
  case atStart => exact ⟨0, by omega, rfl, Lib.hid (by rw [hFh.out]; simp)⟩
  case round =>
    obtain ⟨k, hk, rfl, he⟩ := hrel
    by_cases hlt : k < L.length
    · have hd := Lib.hid (findK_drop L c k hlt)
      have hq : (((L[k]).toNat : Int) == (c.toNat : Int)) = (L[k] == c) := u8_eq L[k] c
      cases hc : (L[k] == c)
      all_goals
        rw [hc] at hq hd
        go_wp2_with (fail)
      · go_round
        case rel => exact ⟨k + 1, by omega, by go_num, Lib.hid (by rw [he.out, hd.out]; simp; omega)⟩
        case measure => simp [intOf]; omega
      · go_ret
        exact ⟨ret_int (by rw [hRh.out, he.out, hd.out]; simp [hlt]), rfl⟩
    · obtain rfl : k = L.length := by omega
      rw [drop_all L _ (Nat.le_refl _)] at he
      have hlt' : ¬ (L.length : Int) < (L.length : Int) := by omega
      go_wp2_with (fail)
      go_ret
      exact ⟨ret_int (by rw [hRh.out, he.out]; simp [findK]), rfl⟩
theorem l02Value_any (p : Addr) (t : TS) (A1 A2 : Option Addr) (c1 c2 : Nat) (c : UInt8) (w : World) (hp : TsAt w p t A1 c1 A2 c2) (hl : t.letters.length ≤ 2 ^ 40) (hv : t.values.length = t.letters.length) :
    Calls Tryz.prog 172 #[.pointer (some p), bv c] w fun e w' => e = .returned (.int .i64 (valT t c)) ∧ w = w' := by
  have kf := fun w h => l02Find_any p t A1 A2 c1 c2 c w h hl
  have d0 := hp.x1
  have r1 := hp.inn.r1
  unfold valT
  by_cases hlt : findK t.letters c < t.letters.length
  · rw [if_pos hlt]
    simp only [if_pos hlt] at kf
    obtain ⟨F, hF⟩ : ∃ F, F = findK t.letters c := ⟨_, rfl⟩
    rw [← hF] at kf hlt ⊢
    have hltV : F < t.values.length := by omega
    obtain ⟨a1, rfl, hab1, hx1⟩ := r1.el hltV
    have hv' : Hid (t.values.getD F 0 = t.values[F]) := Lib.hid (by rw [List.getD_eq_getElem?_getD, List.getElem?_eq_getElem hltV]; rfl)
    have j1 : (F : Int) < (t.values.length : Int) := by omega
    have j2 : (0 : Int) ≤ (F : Int) := by omega
    have hv40 : t.values.length ≤ 2 ^ 40 := by omega
    clear hF hv
    simp only [xv] at hx1
    have kf := kf w hp
    go_enter Tryz.func172, Tryz.ntmps172
    go_wp2_with (go_at_call 205; refine kf.mono ?_; rintro e w3 ⟨rfl, rfl⟩)
    go_ret
    exact ⟨ret_int hv'.out.symm, rfl⟩
  · rw [if_neg hlt]
    simp only [if_neg hlt] at kf
    have kf := kf w hp
    go_enter Tryz.func172, Tryz.ntmps172
    go_wp2_with (go_at_call 205; refine kf.mono ?_; rintro e w3 ⟨rfl, rfl⟩)
    go_ret
    exact ⟨rfl, rfl⟩
end Go.Proofs.YtohopceknpgcnaaGreatDoor
/-
  Contract: valid tile sets (layer 2 of the spec package).
  Conditions: a tile set lies in memory; lengths at most 2^40.
-/
namespace Go.Proofs.YtohopceknpgcnaaGreatDoor
open Go.RowKit RegP RegL RegV
set_option maxHeartbeats 20000000
set_option maxRecDepth 100000

def prevL (l : Str) (k : Nat) : Option UInt8 := if k = 0 then none else l[k - 1]?
theorem tripB_step (L : Str) (V C : List Int) (k : Nat) (h : k < L.length) (h1 : k < V.length) (h2 : k < C.length) :
    tripB (prevL L k) (L.drop k) (V.drop k) (C.drop k) = (smallB L[k] && (aftB (prevL L k) L[k] && (inR V[k] 0 20 && (inR C[k] 1 20 && tripB (prevL L (k + 1)) (L.drop (k + 1)) (V.drop (k + 1)) (C.drop (k + 1)))))) := by
  have e : prevL L (k + 1) = some L[k] := by unfold prevL; rw [if_neg (by omega)]; simp [List.getElem?_eq_getElem h]
  rw [e, drop_cons L k h, drop_cons V k h1, drop_cons C k h2]
  rfl
theorem tsB_trip (t : TS) : tsB t = (inR t.letters.length 1 26 && (decide (t.values.length = t.letters.length) && (decide (t.counts.length = t.letters.length) && (inR t.blanks 0 4 && (tripB none t.letters t.values t.counts && decide (t.blanks + t.counts.sum ≤ 120)))))) := by
  unfold tsB
  by_cases h1 : t.values.length = t.letters.length
  · by_cases h2 : t.counts.length = t.letters.length
    · rw [tripB_eq _ _ _ _ h1 h2, decide_eq_true h1, decide_eq_true h2]
      cases hs : smFrom none t.letters
      · simp
      · have := smFrom_26 hs
        have e : inR (t.letters.length : Int) 1 26 = decide (1 ≤ t.letters.length) := by
          unfold inR
          rw [Bool.eq_iff_iff]
          simp
          omega
        rw [e]
        simp
    · rw [decide_eq_false h2]
      simp
  · rw [decide_eq_false h1]
    simp
theorem l02Ok_any (p : Addr) (t : TS) (A1 A2 : Option Addr) (c1 c2 : Nat) (w : World) (hp : TsAt w p t A1 c1 A2 c2) (hl : t.letters.length ≤ 2 ^ 40) (hv : t.values.length ≤ 2 ^ 40) (hc : t.counts.length ≤ 2 ^ 40) :
    Calls Tryz.prog 47 #[.pointer (some p)] w fun e w' => e = .returned (.bool (tsB t)) ∧ Below w.heap.size w w' := by
  rw [tsB_trip]
  obtain ⟨L, V, C, B⟩ := t
  simp only at *
  have kn := fun w => l00In_any (L.length : Int) 1 26 w
  have kb := fun w => l00In_any B 0 4 w
  have kw1 := fun x w => l00In_any x 0 20 w
  have kw2 := fun x w => l00In_any x 1 20 w
  have d0 := hp.x0
  have d1 := hp.x1
  have d2 := hp.x2
  have d3 := hp.x3
  simp only at d0 d1 d2 d3
  obtain ⟨b1, h1⟩ : ∃ b, b = inR (L.length : Int) 1 26 := ⟨_, rfl⟩
  obtain ⟨b3, h3⟩ : ∃ b, b = decide (V.length = L.length) := ⟨_, rfl⟩
  obtain ⟨b4, h4⟩ : ∃ b, b = decide (C.length = L.length) := ⟨_, rfl⟩
  obtain ⟨b5, h5⟩ : ∃ b, b = inR B 0 4 := ⟨_, rfl⟩
  have h3' : ((V.length : Int) != (L.length : Int)) = !b3 := by rw [h3, Bool.eq_iff_iff]; simp; omega
  have h4' : ((C.length : Int) != (L.length : Int)) = !b4 := by rw [h4, Bool.eq_iff_iff]; simp; omega
  have hn26 : Hid (b1 = true → L.length ≤ 26) := Lib.hid (fun e => by have := h1.symm.trans e; unfold inR at this; simp at this; omega)
  have hV : Hid (b3 = true → V.length = L.length) := Lib.hid (fun e => of_decide_eq_true (h3.symm.trans e))
  have hC : Hid (b4 = true → C.length = L.length) := Lib.hid (fun e => of_decide_eq_true (h4.symm.trans e))
  have hB : Hid (b5 = true → 0 ≤ B ∧ B ≤ 4) := Lib.hid (fun e => by have := h5.symm.trans e; unfold inR at this; simpa using this)
  rw [← h1, ← h3, ← h4, ← h5]
  rw [← h1] at kn
  rw [← h5] at kb
  obtain ⟨T, hT⟩ : ∃ T, T = (b1 && (b3 && (b4 && (b5 && (tripB none L V C && decide (B + C.sum ≤ 120)))))) := ⟨_, rfl⟩
  rw [← hT]
  have hdef := Lib.hid hT
  clear h1 h3 h4 h5 hT
  by_cases hall : (b1 && (b3 && (b4 && b5))) = true
  · simp only [Bool.and_eq_true] at hall
    obtain ⟨rfl, rfl, rfl, rfl⟩ := hall
    simp only [Bool.true_and] at hdef
    have hVl := Lib.hid (hV.out rfl)
    have hCl := Lib.hid (hC.out rfl)
    have h26 := hn26.out rfl
    obtain ⟨hb0, hb4⟩ := hB.out rfl
    clear hn26 hV hC hB hl hv hc
    go_enter Tryz.func47, Tryz.ntmps47
    go_wp2_with (first
      | (go_at_call 69; (with_reducible refine (kn _).mono ?_); rintro e w3 ⟨rfl, rfl⟩)
      | (go_at_call 69; (with_reducible refine (kb _).mono ?_); rintro e w3 ⟨rfl, rfl⟩))
    go_loopw [4, 5] (fun tot i wr => ∃ k : Nat, k ≤ L.length ∧ i = .int .i64 k ∧ tot = .int .i64 (B + (C.take k).sum) ∧ B + (C.take k).sum ≤ 4 + 20 * k ∧ 0 ≤ B + (C.take k).sum ∧ Hid (tripB none L V C = tripB (prevL L k) (L.drop k) (V.drop k) (C.drop k)) ∧ Dr w wr) (fun _ i _ => L.length - (intOf i).toNat)
    case atStart => exact ⟨0, by omega, rfl, by simp, by simp; omega, by simp; omega, Lib.hid rfl, Dr.refl _⟩
    case round =>
      clear d0 d1 d2 d3
      obtain ⟨k, hk, rfl, rfl, ht1, ht2, he, hd⟩ := hrel
      obtain ⟨d0, d1, d2, d3, r1, r2⟩ := hp.dr hd
      simp only at d0 d1 d2 d3 r1 r2
      obtain ⟨S, hS⟩ : ∃ S, S = B + (C.take k).sum := ⟨_, rfl⟩
      rw [← hS] at ht1 ht2 ⊢
      by_cases hlt : k < L.length
      · have hltV : k < V.length := by have := hVl.out; omega
        have hltC : k < C.length := by have := hCl.out; omega
        have hst := Lib.hid (tripB_step L V C k hlt hltV hltC)
        have hsm := Lib.hid (sum_take hltC)
        obtain ⟨a1, rfl, hab1, hx1⟩ := r1.el hltV
        obtain ⟨a2, rfl, hab2, hx2⟩ := r2.el hltC
        have kx1 := fun w => kw1 V[k] w
        have kx2 := fun w => kw2 C[k] w
        have hy : Hid (inR C[k] 1 20 = true → 1 ≤ C[k] ∧ C[k] ≤ 20) := Lib.hid (fun e => by unfold inR at e; simpa using e)
        have ks := fun w => l01Small_any L[k] w
        have hS' := Lib.hid hS
        have j0 : (k : Int) < (L.length : Int) := by omega
        have j1 : (k : Int) < (V.length : Int) := by omega
        have j2 : (k : Int) < (C.length : Int) := by omega
        have j3 : (0 : Int) ≤ k := by omega
        clear hS kw1 kw2 kn kb
        generalize V[k] = x at *
        generalize C[k] = y at *
        generalize inR x 0 20 = e3 at *
        generalize inR y 1 20 = e4 at *
        simp only [xv] at hx1 hx2
        obtain ⟨e1, he1⟩ : ∃ e, e = smallB L[k] := ⟨_, rfl⟩
        rw [← he1] at hst ks
        clear he1
        obtain ⟨e2, he2⟩ : ∃ e, e = aftB (prevL L k) L[k] := ⟨_, rfl⟩
        rw [← he2] at hst
        by_cases h0 : 0 < k
        · have i1 : (1 : Int) ≤ (k : Int) := by omega
          have i2 : (k : Int) ≤ (L.length : Int) := by omega
          have i4 : (0 : Int) ≤ (k : Int) - 1 := by omega
          have i5 : (k : Int) - 1 < (L.length : Int) := by omega
          have i3 : ((k : Int) - 1).toNat = k - 1 := by omega
          have hle : decide (L[k].toNat ≤ (L[k - 1]'(by omega)).toNat) = !e2 := by
            rw [he2, prevL, if_neg (by omega), List.getElem?_eq_getElem (by omega : k - 1 < L.length)]
            rw [Bool.eq_iff_iff]
            simp [aftB]
          clear he2
          have hor : (e1 = false) ∨ (e1 = true ∧ e2 = false) ∨ (e1 = true ∧ e2 = true ∧ e3 = false) ∨ (e1 = true ∧ e2 = true ∧ e3 = true ∧ e4 = false) ∨ (e1 = true ∧ e2 = true ∧ e3 = true ∧ e4 = true) := by
            cases e1 <;> cases e2 <;> cases e3 <;> cases e4 <;> simp
          rcases hor with rfl | ⟨rfl, rfl⟩ | ⟨rfl, rfl, rfl⟩ | ⟨rfl, rfl, rfl, rfl⟩ | ⟨rfl, rfl, rfl, rfl⟩
          · go_wp2_with (fail)
            go_quiet (first
                | (go_at_call 70; exact quiet_eq (ks _))
                | (go_at_call 69; (with_reducible exact quiet_eq (kx1 _)))
                | (go_at_call 69; (with_reducible exact quiet_eq (kx2 _))))
            go_wp2_with (fail)
            go_ret
            exact ⟨ret_bool (by rw [hdef.out, he.out, hst.out]; rfl), hd.below.trans (Dr.below ⟨_, rfl⟩ |>.mono hd.below.size)⟩
          · go_wp2_with (fail)
            go_quiet (first
                | (go_at_call 70; exact quiet_eq (ks _))
                | (go_at_call 69; (with_reducible exact quiet_eq (kx1 _)))
                | (go_at_call 69; (with_reducible exact quiet_eq (kx2 _))))
            go_wp2_with (fail)
            go_ret
            exact ⟨ret_bool (by rw [hdef.out, he.out, hst.out]; rfl), hd.below.trans (Dr.below ⟨_, rfl⟩ |>.mono hd.below.size)⟩
          · go_wp2_with (fail)
            go_quiet (first
                | (go_at_call 70; exact quiet_eq (ks _))
                | (go_at_call 69; (with_reducible exact quiet_eq (kx1 _)))
                | (go_at_call 69; (with_reducible exact quiet_eq (kx2 _))))
            go_wp2_with (fail)
            go_ret
            exact ⟨ret_bool (by rw [hdef.out, he.out, hst.out]; rfl), hd.below.trans (Dr.below ⟨_, rfl⟩ |>.mono hd.below.size)⟩
          · go_wp2_with (fail)
            go_quiet (first
                | (go_at_call 70; exact quiet_eq (ks _))
                | (go_at_call 69; (with_reducible exact quiet_eq (kx1 _)))
                | (go_at_call 69; (with_reducible exact quiet_eq (kx2 _))))
            go_wp2_with (fail)
            go_ret
            exact ⟨ret_bool (by rw [hdef.out, he.out, hst.out]; rfl), hd.below.trans (Dr.below ⟨_, rfl⟩ |>.mono hd.below.size)⟩
          · obtain ⟨y1, y2⟩ := hy.out (by simp)
            go_wp2_with (fail)
            go_quiet (first
                | (go_at_call 70; exact quiet_eq (ks _))
                | (go_at_call 69; (with_reducible exact quiet_eq (kx1 _)))
                | (go_at_call 69; (with_reducible exact quiet_eq (kx2 _))))
            go_wp2_with (fail)
            go_roundw
            case rel => exact ⟨k + 1, by omega, by go_num, vi_eq (by rw [hsm.out, hS'.out]; omega), by rw [hsm.out]; have := hS'.out; omega, by rw [hsm.out]; have := hS'.out; omega, Lib.hid (by rw [he.out, hst.out]; rfl), hd.trans ⟨_, rfl⟩⟩
            case measure => simp [intOf]; omega
        · have i0 : ¬ (0 : Int) < (k : Int) := by omega
          have i0' : decide ((0 : Int) < (k : Int)) = false := decide_eq_false i0
          have he2' : e2 = true := by rw [he2, prevL, if_pos (by omega)]; rfl
          subst he2'
          clear he2
          have hor : (e1 = false) ∨ (e1 = true ∧ e3 = false) ∨ (e1 = true ∧ e3 = true ∧ e4 = false) ∨ (e1 = true ∧ e3 = true ∧ e4 = true) := by
            cases e1 <;> cases e3 <;> cases e4 <;> simp
          rcases hor with rfl | ⟨rfl, rfl⟩ | ⟨rfl, rfl, rfl⟩ | ⟨rfl, rfl, rfl⟩
          · go_wp2_with (fail)
            go_quiet (first
                | (go_at_call 70; exact quiet_eq (ks _))
                | (go_at_call 69; (with_reducible exact quiet_eq (kx1 _)))
                | (go_at_call 69; (with_reducible exact quiet_eq (kx2 _))))
            go_wp2_with (fail)
            go_ret
            exact ⟨ret_bool (by rw [hdef.out, he.out, hst.out]; rfl), hd.below.trans (Dr.below ⟨_, rfl⟩ |>.mono hd.below.size)⟩
          · go_wp2_with (fail)
            go_quiet (first
                | (go_at_call 70; exact quiet_eq (ks _))
                | (go_at_call 69; (with_reducible exact quiet_eq (kx1 _)))
                | (go_at_call 69; (with_reducible exact quiet_eq (kx2 _))))
            go_wp2_with (fail)
            go_ret
            exact ⟨ret_bool (by rw [hdef.out, he.out, hst.out]; rfl), hd.below.trans (Dr.below ⟨_, rfl⟩ |>.mono hd.below.size)⟩
          · go_wp2_with (fail)
            go_quiet (first
                | (go_at_call 70; exact quiet_eq (ks _))
                | (go_at_call 69; (with_reducible exact quiet_eq (kx1 _)))
                | (go_at_call 69; (with_reducible exact quiet_eq (kx2 _))))
            go_wp2_with (fail)
            go_ret
            exact ⟨ret_bool (by rw [hdef.out, he.out, hst.out]; rfl), hd.below.trans (Dr.below ⟨_, rfl⟩ |>.mono hd.below.size)⟩
          · obtain ⟨y1, y2⟩ := hy.out (by simp)
            go_wp2_with (fail)
            go_quiet (first
                | (go_at_call 70; exact quiet_eq (ks _))
                | (go_at_call 69; (with_reducible exact quiet_eq (kx1 _)))
                | (go_at_call 69; (with_reducible exact quiet_eq (kx2 _))))
            go_wp2_with (fail)
            go_roundw
            case rel => exact ⟨k + 1, by omega, by go_num, vi_eq (by rw [hsm.out, hS'.out]; omega), by rw [hsm.out]; have := hS'.out; omega, by rw [hsm.out]; have := hS'.out; omega, Lib.hid (by rw [he.out, hst.out]; rfl), hd.trans ⟨_, rfl⟩⟩
            case measure => simp [intOf]; omega
      · obtain rfl : k = L.length := by omega
        have hT : Hid (T = decide (S ≤ 120)) := Lib.hid (by
          rw [hdef.out, he.out, drop_all L _ (Nat.le_refl _), hS, List.take_of_length_le (by have := hCl.out; omega)]
          simp [tripB])
        have hlt' : ¬ (L.length : Int) < (L.length : Int) := by omega
        go_wp2_with (fail)
        go_ret
        exact ⟨ret_bool (by rw [hT.out, hS]), hd.below⟩
  · have hres : Hid (T = false) := Lib.hid (by
      rw [hdef.out]
      cases b1 <;> cases b3 <;> cases b4 <;> cases b5 <;> simp_all)
    have hor : b1 = false ∨ (b1 = true ∧ b3 = false) ∨ (b1 = true ∧ b3 = true ∧ b4 = false) ∨ (b1 = true ∧ b3 = true ∧ b4 = true ∧ b5 = false) := by
      revert hall
      cases b1 <;> cases b3 <;> cases b4 <;> cases b5 <;> simp
    clear hdef hall hn26 hV hC hB
    rcases hor with rfl | ⟨rfl, rfl⟩ | ⟨rfl, rfl, rfl⟩ | ⟨rfl, rfl, rfl, rfl⟩
    all_goals
      go_enter Tryz.func47, Tryz.ntmps47
      go_wp2_with (first
        | (go_at_call 69; (with_reducible refine (kn _).mono ?_); rintro e w3 ⟨rfl, rfl⟩)
        | (go_at_call 69; (with_reducible refine (kb _).mono ?_); rintro e w3 ⟨rfl, rfl⟩))
      go_ret
      exact ⟨ret_bool (by rw [hres.out]), Below.refl _ _⟩
end Go.Proofs.YtohopceknpgcnaaGreatDoor
/-
  Contracts: a strings.Builder that the call has made: a byte written, the string read.
  Conditions: at most 2^37 bytes.
-/
namespace Go.Proofs.YtohopceknpgcnaaGreatDoor
open Go.RowKit RegP RegL RegV
set_option maxHeartbeats 1000000
set_option maxRecDepth 100000

/-- A builder in block g with the bytes l; its buffer lies from block base on. -/
def BldAt (w : World) (g base : Nat) (p : Value) (l : Str) : Prop := base ≤ g ∧ ∃ v, Blk w g 214 #[p, v] ∧ w.ownsRow base 5 1 v l.length (l.map bv) ∧ (l = [] → v = .slice none 0 0)
def selfP (g : Nat) : Value := .pointer (some ⟨g, 0, none⟩)
theorem Blk.shape {w : World} {g : Nat} {t : TypeId} {cs : Array Value} (h : Blk w g t cs) : w.shape? g = some (t, cs.size) := by
  unfold Blk at h
  simp [World.shape?, h]
theorem copy_used (g : Nat) (w : World) (h0 : w.cell? ⟨g, 0, none⟩ = some (.pointer (some ⟨g, 0, none⟩))) :
    Calls Tryz.prog 207 #[.pointer (some ⟨g, 0, none⟩)] w fun e w' => e = .returned (.tuple #[]) ∧ w = w' := by
  obtain ⟨j, hj, _⟩ := Option.map_eq_some_iff.1 (show (Tryz.prog.info? 214).map (·.size) = some 2 by kernel_rfl)
  have hq := fun w => Lib.run_neq_ptr_same (P := Tryz.prog) w ⟨g, 0, none⟩ Tryz.underlying212 hj
  go_enter Tryz.func207, Tryz.ntmps207
  go_wp2_with (fail)
  go_end0
  exact ⟨rfl, rfl⟩
theorem copy_fresh (g : Nat) (w : World) (v : Value) (hb : Blk w g 214 #[.pointer none, v]) :
    Calls Tryz.prog 207 #[.pointer (some ⟨g, 0, none⟩)] w fun e w' => e = .returned (.tuple #[]) ∧ w' = w.setCell ⟨g, 0, none⟩ (.pointer (some ⟨g, 0, none⟩)) := by
  obtain ⟨j, hj, hjs⟩ := Option.map_eq_some_iff.1 (show (Tryz.prog.info? 214).map (·.size) = some 2 by kernel_rfl)
  have h0 : w.cell? ⟨g, 0, none⟩ = some (.pointer none) := hb.cell 0
  have hz : w.frozen? ⟨g, 0, none⟩ = false := hb.frozen 0
  have hs : w.shape? g = some (214, 2) := hb.shape
  have k1 := Lib.run_to_unsafe (P := Tryz.prog) (dst := 250) w ⟨g, 0, none⟩ Tryz.underlying212 Tryz.underlying250 hj (by rw [hjs]; decide) hs (Nat.zero_lt_succ 1)
  have k2 := Lib.run_from_unsafe (P := Tryz.prog) w ⟨g, 0, none⟩ Tryz.underlying250 Tryz.underlying212 hj hs (by kernel_rfl)
  have k3 : ∀ x : Value, (callFunc 223 #[x]).run Tryz.prog w = .ok (.value x) w := fun x => by
    rw [run_callFunc_extern Tryz.func223 (by kernel_rfl) (by kernel_rfl) (by kernel_rfl) (e := Extern.AbiNoEscape.same) (by kernel_rfl)]
    rfl
  go_enter Tryz.func207, Tryz.ntmps207
  go_wp2_with (fail)
  go_end0
  exact ⟨rfl, rfl⟩
theorem copyCheck_any (g base : Nat) (p : Value) (l : Str) (w : World) (hp : p = .pointer none ∨ p = selfP g) (h : BldAt w g base p l) :
    Calls Tryz.prog 207 #[.pointer (some ⟨g, 0, none⟩)] w fun e w' => e = .returned (.tuple #[]) ∧ BldAt w' g base (selfP g) l ∧ Below base w w' := by
  obtain ⟨hbg, v, hb, hown, hnil⟩ := h
  rcases hp with rfl | rfl
  · refine (copy_fresh g w v hb).mono ?_
    rintro e w' ⟨rfl, rfl⟩
    exact ⟨rfl, ⟨hbg, v, hb.set_ 0 _, own_far hown (own_blk_ne hown hb (by decide)) _, hnil⟩, (Below.refl _ _).setCell hbg _⟩
  · refine (copy_used g w (hb.cell 0)).mono ?_
    rintro e w' ⟨rfl, rfl⟩
    exact ⟨rfl, ⟨hbg, v, hb, hown, hnil⟩, Below.refl _ _⟩
theorem WriteByte_any (g base : Nat) (p : Value) (l : Str) (c : UInt8) (w : World) (hp : p = .pointer none ∨ p = selfP g) (h : BldAt w g base p l) (hl : l.length ≤ 2 ^ 37) (hbw : base ≤ w.heap.size) :
    Calls Tryz.prog 177 #[.pointer (some ⟨g, 0, none⟩), bv c] w fun e w' => e = .returned .nilIface ∧ BldAt w' g base (selfP g) (l ++ [c]) ∧ Below base w w' := by
  have kc := fun w h => copyCheck_any g base p l w hp h
  go_enter Tryz.func177, Tryz.ntmps177
  go_wp2_with (first
    | (go_at_call 207; refine (kc _ h).mono ?_; rintro e w1 ⟨rfl, ⟨hbg, v, hb, hown, _⟩, hb1⟩
       obtain ⟨A1, n1, rfl, _, _⟩ := own_sl hown
       have c1 : w1.cell? ⟨g, 1, none⟩ = some (.slice A1 l.length n1) := hb.cell 1
       have hz1 := hb1.size)
    | (at_builtin; refine wpList_app byteT rfl (.tmp 11) (.tmp 13) rfl _ l.length (l.map bv) rfl base hown [bv c] rfl (by simp [Value.oneCell']) rfl (by omega) (by omega) (by omega) ?_; intro v2 w2 own2 hg2 hat2
       have hne := own_blk_ne hown hb (by decide)
       have hB2 := hb.grown hg2 (fun h => hne h.symm)
       have d1 : w2.cell? ⟨g, 1, none⟩ = some (.slice A1 l.length n1) := hB2.cell 1
       have f1 : w2.frozen? ⟨g, 1, none⟩ = false := hB2.frozen 1
       have hb2 := Below.own hb1 (Nat.le_trans hbw hz1) hown (Nat.le_refl _) hg2
       obtain ⟨A2, c2, rfl, _, _⟩ := own_sl own2))
  go_ret
  exact ⟨rfl, ⟨hbg, .slice A2 (l.length + 1) c2, hB2.set_ 1 _, own_cast (own_far own2 (own_blk_ne (t := 214) own2 hB2 (by decide)) _) (by simp) (by simp), fun h => by simp at h⟩, hb2.setCell hbg _⟩
theorem String_any (g base : Nat) (p : Value) (l : Str) (w : World) (h : BldAt w g base p l) :
    Calls Tryz.prog 178 #[.pointer (some ⟨g, 0, none⟩)] w fun e w' => e = .returned (sv l) ∧ Below base w w' := by
  obtain ⟨hbg, v, hb, hown, hnil⟩ := h
  rcases hown.2 with ⟨rfl, h0⟩ | ⟨gv, cap, cur, rfl, hgv, hcur, hlc, hcm, hcs, htk⟩
  · obtain rfl : l = [] := List.eq_nil_of_length_eq_zero h0
    have c1 : w.drew.cell? ⟨g, 1, none⟩ = some (.slice none 0 0) := hb.drew.cell 1
    have k1 := fun w => Lib.run_unsafeString_none (P := Tryz.prog) w 236 3 9 none
    have k2 : (Builtin.unsafeSliceData_ #[111] 236 #[.slice none 0 0]).run Tryz.prog w.drew = .ok (.pointer none) w.drew := rfl
    clear hown h0
    go_enter Tryz.func178, Tryz.ntmps178
    go_wp2_with (fail)
    go_region
    all_goals (go_wp2; go_ret; exact ⟨rfl, (Below.refl _ _).drew⟩)
  · have c1 : w.drew.cell? ⟨g, 1, none⟩ = some (.slice (some ⟨gv, 0, none⟩) l.length cap) := hb.drew.cell 1
    have hBc : Blk w gv 5 cur := hcur
    by_cases hl : l = []
    · have := hnil hl
      cases this
    · have k2 : (Builtin.unsafeSliceData_ #[111] 236 #[.slice (some ⟨gv, 0, none⟩) l.length cap]).run Tryz.prog w.drew = .ok (.pointer (some ⟨gv, 0, none⟩)) w.drew := Lib.run_unsafeSliceData_row _ _ _ _ _ _ (by have := List.length_pos_iff.2 hl; omega)
      have k3 : (Builtin.unsafeString_ #[236, 3] 9 #[.pointer (some ⟨gv, 0, none⟩), .int .i64 l.length]).run Tryz.prog w.drew = .ok (.string ⟨l.toArray⟩) (w.drew.freeze ⟨gv, 0, none⟩ l.length) := by
        refine Lib.run_unsafeString_row w.drew 236 3 9 5 Tryz.underlying236 (by kernel_rfl) gv cur.size hBc.drew.shape l hl (by omega) (by unfold maxLen at hcm; omega) ?_
        intro j x hx
        exact hown.cells (g := gv) rfl j (.int .u8 x.toNat) (by rw [List.getElem?_map, hx]; rfl)
      have hl' := Lib.hid hl
      clear hown hlc hcs htk hl
      go_enter Tryz.func178, Tryz.ntmps178
      go_wp2_with (fail)
      go_region
      all_goals (go_wp2; go_ret; exact ⟨rfl, Lib.below_freeze (Below.refl _ _).drew (p := ⟨gv, 0, none⟩) hgv _⟩)
end Go.Proofs.YtohopceknpgcnaaGreatDoor
/-
  Contracts: tiles, piles and racks (layer 3 of the impl package).
  Conditions: lengths at most 2^40.
-/
namespace Go.Proofs.YtohopceknpgcnaaGreatDoor
open Go.RowKit RegP RegL RegV
set_option maxHeartbeats 1000000

/-- The index of a tile in counts. -/
def tileK (c : UInt8) : Nat := if c == 63 then 0 else c.toNat - 96
theorem tileK_lt {c : UInt8} (h : tileB c = true) : tileK c < 27 := by
  unfold tileB smallB at h
  unfold tileK
  split
  · omega
  · rename_i hc
    simp only [Bool.or_eq_true, Bool.and_eq_true, decide_eq_true_eq, hc] at h
    simp at h
    omega
theorem place_tile (c : UInt8) (w : World) (h : tileB c = true) :
    Calls Tryz.prog 85 #[bv c] w fun e w' => e = .returned (.int .i64 (tileK c : Nat)) ∧ w = w' := by
  have hq : ((c.toNat : Int) == 63) = (c == 63) := u8_eq c 63
  unfold tileB at h
  obtain ⟨K, hK⟩ : ∃ K, K = tileK c := ⟨_, rfl⟩
  have hdef : Hid (K = if c == 63 then 0 else c.toNat - 96) := Lib.hid hK
  rw [← hK]
  clear hK
  cases h1 : c == 63
  · rw [h1] at hq h hdef
    simp only [Bool.false_or] at h
    have hs := h
    unfold smallB at hs
    simp only [Bool.and_eq_true, decide_eq_true_eq] at hs
    obtain ⟨h97, h122⟩ := hs
    have hsm := fun w => small_any c w
    rw [h] at hsm
    clear h
    go_enter Tryz.func85, Tryz.ntmps85
    go_wp2_with (go_at_call 122; refine (hsm _).mono ?_; rintro e w' ⟨rfl, rfl⟩)
    go_ret
    exact ⟨ret_int (by rw [hdef.out]; simp; omega), rfl⟩
  · rw [h1] at hq hdef
    clear h
    go_enter Tryz.func85, Tryz.ntmps85
    go_wp2_with (fail)
    go_ret
    exact ⟨ret_int (by rw [hdef.out]; rfl), rfl⟩
theorem place_none (c : UInt8) (w : World) (h : tileB c = false) :
    Calls Tryz.prog 85 #[bv c] w fun e w' => e = .returned (.int .i64 (-1)) ∧ w = w' := by
  have hq : ((c.toNat : Int) == 63) = (c == 63) := u8_eq c 63
  unfold tileB at h
  rw [Bool.or_eq_false_iff] at h
  obtain ⟨h1, h2⟩ := h
  rw [h1] at hq
  have hsm := fun w => small_any c w
  rw [h2] at hsm
  clear h1 h2
  go_enter Tryz.func85, Tryz.ntmps85
  go_wp2_with (go_at_call 122; refine (hsm _).mono ?_; rintro e w' ⟨rfl, rfl⟩)
  go_ret
  exact ⟨rfl, rfl⟩
theorem onlyTiles_any (l : Str) (w : World) (hl : l.length ≤ 2 ^ 40) :
    Calls Tryz.prog 126 #[sv l] w fun e w' => e = .returned (.bool (l.all tileB)) ∧ w = w' := by
  go_enter Tryz.func126, Tryz.ntmps126
  go_wp2_with (fail)
  go_loop [3] (fun i => ∃ k : Nat, k ≤ l.length ∧ i = .int .i64 k ∧ Hid (l.all tileB = (l.drop k).all tileB)) (fun i => l.length - (intOf i).toNat)
  case atStart => exact ⟨0, by omega, rfl, rfl⟩
  case round =>
    obtain ⟨k, hk, rfl, he⟩ := hrel
    by_cases hlt : k < l.length
    · have hd := Lib.hid (drop_cons l k hlt)
      cases hc : tileB l[k]
      · go_wp2_with (go_at_call 85; refine (place_none _ _ hc).mono ?_; rintro e w' ⟨rfl, rfl⟩)
        go_ret
        exact ⟨by rw [he.out, hd.out, List.all_cons, hc]; simp, rfl⟩
      · have h0 : (0 : Int) ≤ (tileK l[k] : Int) := by omega
        go_wp2_with (go_at_call 85; refine (place_tile _ _ hc).mono ?_; rintro e w' ⟨rfl, rfl⟩)
        go_round
        case rel => exact ⟨k + 1, by omega, by go_num, Lib.hid (by rw [he.out, hd.out, List.all_cons, hc]; simp)⟩
        case measure => simp [intOf]; omega
    · rw [drop_all l k (by omega)] at he
      go_wp2
      go_ret
      exact ⟨by rw [he.out]; simp, rfl⟩

def ascB : Str → Bool
  | [] => true
  | [_] => true
  | a :: b :: r => leB a b && ascB (b :: r)
theorem ascB_drop (s : Str) (k : Nat) (hk : 1 ≤ k) (h : k < s.length) : ascB (s.drop (k - 1)) = (leB s[k - 1] s[k] && ascB (s.drop k)) := by
  rw [drop_cons s (k - 1) (by omega)]
  have e : s.drop (k - 1 + 1) = s[k] :: s.drop (k + 1) := by rw [show k - 1 + 1 = k from by omega]; exact drop_cons s k h
  rw [e, ascB, ← drop_cons s k h]
theorem ascB_end (s : Str) (k : Nat) (hk : 1 ≤ k) (h : s.length ≤ k) : ascB (s.drop (k - 1)) = true := by
  by_cases h1 : k - 1 < s.length
  · rw [drop_cons s (k - 1) h1, drop_all s _ (by omega)]; rfl
  · rw [drop_all s _ (by omega)]; rfl
theorem pileFrom_eq (s : Str) : pileFrom none s = (s.all tileB && ascB s) := by
  have key : ∀ (r : Str) (a : UInt8), pileFrom (some a) r = (ascB (a :: r) && r.all tileB) := by
    intro r
    induction r with
    | nil => intro a; rfl
    | cons b r ih => intro a; simp only [pileFrom, ih, ascB, List.all_cons]; cases tileB b <;> cases leB a b <;> simp
  cases s with
  | nil => rfl
  | cons a r => simp only [pileFrom, key, List.all_cons]; cases tileB a <;> simp [Bool.and_comm]
theorem iValidPile_any (s : Str) (w : World) (hs : s.length ≤ 2 ^ 40) :
    Calls Tryz.prog 84 #[sv s] w fun e w' => e = .returned (.bool (pileB s)) ∧ Dr w w' := by
  have hdef : Hid (pileB s = (s.all tileB && ascB s && decide (s.length ≤ 120))) := Lib.hid (by rw [pileB, pileFrom_eq])
  have ht := fun w => onlyTiles_any s w hs
  obtain ⟨P, hP⟩ : ∃ P, P = pileB s := ⟨_, rfl⟩
  rw [← hP] at hdef ⊢
  clear hP
  by_cases h120 : 120 < s.length
  · have h120' : (120 : Int) < (s.length : Int) := by omega
    go_enter Tryz.func84, Tryz.ntmps84
    go_wp2_with (fail)
    go_ret
    exact ⟨ret_bool (by rw [hdef.out]; simp; omega), Dr.refl _⟩
  · have h120' : decide ((120 : Int) < (s.length : Int)) = false := decide_eq_false (by omega)
    cases hall : s.all tileB
    · rw [hall] at ht hdef
      go_enter Tryz.func84, Tryz.ntmps84
      go_wp2_with (go_at_call 126; refine (ht _).mono ?_; rintro e w' ⟨rfl, rfl⟩)
      go_ret
      exact ⟨ret_bool (by rw [hdef.out]; rfl), Dr.refl _⟩
    · rw [hall] at ht hdef
      go_enter Tryz.func84, Tryz.ntmps84
      go_wp2_with (go_at_call 126; refine (ht _).mono ?_; rintro e w' ⟨rfl, rfl⟩)
      go_loopw [3] (fun i wr => ∃ k : Nat, 1 ≤ k ∧ k ≤ s.length + 1 ∧ i = .int .i64 k ∧ Hid (ascB s = ascB (s.drop (k - 1))) ∧ Dr w wr) (fun i _ => s.length + 1 - (intOf i).toNat)
      case atStart => exact ⟨1, by omega, by omega, rfl, rfl, Dr.refl _⟩
      case round =>
        obtain ⟨k, hk1, hk2, rfl, he, hw⟩ := hrel
        by_cases hlt : k < s.length
        · have hd := Lib.hid (ascB_drop s k hk1 hlt)
          have hi1 : (1 : Int) ≤ (k : Int) := by omega
          have hi0 : (0 : Int) ≤ (k : Int) := by omega
          have hi2 : (k : Int) < (s.length : Int) := by omega
          have hi4 : (0 : Int) ≤ (k : Int) - 1 := by omega
          have hi5 : (k : Int) - 1 < (s.length : Int) := by omega
          have hi3 : ((k : Int) - 1).toNat = k - 1 := by omega
          have hle : decide (s[k].toNat < (s[k - 1]'(by omega)).toNat) = !leB (s[k - 1]'(by omega)) s[k] := by
            unfold leB; rw [Bool.eq_iff_iff]; simp
          cases hxy : leB (s[k - 1]'(by omega)) s[k]
          all_goals
            rw [hxy] at hle
            go_wp2_with (fail)
            go_quiet (fail)
            go_wp2
          · go_ret
            exact ⟨ret_bool (by rw [hdef.out, he.out, hd.out, hxy]; rfl), hw.more _⟩
          · go_roundw
            case rel => exact ⟨k + 1, by omega, by omega, by go_num, Lib.hid (by rw [he.out, hd.out, hxy]; rfl), hw.more _⟩
            case measure => simp [intOf]; omega
        · have he2 := Lib.hid (ascB_end s k hk1 (by omega))
          go_wp2_with (fail)
          go_ret
          exact ⟨ret_bool (by rw [hdef.out, he.out, he2.out]; simp; omega), hw⟩
theorem iValidRack_any (s : Str) (w : World) (hs : s.length ≤ 2 ^ 40) :
    Calls Tryz.prog 54 #[sv s] w fun e w' => e = .returned (.bool (rackB s)) ∧ Dr w w' := by
  unfold rackB
  by_cases h7 : s.length ≤ 7
  · go_enter Tryz.func54, Tryz.ntmps54
    go_wp2_with (go_at_call 84; refine (iValidPile_any _ _ hs).mono ?_; rintro e w' ⟨rfl, hw⟩)
    go_ret
    exact ⟨ret_bool (by simp [h7]), hw⟩
  · go_enter Tryz.func54, Tryz.ntmps54
    go_wp2_with (fail)
    go_ret
    exact ⟨ret_bool (by simp), Dr.refl _⟩
end Go.Proofs.YtohopceknpgcnaaGreatDoor
/-
  Contracts: counts of tiles (layer 3 of the impl package).
  Conditions: tiles alone; lengths at most 2^38.
-/
namespace Go.Proofs.YtohopceknpgcnaaGreatDoor
open Go.RowKit RegP RegL RegV
set_option maxHeartbeats 1000000
set_option maxRecDepth 100000

/-- Counts as a row of cells. -/
def cntA (c : List Int) : Array Value := (c.map (Value.int .i64)).toArray
def incAt (c : List Int) (k : Nat) : List Int := c.set k (c.getD k 0 + 1)
def zeroC : List Int := List.replicate 27 0
def countsL (s : Str) : List Int := s.foldl (fun c x => incAt c (tileK x)) zeroC
theorem incAt_length (c : List Int) (k : Nat) : (incAt c k).length = c.length := by simp [incAt]
theorem countsL_snoc (s : Str) (x : UInt8) : countsL (s ++ [x]) = incAt (countsL s) (tileK x) := by simp [countsL]
theorem foldl_inc_length (s : Str) : ∀ c : List Int, (s.foldl (fun c x => incAt c (tileK x)) c).length = c.length := by
  induction s with
  | nil => intro c; rfl
  | cons x r ih => intro c; rw [List.foldl_cons, ih, incAt_length]
theorem countsL_length (s : Str) : (countsL s).length = 27 := by rw [countsL, foldl_inc_length]; rfl
theorem cntA_size (c : List Int) : (cntA c).size = c.length := by simp [cntA]
theorem cntA_get (c : List Int) (k : Nat) (h : k < c.length) : (cntA c)[k]? = some (.int .i64 (c.getD k 0)) := by
  simp [cntA, List.getD_eq_getElem?_getD, List.getElem?_eq_getElem h]
theorem cntA_set (c : List Int) (k : Nat) (x : Int) : (cntA c).setIfInBounds k (.int .i64 x) = cntA (c.set k x) := by
  simp [cntA, List.map_set]
theorem cntA_one (c : List Int) : (cntA c).all (·.oneCell') = true := by
  simp [cntA, Value.oneCell']
theorem incAt_bd {c : List Int} {m : Int} (h : ∀ j, c.getD j 0 ≤ m ∧ 0 ≤ c.getD j 0) (hm : 0 ≤ m) (k j : Nat) : (incAt c k).getD j 0 ≤ m + 1 ∧ 0 ≤ (incAt c k).getD j 0 := by
  unfold incAt
  have h1 := h j
  have h2 := h k
  rw [List.getD_eq_getElem?_getD, List.getElem?_set]
  split
  · split
    · rw [Option.getD_some]; omega
    · simp; omega
  · rw [← List.getD_eq_getElem?_getD]; omega
theorem foldl_inc_bd (s : Str) : ∀ (c : List Int) (m : Int), 0 ≤ m → (∀ j, c.getD j 0 ≤ m ∧ 0 ≤ c.getD j 0) → ∀ j, (s.foldl (fun c x => incAt c (tileK x)) c).getD j 0 ≤ m + s.length ∧ 0 ≤ (s.foldl (fun c x => incAt c (tileK x)) c).getD j 0 := by
  induction s with
  | nil => intro c m _ h j; simpa using h j
  | cons x r ih =>
    intro c m hm h j
    have := ih (incAt c (tileK x)) (m + 1) (by omega) (fun j => incAt_bd h hm _ j) j
    rw [List.foldl_cons, List.length_cons]
    omega
theorem zeroC_get (j : Nat) : zeroC.getD j 0 = 0 := by
  unfold zeroC
  rw [List.getD_eq_getElem?_getD, List.getElem?_replicate]
  split <;> rfl
theorem countsL_bd (s : Str) (j : Nat) : (countsL s).getD j 0 ≤ s.length ∧ 0 ≤ (countsL s).getD j 0 := by
  have := foldl_inc_bd s zeroC 0 (by omega) (fun j => by rw [zeroC_get]; omega) j
  rw [countsL]; omega

section
variable {w : World} {g g' : Nat} {t t' : TypeId} {old cs cs' : Array Value} {B : Nat} {a : World}
theorem Blk.setRow (h : Blk w g t old) : Blk (w.setRow g cs) g t cs := by
  unfold Blk at h ⊢
  simp [World.setRow, Array.getElem?_modify, h]
theorem Blk.setRow_far (h : Blk w g t cs) (hne : g ≠ g') : Blk (w.setRow g' cs') g t cs := by
  unfold Blk at h ⊢
  simp [World.setRow, Array.getElem?_modify, Ne.symm hne, h]
end
theorem below_setRow {w a : World} {B g : Nat} {cs : Array Value} (h : Below B a w) (hB : B ≤ g) : Below B a (w.setRow g cs) := by
  refine h.trans ⟨rfl, rfl, rfl, by simp [World.setRow], fun k hk => ?_⟩
  have : g ≠ k := by omega
  simp [World.setRow, Array.getElem?_modify, this]
theorem countsOf_any (s : Str) (w : World) (hs : s.length ≤ 2 ^ 38) (ht : s.all tileB = true) :
    Calls Tryz.prog 55 #[sv s] w fun e w' => e = .returned (.agg (cntA (countsL s))) ∧ Below w.heap.size w w' := by
  have hsz : (cntA (countsL s)).size = 27 := by rw [cntA_size, countsL_length]
  have hone := cntA_one (countsL s)
  obtain ⟨X, hX⟩ : ∃ X, X = cntA (countsL s) := ⟨_, rfl⟩
  rw [← hX] at hsz hone ⊢
  have hs27 := Lib.hid hsz
  have hX' := Lib.hid hX
  clear hX hsz
  go_enter Tryz.func55, Tryz.ntmps55
  go_wp2_with (fail)
  obtain ⟨W, hW⟩ : ∃ W, W = (w.alloc (.cells (cntA zeroC) 95)).alloc (.cells (cntA zeroC) 95) := ⟨_, rfl⟩
  have hB0 : Blk W w.heap.size 95 (cntA zeroC) := by rw [hW]; exact (Blk.new w _ _).alloc _
  have hB1 : Blk W (w.heap.size + 1) 95 (cntA zeroC) := by rw [hW]; exact Blk.new1 w _ _ _
  have hbW : Below w.heap.size w W := by rw [hW]; exact ((Below.refl _ _).alloc (Nat.le_refl _) _).alloc (by simp) _
  change Code.wp _ _ _ _ ((w.alloc (.cells (cntA zeroC) 95)).alloc (.cells (cntA zeroC) 95))
  rw [← hW]
  clear hW
  go_loopw [4] (fun i wr => ∃ k : Nat, k ≤ s.length ∧ i = .int .i64 k ∧ Blk wr w.heap.size 95 (cntA zeroC) ∧ Blk wr (w.heap.size + 1) 95 (cntA (countsL (s.take k))) ∧ Below w.heap.size w wr) (fun i _ => s.length - (intOf i).toNat)
  case atStart => exact ⟨0, by omega, rfl, hB0, hB1, hbW⟩
  case round =>
    clear hB0 hB1 hbW
    obtain ⟨k, hk, rfl, hB0, hB1, hb⟩ := hrel
    by_cases hlt : k < s.length
    · have hc : tileB s[k] = true := List.all_eq_true.1 ht _ (List.getElem_mem _)
      have hK := tileK_lt hc
      have kp := fun w => place_tile s[k] w hc
      have hstep : Hid (countsL (s.take (k + 1)) = incAt (countsL (s.take k)) (tileK s[k])) := Lib.hid (by rw [List.take_succ_eq_append_getElem hlt, countsL_snoc])
      have hcl := countsL_length (s.take k)
      have hbd := countsL_bd (s.take k) (tileK s[k])
      obtain ⟨K, hKK⟩ : ∃ K, K = tileK s[k] := ⟨_, rfl⟩
      obtain ⟨C, hC⟩ : ∃ C, C = countsL (s.take k) := ⟨_, rfl⟩
      rw [← hKK] at hK kp hstep hbd
      rw [← hC] at hB1 hstep hcl hbd
      rw [List.length_take] at hbd
      have hget := hB1.cell K
      rw [cntA_get C K (by omega)] at hget
      have hfz := hB1.frozen K
      have hset := hB1.set_ K (.int .i64 (C.getD K 0 + 1))
      rw [cntA_set] at hset
      obtain ⟨x, hx⟩ : ∃ x, x = C.getD K 0 := ⟨_, rfl⟩
      have hinc : Hid (incAt C K = C.set K (x + 1)) := Lib.hid (by rw [hx]; rfl)
      rw [← hx] at hget hset hbd
      have hx0 : 0 ≤ x := hbd.2
      have hx1 : x ≤ 274877906944 := by omega
      have hK0 : (0 : Int) ≤ (K : Int) := by omega
      have hK1 : (K : Int) < 27 := by omega
      have hsz := hB1.lt
      clear hC hKK hx hbd hcl
      go_wp2_with (go_at_call 85; refine (kp _).mono ?_; rintro e w' ⟨rfl, rfl⟩)
      go_roundw
      case rel => exact ⟨k + 1, by omega, by go_num, hB0.far (by simp) _, by rw [hstep.out, hinc.out]; exact hset, hb.setCell (by simp) _⟩
      case measure => simp [intOf]; omega
    · obtain rfl : k = s.length := by omega
      rw [List.take_length] at hB1
      rw [← hX'.out] at hB1
      have hbX := below_setRow (cs := X) hb (Nat.le_refl _)
      have hBX := hB0.setRow (cs := X)
      go_wp2_with (first
        | (refine wpList_load_row rfl 95 (.tmp 3) rfl (w.heap.size + 1) rfl 95 X (0, 0) _ hB1 Tryz.underlying95 rfl (by rw [hs27.out]; kernel_rfl) ?_)
        | (refine wpList_store_row rfl 95 (.tmp 2) (.tmp 19) rfl w.heap.size X rfl rfl 95 (cntA zeroC) hB0 (by rw [hs27.out]; kernel_rfl) (by rw [hs27.out]; rfl) hone ?_))
      exact ret_row (by rfl) w.heap.size 95 X _ rfl hBX Tryz.underlying95 rfl (by rw [hs27.out]; kernel_rfl) rfl ⟨rfl, hbX⟩
end Go.Proofs.YtohopceknpgcnaaGreatDoor
