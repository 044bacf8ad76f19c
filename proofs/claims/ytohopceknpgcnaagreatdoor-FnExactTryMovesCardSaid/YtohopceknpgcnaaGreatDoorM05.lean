/-
  Contracts: the words that a play forms (layer 12 of the spec package), and whether a lexicon has a word (layer 5); Contracts: whether a lexicon has a word (layer 5 of the spec package); Contract: the words of a play that a lexicon does not have (layer 12 of the spec package); A region that draws its order, the third form: an operation may yield a value that hangs on the world ("free"); S tells what is known of it; Contracts: the letters on a board, and the order of plays (layers 11 and 12 of the spec package).
  Conditions: as each part below says.
-/
import Derived.Test.YtohopceknpgcnaaGreatDoorM04
import Derived.Test.YtohopceknpgcnaaGreatDoorM03
/-
  Contracts: the words that a play forms (layer 12 of the spec package), and whether a lexicon has a word (layer 5).
  Conditions: a board that is valid lies at the head of a block; the play is valid on it.
-/
namespace Go.Proofs.YtohopceknpgcnaaGreatDoor
open Go.RowKit RegP RegL
set_option maxHeartbeats 400000

theorem own_base {w : World} {base base' e size n : Nat} {v : Value} {xs : List Value} (h : w.ownsRow base e size v n xs) (hb : base' ≤ base) : w.ownsRow base' e size v n xs := by
  refine ⟨h.1, ?_⟩
  rcases h.2 with h2 | ⟨g, cap, cur, h1, h2, h3⟩
  · exact .inl h2
  · exact .inr ⟨g, cap, cur, h1, Nat.le_trans hb h2, h3⟩
def wordsL (b : Bd) (q : Pl) : List Str := (formedL (flatB b q) (flatP q)).map lowS
theorem formedL_le (b : Bd) (q : Pl) : ∀ x ∈ formedL b q, x.length ≤ q.word.length + 16 := by
  intro x hx
  rcases List.mem_cons.1 hx with rfl | hx
  · omega
  · obtain ⟨i, _, rfl⟩ := List.mem_map.1 (List.mem_filter.1 hx).1
    have := crossS_length b q.row.toNat (q.col + (i : Int)) (q.word.getD i 0)
    unfold crossAt; omega
theorem formedL_length (b : Bd) (q : Pl) : (formedL b q).length ≤ q.word.length + 1 := by
  have := keepL_length ((freshL b q).map (crossAt b q))
  have h2 : (freshL b q).length ≤ q.word.length := freshTo_length b q q.word.length
  rw [List.length_map] at this
  rw [formedL, List.length_cons]; omega
theorem l12Words_any (g : Nat) (b : Bd) (q : Pl) (w : World) (hp : BAt w ⟨g, 0, none⟩ b) (hf : b.Fit) (hon : OnB (flatB b q) (flatP q)) (hl : q.word.length ≤ 2 ^ 37) :
    Calls Tryz.prog 221 #[.pointer (some ⟨g, 0, none⟩), q.v] w fun e w' => ∃ v, e = .returned v ∧ w'.ownsRow w.heap.size 9 1 v (wordsL b q).length ((wordsL b q).map sv) ∧ Below w.heap.size w w' := by
  have hdef : Hid (wordsL b q = (formedL (flatB b q) (flatP q)).map lowS) := rfl
  have hwf := flatP_word q
  have hFl := formedL_length (flatB b q) (flatP q)
  have hFx := formedL_le (flatB b q) (flatP q)
  rw [hwf] at hFl hFx
  have hfl := l12Flat_any g b q
  have hfit : (flatB b q).Fit := flatB_fit hf
  have hwl : (flatP q).word.length ≤ 2 ^ 37 := by rw [hwf]; exact hl
  have hfo := fun p w hp => l12Formed_any p (flatB b q) (flatP q) w hp hfit hon hwl
  obtain ⟨F, hF⟩ : ∃ F, F = formedL (flatB b q) (flatP q) := ⟨_, rfl⟩
  rw [← hF] at hdef hFl hFx hfo
  obtain ⟨q', hq'⟩ : ∃ q', q' = flatP q := ⟨_, rfl⟩
  obtain ⟨b', hb'⟩ : ∃ b', b' = flatB b q := ⟨_, rfl⟩
  rw [← hq', ← hb'] at hfl hfo
  clear hF hq' hb' hwf hfit hwl hon
  obtain ⟨S, hS⟩ : ∃ S, S = wordsL b q := ⟨_, rfl⟩
  rw [← hS] at hdef ⊢
  clear hS
  obtain ⟨r, c, dn, s⟩ := q
  simp only [Bd.v, Pl.v] at hfl hfo hFl hFx ⊢
  simp only at hl
  have hpW := hp.alloc (.cells #[.int .i64 r, .int .i64 c, .bool dn, sv s] 69)
  have hbW := (Below.refl w.heap.size w).alloc (Nat.le_refl _) (.cells #[.int .i64 r, .int .i64 c, .bool dn, sv s] 69)
  obtain ⟨W, hW⟩ : ∃ W, W = w.alloc (.cells #[.int .i64 r, .int .i64 c, .bool dn, sv s] 69) := ⟨_, rfl⟩
  rw [← hW] at hpW hbW
  go_enter Tryz.func221, Tryz.ntmps221
  go_wp2_with (first
    | (go_at_call 118; rw [← hW]; refine (hfl W hpW hf).mono ?_; rintro e w1 ⟨rfl, hb1⟩)
    | (go_at_call 220; refine (hfo ⟨w1.heap.size, 0, none⟩ _ ((BAt.new w1 b' 40).alloc _)).mono ?_; rintro e w2 ⟨v2, rfl, own2, hb2⟩))
  have hw1 := hbW.trans (hb1.mono hbW.size)
  have hw1a := (hw1.alloc hw1.size (.cells #[.int .i64 b'.size, sv b'.prem, sv b'.cells] 40))
  have hw1b := hw1a.alloc hw1a.size (.cells #[.int .i64 q'.row, .int .i64 q'.col, .bool q'.down, sv q'.word] 69)
  have hw2 := hw1b.trans (hb2.mono hw1b.size)
  obtain ⟨A2, c2, rfl, hc2, hr2⟩ := own_sl own2
  clear hw1 hw1a hw1b hb1 hb2 own2 hfl hfo hpW hbW hW
  have hz2 := hw2.size
  go_loopw [8, 9] (fun o i wr => ∃ k : Nat, k ≤ F.length ∧ i = .int .i64 k ∧ wr.ownsRow w2.heap.size 9 1 o k (((F.take k).map lowS).map sv) ∧ Below w2.heap.size w2 wr) (fun _ i _ => F.length - (intOf i).toNat)
  case atStart => exact ⟨0, by omega, rfl, World.ownsRow_lit w2 #[] 0 (Nat.le_refl _) (by unfold maxLen; omega) rfl, (Below.refl _ _).alloc (Nat.le_refl _) _⟩
  case round =>
    obtain ⟨k, hk, rfl, hown, hb⟩ := hrel
    by_cases hlt : k < F.length
    · obtain ⟨ad, rfl, hadb, hc⟩ := (hr2.below hb).el hlt
      have hx := hFx F[k] (List.getElem_mem _)
      have hkk : (k : Int) < (F.length : Int) := by omega
      have hstep : Hid (((F.take (k + 1)).map lowS).map sv = ((F.take k).map lowS).map sv ++ [sv (lowS F[k])]) := Lib.hid (by rw [List.take_succ_eq_append_getElem hlt, List.map_append, List.map_append]; rfl)
      obtain ⟨x, hxx⟩ : ∃ x, x = F[k] := ⟨_, rfl⟩
      rw [← hxx] at hx hstep hc
      clear hxx
      go_wp2_with (first
        | (go_at_call 194; refine (l03Small_any x _ (by omega)).mono ?_; rintro e w3 ⟨rfl, hb3⟩; have hb4 := hb.trans (hb3.mono hb.size); have hown3 := own_call hown hb3)
        | (at_builtin; refine wpList_app strT rfl (.tmp 25) (.tmp 31) rfl _ _ _ rfl w2.heap.size hown3 [sv (lowS x)] rfl (by simp [Value.oneCell']) rfl (by omega) (by omega) hb4.size ?_; intro v5 w5 own5 hg5 _))
      go_roundw
      case rel => exact ⟨k + 1, by omega, by go_num, own_cast own5 hstep.out.symm rfl, Below.own hb4 hb4.size hown3 (Nat.le_refl _) hg5⟩
      case measure => simp [intOf]; omega
    · obtain rfl : k = F.length := by omega
      rw [List.take_length] at hown
      go_wp2_with (fail)
      go_ret
      exact ⟨_, rfl, own_cast (own_base hown hz2) (by rw [hdef.out]) (by rw [hdef.out, List.length_map]), hw2.trans (hb.mono hz2)⟩
end Go.Proofs.YtohopceknpgcnaaGreatDoor
/-
  Contracts: whether a lexicon has a word (layer 5 of the spec package).
  Conditions: the slice reads as a list of strings.
-/
namespace Go.Proofs.YtohopceknpgcnaaGreatDoor
open Go.RowKit RegP RegL
set_option maxHeartbeats 400000

def firstK : List Str → Str → Nat
  | [], _ => 0
  | x :: r, s => if sLt x s then firstK r s + 1 else 0
theorem firstK_le : ∀ (ws : List Str) (s : Str), firstK ws s ≤ ws.length
  | [], _ => Nat.le_refl _
  | x :: r, s => by
    rw [firstK]
    have := firstK_le r s
    split <;> simp <;> omega
def hasB (ws : List Str) (s : Str) : Bool := ws[firstK ws s]? == some s
theorem l05First_any (A : Option Addr) (c : Nat) (ws : List Str) (s : Str) (w : World) (hr : Reads w w.heap.size 1 A ws.length (ws.map sv)) (hn : ws.length ≤ 2 ^ 40) :
    Calls Tryz.prog 229 #[.slice A ws.length c, sv s] w fun e w' => e = .returned (.int .i64 (firstK ws s)) ∧ Dr w w' := by
  go_enter Tryz.func229, Tryz.ntmps229
  go_wp2_with (fail)
  go_loopw [5] (fun i wr => ∃ k : Nat, k ≤ ws.length ∧ i = .int .i64 k ∧ Hid (firstK ws s = k + firstK (ws.drop k) s) ∧ Dr w wr) (fun i _ => ws.length - (intOf i).toNat)
  case atStart => exact ⟨0, by omega, rfl, by unfold Hid; simp, Dr.refl _⟩
  case round =>
    obtain ⟨k, hk, rfl, he, hd⟩ := hrel
    by_cases hlt : k < ws.length
    · obtain ⟨ad, rfl, hadb, hc⟩ := (hr.below hd.below).el hlt
      have hkk : (k : Int) < (ws.length : Int) := by omega
      have hst : Hid (firstK (ws.drop k) s = if sLt ws[k] s then firstK (ws.drop (k + 1)) s + 1 else 0) := Lib.hid (by rw [drop_cons ws k hlt]; rfl)
      obtain ⟨x, hx⟩ : ∃ x, x = ws[k] := ⟨_, rfl⟩
      rw [← hx] at hst hc
      clear hx
      cases hl : sLt x s
      · have hl' : Op.bytesLess x s = false := hl
        go_wp2_with (fail)
        go_ret
        exact ⟨ret_int (by rw [he.out, hst.out, hl]; simp), hd⟩
      · have hl' : Op.bytesLess x s = true := hl
        go_wp2_with (fail)
        go_roundw
        case rel => exact ⟨k + 1, by omega, by go_num, Lib.hid (by rw [he.out, hst.out, hl]; simp; omega), hd⟩
        case measure => simp [intOf]; omega
    · obtain rfl : k = ws.length := by omega
      have hf : decide ((ws.length : Int) < (ws.length : Int)) = false := by simp
      go_wp2_with (fail)
      go_ret
      exact ⟨ret_int (by rw [he.out, List.drop_length]; rfl), hd⟩
theorem sv_beq (x s : Str) : (x.toArray == s.toArray) = (x == s) := by
  rw [Bool.eq_iff_iff, beq_iff_eq, beq_iff_eq]
  constructor
  · intro h; have := congrArg Array.toList h; simpa using this
  · rintro rfl; rfl
theorem l05Has_any (A : Option Addr) (c : Nat) (ws : List Str) (s : Str) (w : World) (hr : Reads w w.heap.size 1 A ws.length (ws.map sv)) (hn : ws.length ≤ 2 ^ 40) :
    Calls Tryz.prog 222 #[.slice A ws.length c, sv s] w fun e w' => e = .returned (.bool (hasB ws s)) ∧ Dr w w' := by
  have hdef : Hid (hasB ws s = (ws[firstK ws s]? == some s)) := rfl
  have hfi := l05First_any A c ws s
  have hle := firstK_le ws s
  obtain ⟨k, hk⟩ : ∃ k, k = firstK ws s := ⟨_, rfl⟩
  rw [← hk] at hdef hfi hle
  clear hk
  by_cases hlt : k < ws.length
  · obtain ⟨ad, rfl, hadb, hc⟩ := hr.el hlt
    have hkk : (k : Int) < (ws.length : Int) := by omega
    have hx : Hid ((ws[k]? == some s) = (ws[k] == s)) := Lib.hid (by rw [List.getElem?_eq_getElem hlt]; rfl)
    have hc' : ∀ w', Dr w w' → w'.cell? (ad.add k) = some (sv ws[k]) := fun w' hd => (hd.below.cell (by rw [block_of_add]; exact hadb)).trans hc
    obtain ⟨x, hxx⟩ : ∃ x, x = ws[k] := ⟨_, rfl⟩
    rw [← hxx] at hc' hx
    clear hxx hc
    have hq := sv_beq x s
    go_enter Tryz.func222, Tryz.ntmps222
    go_wp2_with (go_at_call 229; refine (hfi _ hr hn).mono ?_; rintro e w1 ⟨rfl, hd1⟩; have hc1 := hc' w1 hd1)
    go_ret
    exact ⟨ret_bool (by rw [hdef.out, hx.out]), hd1⟩
  · have hf : decide ((k : Int) < (ws.length : Int)) = false := by simp; omega
    go_enter Tryz.func222, Tryz.ntmps222
    go_wp2_with (go_at_call 229; refine (hfi _ hr hn).mono ?_; rintro e w1 ⟨rfl, hd1⟩)
    go_ret
    exact ⟨ret_bool (by rw [hdef.out, List.getElem?_eq_none (by omega)]; rfl), hd1⟩
end Go.Proofs.YtohopceknpgcnaaGreatDoor
/-
  Contract: the words of a play that a lexicon does not have (layer 12 of the spec package).
  Conditions: a board that is valid lies at the head of a block, a lexicon at an address; the play is valid.
-/
namespace Go.Proofs.YtohopceknpgcnaaGreatDoor
open Go.RowKit RegP RegL
set_option maxHeartbeats 400000

/-- A lexicon lies at an address. -/
structure LxAt (w : World) (p : Addr) (A : Option Addr) (c : Nat) (ws : List Str) : Prop where
  cell : w.cell? p = some (.slice A ws.length c)
  reads : Reads w w.heap.size 1 A ws.length (ws.map sv)
theorem LxAt.below {w w' : World} {p : Addr} {A : Option Addr} {c : Nat} {ws : List Str} (h : LxAt w p A c ws) (hb : Below w.heap.size w w') : LxAt w' p A c ws :=
  ⟨(hb.cell (World.block_lt_of_cell? w p h.cell)).trans h.cell, (h.reads.below hb).more hb.size⟩
theorem l05Has_v (A : Option Addr) (c : Nat) (ws : List Str) (s : Str) (w : World) (v : Bool) (hv : hasB ws s = v) (hr : Reads w w.heap.size 1 A ws.length (ws.map sv)) (hn : ws.length ≤ 2 ^ 40) :
    Calls Tryz.prog 222 #[.slice A ws.length c, sv s] w fun e w' => e = .returned (.bool v) ∧ Dr w w' := hv ▸ l05Has_any A c ws s w hr hn
def wrongL (b : Bd) (ws : List Str) (q : Pl) : List Str := (wordsL b q).filter fun s => !hasB ws s
theorem wrong_step (F : List Str) (ws : List Str) (k : Nat) (h : k < F.length) : (F.take (k + 1)).filter (fun s => !hasB ws s) = if hasB ws F[k] then (F.take k).filter (fun s => !hasB ws s) else (F.take k).filter (fun s => !hasB ws s) ++ [F[k]] := by
  rw [List.take_succ_eq_append_getElem h, List.filter_append]
  cases hh : hasB ws F[k]
  · rw [if_neg (by decide)]; congr 1; exact List.filter_cons_of_pos (p := fun s : Str => !hasB ws s) (by simp [hh])
  · rw [if_pos rfl, List.filter_cons_of_neg (p := fun s : Str => !hasB ws s) (by simp [hh]), List.filter_nil, List.append_nil]
theorem l12Wrong_any (g : Nat) (b : Bd) (pl : Addr) (A : Option Addr) (c0 : Nat) (ws : List Str) (q : Pl) (w : World) (hp : BAt w ⟨g, 0, none⟩ b) (hx : LxAt w pl A c0 ws) (hn : ws.length ≤ 2 ^ 40) (hf : b.Fit) (hon : OnB (flatB b q) (flatP q)) (hl : q.word.length ≤ 2 ^ 37) :
    Calls Tryz.prog 202 #[.pointer (some ⟨g, 0, none⟩), .pointer (some pl), q.v] w fun e w' => ∃ v, e = .returned v ∧ w'.ownsRow w.heap.size 9 1 v (wrongL b ws q).length ((wrongL b ws q).map sv) ∧ Below w.heap.size w w' := by
  have hdef : Hid (wrongL b ws q = (wordsL b q).filter fun s => !hasB ws s) := rfl
  have hFl : (wordsL b q).length ≤ q.word.length + 1 := by
    rw [wordsL, List.length_map, ← flatP_word q]; exact formedL_length _ _
  have hfo := fun w hp => l12Words_any g b q w hp hf hon hl
  obtain ⟨F, hF⟩ : ∃ F, F = wordsL b q := ⟨_, rfl⟩
  rw [← hF] at hdef hFl hfo
  clear hF hon
  obtain ⟨S, hS⟩ : ∃ S, S = wrongL b ws q := ⟨_, rfl⟩
  rw [← hS] at hdef ⊢
  clear hS
  obtain ⟨r, c, dn, s⟩ := q
  simp only [Pl.v] at hfo hFl ⊢
  simp only at hl
  have hpW := hp.alloc (.cells #[.int .i64 r, .int .i64 c, .bool dn, sv s] 69)
  have hbW := (Below.refl w.heap.size w).alloc (Nat.le_refl _) (.cells #[.int .i64 r, .int .i64 c, .bool dn, sv s] 69)
  obtain ⟨W, hW⟩ : ∃ W, W = w.alloc (.cells #[.int .i64 r, .int .i64 c, .bool dn, sv s] 69) := ⟨_, rfl⟩
  rw [← hW] at hpW hbW
  go_enter Tryz.func202, Tryz.ntmps202
  go_wp2_with (go_at_call 221; rw [← hW]; refine (hfo W hpW).mono ?_; rintro e w2 ⟨v2, rfl, own2, hb2⟩)
  have hw2 := hbW.trans (hb2.mono hbW.size)
  have hx2 := hx.below hw2
  obtain ⟨A2, c2, rfl, hc2, hr2⟩ := own_sl own2
  clear hb2 own2 hfo hpW hbW hW
  have hz2 := hw2.size
  go_wp2_with (fail)
  go_loopw [8, 9] (fun o i wr => ∃ k : Nat, k ≤ F.length ∧ i = .int .i64 k ∧ wr.ownsRow w2.heap.size 9 1 o ((F.take k).filter fun s => !hasB ws s).length (((F.take k).filter fun s => !hasB ws s).map sv) ∧ Below w2.heap.size w2 wr) (fun _ i _ => F.length - (intOf i).toNat)
  case atStart => exact ⟨0, by omega, rfl, World.ownsRow_lit w2 #[] 0 (Nat.le_refl _) (by unfold maxLen; omega) rfl, (Below.refl _ _).alloc (Nat.le_refl _) _⟩
  case round =>
    obtain ⟨k, hk, rfl, hown, hb⟩ := hrel
    have hfl := List.length_filter_le (fun s => !hasB ws s) (F.take k)
    rw [List.length_take] at hfl
    by_cases hlt : k < F.length
    · obtain ⟨ad, rfl, hadb, hc⟩ := (hr2.below hb).el hlt
      have hx3 := hx2.below hb
      have hlc := hx3.cell
      have hkk : (k : Int) < (F.length : Int) := by omega
      have hstep := Lib.hid (wrong_step F ws k hlt)
      obtain ⟨x, hxx⟩ : ∃ x, x = F[k] := ⟨_, rfl⟩
      rw [← hxx] at hstep hc
      clear hxx
      cases hh : hasB ws x
      all_goals
        go_wp2_with (fail)
        go_quiet ((go_at_call 222; exact quiet_dr (l05Has_v A c0 ws x _ _ hh hx3.reads hn)))
      · have hc' : (wr.drewN nq).cell? (ad.add k) = some (sv x) := hc
        have hownd := World.ownsRow.drewN hown nq
        have hbd := below_drewN hb nq
        obtain ⟨V, hV⟩ : ∃ V, V = wr.drewN nq := ⟨_, rfl⟩
        rw [← hV] at hc' hownd hbd
        rw [← hV]
        clear hV
        go_wp2_with (at_builtin; refine wpList_app strT rfl (.tmp 30) (.tmp 35) rfl _ _ _ rfl w2.heap.size hownd [sv x] rfl (by simp [Value.oneCell']) rfl (by omega) (by omega) hbd.size ?_; intro v5 w5 own5 hg5 _)
        go_roundw
        case rel => exact ⟨k + 1, by omega, by go_num, own_cast own5 (by rw [hstep.out, if_neg (by rw [hh]; decide), List.map_append]; rfl) (by rw [hstep.out, if_neg (by rw [hh]; decide), List.length_append]; rfl), Below.own hbd hbd.size hownd (Nat.le_refl _) hg5⟩
        case measure => simp [intOf]; omega
      · go_wp2_with (fail)
        go_roundw
        case rel => exact ⟨k + 1, by omega, by go_num, own_cast (World.ownsRow.drewN hown nq) (by rw [hstep.out, if_pos hh]) (by rw [hstep.out, if_pos hh]), below_drewN hb nq⟩
        case measure => simp [intOf]; omega
    · obtain rfl : k = F.length := by omega
      rw [List.take_length] at hown
      go_wp2_with (fail)
      go_ret
      exact ⟨_, rfl, own_cast (own_base hown hz2) (by rw [hdef.out]) (by rw [hdef.out]), hw2.trans (hb.mono hz2)⟩
end Go.Proofs.YtohopceknpgcnaaGreatDoor
/-
  A region that draws its order, the third form: an operation may yield a value that hangs on the world ("free"); S tells what is known of it.
  Conditions: the closed check regCkL of the region's own edges.
-/
namespace Go.Proofs.YtohopceknpgcnaaGreatDoor
namespace RegV
open RegP RegL
section
variable {P : Program} {ops : Array Oper} {Q : Exit → Act → World → Prop} {S : (Nat → Value) → (Nat → Bool) → World → Prop}

def sub (σ : Nat → Value) (i : Nat) (u : Value) : Nat → Value := fun j => if j = i then u else σ j
theorem sub_same (σ : Nat → Value) (i : Nat) (u : Value) : sub σ i u i = u := by simp [sub]
theorem sub_ne (σ : Nat → Value) {i j : Nat} (u : Value) (h : j ≠ i) : sub σ i u j = σ j := by simp [sub, h]
def vsOf (σ : Nat → Value) : Nat → List (Option Value) → List Value
  | _, [] => []
  | k, x :: r => x.getD (σ k) :: vsOf σ (k + 1) r
theorem vsOf_length (σ : Nat → Value) : ∀ (k : Nat) (sp : List (Option Value)), (vsOf σ k sp).length = sp.length
  | _, [] => rfl
  | k, _ :: r => by rw [vsOf, List.length_cons, vsOf_length σ (k + 1) r, List.length_cons]
theorem vsOf_get (σ : Nat → Value) : ∀ (k : Nat) (sp : List (Option Value)) (i : Nat), (vsOf σ k sp)[i]? = sp[i]?.map fun x => x.getD (σ (k + i))
  | _, [], _ => by simp [vsOf]
  | k, x :: r, 0 => by simp [vsOf]
  | k, x :: r, i + 1 => by
    rw [vsOf, List.getElem?_cons_succ, vsOf_get σ (k + 1) r i, List.getElem?_cons_succ, show k + 1 + i = k + (i + 1) by omega]

/-- The step of operation i, its value free. -/
def FreeV (P : Program) (ops : Array Oper) (f : Nat) (S : (Nat → Value) → (Nat → Bool) → World → Prop) (i : Nat) (o : Oper) (a : Act) (σ : Nat → Value) : Prop :=
  Region.wanted o (yielded ops a.tmps) = true ∧ ∀ L w, S σ L w → L i = false → (∀ e ∈ ancs ops f i, L e = true) → o.wp P a w (fun a' w' => ∃ u, a' = a.put o.dst u ∧ S (sub σ i u) (upd L i) w') Never
theorem FreeV.wpOp {f i : Nat} {o : Oper} {a a' : Act} {w : World} {L : Nat → Bool} {σ : Nat → Value} {K : Act → World → Prop} (hi : ops[i]? = some o) (hs : ∀ cs b, o.op ≠ .select cs b) (hsz : a.tmps.size = a'.tmps.size) (hl : ∀ t ∈ o.looksAt ops, a.tmps[t]? = a'.tmps[t]?)
    (h : FreeV P ops f S i o a σ) (hS : S σ L w) (hLi : L i = false) (hd : ∀ e ∈ ancs ops f i, L e = true) (hK : ∀ u w', S (sub σ i u) (upd L i) w' → K (a'.put o.dst u) w') : wpOp P ops Q i K a' w := by
  have hw := wanted_congr hl
  unfold Go.wpOp
  simp only [hi]
  obtain ⟨h1, h2⟩ := h
  rw [hw] at h1
  simp only [h1, if_true]
  refine .inl ?_
  have h3 := h2 L w hS hLi hd
  have he : ∀ x ∈ o.op.operands, a.eval x = a'.eval x := fun x hx => by
    cases x with
    | tmp t =>
      have := hl t (List.mem_append_left _ (List.mem_filterMap.2 ⟨.tmp t, by simpa using hx, rfl⟩))
      simp only [Act.eval, Array.getD_eq_getD_getElem?, this]
    | _ => rfl
  unfold Oper.wp at *
  rw [execOp_congr o hs he] at h3
  generalize (execOp a'.eval o).run P w = r at *
  cases r with
  | ok n w' =>
    cases n <;> simp only [Oper.upon] at h3 ⊢
    case value u => obtain ⟨u', h3, h4⟩ := h3; rw [put_inj hsz h3]; exact hK _ _ h4
    case skip => obtain ⟨u', h3, h4⟩ := h3; rw [put_inj hsz h3]; exact hK _ _ h4
    case defer d =>
      exfalso
      obtain ⟨u', h3, _⟩ := h3
      have h4 := congrArg Act.defers h3
      rw [put_defers', put_defers'] at h4
      have := congrArg List.length h4
      simp at this
    case enter f args =>
      refine Calls.mono h3 fun e w'' he => ?_
      cases e with
      | returned u => simp only at he ⊢; obtain ⟨u', he, h4⟩ := he; rw [put_inj hsz he]; exact hK _ _ h4
      | panicked c => exact he.elim
      | outgrown => obtain ⟨_, _, hh⟩ := he; exact hh.elim
    case row row args => exact Rows.mono h3 fun u w'' he => by obtain ⟨u', he, h4⟩ := he; rw [put_inj hsz he]; exact hK _ _ h4
  | halt x w' =>
    cases x <;> simp only [Oper.upon] at h3
    case panic u => exact h3.elim

def StepV (P : Program) (ops : Array Oper) (f : Nat) (S : (Nat → Value) → (Nat → Bool) → World → Prop) (i : Nat) (o : Oper) (a : Act) (σ : Nat → Value) : Option Value → Prop
  | some v => GStepL P ops f (S σ) i o a v
  | none => FreeV P ops f S i o a σ
def PChainV (P : Program) (ops : Array Oper) (f : Nat) (S : (Nat → Value) → (Nat → Bool) → World → Prop) (End : (Nat → Value) → Act → Prop) : Nat → List Oper → ((Nat → Value) → Act) → Prop
  | _, [], a => ∀ σ, End σ (a σ)
  | i, o :: r, a => ∃ x : Option Value, (∀ σ, StepV P ops f S i o (a σ) σ x) ∧ PChainV P ops f S End (i + 1) r (fun σ => (a σ).put o.dst (x.getD (σ i)))
theorem PChainV.vals {f : Nat} {End : (Nat → Value) → Act → Prop} : ∀ (l : List Oper) (k : Nat) (a : (Nat → Value) → Act), PChainV P ops f S End k l a →
    ∃ sp : List (Option Value), sp.length = l.length ∧ (∀ σ, End σ (actAfter l (vsOf σ k sp) (a σ))) ∧ ∀ i o x, l[i]? = some o → sp[i]? = some x → ∀ σ, StepV P ops f S (k + i) o (actAfter (l.take i) ((vsOf σ k sp).take i) (a σ)) σ x
  | [], _, a, h => ⟨[], rfl, h, fun i o v hi => by simp at hi⟩
  | o :: r, k, a, ⟨x, hg, hc⟩ => by
    obtain ⟨sp, hl, he, hs⟩ := PChainV.vals r _ _ hc
    refine ⟨x :: sp, by simp [hl], he, fun i o' v' hi hv => ?_⟩
    cases i with
    | zero => simp at hi hv; subst hi; subst hv; intro σ; simpa [actAfter, vsOf] using hg σ
    | succ i => simp at hi hv; intro σ; have := hs i o' v' hi hv σ; rw [show k + 1 + i = k + (i + 1) from by omega] at this; simpa [actAfter, vsOf] using this

theorem Is.vals {l : List Oper} {vs vs' : List Value} {a0 a : Act} {L : Nat → Bool} (h : Is l vs a0 L a) (hv : ∀ j, L j = true → vs'[j]? = vs[j]?) : Is l vs' a0 L a :=
  ⟨h.defers, h.size, fun i o v t h1 h2 h3 h4 => h.yes i o v t h1 (by rw [← hv i h4]; exact h2) h3 h4, h.no⟩

theorem prefix_anyV {f n : Nat} {a0 : Act} {sp : List (Option Value)} (hn : n ≤ ops.size) (hsl : sp.length = (ops.toList.take n).length)
    (hops : ∀ i o, (ops.toList.take n)[i]? = some o → opCk ops (ops.toList.take n) i o = true) (htw : tailWaitsL ops f n = true) (hd : dstsApart (ops.toList.take n))
    (hst : ∀ i o x, (ops.toList.take n)[i]? = some o → sp[i]? = some x → ∀ σ, StepV P ops f S i o (actAfter ((ops.toList.take n).take i) ((vsOf σ 0 sp).take i) a0) σ x)
    (hend : ∀ σ w, S σ (fun i => decide (i < n)) w → wpAny P .any ops Q (ops.size - n) (lst ops.size n) (actAfter (ops.toList.take n) (vsOf σ 0 sp) a0) w) :
    ∀ (m : Nat) (listed : Array Bool) (a : Act) (w : World) (σ : Nat → Value), unl listed n = m → listed.size = ops.size → (∀ k, n ≤ k → listed.getD k false = false) →
      (∀ i o, ops[i]? = some o → listed.getD i false = true → ∀ e ∈ bindsOn o, listed.getD e false = true) →
      Is (ops.toList.take n) (vsOf σ 0 sp) a0 (fun i => listed.getD i false) a → S σ (fun i => listed.getD i false) w → wpAny P .any ops Q (m + (ops.size - n)) listed a w := by
  have hnl : (ops.toList.take n).length = n := by simp; omega
  intro m
  induction m with
  | zero =>
    intro listed a w σ hm hsz hout _ his hS
    have hlen : (vsOf σ 0 sp).length = (ops.toList.take n).length := by rw [vsOf_length, hsl]
    generalize hvs : vsOf σ 0 sp = vs at *
    have hall := unl_zero hm
    have hL : listed = lst ops.size n := by
      apply Array.ext_getElem?
      intro i
      rw [lst_get]
      by_cases hi : i < ops.size
      · rw [if_pos hi, Array.getElem?_eq_getElem (by omega)]
        congr 1
        by_cases hin : i < n
        · have := hall i hin
          simp [hin]
          simpa [Array.getD_eq_getD_getElem?, Array.getElem?_eq_getElem (show i < listed.size by omega)] using this
        · have := hout i (by omega)
          simp [hin]
          simpa [Array.getD_eq_getD_getElem?, Array.getElem?_eq_getElem (show i < listed.size by omega)] using this
      · rw [if_neg hi, Array.getElem?_eq_none (by omega)]
    have hA : a = actAfter (ops.toList.take n) vs a0 := by
      have h2 := Is.take (a0 := a0) hd hlen n (by omega)
      rw [List.take_of_length_le (by omega : (ops.toList.take n).length ≤ n), List.take_of_length_le (by omega : vs.length ≤ n)] at h2
      have ht : a.tmps = (actAfter (ops.toList.take n) vs a0).tmps := by
        apply Array.ext_getElem?
        intro t
        refine his.same hlen h2 t fun j o hj _ => ?_
        have hlt : j < n := by have := (List.getElem?_eq_some_iff.1 hj).1; omega
        exact ⟨hall j hlt, by simp [hlt]⟩
      have hdf : a.defers = (actAfter (ops.toList.take n) vs a0).defers := his.defers.trans h2.defers.symm
      cases a
      generalize actAfter (ops.toList.take n) vs a0 = b at *
      cases b
      simp_all
    have hLf : (fun i => listed.getD i false) = fun i => decide (i < n) := by
      funext i
      by_cases hin : i < n
      · simp only [hin, decide_true]; exact hall i hin
      · simp only [hin, decide_false]; exact hout i (by omega)
    rw [hLf] at hS
    subst hL
    subst hA
    rw [← hvs]
    simpa using hend σ w hS
  | succ m ih =>
    intro listed a w σ hm hsz hout hcl his hS
    have hlen : (vsOf σ 0 sp).length = (ops.toList.take n).length := by rw [vsOf_length, hsl]
    obtain ⟨i0, hi0, hu0, hb0⟩ := unl_pos (n := n) (listed := listed) (by omega)
    have hget : ∀ i, i < n → ∃ o, (ops.toList.take n)[i]? = some o ∧ ops[i]? = some o := fun i hi => by
      have h1 : i < ops.toList.length := by simp; omega
      refine ⟨ops[i]'(by omega), ?_, Array.getElem?_eq_getElem (by omega)⟩
      rw [List.getElem?_take_of_lt hi]
      simp [Array.getElem?_eq_getElem (show i < ops.size by omega)]
    rw [show m + 1 + (ops.size - n) = (m + (ops.size - n)) + 1 from by omega]
    refine ⟨fun hnil => ?_, fun i hi => ?_⟩
    · exfalso
      obtain ⟨o, ho1, ho2⟩ := hget i0 hi0
      have hck := hops i0 o ho1
      simp only [opCk, Bool.and_eq_true, List.all_eq_true, decide_eq_true_eq] at hck
      have : i0 ∈ Region.ready .any ops listed := ready_iff.2 ⟨by
        have : i0 < listed.size := by omega
        simpa [Array.getD_eq_getD_getElem?, Array.getElem?_eq_getElem this] using hu0, o, ho2, fun e he => hb0 e (hck.1.2 e he)⟩
      rw [hnil] at this
      cases this
    · obtain ⟨hun, o, hoi, hall⟩ := ready_iff.1 hi
      have his' : i < ops.size := (Array.getElem?_eq_some_iff.1 hoi).1
      have hun' : listed.getD i false = false := by
        have : i < listed.size := by omega
        simpa [Array.getD_eq_getD_getElem?, Array.getElem?_eq_getElem this] using hun
      by_cases hin : i < n
      · obtain ⟨o', ho1, ho2⟩ := hget i hin
        rw [hoi] at ho2; cases ho2
        have hck := hops i o ho1
        simp only [opCk, Bool.and_eq_true, List.all_eq_true, decide_eq_true_eq] at hck
        obtain ⟨⟨hsel, _⟩, hdep⟩ := hck
        have hspl : i < sp.length := by omega
        have hspi : sp[i]? = some sp[i] := List.getElem?_eq_getElem hspl
        have hg := hst i o _ ho1 hspi σ
        have htk := Is.take (a0 := a0) hd hlen i (by omega)
        have hupd : (fun j => (listed.setIfInBounds i true).getD j false) = upd (fun j => listed.getD j false) i := by
          funext j
          by_cases hji : j = i
          · subst hji
            rw [upd_same]
            have : j < listed.size := by omega
            simp [this]
          · rw [upd_ne _ hji]; exact getD_set_ne false (fun e => hji e.symm)
        have hlook : ∀ t ∈ o.looksAt ops, (actAfter ((ops.toList.take n).take i) ((vsOf σ 0 sp).take i) a0).tmps[t]? = a.tmps[t]? := fun t ht => by
          refine htk.same hlen his t fun j oj hj hdj => ?_
          have hm2 : (oj, j) ∈ (ops.toList.take n).zipIdx := by
            rw [List.mem_zipIdx_iff_getElem?]; exact hj
          have := hdep (oj, j) hm2
          simp only [hdj, Bool.and_eq_true, Bool.or_eq_true, Bool.not_eq_true', List.contains_eq_mem, decide_eq_true_eq, decide_eq_false_iff_not] at this
          rcases this.1 with h | ⟨h1, h2⟩
          · exact absurd ht h
          · exact ⟨by simp [h2], hall j h1⟩
        have hns : ∀ cs b, o.op ≠ .select cs b := fun cs b e => by simp [notSel, e] at hsel
        have hanc : ∀ e ∈ ancs ops f i, listed.getD e false = true := fun e he => (ancs_ok f i e he).listed (L := fun j => listed.getD j false) hcl (fun o' ho' => by rw [hoi] at ho'; cases ho'; exact hall)
        have hnext : ∀ (σ' : Nat → Value) (v : Value) (w' : World), (∀ j, j ≠ i → σ' j = σ j) → (vsOf σ' 0 sp)[i]? = some v → S σ' (upd (fun j => listed.getD j false) i) w' → wpAny P .any ops Q (m + (ops.size - n)) (listed.setIfInBounds i true) (a.put o.dst v) w' := by
          intro σ' v w' hσ hv hS'
          refine ih _ _ w' σ' ?_ (by simpa using hsz) ?_ ?_ ?_ (by rw [hupd]; exact hS')
          · have := unl_set (n := n) (listed := listed) (i := i) (by omega) hun' hin
            omega
          · intro k hk
            rw [getD_set_ne false (by omega)]
            exact hout k hk
          · intro j oj hj hLj e he
            by_cases hji : j = i
            · subst hji
              rw [hoi] at hj; cases hj
              exact getD_set_true (hall e he)
            · rw [getD_set_ne false (fun e => hji e.symm)] at hLj
              exact getD_set_true (hcl j oj hj hLj e he)
          · have his2 : Is (ops.toList.take n) (vsOf σ' 0 sp) a0 (fun i => listed.getD i false) a := Is.vals his (fun j hj => by
              have hji : j ≠ i := fun e => by subst e; rw [hun'] at hj; cases hj
              rw [vsOf_get, vsOf_get, Nat.zero_add, hσ j hji])
            refine his2.step hd ho1 hv ?_ ?_
            · have : i < listed.size := by omega
              simp [this]
            · intro j _ hji
              exact getD_set_ne false (fun e => hji e.symm)
        cases hspx : sp[i] with
        | some v =>
          rw [hspx] at hg hspi
          exact GStepL.wpOp hoi hns (htk.size.trans his.size.symm) hlook hg hS hun' hanc fun w' hS' => hnext σ v w' (fun _ _ => rfl) (by rw [vsOf_get, hspi]; rfl) hS'
        | none =>
          rw [hspx] at hg hspi
          exact FreeV.wpOp hoi hns (htk.size.trans his.size.symm) hlook hg hS hun' hanc fun u w' hS' => hnext (sub σ i u) u w' (fun j hj => sub_ne σ u hj) (by rw [vsOf_get, hspi, Nat.zero_add]; simp [sub_same]) hS'
      · exfalso
        simp only [tailWaitsL, List.all_eq_true] at htw
        have hm2 : (o, i - n) ∈ (ops.toList.drop n).zipIdx := by
          rw [List.mem_zipIdx_iff_getElem?]
          simp only [List.getElem?_drop]
          rw [show n + (i - n) = i from by omega]
          simpa using hoi
        have := htw _ hm2
        simp only at this
        split at this
        · rename_i h0
          have hin' : i = n := by omega
          subst hin'
          simp only [List.all_eq_true, List.mem_range, List.contains_eq_mem, decide_eq_true_eq] at this
          have h1 := (ancs_ok f i i0 (this i0 hi0)).listed (L := fun j => listed.getD j false) hcl (fun o' ho' => by rw [hoi] at ho'; cases ho'; exact hall)
          rw [hu0] at h1
          cases h1
        · simp only [List.any_eq_true, decide_eq_true_eq] at this
          obtain ⟨e, he, hne⟩ := this
          have h1 := hall e he
          rw [hout e hne] at h1
          cases h1

theorem wp_region_v {id : Nat} {a : Act} {w : World} (f n : Nat) (S : (Nat → Value) → (Nat → Bool) → World → Prop) (hm : P.follows .mixedOrders = true) (hck : regCkL ops f n = true) (hS : ∃ σ, S σ (fun _ => false) w.drew)
    (h : PChainV P ops f S (fun σ a => ∀ w, S σ (fun i => decide (i < n)) w → wpList P ops Q (ops.toList.drop n) a w) 0 (ops.toList.take n) (fun _ => a)) : (Code.region id ops true).wp P Q a w := by
  simp only [regCkL, Bool.and_eq_true, decide_eq_true_eq] at hck
  obtain ⟨⟨⟨hn, hall⟩, htc⟩, htw⟩ := hck
  have hops : ∀ i o, (ops.toList.take n)[i]? = some o → opCk ops (ops.toList.take n) i o = true := fun i o hi => by
    rw [List.all_eq_true] at hall
    exact hall (o, i) (List.mem_zipIdx_iff_getElem?.2 hi)
  have hd : dstsApart (ops.toList.take n) := fun i j oi oj t hi hj hdi hdj => by
    have := hops i oi hi
    simp only [opCk, Bool.and_eq_true, List.all_eq_true] at this
    have h2 := this.2 (oj, j) (List.mem_zipIdx_iff_getElem?.2 hj)
    simp only [hdj, Bool.and_eq_true, Bool.or_eq_true, decide_eq_true_eq] at h2
    rcases h2.2 with e | e
    · exact e.symm
    · simp [hdi] at e
  obtain ⟨σ0, hS⟩ := hS
  obtain ⟨sp, hsl, hend, hst⟩ := PChainV.vals _ _ _ h
  refine wp_region_any hm ?_
  have hs0 : unl (Array.replicate ops.size false) n = n := by
    have : ∀ m, unl (Array.replicate ops.size false) m = m := by
      intro m
      induction m with
      | zero => rfl
      | succ m ih =>
        unfold unl at *
        rw [List.range_succ, List.countP_append, ih]
        by_cases h : m < ops.size <;> simp [h]
    exact this n
  have hfalse : ∀ k, (Array.replicate ops.size false).getD k false = false := fun k => by
    by_cases h : k < ops.size <;> simp [h]
  have hS' : S σ0 (fun i => (Array.replicate ops.size false).getD i false) w.drew := by
    rw [show (fun i => (Array.replicate ops.size false).getD i false) = fun _ => false from funext hfalse]; exact hS
  have := prefix_anyV (Q := Q) (a0 := a) hn hsl hops htw hd (fun i o x h1 h2 σ => by have := hst i o x h1 h2 σ; rwa [Nat.zero_add] at this) (fun σ w' hw' => tail_any htc (ops.size - n) n (by omega) (Nat.le_refl _) _ _ (hend σ w' hw')) n (Array.replicate ops.size false) a w.drew σ0 hs0 (by simp) (fun k _ => hfalse k)
    (fun i o _ h => by rw [hfalse i] at h; cases h) (Is.start fun i _ => hfalse i) hS'
  rw [show n + (ops.size - n) = ops.size from by omega] at this
  exact this

/-- The steps of a chain. -/
theorem pv_nil {End : (Nat → Value) → Act → Prop} {a : (Nat → Value) → Act} {f i : Nat} (h : ∀ σ, End σ (a σ)) : PChainV P ops f S End i [] a := h
theorem pv_step {End : (Nat → Value) → Act → Prop} {a : (Nat → Value) → Act} {o : Oper} {r : List Oper} {v : Value} {f i : Nat} (hw : ∀ σ, Region.wanted o (yielded ops (a σ).tmps) = true)
    (h : ∀ σ L w, S σ L w → L i = false → (∀ e ∈ ancs ops f i, L e = true) → ∀ K : Act → World → Prop, (∀ w', S σ (upd L i) w' → K ((a σ).put o.dst v) w') → o.wp P (a σ) w K Never) (hr : PChainV P ops f S End (i + 1) r (fun σ => (a σ).put o.dst v)) : PChainV P ops f S End i (o :: r) a :=
  ⟨some v, fun σ => .inl ⟨hw σ, fun L w hS h1 h2 => h σ L w hS h1 h2 _ fun _ hS' => ⟨rfl, hS'⟩⟩, hr⟩
theorem pv_free {End : (Nat → Value) → Act → Prop} {a : (Nat → Value) → Act} {o : Oper} {r : List Oper} {f i : Nat} (hw : ∀ σ, Region.wanted o (yielded ops (a σ).tmps) = true)
    (h : ∀ σ L w, S σ L w → L i = false → (∀ e ∈ ancs ops f i, L e = true) → ∀ K : Act → World → Prop, (∀ u w', S (sub σ i u) (upd L i) w' → K ((a σ).put o.dst u) w') → o.wp P (a σ) w K Never) (hr : PChainV P ops f S End (i + 1) r (fun σ => (a σ).put o.dst (σ i))) : PChainV P ops f S End i (o :: r) a :=
  ⟨none, fun σ => ⟨hw σ, fun L w hS h1 h2 => h σ L w hS h1 h2 _ fun u _ hS' => ⟨u, rfl, hS'⟩⟩, hr⟩
theorem pv_skip {End : (Nat → Value) → Act → Prop} {a : (Nat → Value) → Act} {o : Oper} {r : List Oper} {f i : Nat} (hw : ∀ σ, Region.wanted o (yielded ops (a σ).tmps) = false) (hS : ∀ σ L w, S σ L w → L i = false → S σ (upd L i) w)
    (hr : PChainV P ops f S End (i + 1) r (fun σ => (a σ).put o.dst undef)) : PChainV P ops f S End i (o :: r) a := ⟨some undef, fun σ => .inr ⟨hw σ, rfl, hS σ⟩, hr⟩
end
open Go.RowKit in
/-- The free values are slices of known lengths; below the heap's size all is as it was. -/
structure SV (W : World) (fs : List (Nat × Nat)) (σ : Nat → Value) (L : Nat → Bool) (w' : World) : Prop where
  low : Below W.heap.size W w'
  sl : ∀ p ∈ fs, L p.1 = true → ∃ A c, σ p.1 = .slice A p.2 c
section
open Go.RowKit
variable {W w1 w2 : World} {fs : List (Nat × Nat)} {σ : Nat → Value} {L : Nat → Bool} {i n : Nat}
theorem SV.start : SV W fs σ (fun _ => false) W.drew := ⟨(Below.refl _ _).drew, fun _ _ h => by cases h⟩
theorem SV.keep (h : SV W fs σ L w1) (hi : ∀ p ∈ fs, p.1 ≠ i) : SV W fs σ (upd L i) w1 := ⟨h.low, fun p hp hL => h.sl p hp (by rwa [upd_ne L (hi p hp)] at hL)⟩
theorem SV.call (h : SV W fs σ L w1) (hb : Below w1.heap.size w1 w2) : SV W fs σ L w2 := ⟨h.low.trans (hb.mono h.low.size), h.sl⟩
theorem SV.put {A : Option Addr} {c : Nat} (h : SV W fs σ L w1) (hi : ∀ p ∈ fs, p.1 = i → p.2 = n) : SV W fs (sub σ i (.slice A n c)) (upd L i) w1 :=
  ⟨h.low, fun p hp hL => by
    by_cases hpi : p.1 = i
    · rw [hpi, sub_same, hi p hp hpi]; exact ⟨A, c, rfl⟩
    · rw [sub_ne σ _ hpi]; exact h.sl p hp (by rwa [upd_ne L hpi] at hL)⟩
end
end RegV
end Go.Proofs.YtohopceknpgcnaaGreatDoor
/-
  Contracts: the letters on a board, and the order of plays (layers 11 and 12 of the spec package).
  Conditions: a board lies at an address.
-/
namespace Go.Proofs.YtohopceknpgcnaaGreatDoor
open Go.RowKit RegP RegL
set_option maxHeartbeats 400000

def lettersS (b : Bd) : Str := b.cells.filter fun c => !(c == 46)
theorem letters_step (s : Str) (k : Nat) (h : k < s.length) : (s.take (k + 1)).filter (fun c => !(c == 46)) = if s[k] == 46 then (s.take k).filter (fun c => !(c == 46)) else (s.take k).filter (fun c => !(c == 46)) ++ [s[k]] := by
  rw [List.take_succ_eq_append_getElem h, List.filter_append]
  cases hh : (s[k] == 46)
  · rw [if_neg (by decide)]; congr 1; exact List.filter_cons_of_pos (p := fun c : UInt8 => !(c == 46)) (by simp only [hh]; rfl)
  · rw [if_pos rfl, List.filter_cons_of_neg (p := fun c : UInt8 => !(c == 46)) (by simp only [hh]; decide), List.filter_nil, List.append_nil]
theorem l11Letters_any (p : Addr) (b : Bd) (w : World) (hp : BAt w p b) (hl : b.cells.length ≤ 2 ^ 38) :
    Calls Tryz.prog 219 #[.pointer (some p)] w fun e w' => e = .returned (sv (lettersS b)) ∧ Below w.heap.size w w' := by
  have hblt := hp.lt
  have hdef : Hid (lettersS b = b.cells.filter fun c => !(c == 46)) := rfl
  obtain ⟨s, hs⟩ : ∃ s, s = b.cells := ⟨_, rfl⟩
  have h2 : w.cell? { block := p.block, off := p.off + 2 } = some (sv s) := by rw [hs]; exact hp.2.2
  rw [← hs] at hl hdef
  clear hs hp
  go_enter Tryz.func219, Tryz.ntmps219
  go_wp2_with (fail)
  go_loopw [3, 4] (fun o i wr => ∃ k : Nat, k ≤ s.length ∧ i = .int .i64 k ∧ wr.ownsRow w.heap.size 5 1 o ((s.take k).filter fun c => !(c == 46)).length (((s.take k).filter fun c => !(c == 46)).map bv) ∧ Below w.heap.size w wr) (fun _ i _ => s.length - (intOf i).toNat)
  case atStart => exact ⟨0, by omega, rfl, World.ownsRow_lit w #[] 0 (Nat.le_refl _) (by unfold maxLen; omega) rfl, (Below.refl _ _).alloc (Nat.le_refl _) _⟩
  case round =>
    obtain ⟨k, hk, rfl, hown, hb⟩ := hrel
    have hfl := List.length_filter_le (fun c => !(c == 46)) (s.take k)
    rw [List.length_take] at hfl
    have h3 : wr.cell? { block := p.block, off := p.off + 2 } = some (sv s) := (hb.cell (p := { block := p.block, off := p.off + 2 }) hblt).trans h2
    by_cases hlt : k < s.length
    · have hk1 : (k : Int) < (s.length : Int) := by omega
      have hk0 : (0 : Int) ≤ (k : Int) := by omega
      have hst := Lib.hid (letters_step s k hlt)
      have hq : ((s[k].toNat : Int) == 46) = (s[k] == 46) := u8_eq _ 46
      cases hx : (s[k] == 46)
      all_goals rw [hx] at hq
      · go_wp2_with (at_builtin; refine wpList_app byteT rfl (.tmp 22) (.tmp 29) rfl _ _ _ rfl w.heap.size hown [bv s[k]] rfl (by simp [Value.oneCell']) rfl (by omega) (by omega) hb.size ?_; intro v1 w1 hown1 hg1 _)
        go_roundw
        case rel => exact ⟨k + 1, by omega, by go_num, own_cast hown1 (by rw [hst.out, if_neg (by rw [hx]; decide), List.map_append]; rfl) (by rw [hst.out, if_neg (by rw [hx]; decide), List.length_append]; rfl), Below.own hb hb.size hown (Nat.le_refl _) hg1⟩
        case measure => simp [intOf]; omega
      · go_wp2_with (fail)
        go_roundw
        case rel => exact ⟨k + 1, by omega, by go_num, own_cast hown (by rw [hst.out, if_pos hx]) (by rw [hst.out, if_pos hx]), hb⟩
        case measure => simp [intOf]; omega
    · obtain rfl : k = s.length := by omega
      rw [List.take_length] at hown
      have hcv := run_string_own (P := Tryz.prog) wr 111 9 5 Tryz.underlying111 Tryz.underlying5 Tryz.underlying9 (l := lettersS b) (own_cast hown (by rw [hdef.out]) (by rw [hdef.out]))
      go_wp2_with (fail)
      go_ret
      exact ⟨rfl, hb⟩

def sgn (a b : Int) : Int := if a < b then -1 else if b < a then 1 else 0
theorem l12Sign_any (a b : Int) (w : World) :
    Calls Tryz.prog 203 #[.int .i64 a, .int .i64 b] w fun e w' => e = .returned (.int .i64 (sgn a b)) ∧ w = w' := by
  by_cases h1 : a < b
  · go_enter Tryz.func203, Tryz.ntmps203
    go_wp2_with (fail)
    go_ret
    exact ⟨ret_int (by rw [sgn, if_pos (by omega)]), rfl⟩
  · have h1' : decide (a < b) = false := decide_eq_false h1
    by_cases h2 : b < a
    · go_enter Tryz.func203, Tryz.ntmps203
      go_wp2_with (fail)
      go_ret
      exact ⟨ret_int (by rw [sgn, if_neg (by omega), if_pos (by omega)]), rfl⟩
    · have h2' : decide (b < a) = false := decide_eq_false h2
      go_enter Tryz.func203, Tryz.ntmps203
      go_wp2_with (fail)
      go_ret
      exact ⟨ret_int (by rw [sgn, if_neg (by omega), if_neg (by omega)]), rfl⟩
def cmpPl (a b : Pl) : Int :=
  if a.down == b.down then
    if a.row = b.row then
      if a.col = b.col then
        if sLt a.word b.word then -1 else if sLt b.word a.word then 1 else 0
      else sgn a.col b.col
    else sgn a.row b.row
  else if b.down then -1 else 1
theorem l12Compare_any (a b : Pl) (w : World) :
    Calls Tryz.prog 163 #[a.v, b.v] w fun e w' => e = .returned (.int .i64 (cmpPl a b)) ∧ Below w.heap.size w w' := by
  have hdef : Hid (cmpPl a b = _) := Lib.hid (by rw [cmpPl])
  obtain ⟨r, c, dn, s⟩ := a
  obtain ⟨r', c', dn', s'⟩ := b
  simp only at hdef
  unfold Pl.v
  have hB : Below w.heap.size w ((w.alloc (.cells #[.int .i64 r, .int .i64 c, .bool dn, sv s] 69)).alloc (.cells #[.int .i64 r', .int .i64 c', .bool dn', sv s'] 69)) := ((Below.refl _ _).alloc (Nat.le_refl _) _).alloc (by simp) _
  by_cases hd : dn = dn'
  · subst hd
    by_cases hr : r = r'
    · subst hr
      by_cases hc : c = c'
      · subst hc
        cases h1 : sLt s s'
        · have h1' : Op.bytesLess s s' = false := h1
          cases h2 : sLt s' s
          all_goals
            have hse := sLe_eq s s'
            rw [h1', Bool.false_or, show Op.bytesLess s' s = _ from h2] at hse
            simp only [Bool.not_false, Bool.not_true] at hse
            go_enter Tryz.func163, Tryz.ntmps163
            go_wp2_with (fail)
            go_ret
            exact ⟨ret_int (by rw [hdef.out]; simp [h1, h2]), hB⟩
        · have h1' : Op.bytesLess s s' = true := h1
          go_enter Tryz.func163, Tryz.ntmps163
          go_wp2_with (fail)
          go_ret
          exact ⟨ret_int (by rw [hdef.out]; simp [h1]), hB⟩
      · have hc' : (c == c') = false := by simp [hc]
        go_enter Tryz.func163, Tryz.ntmps163
        go_wp2_with (go_at_call 203; refine (l12Sign_any _ _ _).mono ?_; rintro e w' ⟨rfl, rfl⟩)
        go_ret
        exact ⟨ret_int (by rw [hdef.out]; simp [hc]), hB⟩
    · have hr' : (r == r') = false := by simp [hr]
      go_enter Tryz.func163, Tryz.ntmps163
      go_wp2_with (go_at_call 203; refine (l12Sign_any _ _ _).mono ?_; rintro e w' ⟨rfl, rfl⟩)
      go_ret
      exact ⟨ret_int (by rw [hdef.out]; simp [hr]), hB⟩
  · cases dn <;> cases dn'
    · exact absurd rfl hd
    · go_enter Tryz.func163, Tryz.ntmps163
      go_wp2_with (fail)
      go_ret
      exact ⟨ret_int (by rw [hdef.out]; simp), hB⟩
    · go_enter Tryz.func163, Tryz.ntmps163
      go_wp2_with (fail)
      go_ret
      exact ⟨ret_int (by rw [hdef.out]; simp), hB⟩
    · exact absurd rfl hd
end Go.Proofs.YtohopceknpgcnaaGreatDoor
