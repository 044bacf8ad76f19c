/-
  What the start world holds, out of its row's list; What the start world holds, out of its row's list; what games and plays come in; The laws package: what a law hands on: rows, tile sets, setups, games; Games of the spec package: clocks, changes, ends; Valid tile sets and setups, of the spec package; Valid games, of the spec package.
  Conditions: as each part below says.
-/
import Derived.Test.YtdojdfminchlaaaGreatDoorC01
import Derived.Test.YtdojdfminchlaaaGreatDoorC17
import Derived.Lib.LaidCase
import Derived.PinnedBridge
import Derived.ProofKit
import Derived.LaidMore
import Derived.Shelf.Vars
import Derived.ShapedOpen
import Derived.Test.YtdojdfminchlaaaGreatDoorRows
import Derived.Test.YtdojdfminchlaaaGreatDoorC10
import Derived.Test.YtdojdfminchlaaaGreatDoorC16
import Derived.Lay
import Derived.SizedLaws
import Derived.ChangeSlices
set_option linter.unusedSimpArgs false
set_option linter.unusedVariables false
/-
  What the start world holds, out of its row's list.
  Conditions: none.
-/
namespace Go.Proofs.YtdojdfminchlaaaGreatDoor
open Go.RowKit Go.Shelf
set_option maxRecDepth 100000
namespace Ax
theorem max_gl {W : World} (h : W.ShapedOpen Tryz.prog) : ∃ m : Int, W.cell? ⟨1, 0, none⟩ = some (.int .i64 m) :=
  cell_of_shapedOpen_int (g := 1) (t := 3) (zero := #[.int .i64 0]) (k := .i64) h (of_decide_eq_true (by kernel_rfl)) (by kernel_rfl) rfl (by kernel_rfl) (by kernel_rfl) Tryz.underlying3
theorem gl_of {W : World} (hsh : W.ShapedOpen Tryz.prog) {l : List (String × DataW Unit)} (h : laidMet Tryz.prog l W) (h1 : ("unicode.CaseRanges", Pinned.caseRanges) ∈ l) (h2 : ("unicode/utf8.first", Pinned.utf8First) ∈ l) (h3 : ("unicode/utf8.acceptRanges", Lib.acceptData) ∈ l) : Gl W := by
  refine ⟨max_gl hsh, ?_, ?_⟩
  · exact caseVar_of_reads (ρ := Tryz.lays159_ren) { Tryz.lays159 with } (by kernel_rfl) ⟨by kernel_rfl, by kernel_rfl, by kernel_rfl, by kernel_rfl, by kernel_rfl, by kernel_rfl⟩ (Pinned.caseRanges_eq ▸ Lib.laidMet.reads h h1)
  · exact utf8Tabs_of_reads (ρ := Tryz.lays159_ren) { Tryz.lays159 with } ⟨by kernel_rfl, by kernel_rfl, by kernel_rfl, by kernel_rfl, by kernel_rfl, by kernel_rfl, by kernel_rfl⟩ (Pinned.utf8First_eq ▸ Lib.laidMet.reads h h2) (Lib.laidMet.reads h h3)
end Ax
end Go.Proofs.YtdojdfminchlaaaGreatDoor
/-
  What the start world holds, out of its row's list; what games and plays come in.
  Conditions: none.
-/
namespace Go.Proofs.YtdojdfminchlaaaGreatDoor
open Go.ChangeShapes Go.WideShapes Go.ChangeAt Go.RowKit Go.Joins
set_option maxRecDepth 100000
/-- The row's wrap, the world's shape and the listed variables handed on. -/
theorem change_shaped_and {H : Type} {enc : TypeId × Value → H} {a : Assume} {C : Checked} {os : Os} {f : FuncId} {fn : Func} {s : ChangeSpec} {conds : List PathCond} {apart fresh handsOn again : Bool} {X : World → Array Value → Prop}
    (hX : ∀ (w w' : World) (args : Array Value), w.heap = w'.heap → X w args → X w' args)
    (own : ownKnob C.prog.godebug = none) (started : os.Started) (noInit : C.prog.inits.idxOf? f = none) (hfn : C.prog.funcs[f]? = some fn)
    (witness : ∃ (w : World) (tape : Tape) (i : Input), w.os = os ∧ (w.forCall tape i).Shaped C.prog ∧ i.vars = [] ∧ Input.okWide C.prog (w.forCall tape i) .any w.heap.size f i ∧
      ((s.pre enc C.prog fn conds apart (w.forCall tape i).memory i.args ∧ X (w.forCall tape i).memory i.args) ∧ sizedMet enc C.prog fn (OpenSpec.ofChange s) apart (w.forCall tape i).memory i.args) ∧ a.holds C.prog (lone (Frame.enter C.prog f i.args .normal) [] (w.forCall tape i)))
    (contract : ∀ (W : World) (base : Nat) (args : Array Value) (ds gs : List (DataW H)) (before : List MemPlace),
      (∀ (j : Nat) t v, fn.params[j]? = some t → args[j]? = some v → Value.okWide C.prog W .any base t v) →
      DataW.Whole enc C.prog fn.params.toList s.vars apart W args.toList ds gs before →
      W.ShapedOpen C.prog → X W args →
      Calls C.prog f args W fun e W' => ∃ v, e = .returned v ∧ s.post enc C.prog fn apart fresh handsOn again W args v W') :
    ReturnsInHanded a C os f .any (fun w args => (s.pre enc C.prog fn conds apart w args ∧ X w args) ∧ sizedMet enc C.prog fn (OpenSpec.ofChange s) apart w args) (s.post enc C.prog fn apart fresh handsOn again) := by
  refine returnsInHanded_of_calls own started noInit witness ?_
  intro w tape i _ hsh _ hok hpre _
  obtain ⟨_, _, _, fn', hfn', _, _, _, _, hval⟩ := hok
  have e : fn' = fn := Option.some.inj (hfn'.symm.trans hfn)
  subst e
  obtain ⟨⟨⟨ds, gs, before, hw, _⟩, hx⟩, _⟩ := hpre
  have hw' := DataW.Whole.of_heap (w' := w.forCall tape i) (by rfl) hw
  refine (contract (w.forCall tape i) w.heap.size i.args ds gs before hval hw' hsh (hX _ _ _ (by rfl) hx)).mono fun e W' ⟨v, he, hp⟩ => ?_
  subst he
  exact ChangeSpec.post_blind hp
theorem ownM : ownKnob Tryz.prog.godebug = none := by kernel_rfl
theorem laidOutM : laidOutB Tryz.prog = true := by kernel_rfl
namespace Ax
/-- A game's cells. -/
def shGm : List AtTy := [.s, .r [.i .i64], .r [.i .i64], .i .i64, .r [.s], .i .i64, .s, .s, .i .i64, .i .i64, .i .i64, .s, .s, .s, .r [.s], .r [.i .i64], .r [.i .i64], .i .i64, .i .i64, .i .i64, .i .i64, .i .i64, .i .i64, .b, .s, .s, .s, .i .i64, .i .i64, .b]
theorem flat_gm : flatT tyT 6 37 = some shGm := by kernel_rfl
theorem szw {x : List (List UInt8)} (h : SzA (.r [.s]) x) : LxZ x := by
  unfold SzA at h
  refine ⟨h.1, fun y hy => ?_⟩
  have := h.2 y hy
  unfold SzE SzEs SzA at this
  exact this
theorem szn {x : List Int} (h : SzA (.r [.i .i64]) x) : (x.length : Int) ≤ 9223372036854775807 := by
  unfold SzA at h
  exact h.1
theorem szs {x : List UInt8} (h : SzA .s x) : (x.length : Int) ≤ 9223372036854775807 := by
  unfold SzA at h
  exact h
theorem vok_gm {w : World} {fz : Nat → Prop} {l : List PV} {cs : List Value} (h : VOk w fz shGm l cs) : ∃ g : Gm, l = gmR g ∧ GmZ g := by
  obtain ⟨a0, _, _, _, rfl, -, z0, -, a1, _, _, _, rfl, -, z1, -, a2, _, _, _, rfl, -, z2, -, a3, _, _, _, rfl, -, -, -, a4, _, _, _, rfl, -, z4, -, a5, _, _, _, rfl, -, -, -, a6, _, _, _, rfl, -, z6, -, a7, _, _, _, rfl, -, z7, -, a8, _, _, _, rfl, -, -, -, a9, _, _, _, rfl, -, -, -, h⟩ := h
  obtain ⟨b0, _, _, _, rfl, -, -, -, b1, _, _, _, rfl, -, y1, -, b2, _, _, _, rfl, -, y2, -, b3, _, _, _, rfl, -, y3, -, b4, _, _, _, rfl, -, y4, -, b5, _, _, _, rfl, -, y5, -, b6, _, _, _, rfl, -, y6, -, b7, _, _, _, rfl, -, -, -, b8, _, _, _, rfl, -, -, -, b9, _, _, _, rfl, -, -, -, h⟩ := h
  obtain ⟨c0, _, _, _, rfl, -, -, -, c1, _, _, _, rfl, -, -, -, c2, _, _, _, rfl, -, -, -, c3, _, _, _, rfl, -, -, -, c4, _, _, _, rfl, -, x4, -, c5, _, _, _, rfl, -, x5, -, c6, _, _, _, rfl, -, x6, -, c7, _, _, _, rfl, -, -, -, c8, _, _, _, rfl, -, -, -, c9, _, _, _, rfl, -, -, -, rfl, -⟩ := h
  exact ⟨⟨⟨a0, a1, a2, a3⟩, a4, ⟨a5, a6, a7⟩, a8, a9, ⟨b0, b1, b2⟩, b3, b4, b5, b6, b7, b8, ⟨b9, c0, ⟨c1, c2, c3, c4⟩, c5, c6, c7, c8⟩, c9⟩, rfl, ⟨⟨⟨szs z0, szn z1, szn z2⟩, szw z4, ⟨szs z6, szs z7⟩⟩, ⟨szs y1, szs y2⟩, szs y3, szw y4, szn y5, szn y6, ⟨szs x4, szs x5, szs x6⟩⟩⟩
/-- A world in which a law begins. -/
def e0 (W : World) : Env := ⟨fun _ => none, fun _ => 0, fun _ => 0, fun b => b < W.heap.size, fun _ => False, fun _ => False⟩
theorem e0_ok {W : World} (h : Gl W) : FzW W (e0 W).fz := ⟨fun _ h => h, W, h, fun _ h => h, Below.refl _ _⟩
/-- A law that returns true. -/
theorem law_true {f : FuncId} {S : FSpec} (h : FOk Tryz.prog f S) {args : List PV} {pre : Prop} (hs : S args = some ⟨[pre], .bt, []⟩) (hp : pre) {W : World} (hg : Gl W) {vals : Array Value} (hl : Rs W (e0 W) args vals.toList) :
    Calls Tryz.prog f vals W fun e W' => e = .returned (.bool true) ∧ Below W.heap.size W W' := by
  refine (h.run args _ hs (fun p hm => by rw [List.mem_singleton.1 hm]; exact hp) W (e0 W) vals (e0_ok hg) hl).mono ?_
  rintro en w' ⟨u, e', rfl, hP⟩
  have hv := hP.val
  unfold R at hv
  subst hv
  exact ⟨rfl, ⟨hP.chg.os, hP.chg.tape, hP.chg.output, hP.chg.size, fun b hb => hP.chg.block b hb fun ⟨k, hk, _⟩ => hk.elim⟩⟩
theorem Rsl_one {W : World} {e : Env} {p : PV} {u : Value} (h : R W e p u) : Rs W e [p] [u] := by
  unfold Rs
  exact ⟨u, [], rfl, h, by unfold Rs; rfl⟩
theorem Rsl_cons {W : World} {e : Env} {p : PV} {u : Value} {l : List PV} {v : List Value} (h : R W e p u) (h2 : Rs W e l v) : Rs W e (p :: l) (u :: v) := by
  unfold Rs
  exact ⟨u, v, rfl, h, h2⟩
end Ax
end Go.Proofs.YtdojdfminchlaaaGreatDoor
/-
  The laws package: what a law hands on: rows, tile sets, setups, games.
  Conditions: none.
-/
namespace Go.Proofs.YtdojdfminchlaaaGreatDoor
namespace Ax
set_option maxRecDepth 100000
set_option maxHeartbeats 2000000
/-- Rows of common length. -/
structure TsN (t : TS) : Prop where
  v : (t.values.length : Int) ≤ 1073741824
  c : (t.counts.length : Int) ≤ 1073741824
structure SuN (u : Su) : Prop where
  ts : TsN u.ts
  l : (u.lex.length : Int) ≤ 1073741824
structure GmN (g : Gm) : Prop where
  su : SuN (gSu g)
  r : (g.racks.length : Int) ≤ 1073741824
  s : (g.scores.length : Int) ≤ 1073741824
  k : (g.clocks.length : Int) ≤ 1073741824
section
variable {α : Type} {l L : List α} {k : Int} {d : α}
theorem cp_set (h0 : 0 ≤ k) (h1 : k < l.length) (h2 : L.length = l.length) (h3 : L.take k.toNat = l.take k.toNat) : (L.set k.toNat (l.getD k.toNat d)).take (k + 1).toNat = l.take (k + 1).toNat := by
  have h4 : k.toNat < l.length := by omega
  rw [show (k + 1).toNat = k.toNat + 1 from by omega, List.take_add_one, List.take_add_one, List.take_set_of_le (Nat.le_refl _), h3, List.getElem?_set_self (by omega), List.getD_eq_getElem?_getD, List.getElem?_eq_getElem h4]
  rfl
theorem cp_all (h1 : (l.length : Int) ≤ k) (h2 : L.length = l.length) (h3 : L.take k.toNat = l.take k.toNat) : L = l := by
  rw [← List.take_of_length_le (l := L) (i := k.toNat) (by omega), h3, List.take_of_length_le (by omega)]
end
def sp_l_toInt64S (p : Pr) : FSpec := fsp (a1 aN) (fun l => p.leP (p.len l) 1073741824) (fun l => .osl 0) (fun l => [(0, .own [.i .i64] l 2)])
theorem ok_l_toInt64S : FOk Tryz.prog 42 (sp_l_toInt64S std) := by
  refine FOk.go (c := cx std [] [] 0) (cx_ok .nil .nil) mixed Tryz.func42 rfl rfl rfl (by kernel_rfl) ?_
  rintro l hp
  refine ⟨rfl, ?_⟩
  obtain ⟨H, hH⟩ : ∃ H : Hd (Int × List Int), H = ⟨fun (k, L) => 0 ≤ k ∧ k ≤ l.length ∧ L.length = l.length ∧ L.take k.toNat = l.take k.toNat, fun (k, L) => (l.length - k).toNat, (· < ·)⟩ := ⟨_, rfl⟩
  have hl : ∀ m n, H.lt m n → m < n := by subst hH; exact fun _ _ h => h
  generalize hP : std = p
  cbv
  repeat' first
    | (refine fun (_ : Unit) => ?_; cbv)
    | (refine Or.inr ⟨8, [], [.s 4 (.i .i64), .o 0 [.i .i64]], [], [], H, rfl, hl, ?_, fun ((k, L) : Int × List Int) hk => ?_⟩ <;> cbv)
    | (refine And.intro (fun h => ?_) (fun h => ?_) <;> cbv)
    | (refine And.intro ?_ ?_)
  all_goals subst hP hH
  all_goals clear hl
  all_goals try dsimp only at hk
  all_goals try dsimp only
  all_goals try first
    | exact True.intro
    | with_reducible assumption
    | with_reducible exact byte_in
    | with_reducible exact hp.1
    | with_reducible exact hp.2
    | with_reducible exact hp.2.1
    | with_reducible exact hp.2.2
    | (simp [std] at * <;> lia)
    | rfl
  all_goals obtain ⟨q0, q1, q2, q3⟩ := hk
  · have hlt : k < (l.length : Int) := lt_of h
    exact ⟨by show 0 ≤ k + 1; omega, by show k + 1 ≤ (l.length : Int); omega, by show (L.set k.toNat _).length = l.length; rw [List.length_set]; exact q2, cp_set q0 hlt q2 q3⟩
  · rw [cp_all (ge_of h) q2 q3]
def sp_l_toStringS (p : Pr) : FSpec := fsp (a1 aW) (fun l => p.leP (p.len l) 1073741824) (fun l => .osl 0) (fun l => [(0, .own [.s] l 9)])
theorem ok_l_toStringS : FOk Tryz.prog 41 (sp_l_toStringS std) := by
  refine FOk.go (c := cx std [] [] 0) (cx_ok .nil .nil) mixed Tryz.func41 rfl rfl rfl (by kernel_rfl) ?_
  rintro l hp
  refine ⟨rfl, ?_⟩
  obtain ⟨H, hH⟩ : ∃ H : Hd (Int × List (List UInt8)), H = ⟨fun (k, L) => 0 ≤ k ∧ k ≤ l.length ∧ L.length = l.length ∧ L.take k.toNat = l.take k.toNat, fun (k, L) => (l.length - k).toNat, (· < ·)⟩ := ⟨_, rfl⟩
  have hl : ∀ m n, H.lt m n → m < n := by subst hH; exact fun _ _ h => h
  generalize hP : std = p
  cbv
  repeat' first
    | (refine fun (_ : Unit) => ?_; cbv)
    | (refine Or.inr ⟨8, [], [.s 4 (.i .i64), .o 0 [.s]], [], [], H, rfl, hl, ?_, fun ((k, L) : Int × List (List UInt8)) hk => ?_⟩ <;> cbv)
    | (refine And.intro (fun h => ?_) (fun h => ?_) <;> cbv)
    | (refine And.intro ?_ ?_)
  all_goals subst hP hH
  all_goals clear hl
  all_goals try dsimp only at hk
  all_goals try dsimp only
  all_goals try first
    | exact True.intro
    | with_reducible assumption
    | with_reducible exact byte_in
    | with_reducible exact hp.1
    | with_reducible exact hp.2
    | with_reducible exact hp.2.1
    | with_reducible exact hp.2.2
    | (simp [std] at * <;> lia)
    | rfl
  all_goals obtain ⟨q0, q1, q2, q3⟩ := hk
  · have hlt : k < (l.length : Int) := lt_of h
    exact ⟨by show 0 ≤ k + 1; omega, by show k + 1 ≤ (l.length : Int); omega, by show (L.set k.toNat _).length = l.length; rw [List.length_set]; exact q2, cp_set q0 hlt q2 q3⟩
  · rw [cp_all (ge_of h) q2 q3]
def sp_l_toTileSet (p : Pr) : FSpec := fsp (a1 (aA aTs)) (fun t => TsN t) (fun t => .agg (tsK t (.osl 0) (.osl 1))) (fun t => [(0, .own [.i .i64] t.values 2), (1, .own [.i .i64] t.counts 2)])
theorem ok_l_toTileSet : FOk Tryz.prog 91 (sp_l_toTileSet std) := by
  refine FOk.go (c := cx std [(42, sp_l_toInt64S std)] [] 0) (cx_ok (.cons ok_l_toInt64S .nil) .nil) mixed Tryz.func91 rfl rfl rfl (by kernel_rfl) ?_
  rintro t hp
  refine ⟨rfl, ?_⟩
  unfold sp_l_toInt64S
  generalize hP : std = p
  cbv
  repeat' first
    | (refine fun (_ : Unit) => ?_; cbv)
    | (refine And.intro (fun h => ?_) (fun h => ?_) <;> cbv)
    | (refine And.intro ?_ ?_)
    | (refine Or.inl (fun (_ : Unit) => ?_); cbv)
  all_goals subst hP
  all_goals try first
    | exact True.intro
    | with_reducible assumption
    | with_reducible exact byte_in
    | with_reducible exact hp.1
    | with_reducible exact hp.2
    | with_reducible exact hp.2.1
    | with_reducible exact hp.2.2
    | (simp [std] at * <;> lia)
    | rfl
  · exact hp.v
  · exact hp.c
def sp_l_toLexicon (p : Pr) : FSpec := fsp (a1 (aA aLex)) (fun ws => p.leP (p.len ws) 1073741824) (fun ws => .agg [.osl 0]) (fun ws => [(0, .own [.s] ws 9)])
theorem ok_l_toLexicon : FOk Tryz.prog 92 (sp_l_toLexicon std) := by
  refine FOk.go (c := cx std [(41, sp_l_toStringS std)] [] 0) (cx_ok (.cons ok_l_toStringS .nil) .nil) mixed Tryz.func92 rfl rfl rfl (by kernel_rfl) ?_
  rintro ws hp
  refine ⟨rfl, ?_⟩
  unfold sp_l_toStringS
  generalize hP : std = p
  cbv
  repeat' first
    | (refine fun (_ : Unit) => ?_; cbv)
    | (refine And.intro (fun h => ?_) (fun h => ?_) <;> cbv)
    | (refine And.intro ?_ ?_)
    | (refine Or.inl (fun (_ : Unit) => ?_); cbv)
  all_goals subst hP
  all_goals try first
    | exact True.intro
    | with_reducible assumption
    | with_reducible exact byte_in
    | with_reducible exact hp.1
    | with_reducible exact hp.2
    | with_reducible exact hp.2.1
    | with_reducible exact hp.2.2
    | (simp [std] at * <;> lia)
    | rfl
def sp_l_toBoard (p : Pr) : FSpec := fsp (a1 (aA aBd)) (fun b => True) (fun b => .agg (bdK b))
theorem ok_l_toBoard : FOk Tryz.prog 40 (sp_l_toBoard std) := by
  refine FOk.go (c := cx std [] [] 0) (cx_ok .nil .nil) mixed Tryz.func40 rfl rfl rfl (by kernel_rfl) ?_
  rintro b hp
  refine ⟨rfl, ?_⟩
  generalize hP : std = p
  cbv
  repeat' first
    | (refine fun (_ : Unit) => ?_; cbv)
    | (refine And.intro (fun h => ?_) (fun h => ?_) <;> cbv)
    | (refine And.intro ?_ ?_)
    | (refine Or.inl (fun (_ : Unit) => ?_); cbv)
  all_goals subst hP
  all_goals try first
    | exact True.intro
    | with_reducible assumption
    | with_reducible exact byte_in
    | with_reducible exact hp.1
    | with_reducible exact hp.2
    | with_reducible exact hp.2.1
    | with_reducible exact hp.2.2
    | (simp [std] at * <;> lia)
    | rfl
def sp_l_toPlay (p : Pr) : FSpec := fsp (a1 (aA aPl)) (fun q => True) (fun q => .agg (plK q))
theorem ok_l_toPlay : FOk Tryz.prog 9 (sp_l_toPlay std) := by
  refine FOk.go (c := cx std [] [] 0) (cx_ok .nil .nil) mixed Tryz.func9 rfl rfl rfl (by kernel_rfl) ?_
  rintro q hp
  refine ⟨rfl, ?_⟩
  generalize hP : std = p
  cbv
  repeat' first
    | (refine fun (_ : Unit) => ?_; cbv)
    | (refine And.intro (fun h => ?_) (fun h => ?_) <;> cbv)
    | (refine And.intro ?_ ?_)
    | (refine Or.inl (fun (_ : Unit) => ?_); cbv)
  all_goals subst hP
  all_goals try first
    | exact True.intro
    | with_reducible assumption
    | with_reducible exact byte_in
    | with_reducible exact hp.1
    | with_reducible exact hp.2
    | with_reducible exact hp.2.1
    | with_reducible exact hp.2.2
    | (simp [std] at * <;> lia)
    | rfl
def sp_l_toLast (p : Pr) : FSpec := fsp (a1 (aA aLa)) (fun x => True) (fun x => .agg (laK x))
theorem ok_l_toLast : FOk Tryz.prog 43 (sp_l_toLast std) := by
  refine FOk.go (c := cx std [(9, sp_l_toPlay std)] [] 0) (cx_ok (.cons ok_l_toPlay .nil) .nil) mixed Tryz.func43 rfl rfl rfl (by kernel_rfl) ?_
  rintro x hp
  refine ⟨rfl, ?_⟩
  unfold sp_l_toPlay
  generalize hP : std = p
  cbv
  repeat' first
    | (refine fun (_ : Unit) => ?_; cbv)
    | (refine And.intro (fun h => ?_) (fun h => ?_) <;> cbv)
    | (refine And.intro ?_ ?_)
    | (refine Or.inl (fun (_ : Unit) => ?_); cbv)
  all_goals subst hP
  all_goals try first
    | exact True.intro
    | with_reducible assumption
    | with_reducible exact byte_in
    | with_reducible exact hp.1
    | with_reducible exact hp.2
    | with_reducible exact hp.2.1
    | with_reducible exact hp.2.2
    | (simp [std] at * <;> lia)
    | rfl
def sp_l_toSetup (p : Pr) : FSpec := fsp (a1 (aA aSu)) (fun u => SuN u) (fun u => .agg (suK u (.osl 0) (.osl 1) (.osl 2))) (fun u => [(0, .own [.i .i64] u.ts.values 2), (1, .own [.i .i64] u.ts.counts 2), (2, .own [.s] u.lex 9)])
theorem ok_l_toSetup : FOk Tryz.prog 39 (sp_l_toSetup std) := by
  refine FOk.go (c := cx std [(91, sp_l_toTileSet std), (92, sp_l_toLexicon std), (40, sp_l_toBoard std)] [] 0) (cx_ok (.cons ok_l_toTileSet (.cons ok_l_toLexicon (.cons ok_l_toBoard .nil))) .nil) mixed Tryz.func39 rfl rfl rfl (by kernel_rfl) ?_
  rintro u hp
  refine ⟨rfl, ?_⟩
  unfold sp_l_toTileSet sp_l_toLexicon sp_l_toBoard
  generalize hP : std = p
  cbv
  repeat' first
    | (refine fun (_ : Unit) => ?_; cbv)
    | (refine And.intro (fun h => ?_) (fun h => ?_) <;> cbv)
    | (refine And.intro ?_ ?_)
    | (refine Or.inl (fun (_ : Unit) => ?_); cbv)
  all_goals subst hP
  all_goals try first
    | exact True.intro
    | with_reducible assumption
    | with_reducible exact byte_in
    | with_reducible exact hp.1
    | with_reducible exact hp.2
    | with_reducible exact hp.2.1
    | with_reducible exact hp.2.2
    | (simp [std] at * <;> lia)
    | rfl
  · exact hp.l
def sp_l_toGame (p : Pr) : FSpec := fsp (a1 (aA aGm)) (fun g => GmN g) (fun g => .agg (gmO6 g)) (fun g => gmH6 g)
theorem ok_l_toGame : FOk Tryz.prog 8 (sp_l_toGame std) := by
  refine FOk.go (c := cx std [(39, sp_l_toSetup std), (40, sp_l_toBoard std), (41, sp_l_toStringS std), (42, sp_l_toInt64S std), (43, sp_l_toLast std)] [] 0) (cx_ok (.cons ok_l_toSetup (.cons ok_l_toBoard (.cons ok_l_toStringS (.cons ok_l_toInt64S (.cons ok_l_toLast .nil))))) .nil) mixed Tryz.func8 rfl rfl rfl (by kernel_rfl) ?_
  rintro g hp
  refine ⟨rfl, ?_⟩
  unfold sp_l_toSetup sp_l_toBoard sp_l_toStringS sp_l_toInt64S sp_l_toLast
  generalize hP : std = p
  cbv
  repeat' first
    | (refine fun (_ : Unit) => ?_; cbv)
    | (refine And.intro (fun h => ?_) (fun h => ?_) <;> cbv)
    | (refine And.intro ?_ ?_)
    | (refine Or.inl (fun (_ : Unit) => ?_); cbv)
  all_goals subst hP
  all_goals try first
    | exact True.intro
    | with_reducible assumption
    | with_reducible exact byte_in
    | with_reducible exact hp.1
    | with_reducible exact hp.2
    | with_reducible exact hp.2.1
    | with_reducible exact hp.2.2
    | (simp [std] at * <;> lia)
    | rfl
  · exact hp.su
  · exact hp.r
  · exact hp.s
  · exact hp.k
end Ax
end Go.Proofs.YtdojdfminchlaaaGreatDoor
/-
  Games of the spec package: clocks, changes, ends.
  Conditions: none.
-/
namespace Go.Proofs.YtdojdfminchlaaaGreatDoor
namespace Ax
set_option maxRecDepth 100000
set_option maxHeartbeats 2000000
def ckL (g : Gm) (n : Int) : List Int := g.clocks.set g.player.toNat (g.clk g.player - n)
def clockG (g : Gm) (n : Int) : Gm := { g with clocks := ckL g n }
/-- A game whose clocks are a new row, number 7; whose scores are. -/
def gmHk (g g' : Gm) : AH := [(0, .cells (gmK g' (.osl 1) (.osl 2) (.osl 3) (.osl 4) (.osl 5) (.osl 7)) 49), (1, .own [.i .i64] g.ts.values 2), (2, .own [.i .i64] g.ts.counts 2), (3, .own [.s] g.lex 9), (4, .own [.s] g.racks 9),
  (5, .own [.i .i64] g.scores 2), (6, .own [.i .i64] g.clocks 2), (7, .own [.i .i64] g'.clocks 2)]
def gmHs (g g' : Gm) : AH := [(0, .cells (gmK g' (.osl 1) (.osl 2) (.osl 3) (.osl 4) (.osl 7) (.osl 6)) 49), (1, .own [.i .i64] g.ts.values 2), (2, .own [.i .i64] g.ts.counts 2), (3, .own [.s] g.lex 9), (4, .own [.s] g.racks 9),
  (5, .own [.i .i64] g.scores 2), (6, .own [.i .i64] g.clocks 2), (7, .own [.i .i64] g'.scores 2)]
structure CkP (g : Gm) (n : Int) : Prop where
  len : g.clocks.length = 2
  ply : g.player = 0 ∨ g.player = 1
  num : -72000 ≤ g.clk g.player - n ∧ g.clk g.player - n ≤ 72000
theorem ck_in {g : Gm} {n : Int} (hp : CkP g n) : std.inL g.player (std.len g.clocks) := by
  have := hp.len
  refine ⟨?_, ?_⟩
  · rcases hp.ply with h | h <;> omega
  · show g.player < (g.clocks.length : Int)
    rcases hp.ply with h | h <;> omega
def sp_s_l18Clock (p : Pr) : MSpec := msp (mG (a1 aI)) (fun (g, n) => CkP g n) (fun (g, n) => .tup []) (fun (g, n) => gmHk g { g with clocks := ckL g n })
theorem ok_s_l18Clock : MOk Tryz.prog 37 (sp_s_l18Clock std) := by
  refine MOk.go (c := cx std [(86, sp_s_l00Own std)] [] 7) (cx_ok (.cons ok_s_l00Own .nil) .nil) mixed Tryz.func37 rfl rfl (by kernel_rfl) ?_
  rintro ⟨g, n⟩ hp
  dsimp only at hp
  refine ⟨rfl, ?_⟩
  unfold sp_s_l00Own
  generalize hP : std = p
  generalize hB0 : ckL = B0
  cbv
  repeat' first
    | (refine fun (_ : Unit) => ?_; cbv)
    | (refine And.intro (fun h => ?_) (fun h => ?_) <;> cbv)
    | (refine And.intro ?_ ?_)
    | (refine Or.inl (fun (_ : Unit) => ?_); cbv)
  all_goals subst hP hB0
  all_goals have f1 := ck_in hp
  all_goals try first
    | exact True.intro
    | with_reducible assumption
    | with_reducible exact byte_in
    | with_reducible exact hp.1
    | with_reducible exact hp.2
    | with_reducible exact hp.2.1
    | with_reducible exact hp.2.2
    | (simp [std] at * <;> lia)
    | rfl
  · exact ltM_of (by rw [hp.len]; decide)
  · have := hp.num
    exact in64 (by show _ ≤ g.clk g.player - n ∧ g.clk g.player - n ≤ _; omega)
/-- What the end of a game asks of it. -/
structure EndP (g : Gm) : Prop where
  ts : TsOk g.ts
  rk : g.racks.length = 2
  ck : g.clocks.length = 2
  len : ∀ k : Int, (g.rk k).length ≤ 7
  clk : ∀ k : Int, -36000 ≤ g.clk k
def chgs (g : Gm) : List Int := [chg g 0, chg g 1]
section
variable {g : Gm} {k : Int}
theorem e_sum (hp : EndP g) (k : Int) : 0 ≤ sumT g.ts (g.rk k) ∧ sumT g.ts (g.rk k) ≤ 140 := by
  have h1 := sumT_bd hp.ts (g.rk k)
  have h2 := hp.len k
  omega
theorem e_pen (hp : EndP g) (k : Int) : 0 ≤ pen (g.clk k) ∧ pen (g.clk k) ≤ 6010 := Go.Proofs.YtdojdfminchlaaaGreatDoor.pen_bd (hp.clk k)
theorem e_yes (h : std.eqS (g.rk k) [] = true) : 0 - sumT g.ts (g.rk k) - pen (g.clk k) + sumT g.ts (g.rk (1 - k)) = chg g k := by
  have h : g.rk k = [] := by simpa using h
  unfold chg
  rw [h]
  simp only [List.isEmpty_nil, if_true]
  omega
theorem e_no (h : std.eqS (g.rk k) [] = false) : 0 - sumT g.ts (g.rk k) - pen (g.clk k) = chg g k := by
  have h : g.rk k ≠ [] := by simpa using h
  unfold chg
  rw [if_neg (by simpa using h)]
  omega
theorem chg_bd (hp : EndP g) (k : Int) : -10000 ≤ chg g k ∧ chg g k ≤ 10000 := by
  have h1 := e_sum hp k
  have h2 := e_pen hp k
  have h3 := e_sum hp (1 - k)
  unfold chg
  split <;> omega
theorem chgs_step (h0 : 0 ≤ k) (h : k < 2) : (chgs g).take k.toNat ++ [chg g k] = (chgs g).take (k + 1).toNat := by
  rw [tk h0 (by show k < 2; omega) 0]
  congr 2
  rcases (show k = 0 ∨ k = 1 from by omega) with rfl | rfl <;> rfl
end
def sp_s_l18Change (p : Pr) : FSpec := fsp (a1 (aP aGm)) (fun g => EndP g) (fun g => .osl 0) (fun g => [(0, .own [.i .i64] (chgs g) 2)])
theorem ok_s_l18Change : FOk Tryz.prog 90 (sp_s_l18Change std) := by
  refine FOk.go (c := cx std [(143, sp_s_l02Sum std), (144, sp_s_l18Penalty std)] [] 0) (cx_ok (.cons ok_s_l02Sum (.cons ok_s_l18Penalty .nil)) .nil) mixed Tryz.func90 rfl rfl rfl (by kernel_rfl) ?_
  rintro g hp
  refine ⟨rfl, ?_⟩
  unfold sp_s_l02Sum sp_s_l18Penalty
  obtain ⟨H, hH⟩ : ∃ H : Hd (Int × List Int), H = ⟨fun (k, L) => 0 ≤ k ∧ k ≤ 2 ∧ L = (chgs g).take k.toNat, fun (k, L) => (2 - k).toNat, (· < ·)⟩ := ⟨_, rfl⟩
  have hl : ∀ m n, H.lt m n → m < n := by subst hH; exact fun _ _ h => h
  generalize hP : std = p
  generalize hB0 : chgs = B0
  generalize hB1 : sumT = B1
  generalize hB2 : pen = B2
  cbv
  repeat' first
    | (refine fun (_ : Unit) => ?_; cbv)
    | (refine Or.inr ⟨8, [], [.s 4 (.i .i64), .o 0 [.i .i64]], [.s 3], [], H, rfl, hl, ?_, fun ((k, L) : Int × List Int) hk => ?_⟩ <;> cbv)
    | (refine And.intro (fun h => ?_) (fun h => ?_) <;> cbv)
    | (refine And.intro ?_ ?_)
  all_goals subst hP hB0 hB1 hB2 hH
  all_goals clear hl
  all_goals try dsimp only at hk
  all_goals try dsimp only
  all_goals try first
    | exact True.intro
    | with_reducible assumption
    | with_reducible exact byte_in
    | with_reducible exact hp.1
    | with_reducible exact hp.2
    | with_reducible exact hp.2.1
    | with_reducible exact hp.2.2
    | (simp [std] at * <;> lia)
    | rfl
  all_goals obtain ⟨q0, q1, rfl⟩ := hk
  all_goals try (have h1 : k < 2 := lt_of (by assumption))
  all_goals have a1 := e_sum hp k
  all_goals have a2 := e_pen hp k
  all_goals have a3 := e_sum hp (1 - k)
  all_goals have a4 := hp.rk
  all_goals have a5 := hp.ck
  all_goals have a6 := hp.len k
  all_goals have a7 := hp.len (1 - k)
  all_goals have a8 := hp.clk k
  · exact ⟨q0, by show k < (g.racks.length : Int); omega⟩
  · exact ltM_of (n := (g.rk k).length) (by omega)
  · exact in64 (by show _ ≤ 0 - sumT g.ts (g.rk k) ∧ 0 - sumT g.ts (g.rk k) ≤ _; omega)
  · exact ⟨q0, by show k < (g.clocks.length : Int); omega⟩
  · exact a8
  · exact in64 (by show _ ≤ 0 - sumT g.ts (g.rk k) - pen (g.clk k) ∧ 0 - sumT g.ts (g.rk k) - pen (g.clk k) ≤ _; omega)
  · exact ⟨q0, by show k < (g.racks.length : Int); omega⟩
  · exact ⟨by show 0 ≤ 1 - k; omega, by show 1 - k < (g.racks.length : Int); omega⟩
  · exact ltM_of (n := (g.rk (1 - k)).length) (by omega)
  · exact in64 (by show _ ≤ 0 - sumT g.ts (g.rk k) - pen (g.clk k) + sumT g.ts (g.rk (1 - k)) ∧ 0 - sumT g.ts (g.rk k) - pen (g.clk k) + sumT g.ts (g.rk (1 - k)) ≤ _; omega)
  · show (((chgs g).take k.toNat).length : Int) + 1 ≤ _
    rw [List.length_take]; omega
  · refine ⟨by show 0 ≤ k + 1; omega, by show k + 1 ≤ 2; omega, ?_⟩
    show (chgs g).take k.toNat ++ [0 - sumT g.ts (g.rk k) - pen (g.clk k) + sumT g.ts (g.rk (1 - k))] = (chgs g).take (k + 1).toNat
    rw [e_yes (k := k) (by assumption), chgs_step q0 h1]
  · show (((chgs g).take k.toNat).length : Int) + 1 ≤ _
    rw [List.length_take]; omega
  · refine ⟨by show 0 ≤ k + 1; omega, by show k + 1 ≤ 2; omega, ?_⟩
    show (chgs g).take k.toNat ++ [0 - sumT g.ts (g.rk k) - pen (g.clk k)] = (chgs g).take (k + 1).toNat
    rw [e_no (k := k) (by assumption), chgs_step q0 h1]
  · rw [tk_all (show ((chgs g).length : Int) ≤ k from ge_of (by assumption))]
structure SetP (g : Gm) : Prop where
  en : EndP g
  len : g.scores.length = 2
  lo : ∀ k : Int, -1000000 ≤ g.sc k
  hi : ∀ k : Int, g.sc k ≤ 1000000
def setSc (g : Gm) : List Int := [g.sc 0 + chg g 0, g.sc 1 + chg g 1]
theorem two_0 {L : List Int} (h : L.length = 2) : std.inL 0 (std.len L) := ⟨Int.le_refl 0, by show (0 : Int) < (L.length : Int); omega⟩
theorem two_1 {L : List Int} (h : L.length = 2) : std.inL 1 (std.len L) := ⟨by decide, by show (1 : Int) < (L.length : Int); omega⟩
theorem set_num {g : Gm} (h : SetP g) (k : Int) : -9223372036854775808 ≤ g.sc k + chg g k ∧ g.sc k + chg g k ≤ 9223372036854775807 := by
  have h1 := chg_bd h.en k
  have h2 := h.lo k
  have h3 := h.hi k
  omega
def sp_s_l18Settle (p : Pr) : MSpec := msp (mG a0) (fun (g, _u) => SetP g) (fun (g, _u) => .tup []) (fun (g, _u) => gmHs g { g with scores := setSc g, over := true })
theorem ok_s_l18Settle : MOk Tryz.prog 38 (sp_s_l18Settle std) := by
  refine MOk.go (c := cx std [(90, sp_s_l18Change std)] [] 7) (cx_ok (.cons ok_s_l18Change .nil) .nil) mixed Tryz.func38 rfl rfl (by kernel_rfl) ?_
  rintro ⟨g, _u⟩ hp
  dsimp only at hp
  refine ⟨rfl, ?_⟩
  unfold sp_s_l18Change
  generalize hP : std = p
  generalize hB0 : chgs = B0
  generalize hB1 : setSc = B1
  cbv
  repeat' first
    | (refine fun (_ : Unit) => ?_; cbv)
    | (refine And.intro (fun h => ?_) (fun h => ?_) <;> cbv)
    | (refine And.intro ?_ ?_)
    | (refine Or.inl (fun (_ : Unit) => ?_); cbv)
  all_goals subst hP hB0 hB1
  all_goals try first
    | exact True.intro
    | with_reducible assumption
    | with_reducible exact byte_in
    | with_reducible exact hp.1
    | with_reducible exact hp.2
    | with_reducible exact hp.2.1
    | with_reducible exact hp.2.2
    | (simp [std] at * <;> lia)
    | rfl
  · exact two_0 hp.len
  · exact two_0 hp.len
  · exact two_0 (L := chgs g) rfl
  · exact two_0 (L := chgs g) rfl
  · exact in64 (set_num hp 0)
  · exact two_1 hp.len
  · exact two_1 hp.len
  · exact two_1 (L := chgs g) rfl
  · exact two_1 (L := chgs g) rfl
  · exact in64 (set_num hp 1)
end Ax
end Go.Proofs.YtdojdfminchlaaaGreatDoor
/-
  Valid tile sets and setups, of the spec package.
  Conditions: none.
-/
namespace Go.Proofs.YtdojdfminchlaaaGreatDoor
namespace Ax
set_option maxRecDepth 100000
set_option maxHeartbeats 2000000
/-- The same, letter by letter. -/
def tripB : Option UInt8 → List UInt8 → List Int → List Int → Bool
  | p, a :: r, v :: vs, c :: cs => smallB a && (aftB p a && (inR v 0 20 && (inR c 1 20 && tripB (some a) r vs cs)))
  | _, _, _, _ => true
theorem tripB_eq : ∀ (l : List UInt8) (p : Option UInt8) (vs cs : List Int), vs.length = l.length → cs.length = l.length → tripB p l vs cs = (smFrom p l && vcB vs cs)
  | [], p, [], [], _, _ => rfl
  | [], _, _ :: _, _, h, _ => by simp at h
  | [], _, [], _ :: _, _, h => by simp at h
  | _ :: _, _, [], _, h, _ => by simp at h
  | _ :: _, _, _ :: _, [], _, h => by simp at h
  | a :: l, p, v :: vs, c :: cs, h1, h2 => by
    rw [tripB, smFrom, vcB, tripB_eq l (some a) vs cs (by simpa using h1) (by simpa using h2)]
    cases smallB a <;> cases aftB p a <;> cases inR v 0 20 <;> cases inR c 1 20 <;> cases smFrom (some a) l <;> simp
theorem smFrom_len : ∀ (l : List UInt8) (q : UInt8), smFrom (some q) l = true → smallB q = true → l.length + q.toNat ≤ 122
  | [], q, _, hq => by
    unfold smallB at hq
    simp only [Bool.and_eq_true, decide_eq_true_eq] at hq
    simp only [List.length_nil]
    omega
  | a :: r, q, h, _ => by
    rw [smFrom] at h
    simp only [Bool.and_eq_true, aftB, decide_eq_true_eq] at h
    have h2 := smFrom_len r a h.2.2 h.1
    rw [List.length_cons]
    omega
theorem smFrom_26 {l : List UInt8} (h : smFrom none l = true) : l.length ≤ 26 := by
  match l, h with
  | [], _ => exact Nat.zero_le _
  | a :: r, h =>
    rw [smFrom] at h
    simp only [Bool.and_eq_true] at h
    have h2 := smFrom_len r a h.2.2 h.1
    have h3 := h.1
    unfold smallB at h3
    simp only [Bool.and_eq_true, decide_eq_true_eq] at h3
    rw [List.length_cons]
    omega
def prevL (l : List UInt8) (k : Nat) : Option UInt8 := if k = 0 then none else l[k - 1]?
theorem tripB_step (L : List UInt8) (V C : List Int) (k : Nat) (h : k < L.length) (h1 : k < V.length) (h2 : k < C.length) :
    tripB (prevL L k) (L.drop k) (V.drop k) (C.drop k) = (smallB L[k] && (aftB (prevL L k) L[k] && (inR V[k] 0 20 && (inR C[k] 1 20 && tripB (prevL L (k + 1)) (L.drop (k + 1)) (V.drop (k + 1)) (C.drop (k + 1)))))) := by
  have e : prevL L (k + 1) = some L[k] := by unfold prevL; rw [if_neg (by omega)]; simp
  rw [e, List.drop_eq_getElem_cons h, List.drop_eq_getElem_cons h1, List.drop_eq_getElem_cons h2]
  rfl
theorem tsB_trip (t : TS) : tsB t = (inR t.letters.length 1 26 && (decide (t.values.length = t.letters.length) && (decide (t.counts.length = t.letters.length) && (inR t.blanks 0 4 && (tripB none t.letters t.values t.counts && decide (t.blanks + t.counts.sum ≤ 120)))))) := by
  unfold tsB
  by_cases h1 : t.values.length = t.letters.length
  · by_cases h2 : t.counts.length = t.letters.length
    · rw [tripB_eq _ _ _ _ h1 h2, decide_eq_true h1, decide_eq_true h2]
      cases hs : smFrom none t.letters
      · simp
      · have := smFrom_26 hs
        have e : inR (t.letters.length : Int) 1 26 = decide (1 ≤ t.letters.length) := by
          unfold inR
          rw [Bool.eq_iff_iff]
          simp
          omega
        rw [e]
        simp
    · rw [decide_eq_false h2]
      simp
  · rw [decide_eq_false h1]
    simp
def trK (t : TS) (k : Int) : Bool := tripB (prevL t.letters k.toNat) (t.letters.drop k.toNat) (t.values.drop k.toNat) (t.counts.drop k.toNat)
def rise (t : TS) (k : Int) : Bool := aftB (prevL t.letters k.toNat) (t.letters.getD k.toNat 0)
section
variable {t : TS} {k : Int}
theorem tr_step (hv : t.values.length = t.letters.length) (hc : t.counts.length = t.letters.length) (h0 : 0 ≤ k) (h : k < t.letters.length) : trK t k = (inR (std.byte t.letters k) 97 122 && (rise t k && (inR (std.get 0 t.values k) 0 20 && (inR (std.get 0 t.counts k) 1 20 && trK t (k + 1))))) := by
  have h1 : k.toNat < t.letters.length := by omega
  unfold trK rise
  rw [tripB_step _ _ _ _ h1 (by omega) (by omega), show (k + 1).toNat = k.toNat + 1 from by omega, sd_byte, sd_get, sd_get]
  simp only [List.getD_eq_getElem?_getD, List.getElem?_eq_getElem h1, List.getElem?_eq_getElem (show k.toNat < t.values.length by omega), List.getElem?_eq_getElem (show k.toNat < t.counts.length by omega), Option.getD_some]
  congr 1
theorem rise_0 (h0 : 0 ≤ k) (h : std.ltI 0 k = false) : rise t k = true := by
  have h1 := ge_of h
  have h2 : k.toNat = 0 := by omega
  unfold rise prevL
  rw [h2, if_pos rfl]; rfl
theorem rise_e (h0 : std.ltI 0 k = true) (h : k < t.letters.length) : rise t k = !(std.leI (std.byte t.letters k) (std.byte t.letters (std.sub k 1))) := by
  have h1 := lt_of h0
  unfold rise prevL
  rw [if_neg (by omega)]
  simp only [sd_leI, sd_byte, sd_sub]
  rw [show (k - 1).toNat = k.toNat - 1 from by omega]
  rw [List.getD_eq_getElem?_getD (i := k.toNat - 1), List.getElem?_eq_getElem (show k.toNat - 1 < t.letters.length by omega)]
  show decide _ = _
  rw [Bool.eq_iff_iff]
  simp
theorem tr_no (e : tsB t = (trK t k && decide (t.blanks + t.counts.sum ≤ 120))) {a r v n z : Bool} (st : trK t k = (a && (r && (v && (n && z))))) (h : (a && (r && (v && n))) = false) : tsB t = false := by
  rw [e, st]
  revert h
  cases a <;> cases r <;> cases v <;> cases n <;> simp
end
theorem ts_n1 {t : TS} (h : inR t.letters.length 1 26 = false) : tsB t = false := by rw [tsB_trip, h]; rfl
theorem ts_n2 {t : TS} (h : ¬ t.values.length = t.letters.length) : tsB t = false := by rw [tsB_trip, decide_eq_false h]; simp
theorem ts_n3 {t : TS} (h : ¬ t.counts.length = t.letters.length) : tsB t = false := by rw [tsB_trip, decide_eq_false h]; simp
theorem ts_n4 {t : TS} (h : inR t.blanks 0 4 = false) : tsB t = false := by rw [tsB_trip, h]; simp
theorem ts_go {t : TS} (h : inR t.letters.length 1 26 = true) (h2 : t.values.length = t.letters.length) (h3 : t.counts.length = t.letters.length) (h4 : inR t.blanks 0 4 = true) : tsB t = (trK t 0 && decide (t.blanks + t.counts.sum ≤ 120)) := by
  rw [tsB_trip, h, decide_eq_true h2, decide_eq_true h3, h4]; rfl
theorem len_e {L : List Int} {s : List UInt8} (h : std.eqI (std.len L) (std.lenS s) = true) : L.length = s.length := by
  simp only [sd_eqI, sd_len, sd_lenS, beq_iff_eq] at h; omega
theorem len_n {L : List Int} {s : List UInt8} (h : std.eqI (std.len L) (std.lenS s) = false) : ¬ L.length = s.length := by
  simp only [sd_eqI, sd_len, sd_lenS, beq_eq_false_iff_ne, ne_eq] at h; omega
theorem in_bd {a b c : Int} (h : inR a b c = true) : b ≤ a ∧ a ≤ c := by simpa [inR] using h
structure TsL (t : TS) : Prop where
  l : t.letters.length ≤ 1099511627776
  v : t.values.length ≤ 1099511627776
  c : t.counts.length ≤ 1099511627776
def sp_s_l02Ok (p : Pr) : FSpec := fsp (a1 (aP aTs)) (fun t => TsL t) (fun t => .b (tsB t))
theorem ok_s_l02Ok : FOk Tryz.prog 178 (sp_s_l02Ok std) := by
  refine FOk.go (c := cx std [(78, sp_s_l00In std), (211, sp_s_l01Small std)] [] 0) (cx_ok (.cons ok_s_l00In (.cons ok_s_l01Small .nil)) .nil) mixed Tryz.func178 rfl rfl rfl (by kernel_rfl) ?_
  rintro t hp
  refine ⟨rfl, ?_⟩
  unfold sp_s_l00In sp_s_l01Small
  obtain ⟨H, hH⟩ : ∃ H : Hd (Int × Int), H = ⟨fun (m, k) => 0 ≤ k ∧ k ≤ t.letters.length ∧ m = t.blanks + (t.counts.take k.toNat).sum ∧ 0 ≤ m ∧ m ≤ 4 + 20 * k ∧ tsB t = (trK t k && decide (t.blanks + t.counts.sum ≤ 120)), fun (m, k) => (t.letters.length - k).toNat, (· < ·)⟩ := ⟨_, rfl⟩
  have hl : ∀ m n, H.lt m n → m < n := by subst hH; exact fun _ _ h => h
  generalize hP : std = p
  generalize hB0 : tsB = B0
  generalize hB1 : smallB = B1
  generalize hB2 : inR = B2
  generalize hB3 : u8 = B3
  cbv
  repeat' first
    | (refine fun (_ : Unit) => ?_; cbv)
    | (refine Or.inr ⟨44, [], [.s 4 (.i .i64), .s 5 (.i .i64)], [], [], H, rfl, hl, ?_, fun ((m, k) : Int × Int) hk => ?_⟩ <;> cbv)
    | (refine And.intro (fun h => ?_) (fun h => ?_) <;> cbv)
    | (refine And.intro ?_ ?_)
  all_goals subst hP hB0 hB1 hB2 hB3 hH
  all_goals clear hl
  all_goals try dsimp only at hk
  all_goals try dsimp only
  all_goals try first
    | exact True.intro
    | with_reducible assumption
    | with_reducible exact byte_in
    | with_reducible exact hp.1
    | with_reducible exact hp.2
    | with_reducible exact hp.2.1
    | with_reducible exact hp.2.2
    | (simp [std] at * <;> lia)
    | rfl
  · exact ts_n4 (by assumption)
  · have b4 := in_bd (show inR t.blanks 0 4 = true by assumption)
    exact ⟨Int.le_refl 0, Int.natCast_nonneg _, by simp, b4.1, b4.2, ts_go (by assumption) (len_e (by assumption)) (len_e (by assumption)) (by assumption)⟩
  all_goals try (have b1 := in_bd (show inR (t.letters.length : Int) 1 26 = true by assumption))
  all_goals try (have b2 := len_e (L := t.values) (s := t.letters) (by assumption))
  all_goals try (have b3 := len_e (L := t.counts) (s := t.letters) (by assumption))
  all_goals try (obtain ⟨q0, q1, q2, q3, q4, e⟩ := hk)
  all_goals try (have h1 : k < t.letters.length := lt_of (by assumption))
  all_goals try (have st := tr_step b2 b3 q0 h1)
  all_goals try (have r0 := rise_0 (t := t) q0 (by assumption))
  all_goals try (have r1 := rise_e (t := t) (k := k) (by assumption) h1)
  all_goals try (have c1 := in_bd (show inR (std.get 0 t.counts k) 1 20 = true by assumption))
  all_goals try (have c2 := sum_tk (L := t.counts) q0 (by omega))
  · exact in64 (by show _ ≤ k - 1 ∧ k - 1 ≤ _; omega)
  · exact tr_no e st (by rw [show inR (std.get 0 t.counts k) 1 20 = false by assumption]; simp)
  · exact in64 (by show _ ≤ m + std.get 0 t.counts k ∧ m + std.get 0 t.counts k ≤ _; omega)
  · exact in64 (by show _ ≤ k + 1 ∧ k + 1 ≤ _; omega)
  · have g1 : k + 1 ≤ (t.letters.length : Int) := by omega
    refine ⟨by show 0 ≤ k + 1; omega, g1, by show m + std.get 0 t.counts k = t.blanks + (t.counts.take (k + 1).toNat).sum; rw [c2]; simp only [sd_get]; omega, by show 0 ≤ m + std.get 0 t.counts k; omega, by show m + std.get 0 t.counts k ≤ 4 + 20 * (k + 1); omega, ?_⟩
    rw [e, st, r1, show inR (std.byte t.letters k) 97 122 = true by assumption, show std.leI (std.byte t.letters k) (std.byte t.letters (std.sub k 1)) = false by assumption, show inR (std.get 0 t.values k) 0 20 = true by assumption, show inR (std.get 0 t.counts k) 1 20 = true by assumption]
    rfl
  · exact tr_no e st (by rw [show inR (std.get 0 t.values k) 0 20 = false by assumption]; simp)
  · exact tr_no e st (by rw [r1, show std.leI (std.byte t.letters k) (std.byte t.letters (std.sub k 1)) = true by assumption]; simp)
  · exact tr_no e st (by rw [show inR (std.get 0 t.counts k) 1 20 = false by assumption]; simp)
  · exact in64 (by show _ ≤ m + std.get 0 t.counts k ∧ m + std.get 0 t.counts k ≤ _; omega)
  · have g1 : k + 1 ≤ (t.letters.length : Int) := by omega
    refine ⟨by show 0 ≤ k + 1; omega, g1, by show m + std.get 0 t.counts k = t.blanks + (t.counts.take (k + 1).toNat).sum; rw [c2]; simp only [sd_get]; omega, by show 0 ≤ m + std.get 0 t.counts k; omega, by show m + std.get 0 t.counts k ≤ 4 + 20 * (k + 1); omega, ?_⟩
    rw [e, st, r0, show inR (std.byte t.letters k) 97 122 = true by assumption, show inR (std.get 0 t.values k) 0 20 = true by assumption, show inR (std.get 0 t.counts k) 1 20 = true by assumption]
    rfl
  · exact tr_no e st (by rw [show inR (std.get 0 t.values k) 0 20 = false by assumption]; simp)
  · exact tr_no e st (by rw [show inR (std.byte t.letters k) 97 122 = false by assumption]; simp)
  · have h2 : (t.letters.length : Int) ≤ k := ge_of (by assumption)
    rw [e, q2, tk_all (by omega)]
    unfold trK
    rw [dn h2]
    rfl
  · exact ts_n3 (len_n (by assumption))
  · exact ts_n2 (len_n (by assumption))
  · exact ts_n1 (by assumption)
end Ax
end Go.Proofs.YtdojdfminchlaaaGreatDoor
/-
  Valid games, of the spec package.
  Conditions: none.
-/
namespace Go.Proofs.YtdojdfminchlaaaGreatDoor
namespace Ax
set_option maxRecDepth 100000
set_option maxHeartbeats 2000000
def suB (u : Su) : Bool := tsB u.ts && (lexB u.lex && (bdB u.bd && ((lettersS u.bd).isEmpty && (inR u.secs 0 36000 && inR u.rule 0 3))))
/-- What the machine can hold. -/
structure SuL (u : Su) : Prop where
  ts : TsL u.ts
  ws : WsP u.lex
  bd : BdP u.bd
def sp_s_l18Setup (p : Pr) : FSpec := fsp (a1 (aP aSu)) (fun u => SuL u) (fun u => .b (suB u))
theorem ok_s_l18Setup : FOk Tryz.prog 123 (sp_s_l18Setup std) := by
  refine FOk.go (c := cx std [(178, sp_s_l02Ok std), (179, sp_s_l05Ok std), (124, sp_s_l11Ok std), (127, sp_s_l11Letters std), (78, sp_s_l00In std)] [] 0) (cx_ok (.cons ok_s_l02Ok (.cons ok_s_l05Ok (.cons ok_s_l11Ok (.cons ok_s_l11Letters (.cons ok_s_l00In .nil))))) .nil) mixed Tryz.func123 rfl rfl rfl (by kernel_rfl) ?_
  rintro u hp
  refine ⟨rfl, ?_⟩
  unfold sp_s_l02Ok sp_s_l05Ok sp_s_l11Ok sp_s_l11Letters sp_s_l00In
  generalize hP : std = p
  generalize hB0 : suB = B0
  generalize hB1 : tsB = B1
  generalize hB2 : lexB = B2
  generalize hB3 : bdB = B3
  generalize hB4 : lettersS = B4
  generalize hB5 : inR = B5
  cbv
  repeat' first
    | (refine fun (_ : Unit) => ?_; cbv)
    | (refine And.intro (fun h => ?_) (fun h => ?_) <;> cbv)
    | (refine And.intro ?_ ?_)
    | (refine Or.inl (fun (_ : Unit) => ?_); cbv)
  all_goals subst hP hB0 hB1 hB2 hB3 hB4 hB5
  all_goals try first
    | exact True.intro
    | with_reducible assumption
    | with_reducible exact byte_in
    | with_reducible exact hp.1
    | with_reducible exact hp.2
    | with_reducible exact hp.2.1
    | with_reducible exact hp.2.2
    | (simp [std] at * <;> lia)
    | rfl
  · exact hp.bd
  · exact hp.bd
  all_goals (unfold suB; simp [*] at *; try simp [*])
structure PkP (g : Gm) : Prop where
  ts : TsOk g.ts
  rk2 : g.racks.length = 2
  ply : g.player = 0 ∨ g.player = 1
  rk : ∀ k, (g.rk k).length ≤ 7
  bf : BdP g.bef
  wd : g.last.play.word.length ≤ 1099511627776
  dr : g.last.drawn.length ≤ 1099511627776
def frN (g : Gm) : Int := std.len (frI (flatB g.bef g.last.play) (flatP g.last.play))
def bdE (a b : Bd) : Bool := std.and (std.eqI a.size b.size) (std.and (std.eqS a.prem b.prem) (std.eqS a.cells b.cells))
theorem pk_eq (g : Gm) : playOk g = (std.eqI g.last.player (std.sub 1 g.player) && (okB g.bef g.last.play && (inR g.last.zeros 0 5 && (std.eqI g.zeros 0 && (bagB g.last.drawn && (takeB (std.get [] g.racks g.last.player) (isort g.last.drawn) && (std.leI (frN g) 7 && (std.leI (std.lenS g.last.drawn) (frN g) && (std.leI (std.add (std.sub (std.lenS (std.get [] g.racks g.last.player)) (std.lenS g.last.drawn)) (frN g)) 7 && (bdE (madeS g.bef g.last.play) g.bd && (std.eqI g.last.score (scoreV g.ts g.bef g.last.play) && std.leI g.last.score 20000))))))))))) := by
  unfold playOk frN
  rw [sd_len, fr_n]
  congr 6
  congr 1
  · rw [sd_leI, Bool.eq_iff_iff, decide_eq_true_eq, decide_eq_true_eq]; omega
  congr 1
  rw [sd_leI, sd_lenS, Bool.eq_iff_iff, decide_eq_true_eq, decide_eq_true_eq]; omega
structure PlayF (g : Gm) : Prop where
  ply : std.inL g.last.player (std.len g.racks)
  pl : PlP g.bef g.last.play
  fr : (frI (flatB g.bef g.last.play) (flatP g.last.play)).length ≤ 15
  dr : g.last.drawn.length ≤ 120
  rk : (g.rk g.last.player).length ≤ 7
  so : (isort g.last.drawn).length ≤ 120
theorem pk_ply {g : Gm} (hp : PkP g) (h1 : std.eqI g.last.player (std.sub 1 g.player) = true) : std.inL g.last.player (std.len g.racks) := by
  have h2 := hp.rk2
  have h3 : g.last.player = 1 - g.player := by simpa using h1
  refine ⟨?_, ?_⟩
  · rcases hp.ply with h | h <;> omega
  · show g.last.player < (g.racks.length : Int)
    rcases hp.ply with h | h <;> omega
theorem bag_len {s : List UInt8} (h : bagB s = true) : s.length ≤ 120 := by
  unfold bagB at h
  simp only [Bool.and_eq_true, decide_eq_true_eq] at h
  exact h.2
theorem pk_f {g : Gm} (hp : PkP g) (h1 : std.eqI g.last.player (std.sub 1 g.player) = true) (h2 : okB g.bef g.last.play = true) (h3 : bagB g.last.drawn = true) : PlayF g := by
  have h4 := okB_on h2
  have h5 := frI_len (flatB g.bef g.last.play) (flatP g.last.play)
  have h6 := h4.on.len
  exact ⟨pk_ply hp h1, h4, by omega, bag_len h3, hp.rk _, by rw [isort_length]; exact bag_len h3⟩
def sp_s_l18PlayOk (p : Pr) : FSpec := fsp (a1 (aP aGm)) (fun g => PkP g) (fun g => .b (playOk g))
theorem ok_s_l18PlayOk : FOk Tryz.prog 186 (sp_s_l18PlayOk std) := by
  refine FOk.go (c := cx std [(121, sp_s_l18Board std), (79, sp_s_l12Ok std), (78, sp_s_l00In std), (125, sp_s_l17Ok std), (30, sp_s_l12Flat std), (84, sp_s_l12Fresh std), (31, sp_s_l03Take std), (36, sp_s_l03Sort std), (35, sp_s_l12Make std), (27, sp_s_l13Score std)] [] 0) (cx_ok (.cons ok_s_l18Board (.cons ok_s_l12Ok (.cons ok_s_l00In (.cons ok_s_l17Ok (.cons ok_s_l12Flat (.cons ok_s_l12Fresh (.cons ok_s_l03Take (.cons ok_s_l03Sort (.cons ok_s_l12Make (.cons ok_s_l13Score .nil)))))))))) .nil) mixed Tryz.func186 rfl rfl rfl (by kernel_rfl) ?_
  rintro g hp
  refine ⟨rfl, ?_⟩
  unfold sp_s_l18Board sp_s_l12Ok sp_s_l00In sp_s_l17Ok sp_s_l12Flat sp_s_l12Fresh sp_s_l03Take sp_s_l03Sort sp_s_l12Make sp_s_l13Score
  generalize hP : std = p
  generalize hB0 : playOk = B0
  generalize hB1 : okB = B1
  generalize hB2 : flatB = B2
  generalize hB3 : flatP = B3
  generalize hB4 : frI = B4
  generalize hB5 : takeB = B5
  generalize hB6 : takeS = B6
  generalize hB7 : isort = B7
  generalize hB8 : bagB = B8
  generalize hB9 : madeS = B9
  generalize hB10 : scoreV = B10
  generalize hB11 : inR = B11
  cbv
  repeat' first
    | (refine fun (_ : Unit) => ?_; cbv)
    | (refine And.intro (fun h => ?_) (fun h => ?_) <;> cbv)
    | (refine And.intro ?_ ?_)
    | (refine Or.inl (fun (_ : Unit) => ?_); cbv)
  all_goals subst hP hB0 hB1 hB2 hB3 hB4 hB5 hB6 hB7 hB8 hB9 hB10 hB11
  all_goals try first
    | exact True.intro
    | with_reducible assumption
    | with_reducible exact byte_in
    | with_reducible exact hp.1
    | with_reducible exact hp.2
    | with_reducible exact hp.2.1
    | with_reducible exact hp.2.2
    | (simp [std] at * <;> lia)
    | rfl
  · exact in64 (by show _ ≤ 1 - g.player ∧ 1 - g.player ≤ _; rcases hp.ply with h | h <;> omega)
  · exact ⟨hp.bf, hp.wd⟩
  · exact ltM_of hp.dr
  · rw [pk_eq, show bagB g.last.drawn = false by assumption]; simp
  all_goals try (have F := pk_f hp (by assumption) (by assumption) (by assumption))
  · exact F.pl.fit
  · exact F.pl.on
  · exact F.ply
  · exact ltM_of hp.dr
  · exact ltM_of (n := (g.rk g.last.player).length) (Nat.le_trans F.rk (by decide))
  · exact ltM_of (Nat.le_trans F.so (by decide))
  · exact F.ply
  · have a1 := F.rk
    have a2 := F.dr
    exact in64 (by show _ ≤ ((g.rk g.last.player).length : Int) - g.last.drawn.length ∧ ((g.rk g.last.player).length : Int) - g.last.drawn.length ≤ _; omega)
  · have a1 := F.rk
    have a2 := F.dr
    have a3 := F.fr
    exact in64 (by show _ ≤ ((g.rk g.last.player).length : Int) - g.last.drawn.length + (frI (flatB g.bef g.last.play) (flatP g.last.play)).length ∧ ((g.rk g.last.player).length : Int) - g.last.drawn.length + (frI (flatB g.bef g.last.play) (flatP g.last.play)).length ≤ _; omega)
  · exact F.pl
  · exact ⟨hp.ts, F.pl⟩
  all_goals (clear hp; try clear F)
  all_goals (rw [pk_eq]; unfold frN bdE; try simp only [Bool.not_true, Bool.not_false] at *)
  all_goals first
    | (rw [show std.eqI g.last.player (std.sub 1 g.player) = false by assumption]; rfl)
    | rw [show std.eqI g.last.player (std.sub 1 g.player) = true by assumption, Bool.true_and]
  all_goals first
    | (rw [show okB g.bef g.last.play = false by assumption]; rfl)
    | rw [show okB g.bef g.last.play = true by assumption, Bool.true_and]
  all_goals first
    | (rw [show inR g.last.zeros 0 5 = false by assumption]; rfl)
    | rw [show inR g.last.zeros 0 5 = true by assumption, Bool.true_and]
  all_goals try (show std.leI g.last.score 20000 = _)
  all_goals (try unfold Gm.bef; try simp only [eta_bd, eta_pl] at *; generalize (⟨g.bd.size, g.bd.prem, g.last.before⟩ : Bd) = bf at *)
  all_goals
    (generalize std.eqI g.zeros 0 = b1 at *
     generalize bagB g.last.drawn = b2 at *
     generalize takeB (std.get [] g.racks g.last.player) (isort g.last.drawn) = b3 at *
     generalize std.leI (std.len (frI (flatB bf g.last.play) (flatP g.last.play))) 7 = b4 at *
     generalize std.leI (std.lenS g.last.drawn) (std.len (frI (flatB bf g.last.play) (flatP g.last.play))) = b5 at *
     generalize std.leI (std.add (std.sub (std.lenS (std.get [] g.racks g.last.player)) (std.lenS g.last.drawn)) (std.len (frI (flatB bf g.last.play) (flatP g.last.play)))) 7 = b6 at *
     generalize std.and (std.eqI (madeS bf g.last.play).size g.bd.size) (std.and (std.eqS (madeS bf g.last.play).prem g.bd.prem) (std.eqS (madeS bf g.last.play).cells g.bd.cells)) = b7 at *
     generalize std.eqI g.last.score (scoreV g.ts bf g.last.play) = b8 at *
     generalize std.leI g.last.score 20000 = b9 at *)
  all_goals (simp_all)
end Ax
end Go.Proofs.YtdojdfminchlaaaGreatDoor
