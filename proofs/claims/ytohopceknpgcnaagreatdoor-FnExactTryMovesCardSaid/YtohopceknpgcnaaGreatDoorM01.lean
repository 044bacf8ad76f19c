/-
  A region that draws its order: the operations ahead of number n each yield one value in every world that meets S, and S holds behind each; the rest stands in a forced order. Then the text's order serves for all orders; Words for memory and small facts that the walks of this family share: slices that read as lists, blocks known whole, strings as lists of bytes; Contracts: letters, words, long words, lexicons (layers 1 and 5 of both packages); Contracts: lexicons (layer 5 of both packages).
  Conditions: as each part below says.
-/
import Derived.OrdersHeld
import Derived.Tactics
import Derived.Below
import Derived.Test.YtohopceknpgcnaaGreatDoorProg
import Derived.WalkKit
import Derived.WalkSpells
import Derived.WalkLawsBesides
import Derived.Laws.OwnMore
import Derived.Deep.AppendLies
import Derived.Deep.Draws
import Derived.Maps.AppendAt
import Derived.Lib.Hide
import Derived.Deep.QuietTactic
import Derived.BigQuiet
/-
  A region that draws its order: the operations ahead of number n each yield one value in every world that meets S, and S holds behind each; the rest stands in a forced order. Then the text's order serves for all orders.
  Conditions: the closed check regCk of the region's own edges.
-/
namespace Go.Proofs.YtohopceknpgcnaaGreatDoor
namespace RegP
section
variable {P : Program} {ops : Array Oper} {Q : Exit → Act → World → Prop} {S : World → Prop}

def Never : Exit → Act → World → Prop := fun _ _ _ => False

def PStep (P : Program) (S : World → Prop) (o : Oper) (a : Act) (v : Value) : Prop :=
  ∀ w, S w → o.wp P a w (fun a' w' => a' = a.put o.dst v ∧ S w') Never

theorem put_get (a : Act) (d : Option Tmp) (v : Value) (t : Nat) :
    (a.put d v).tmps[t]? = if d = some t then a.tmps[t]?.map (fun _ => v) else a.tmps[t]? := by
  cases d with
  | none => simp [Act.put]
  | some e =>
    simp only [Act.put, Option.some.injEq]
    by_cases h : e = t
    · subst h
      by_cases hl : e < a.tmps.size
      · simp [hl]
      · simp [hl]
    · simp [Array.getElem?_setIfInBounds_ne h, h]

theorem put_size (a : Act) (d : Option Tmp) (v : Value) : (a.put d v).tmps.size = a.tmps.size := by cases d <;> simp [Act.put]
theorem put_defers' (a : Act) (d : Option Tmp) (v : Value) : (a.put d v).defers = a.defers := by cases d <;> rfl

theorem put_inj {a a' : Act} {d : Option Tmp} {u v : Value} (hsz : a.tmps.size = a'.tmps.size) (h : a.put d u = a.put d v) : a'.put d u = a'.put d v := by
  rcases d with _ | e
  · rfl
  · obtain ⟨e, rfl⟩ : ∃ n : Nat, n = e := ⟨e, rfl⟩
    by_cases hl : (e : Nat) < a.tmps.size
    · have h1 := congrArg (fun x : Act => x.tmps[e]?) h
      simp only [put_get, if_true] at h1
      have : u = v := by simpa [hl] using h1
      rw [this]
    · have hl' : a'.tmps.size ≤ (e : Nat) := by omega
      have k : ∀ x : Value, a'.put (some e) x = a' := fun x => by
        simp only [Act.put]
        rw [Array.setIfInBounds_eq_of_size_le hl']
      rw [k, k]

theorem PStep.use {o : Oper} {a : Act} {v : Value} {w : World} {K : Act → World → Prop} (h : PStep P S o a v) (hS : S w) (hK : ∀ w', S w' → K (a.put o.dst v) w') : o.wp P a w K Q := by
  have := h w hS
  unfold Oper.wp at *
  generalize (execOp a.eval o).run P w = r at *
  cases r with
  | ok n w' =>
    cases n <;> simp only [Oper.upon] at this ⊢
    case value u => rw [this.1]; exact hK _ this.2
    case skip => rw [this.1]; exact hK _ this.2
    case defer d =>
      exfalso
      have h1 := congrArg Act.defers this.1
      rw [put_defers', put_defers'] at h1
      have := congrArg List.length h1
      simp at this
    case enter f args =>
      refine Calls.mono this fun e w'' he => ?_
      cases e with
      | returned u => simp only at he ⊢; rw [he.1]; exact hK _ he.2
      | panicked c => exact he.elim
      | outgrown => obtain ⟨_, _, hh⟩ := he; exact hh.elim
    case row row args => exact Rows.mono this fun u w'' he => by rw [he.1]; exact hK _ he.2
  | halt x w' =>
    cases x <;> simp only [Oper.upon] at this
    case panic u => exact this.elim

theorem PStep.congr {o : Oper} {a a' : Act} {v : Value} (hs : ∀ cs b, o.op ≠ .select cs b) (hsz : a.tmps.size = a'.tmps.size) (he : ∀ x ∈ o.op.operands, a.eval x = a'.eval x) (h : PStep P S o a v) : PStep P S o a' v := by
  intro w hw
  have := h w hw
  unfold Oper.wp at *
  rw [execOp_congr o hs he] at this
  generalize (execOp a'.eval o).run P w = r at *
  cases r with
  | ok n w' =>
    cases n <;> simp only [Oper.upon] at this ⊢
    case value u => exact ⟨put_inj hsz this.1, this.2⟩
    case skip => exact ⟨put_inj hsz this.1, this.2⟩
    case defer d =>
      exfalso
      have h1 := congrArg Act.defers this.1
      rw [put_defers', put_defers'] at h1
      have := congrArg List.length h1
      simp at this
    case enter f args =>
      refine Calls.mono this fun e w'' he => ?_
      cases e with
      | returned u => exact ⟨put_inj hsz he.1, he.2⟩
      | panicked c => exact he.elim
      | outgrown => obtain ⟨_, _, hh⟩ := he; exact hh.elim
    case row row args => exact Rows.mono this fun u w'' he => ⟨put_inj hsz he.1, he.2⟩
  | halt x w' =>
    cases x <;> simp only [Oper.upon] at this
    case panic u => exact this.elim

/-- One step, guarded or not. -/
def GStep (P : Program) (ops : Array Oper) (S : World → Prop) (o : Oper) (a : Act) (v : Value) : Prop :=
  (Region.wanted o (yielded ops a.tmps) = true ∧ PStep P S o a v) ∨ (Region.wanted o (yielded ops a.tmps) = false ∧ v = undef)

theorem wanted_congr {o : Oper} {a a' : Act} (h : ∀ t ∈ o.looksAt ops, a.tmps[t]? = a'.tmps[t]?) : Region.wanted o (yielded ops a.tmps) = Region.wanted o (yielded ops a'.tmps) := by
  unfold Region.wanted
  cases hg : o.guard with
  | none => rfl
  | some gw =>
    obtain ⟨g, want⟩ := gw
    have hy : yielded ops a.tmps g = yielded ops a'.tmps g := by
      unfold yielded
      cases ht : (ops[g]?).bind (·.dst) with
      | none => rfl
      | some t => simp only [Option.bind_some]; rw [h t (by simp [Oper.looksAt, hg, ht])]
    simp only [hy]

theorem GStep.congr {o : Oper} {a a' : Act} {v : Value} (hs : ∀ cs b, o.op ≠ .select cs b) (hsz : a.tmps.size = a'.tmps.size) (h : ∀ t ∈ o.looksAt ops, a.tmps[t]? = a'.tmps[t]?) (hg : GStep P ops S o a v) : GStep P ops S o a' v := by
  have hw := wanted_congr h
  unfold GStep at *
  rw [← hw]
  refine hg.imp (fun ⟨h1, h2⟩ => ⟨h1, h2.congr hs hsz fun x hx => ?_⟩) id
  cases x with
  | tmp t =>
    have := h t (List.mem_append_left _ (List.mem_filterMap.2 ⟨.tmp t, by simpa using hx, rfl⟩))
    simp only [Act.eval, Array.getD_eq_getD_getElem?, this]
  | _ => rfl

theorem GStep.wpOp {i : Nat} {o : Oper} {v : Value} {a : Act} {w : World} {K : Act → World → Prop} (hi : ops[i]? = some o) (h : GStep P ops S o a v) (hS : S w) (hK : ∀ w', S w' → K (a.put o.dst v) w') : wpOp P ops Q i K a w := by
  unfold Go.wpOp
  simp only [hi]
  rcases h with ⟨hw, hp⟩ | ⟨hw, rfl⟩
  · simp only [hw, if_true]; exact .inl (hp.use hS hK)
  · simp only [hw, Bool.false_eq_true, if_false]; exact hK w hS

/-- The chain in the text's order. -/
def PChain (P : Program) (ops : Array Oper) (S : World → Prop) (End : Act → Prop) : List Oper → Act → Prop
  | [], a => End a
  | o :: r, a => ∃ v, GStep P ops S o a v ∧ PChain P ops S End r (a.put o.dst v)

def actAfter : List Oper → List Value → Act → Act
  | o :: r, v :: vs, a => actAfter r vs (a.put o.dst v)
  | _, _, a => a

theorem PChain.vals {End : Act → Prop} : ∀ (l : List Oper) (a : Act), PChain P ops S End l a →
    ∃ vs : List Value, vs.length = l.length ∧ End (actAfter l vs a) ∧ ∀ i o v, l[i]? = some o → vs[i]? = some v → GStep P ops S o (actAfter (l.take i) (vs.take i) a) v
  | [], a, h => ⟨[], rfl, h, fun i o v hi => by simp at hi⟩
  | o :: r, a, ⟨v, hg, hc⟩ => by
    obtain ⟨vs, hl, he, hs⟩ := PChain.vals r _ hc
    refine ⟨v :: vs, by simp [hl], he, fun i o' v' hi hv => ?_⟩
    cases i with
    | zero => simp at hi hv; subst hi; subst hv; simpa [actAfter] using hg
    | succ i => simp at hi hv; simpa [actAfter] using hs i o' v' hi hv

/-- What an act is that has the values of the operations in 'L' (a test on numbers) laid over a0. -/
structure Is (l : List Oper) (vs : List Value) (a0 : Act) (L : Nat → Bool) (a : Act) : Prop where
  defers : a.defers = a0.defers
  size : a.tmps.size = a0.tmps.size
  yes : ∀ (i : Nat) (o : Oper) (v : Value) (t : Nat), l[i]? = some o → vs[i]? = some v → o.dst = some t → L i = true → a.tmps[t]? = a0.tmps[t]?.map (fun _ => v)
  no : ∀ t : Nat, (∀ (i : Nat) (o : Oper), l[i]? = some o → o.dst = some t → L i = false) → a.tmps[t]? = a0.tmps[t]?

def dstsApart (l : List Oper) : Prop := ∀ (i j : Nat) (oi oj : Oper) (t : Nat), l[i]? = some oi → l[j]? = some oj → oi.dst = some t → oj.dst = some t → i = j

theorem Is.start {l : List Oper} {vs : List Value} {a0 : Act} {L : Nat → Bool} (h : ∀ i, i < l.length → L i = false) : Is l vs a0 L a0 :=
  ⟨rfl, rfl, (fun i o v t hi _ _ hL => by
    have hlt : i < l.length := (List.getElem?_eq_some_iff.1 hi).1
    rw [h i hlt] at hL
    exact absurd hL (by simp)), fun _ _ => rfl⟩

theorem Is.step {l : List Oper} {vs : List Value} {a0 a : Act} {L L' : Nat → Bool} (hd : dstsApart l) (h : Is l vs a0 L a) {i : Nat} {o : Oper} {v : Value} (hi : l[i]? = some o) (hv : vs[i]? = some v) (hLi : L' i = true) (hLj : ∀ j, j < l.length → j ≠ i → L' j = L j) : Is l vs a0 L' (a.put o.dst v) := by
  refine ⟨(put_defers' _ _ _).trans h.defers, (put_size _ _ _).trans h.size, fun j oj vj t hj hvj hdj hL => ?_, fun t ht => ?_⟩
  · rw [put_get]
    by_cases hji : j = i
    · subst hji
      rw [hi] at hj; cases hj
      rw [hv] at hvj; cases hvj
      rw [if_pos hdj]
      have hs := h.size
      by_cases hl : t < a.tmps.size
      · simp [hl, hs ▸ hl]
      · simp [hl, hs ▸ hl]
    · have hne : o.dst ≠ some t := fun e => hji (hd j i oj o t hj hi hdj e)
      rw [if_neg hne]
      have hlt : j < l.length := (List.getElem?_eq_some_iff.1 hj).1
      exact h.yes j oj vj t hj hvj hdj (by rw [← hLj j hlt hji]; exact hL)
  · have hne : o.dst ≠ some t := fun e => by have := ht i o hi e; rw [hLi] at this; cases this
    rw [put_get, if_neg hne]
    refine h.no t fun j oj hj hdj => ?_
    have hji : j ≠ i := fun e => by subst e; rw [hi] at hj; cases hj; exact hne hdj
    have hlt : j < l.length := (List.getElem?_eq_some_iff.1 hj).1
    rw [← hLj j hlt hji]; exact ht j oj hj hdj

theorem Is.same {l : List Oper} {vs : List Value} {a0 a a' : Act} {L L' : Nat → Bool} (hlen : vs.length = l.length) (h : Is l vs a0 L a) (h' : Is l vs a0 L' a') (t : Nat) (ht : ∀ (j : Nat) (o : Oper), l[j]? = some o → o.dst = some t → L j = true ∧ L' j = true) : a.tmps[t]? = a'.tmps[t]? := by
  by_cases hex : ∃ (j : Nat) (o : Oper), l[j]? = some o ∧ o.dst = some t
  · obtain ⟨j, o, hj, hdj⟩ := hex
    have hlt : j < l.length := (List.getElem?_eq_some_iff.1 hj).1
    have hv : vs[j]? = some (vs[j]'(by omega)) := List.getElem?_eq_getElem (by omega)
    rw [h.yes j o _ t hj hv hdj (ht j o hj hdj).1, h'.yes j o _ t hj hv hdj (ht j o hj hdj).2]
  · have hno : ∀ (j : Nat) (o : Oper), l[j]? = some o → o.dst = some t → False := fun j o hj hdj => hex ⟨j, o, hj, hdj⟩
    rw [h.no t fun j o hj hdj => (hno j o hj hdj).elim, h'.no t fun j o hj hdj => (hno j o hj hdj).elim]

theorem Is.take {l : List Oper} {vs : List Value} {a0 : Act} (hd : dstsApart l) (hlen : vs.length = l.length) : ∀ i, i ≤ l.length → Is l vs a0 (fun j => decide (j < i)) (actAfter (l.take i) (vs.take i) a0) := by
  have key : ∀ (i : Nat) (m : List Oper) (ms : List Value) (a : Act), m.length = ms.length → actAfter (m.take (i + 1)) (ms.take (i + 1)) a = match m[i]?, ms[i]? with
      | some o, some v => (actAfter (m.take i) (ms.take i) a).put o.dst v
      | _, _ => actAfter (m.take i) (ms.take i) a := by
    intro i
    induction i with
    | zero => intro m ms a hl; cases m <;> cases ms <;> simp_all [actAfter]
    | succ i ih =>
      intro m ms a hl
      cases m with
      | nil => cases ms <;> simp_all [actAfter]
      | cons x m =>
        cases ms with
        | nil => simp at hl
        | cons y ms =>
          have := ih m ms (a.put x.dst y) (by simpa using hl)
          simp only [List.take_succ_cons, actAfter, List.getElem?_cons_succ]
          exact this
  intro i
  induction i with
  | zero => intro _; simpa [actAfter] using Is.start (l := l) (vs := vs) (a0 := a0) (L := fun j => decide (j < 0)) (fun _ _ => by simp)
  | succ i ih =>
    intro hi
    have hlt : i < l.length := by omega
    have ho : l[i]? = some (l[i]) := List.getElem?_eq_getElem hlt
    have hv : vs[i]? = some (vs[i]'(by omega)) := List.getElem?_eq_getElem (by omega)
    rw [key i l vs a0 hlen.symm, ho, hv]
    exact (ih (by omega)).step hd ho hv (by simp) (fun j _ hji => by simp; omega)

/-! ### The check -/
def bindsOn (o : Oper) : List Nat := (o.after.toList.filter (Region.binds .any ·)).map (·.on)
def notSel (o : Oper) : Bool := match o.op with | .select _ _ => false | _ => true
def opCk (ops : Array Oper) (pre : List Oper) (i : Nat) (o : Oper) : Bool :=
  notSel o && (bindsOn o).all (fun e => decide (e < i)) &&
  pre.zipIdx.all fun (p, j) => match p.dst with
    | none => true
    | some t => (!(o.looksAt ops).contains t || (bindsOn o).contains j && decide (j < i)) && (decide (j = i) || o.dst != some t)
def lst (m k : Nat) : Array Bool := ((List.range m).map fun i => decide (i < k)).toArray
def tailCk (ops : Array Oper) (n : Nat) : Bool :=
  (Region.ready .any ops (lst ops.size ops.size) == []) &&
  (List.range (ops.size - n)).all fun d => Region.ready .any ops (lst ops.size (n + d)) == [n + d]
def tailWaits (ops : Array Oper) (n : Nat) : Bool :=
  (ops.toList.drop n).zipIdx.all fun (o, d) => if d = 0 then (List.range n).all fun j => (bindsOn o).contains j else (bindsOn o).any fun e => decide (n ≤ e)
def regCk (ops : Array Oper) (n : Nat) : Bool :=
  decide (n ≤ ops.size) && (ops.toList.take n).zipIdx.all (fun (o, i) => opCk ops (ops.toList.take n) i o) && tailCk ops n && tailWaits ops n

theorem mem_bindsOn {o : Oper} {e : Nat} : e ∈ bindsOn o ↔ ∃ x ∈ o.after, Region.binds .any x = true ∧ x.on = e := by
  simp [bindsOn, and_assoc]

theorem ready_iff {i : Nat} {listed : Array Bool} : i ∈ Region.ready .any ops listed ↔ listed.getD i true = false ∧ ∃ o, ops[i]? = some o ∧ ∀ e ∈ bindsOn o, listed.getD e false = true := by
  rw [mem_ready]
  constructor
  · rintro ⟨h0, o, ho, h⟩
    refine ⟨h0, o, ho, fun e he => ?_⟩
    obtain ⟨x, hx, hb, rfl⟩ := mem_bindsOn.1 he
    exact h x hx hb
  · rintro ⟨h0, o, ho, h⟩
    exact ⟨h0, o, ho, fun x hx hb => h _ (mem_bindsOn.2 ⟨x, hx, hb, rfl⟩)⟩

theorem lst_get (m k i : Nat) : (lst m k)[i]? = if i < m then some (decide (i < k)) else none := by
  by_cases h : i < m <;> simp [lst, h]
theorem lst_set (m k : Nat) : (lst m k).setIfInBounds k true = lst m (k + 1) := by
  apply Array.ext_getElem?
  intro i
  rw [Array.getElem?_setIfInBounds]
  by_cases h : k = i
  · subst h; simp only [if_true, lst_get]; by_cases hm : k < m <;> simp [hm, lst]
  · rw [if_neg h, lst_get, lst_get]
    by_cases hm : i < m <;> simp [hm]; omega

theorem tail_any {n : Nat} (hck : tailCk ops n = true) : ∀ (d : Nat) (k : Nat), k + d = ops.size → n ≤ k → ∀ (a : Act) (w : World), wpList P ops Q (ops.toList.drop k) a w →
    wpAny P .any ops Q d (lst ops.size k) a w := by
  simp only [tailCk, Bool.and_eq_true, List.all_eq_true, List.mem_range, beq_iff_eq] at hck
  obtain ⟨h0, hr⟩ := hck
  intro d
  induction d with
  | zero =>
    intro k hk hn a w h
    have : k = ops.size := by omega
    subst this
    have hdrop : ops.toList.drop ops.size = [] := by simp
    rw [hdrop] at h
    exact ⟨h0, h⟩
  | succ d ih =>
    intro k hk hn a w h
    have hlt : k < ops.size := by omega
    have hrk : Region.ready .any ops (lst ops.size k) = [k] := by
      have := hr (k - n) (by omega)
      rwa [show n + (k - n) = k from by omega] at this
    have hdrop : ops.toList.drop k = ops[k] :: ops.toList.drop (k + 1) := by
      rw [List.drop_eq_getElem_cons (by simpa using hlt)]; simp
    rw [hdrop] at h
    refine ⟨fun he => (by rw [hrk] at he; cases he), fun i hi => ?_⟩
    rw [hrk] at hi
    simp only [List.mem_singleton] at hi
    subst hi
    have hoi : ops[i]? = some ops[i] := Array.getElem?_eq_getElem hlt
    unfold wpOp
    simp only [hoi]
    unfold wpList at h
    rw [lst_set]
    split
    · rename_i hw
      rw [if_pos hw] at h
      exact h.imp (Oper.wp_mono fun a' w' h' => ih (i + 1) (by omega) (by omega) a' w' h') id
    · rename_i hw
      rw [if_neg hw] at h
      exact ih (i + 1) (by omega) (by omega) _ _ h

def unl (listed : Array Bool) (n : Nat) : Nat := (List.range n).countP fun i => !listed.getD i false

theorem unl_set {listed : Array Bool} {i : Nat} (hi : i < listed.size) (hu : listed.getD i false = false) : ∀ n, i < n → unl (listed.setIfInBounds i true) n + 1 = unl listed n := by
  intro n
  have same : ∀ m, m ≤ i → unl (listed.setIfInBounds i true) m = unl listed m := by
    intro m hm
    unfold unl
    refine List.countP_congr fun j hj => ?_
    rw [getD_set_ne false (by have := List.mem_range.1 hj; omega)]
  induction n with
  | zero => intro h; omega
  | succ n ih =>
    intro h
    unfold unl at *
    rw [List.range_succ, List.countP_append, List.countP_append]
    by_cases hin : i = n
    · subst hin
      have := same i (Nat.le_refl _)
      rw [this]
      simp only [List.countP_singleton]
      have h1 : (listed.setIfInBounds i true).getD i false = true := by simp [hi]
      simp [h1, hu]
    · have := ih (by omega)
      simp only [List.countP_singleton]
      rw [getD_set_ne false hin]
      omega

theorem unl_zero {listed : Array Bool} {n : Nat} (h : unl listed n = 0) (i : Nat) (hi : i < n) : listed.getD i false = true := by
  unfold unl at h
  rw [List.countP_eq_zero] at h
  have := h i (List.mem_range.2 hi)
  simpa using this

theorem unl_pos {listed : Array Bool} {n : Nat} (h : unl listed n ≠ 0) : ∃ i, i < n ∧ listed.getD i false = false ∧ ∀ j, j < i → listed.getD j false = true := by
  induction n with
  | zero => exact absurd rfl h
  | succ n ih =>
    by_cases h0 : unl listed n = 0
    · refine ⟨n, Nat.lt_succ_self _, ?_, unl_zero h0⟩
      unfold unl at *
      rw [List.range_succ, List.countP_append, h0] at h
      simpa using h
    · obtain ⟨i, hi, h1, h2⟩ := ih h0
      exact ⟨i, by omega, h1, h2⟩

theorem prefix_any {n : Nat} {a0 : Act} {vs : List Value} (hn : n ≤ ops.size) (hlen : vs.length = (ops.toList.take n).length)
    (hops : ∀ i o, (ops.toList.take n)[i]? = some o → opCk ops (ops.toList.take n) i o = true) (htw : tailWaits ops n = true) (hd : dstsApart (ops.toList.take n))
    (hst : ∀ i o v, (ops.toList.take n)[i]? = some o → vs[i]? = some v → GStep P ops S o (actAfter ((ops.toList.take n).take i) (vs.take i) a0) v)
    (hend : ∀ w, S w → wpAny P .any ops Q (ops.size - n) (lst ops.size n) (actAfter (ops.toList.take n) vs a0) w) :
    ∀ (m : Nat) (listed : Array Bool) (a : Act) (w : World), unl listed n = m → listed.size = ops.size → (∀ k, n ≤ k → listed.getD k false = false) →
      Is (ops.toList.take n) vs a0 (fun i => listed.getD i false) a → S w → wpAny P .any ops Q (m + (ops.size - n)) listed a w := by
  have hnl : (ops.toList.take n).length = n := by simp; omega
  intro m
  induction m with
  | zero =>
    intro listed a w hm hsz hout his hS
    have hall := unl_zero hm
    have hL : listed = lst ops.size n := by
      apply Array.ext_getElem?
      intro i
      rw [lst_get]
      by_cases hi : i < ops.size
      · rw [if_pos hi, Array.getElem?_eq_getElem (by omega)]
        congr 1
        by_cases hin : i < n
        · have := hall i hin
          simp [hin]
          simpa [Array.getD_eq_getD_getElem?, Array.getElem?_eq_getElem (show i < listed.size by omega)] using this
        · have := hout i (by omega)
          simp [hin]
          simpa [Array.getD_eq_getD_getElem?, Array.getElem?_eq_getElem (show i < listed.size by omega)] using this
      · rw [if_neg hi, Array.getElem?_eq_none (by omega)]
    have hA : a = actAfter (ops.toList.take n) vs a0 := by
      have h2 := Is.take (a0 := a0) hd hlen n (by omega)
      rw [List.take_of_length_le (by omega : (ops.toList.take n).length ≤ n), List.take_of_length_le (by omega : vs.length ≤ n)] at h2
      have ht : a.tmps = (actAfter (ops.toList.take n) vs a0).tmps := by
        apply Array.ext_getElem?
        intro t
        refine his.same hlen h2 t fun j o hj _ => ?_
        have hlt : j < n := by have := (List.getElem?_eq_some_iff.1 hj).1; omega
        exact ⟨hall j hlt, by simp [hlt]⟩
      have hdf : a.defers = (actAfter (ops.toList.take n) vs a0).defers := his.defers.trans h2.defers.symm
      cases a
      generalize actAfter (ops.toList.take n) vs a0 = b at *
      cases b
      simp_all
    subst hL
    subst hA
    simpa using hend w hS
  | succ m ih =>
    intro listed a w hm hsz hout his hS
    obtain ⟨i0, hi0, hu0, hb0⟩ := unl_pos (n := n) (listed := listed) (by omega)
    have hget : ∀ i, i < n → ∃ o, (ops.toList.take n)[i]? = some o ∧ ops[i]? = some o := fun i hi => by
      have h1 : i < ops.toList.length := by simp; omega
      refine ⟨ops[i]'(by omega), ?_, Array.getElem?_eq_getElem (by omega)⟩
      rw [List.getElem?_take_of_lt hi]
      simp [Array.getElem?_eq_getElem (show i < ops.size by omega)]
    rw [show m + 1 + (ops.size - n) = (m + (ops.size - n)) + 1 from by omega]
    refine ⟨fun hnil => ?_, fun i hi => ?_⟩
    · exfalso
      obtain ⟨o, ho1, ho2⟩ := hget i0 hi0
      have hck := hops i0 o ho1
      simp only [opCk, Bool.and_eq_true, List.all_eq_true, decide_eq_true_eq] at hck
      have : i0 ∈ Region.ready .any ops listed := ready_iff.2 ⟨by
        have : i0 < listed.size := by omega
        simpa [Array.getD_eq_getD_getElem?, Array.getElem?_eq_getElem this] using hu0, o, ho2, fun e he => hb0 e (hck.1.2 e he)⟩
      rw [hnil] at this
      cases this
    · obtain ⟨hun, o, hoi, hall⟩ := ready_iff.1 hi
      have his' : i < ops.size := (Array.getElem?_eq_some_iff.1 hoi).1
      have hun' : listed.getD i false = false := by
        have : i < listed.size := by omega
        simpa [Array.getD_eq_getD_getElem?, Array.getElem?_eq_getElem this] using hun
      by_cases hin : i < n
      · obtain ⟨o', ho1, ho2⟩ := hget i hin
        rw [hoi] at ho2; cases ho2
        have hck := hops i o ho1
        simp only [opCk, Bool.and_eq_true, List.all_eq_true, decide_eq_true_eq] at hck
        obtain ⟨⟨hsel, _⟩, hdep⟩ := hck
        have hv : vs[i]? = some (vs[i]'(by omega)) := List.getElem?_eq_getElem (by omega)
        have hg := hst i o _ ho1 hv
        have htk := Is.take (a0 := a0) hd hlen i (by omega)
        have hg' : GStep P ops S o a vs[i] := hg.congr (fun cs b e => by simp [notSel, e] at hsel) (htk.size.trans his.size.symm) (fun t ht => by
          refine htk.same hlen his t fun j oj hj hdj => ?_
          have hm2 : (oj, j) ∈ (ops.toList.take n).zipIdx := by
            rw [List.mem_zipIdx_iff_getElem?]; exact hj
          have := hdep (oj, j) hm2
          simp only [hdj, Bool.and_eq_true, Bool.or_eq_true, Bool.not_eq_true', List.contains_eq_mem, decide_eq_true_eq, decide_eq_false_iff_not] at this
          rcases this.1 with h | ⟨h1, h2⟩
          · exact absurd ht h
          · exact ⟨by simp [h2], hall j h1⟩)
        refine hg'.wpOp hoi hS fun w' hS' => ih _ _ w' ?_ (by simpa using hsz) ?_ ?_ hS'
        · have := unl_set (n := n) (listed := listed) (i := i) (by omega) hun' hin
          omega
        · intro k hk
          rw [getD_set_ne false (by omega)]
          exact hout k hk
        · refine his.step hd ho1 hv ?_ ?_
          · have : i < listed.size := by omega
            simp [this]
          · intro j _ hji
            exact getD_set_ne false (fun e => hji e.symm)
      · exfalso
        simp only [tailWaits, List.all_eq_true] at htw
        have hm2 : (o, i - n) ∈ (ops.toList.drop n).zipIdx := by
          rw [List.mem_zipIdx_iff_getElem?]
          simp only [List.getElem?_drop]
          rw [show n + (i - n) = i from by omega]
          simpa using hoi
        have := htw _ hm2
        simp only at this
        split at this
        · rename_i h0
          simp only [List.all_eq_true, List.mem_range, List.contains_eq_mem, decide_eq_true_eq] at this
          have h1 := hall i0 (this i0 hi0)
          rw [hu0] at h1
          cases h1
        · simp only [List.any_eq_true, decide_eq_true_eq] at this
          obtain ⟨e, he, hne⟩ := this
          have h1 := hall e he
          rw [hout e hne] at h1
          cases h1

theorem wp_region_pc {id : Nat} {a : Act} {w : World} (n : Nat) (S : World → Prop) (hm : P.follows .mixedOrders = true) (hck : regCk ops n = true) (hS : S w.drew)
    (h : PChain P ops S (fun a => ∀ w, S w → wpList P ops Q (ops.toList.drop n) a w) (ops.toList.take n) a) : (Code.region id ops true).wp P Q a w := by
  simp only [regCk, Bool.and_eq_true, decide_eq_true_eq] at hck
  obtain ⟨⟨⟨hn, hall⟩, htc⟩, htw⟩ := hck
  have hops : ∀ i o, (ops.toList.take n)[i]? = some o → opCk ops (ops.toList.take n) i o = true := fun i o hi => by
    rw [List.all_eq_true] at hall
    exact hall (o, i) (List.mem_zipIdx_iff_getElem?.2 hi)
  have hd : dstsApart (ops.toList.take n) := fun i j oi oj t hi hj hdi hdj => by
    have := hops i oi hi
    simp only [opCk, Bool.and_eq_true, List.all_eq_true] at this
    have h2 := this.2 (oj, j) (List.mem_zipIdx_iff_getElem?.2 hj)
    simp only [hdj, Bool.and_eq_true, Bool.or_eq_true, decide_eq_true_eq] at h2
    rcases h2.2 with e | e
    · exact e.symm
    · simp [hdi] at e
  obtain ⟨vs, hlen, hend, hst⟩ := PChain.vals _ _ h
  refine wp_region_any hm ?_
  have hs0 : unl (Array.replicate ops.size false) n = n := by
    have : ∀ m, unl (Array.replicate ops.size false) m = m := by
      intro m
      induction m with
      | zero => rfl
      | succ m ih =>
        unfold unl at *
        rw [List.range_succ, List.countP_append, ih]
        by_cases h : m < ops.size <;> simp [h]
    exact this n
  have hfalse : ∀ k, (Array.replicate ops.size false).getD k false = false := fun k => by
    by_cases h : k < ops.size <;> simp [h]
  have := prefix_any (Q := Q) (a0 := a) hn hlen hops htw hd hst (fun w' hw' => tail_any htc (ops.size - n) n (by omega) (Nat.le_refl _) _ _ (hend w' hw')) n (Array.replicate ops.size false) a w.drew hs0 (by simp) (fun k _ => hfalse k) (Is.start fun i _ => hfalse i) hS
  rw [show n + (ops.size - n) = ops.size from by omega] at this
  exact this

/-- With S: below the heap's size all is as it was at the region's head. -/
theorem wp_region_b {id : Nat} {a : Act} {w : World} (n : Nat) (hm : P.follows .mixedOrders = true) (hck : regCk ops n = true)
    (h : PChain P ops (Go.RowKit.Below w.heap.size w) (fun a => ∀ w', Go.RowKit.Below w.heap.size w w' → wpList P ops Q (ops.toList.drop n) a w') (ops.toList.take n) a) : (Code.region id ops true).wp P Q a w :=
  wp_region_pc n _ hm hck (Go.RowKit.Below.refl _ _).drew h

/-- The steps of a chain. -/
theorem pc_nil {End : Act → Prop} {a : Act} (h : End a) : PChain P ops S End [] a := h
theorem pc_step {End : Act → Prop} {a : Act} {o : Oper} {r : List Oper} {v : Value} (hw : Region.wanted o (yielded ops a.tmps) = true)
    (h : ∀ w, S w → ∀ K : Act → World → Prop, (∀ w', S w' → K (a.put o.dst v) w') → o.wp P a w K Never) (hr : PChain P ops S End r (a.put o.dst v)) : PChain P ops S End (o :: r) a :=
  ⟨v, .inl ⟨hw, fun w hS => h w hS _ fun _ hS' => ⟨rfl, hS'⟩⟩, hr⟩
theorem pc_skip {End : Act → Prop} {a : Act} {o : Oper} {r : List Oper} (hw : Region.wanted o (yielded ops a.tmps) = false)
    (hr : PChain P ops S End r (a.put o.dst undef)) : PChain P ops S End (o :: r) a := ⟨undef, .inr ⟨hw, rfl⟩, hr⟩
end
end RegP
end Go.Proofs.YtohopceknpgcnaaGreatDoor
/-
  Words for memory and small facts that the walks of this family share: slices that read as lists, blocks known whole, strings as lists of bytes.
  Conditions: none.
-/
namespace Go.Proofs.YtohopceknpgcnaaGreatDoor
open Go.RowKit RegP

abbrev Str := List UInt8
/-- A string's value. -/
abbrev sv (l : Str) : Value := .string ⟨l.toArray⟩
/-- A byte's value. -/
abbrev bv (c : UInt8) : Value := .int .u8 (c.toNat : Int)

@[go_sem] theorem mk_getElem (l : List UInt8) (k : Nat) (h : k < (ByteArray.mk l.toArray).size) : (ByteArray.mk l.toArray)[k]'h = l[k]'(by simpa [ByteArray.size] using h) := rfl
@[go_sem] theorem mk_extract (l : List UInt8) (a b : Nat) : (ByteArray.mk l.toArray).extract a b = ByteArray.mk ((l.drop a).take (b - a)).toArray := ByteArray.extract_mk l a b
@[go_sem] theorem mk_append (x y : List UInt8) : (ByteArray.mk x.toArray ++ ByteArray.mk y.toArray) = ByteArray.mk (x ++ y).toArray := ByteArray.mk_append_mk x y
theorem drop_cons {α : Type} (l : List α) (k : Nat) (h : k < l.length) : l.drop k = l[k] :: l.drop (k + 1) := List.drop_eq_getElem_cons h
theorem drop_all {α : Type} (l : List α) (k : Nat) (h : l.length ≤ k) : l.drop k = [] := List.drop_eq_nil_of_le h
theorem u8_inj {a b : UInt8} (h : (a.toNat : Int) = (b.toNat : Int)) : a = b := UInt8.toNat_inj.1 (by omega)
theorem u8_eq (a b : UInt8) : ((a.toNat : Int) == (b.toNat : Int)) = (a == b) := by
  rw [Bool.eq_iff_iff, beq_iff_eq, beq_iff_eq]; exact ⟨u8_inj, fun h => by rw [h]⟩
theorem ret_int {k : IntKind} {a b : Int} (h : a = b) : Ending.returned (.int k a) = .returned (.int k b) := by rw [h]
theorem ret_bool {a b : Bool} (h : a = b) : Ending.returned (.bool a) = .returned (.bool b) := by rw [h]
theorem ret_str {a b : Str} (h : a = b) : Ending.returned (sv a) = .returned (sv b) := by rw [h]

theorem ret_tup2 {a b c d : Value} (h1 : a = c) (h2 : b = d) : Ending.returned (.tuple #[a, b]) = .returned (.tuple #[c, d]) := by rw [h1, h2]
theorem sv_eq {a b : Str} (h : a = b) : sv a = sv b := by rw [h]
theorem vb_eq {a b : Bool} (h : a = b) : Value.bool a = .bool b := by rw [h]
theorem vi_eq {k : IntKind} {a b : Int} (h : a = b) : Value.int k a = .int k b := by rw [h]

theorem bcell {B : Nat} {W w1 : World} (hb : Below B W w1) : (∀ b o, b < B → w1.cell? ⟨b, o, none⟩ = W.cell? ⟨b, o, none⟩) ∧ (∀ b o, b < B → w1.frozen? ⟨b, o, none⟩ = W.frozen? ⟨b, o, none⟩) :=
  ⟨fun b o h => hb.cell (p := ⟨b, o, none⟩) h, fun b o h => hb.frozen (p := ⟨b, o, none⟩) h⟩

/-! ### A block that is known whole -/
def Blk (w : World) (g : Nat) (t : TypeId) (cs : Array Value) : Prop := w.heap[g]? = some (.cells cs t (0, 0))
section
variable {w w' : World} {g : Nat} {t : TypeId} {cs : Array Value}
theorem Blk.lt (h : Blk w g t cs) : g < w.heap.size := by
  rcases Nat.lt_or_ge g w.heap.size with hlt | hge
  · exact hlt
  · unfold Blk at h; rw [Array.getElem?_eq_none hge] at h; cases h
theorem Blk.cell (h : Blk w g t cs) (i : Nat) : w.cell? ⟨g, i, none⟩ = cs[i]? := cell_of_row w g i cs t (0, 0) h
theorem Blk.frozen (h : Blk w g t cs) (i : Nat) : w.frozen? ⟨g, i, none⟩ = false := by
  unfold Blk at h
  simp [World.frozen?, h]
theorem Blk.new (w : World) (t : TypeId) (cs : Array Value) : Blk (w.alloc (.cells cs t)) w.heap.size t cs := heap_alloc_new w _
theorem Blk.drew (h : Blk w g t cs) : Blk w.drew g t cs := h
theorem Blk.alloc (h : Blk w g t cs) (o : Obj) : Blk (w.alloc o) g t cs := (Below.heap_alloc w o g h.lt).trans h
theorem Blk.set_ (h : Blk w g t cs) (i : Nat) (u : Value) : Blk (w.setCell ⟨g, i, none⟩ u) g t (cs.setIfInBounds i u) := by
  unfold Blk at h ⊢
  simp [World.setCell, Array.getElem?_modify, h]
theorem Blk.far (h : Blk w g t cs) {p : Addr} (hp : g ≠ p.block) (u : Value) : Blk (w.setCell p u) g t cs := (Below.heap_setCell w p u g hp).trans h
theorem Blk.below {B : Nat} (h : Blk w g t cs) (hb : Below B w w') (hg : g < B) : Blk w' g t cs := (hb.block g hg).trans h
theorem Blk.grown {row : Option Nat} (h : Blk w g t cs) (hb : w.grownBy w' row) (hg : some g ≠ row) : Blk w' g t cs := (hb.block g h.lt hg).trans h
theorem Blk.ne_ {g' : Nat} {t' : TypeId} {cs' : Array Value} (h : Blk w g t cs) (h' : Blk w g' t' cs') (hne : t ≠ t') : g ≠ g' := by
  rintro rfl
  unfold Blk at h h'
  rw [h] at h'
  injection h' with h'
  injection h' with _ ht
  exact hne ht
theorem own_blk_ne {base : Nat} {e : TypeId} {size n : Nat} {v : Value} {xs : List Value} (h : w.ownsRow base e size v n xs) (hg : Blk w g t cs) (hne : e ≠ t) : v.ownBlock ≠ some g := by
  rcases h.2 with ⟨rfl, _⟩ | ⟨g', cap, cur, rfl, _, hh, _⟩
  · simp [Value.ownBlock]
  · intro he
    have : g' = g := by simpa [Value.ownBlock] using he
    subst this
    exact Blk.ne_ (t := e) hh hg hne rfl
end

/-- A result that lies in a variable: its block is known whole. -/
theorem ret_row {P : Program} {fn : Func} {R : Ending → World → Prop} {a : Act} {w : World} {p : Tmp} {ty : TypeId} (h : fn.results = #[.cell p ty]) (g : Nat) (t : TypeId) (cs : Array Value) (d : TypeDesc)
    (hp : a.tmps.getD p undef = .pointer (some ⟨g, 0, none⟩)) (hg : Blk w g t cs) (hu : P.underlying ty = some d)
    (hd : (match d with | .struct _ | .array _ _ => true | _ => false) = true) (hi : (P.info? ty).map (·.size) = some cs.size) (hdf : a.defers = [])
    (hR : R (.returned (.agg cs)) w) : bodyPost P fn R .ret a w :=
  bodyPost_ret (v := .agg cs) (results_cell_row h a.tmps w g t cs (0, 0) d hp hg hu hd hi) hdf hR

/-! ### A slice that reads as a list, nil let in -/
theorem block_of_add (a : Addr) (n : Nat) : (a.add n).block = a.block := by unfold Addr.add; split <;> rfl
theorem add_of_add (a : Addr) (i j : Nat) : (a.add i).add j = a.add (i + j) := by
  unfold Addr.add
  by_cases hi : i = 0 <;> by_cases hj : j = 0 <;> simp [hi, hj, Nat.add_assoc]
def Reads (w : World) (B size : Nat) (A : Option Addr) (n : Nat) (xs : List Value) : Prop :=
  xs.length = n * size ∧ (0 < n → ∃ ad, A = some ad ∧ ad.block < B ∧ ∀ j u, xs[j]? = some u → w.cell? (ad.add j) = some u)
section
variable {w w' : World} {B B' size n : Nat} {A : Option Addr} {xs : List Value}
theorem Reads.none_ : Reads w B size A 0 [] := ⟨by simp, fun h => absurd h (by omega)⟩
theorem Reads.at_ {k : Nat} (h : Reads w B 1 A n xs) (hk : k < n) : ∃ ad u, A = some ad ∧ ad.block < B ∧ xs[k]? = some u ∧ w.cell? (ad.add k) = some u := by
  obtain ⟨ad, e, hb, hc⟩ := h.2 (by omega)
  have hl : k < xs.length := by have := h.1; omega
  exact ⟨ad, xs[k], e, hb, List.getElem?_eq_getElem hl, hc k _ (List.getElem?_eq_getElem hl)⟩
theorem Reads.keep (h : Reads w B size A n xs) (hk : ∀ p : Addr, p.block < B → w'.cell? p = w.cell? p) : Reads w' B size A n xs :=
  ⟨h.1, fun hn => by
    obtain ⟨ad, e, hb, hc⟩ := h.2 hn
    exact ⟨ad, e, hb, fun j u hu => (hk _ (by rw [block_of_add]; exact hb)).trans (hc j u hu)⟩⟩
theorem Reads.more (h : Reads w B size A n xs) (hB : B ≤ B') : Reads w B' size A n xs :=
  ⟨h.1, fun hn => by
    obtain ⟨ad, e, hb, hc⟩ := h.2 hn
    exact ⟨ad, e, by omega, hc⟩⟩
theorem Reads.below (h : Reads w B size A n xs) (hb : Below B w w') : Reads w' B size A n xs := h.keep fun _ hp => hb.cell hp
theorem Reads.below' (h : Reads w B size A n xs) {C : Nat} (hb : Below C w w') (hC : B ≤ C) : Reads w' B size A n xs := h.below (hb.mono hC)
theorem Reads.drew (h : Reads w B size A n xs) : Reads w.drew B size A n xs := h
theorem Reads.alloc (h : Reads w B size A n xs) (hB : B ≤ w.heap.size) (o : Obj) : Reads (w.alloc o) B size A n xs := h.keep fun p hp => World.cell?_alloc_lt w o p (by omega)
theorem Reads.setCell (h : Reads w B size A n xs) {p : Addr} (hB : B ≤ p.block) (u : Value) : Reads (w.setCell p u) B size A n xs :=
  h.keep fun q hq => World.cell?_setCell_other w p q u (fun e => by subst e; omega)
theorem Reads.grown (h : Reads w B size A n xs) {row : Option Nat} (hg : w.grownBy w' row) (hB : B ≤ w.heap.size) (hr : ∀ g, row = some g → B ≤ g) : Reads w' B size A n xs :=
  h.keep fun p hp => World.cell?_of_block (hg.block p.block (by omega) (fun e => by have := hr _ e.symm; omega))
theorem Reads.grown2 (h : Reads w B size A n xs) {lo : Nat} (hlo : ∀ ad, A = some ad → lo ≤ ad.block) {row : Option Nat} (hg : w.grownBy w' row) (hB : B ≤ w.heap.size) (hr : ∀ g, row = some g → g < lo ∨ B ≤ g) : Reads w' B size A n xs :=
  ⟨h.1, fun hn => by
    obtain ⟨ad, e, hb, hc⟩ := h.2 hn
    exact ⟨ad, e, hb, fun j u hu => (World.cell?_of_block (hg.block _ (by rw [block_of_add]; omega) (fun e' => by
      have h1 := hr _ e'.symm
      rw [block_of_add] at h1
      have := hlo ad e
      omega))).trans (hc j u hu)⟩⟩
theorem Reads.cut (h : Reads w B size A n xs) {k cap : Nat} (hk : k ≤ n) (hc : n ≤ cap) :
    Reads w B size (if cap = k then A else A.map (·.add (k * size))) (n - k) (xs.drop (k * size)) := by
  refine ⟨by rw [List.length_drop, h.1, Nat.sub_mul], fun hn => ?_⟩
  obtain ⟨ad, rfl, hb, hcell⟩ := h.2 (by omega)
  rw [if_neg (by omega)]
  refine ⟨ad.add (k * size), rfl, by rw [block_of_add]; exact hb, fun j u hu => ?_⟩
  rw [add_of_add]
  exact hcell _ u (by rw [← hu, List.getElem?_drop])
theorem Reads.pre (h : Reads w B size A n xs) {k : Nat} (hk : k ≤ n) : Reads w B size A k (xs.take (k * size)) := by
  have hm : k * size ≤ n * size := Nat.mul_le_mul_right size hk
  refine ⟨by rw [List.length_take, h.1]; omega, fun hn => ?_⟩
  obtain ⟨ad, e, hb, hc⟩ := h.2 (by omega)
  refine ⟨ad, e, hb, fun j u hu => hc j u ?_⟩
  rw [List.getElem?_take] at hu
  split at hu
  · exact hu
  · cases hu
theorem Reads.of_own {base : Nat} {e : TypeId} {c : Nat} (h : w.ownsRow base e size (.slice A n c) n xs) : Reads w w.heap.size size A n xs := by
  refine ⟨h.1, fun hn => ?_⟩
  obtain ⟨g, cap, hv, _, hlt⟩ := h.form hn
  have hA : A = some ⟨g, 0, none⟩ := by injection hv
  subst hA
  exact ⟨_, rfl, hlt, h.cells (g := g) rfl⟩
end

/-- One element of a slice of one-cell elements. -/
theorem Reads.el {α : Type} {f : α → Value} {xs : List α} {w : World} {B : Nat} {A : Option Addr} (h : Reads w B 1 A xs.length (xs.map f)) {k : Nat} (hk : k < xs.length) :
    ∃ ad, A = some ad ∧ ad.block < B ∧ w.cell? (ad.add k) = some (f xs[k]) := by
  obtain ⟨ad, u, e, hb, hx, hc⟩ := h.at_ hk
  rw [List.getElem?_map, List.getElem?_eq_getElem hk] at hx
  exact ⟨ad, e, hb, by rw [hc]; exact hx.symm⟩

/-- The value v is a slice of n elements that read as xs, below block B. -/
def IsSl (w : World) (B size : Nat) (v : Value) (n : Nat) (xs : List Value) : Prop := ∃ A c, v = .slice A n c ∧ n ≤ c ∧ c ≤ maxLen ∧ Reads w B size A n xs
theorem IsSl.below {w w' : World} {B C size n : Nat} {v : Value} {xs : List Value} (h : IsSl w B size v n xs) (hb : Below C w w') (hC : B ≤ C) : IsSl w' B size v n xs :=
  let ⟨A, c, e, h1, h2, h3⟩ := h; ⟨A, c, e, h1, h2, h3.below' hb hC⟩
theorem IsSl.more {w : World} {B C size n : Nat} {v : Value} {xs : List Value} (h : IsSl w B size v n xs) (hC : B ≤ C) : IsSl w C size v n xs :=
  let ⟨A, c, e, h1, h2, h3⟩ := h; ⟨A, c, e, h1, h2, h3.more hC⟩

end Go.Proofs.YtohopceknpgcnaaGreatDoor
/-
  Contracts: letters, words, long words, lexicons (layers 1 and 5 of both packages).
  Conditions: lengths at most 2^40.
-/
namespace Go.Proofs.YtohopceknpgcnaaGreatDoor
open Go.RowKit RegP
set_option maxHeartbeats 400000

/-! ### The plain words -/
def smallB (c : UInt8) : Bool := decide (97 ≤ (c.toNat : Int)) && decide ((c.toNat : Int) ≤ 122)
def capB (c : UInt8) : Bool := decide (65 ≤ (c.toNat : Int)) && decide ((c.toNat : Int) ≤ 90)
def inR (x lo hi : Int) : Bool := decide (lo ≤ x) && decide (x ≤ hi)
def isWordB (l : Str) : Bool := l.all smallB && inR l.length 1 12
def longB (l : Str) : Bool := decide (2 ≤ l.length) && isWordB l
def sLt (a b : Str) : Bool := Op.bytesLess a b
def incB : List Str → Bool
  | [] => true
  | [_] => true
  | a :: b :: r => sLt a b && incB (b :: r)
def lexFrom : Option Str → List Str → Bool
  | _, [] => true
  | none, a :: r => longB a && lexFrom (some a) r
  | some q, a :: r => longB a && sLt q a && lexFrom (some a) r
def prevOf (ws : List Str) (k : Nat) : Option Str := if k = 0 then none else ws[k - 1]?
def lexB (ws : List Str) : Bool := lexFrom none ws && decide (ws.length ≤ 200)

theorem sLe_eq : ∀ x y : Str, (Op.bytesLess x y || x == y) = !Op.bytesLess y x
  | [], [] => rfl
  | [], _ :: _ => rfl
  | _ :: _, [] => rfl
  | a :: x, b :: y => by
    have ih := sLe_eq x y
    simp only [Op.bytesLess, List.cons_beq_cons]
    by_cases h : a = b
    · subst h
      have : decide (a < a) = false := by simp
      simp only [this, beq_self_eq_true, Bool.true_and, Bool.false_or]
      exact ih
    · have h1 : (a == b) = false := by simp [h]
      have h2 : (b == a) = false := by simp [Ne.symm h]
      have h3 : decide (a < b) = !decide (b < a) := by
        rw [Bool.eq_iff_iff]
        simp only [decide_eq_true_eq, Bool.not_eq_true', decide_eq_false_iff_not, UInt8.lt_iff_toNat_lt]
        have : a.toNat ≠ b.toNat := fun e => h (UInt8.toNat_inj.1 e)
        omega
      simp [h1, h2, h3]

/-! ### Letters -/
theorem small_any (c : UInt8) (w : World) :
    Calls Tryz.prog 122 #[bv c] w fun e w' => e = .returned (.bool (smallB c)) ∧ w = w' := by
  go_enter Tryz.func122, Tryz.ntmps122
  go_wp2
  all_goals (go_ret; exact ⟨by unfold smallB; congr 2; simp [*] <;> omega, rfl⟩)
theorem capital_any (c : UInt8) (w : World) :
    Calls Tryz.prog 125 #[bv c] w fun e w' => e = .returned (.bool (capB c)) ∧ w = w' := by
  go_enter Tryz.func125, Tryz.ntmps125
  go_wp2
  all_goals (go_ret; exact ⟨by unfold capB; congr 2; simp [*] <;> omega, rfl⟩)
theorem l01Small_any (c : UInt8) (w : World) :
    Calls Tryz.prog 70 #[bv c] w fun e w' => e = .returned (.bool (smallB c)) ∧ w = w' := by
  go_enter Tryz.func70, Tryz.ntmps70
  go_wp2
  all_goals (go_ret; exact ⟨by unfold smallB; congr 2; simp [*] <;> omega, rfl⟩)
theorem l03Capital_any (c : UInt8) (w : World) :
    Calls Tryz.prog 154 #[bv c] w fun e w' => e = .returned (.bool (capB c)) ∧ w = w' := by
  go_enter Tryz.func154, Tryz.ntmps154
  go_wp2
  all_goals (go_ret; exact ⟨by unfold capB; congr 2; simp [*] <;> omega, rfl⟩)
theorem l00In_any (x lo hi : Int) (w : World) :
    Calls Tryz.prog 69 #[.int .i64 x, .int .i64 lo, .int .i64 hi] w fun e w' => e = .returned (.bool (inR x lo hi)) ∧ w = w' := by
  go_enter Tryz.func69, Tryz.ntmps69
  go_wp2
  all_goals (go_ret; exact ⟨by unfold inR; congr 2; simp [*] <;> omega, rfl⟩)
theorem within_any (x lo hi : Int) (w : World) :
    Calls Tryz.prog 51 #[.int .i64 x, .int .i64 lo, .int .i64 hi] w fun e w' => e = .returned (.bool (inR x lo hi)) ∧ w = w' := by
  go_enter Tryz.func51, Tryz.ntmps51
  go_wp2
  all_goals (go_ret; exact ⟨by unfold inR; congr 2; simp [*] <;> omega, rfl⟩)

/-! ### Words -/
theorem sIsWord_any (l : Str) (w : World) (hl : l.length ≤ 2 ^ 40) :
    Calls Tryz.prog 153 #[sv l] w fun e w' => e = .returned (.bool (isWordB l)) ∧ w = w' := by
  go_enter Tryz.func153, Tryz.ntmps153
  go_wp2_with (fail)
  go_loop [3] (fun i => ∃ k : Nat, k ≤ l.length ∧ i = .int .i64 k ∧ Hid (l.all smallB = (l.drop k).all smallB)) (fun i => l.length - (intOf i).toNat)
  case atStart => exact ⟨0, by omega, rfl, rfl⟩
  case round =>
    obtain ⟨k, hk, rfl, he⟩ := hrel
    by_cases hlt : k < l.length
    · have hd := Lib.hid (drop_cons l k hlt)
      cases hc : smallB l[k]
      all_goals
        go_wp2_with (go_at_call 70; refine (l01Small_any _ _).mono ?_; rintro e w' ⟨rfl, rfl⟩)
      · go_ret
        exact ⟨by rw [isWordB, he.out, hd.out, List.all_cons, hc]; simp, rfl⟩
      · go_round
        case rel => exact ⟨k + 1, by omega, by go_num, Lib.hid (by rw [he.out, hd.out, List.all_cons, hc]; simp)⟩
        case measure => simp [intOf]; omega
    · rw [drop_all l k (by omega)] at he
      go_wp2_with (go_at_call 69; refine (l00In_any _ _ _ _).mono ?_; rintro e w' ⟨rfl, rfl⟩)
      go_ret
      exact ⟨by rw [isWordB, he.out]; simp, rfl⟩
theorem l05Long_any (l : Str) (w : World) (hl : l.length ≤ 2 ^ 40) :
    Calls Tryz.prog 109 #[sv l] w fun e w' => e = .returned (.bool (longB l)) ∧ w = w' := by
  go_enter Tryz.func109, Tryz.ntmps109
  by_cases h : 1 < l.length
  · go_wp2_with (go_at_call 153; refine (sIsWord_any _ _ hl).mono ?_; rintro e w' ⟨rfl, rfl⟩)
    go_ret
    exact ⟨by unfold longB; simp; omega, rfl⟩
  · go_wp2_with (go_at_call 153; refine (sIsWord_any _ _ hl).mono ?_; rintro e w' ⟨rfl, rfl⟩)
    go_ret
    exact ⟨by unfold longB; simp; omega, rfl⟩
theorem onlySmall_any (l : Str) (w : World) (hl : l.length ≤ 2 ^ 40) :
    Calls Tryz.prog 77 #[sv l] w fun e w' => e = .returned (.bool (l.all smallB)) ∧ Below w.heap.size w w' := by
  have kb := fun (w : World) => run_bytes_of_string (P := Tryz.prog) w 9 111 5 ⟨l.toArray⟩ Tryz.underlying9 Tryz.underlying111 Tryz.underlying5
  have kc : ∀ (f : Nat × Nat) (j : Nat) (hj : j < l.length), (w.alloc (Obj.cells (bytesRow ⟨l.toArray⟩ (grownCap w l.length 0 5)) 5 f)).cell? ⟨w.heap.size, j, none⟩ = some (.int .u8 (l[j].toNat : Int)) := by
    intro f j hj
    rw [World.cell?_alloc_mark, bytesRow_at _ _ _ (by simpa using hj)]
    simp
  have kf : Below w.heap.size w (w.alloc (Obj.cells (bytesRow ⟨l.toArray⟩ (grownCap w l.length 0 5)) 5 ((bytesRow ⟨l.toArray⟩ (grownCap w l.length 0 5)).size, (bytesRow ⟨l.toArray⟩ (grownCap w l.length 0 5)).size + 1))) := (Below.refl _ _).alloc (Nat.le_refl _) _
  go_enter Tryz.func77, Tryz.ntmps77
  go_wp2_with (fail)
  generalize (bytesRow { data := l.toArray } (grownCap w l.length 0 5)) = row at *
  go_loop [8] (fun i => ∃ k : Nat, k ≤ l.length ∧ i = .int .i64 k ∧ Hid (l.all smallB = (l.drop k).all smallB)) (fun i => l.length - (intOf i).toNat)
  case atStart => exact ⟨0, by omega, rfl, rfl⟩
  case round =>
    obtain ⟨k, hk, rfl, he⟩ := hrel
    by_cases hlt : k < l.length
    · have hd := Lib.hid (drop_cons l k hlt)
      have kc1 := kc (row.size, row.size + 1) k hlt
      clear kc
      cases hc : smallB l[k]
      all_goals
        go_wp2_with (go_at_call 122; refine (small_any _ _).mono ?_; rintro e w' ⟨rfl, rfl⟩)
      · go_ret
        exact ⟨by rw [he.out, hd.out, List.all_cons, hc]; simp, kf.drew⟩
      · go_round
        case rel => exact ⟨k + 1, by omega, by go_num, Lib.hid (by rw [he.out, hd.out, List.all_cons, hc]; simp)⟩
        case measure => simp [intOf]; omega
    · rw [drop_all l k (by omega)] at he
      go_wp2
      go_ret
      exact ⟨by rw [he.out]; simp, kf.drew⟩
theorem iIsWord_any (l : Str) (w : World) (hl : l.length ≤ 2 ^ 40) :
    Calls Tryz.prog 123 #[sv l] w fun e w' => e = .returned (.bool (isWordB l)) ∧ Below w.heap.size w w' := by
  go_enter Tryz.func123, Tryz.ntmps123
  by_cases h : 1 ≤ l.length
  · by_cases h2 : l.length ≤ 12
    · go_wp2_with (go_at_call 77; refine (onlySmall_any _ _ hl).mono ?_; rintro e w' ⟨rfl, hb⟩)
      go_ret
      exact ⟨ret_bool (by unfold isWordB inR; simp; omega), hb⟩
    · go_wp2_with (go_at_call 77; refine (onlySmall_any _ _ hl).mono ?_; rintro e w' ⟨rfl, hb⟩)
      go_ret
      exact ⟨ret_bool (by unfold isWordB inR; simp; omega), Below.refl _ _⟩
  · go_wp2_with (go_at_call 77; refine (onlySmall_any _ _ hl).mono ?_; rintro e w' ⟨rfl, hb⟩)
    go_ret
    exact ⟨ret_bool (by unfold isWordB inR; simp; omega), Below.refl _ _⟩
theorem isLong_any (l : Str) (w : World) (hl : l.length ≤ 2 ^ 40) :
    Calls Tryz.prog 79 #[sv l] w fun e w' => e = .returned (.bool (longB l)) ∧ Below w.heap.size w w' := by
  go_enter Tryz.func79, Tryz.ntmps79
  by_cases h : 2 ≤ l.length
  · go_wp2_with (go_at_call 123; refine (iIsWord_any _ _ hl).mono ?_; rintro e w' ⟨rfl, hb⟩)
    go_ret
    exact ⟨ret_bool (by unfold longB; simp; omega), hb⟩
  · go_wp2_with (go_at_call 123; refine (iIsWord_any _ _ hl).mono ?_; rintro e w' ⟨rfl, hb⟩)
    go_ret
    exact ⟨ret_bool (by unfold longB; simp; omega), Below.refl _ _⟩
end Go.Proofs.YtohopceknpgcnaaGreatDoor
/-
  Contracts: lexicons (layer 5 of both packages).
  Conditions: each word at most 2^40 letters, at most 2^40 words.
-/
namespace Go.Proofs.YtohopceknpgcnaaGreatDoor
open Go.RowKit RegP
set_option maxHeartbeats 400000

theorem incB_drop (ws : List Str) (k : Nat) (hk : 1 ≤ k) (h : k < ws.length) : incB (ws.drop (k - 1)) = (sLt ws[k - 1] ws[k] && incB (ws.drop k)) := by
  rw [drop_cons ws (k - 1) (by omega)]
  have e : ws.drop (k - 1 + 1) = ws[k] :: ws.drop (k + 1) := by rw [show k - 1 + 1 = k from by omega]; exact drop_cons ws k h
  rw [e, incB, ← drop_cons ws k h]
theorem incB_end (ws : List Str) (k : Nat) (hk : 1 ≤ k) (h : ws.length ≤ k) : incB (ws.drop (k - 1)) = true := by
  by_cases h1 : k - 1 < ws.length
  · rw [drop_cons ws (k - 1) h1, drop_all ws _ (by omega)]; rfl
  · rw [drop_all ws _ (by omega)]; rfl

theorem lexFrom_eq (ws : List Str) : lexFrom none ws = (incB ws && ws.all longB) := by
  have key : ∀ (r : List Str) (a : Str), lexFrom (some a) r = (incB (a :: r) && r.all longB) := by
    intro r
    induction r with
    | nil => intro a; rfl
    | cons b r ih => intro a; simp only [lexFrom, ih, incB, List.all_cons]; cases longB b <;> cases sLt a b <;> simp
  cases ws with
  | nil => rfl
  | cons a r => simp only [lexFrom, key, List.all_cons]; cases longB a <;> simp
theorem below_drewN {B : Nat} {a w : World} (h : Below B a w) (n : Nat) : Below B a (w.drewN n) := ⟨h.os, h.tape, h.output, h.size, h.block⟩

theorem increasing_any (A : Option Addr) (c : Nat) (ws : List Str) (w : World) (hr : Reads w w.heap.size 1 A ws.length (ws.map sv)) (hn : ws.length ≤ 2 ^ 40) :
    Calls Tryz.prog 78 #[.slice A ws.length c] w fun e w' => e = .returned (.bool (incB ws)) ∧ Below w.heap.size w w' := by
  go_enter Tryz.func78, Tryz.ntmps78
  go_wp2_with (fail)
  go_loopw [3] (fun i wr => ∃ k : Nat, 1 ≤ k ∧ k ≤ ws.length + 1 ∧ i = .int .i64 k ∧ Hid (incB ws = incB (ws.drop (k - 1))) ∧ Below w.heap.size w wr) (fun i _ => ws.length + 1 - (intOf i).toNat)
  case atStart => exact ⟨1, by omega, by omega, rfl, rfl, Below.refl _ _⟩
  case round =>
    obtain ⟨k, hk1, hk2, rfl, he, hb⟩ := hrel
    by_cases hlt : k < ws.length
    · obtain ⟨ad, rfl, _, hc0⟩ := (hr.below hb).el (k := k - 1) (by omega)
      obtain ⟨ad', e1, _, hc1⟩ := (hr.below hb).el (k := k) hlt
      cases e1
      have hd := Lib.hid (incB_drop ws k hk1 hlt)
      generalize ws[k - 1] = x at *
      generalize ws[k] = y at *
      cases hxy : Op.bytesLess x y
      · go_wp2_with (fail)
        go_quiet (fail)
        go_wp2
        go_ret
        exact ⟨ret_bool (by rw [he.out, hd.out, sLt, hxy]; rfl), below_drewN hb _⟩
      · go_wp2_with (fail)
        go_quiet (fail)
        go_wp2
        go_roundw
        case rel => exact ⟨k + 1, by omega, by omega, by go_num, Lib.hid (by rw [he.out, hd.out, sLt, hxy]; rfl), below_drewN hb _⟩
        case measure => simp [intOf]; omega
    · have he2 := Lib.hid (incB_end ws k hk1 (by omega))
      go_wp2
      go_ret
      exact ⟨ret_bool (by rw [he.out, he2.out]), hb⟩

theorem iValidLexicon_any (A : Option Addr) (c : Nat) (ws : List Str) (w : World) (hr : Reads w w.heap.size 1 A ws.length (ws.map sv)) (hn : ws.length ≤ 2 ^ 40) (hs : ∀ x ∈ ws, x.length ≤ 2 ^ 40) :
    Calls Tryz.prog 52 #[.agg #[.slice A ws.length c]] w fun e w' => e = .returned (.bool (lexB ws)) ∧ Below w.heap.size w w' := by
  have hlex : lexB ws = (incB ws && ws.all longB && decide (ws.length ≤ 200)) := by unfold lexB; rw [lexFrom_eq]
  have Hlex := Lib.hid hlex
  clear hlex
  by_cases h200 : 200 < ws.length
  · go_enter Tryz.func52, Tryz.ntmps52
    go_wp2_with (fail)
    go_ret
    exact ⟨ret_bool (by rw [Hlex.out]; simp; omega), (Below.refl _ _).alloc (Nat.le_refl _) _⟩
  cases hinc : incB ws
  · go_enter Tryz.func52, Tryz.ntmps52
    go_wp2_with (go_at_call 78; refine (increasing_any _ _ ws _ (hr.alloc (Nat.le_refl _) _ |>.more (by simp)) hn).mono ?_; rintro e w' ⟨rfl, hb⟩)
    go_ret
    exact ⟨ret_bool (by rw [Hlex.out, hinc]; simp), ((Below.refl _ _).alloc (Nat.le_refl _) _).trans (hb.mono (by simp))⟩
  · go_enter Tryz.func52, Tryz.ntmps52
    go_wp2_with (go_at_call 78; refine (increasing_any _ _ ws _ (hr.alloc (Nat.le_refl _) _ |>.more (by simp)) hn).mono ?_; rintro e w' ⟨rfl, hb⟩; have hbc := bcell hb)
    have hr1 : Reads w' w.heap.size 1 A ws.length (ws.map sv) := (hr.alloc (Nat.le_refl _) _).below' hb (by simp)
    have hb1 : Below w.heap.size w w' := ((Below.refl _ _).alloc (Nat.le_refl _) _).trans (hb.mono (by simp))
    clear hbc hb
    go_loopw [18] (fun i wr => ∃ k : Nat, k ≤ ws.length ∧ i = .int .i64 k ∧ Hid (ws.all longB = (ws.drop k).all longB) ∧ Below w.heap.size w wr) (fun i _ => ws.length - (intOf i).toNat)
    case atStart => exact ⟨0, by omega, rfl, rfl, hb1⟩
    case round =>
      obtain ⟨k, hk, rfl, he, hb2⟩ := hrel
      by_cases hlt : k < ws.length
      · obtain ⟨ad, rfl, _, hc0⟩ := (hr.below hb2).el (k := k) hlt
        have hd := Lib.hid (drop_cons ws k hlt)
        have hx := hs ws[k] (List.getElem_mem _)
        generalize ws[k] = x at *
        cases hxl : longB x
        all_goals
          go_wp2_with (go_at_call 79; refine (isLong_any _ _ hx).mono ?_; rintro e w3 ⟨rfl, hb3⟩)
        · go_ret
          exact ⟨ret_bool (by rw [Hlex.out, he.out, hd.out, List.all_cons, hxl]; simp), hb2.trans (hb3.mono hb2.size)⟩
        · go_roundw
          case rel => exact ⟨k + 1, by omega, by go_num, Lib.hid (by rw [he.out, hd.out, List.all_cons, hxl]; simp), hb2.trans (hb3.mono hb2.size)⟩
          case measure => simp [intOf]; omega
      · rw [drop_all ws k (by omega)] at he
        go_wp2
        go_ret
        exact ⟨ret_bool (by rw [Hlex.out, hinc, he.out]; simp; omega), hb2⟩

theorem l05Ok_any (A : Option Addr) (c : Nat) (ws : List Str) (p : Addr) (w : World) (hp : w.cell? p = some (.slice A ws.length c)) (hr : Reads w w.heap.size 1 A ws.length (ws.map sv)) (hn : ws.length ≤ 2 ^ 40) (hs : ∀ x ∈ ws, x.length ≤ 2 ^ 40) :
    Calls Tryz.prog 71 #[.pointer (some p)] w fun e w' => e = .returned (.bool (lexB ws)) ∧ Below w.heap.size w w' := by
  go_enter Tryz.func71, Tryz.ntmps71
  go_wp2_with (fail)
  go_loopw [3] (fun i wr => ∃ k : Nat, k ≤ ws.length ∧ i = .int .i64 k ∧ Hid (lexFrom none ws = lexFrom (prevOf ws k) (ws.drop k)) ∧ Below w.heap.size w wr) (fun i _ => ws.length - (intOf i).toNat)
  case atStart => exact ⟨0, by omega, rfl, rfl, Below.refl _ _⟩
  case round =>
    obtain ⟨k, hk, rfl, he, hb2⟩ := hrel
    have hp1 : wr.cell? p = some (.slice A ws.length c) := (hb2.cell (World.block_lt_of_cell? w p hp)).trans hp
    by_cases hlt : k < ws.length
    · obtain ⟨ad, rfl, _, hc0⟩ := (hr.below hb2).el (k := k) hlt
      have hd := Lib.hid (drop_cons ws k hlt)
      have hx := hs ws[k] (List.getElem_mem _)
      cases hxl : longB ws[k]
      · go_wp2_with (fail)
        go_quiet ((go_at_call 109; exact Calls.quiet_of_same ((l05Long_any _ _ hx).mono fun _ _ ⟨a, b⟩ => ⟨a, b.symm⟩)))
        go_wp2
        go_ret
        exact ⟨ret_bool (by rw [lexB, he.out, hd.out]; cases prevOf ws k <;> simp [lexFrom, hxl]), below_drewN hb2 _⟩
      · by_cases h0 : 0 < k
        · obtain ⟨ad', e1, _, hc1⟩ := (hr.below hb2).el (k := k - 1) (by omega)
          cases e1
          have hpv : Hid (prevOf ws k = some ws[k - 1]) := by
            unfold prevOf Hid; rw [if_neg (by omega)]; exact List.getElem?_eq_getElem (by omega)
          generalize ws[k - 1] = y at *
          generalize hxe : ws[k] = x at *
          have hxe' := Lib.hid hxe
          clear hxe
          have hle := sLe_eq x y
          cases hxy : Op.bytesLess y x
          all_goals rw [hxy] at hle
          · go_wp2_with (fail)
            go_quiet ((go_at_call 109; exact Calls.quiet_of_same ((l05Long_any _ _ hx).mono fun _ _ ⟨a, b⟩ => ⟨a, b.symm⟩)))
            go_wp2
            go_ret
            exact ⟨ret_bool (by rw [lexB, he.out, hd.out, hpv.out]; simp [lexFrom, hxl, sLt, hxy]), below_drewN hb2 _⟩
          · go_wp2_with (fail)
            go_quiet ((go_at_call 109; exact Calls.quiet_of_same ((l05Long_any _ _ hx).mono fun _ _ ⟨a, b⟩ => ⟨a, b.symm⟩)))
            go_wp2
            go_roundw
            case rel => exact ⟨k + 1, by omega, by go_num, Lib.hid (by rw [he.out, hd.out, hpv.out, lexFrom, hxl, sLt, hxy]; simp [prevOf, hlt, hxe'.out]), below_drewN hb2 _⟩
            case measure => simp [intOf]; omega
        · have hk0 : k = 0 := by omega
          have hg : decide ((0 : Int) < (k : Int)) = false := by simp; omega
          have hpv : Hid (prevOf ws k = none) := by unfold prevOf Hid; rw [if_pos hk0]
          have hk0' := Lib.hid hk0
          clear hk0
          generalize hxe : ws[k] = x at *
          have hxe' := Lib.hid hxe
          clear hxe
          go_wp2_with (fail)
          go_quiet ((go_at_call 109; exact Calls.quiet_of_same ((l05Long_any _ _ hx).mono fun _ _ ⟨a, b⟩ => ⟨a, b.symm⟩)))
          go_wp2
          go_roundw
          case rel => exact ⟨k + 1, by omega, by go_num, Lib.hid (by rw [he.out, hd.out, hpv.out, lexFrom, hxl]; simp [prevOf, hlt, hxe'.out]), below_drewN hb2 _⟩
          case measure => simp [intOf]; omega
    · rw [drop_all ws k (by omega)] at he
      go_wp2
      go_ret
      exact ⟨ret_bool (by rw [lexB, he.out]; cases prevOf ws k <;> simp [lexFrom] <;> omega), hb2⟩
end Go.Proofs.YtohopceknpgcnaaGreatDoor
