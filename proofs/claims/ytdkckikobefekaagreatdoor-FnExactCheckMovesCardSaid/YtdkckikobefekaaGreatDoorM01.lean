/-
  A region that draws its order: the operations ahead of number n each yield one value in every world that meets S, and S holds behind each; the rest stands in a forced order. Then the text's order serves for all orders; A region that draws its order, the second form: what the world is may depend on which operations have been carried out ('S L w', L: which ones), and the operations behind number n are forced by their edges, direct or not.
  Conditions: the closed check regCk of the region's own edges; the closed check regCkL of the region's own edges.
-/
import Derived.OrdersHeld
import Derived.Tactics
import Derived.Below
namespace Go.Proofs.YtdkckikobefekaaGreatDoor
theorem qqS {α : Type} (l : List α) (i : Nat) (a : α) : l.toArray.setIfInBounds i a = (l.set i a).toArray := List.setIfInBounds_toArray l i a
theorem qqC {α : Type} {x : α} {xs : List α} {i : Nat} {a : α} : (x :: xs).set (i + 1) a = x :: xs.set i a := List.set_cons_succ
theorem qqZ {α : Type} {x : α} {xs : List α} {a : α} : (x :: xs).set 0 a = a :: xs := List.set_cons_zero
theorem qqT {α : Type} {a : α} {as : List α} {i : Nat} : List.take (i + 1) (a :: as) = a :: List.take i as := List.take_succ_cons
theorem qqD {α : Type} {a : α} {l : List α} {i : Nat} : List.drop (i + 1) (a :: l) = List.drop i l := List.drop_succ_cons
namespace RegP
section
variable {P : Program} {ops : Array Oper} {Q : Exit → Act → World → Prop} {S : World → Prop}
def Never : Exit → Act → World → Prop := fun _ _ _ => False
def PStep (P : Program) (S : World → Prop) (o : Oper) (a : Act) (v : Value) : Prop :=
 ∀ w, S w → o.wp P a w (fun a' w' => a' = a.put o.dst v ∧ S w') Never
theorem put_get (a : Act) (d : Option Tmp) (v : Value) (t : Nat) :
   (a.put d v).tmps[t]? = if d = some t then a.tmps[t]?.map (fun _ => v) else a.tmps[t]? := by
 cases d with
 | none => simp [Act.put]
 | some e =>
   simp only [Act.put, Option.some.injEq]
   by_cases h : e = t
   · subst h
     by_cases hl : e < a.tmps.size
     · simp [hl]
     · simp [hl]
   · simp [Array.getElem?_setIfInBounds_ne h, h]
theorem put_size (a : Act) (d : Option Tmp) (v : Value) : (a.put d v).tmps.size = a.tmps.size := by cases d <;> simp [Act.put]
theorem put_defers' (a : Act) (d : Option Tmp) (v : Value) : (a.put d v).defers = a.defers := by cases d <;> rfl
theorem put_inj {a a' : Act} {d : Option Tmp} {u v : Value} (hsz : a.tmps.size = a'.tmps.size) (h : a.put d u = a.put d v) : a'.put d u = a'.put d v := by
 rcases d with _ | e
 · rfl
 · obtain ⟨e, rfl⟩ : ∃ n : Nat, n = e := ⟨e, rfl⟩
   by_cases hl : (e : Nat) < a.tmps.size
   · have h1 := congrArg (fun x : Act => x.tmps[e]?) h
     simp only [put_get, if_true] at h1
     have : u = v := by simpa [hl] using h1
     rw [this]
   · have hl' : a'.tmps.size ≤ (e : Nat) := by omega
     have k : ∀ x : Value, a'.put (some e) x = a' := fun x => by
       simp only [Act.put]
       rw [Array.setIfInBounds_eq_of_size_le hl']
     rw [k, k]
theorem PStep.use {o : Oper} {a : Act} {v : Value} {w : World} {K : Act → World → Prop} (h : PStep P S o a v) (hS : S w) (hK : ∀ w', S w' → K (a.put o.dst v) w') : o.wp P a w K Q := by
 have := h w hS
 unfold Oper.wp at *
 generalize (execOp a.eval o).run P w = r at *
 cases r with
 | ok n w' =>
   cases n <;> simp only [Oper.upon] at this ⊢
   case value u => rw [this.1]; exact hK _ this.2
   case skip => rw [this.1]; exact hK _ this.2
   case defer d =>
     exfalso
     have h1 := congrArg Act.defers this.1
     rw [put_defers', put_defers'] at h1
     have := congrArg List.length h1
     simp at this
   case enter f args =>
     refine Calls.mono this fun e w'' he => ?_
     cases e with
     | returned u => simp only at he ⊢; rw [he.1]; exact hK _ he.2
     | panicked c => exact he.elim
     | outgrown => obtain ⟨_, _, hh⟩ := he; exact hh.elim
   case row row args => exact Rows.mono this fun u w'' he => by rw [he.1]; exact hK _ he.2
 | halt x w' =>
   cases x <;> simp only [Oper.upon] at this
   case panic u => exact this.elim
theorem PStep.congr {o : Oper} {a a' : Act} {v : Value} (hs : ∀ cs b, o.op ≠ .select cs b) (hsz : a.tmps.size = a'.tmps.size) (he : ∀ x ∈ o.op.operands, a.eval x = a'.eval x) (h : PStep P S o a v) : PStep P S o a' v := by
 intro w hw
 have := h w hw
 unfold Oper.wp at *
 rw [execOp_congr o hs he] at this
 generalize (execOp a'.eval o).run P w = r at *
 cases r with
 | ok n w' =>
   cases n <;> simp only [Oper.upon] at this ⊢
   case value u => exact ⟨put_inj hsz this.1, this.2⟩
   case skip => exact ⟨put_inj hsz this.1, this.2⟩
   case defer d =>
     exfalso
     have h1 := congrArg Act.defers this.1
     rw [put_defers', put_defers'] at h1
     have := congrArg List.length h1
     simp at this
   case enter f args =>
     refine Calls.mono this fun e w'' he => ?_
     cases e with
     | returned u => exact ⟨put_inj hsz he.1, he.2⟩
     | panicked c => exact he.elim
     | outgrown => obtain ⟨_, _, hh⟩ := he; exact hh.elim
   case row row args => exact Rows.mono this fun u w'' he => ⟨put_inj hsz he.1, he.2⟩
 | halt x w' =>
   cases x <;> simp only [Oper.upon] at this
   case panic u => exact this.elim
def GStep (P : Program) (ops : Array Oper) (S : World → Prop) (o : Oper) (a : Act) (v : Value) : Prop :=
 (Region.wanted o (yielded ops a.tmps) = true ∧ PStep P S o a v) ∨ (Region.wanted o (yielded ops a.tmps) = false ∧ v = undef)
theorem wanted_congr {o : Oper} {a a' : Act} (h : ∀ t ∈ o.looksAt ops, a.tmps[t]? = a'.tmps[t]?) : Region.wanted o (yielded ops a.tmps) = Region.wanted o (yielded ops a'.tmps) := by
 unfold Region.wanted
 cases hg : o.guard with
 | none => rfl
 | some gw =>
   obtain ⟨g, want⟩ := gw
   have hy : yielded ops a.tmps g = yielded ops a'.tmps g := by
     unfold yielded
     cases ht : (ops[g]?).bind (·.dst) with
     | none => rfl
     | some t => simp only [Option.bind_some]; rw [h t (by simp [Oper.looksAt, hg, ht])]
   simp only [hy]
theorem GStep.congr {o : Oper} {a a' : Act} {v : Value} (hs : ∀ cs b, o.op ≠ .select cs b) (hsz : a.tmps.size = a'.tmps.size) (h : ∀ t ∈ o.looksAt ops, a.tmps[t]? = a'.tmps[t]?) (hg : GStep P ops S o a v) : GStep P ops S o a' v := by
 have hw := wanted_congr h
 unfold GStep at *
 rw [← hw]
 refine hg.imp (fun ⟨h1, h2⟩ => ⟨h1, h2.congr hs hsz fun x hx => ?_⟩) id
 cases x with
 | tmp t =>
   have := h t (List.mem_append_left _ (List.mem_filterMap.2 ⟨.tmp t, by simpa using hx, rfl⟩))
   simp only [Act.eval, Array.getD_eq_getD_getElem?, this]
 | _ => rfl
theorem GStep.wpOp {i : Nat} {o : Oper} {v : Value} {a : Act} {w : World} {K : Act → World → Prop} (hi : ops[i]? = some o) (h : GStep P ops S o a v) (hS : S w) (hK : ∀ w', S w' → K (a.put o.dst v) w') : wpOp P ops Q i K a w := by
 unfold Go.wpOp
 simp only [hi]
 rcases h with ⟨hw, hp⟩ | ⟨hw, rfl⟩
 · simp only [hw, if_true]; exact .inl (hp.use hS hK)
 · simp only [hw, Bool.false_eq_true, if_false]; exact hK w hS
def PChain (P : Program) (ops : Array Oper) (S : World → Prop) (End : Act → Prop) : List Oper → Act → Prop
 | [], a => End a
 | o :: r, a => ∃ v, GStep P ops S o a v ∧ PChain P ops S End r (a.put o.dst v)
def actAfter : List Oper → List Value → Act → Act
 | o :: r, v :: vs, a => actAfter r vs (a.put o.dst v)
 | _, _, a => a
theorem PChain.vals {End : Act → Prop} : ∀ (l : List Oper) (a : Act), PChain P ops S End l a →
   ∃ vs : List Value, vs.length = l.length ∧ End (actAfter l vs a) ∧ ∀ i o v, l[i]? = some o → vs[i]? = some v → GStep P ops S o (actAfter (l.take i) (vs.take i) a) v
 | [], a, h => ⟨[], rfl, h, fun i o v hi => by simp at hi⟩
 | o :: r, a, ⟨v, hg, hc⟩ => by
   obtain ⟨vs, hl, he, hs⟩ := PChain.vals r _ hc
   refine ⟨v :: vs, by simp [hl], he, fun i o' v' hi hv => ?_⟩
   cases i with
   | zero => simp at hi hv; subst hi; subst hv; simpa [actAfter] using hg
   | succ i => simp at hi hv; simpa [actAfter] using hs i o' v' hi hv
structure Is (l : List Oper) (vs : List Value) (a0 : Act) (L : Nat → Bool) (a : Act) : Prop where
 defers : a.defers = a0.defers
 size : a.tmps.size = a0.tmps.size
 yes : ∀ (i : Nat) (o : Oper) (v : Value) (t : Nat), l[i]? = some o → vs[i]? = some v → o.dst = some t → L i = true → a.tmps[t]? = a0.tmps[t]?.map (fun _ => v)
 no : ∀ t : Nat, (∀ (i : Nat) (o : Oper), l[i]? = some o → o.dst = some t → L i = false) → a.tmps[t]? = a0.tmps[t]?
def dstsApart (l : List Oper) : Prop := ∀ (i j : Nat) (oi oj : Oper) (t : Nat), l[i]? = some oi → l[j]? = some oj → oi.dst = some t → oj.dst = some t → i = j
theorem Is.start {l : List Oper} {vs : List Value} {a0 : Act} {L : Nat → Bool} (h : ∀ i, i < l.length → L i = false) : Is l vs a0 L a0 :=
 ⟨rfl, rfl, (fun i o v t hi _ _ hL => by
   have hlt : i < l.length := (List.getElem?_eq_some_iff.1 hi).1
   rw [h i hlt] at hL
   exact absurd hL (by simp)), fun _ _ => rfl⟩
theorem Is.step {l : List Oper} {vs : List Value} {a0 a : Act} {L L' : Nat → Bool} (hd : dstsApart l) (h : Is l vs a0 L a) {i : Nat} {o : Oper} {v : Value} (hi : l[i]? = some o) (hv : vs[i]? = some v) (hLi : L' i = true) (hLj : ∀ j, j < l.length → j ≠ i → L' j = L j) : Is l vs a0 L' (a.put o.dst v) := by
 refine ⟨(put_defers' _ _ _).trans h.defers, (put_size _ _ _).trans h.size, fun j oj vj t hj hvj hdj hL => ?_, fun t ht => ?_⟩
 · rw [put_get]
   by_cases hji : j = i
   · subst hji
     rw [hi] at hj; cases hj
     rw [hv] at hvj; cases hvj
     rw [if_pos hdj]
     have hs := h.size
     by_cases hl : t < a.tmps.size
     · simp [hl, hs ▸ hl]
     · simp [hl, hs ▸ hl]
   · have hne : o.dst ≠ some t := fun e => hji (hd j i oj o t hj hi hdj e)
     rw [if_neg hne]
     have hlt : j < l.length := (List.getElem?_eq_some_iff.1 hj).1
     exact h.yes j oj vj t hj hvj hdj (by rw [← hLj j hlt hji]; exact hL)
 · have hne : o.dst ≠ some t := fun e => by have := ht i o hi e; rw [hLi] at this; cases this
   rw [put_get, if_neg hne]
   refine h.no t fun j oj hj hdj => ?_
   have hji : j ≠ i := fun e => by subst e; rw [hi] at hj; cases hj; exact hne hdj
   have hlt : j < l.length := (List.getElem?_eq_some_iff.1 hj).1
   rw [← hLj j hlt hji]; exact ht j oj hj hdj
theorem Is.same {l : List Oper} {vs : List Value} {a0 a a' : Act} {L L' : Nat → Bool} (hlen : vs.length = l.length) (h : Is l vs a0 L a) (h' : Is l vs a0 L' a') (t : Nat) (ht : ∀ (j : Nat) (o : Oper), l[j]? = some o → o.dst = some t → L j = true ∧ L' j = true) : a.tmps[t]? = a'.tmps[t]? := by
 by_cases hex : ∃ (j : Nat) (o : Oper), l[j]? = some o ∧ o.dst = some t
 · obtain ⟨j, o, hj, hdj⟩ := hex
   have hlt : j < l.length := (List.getElem?_eq_some_iff.1 hj).1
   have hv : vs[j]? = some (vs[j]'(by omega)) := List.getElem?_eq_getElem (by omega)
   rw [h.yes j o _ t hj hv hdj (ht j o hj hdj).1, h'.yes j o _ t hj hv hdj (ht j o hj hdj).2]
 · have hno : ∀ (j : Nat) (o : Oper), l[j]? = some o → o.dst = some t → False := fun j o hj hdj => hex ⟨j, o, hj, hdj⟩
   rw [h.no t fun j o hj hdj => (hno j o hj hdj).elim, h'.no t fun j o hj hdj => (hno j o hj hdj).elim]
theorem Is.take {l : List Oper} {vs : List Value} {a0 : Act} (hd : dstsApart l) (hlen : vs.length = l.length) : ∀ i, i ≤ l.length → Is l vs a0 (fun j => decide (j < i)) (actAfter (l.take i) (vs.take i) a0) := by
 have key : ∀ (i : Nat) (m : List Oper) (ms : List Value) (a : Act), m.length = ms.length → actAfter (m.take (i + 1)) (ms.take (i + 1)) a = match m[i]?, ms[i]? with
     | some o, some v => (actAfter (m.take i) (ms.take i) a).put o.dst v
     | _, _ => actAfter (m.take i) (ms.take i) a := by
   intro i
   induction i with
   | zero => intro m ms a hl; cases m <;> cases ms <;> simp_all [actAfter]
   | succ i ih =>
     intro m ms a hl
     cases m with
     | nil => cases ms <;> simp_all [actAfter]
     | cons x m =>
       cases ms with
       | nil => simp at hl
       | cons y ms =>
         have := ih m ms (a.put x.dst y) (by simpa using hl)
         simp only [List.take_succ_cons, actAfter, List.getElem?_cons_succ]
         exact this
 intro i
 induction i with
 | zero => intro _; simpa [actAfter] using Is.start (l := l) (vs := vs) (a0 := a0) (L := fun j => decide (j < 0)) (fun _ _ => by simp)
 | succ i ih =>
   intro hi
   have hlt : i < l.length := by omega
   have ho : l[i]? = some (l[i]) := List.getElem?_eq_getElem hlt
   have hv : vs[i]? = some (vs[i]'(by omega)) := List.getElem?_eq_getElem (by omega)
   rw [key i l vs a0 hlen.symm, ho, hv]
   exact (ih (by omega)).step hd ho hv (by simp) (fun j _ hji => by simp; omega)
/-! ### The check -/
def bindsOn (o : Oper) : List Nat := (o.after.toList.filter (Region.binds .any ·)).map (·.on)
def notSel (o : Oper) : Bool := match o.op with | .select _ _ => false | _ => true
def opCk (ops : Array Oper) (pre : List Oper) (i : Nat) (o : Oper) : Bool :=
 notSel o && (bindsOn o).all (fun e => decide (e < i)) &&
 pre.zipIdx.all fun (p, j) => match p.dst with
   | none => true
   | some t => (!(o.looksAt ops).contains t || (bindsOn o).contains j && decide (j < i)) && (decide (j = i) || o.dst != some t)
def lst (m k : Nat) : Array Bool := ((List.range m).map fun i => decide (i < k)).toArray
def tailCk (ops : Array Oper) (n : Nat) : Bool :=
 (Region.ready .any ops (lst ops.size ops.size) == []) &&
 (List.range (ops.size - n)).all fun d => Region.ready .any ops (lst ops.size (n + d)) == [n + d]
def tailWaits (ops : Array Oper) (n : Nat) : Bool :=
 (ops.toList.drop n).zipIdx.all fun (o, d) => if d = 0 then (List.range n).all fun j => (bindsOn o).contains j else (bindsOn o).any fun e => decide (n ≤ e)
def regCk (ops : Array Oper) (n : Nat) : Bool :=
 decide (n ≤ ops.size) && (ops.toList.take n).zipIdx.all (fun (o, i) => opCk ops (ops.toList.take n) i o) && tailCk ops n && tailWaits ops n
theorem mem_bindsOn {o : Oper} {e : Nat} : e ∈ bindsOn o ↔ ∃ x ∈ o.after, Region.binds .any x = true ∧ x.on = e := by
 simp [bindsOn, and_assoc]
theorem ready_iff {i : Nat} {listed : Array Bool} : i ∈ Region.ready .any ops listed ↔ listed.getD i true = false ∧ ∃ o, ops[i]? = some o ∧ ∀ e ∈ bindsOn o, listed.getD e false = true := by
 rw [mem_ready]
 constructor
 · rintro ⟨h0, o, ho, h⟩
   refine ⟨h0, o, ho, fun e he => ?_⟩
   obtain ⟨x, hx, hb, rfl⟩ := mem_bindsOn.1 he
   exact h x hx hb
 · rintro ⟨h0, o, ho, h⟩
   exact ⟨h0, o, ho, fun x hx hb => h _ (mem_bindsOn.2 ⟨x, hx, hb, rfl⟩)⟩
theorem lst_get (m k i : Nat) : (lst m k)[i]? = if i < m then some (decide (i < k)) else none := by
 by_cases h : i < m <;> simp [lst, h]
theorem lst_set (m k : Nat) : (lst m k).setIfInBounds k true = lst m (k + 1) := by
 apply Array.ext_getElem?
 intro i
 rw [Array.getElem?_setIfInBounds]
 by_cases h : k = i
 · subst h; simp only [if_true, lst_get]; by_cases hm : k < m <;> simp [hm, lst]
 · rw [if_neg h, lst_get, lst_get]
   by_cases hm : i < m <;> simp [hm]; omega
theorem tail_any {n : Nat} (hck : tailCk ops n = true) : ∀ (d : Nat) (k : Nat), k + d = ops.size → n ≤ k → ∀ (a : Act) (w : World), wpList P ops Q (ops.toList.drop k) a w →
   wpAny P .any ops Q d (lst ops.size k) a w := by
 simp only [tailCk, Bool.and_eq_true, List.all_eq_true, List.mem_range, beq_iff_eq] at hck
 obtain ⟨h0, hr⟩ := hck
 intro d
 induction d with
 | zero =>
   intro k hk hn a w h
   have : k = ops.size := by omega
   subst this
   have hdrop : ops.toList.drop ops.size = [] := by simp
   rw [hdrop] at h
   exact ⟨h0, h⟩
 | succ d ih =>
   intro k hk hn a w h
   have hlt : k < ops.size := by omega
   have hrk : Region.ready .any ops (lst ops.size k) = [k] := by
     have := hr (k - n) (by omega)
     rwa [show n + (k - n) = k from by omega] at this
   have hdrop : ops.toList.drop k = ops[k] :: ops.toList.drop (k + 1) := by
     rw [List.drop_eq_getElem_cons (by simpa using hlt)]; simp
   rw [hdrop] at h
   refine ⟨fun he => (by rw [hrk] at he; cases he), fun i hi => ?_⟩
   rw [hrk] at hi
   simp only [List.mem_singleton] at hi
   subst hi
   have hoi : ops[i]? = some ops[i] := Array.getElem?_eq_getElem hlt
   unfold wpOp
   simp only [hoi]
   unfold wpList at h
   rw [lst_set]
   split
   · rename_i hw
     rw [if_pos hw] at h
     exact h.imp (Oper.wp_mono fun a' w' h' => ih (i + 1) (by omega) (by omega) a' w' h') id
   · rename_i hw
     rw [if_neg hw] at h
     exact ih (i + 1) (by omega) (by omega) _ _ h
def unl (listed : Array Bool) (n : Nat) : Nat := (List.range n).countP fun i => !listed.getD i false
theorem unl_set {listed : Array Bool} {i : Nat} (hi : i < listed.size) (hu : listed.getD i false = false) : ∀ n, i < n → unl (listed.setIfInBounds i true) n + 1 = unl listed n := by
 intro n
 have same : ∀ m, m ≤ i → unl (listed.setIfInBounds i true) m = unl listed m := by
   intro m hm
   unfold unl
   refine List.countP_congr fun j hj => ?_
   rw [getD_set_ne false (by have := List.mem_range.1 hj; omega)]
 induction n with
 | zero => intro h; omega
 | succ n ih =>
   intro h
   unfold unl at *
   rw [List.range_succ, List.countP_append, List.countP_append]
   by_cases hin : i = n
   · subst hin
     have := same i (Nat.le_refl _)
     rw [this]
     simp only [List.countP_singleton]
     have h1 : (listed.setIfInBounds i true).getD i false = true := by simp [hi]
     simp [h1, hu]
   · have := ih (by omega)
     simp only [List.countP_singleton]
     rw [getD_set_ne false hin]
     omega
theorem unl_zero {listed : Array Bool} {n : Nat} (h : unl listed n = 0) (i : Nat) (hi : i < n) : listed.getD i false = true := by
 unfold unl at h
 rw [List.countP_eq_zero] at h
 have := h i (List.mem_range.2 hi)
 simpa using this
theorem unl_pos {listed : Array Bool} {n : Nat} (h : unl listed n ≠ 0) : ∃ i, i < n ∧ listed.getD i false = false ∧ ∀ j, j < i → listed.getD j false = true := by
 induction n with
 | zero => exact absurd rfl h
 | succ n ih =>
   by_cases h0 : unl listed n = 0
   · refine ⟨n, Nat.lt_succ_self _, ?_, unl_zero h0⟩
     unfold unl at *
     rw [List.range_succ, List.countP_append, h0] at h
     simpa using h
   · obtain ⟨i, hi, h1, h2⟩ := ih h0
     exact ⟨i, by omega, h1, h2⟩
theorem prefix_any {n : Nat} {a0 : Act} {vs : List Value} (hn : n ≤ ops.size) (hlen : vs.length = (ops.toList.take n).length)
   (hops : ∀ i o, (ops.toList.take n)[i]? = some o → opCk ops (ops.toList.take n) i o = true) (htw : tailWaits ops n = true) (hd : dstsApart (ops.toList.take n))
   (hst : ∀ i o v, (ops.toList.take n)[i]? = some o → vs[i]? = some v → GStep P ops S o (actAfter ((ops.toList.take n).take i) (vs.take i) a0) v)
   (hend : ∀ w, S w → wpAny P .any ops Q (ops.size - n) (lst ops.size n) (actAfter (ops.toList.take n) vs a0) w) :
   ∀ (m : Nat) (listed : Array Bool) (a : Act) (w : World), unl listed n = m → listed.size = ops.size → (∀ k, n ≤ k → listed.getD k false = false) →
     Is (ops.toList.take n) vs a0 (fun i => listed.getD i false) a → S w → wpAny P .any ops Q (m + (ops.size - n)) listed a w := by
 have hnl : (ops.toList.take n).length = n := by simp; omega
 intro m
 induction m with
 | zero =>
   intro listed a w hm hsz hout his hS
   have hall := unl_zero hm
   have hL : listed = lst ops.size n := by
     apply Array.ext_getElem?
     intro i
     rw [lst_get]
     by_cases hi : i < ops.size
     · rw [if_pos hi, Array.getElem?_eq_getElem (by omega)]
       congr 1
       by_cases hin : i < n
       · have := hall i hin
         simp [hin]
         simpa [Array.getD_eq_getD_getElem?, Array.getElem?_eq_getElem (show i < listed.size by omega)] using this
       · have := hout i (by omega)
         simp [hin]
         simpa [Array.getD_eq_getD_getElem?, Array.getElem?_eq_getElem (show i < listed.size by omega)] using this
     · rw [if_neg hi, Array.getElem?_eq_none (by omega)]
   have hA : a = actAfter (ops.toList.take n) vs a0 := by
     have h2 := Is.take (a0 := a0) hd hlen n (by omega)
     rw [List.take_of_length_le (by omega : (ops.toList.take n).length ≤ n), List.take_of_length_le (by omega : vs.length ≤ n)] at h2
     have ht : a.tmps = (actAfter (ops.toList.take n) vs a0).tmps := by
       apply Array.ext_getElem?
       intro t
       refine his.same hlen h2 t fun j o hj _ => ?_
       have hlt : j < n := by have := (List.getElem?_eq_some_iff.1 hj).1; omega
       exact ⟨hall j hlt, by simp [hlt]⟩
     have hdf : a.defers = (actAfter (ops.toList.take n) vs a0).defers := his.defers.trans h2.defers.symm
     cases a
     generalize actAfter (ops.toList.take n) vs a0 = b at *
     cases b
     simp_all
   subst hL
   subst hA
   simpa using hend w hS
 | succ m ih =>
   intro listed a w hm hsz hout his hS
   obtain ⟨i0, hi0, hu0, hb0⟩ := unl_pos (n := n) (listed := listed) (by omega)
   have hget : ∀ i, i < n → ∃ o, (ops.toList.take n)[i]? = some o ∧ ops[i]? = some o := fun i hi => by
     have h1 : i < ops.toList.length := by simp; omega
     refine ⟨ops[i]'(by omega), ?_, Array.getElem?_eq_getElem (by omega)⟩
     rw [List.getElem?_take_of_lt hi]
     simp [Array.getElem?_eq_getElem (show i < ops.size by omega)]
   rw [show m + 1 + (ops.size - n) = (m + (ops.size - n)) + 1 from by omega]
   refine ⟨fun hnil => ?_, fun i hi => ?_⟩
   · exfalso
     obtain ⟨o, ho1, ho2⟩ := hget i0 hi0
     have hck := hops i0 o ho1
     simp only [opCk, Bool.and_eq_true, List.all_eq_true, decide_eq_true_eq] at hck
     have : i0 ∈ Region.ready .any ops listed := ready_iff.2 ⟨by
       have : i0 < listed.size := by omega
       simpa [Array.getD_eq_getD_getElem?, Array.getElem?_eq_getElem this] using hu0, o, ho2, fun e he => hb0 e (hck.1.2 e he)⟩
     rw [hnil] at this
     cases this
   · obtain ⟨hun, o, hoi, hall⟩ := ready_iff.1 hi
     have his' : i < ops.size := (Array.getElem?_eq_some_iff.1 hoi).1
     have hun' : listed.getD i false = false := by
       have : i < listed.size := by omega
       simpa [Array.getD_eq_getD_getElem?, Array.getElem?_eq_getElem this] using hun
     by_cases hin : i < n
     · obtain ⟨o', ho1, ho2⟩ := hget i hin
       rw [hoi] at ho2; cases ho2
       have hck := hops i o ho1
       simp only [opCk, Bool.and_eq_true, List.all_eq_true, decide_eq_true_eq] at hck
       obtain ⟨⟨hsel, _⟩, hdep⟩ := hck
       have hv : vs[i]? = some (vs[i]'(by omega)) := List.getElem?_eq_getElem (by omega)
       have hg := hst i o _ ho1 hv
       have htk := Is.take (a0 := a0) hd hlen i (by omega)
       have hg' : GStep P ops S o a vs[i] := hg.congr (fun cs b e => by simp [notSel, e] at hsel) (htk.size.trans his.size.symm) (fun t ht => by
         refine htk.same hlen his t fun j oj hj hdj => ?_
         have hm2 : (oj, j) ∈ (ops.toList.take n).zipIdx := by
           rw [List.mem_zipIdx_iff_getElem?]; exact hj
         have := hdep (oj, j) hm2
         simp only [hdj, Bool.and_eq_true, Bool.or_eq_true, Bool.not_eq_true', List.contains_eq_mem, decide_eq_true_eq, decide_eq_false_iff_not] at this
         rcases this.1 with h | ⟨h1, h2⟩
         · exact absurd ht h
         · exact ⟨by simp [h2], hall j h1⟩)
       refine hg'.wpOp hoi hS fun w' hS' => ih _ _ w' ?_ (by simpa using hsz) ?_ ?_ hS'
       · have := unl_set (n := n) (listed := listed) (i := i) (by omega) hun' hin
         omega
       · intro k hk
         rw [getD_set_ne false (by omega)]
         exact hout k hk
       · refine his.step hd ho1 hv ?_ ?_
         · have : i < listed.size := by omega
           simp [this]
         · intro j _ hji
           exact getD_set_ne false (fun e => hji e.symm)
     · exfalso
       simp only [tailWaits, List.all_eq_true] at htw
       have hm2 : (o, i - n) ∈ (ops.toList.drop n).zipIdx := by
         rw [List.mem_zipIdx_iff_getElem?]
         simp only [List.getElem?_drop]
         rw [show n + (i - n) = i from by omega]
         simpa using hoi
       have := htw _ hm2
       simp only at this
       split at this
       · rename_i h0
         simp only [List.all_eq_true, List.mem_range, List.contains_eq_mem, decide_eq_true_eq] at this
         have h1 := hall i0 (this i0 hi0)
         rw [hu0] at h1
         cases h1
       · simp only [List.any_eq_true, decide_eq_true_eq] at this
         obtain ⟨e, he, hne⟩ := this
         have h1 := hall e he
         rw [hout e hne] at h1
         cases h1
theorem wp_region_pc {id : Nat} {a : Act} {w : World} (n : Nat) (S : World → Prop) (hm : P.follows .mixedOrders = true) (hck : regCk ops n = true) (hS : S w.drew)
   (h : PChain P ops S (fun a => ∀ w, S w → wpList P ops Q (ops.toList.drop n) a w) (ops.toList.take n) a) : (Code.region id ops true).wp P Q a w := by
 simp only [regCk, Bool.and_eq_true, decide_eq_true_eq] at hck
 obtain ⟨⟨⟨hn, hall⟩, htc⟩, htw⟩ := hck
 have hops : ∀ i o, (ops.toList.take n)[i]? = some o → opCk ops (ops.toList.take n) i o = true := fun i o hi => by
   rw [List.all_eq_true] at hall
   exact hall (o, i) (List.mem_zipIdx_iff_getElem?.2 hi)
 have hd : dstsApart (ops.toList.take n) := fun i j oi oj t hi hj hdi hdj => by
   have := hops i oi hi
   simp only [opCk, Bool.and_eq_true, List.all_eq_true] at this
   have h2 := this.2 (oj, j) (List.mem_zipIdx_iff_getElem?.2 hj)
   simp only [hdj, Bool.and_eq_true, Bool.or_eq_true, decide_eq_true_eq] at h2
   rcases h2.2 with e | e
   · exact e.symm
   · simp [hdi] at e
 obtain ⟨vs, hlen, hend, hst⟩ := PChain.vals _ _ h
 refine wp_region_any hm ?_
 have hs0 : unl (Array.replicate ops.size false) n = n := by
   have : ∀ m, unl (Array.replicate ops.size false) m = m := by
     intro m
     induction m with
     | zero => rfl
     | succ m ih =>
       unfold unl at *
       rw [List.range_succ, List.countP_append, ih]
       by_cases h : m < ops.size <;> simp [h]
   exact this n
 have hfalse : ∀ k, (Array.replicate ops.size false).getD k false = false := fun k => by
   by_cases h : k < ops.size <;> simp [h]
 have := prefix_any (Q := Q) (a0 := a) hn hlen hops htw hd hst (fun w' hw' => tail_any htc (ops.size - n) n (by omega) (Nat.le_refl _) _ _ (hend w' hw')) n (Array.replicate ops.size false) a w.drew hs0 (by simp) (fun k _ => hfalse k) (Is.start fun i _ => hfalse i) hS
 rw [show n + (ops.size - n) = ops.size from by omega] at this
 exact this
theorem wp_region_b {id : Nat} {a : Act} {w : World} (n : Nat) (hm : P.follows .mixedOrders = true) (hck : regCk ops n = true)
   (h : PChain P ops (Go.RowKit.Below w.heap.size w) (fun a => ∀ w', Go.RowKit.Below w.heap.size w w' → wpList P ops Q (ops.toList.drop n) a w') (ops.toList.take n) a) : (Code.region id ops true).wp P Q a w :=
 wp_region_pc n _ hm hck (Go.RowKit.Below.refl _ _).drew h
theorem pc_nil {End : Act → Prop} {a : Act} (h : End a) : PChain P ops S End [] a := h
theorem pc_step {End : Act → Prop} {a : Act} {o : Oper} {r : List Oper} {v : Value} (hw : Region.wanted o (yielded ops a.tmps) = true)
   (h : ∀ w, S w → ∀ K : Act → World → Prop, (∀ w', S w' → K (a.put o.dst v) w') → o.wp P a w K Never) (hr : PChain P ops S End r (a.put o.dst v)) : PChain P ops S End (o :: r) a :=
 ⟨v, .inl ⟨hw, fun w hS => h w hS _ fun _ hS' => ⟨rfl, hS'⟩⟩, hr⟩
theorem pc_skip {End : Act → Prop} {a : Act} {o : Oper} {r : List Oper} (hw : Region.wanted o (yielded ops a.tmps) = false)
   (hr : PChain P ops S End r (a.put o.dst undef)) : PChain P ops S End (o :: r) a := ⟨undef, .inr ⟨hw, rfl⟩, hr⟩
end
end RegP
namespace RegL
open RegP
section
variable {P : Program} {ops : Array Oper} {Q : Exit → Act → World → Prop} {S : (Nat → Bool) → World → Prop}
def upd (L : Nat → Bool) (i : Nat) : Nat → Bool := fun j => decide (j = i) || L j
theorem upd_same (L : Nat → Bool) (i : Nat) : upd L i i = true := by simp [upd]
theorem upd_ne (L : Nat → Bool) {i j : Nat} (h : j ≠ i) : upd L i j = L j := by simp [upd, h]
/-! ### The check -/
inductive Anc (ops : Array Oper) : Nat → Nat → Prop
 | one {j k : Nat} {o : Oper} : ops[k]? = some o → j ∈ bindsOn o → Anc ops j k
 | more {j m k : Nat} {o : Oper} : ops[k]? = some o → m ∈ bindsOn o → Anc ops j m → Anc ops j k
theorem Anc.listed {L : Nat → Bool} (hc : ∀ i o, ops[i]? = some o → L i = true → ∀ e ∈ bindsOn o, L e = true) {j k : Nat} (h : Anc ops j k) : (∀ o, ops[k]? = some o → ∀ e ∈ bindsOn o, L e = true) → L j = true := by
 induction h with
 | one hk hj => intro h; exact h _ hk _ hj
 | more hk hm _ ih =>
   intro h
   exact ih fun o' ho' => hc _ o' ho' (h _ hk _ hm)
def ancs (ops : Array Oper) : Nat → Nat → List Nat
 | 0, _ => []
 | f + 1, k => match ops[k]? with
   | none => []
   | some o => ((bindsOn o) ++ (bindsOn o).flatMap (ancs ops f)).eraseDups
theorem ancs_ok : ∀ (f k j : Nat), j ∈ ancs ops f k → Anc ops j k
 | 0, _, _, h => by cases h
 | f + 1, k, j, h => by
   unfold ancs at h
   split at h
   · cases h
   · rename_i o ho
     rw [List.mem_eraseDups, List.mem_append, List.mem_flatMap] at h
     rcases h with h | ⟨m, hm, h⟩
     · exact .one ho h
     · exact .more ho hm (ancs_ok f m j h)
def GStepL (P : Program) (ops : Array Oper) (f : Nat) (S : (Nat → Bool) → World → Prop) (i : Nat) (o : Oper) (a : Act) (v : Value) : Prop :=
 (Region.wanted o (yielded ops a.tmps) = true ∧ ∀ L w, S L w → L i = false → (∀ e ∈ ancs ops f i, L e = true) → o.wp P a w (fun a' w' => a' = a.put o.dst v ∧ S (upd L i) w') Never) ∨
 (Region.wanted o (yielded ops a.tmps) = false ∧ v = undef ∧ ∀ L w, S L w → L i = false → S (upd L i) w)
theorem GStepL.wpOp {f i : Nat} {o : Oper} {v : Value} {a a' : Act} {w : World} {L : Nat → Bool} {K : Act → World → Prop} (hi : ops[i]? = some o) (hs : ∀ cs b, o.op ≠ .select cs b) (hsz : a.tmps.size = a'.tmps.size) (hl : ∀ t ∈ o.looksAt ops, a.tmps[t]? = a'.tmps[t]?)
   (h : GStepL P ops f S i o a v) (hS : S L w) (hLi : L i = false) (hd : ∀ e ∈ ancs ops f i, L e = true) (hK : ∀ w', S (upd L i) w' → K (a'.put o.dst v) w') : wpOp P ops Q i K a' w := by
 have hw := wanted_congr hl
 unfold Go.wpOp
 simp only [hi]
 rcases h with ⟨h1, h2⟩ | ⟨h1, rfl, h2⟩
 · rw [hw] at h1
   simp only [h1, if_true]
   refine .inl ?_
   have h3 := h2 L w hS hLi hd
   have he : ∀ x ∈ o.op.operands, a.eval x = a'.eval x := fun x hx => by
     cases x with
     | tmp t =>
       have := hl t (List.mem_append_left _ (List.mem_filterMap.2 ⟨.tmp t, by simpa using hx, rfl⟩))
       simp only [Act.eval, Array.getD_eq_getD_getElem?, this]
     | _ => rfl
   unfold Oper.wp at *
   rw [execOp_congr o hs he] at h3
   generalize (execOp a'.eval o).run P w = r at *
   cases r with
   | ok n w' =>
     cases n <;> simp only [Oper.upon] at h3 ⊢
     case value u => rw [put_inj hsz h3.1]; exact hK _ h3.2
     case skip => rw [put_inj hsz h3.1]; exact hK _ h3.2
     case defer d =>
       exfalso
       have h4 := congrArg Act.defers h3.1
       rw [put_defers', put_defers'] at h4
       have := congrArg List.length h4
       simp at this
     case enter f args =>
       refine Calls.mono h3 fun e w'' he => ?_
       cases e with
       | returned u => simp only at he ⊢; rw [put_inj hsz he.1]; exact hK _ he.2
       | panicked c => exact he.elim
       | outgrown => obtain ⟨_, _, hh⟩ := he; exact hh.elim
     case row row args => exact Rows.mono h3 fun u w'' he => by rw [put_inj hsz he.1]; exact hK _ he.2
   | halt x w' =>
     cases x <;> simp only [Oper.upon] at h3
     case panic u => exact h3.elim
 · rw [hw] at h1
   simp only [h1, Bool.false_eq_true, if_false]
   exact hK w (h2 L w hS hLi)
def PChainL (P : Program) (ops : Array Oper) (f : Nat) (S : (Nat → Bool) → World → Prop) (End : Act → Prop) : Nat → List Oper → Act → Prop
 | _, [], a => End a
 | i, o :: r, a => ∃ v, GStepL P ops f S i o a v ∧ PChainL P ops f S End (i + 1) r (a.put o.dst v)
theorem PChainL.vals {f : Nat} {End : Act → Prop} : ∀ (l : List Oper) (k : Nat) (a : Act), PChainL P ops f S End k l a →
   ∃ vs : List Value, vs.length = l.length ∧ End (actAfter l vs a) ∧ ∀ i o v, l[i]? = some o → vs[i]? = some v → GStepL P ops f S (k + i) o (actAfter (l.take i) (vs.take i) a) v
 | [], _, a, h => ⟨[], rfl, h, fun i o v hi => by simp at hi⟩
 | o :: r, k, a, ⟨v, hg, hc⟩ => by
   obtain ⟨vs, hl, he, hs⟩ := PChainL.vals r _ _ hc
   refine ⟨v :: vs, by simp [hl], he, fun i o' v' hi hv => ?_⟩
   cases i with
   | zero => simp at hi hv; subst hi; subst hv; simpa [actAfter] using hg
   | succ i => simp at hi hv; have := hs i o' v' hi hv; rw [show k + 1 + i = k + (i + 1) from by omega] at this; simpa [actAfter] using this
def tailWaitsL (ops : Array Oper) (f n : Nat) : Bool :=
 (ops.toList.drop n).zipIdx.all fun (o, d) => if d = 0 then (List.range n).all fun j => (ancs ops f n).contains j else (bindsOn o).any fun e => decide (n ≤ e)
def regCkL (ops : Array Oper) (f n : Nat) : Bool :=
 decide (n ≤ ops.size) && (ops.toList.take n).zipIdx.all (fun (o, i) => opCk ops (ops.toList.take n) i o) && tailCk ops n && tailWaitsL ops f n
theorem prefix_anyL {f n : Nat} {a0 : Act} {vs : List Value} (hn : n ≤ ops.size) (hlen : vs.length = (ops.toList.take n).length)
   (hops : ∀ i o, (ops.toList.take n)[i]? = some o → opCk ops (ops.toList.take n) i o = true) (htw : tailWaitsL ops f n = true) (hd : dstsApart (ops.toList.take n))
   (hst : ∀ i o v, (ops.toList.take n)[i]? = some o → vs[i]? = some v → GStepL P ops f S i o (actAfter ((ops.toList.take n).take i) (vs.take i) a0) v)
   (hend : ∀ w, S (fun i => decide (i < n)) w → wpAny P .any ops Q (ops.size - n) (lst ops.size n) (actAfter (ops.toList.take n) vs a0) w) :
   ∀ (m : Nat) (listed : Array Bool) (a : Act) (w : World), unl listed n = m → listed.size = ops.size → (∀ k, n ≤ k → listed.getD k false = false) →
     (∀ i o, ops[i]? = some o → listed.getD i false = true → ∀ e ∈ bindsOn o, listed.getD e false = true) →
     Is (ops.toList.take n) vs a0 (fun i => listed.getD i false) a → S (fun i => listed.getD i false) w → wpAny P .any ops Q (m + (ops.size - n)) listed a w := by
 have hnl : (ops.toList.take n).length = n := by simp; omega
 intro m
 induction m with
 | zero =>
   intro listed a w hm hsz hout _ his hS
   have hall := unl_zero hm
   have hL : listed = lst ops.size n := by
     apply Array.ext_getElem?
     intro i
     rw [lst_get]
     by_cases hi : i < ops.size
     · rw [if_pos hi, Array.getElem?_eq_getElem (by omega)]
       congr 1
       by_cases hin : i < n
       · have := hall i hin
         simp [hin]
         simpa [Array.getD_eq_getD_getElem?, Array.getElem?_eq_getElem (show i < listed.size by omega)] using this
       · have := hout i (by omega)
         simp [hin]
         simpa [Array.getD_eq_getD_getElem?, Array.getElem?_eq_getElem (show i < listed.size by omega)] using this
     · rw [if_neg hi, Array.getElem?_eq_none (by omega)]
   have hA : a = actAfter (ops.toList.take n) vs a0 := by
     have h2 := Is.take (a0 := a0) hd hlen n (by omega)
     rw [List.take_of_length_le (by omega : (ops.toList.take n).length ≤ n), List.take_of_length_le (by omega : vs.length ≤ n)] at h2
     have ht : a.tmps = (actAfter (ops.toList.take n) vs a0).tmps := by
       apply Array.ext_getElem?
       intro t
       refine his.same hlen h2 t fun j o hj _ => ?_
       have hlt : j < n := by have := (List.getElem?_eq_some_iff.1 hj).1; omega
       exact ⟨hall j hlt, by simp [hlt]⟩
     have hdf : a.defers = (actAfter (ops.toList.take n) vs a0).defers := his.defers.trans h2.defers.symm
     cases a
     generalize actAfter (ops.toList.take n) vs a0 = b at *
     cases b
     simp_all
   have hLf : (fun i => listed.getD i false) = fun i => decide (i < n) := by
     funext i
     by_cases hin : i < n
     · simp only [hin, decide_true]; exact hall i hin
     · simp only [hin, decide_false]; exact hout i (by omega)
   rw [hLf] at hS
   subst hL
   subst hA
   simpa using hend w hS
 | succ m ih =>
   intro listed a w hm hsz hout hcl his hS
   obtain ⟨i0, hi0, hu0, hb0⟩ := unl_pos (n := n) (listed := listed) (by omega)
   have hget : ∀ i, i < n → ∃ o, (ops.toList.take n)[i]? = some o ∧ ops[i]? = some o := fun i hi => by
     have h1 : i < ops.toList.length := by simp; omega
     refine ⟨ops[i]'(by omega), ?_, Array.getElem?_eq_getElem (by omega)⟩
     rw [List.getElem?_take_of_lt hi]
     simp [Array.getElem?_eq_getElem (show i < ops.size by omega)]
   rw [show m + 1 + (ops.size - n) = (m + (ops.size - n)) + 1 from by omega]
   refine ⟨fun hnil => ?_, fun i hi => ?_⟩
   · exfalso
     obtain ⟨o, ho1, ho2⟩ := hget i0 hi0
     have hck := hops i0 o ho1
     simp only [opCk, Bool.and_eq_true, List.all_eq_true, decide_eq_true_eq] at hck
     have : i0 ∈ Region.ready .any ops listed := ready_iff.2 ⟨by
       have : i0 < listed.size := by omega
       simpa [Array.getD_eq_getD_getElem?, Array.getElem?_eq_getElem this] using hu0, o, ho2, fun e he => hb0 e (hck.1.2 e he)⟩
     rw [hnil] at this
     cases this
   · obtain ⟨hun, o, hoi, hall⟩ := ready_iff.1 hi
     have his' : i < ops.size := (Array.getElem?_eq_some_iff.1 hoi).1
     have hun' : listed.getD i false = false := by
       have : i < listed.size := by omega
       simpa [Array.getD_eq_getD_getElem?, Array.getElem?_eq_getElem this] using hun
     by_cases hin : i < n
     · obtain ⟨o', ho1, ho2⟩ := hget i hin
       rw [hoi] at ho2; cases ho2
       have hck := hops i o ho1
       simp only [opCk, Bool.and_eq_true, List.all_eq_true, decide_eq_true_eq] at hck
       obtain ⟨⟨hsel, _⟩, hdep⟩ := hck
       have hv : vs[i]? = some (vs[i]'(by omega)) := List.getElem?_eq_getElem (by omega)
       have hg := hst i o _ ho1 hv
       have htk := Is.take (a0 := a0) hd hlen i (by omega)
       have hupd : (fun j => (listed.setIfInBounds i true).getD j false) = upd (fun j => listed.getD j false) i := by
         funext j
         by_cases hji : j = i
         · subst hji
           rw [upd_same]
           have : j < listed.size := by omega
           simp [this]
         · rw [upd_ne _ hji]; exact getD_set_ne false (fun e => hji e.symm)
       refine hg.wpOp hoi (fun cs b e => by simp [notSel, e] at hsel) (htk.size.trans his.size.symm) (fun t ht => by
         refine htk.same hlen his t fun j oj hj hdj => ?_
         have hm2 : (oj, j) ∈ (ops.toList.take n).zipIdx := by
           rw [List.mem_zipIdx_iff_getElem?]; exact hj
         have := hdep (oj, j) hm2
         simp only [hdj, Bool.and_eq_true, Bool.or_eq_true, Bool.not_eq_true', List.contains_eq_mem, decide_eq_true_eq, decide_eq_false_iff_not] at this
         rcases this.1 with h | ⟨h1, h2⟩
         · exact absurd ht h
         · exact ⟨by simp [h2], hall j h1⟩) hS hun' (fun e he => (ancs_ok f i e he).listed (L := fun j => listed.getD j false) hcl (fun o' ho' => by rw [hoi] at ho'; cases ho'; exact hall)) fun w' hS' => ih _ _ w' ?_ (by simpa using hsz) ?_ ?_ ?_ (by rw [hupd]; exact hS')
       · have := unl_set (n := n) (listed := listed) (i := i) (by omega) hun' hin
         omega
       · intro k hk
         rw [getD_set_ne false (by omega)]
         exact hout k hk
       · intro j oj hj hLj e he
         by_cases hji : j = i
         · subst hji
           rw [hoi] at hj; cases hj
           exact getD_set_true (hall e he)
         · rw [getD_set_ne false (fun e => hji e.symm)] at hLj
           exact getD_set_true (hcl j oj hj hLj e he)
       · refine his.step hd ho1 hv ?_ ?_
         · have : i < listed.size := by omega
           simp [this]
         · intro j _ hji
           exact getD_set_ne false (fun e => hji e.symm)
     · exfalso
       simp only [tailWaitsL, List.all_eq_true] at htw
       have hm2 : (o, i - n) ∈ (ops.toList.drop n).zipIdx := by
         rw [List.mem_zipIdx_iff_getElem?]
         simp only [List.getElem?_drop]
         rw [show n + (i - n) = i from by omega]
         simpa using hoi
       have := htw _ hm2
       simp only at this
       split at this
       · rename_i h0
         have hin' : i = n := by omega
         subst hin'
         simp only [List.all_eq_true, List.mem_range, List.contains_eq_mem, decide_eq_true_eq] at this
         have h1 := (ancs_ok f i i0 (this i0 hi0)).listed (L := fun j => listed.getD j false) hcl (fun o' ho' => by rw [hoi] at ho'; cases ho'; exact hall)
         rw [hu0] at h1
         cases h1
       · simp only [List.any_eq_true, decide_eq_true_eq] at this
         obtain ⟨e, he, hne⟩ := this
         have h1 := hall e he
         rw [hout e hne] at h1
         cases h1
theorem wp_region_l {id : Nat} {a : Act} {w : World} (f n : Nat) (S : (Nat → Bool) → World → Prop) (hm : P.follows .mixedOrders = true) (hck : regCkL ops f n = true) (hS : S (fun _ => false) w.drew)
   (h : PChainL P ops f S (fun a => ∀ w, S (fun i => decide (i < n)) w → wpList P ops Q (ops.toList.drop n) a w) 0 (ops.toList.take n) a) : (Code.region id ops true).wp P Q a w := by
 simp only [regCkL, Bool.and_eq_true, decide_eq_true_eq] at hck
 obtain ⟨⟨⟨hn, hall⟩, htc⟩, htw⟩ := hck
 have hops : ∀ i o, (ops.toList.take n)[i]? = some o → opCk ops (ops.toList.take n) i o = true := fun i o hi => by
   rw [List.all_eq_true] at hall
   exact hall (o, i) (List.mem_zipIdx_iff_getElem?.2 hi)
 have hd : dstsApart (ops.toList.take n) := fun i j oi oj t hi hj hdi hdj => by
   have := hops i oi hi
   simp only [opCk, Bool.and_eq_true, List.all_eq_true] at this
   have h2 := this.2 (oj, j) (List.mem_zipIdx_iff_getElem?.2 hj)
   simp only [hdj, Bool.and_eq_true, Bool.or_eq_true, decide_eq_true_eq] at h2
   rcases h2.2 with e | e
   · exact e.symm
   · simp [hdi] at e
 obtain ⟨vs, hlen, hend, hst⟩ := PChainL.vals _ _ _ h
 refine wp_region_any hm ?_
 have hs0 : unl (Array.replicate ops.size false) n = n := by
   have : ∀ m, unl (Array.replicate ops.size false) m = m := by
     intro m
     induction m with
     | zero => rfl
     | succ m ih =>
       unfold unl at *
       rw [List.range_succ, List.countP_append, ih]
       by_cases h : m < ops.size <;> simp [h]
   exact this n
 have hfalse : ∀ k, (Array.replicate ops.size false).getD k false = false := fun k => by
   by_cases h : k < ops.size <;> simp [h]
 have hS' : S (fun i => (Array.replicate ops.size false).getD i false) w.drew := by
   rw [show (fun i => (Array.replicate ops.size false).getD i false) = fun _ => false from funext hfalse]; exact hS
 have := prefix_anyL (Q := Q) (a0 := a) hn hlen hops htw hd (fun i o v h1 h2 => by have := hst i o v h1 h2; rwa [Nat.zero_add] at this) (fun w' hw' => tail_any htc (ops.size - n) n (by omega) (Nat.le_refl _) _ _ (hend w' hw')) n (Array.replicate ops.size false) a w.drew hs0 (by simp) (fun k _ => hfalse k)
   (fun i o _ h => by rw [hfalse i] at h; cases h) (Is.start fun i _ => hfalse i) hS'
 rw [show n + (ops.size - n) = ops.size from by omega] at this
 exact this
theorem pl_nil {End : Act → Prop} {a : Act} {f i : Nat} (h : End a) : PChainL P ops f S End i [] a := h
theorem pl_step {End : Act → Prop} {a : Act} {o : Oper} {r : List Oper} {v : Value} {f i : Nat} (hw : Region.wanted o (yielded ops a.tmps) = true)
   (h : ∀ L w, S L w → L i = false → (∀ e ∈ ancs ops f i, L e = true) → ∀ K : Act → World → Prop, (∀ w', S (upd L i) w' → K (a.put o.dst v) w') → o.wp P a w K Never) (hr : PChainL P ops f S End (i + 1) r (a.put o.dst v))   : PChainL P ops f S End i (o :: r) a :=
 ⟨v, .inl ⟨hw, fun L w hS h1 h2 => h L w hS h1 h2 _ fun _ hS' => ⟨rfl, hS'⟩⟩, hr⟩
end
def S2 (a b c : Nat) (W W1 W2 : World) (L : Nat → Bool) (w : World) : Prop :=
 (L a = true ∧ L b = true ∧ L c = true ∧ w = W2) ∨ (L a = false ∧ L c = true ∧ w = W1) ∨ (L a = false ∧ L c = false ∧ w = W)
section
variable {a b c i : Nat} {W W1 W2 w : World} {L : Nat → Bool}
theorem S2.none_ : S2 a b c W W1 W2 (fun _ => false) W := .inr (.inr ⟨rfl, rfl, rfl⟩)
theorem S2.keep (h : S2 a b c W W1 W2 L w) (ha : i ≠ a) (hc : i ≠ c) : S2 a b c W W1 W2 (upd L i) w := by
 unfold S2 at *
 rw [upd_ne L ha.symm, upd_ne L hc.symm]
 refine h.imp (fun ⟨h1, h2, h3, h4⟩ => ⟨h1, ?_, h3, h4⟩) id
 by_cases hb : b = i
 · subst hb; exact upd_same _ _
 · rw [upd_ne L hb]; exact h2
theorem S2.at0 (h : S2 a b c W W1 W2 L w) (hc : L c = false) : w = W := by
 rcases h with ⟨_, _, e, _⟩ | ⟨_, e, _⟩ | ⟨_, _, e⟩
 · rw [hc] at e; cases e
 · rw [hc] at e; cases e
 · exact e
theorem S2.to1 (h : S2 a b c W W1 W2 L w) (hc : L c = false) (hac : a ≠ c) : S2 a b c W W1 W2 (upd L c) W1 := by
 rcases h with ⟨_, _, e, _⟩ | ⟨_, e, _⟩ | ⟨e, _, _⟩
 · rw [hc] at e; cases e
 · rw [hc] at e; cases e
 · exact .inr (.inl ⟨by rw [upd_ne L hac]; exact e, upd_same _ _, rfl⟩)
theorem S2.at1 (h : S2 a b c W W1 W2 L w) (hc : L c = true) (hb : L b = false) : w = W1 := by
 rcases h with ⟨_, e, _⟩ | ⟨_, _, e⟩ | ⟨_, e, _⟩
 · rw [hb] at e; cases e
 · exact e
 · rw [hc] at e; cases e
theorem S2.at1' (h : S2 a b c W W1 W2 L w) (hc : L c = true) (ha : L a = false) : w = W1 := by
 rcases h with ⟨e, _⟩ | ⟨_, _, e⟩ | ⟨_, e, _⟩
 · rw [ha] at e; cases e
 · exact e
 · rw [hc] at e; cases e
theorem S2.to2 (hc : L c = true) (hb : L b = true) (hac : a ≠ c) (hab : a ≠ b) : S2 a b c W W1 W2 (upd L a) W2 :=
 .inl ⟨upd_same _ _, by rw [upd_ne L hab.symm]; exact hb, by rw [upd_ne L hac.symm]; exact hc, rfl⟩
theorem S2.at2 (h : S2 a b c W W1 W2 L w) (ha : L a = true) : w = W2 := by
 rcases h with ⟨_, _, _, e⟩ | ⟨e, _⟩ | ⟨e, _⟩
 · exact e
 · rw [ha] at e; cases e
 · rw [ha] at e; cases e
theorem S2.old (h : S2 a b c W W1 W2 L w) {p : World → Prop} (h0 : p W) (h1 : p W1) (h2 : p W2) : p w := by
 rcases h with ⟨_, _, _, rfl⟩ | ⟨_, _, rfl⟩ | ⟨_, _, rfl⟩ <;> assumption
def S1 (c : Nat) (W W1 : World) : (Nat → Bool) → World → Prop := fun L w => (L c = true ∧ w = W1) ∨ (L c = false ∧ w = W)
theorem S1.none_ {c : Nat} {W W1 : World} : S1 c W W1 (fun _ => false) W := .inr ⟨rfl, rfl⟩
theorem S1.keep {c i : Nat} {W W1 w : World} {L : Nat → Bool} (h : S1 c W W1 L w) (hc : i ≠ c) : S1 c W W1 (upd L i) w := by
 unfold S1 at *
 rw [upd_ne L hc.symm]
 exact h
theorem S1.at0 {c : Nat} {W W1 w : World} {L : Nat → Bool} (h : S1 c W W1 L w) (hc : L c = false) : w = W := by
 rcases h with ⟨e, _⟩ | ⟨_, e⟩
 · rw [hc] at e; cases e
 · exact e
theorem S1.to1 {c : Nat} {W W1 : World} {L : Nat → Bool} : S1 c W W1 (upd L c) W1 := .inl ⟨upd_same _ _, rfl⟩
theorem S1.at1 {c : Nat} {W W1 w : World} {L : Nat → Bool} (h : S1 c W W1 L w) (hc : L c = true) : w = W1 := by
 rcases h with ⟨_, e⟩ | ⟨e, _⟩
 · exact e
 · rw [hc] at e; cases e
theorem S1.old {c : Nat} {W W1 w : World} {L : Nat → Bool} (h : S1 c W W1 L w) {p : World → Prop} (h0 : p W) (h1 : p W1) : p w := by
 rcases h with ⟨_, rfl⟩ | ⟨_, rfl⟩ <;> assumption
end
end RegL
end Go.Proofs.YtdkckikobefekaaGreatDoor
