/-
  A region that draws its order, the second form: what the world is may depend on which operations have been carried out ('S L w', L: which ones), and the operations behind number n are forced by their edges, direct or not; Contracts: the ways to place a word (layer 3 of the spec package).
  Conditions: as each part below says.
-/
import Derived.Test.YtamdcbbclkobiaaGreatDoorM01
import Derived.Test.YtamdcbbclkobiaaGreatDoorM03
import Derived.Deep.DeepCutAuto
/-
  A region that draws its order, the second form: what the world is may depend on which operations have been carried out ('S L w', L: which ones), and the operations behind number n are forced by their edges, direct or not.
  Conditions: the closed check regCkL of the region's own edges.
-/
namespace Go.Proofs.YtamdcbbclkobiaaGreatDoor
namespace RegL
open RegP
section
variable {P : Program} {ops : Array Oper} {Q : Exit → Act → World → Prop} {S : (Nat → Bool) → World → Prop}

def upd (L : Nat → Bool) (i : Nat) : Nat → Bool := fun j => decide (j = i) || L j
theorem upd_same (L : Nat → Bool) (i : Nat) : upd L i i = true := by simp [upd]
theorem upd_ne (L : Nat → Bool) {i j : Nat} (h : j ≠ i) : upd L i j = L j := by simp [upd, h]

/-! ### The check -/
inductive Anc (ops : Array Oper) : Nat → Nat → Prop
  | one {j k : Nat} {o : Oper} : ops[k]? = some o → j ∈ bindsOn o → Anc ops j k
  | more {j m k : Nat} {o : Oper} : ops[k]? = some o → m ∈ bindsOn o → Anc ops j m → Anc ops j k
theorem Anc.listed {L : Nat → Bool} (hc : ∀ i o, ops[i]? = some o → L i = true → ∀ e ∈ bindsOn o, L e = true) {j k : Nat} (h : Anc ops j k) : (∀ o, ops[k]? = some o → ∀ e ∈ bindsOn o, L e = true) → L j = true := by
  induction h with
  | one hk hj => intro h; exact h _ hk _ hj
  | more hk hm _ ih =>
    intro h
    exact ih fun o' ho' => hc _ o' ho' (h _ hk _ hm)
def ancs (ops : Array Oper) : Nat → Nat → List Nat
  | 0, _ => []
  | f + 1, k => match ops[k]? with
    | none => []
    | some o => ((bindsOn o) ++ (bindsOn o).flatMap (ancs ops f)).eraseDups
theorem ancs_ok : ∀ (f k j : Nat), j ∈ ancs ops f k → Anc ops j k
  | 0, _, _, h => by cases h
  | f + 1, k, j, h => by
    unfold ancs at h
    split at h
    · cases h
    · rename_i o ho
      rw [List.mem_eraseDups, List.mem_append, List.mem_flatMap] at h
      rcases h with h | ⟨m, hm, h⟩
      · exact .one ho h
      · exact .more ho hm (ancs_ok f m j h)
/-- The guarded step of operation i, in every state in which its own operands' operations have been carried out. -/
def GStepL (P : Program) (ops : Array Oper) (f : Nat) (S : (Nat → Bool) → World → Prop) (i : Nat) (o : Oper) (a : Act) (v : Value) : Prop :=
  (Region.wanted o (yielded ops a.tmps) = true ∧ ∀ L w, S L w → L i = false → (∀ e ∈ ancs ops f i, L e = true) → o.wp P a w (fun a' w' => a' = a.put o.dst v ∧ S (upd L i) w') Never) ∨
  (Region.wanted o (yielded ops a.tmps) = false ∧ v = undef ∧ ∀ L w, S L w → L i = false → S (upd L i) w)

theorem GStepL.wpOp {f i : Nat} {o : Oper} {v : Value} {a a' : Act} {w : World} {L : Nat → Bool} {K : Act → World → Prop} (hi : ops[i]? = some o) (hs : ∀ cs b, o.op ≠ .select cs b) (hsz : a.tmps.size = a'.tmps.size) (hl : ∀ t ∈ o.looksAt ops, a.tmps[t]? = a'.tmps[t]?)
    (h : GStepL P ops f S i o a v) (hS : S L w) (hLi : L i = false) (hd : ∀ e ∈ ancs ops f i, L e = true) (hK : ∀ w', S (upd L i) w' → K (a'.put o.dst v) w') : wpOp P ops Q i K a' w := by
  have hw := wanted_congr hl
  unfold Go.wpOp
  simp only [hi]
  rcases h with ⟨h1, h2⟩ | ⟨h1, rfl, h2⟩
  · rw [hw] at h1
    simp only [h1, if_true]
    refine .inl ?_
    have h3 := h2 L w hS hLi hd
    have he : ∀ x ∈ o.op.operands, a.eval x = a'.eval x := fun x hx => by
      cases x with
      | tmp t =>
        have := hl t (List.mem_append_left _ (List.mem_filterMap.2 ⟨.tmp t, by simpa using hx, rfl⟩))
        simp only [Act.eval, Array.getD_eq_getD_getElem?, this]
      | _ => rfl
    unfold Oper.wp at *
    rw [execOp_congr o hs he] at h3
    generalize (execOp a'.eval o).run P w = r at *
    cases r with
    | ok n w' =>
      cases n <;> simp only [Oper.upon] at h3 ⊢
      case value u => rw [put_inj hsz h3.1]; exact hK _ h3.2
      case skip => rw [put_inj hsz h3.1]; exact hK _ h3.2
      case defer d =>
        exfalso
        have h4 := congrArg Act.defers h3.1
        rw [put_defers', put_defers'] at h4
        have := congrArg List.length h4
        simp at this
      case enter f args =>
        refine Calls.mono h3 fun e w'' he => ?_
        cases e with
        | returned u => simp only at he ⊢; rw [put_inj hsz he.1]; exact hK _ he.2
        | panicked c => exact he.elim
        | outgrown => obtain ⟨_, _, hh⟩ := he; exact hh.elim
      case row row args => exact Rows.mono h3 fun u w'' he => by rw [put_inj hsz he.1]; exact hK _ he.2
    | halt x w' =>
      cases x <;> simp only [Oper.upon] at h3
      case panic u => exact h3.elim
  · rw [hw] at h1
    simp only [h1, Bool.false_eq_true, if_false]
    exact hK w (h2 L w hS hLi)

def PChainL (P : Program) (ops : Array Oper) (f : Nat) (S : (Nat → Bool) → World → Prop) (End : Act → Prop) : Nat → List Oper → Act → Prop
  | _, [], a => End a
  | i, o :: r, a => ∃ v, GStepL P ops f S i o a v ∧ PChainL P ops f S End (i + 1) r (a.put o.dst v)

theorem PChainL.vals {f : Nat} {End : Act → Prop} : ∀ (l : List Oper) (k : Nat) (a : Act), PChainL P ops f S End k l a →
    ∃ vs : List Value, vs.length = l.length ∧ End (actAfter l vs a) ∧ ∀ i o v, l[i]? = some o → vs[i]? = some v → GStepL P ops f S (k + i) o (actAfter (l.take i) (vs.take i) a) v
  | [], _, a, h => ⟨[], rfl, h, fun i o v hi => by simp at hi⟩
  | o :: r, k, a, ⟨v, hg, hc⟩ => by
    obtain ⟨vs, hl, he, hs⟩ := PChainL.vals r _ _ hc
    refine ⟨v :: vs, by simp [hl], he, fun i o' v' hi hv => ?_⟩
    cases i with
    | zero => simp at hi hv; subst hi; subst hv; simpa [actAfter] using hg
    | succ i => simp at hi hv; have := hs i o' v' hi hv; rw [show k + 1 + i = k + (i + 1) from by omega] at this; simpa [actAfter] using this

def tailWaitsL (ops : Array Oper) (f n : Nat) : Bool :=
  (ops.toList.drop n).zipIdx.all fun (o, d) => if d = 0 then (List.range n).all fun j => (ancs ops f n).contains j else (bindsOn o).any fun e => decide (n ≤ e)
def regCkL (ops : Array Oper) (f n : Nat) : Bool :=
  decide (n ≤ ops.size) && (ops.toList.take n).zipIdx.all (fun (o, i) => opCk ops (ops.toList.take n) i o) && tailCk ops n && tailWaitsL ops f n

theorem prefix_anyL {f n : Nat} {a0 : Act} {vs : List Value} (hn : n ≤ ops.size) (hlen : vs.length = (ops.toList.take n).length)
    (hops : ∀ i o, (ops.toList.take n)[i]? = some o → opCk ops (ops.toList.take n) i o = true) (htw : tailWaitsL ops f n = true) (hd : dstsApart (ops.toList.take n))
    (hst : ∀ i o v, (ops.toList.take n)[i]? = some o → vs[i]? = some v → GStepL P ops f S i o (actAfter ((ops.toList.take n).take i) (vs.take i) a0) v)
    (hend : ∀ w, S (fun i => decide (i < n)) w → wpAny P .any ops Q (ops.size - n) (lst ops.size n) (actAfter (ops.toList.take n) vs a0) w) :
    ∀ (m : Nat) (listed : Array Bool) (a : Act) (w : World), unl listed n = m → listed.size = ops.size → (∀ k, n ≤ k → listed.getD k false = false) →
      (∀ i o, ops[i]? = some o → listed.getD i false = true → ∀ e ∈ bindsOn o, listed.getD e false = true) →
      Is (ops.toList.take n) vs a0 (fun i => listed.getD i false) a → S (fun i => listed.getD i false) w → wpAny P .any ops Q (m + (ops.size - n)) listed a w := by
  have hnl : (ops.toList.take n).length = n := by simp; omega
  intro m
  induction m with
  | zero =>
    intro listed a w hm hsz hout _ his hS
    have hall := unl_zero hm
    have hL : listed = lst ops.size n := by
      apply Array.ext_getElem?
      intro i
      rw [lst_get]
      by_cases hi : i < ops.size
      · rw [if_pos hi, Array.getElem?_eq_getElem (by omega)]
        congr 1
        by_cases hin : i < n
        · have := hall i hin
          simp [hin]
          simpa [Array.getD_eq_getD_getElem?, Array.getElem?_eq_getElem (show i < listed.size by omega)] using this
        · have := hout i (by omega)
          simp [hin]
          simpa [Array.getD_eq_getD_getElem?, Array.getElem?_eq_getElem (show i < listed.size by omega)] using this
      · rw [if_neg hi, Array.getElem?_eq_none (by omega)]
    have hA : a = actAfter (ops.toList.take n) vs a0 := by
      have h2 := Is.take (a0 := a0) hd hlen n (by omega)
      rw [List.take_of_length_le (by omega : (ops.toList.take n).length ≤ n), List.take_of_length_le (by omega : vs.length ≤ n)] at h2
      have ht : a.tmps = (actAfter (ops.toList.take n) vs a0).tmps := by
        apply Array.ext_getElem?
        intro t
        refine his.same hlen h2 t fun j o hj _ => ?_
        have hlt : j < n := by have := (List.getElem?_eq_some_iff.1 hj).1; omega
        exact ⟨hall j hlt, by simp [hlt]⟩
      have hdf : a.defers = (actAfter (ops.toList.take n) vs a0).defers := his.defers.trans h2.defers.symm
      cases a
      generalize actAfter (ops.toList.take n) vs a0 = b at *
      cases b
      simp_all
    have hLf : (fun i => listed.getD i false) = fun i => decide (i < n) := by
      funext i
      by_cases hin : i < n
      · simp only [hin, decide_true]; exact hall i hin
      · simp only [hin, decide_false]; exact hout i (by omega)
    rw [hLf] at hS
    subst hL
    subst hA
    simpa using hend w hS
  | succ m ih =>
    intro listed a w hm hsz hout hcl his hS
    obtain ⟨i0, hi0, hu0, hb0⟩ := unl_pos (n := n) (listed := listed) (by omega)
    have hget : ∀ i, i < n → ∃ o, (ops.toList.take n)[i]? = some o ∧ ops[i]? = some o := fun i hi => by
      have h1 : i < ops.toList.length := by simp; omega
      refine ⟨ops[i]'(by omega), ?_, Array.getElem?_eq_getElem (by omega)⟩
      rw [List.getElem?_take_of_lt hi]
      simp [Array.getElem?_eq_getElem (show i < ops.size by omega)]
    rw [show m + 1 + (ops.size - n) = (m + (ops.size - n)) + 1 from by omega]
    refine ⟨fun hnil => ?_, fun i hi => ?_⟩
    · exfalso
      obtain ⟨o, ho1, ho2⟩ := hget i0 hi0
      have hck := hops i0 o ho1
      simp only [opCk, Bool.and_eq_true, List.all_eq_true, decide_eq_true_eq] at hck
      have : i0 ∈ Region.ready .any ops listed := ready_iff.2 ⟨by
        have : i0 < listed.size := by omega
        simpa [Array.getD_eq_getD_getElem?, Array.getElem?_eq_getElem this] using hu0, o, ho2, fun e he => hb0 e (hck.1.2 e he)⟩
      rw [hnil] at this
      cases this
    · obtain ⟨hun, o, hoi, hall⟩ := ready_iff.1 hi
      have his' : i < ops.size := (Array.getElem?_eq_some_iff.1 hoi).1
      have hun' : listed.getD i false = false := by
        have : i < listed.size := by omega
        simpa [Array.getD_eq_getD_getElem?, Array.getElem?_eq_getElem this] using hun
      by_cases hin : i < n
      · obtain ⟨o', ho1, ho2⟩ := hget i hin
        rw [hoi] at ho2; cases ho2
        have hck := hops i o ho1
        simp only [opCk, Bool.and_eq_true, List.all_eq_true, decide_eq_true_eq] at hck
        obtain ⟨⟨hsel, _⟩, hdep⟩ := hck
        have hv : vs[i]? = some (vs[i]'(by omega)) := List.getElem?_eq_getElem (by omega)
        have hg := hst i o _ ho1 hv
        have htk := Is.take (a0 := a0) hd hlen i (by omega)
        have hupd : (fun j => (listed.setIfInBounds i true).getD j false) = upd (fun j => listed.getD j false) i := by
          funext j
          by_cases hji : j = i
          · subst hji
            rw [upd_same]
            have : j < listed.size := by omega
            simp [this]
          · rw [upd_ne _ hji]; exact getD_set_ne false (fun e => hji e.symm)
        refine hg.wpOp hoi (fun cs b e => by simp [notSel, e] at hsel) (htk.size.trans his.size.symm) (fun t ht => by
          refine htk.same hlen his t fun j oj hj hdj => ?_
          have hm2 : (oj, j) ∈ (ops.toList.take n).zipIdx := by
            rw [List.mem_zipIdx_iff_getElem?]; exact hj
          have := hdep (oj, j) hm2
          simp only [hdj, Bool.and_eq_true, Bool.or_eq_true, Bool.not_eq_true', List.contains_eq_mem, decide_eq_true_eq, decide_eq_false_iff_not] at this
          rcases this.1 with h | ⟨h1, h2⟩
          · exact absurd ht h
          · exact ⟨by simp [h2], hall j h1⟩) hS hun' (fun e he => (ancs_ok f i e he).listed (L := fun j => listed.getD j false) hcl (fun o' ho' => by rw [hoi] at ho'; cases ho'; exact hall)) fun w' hS' => ih _ _ w' ?_ (by simpa using hsz) ?_ ?_ ?_ (by rw [hupd]; exact hS')
        · have := unl_set (n := n) (listed := listed) (i := i) (by omega) hun' hin
          omega
        · intro k hk
          rw [getD_set_ne false (by omega)]
          exact hout k hk
        · intro j oj hj hLj e he
          by_cases hji : j = i
          · subst hji
            rw [hoi] at hj; cases hj
            exact getD_set_true (hall e he)
          · rw [getD_set_ne false (fun e => hji e.symm)] at hLj
            exact getD_set_true (hcl j oj hj hLj e he)
        · refine his.step hd ho1 hv ?_ ?_
          · have : i < listed.size := by omega
            simp [this]
          · intro j _ hji
            exact getD_set_ne false (fun e => hji e.symm)
      · exfalso
        simp only [tailWaitsL, List.all_eq_true] at htw
        have hm2 : (o, i - n) ∈ (ops.toList.drop n).zipIdx := by
          rw [List.mem_zipIdx_iff_getElem?]
          simp only [List.getElem?_drop]
          rw [show n + (i - n) = i from by omega]
          simpa using hoi
        have := htw _ hm2
        simp only at this
        split at this
        · rename_i h0
          have hin' : i = n := by omega
          subst hin'
          simp only [List.all_eq_true, List.mem_range, List.contains_eq_mem, decide_eq_true_eq] at this
          have h1 := (ancs_ok f i i0 (this i0 hi0)).listed (L := fun j => listed.getD j false) hcl (fun o' ho' => by rw [hoi] at ho'; cases ho'; exact hall)
          rw [hu0] at h1
          cases h1
        · simp only [List.any_eq_true, decide_eq_true_eq] at this
          obtain ⟨e, he, hne⟩ := this
          have h1 := hall e he
          rw [hout e hne] at h1
          cases h1

theorem wp_region_l {id : Nat} {a : Act} {w : World} (f n : Nat) (S : (Nat → Bool) → World → Prop) (hm : P.follows .mixedOrders = true) (hck : regCkL ops f n = true) (hS : S (fun _ => false) w.drew)
    (h : PChainL P ops f S (fun a => ∀ w, S (fun i => decide (i < n)) w → wpList P ops Q (ops.toList.drop n) a w) 0 (ops.toList.take n) a) : (Code.region id ops true).wp P Q a w := by
  simp only [regCkL, Bool.and_eq_true, decide_eq_true_eq] at hck
  obtain ⟨⟨⟨hn, hall⟩, htc⟩, htw⟩ := hck
  have hops : ∀ i o, (ops.toList.take n)[i]? = some o → opCk ops (ops.toList.take n) i o = true := fun i o hi => by
    rw [List.all_eq_true] at hall
    exact hall (o, i) (List.mem_zipIdx_iff_getElem?.2 hi)
  have hd : dstsApart (ops.toList.take n) := fun i j oi oj t hi hj hdi hdj => by
    have := hops i oi hi
    simp only [opCk, Bool.and_eq_true, List.all_eq_true] at this
    have h2 := this.2 (oj, j) (List.mem_zipIdx_iff_getElem?.2 hj)
    simp only [hdj, Bool.and_eq_true, Bool.or_eq_true, decide_eq_true_eq] at h2
    rcases h2.2 with e | e
    · exact e.symm
    · simp [hdi] at e
  obtain ⟨vs, hlen, hend, hst⟩ := PChainL.vals _ _ _ h
  refine wp_region_any hm ?_
  have hs0 : unl (Array.replicate ops.size false) n = n := by
    have : ∀ m, unl (Array.replicate ops.size false) m = m := by
      intro m
      induction m with
      | zero => rfl
      | succ m ih =>
        unfold unl at *
        rw [List.range_succ, List.countP_append, ih]
        by_cases h : m < ops.size <;> simp [h]
    exact this n
  have hfalse : ∀ k, (Array.replicate ops.size false).getD k false = false := fun k => by
    by_cases h : k < ops.size <;> simp [h]
  have hS' : S (fun i => (Array.replicate ops.size false).getD i false) w.drew := by
    rw [show (fun i => (Array.replicate ops.size false).getD i false) = fun _ => false from funext hfalse]; exact hS
  have := prefix_anyL (Q := Q) (a0 := a) hn hlen hops htw hd (fun i o v h1 h2 => by have := hst i o v h1 h2; rwa [Nat.zero_add] at this) (fun w' hw' => tail_any htc (ops.size - n) n (by omega) (Nat.le_refl _) _ _ (hend w' hw')) n (Array.replicate ops.size false) a w.drew hs0 (by simp) (fun k _ => hfalse k)
    (fun i o _ h => by rw [hfalse i] at h; cases h) (Is.start fun i _ => hfalse i) hS'
  rw [show n + (ops.size - n) = ops.size from by omega] at this
  exact this

/-- The steps of a chain. -/
theorem pl_nil {End : Act → Prop} {a : Act} {f i : Nat} (h : End a) : PChainL P ops f S End i [] a := h
theorem pl_step {End : Act → Prop} {a : Act} {o : Oper} {r : List Oper} {v : Value} {f i : Nat} (hw : Region.wanted o (yielded ops a.tmps) = true)
    (h : ∀ L w, S L w → L i = false → (∀ e ∈ ancs ops f i, L e = true) → ∀ K : Act → World → Prop, (∀ w', S (upd L i) w' → K (a.put o.dst v) w') → o.wp P a w K Never) (hr : PChainL P ops f S End (i + 1) r (a.put o.dst v))   : PChainL P ops f S End i (o :: r) a :=
  ⟨v, .inl ⟨hw, fun L w hS h1 h2 => h L w hS h1 h2 _ fun _ hS' => ⟨rfl, hS'⟩⟩, hr⟩
theorem pl_skip {End : Act → Prop} {a : Act} {o : Oper} {r : List Oper} {f i : Nat} (hw : Region.wanted o (yielded ops a.tmps) = false) (hS : ∀ L w, S L w → L i = false → S (upd L i) w)
    (hr : PChainL P ops f S End (i + 1) r (a.put o.dst undef))   : PChainL P ops f S End i (o :: r) a := ⟨undef, .inr ⟨hw, rfl, hS⟩, hr⟩
end

/-- Two blocks are made one behind the other, by operations c and then a (b lies between them): what the world is. -/
def S2 (a b c : Nat) (W W1 W2 : World) (L : Nat → Bool) (w : World) : Prop :=
  (L a = true ∧ L b = true ∧ L c = true ∧ w = W2) ∨ (L a = false ∧ L c = true ∧ w = W1) ∨ (L a = false ∧ L c = false ∧ w = W)
section
variable {a b c i : Nat} {W W1 W2 w : World} {L : Nat → Bool}
theorem S2.none_ : S2 a b c W W1 W2 (fun _ => false) W := .inr (.inr ⟨rfl, rfl, rfl⟩)
theorem S2.keep (h : S2 a b c W W1 W2 L w) (ha : i ≠ a) (hc : i ≠ c) : S2 a b c W W1 W2 (upd L i) w := by
  unfold S2 at *
  rw [upd_ne L ha.symm, upd_ne L hc.symm]
  refine h.imp (fun ⟨h1, h2, h3, h4⟩ => ⟨h1, ?_, h3, h4⟩) id
  by_cases hb : b = i
  · subst hb; exact upd_same _ _
  · rw [upd_ne L hb]; exact h2
theorem S2.at0 (h : S2 a b c W W1 W2 L w) (hc : L c = false) : w = W := by
  rcases h with ⟨_, _, e, _⟩ | ⟨_, e, _⟩ | ⟨_, _, e⟩
  · rw [hc] at e; cases e
  · rw [hc] at e; cases e
  · exact e
theorem S2.to1 (h : S2 a b c W W1 W2 L w) (hc : L c = false) (hac : a ≠ c) : S2 a b c W W1 W2 (upd L c) W1 := by
  rcases h with ⟨_, _, e, _⟩ | ⟨_, e, _⟩ | ⟨e, _, _⟩
  · rw [hc] at e; cases e
  · rw [hc] at e; cases e
  · exact .inr (.inl ⟨by rw [upd_ne L hac]; exact e, upd_same _ _, rfl⟩)
theorem S2.at1 (h : S2 a b c W W1 W2 L w) (hc : L c = true) (hb : L b = false) : w = W1 := by
  rcases h with ⟨_, e, _⟩ | ⟨_, _, e⟩ | ⟨_, e, _⟩
  · rw [hb] at e; cases e
  · exact e
  · rw [hc] at e; cases e
theorem S2.at1' (h : S2 a b c W W1 W2 L w) (hc : L c = true) (ha : L a = false) : w = W1 := by
  rcases h with ⟨e, _⟩ | ⟨_, _, e⟩ | ⟨_, e, _⟩
  · rw [ha] at e; cases e
  · exact e
  · rw [hc] at e; cases e
theorem S2.to2 (hc : L c = true) (hb : L b = true) (hac : a ≠ c) (hab : a ≠ b) : S2 a b c W W1 W2 (upd L a) W2 :=
  .inl ⟨upd_same _ _, by rw [upd_ne L hab.symm]; exact hb, by rw [upd_ne L hac.symm]; exact hc, rfl⟩
theorem S2.at2 (h : S2 a b c W W1 W2 L w) (ha : L a = true) : w = W2 := by
  rcases h with ⟨_, _, _, e⟩ | ⟨e, _⟩ | ⟨e, _⟩
  · exact e
  · rw [ha] at e; cases e
  · rw [ha] at e; cases e
theorem S2.old (h : S2 a b c W W1 W2 L w) {p : World → Prop} (h0 : p W) (h1 : p W1) (h2 : p W2) : p w := by
  rcases h with ⟨_, _, _, rfl⟩ | ⟨_, _, rfl⟩ | ⟨_, _, rfl⟩ <;> assumption
/-- one block: made by op c -/
def S1 (c : Nat) (W W1 : World) : (Nat → Bool) → World → Prop := fun L w => (L c = true ∧ w = W1) ∨ (L c = false ∧ w = W)
theorem S1.none_ {c : Nat} {W W1 : World} : S1 c W W1 (fun _ => false) W := .inr ⟨rfl, rfl⟩
theorem S1.keep {c i : Nat} {W W1 w : World} {L : Nat → Bool} (h : S1 c W W1 L w) (hc : i ≠ c) : S1 c W W1 (upd L i) w := by
  unfold S1 at *
  rw [upd_ne L hc.symm]
  exact h
theorem S1.at0 {c : Nat} {W W1 w : World} {L : Nat → Bool} (h : S1 c W W1 L w) (hc : L c = false) : w = W := by
  rcases h with ⟨e, _⟩ | ⟨_, e⟩
  · rw [hc] at e; cases e
  · exact e
theorem S1.to1 {c : Nat} {W W1 : World} {L : Nat → Bool} : S1 c W W1 (upd L c) W1 := .inl ⟨upd_same _ _, rfl⟩
theorem S1.at1 {c : Nat} {W W1 w : World} {L : Nat → Bool} (h : S1 c W W1 L w) (hc : L c = true) : w = W1 := by
  rcases h with ⟨_, e⟩ | ⟨e, _⟩
  · exact e
  · rw [hc] at e; cases e
theorem S1.old {c : Nat} {W W1 w : World} {L : Nat → Bool} (h : S1 c W W1 L w) {p : World → Prop} (h0 : p W) (h1 : p W1) : p w := by
  rcases h with ⟨_, rfl⟩ | ⟨_, rfl⟩ <;> assumption
end
end RegL
end Go.Proofs.YtamdcbbclkobiaaGreatDoor
/-
  Contracts: the ways to place a word (layer 3 of the spec package).
  Conditions: words of small letters of at most 20 bytes.
-/
namespace Go.Proofs.YtamdcbbclkobiaaGreatDoor
open Go.RowKit RegP RegL
set_option maxHeartbeats 400000

def upC (c : UInt8) : UInt8 := c - 32
def waysF : Str → Str → List Str
  | _, [] => [[]]
  | p, c :: r => (if takeB p [63] then (waysF (takeS p [63]) r).map (upC c :: ·) else []) ++ (if takeB p [c] then (waysF (takeS p [c]) r).map (c :: ·) else [])
theorem waysF_length : ∀ (p word : Str), (waysF p word).length ≤ 2 ^ word.length
  | _, [] => by simp [waysF]
  | p, c :: r => by
    have h1 := waysF_length (takeS p [63]) r
    have h2 := waysF_length (takeS p [c]) r
    rw [waysF, List.length_append, List.length_cons, Nat.pow_succ]
    split <;> split <;> simp <;> omega
theorem waysF_len : ∀ (p word : Str), ∀ x ∈ waysF p word, x.length = word.length
  | _, [], x, h => by simp [waysF] at h; subst h; rfl
  | p, c :: r, x, h => by
    rw [waysF, List.mem_append] at h
    rcases h with h | h
    · split at h
      · obtain ⟨y, hy, rfl⟩ := List.mem_map.1 h; simp [waysF_len _ _ y hy]
      · cases h
    · split at h
      · obtain ⟨y, hy, rfl⟩ := List.mem_map.1 h; simp [waysF_len _ _ y hy]
      · cases h
theorem run_string_lit {P : Program} (src dst e : TypeId) (hs : P.underlying src = some (.slice e)) (he : P.underlying e = some (.int .u8)) (hd : P.underlying dst = some .string) (w : World) (c : UInt8) :
    (convert src dst (.slice (some ⟨w.heap.size, 0, none⟩) 1 1)).run P (w.alloc (.cells #[bv c] e)) = .ok (sv [c]) (w.alloc (.cells #[bv c] e)) :=
  run_string_own (w.alloc (.cells #[bv c] e)) src dst e hs he hd (base := w.heap.size) (l := [c]) (World.ownsRow_lit w #[bv c] 1 (Nat.le_refl _) (by unfold maxLen; omega) rfl)

theorem ways_loop1 (c : UInt8) (hc : smallB c = true) : Value.int .u8 ((c.toNat : Int) - 97 + 65) = bv (upC c) := by
  simp only [smallB, Bool.and_eq_true, decide_eq_true_eq] at hc
  have : (upC c).toNat = c.toNat - 32 := by unfold upC; rw [UInt8.toNat_sub_of_le]; simp; rw [UInt8.le_iff_toNat_le]; simp; omega
  show _ = Value.int .u8 ((upC c).toNat : Int)
  rw [this]
  refine vi_eq (by omega)

set_option maxHeartbeats 4000000 in
theorem l03Ways_any : ∀ (n : Nat) (word pile : Str) (w : World), word.length = n → n ≤ 20 → word.all smallB = true → pile.length ≤ 2 ^ 37 →
    Calls Tryz.prog 97 #[sv pile, sv word] w fun e w' => ∃ v, e = .returned v ∧ w'.ownsRow w.heap.size 9 1 v (waysF pile word).length ((waysF pile word).map sv) ∧ Below w.heap.size w w' := by
  intro n
  induction n with
  | zero =>
    intro word pile w hn _ _ hp
    obtain rfl : word = [] := List.eq_nil_of_length_eq_zero hn
    go_enter Tryz.func97, Tryz.ntmps97
    go_wp2_with (fail)
    go_ret
    exact ⟨_, rfl, World.ownsRow_lit w #[sv []] 1 (Nat.le_refl _) (by unfold maxLen; omega) rfl, (Below.refl _ _).alloc (Nat.le_refl _) _⟩
  | succ n ih =>
    intro word pile w hn h20 hsm hp
    obtain ⟨c, r, rfl⟩ : ∃ c r, word = c :: r := by cases word with | nil => simp at hn | cons c r => exact ⟨c, r, rfl⟩
    have hr : Hid (r.length = n) := Lib.hid (by simpa using hn)
    have hr20 : r.length ≤ 19 := by rw [hr.out]; omega
    clear hn
    simp only [List.all_cons, Bool.and_eq_true] at hsm
    obtain ⟨hc, hrs⟩ := hsm
    have hcb := hc
    simp only [smallB, Bool.and_eq_true, decide_eq_true_eq] at hcb
    obtain ⟨hcb1, hcb2⟩ := hcb
    have H := Lib.hid ih
    clear ih
    go_enter Tryz.func97, Tryz.ntmps97
    go_wp2_with (fail)
    refine (l03Take_any pile [63] _ (by omega) (by simp)).mono ?_
    obtain ⟨ok, hok⟩ : ∃ ok, ok = takeB pile [63] := ⟨_, rfl⟩
    have hok' := Lib.hid hok
    have hlt := takeS_length pile [63]
    obtain ⟨less, hle⟩ : ∃ less, less = takeS pile [63] := ⟨_, rfl⟩
    have hle' := Lib.hid hle
    rw [← hle] at hlt
    rw [← hok, ← hle]
    clear hok hle
    rintro e w1 ⟨rfl, hb1⟩
    have hw1 : Below w.heap.size w w1 := ((Below.refl _ _).alloc (Nat.le_refl _) _).trans (hb1.mono (by simp))
    have hz1 : w.heap.size < w1.heap.size := by have := hb1.size; simp at this; omega
    have own1 : w1.ownsRow w.heap.size 9 1 (.slice (some ⟨w.heap.size, 0, none⟩) 0 0) 0 [] := own_call (World.ownsRow_lit w #[] 0 (Nat.le_refl _) (by unfold maxLen; omega) rfl) hb1
    go_upto_if 24 with (fail)
    go_cut [5] (fun o wx => ∃ xs : List Str, xs = (if takeB pile [63] then (waysF (takeS pile [63]) r).map (upC c :: ·) else []) ∧ wx.ownsRow w.heap.size 9 1 o xs.length (xs.map sv) ∧ Below w.heap.size w wx)
    case first =>
      cases ok
      · go_wp2_with (fail)
        go_meet
        exact ⟨[], by rw [← hok'.out]; simp, own1, hw1⟩
      · go_wp2_with (fail)
        refine (H.out r less _ hr.out (by omega) hrs (by omega)).mono ?_
        rintro e w2 ⟨v2, rfl, own2, hb2⟩
        have hwl := waysF_length less r
        have hwb : 2 ^ r.length ≤ 2 ^ 19 := Nat.pow_le_pow_right (by omega) hr20
        have hall := waysF_len less r
        obtain ⟨xs, hxs⟩ : ∃ xs, xs = waysF less r := ⟨_, rfl⟩
        rw [← hxs] at own2 hwl hall
        have hxs' := Lib.hid hxs
        clear hxs
        obtain ⟨A2, c2, rfl, hc2, hr2⟩ := own_sl own2
        have own1' := own_call own1 hb2
        have hlo2 := own_lo own2
        have hw2 := hw1.trans (hb2.mono hw1.size)
        have hnw2 : w1.heap.size ≤ w2.heap.size := hb2.size
        clear own1 hb1
        go_wp2_with (fail)
        go_loopw [5, 10] (fun o i wr => ∃ k : Nat, k ≤ xs.length ∧ i = .int .i64 k ∧ wr.ownsRow w.heap.size 9 1 o k (((xs.take k).map (upC c :: ·)).map sv) ∧ Reads wr w2.heap.size 1 A2 xs.length (xs.map sv) ∧ Below w.heap.size w wr ∧ w2.heap.size ≤ wr.heap.size ∧ (∀ q, o.ownBlock = some q → q < w1.heap.size ∨ w2.heap.size ≤ q)) (fun _ i _ => xs.length - (intOf i).toNat)
        case atStart => exact ⟨0, by omega, rfl, own1', hr2, hw2, Nat.le_refl _, fun q hq => by simp [Value.ownBlock] at hq; have := hw1.size; omega⟩
        case round =>
          obtain ⟨k, hk, rfl, own3, hr3, hw3, hz3, hq3⟩ := hrel
          by_cases hkl : k < xs.length
          · obtain ⟨ad, rfl, hadb, hc1⟩ := hr3.el hkl
            have hx1 := hall xs[k] (List.getElem_mem _)
            have hlit := run_string_lit (P := Tryz.prog) 57 9 5 Tryz.underlying57 Tryz.underlying5 Tryz.underlying9
            go_wp2_with (fail)
            obtain ⟨W, hW⟩ : ∃ W, W = wr.drew := ⟨_, rfl⟩
            have hcW : ∀ o1 o2 : Obj, W.cell? (ad.add k) = some (sv xs[k]) ∧ (W.alloc o1).cell? (ad.add k) = some (sv xs[k]) ∧ ((W.alloc o1).alloc o2).cell? (ad.add k) = some (sv xs[k]) := by
              intro o1 o2
              have hbk : (ad.add k).block < W.heap.size := by rw [block_of_add, hW]; show ad.block < wr.heap.size; omega
              have h0 : W.cell? (ad.add k) = some (sv xs[k]) := by rw [hW]; exact hc1
              have h1 : (W.alloc o1).cell? (ad.add k) = some (sv xs[k]) := by rw [World.cell?_alloc_lt _ _ _ hbk]; exact h0
              exact ⟨h0, h1, by rw [World.cell?_alloc_lt _ _ _ (by simp; omega)]; exact h1⟩
            refine wp_region_l 9 12 (S2 11 5 4 W (W.alloc (.cells #[bv (upC c)] 5)) ((W.alloc (.cells #[bv (upC c)] 5)).alloc (.cells #[sv (upC c :: xs[k])] 9))) (by kernel_rfl) (by kernel_rfl) (by rw [← hW]; exact S2.none_) ?_
            have hW' := Lib.hid hW
            clear hW
            simp only [List.take_succ_cons, List.take_zero, List.drop_succ_cons, List.drop_zero]
            iterate 4
              apply pl_step rfl
              · intro L w' hS h1 h2 K hK
                clear h2
                go_wp2
                exact hS.keep (by decide) (by decide)
              simp only [Act.put, List.setIfInBounds_toArray, List.set_cons_succ, List.set_cons_zero]
            rw [ways_loop1 c hc]
            -- the literal of one byte
            apply pl_step rfl
            · intro L w' hS h1 h2 K hK
              clear h2
              obtain rfl := hS.at0 h1
              go_wp2
              exact hS.to1 h1 (by decide)
            simp only [Act.put, List.setIfInBounds_toArray, List.set_cons_succ, List.set_cons_zero]
            -- its string
            apply pl_step rfl
            · intro L w' hS h1 h2 K hK
              have h4 : L 4 = true := h2 4 (List.contains_iff_mem.1 (by kernel_rfl))
              clear h2
              obtain rfl := hS.at1 h4 h1
              have hl := hlit W (upC c)
              go_wp2
              exact hS.keep (by decide) (by decide)
            simp only [Act.put, List.setIfInBounds_toArray, List.set_cons_succ, List.set_cons_zero]
            iterate 3
              apply pl_step rfl
              · intro L w' hS h1 h2 K hK
                clear h2
                go_wp2
                exact hS.keep (by decide) (by decide)
              simp only [Act.put, List.setIfInBounds_toArray, List.set_cons_succ, List.set_cons_zero]
            -- the load
            apply pl_step rfl
            · intro L w' hS h1 h2 K hK
              clear h2
              have hc2 : w'.cell? (ad.add k) = some (sv xs[k]) := hS.old (p := fun w' => w'.cell? (ad.add k) = some (sv xs[k])) (hcW default default).1 (hcW _ default).2.1 (hcW _ _).2.2
              go_wp2
              exact hS.keep (by decide) (by decide)
            simp only [Act.put, List.setIfInBounds_toArray, List.set_cons_succ, List.set_cons_zero]
            apply pl_step rfl
            · intro L w' hS h1 h2 K hK
              clear h2
              go_wp2
              exact hS.keep (by decide) (by decide)
            simp only [Act.put, List.setIfInBounds_toArray, List.set_cons_succ, List.set_cons_zero]
            -- the literal of one string
            apply pl_step rfl
            · intro L w' hS h1 h2 K hK
              have h4 : L 4 = true := h2 4 (List.contains_iff_mem.1 (by kernel_rfl))
              have h5 : L 5 = true := h2 5 (List.contains_iff_mem.1 (by kernel_rfl))
              clear h2
              obtain rfl := hS.at1' h4 h1
              go_wp2
              exact S2.to2 h4 h5 (by decide) (by decide)
            simp only [Act.put, List.setIfInBounds_toArray, List.set_cons_succ, List.set_cons_zero]
            refine pl_nil ?_
            intro w' hS
            obtain rfl := hS.at2 rfl
            clear hS hcW hlit
            have own3' : (W.alloc (.cells #[bv (upC c)] 5)).ownsRow w.heap.size 9 1 u5 k (((xs.take k).map (upC c :: ·)).map sv) := by rw [hW'.out]; exact World.ownsRow.alloc own3 _
            have hzW : W.heap.size = wr.heap.size := by rw [hW'.out]; rfl
            have hwW : Below w.heap.size w W := by rw [hW'.out]; exact hw3.drew
            have hrW : Reads W w2.heap.size 1 (some ad) xs.length (xs.map sv) := by rw [hW'.out]; exact hr3.drew
            go_wp2_with (at_builtin; refine wpList_app' strT rfl (.tmp 35) (.tmp 46) rfl u5 k _ rfl w.heap.size own3' [sv (upC c :: xs[k])] rfl (by simp [Value.oneCell']) (W.heap.size + 1) (by simp) rfl (by omega) (by omega) (by have := hwW.size; simp; omega) ?_; intro v4 w4 own4 hg4 hat4)
            go_roundw
            case rel =>
              have hz4 := hg4.size
              try simp at hz4
              refine ⟨k + 1, by omega, by go_num, own_cast own4 (by rw [List.take_succ_eq_append_getElem hkl, List.map_append, List.map_append]; rfl) rfl, ?_, ?_, by omega, ?_⟩
              · exact ((hrW.alloc (by omega) _).grown2 hlo2 hg4 (by simp; omega) (fun q hq => hq3 q hq))
              · exact (hwW.alloc hwW.size _).grown hg4 (by have := hwW.size; simp; omega) (fun q hq => (own3'.lt q hq).1)
              · intro q hq
                rcases hat4 with e | e
                · rw [e] at hq; exact hq3 q hq
                · rw [e] at hq; simp at hq; right; omega
            case measure => simp [intOf]; omega
          · obtain rfl : k = xs.length := by omega
            rw [List.take_length] at own3
            go_wp2_with (fail)
            go_meet
            refine ⟨xs.map (upC c :: ·), ?_, own_cast own3 rfl (by simp), hw3⟩
            rw [← hok'.out, ← hle'.out, hxs'.out]; rfl
    case rest =>
      obtain ⟨ys, hys, ownO, hwO⟩ := hcut
      have hys' := Lib.hid hys
      have hzy : ys.length ≤ 2 ^ r.length := by
        rw [hys]
        have := waysF_length (takeS pile [63]) r
        split
        · simpa using this
        · simp
      have hwb : 2 ^ r.length ≤ 2 ^ 19 := Nat.pow_le_pow_right (by omega) hr20
      clear hys hok' hle' hlt hb1 own1 hz1 hw1
      go_wp2_with (fail)
      refine (l03Take_any pile [c] _ (by omega) (by simp)).mono ?_
      obtain ⟨ok, hok⟩ : ∃ ok, ok = takeB pile [c] := ⟨_, rfl⟩
      have hok' := Lib.hid hok
      have hlt := takeS_length pile [c]
      obtain ⟨less, hle⟩ : ∃ less, less = takeS pile [c] := ⟨_, rfl⟩
      have hle' := Lib.hid hle
      rw [← hle] at hlt
      rw [← hok, ← hle]
      clear hok hle
      rintro e w1 ⟨rfl, hb1⟩
      have own1 := own_call ownO hb1
      have hw1 : Below w.heap.size w w1 := hwO.trans (hb1.mono hwO.size)
      have hend : waysF pile (c :: r) = ys ++ (if ok then (waysF less r).map (c :: ·) else []) := by
        rw [waysF, ← hys'.out, hok'.out, hle'.out]
      have hend' := Lib.hid hend
      clear hend hys' hok' hle' hb1 ownO hwO
      cases ok
      · go_wp2_with (fail)
        go_ret
        exact ⟨_, rfl, own_cast own1 (by rw [hend'.out]; simp) (by rw [hend'.out]; simp), hw1⟩
      · go_wp2_with (fail)
        refine (H.out r less _ hr.out (by omega) hrs (by omega)).mono ?_
        rintro e w2 ⟨v2, rfl, own2, hb2⟩
        have hwl := waysF_length less r
        have hall := waysF_len less r
        obtain ⟨xs, hxs⟩ : ∃ xs, xs = waysF less r := ⟨_, rfl⟩
        rw [← hxs] at own2 hwl hall
        have hxs' := Lib.hid hxs
        clear hxs
        obtain ⟨A2, c2, rfl, hc2, hr2⟩ := own_sl own2
        have own1' := own_call own1 hb2
        have hlo2 := own_lo own2
        have hw2 := hw1.trans (hb2.mono hw1.size)
        have hnw2 : w1.heap.size ≤ w2.heap.size := hb2.size
        have hq0 : ∀ q, u5.ownBlock = some q → q < w1.heap.size ∨ w2.heap.size ≤ q := fun q hq => .inl (own1.lt q hq).2
        clear own1
        go_wp2_with (fail)
        go_loopw [5, 12] (fun o i wr => ∃ k : Nat, k ≤ xs.length ∧ i = .int .i64 k ∧ wr.ownsRow w.heap.size 9 1 o (ys.length + k) (ys.map sv ++ ((xs.take k).map (c :: ·)).map sv) ∧ Reads wr w2.heap.size 1 A2 xs.length (xs.map sv) ∧ Below w.heap.size w wr ∧ w2.heap.size ≤ wr.heap.size ∧ (∀ q, o.ownBlock = some q → q < w1.heap.size ∨ w2.heap.size ≤ q)) (fun _ i _ => xs.length - (intOf i).toNat)
        case atStart => exact ⟨0, by omega, rfl, own_cast own1' (by simp) (by simp), hr2, hw2, Nat.le_refl _, hq0⟩
        case round =>
          obtain ⟨k, hk, rfl, own3, hr3, hw3, hz3, hq3⟩ := hrel
          by_cases hkl : k < xs.length
          · obtain ⟨ad, rfl, hadb, hc1⟩ := hr3.el hkl
            have hx1 := hall xs[k] (List.getElem_mem _)
            go_wp2_with (fail)
            obtain ⟨W, hW⟩ : ∃ W, W = wr.drew := ⟨_, rfl⟩
            have hcW : ∀ o1 : Obj, W.cell? (ad.add k) = some (sv xs[k]) ∧ (W.alloc o1).cell? (ad.add k) = some (sv xs[k]) := by
              intro o1
              have hbk : (ad.add k).block < W.heap.size := by rw [block_of_add, hW]; show ad.block < wr.heap.size; omega
              have h0 : W.cell? (ad.add k) = some (sv xs[k]) := by rw [hW]; exact hc1
              exact ⟨h0, by rw [World.cell?_alloc_lt _ _ _ hbk]; exact h0⟩
            refine wp_region_l 9 9 (S1 8 W (W.alloc (.cells #[sv (c :: xs[k])] 9))) (by kernel_rfl) (by kernel_rfl) (by rw [← hW]; exact S1.none_) ?_
            have hW' := Lib.hid hW
            clear hW
            simp only [List.take_succ_cons, List.take_zero, List.drop_succ_cons, List.drop_zero]
            iterate 6
              apply pl_step rfl
              · intro L w' hS h1 h2 K hK
                clear h2
                go_wp2
                exact hS.keep (by decide)
              simp only [Act.put, List.setIfInBounds_toArray, List.set_cons_succ, List.set_cons_zero]
            apply pl_step rfl
            · intro L w' hS h1 h2 K hK
              clear h2
              have hc2 : w'.cell? (ad.add k) = some (sv xs[k]) := hS.old (p := fun w' => w'.cell? (ad.add k) = some (sv xs[k])) (hcW default).1 (hcW _).2
              go_wp2
              exact hS.keep (by decide)
            simp only [Act.put, List.setIfInBounds_toArray, List.set_cons_succ, List.set_cons_zero]
            apply pl_step rfl
            · intro L w' hS h1 h2 K hK
              clear h2
              go_wp2
              exact hS.keep (by decide)
            simp only [Act.put, List.setIfInBounds_toArray, List.set_cons_succ, List.set_cons_zero]
            apply pl_step rfl
            · intro L w' hS h1 h2 K hK
              clear h2
              obtain rfl := hS.at0 h1
              go_wp2
              exact S1.to1
            simp only [Act.put, List.setIfInBounds_toArray, List.set_cons_succ, List.set_cons_zero]
            refine pl_nil ?_
            intro w' hS
            obtain rfl := hS.at1 rfl
            clear hS hcW
            have own3' : W.ownsRow w.heap.size 9 1 u5 (ys.length + k) (ys.map sv ++ ((xs.take k).map (c :: ·)).map sv) := by rw [hW'.out]; exact own3
            have hzW : W.heap.size = wr.heap.size := by rw [hW'.out]; rfl
            have hwW : Below w.heap.size w W := by rw [hW'.out]; exact hw3.drew
            have hrW : Reads W w2.heap.size 1 (some ad) xs.length (xs.map sv) := by rw [hW'.out]; exact hr3.drew
            go_wp2_with (at_builtin; refine wpList_app' strT rfl (.tmp 66) (.tmp 74) rfl u5 (ys.length + k) _ rfl w.heap.size own3' [sv (c :: xs[k])] rfl (by simp [Value.oneCell']) W.heap.size (by simp) rfl (by omega) (by omega) (by have := hwW.size; simp; omega) ?_; intro v4 w4 own4 hg4 hat4)
            go_roundw
            case rel =>
              have hz4 := hg4.size
              refine ⟨k + 1, by omega, by go_num, own_cast own4 (by rw [List.take_succ_eq_append_getElem hkl, List.map_append, List.map_append, List.append_assoc]; rfl) rfl, ?_, ?_, by omega, ?_⟩
              · exact (hrW.grown2 hlo2 hg4 (by omega) (fun q hq => hq3 q hq))
              · exact hwW.grown hg4 (by have := hwW.size; omega) (fun q hq => (own3'.lt q hq).1)
              · intro q hq
                rcases hat4 with e | e
                · rw [e] at hq; exact hq3 q hq
                · rw [e] at hq; simp at hq; right; omega
            case measure => simp [intOf]; omega
          · obtain rfl : k = xs.length := by omega
            rw [List.take_length] at own3
            go_wp2_with (fail)
            go_ret
            refine ⟨_, rfl, own_cast own3 (by rw [hend'.out, ← hxs'.out]; simp) (by rw [hend'.out, ← hxs'.out]; simp), hw3⟩
end Go.Proofs.YtamdcbbclkobiaaGreatDoor
