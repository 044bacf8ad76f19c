/-
  A region that draws its order, the second form: what the world is may depend on which operations have been carried out ('S L w', L: which ones), and the operations behind number n are forced by their edges, direct or not; Contracts: the ways to place a word (layer 3 of the spec package); Contracts: boards of the spec package (layer 11); Contracts: transposed boards and plays (layers 11 and 12 of the spec package).
  Conditions: as each part below says.
-/
import Derived.Test.YtohopceknpgcnaaGreatDoorM01
import Derived.Test.YtohopceknpgcnaaGreatDoorM02
import Derived.Deep.DeepCutAuto
import Derived.Lib.SlicesCompact
/-
  A region that draws its order, the second form: what the world is may depend on which operations have been carried out ('S L w', L: which ones), and the operations behind number n are forced by their edges, direct or not.
  Conditions: the closed check regCkL of the region's own edges.
-/
namespace Go.Proofs.YtohopceknpgcnaaGreatDoor
namespace RegL
open RegP
section
variable {P : Program} {ops : Array Oper} {Q : Exit → Act → World → Prop} {S : (Nat → Bool) → World → Prop}

def upd (L : Nat → Bool) (i : Nat) : Nat → Bool := fun j => decide (j = i) || L j
theorem upd_same (L : Nat → Bool) (i : Nat) : upd L i i = true := by simp [upd]
theorem upd_ne (L : Nat → Bool) {i j : Nat} (h : j ≠ i) : upd L i j = L j := by simp [upd, h]

/-! ### The check -/
inductive Anc (ops : Array Oper) : Nat → Nat → Prop
  | one {j k : Nat} {o : Oper} : ops[k]? = some o → j ∈ bindsOn o → Anc ops j k
  | more {j m k : Nat} {o : Oper} : ops[k]? = some o → m ∈ bindsOn o → Anc ops j m → Anc ops j k
theorem Anc.listed {L : Nat → Bool} (hc : ∀ i o, ops[i]? = some o → L i = true → ∀ e ∈ bindsOn o, L e = true) {j k : Nat} (h : Anc ops j k) : (∀ o, ops[k]? = some o → ∀ e ∈ bindsOn o, L e = true) → L j = true := by
  induction h with
  | one hk hj => intro h; exact h _ hk _ hj
  | more hk hm _ ih =>
    intro h
    exact ih fun o' ho' => hc _ o' ho' (h _ hk _ hm)
def ancs (ops : Array Oper) : Nat → Nat → List Nat
  | 0, _ => []
  | f + 1, k => match ops[k]? with
    | none => []
    | some o => ((bindsOn o) ++ (bindsOn o).flatMap (ancs ops f)).eraseDups
theorem ancs_ok : ∀ (f k j : Nat), j ∈ ancs ops f k → Anc ops j k
  | 0, _, _, h => by cases h
  | f + 1, k, j, h => by
    unfold ancs at h
    split at h
    · cases h
    · rename_i o ho
      rw [List.mem_eraseDups, List.mem_append, List.mem_flatMap] at h
      rcases h with h | ⟨m, hm, h⟩
      · exact .one ho h
      · exact .more ho hm (ancs_ok f m j h)
/-- The guarded step of operation i, in every state in which its own operands' operations have been carried out. -/
def GStepL (P : Program) (ops : Array Oper) (f : Nat) (S : (Nat → Bool) → World → Prop) (i : Nat) (o : Oper) (a : Act) (v : Value) : Prop :=
  (Region.wanted o (yielded ops a.tmps) = true ∧ ∀ L w, S L w → L i = false → (∀ e ∈ ancs ops f i, L e = true) → o.wp P a w (fun a' w' => a' = a.put o.dst v ∧ S (upd L i) w') Never) ∨
  (Region.wanted o (yielded ops a.tmps) = false ∧ v = undef ∧ ∀ L w, S L w → L i = false → S (upd L i) w)

theorem GStepL.wpOp {f i : Nat} {o : Oper} {v : Value} {a a' : Act} {w : World} {L : Nat → Bool} {K : Act → World → Prop} (hi : ops[i]? = some o) (hs : ∀ cs b, o.op ≠ .select cs b) (hsz : a.tmps.size = a'.tmps.size) (hl : ∀ t ∈ o.looksAt ops, a.tmps[t]? = a'.tmps[t]?)
    (h : GStepL P ops f S i o a v) (hS : S L w) (hLi : L i = false) (hd : ∀ e ∈ ancs ops f i, L e = true) (hK : ∀ w', S (upd L i) w' → K (a'.put o.dst v) w') : wpOp P ops Q i K a' w := by
  have hw := wanted_congr hl
  unfold Go.wpOp
  simp only [hi]
  rcases h with ⟨h1, h2⟩ | ⟨h1, rfl, h2⟩
  · rw [hw] at h1
    simp only [h1, if_true]
    refine .inl ?_
    have h3 := h2 L w hS hLi hd
    have he : ∀ x ∈ o.op.operands, a.eval x = a'.eval x := fun x hx => by
      cases x with
      | tmp t =>
        have := hl t (List.mem_append_left _ (List.mem_filterMap.2 ⟨.tmp t, by simpa using hx, rfl⟩))
        simp only [Act.eval, Array.getD_eq_getD_getElem?, this]
      | _ => rfl
    unfold Oper.wp at *
    rw [execOp_congr o hs he] at h3
    generalize (execOp a'.eval o).run P w = r at *
    cases r with
    | ok n w' =>
      cases n <;> simp only [Oper.upon] at h3 ⊢
      case value u => rw [put_inj hsz h3.1]; exact hK _ h3.2
      case skip => rw [put_inj hsz h3.1]; exact hK _ h3.2
      case defer d =>
        exfalso
        have h4 := congrArg Act.defers h3.1
        rw [put_defers', put_defers'] at h4
        have := congrArg List.length h4
        simp at this
      case enter f args =>
        refine Calls.mono h3 fun e w'' he => ?_
        cases e with
        | returned u => simp only at he ⊢; rw [put_inj hsz he.1]; exact hK _ he.2
        | panicked c => exact he.elim
        | outgrown => obtain ⟨_, _, hh⟩ := he; exact hh.elim
      case row row args => exact Rows.mono h3 fun u w'' he => by rw [put_inj hsz he.1]; exact hK _ he.2
    | halt x w' =>
      cases x <;> simp only [Oper.upon] at h3
      case panic u => exact h3.elim
  · rw [hw] at h1
    simp only [h1, Bool.false_eq_true, if_false]
    exact hK w (h2 L w hS hLi)

def PChainL (P : Program) (ops : Array Oper) (f : Nat) (S : (Nat → Bool) → World → Prop) (End : Act → Prop) : Nat → List Oper → Act → Prop
  | _, [], a => End a
  | i, o :: r, a => ∃ v, GStepL P ops f S i o a v ∧ PChainL P ops f S End (i + 1) r (a.put o.dst v)

theorem PChainL.vals {f : Nat} {End : Act → Prop} : ∀ (l : List Oper) (k : Nat) (a : Act), PChainL P ops f S End k l a →
    ∃ vs : List Value, vs.length = l.length ∧ End (actAfter l vs a) ∧ ∀ i o v, l[i]? = some o → vs[i]? = some v → GStepL P ops f S (k + i) o (actAfter (l.take i) (vs.take i) a) v
  | [], _, a, h => ⟨[], rfl, h, fun i o v hi => by simp at hi⟩
  | o :: r, k, a, ⟨v, hg, hc⟩ => by
    obtain ⟨vs, hl, he, hs⟩ := PChainL.vals r _ _ hc
    refine ⟨v :: vs, by simp [hl], he, fun i o' v' hi hv => ?_⟩
    cases i with
    | zero => simp at hi hv; subst hi; subst hv; simpa [actAfter] using hg
    | succ i => simp at hi hv; have := hs i o' v' hi hv; rw [show k + 1 + i = k + (i + 1) from by omega] at this; simpa [actAfter] using this

def tailWaitsL (ops : Array Oper) (f n : Nat) : Bool :=
  (ops.toList.drop n).zipIdx.all fun (o, d) => if d = 0 then (List.range n).all fun j => (ancs ops f n).contains j else (bindsOn o).any fun e => decide (n ≤ e)
def regCkL (ops : Array Oper) (f n : Nat) : Bool :=
  decide (n ≤ ops.size) && (ops.toList.take n).zipIdx.all (fun (o, i) => opCk ops (ops.toList.take n) i o) && tailCk ops n && tailWaitsL ops f n

theorem prefix_anyL {f n : Nat} {a0 : Act} {vs : List Value} (hn : n ≤ ops.size) (hlen : vs.length = (ops.toList.take n).length)
    (hops : ∀ i o, (ops.toList.take n)[i]? = some o → opCk ops (ops.toList.take n) i o = true) (htw : tailWaitsL ops f n = true) (hd : dstsApart (ops.toList.take n))
    (hst : ∀ i o v, (ops.toList.take n)[i]? = some o → vs[i]? = some v → GStepL P ops f S i o (actAfter ((ops.toList.take n).take i) (vs.take i) a0) v)
    (hend : ∀ w, S (fun i => decide (i < n)) w → wpAny P .any ops Q (ops.size - n) (lst ops.size n) (actAfter (ops.toList.take n) vs a0) w) :
    ∀ (m : Nat) (listed : Array Bool) (a : Act) (w : World), unl listed n = m → listed.size = ops.size → (∀ k, n ≤ k → listed.getD k false = false) →
      (∀ i o, ops[i]? = some o → listed.getD i false = true → ∀ e ∈ bindsOn o, listed.getD e false = true) →
      Is (ops.toList.take n) vs a0 (fun i => listed.getD i false) a → S (fun i => listed.getD i false) w → wpAny P .any ops Q (m + (ops.size - n)) listed a w := by
  have hnl : (ops.toList.take n).length = n := by simp; omega
  intro m
  induction m with
  | zero =>
    intro listed a w hm hsz hout _ his hS
    have hall := unl_zero hm
    have hL : listed = lst ops.size n := by
      apply Array.ext_getElem?
      intro i
      rw [lst_get]
      by_cases hi : i < ops.size
      · rw [if_pos hi, Array.getElem?_eq_getElem (by omega)]
        congr 1
        by_cases hin : i < n
        · have := hall i hin
          simp [hin]
          simpa [Array.getD_eq_getD_getElem?, Array.getElem?_eq_getElem (show i < listed.size by omega)] using this
        · have := hout i (by omega)
          simp [hin]
          simpa [Array.getD_eq_getD_getElem?, Array.getElem?_eq_getElem (show i < listed.size by omega)] using this
      · rw [if_neg hi, Array.getElem?_eq_none (by omega)]
    have hA : a = actAfter (ops.toList.take n) vs a0 := by
      have h2 := Is.take (a0 := a0) hd hlen n (by omega)
      rw [List.take_of_length_le (by omega : (ops.toList.take n).length ≤ n), List.take_of_length_le (by omega : vs.length ≤ n)] at h2
      have ht : a.tmps = (actAfter (ops.toList.take n) vs a0).tmps := by
        apply Array.ext_getElem?
        intro t
        refine his.same hlen h2 t fun j o hj _ => ?_
        have hlt : j < n := by have := (List.getElem?_eq_some_iff.1 hj).1; omega
        exact ⟨hall j hlt, by simp [hlt]⟩
      have hdf : a.defers = (actAfter (ops.toList.take n) vs a0).defers := his.defers.trans h2.defers.symm
      cases a
      generalize actAfter (ops.toList.take n) vs a0 = b at *
      cases b
      simp_all
    have hLf : (fun i => listed.getD i false) = fun i => decide (i < n) := by
      funext i
      by_cases hin : i < n
      · simp only [hin, decide_true]; exact hall i hin
      · simp only [hin, decide_false]; exact hout i (by omega)
    rw [hLf] at hS
    subst hL
    subst hA
    simpa using hend w hS
  | succ m ih =>
    intro listed a w hm hsz hout hcl his hS
    obtain ⟨i0, hi0, hu0, hb0⟩ := unl_pos (n := n) (listed := listed) (by omega)
    have hget : ∀ i, i < n → ∃ o, (ops.toList.take n)[i]? = some o ∧ ops[i]? = some o := fun i hi => by
      have h1 : i < ops.toList.length := by simp; omega
      refine ⟨ops[i]'(by omega), ?_, Array.getElem?_eq_getElem (by omega)⟩
      rw [List.getElem?_take_of_lt hi]
      simp [Array.getElem?_eq_getElem (show i < ops.size by omega)]
    rw [show m + 1 + (ops.size - n) = (m + (ops.size - n)) + 1 from by omega]
    refine ⟨fun hnil => ?_, fun i hi => ?_⟩
    · exfalso
      obtain ⟨o, ho1, ho2⟩ := hget i0 hi0
      have hck := hops i0 o ho1
      simp only [opCk, Bool.and_eq_true, List.all_eq_true, decide_eq_true_eq] at hck
      have : i0 ∈ Region.ready .any ops listed := ready_iff.2 ⟨by
        have : i0 < listed.size := by omega
        simpa [Array.getD_eq_getD_getElem?, Array.getElem?_eq_getElem this] using hu0, o, ho2, fun e he => hb0 e (hck.1.2 e he)⟩
      rw [hnil] at this
      cases this
    · obtain ⟨hun, o, hoi, hall⟩ := ready_iff.1 hi
      have his' : i < ops.size := (Array.getElem?_eq_some_iff.1 hoi).1
      have hun' : listed.getD i false = false := by
        have : i < listed.size := by omega
        simpa [Array.getD_eq_getD_getElem?, Array.getElem?_eq_getElem this] using hun
      by_cases hin : i < n
      · obtain ⟨o', ho1, ho2⟩ := hget i hin
        rw [hoi] at ho2; cases ho2
        have hck := hops i o ho1
        simp only [opCk, Bool.and_eq_true, List.all_eq_true, decide_eq_true_eq] at hck
        obtain ⟨⟨hsel, _⟩, hdep⟩ := hck
        have hv : vs[i]? = some (vs[i]'(by omega)) := List.getElem?_eq_getElem (by omega)
        have hg := hst i o _ ho1 hv
        have htk := Is.take (a0 := a0) hd hlen i (by omega)
        have hupd : (fun j => (listed.setIfInBounds i true).getD j false) = upd (fun j => listed.getD j false) i := by
          funext j
          by_cases hji : j = i
          · subst hji
            rw [upd_same]
            have : j < listed.size := by omega
            simp [this]
          · rw [upd_ne _ hji]; exact getD_set_ne false (fun e => hji e.symm)
        refine hg.wpOp hoi (fun cs b e => by simp [notSel, e] at hsel) (htk.size.trans his.size.symm) (fun t ht => by
          refine htk.same hlen his t fun j oj hj hdj => ?_
          have hm2 : (oj, j) ∈ (ops.toList.take n).zipIdx := by
            rw [List.mem_zipIdx_iff_getElem?]; exact hj
          have := hdep (oj, j) hm2
          simp only [hdj, Bool.and_eq_true, Bool.or_eq_true, Bool.not_eq_true', List.contains_eq_mem, decide_eq_true_eq, decide_eq_false_iff_not] at this
          rcases this.1 with h | ⟨h1, h2⟩
          · exact absurd ht h
          · exact ⟨by simp [h2], hall j h1⟩) hS hun' (fun e he => (ancs_ok f i e he).listed (L := fun j => listed.getD j false) hcl (fun o' ho' => by rw [hoi] at ho'; cases ho'; exact hall)) fun w' hS' => ih _ _ w' ?_ (by simpa using hsz) ?_ ?_ ?_ (by rw [hupd]; exact hS')
        · have := unl_set (n := n) (listed := listed) (i := i) (by omega) hun' hin
          omega
        · intro k hk
          rw [getD_set_ne false (by omega)]
          exact hout k hk
        · intro j oj hj hLj e he
          by_cases hji : j = i
          · subst hji
            rw [hoi] at hj; cases hj
            exact getD_set_true (hall e he)
          · rw [getD_set_ne false (fun e => hji e.symm)] at hLj
            exact getD_set_true (hcl j oj hj hLj e he)
        · refine his.step hd ho1 hv ?_ ?_
          · have : i < listed.size := by omega
            simp [this]
          · intro j _ hji
            exact getD_set_ne false (fun e => hji e.symm)
      · exfalso
        simp only [tailWaitsL, List.all_eq_true] at htw
        have hm2 : (o, i - n) ∈ (ops.toList.drop n).zipIdx := by
          rw [List.mem_zipIdx_iff_getElem?]
          simp only [List.getElem?_drop]
          rw [show n + (i - n) = i from by omega]
          simpa using hoi
        have := htw _ hm2
        simp only at this
        split at this
        · rename_i h0
          have hin' : i = n := by omega
          subst hin'
          simp only [List.all_eq_true, List.mem_range, List.contains_eq_mem, decide_eq_true_eq] at this
          have h1 := (ancs_ok f i i0 (this i0 hi0)).listed (L := fun j => listed.getD j false) hcl (fun o' ho' => by rw [hoi] at ho'; cases ho'; exact hall)
          rw [hu0] at h1
          cases h1
        · simp only [List.any_eq_true, decide_eq_true_eq] at this
          obtain ⟨e, he, hne⟩ := this
          have h1 := hall e he
          rw [hout e hne] at h1
          cases h1

theorem wp_region_l {id : Nat} {a : Act} {w : World} (f n : Nat) (S : (Nat → Bool) → World → Prop) (hm : P.follows .mixedOrders = true) (hck : regCkL ops f n = true) (hS : S (fun _ => false) w.drew)
    (h : PChainL P ops f S (fun a => ∀ w, S (fun i => decide (i < n)) w → wpList P ops Q (ops.toList.drop n) a w) 0 (ops.toList.take n) a) : (Code.region id ops true).wp P Q a w := by
  simp only [regCkL, Bool.and_eq_true, decide_eq_true_eq] at hck
  obtain ⟨⟨⟨hn, hall⟩, htc⟩, htw⟩ := hck
  have hops : ∀ i o, (ops.toList.take n)[i]? = some o → opCk ops (ops.toList.take n) i o = true := fun i o hi => by
    rw [List.all_eq_true] at hall
    exact hall (o, i) (List.mem_zipIdx_iff_getElem?.2 hi)
  have hd : dstsApart (ops.toList.take n) := fun i j oi oj t hi hj hdi hdj => by
    have := hops i oi hi
    simp only [opCk, Bool.and_eq_true, List.all_eq_true] at this
    have h2 := this.2 (oj, j) (List.mem_zipIdx_iff_getElem?.2 hj)
    simp only [hdj, Bool.and_eq_true, Bool.or_eq_true, decide_eq_true_eq] at h2
    rcases h2.2 with e | e
    · exact e.symm
    · simp [hdi] at e
  obtain ⟨vs, hlen, hend, hst⟩ := PChainL.vals _ _ _ h
  refine wp_region_any hm ?_
  have hs0 : unl (Array.replicate ops.size false) n = n := by
    have : ∀ m, unl (Array.replicate ops.size false) m = m := by
      intro m
      induction m with
      | zero => rfl
      | succ m ih =>
        unfold unl at *
        rw [List.range_succ, List.countP_append, ih]
        by_cases h : m < ops.size <;> simp [h]
    exact this n
  have hfalse : ∀ k, (Array.replicate ops.size false).getD k false = false := fun k => by
    by_cases h : k < ops.size <;> simp [h]
  have hS' : S (fun i => (Array.replicate ops.size false).getD i false) w.drew := by
    rw [show (fun i => (Array.replicate ops.size false).getD i false) = fun _ => false from funext hfalse]; exact hS
  have := prefix_anyL (Q := Q) (a0 := a) hn hlen hops htw hd (fun i o v h1 h2 => by have := hst i o v h1 h2; rwa [Nat.zero_add] at this) (fun w' hw' => tail_any htc (ops.size - n) n (by omega) (Nat.le_refl _) _ _ (hend w' hw')) n (Array.replicate ops.size false) a w.drew hs0 (by simp) (fun k _ => hfalse k)
    (fun i o _ h => by rw [hfalse i] at h; cases h) (Is.start fun i _ => hfalse i) hS'
  rw [show n + (ops.size - n) = ops.size from by omega] at this
  exact this

/-- The steps of a chain. -/
theorem pl_nil {End : Act → Prop} {a : Act} {f i : Nat} (h : End a) : PChainL P ops f S End i [] a := h
theorem pl_step {End : Act → Prop} {a : Act} {o : Oper} {r : List Oper} {v : Value} {f i : Nat} (hw : Region.wanted o (yielded ops a.tmps) = true)
    (h : ∀ L w, S L w → L i = false → (∀ e ∈ ancs ops f i, L e = true) → ∀ K : Act → World → Prop, (∀ w', S (upd L i) w' → K (a.put o.dst v) w') → o.wp P a w K Never) (hr : PChainL P ops f S End (i + 1) r (a.put o.dst v))   : PChainL P ops f S End i (o :: r) a :=
  ⟨v, .inl ⟨hw, fun L w hS h1 h2 => h L w hS h1 h2 _ fun _ hS' => ⟨rfl, hS'⟩⟩, hr⟩
end

/-- Two blocks are made one behind the other, by operations c and then a (b lies between them): what the world is. -/
def S2 (a b c : Nat) (W W1 W2 : World) (L : Nat → Bool) (w : World) : Prop :=
  (L a = true ∧ L b = true ∧ L c = true ∧ w = W2) ∨ (L a = false ∧ L c = true ∧ w = W1) ∨ (L a = false ∧ L c = false ∧ w = W)
section
variable {a b c i : Nat} {W W1 W2 w : World} {L : Nat → Bool}
theorem S2.none_ : S2 a b c W W1 W2 (fun _ => false) W := .inr (.inr ⟨rfl, rfl, rfl⟩)
theorem S2.keep (h : S2 a b c W W1 W2 L w) (ha : i ≠ a) (hc : i ≠ c) : S2 a b c W W1 W2 (upd L i) w := by
  unfold S2 at *
  rw [upd_ne L ha.symm, upd_ne L hc.symm]
  refine h.imp (fun ⟨h1, h2, h3, h4⟩ => ⟨h1, ?_, h3, h4⟩) id
  by_cases hb : b = i
  · subst hb; exact upd_same _ _
  · rw [upd_ne L hb]; exact h2
theorem S2.at0 (h : S2 a b c W W1 W2 L w) (hc : L c = false) : w = W := by
  rcases h with ⟨_, _, e, _⟩ | ⟨_, e, _⟩ | ⟨_, _, e⟩
  · rw [hc] at e; cases e
  · rw [hc] at e; cases e
  · exact e
theorem S2.to1 (h : S2 a b c W W1 W2 L w) (hc : L c = false) (hac : a ≠ c) : S2 a b c W W1 W2 (upd L c) W1 := by
  rcases h with ⟨_, _, e, _⟩ | ⟨_, e, _⟩ | ⟨e, _, _⟩
  · rw [hc] at e; cases e
  · rw [hc] at e; cases e
  · exact .inr (.inl ⟨by rw [upd_ne L hac]; exact e, upd_same _ _, rfl⟩)
theorem S2.at1 (h : S2 a b c W W1 W2 L w) (hc : L c = true) (hb : L b = false) : w = W1 := by
  rcases h with ⟨_, e, _⟩ | ⟨_, _, e⟩ | ⟨_, e, _⟩
  · rw [hb] at e; cases e
  · exact e
  · rw [hc] at e; cases e
theorem S2.at1' (h : S2 a b c W W1 W2 L w) (hc : L c = true) (ha : L a = false) : w = W1 := by
  rcases h with ⟨e, _⟩ | ⟨_, _, e⟩ | ⟨_, e, _⟩
  · rw [ha] at e; cases e
  · exact e
  · rw [hc] at e; cases e
theorem S2.to2 (hc : L c = true) (hb : L b = true) (hac : a ≠ c) (hab : a ≠ b) : S2 a b c W W1 W2 (upd L a) W2 :=
  .inl ⟨upd_same _ _, by rw [upd_ne L hab.symm]; exact hb, by rw [upd_ne L hac.symm]; exact hc, rfl⟩
theorem S2.at2 (h : S2 a b c W W1 W2 L w) (ha : L a = true) : w = W2 := by
  rcases h with ⟨_, _, _, e⟩ | ⟨e, _⟩ | ⟨e, _⟩
  · exact e
  · rw [ha] at e; cases e
  · rw [ha] at e; cases e
theorem S2.old (h : S2 a b c W W1 W2 L w) {p : World → Prop} (h0 : p W) (h1 : p W1) (h2 : p W2) : p w := by
  rcases h with ⟨_, _, _, rfl⟩ | ⟨_, _, rfl⟩ | ⟨_, _, rfl⟩ <;> assumption
/-- one block: made by op c -/
def S1 (c : Nat) (W W1 : World) : (Nat → Bool) → World → Prop := fun L w => (L c = true ∧ w = W1) ∨ (L c = false ∧ w = W)
theorem S1.none_ {c : Nat} {W W1 : World} : S1 c W W1 (fun _ => false) W := .inr ⟨rfl, rfl⟩
theorem S1.keep {c i : Nat} {W W1 w : World} {L : Nat → Bool} (h : S1 c W W1 L w) (hc : i ≠ c) : S1 c W W1 (upd L i) w := by
  unfold S1 at *
  rw [upd_ne L hc.symm]
  exact h
theorem S1.at0 {c : Nat} {W W1 w : World} {L : Nat → Bool} (h : S1 c W W1 L w) (hc : L c = false) : w = W := by
  rcases h with ⟨e, _⟩ | ⟨_, e⟩
  · rw [hc] at e; cases e
  · exact e
theorem S1.to1 {c : Nat} {W W1 : World} {L : Nat → Bool} : S1 c W W1 (upd L c) W1 := .inl ⟨upd_same _ _, rfl⟩
theorem S1.at1 {c : Nat} {W W1 w : World} {L : Nat → Bool} (h : S1 c W W1 L w) (hc : L c = true) : w = W1 := by
  rcases h with ⟨_, e⟩ | ⟨e, _⟩
  · exact e
  · rw [hc] at e; cases e
theorem S1.old {c : Nat} {W W1 w : World} {L : Nat → Bool} (h : S1 c W W1 L w) {p : World → Prop} (h0 : p W) (h1 : p W1) : p w := by
  rcases h with ⟨_, rfl⟩ | ⟨_, rfl⟩ <;> assumption
end
end RegL
end Go.Proofs.YtohopceknpgcnaaGreatDoor
/-
  Contracts: the ways to place a word (layer 3 of the spec package).
  Conditions: words of small letters of at most 20 bytes.
-/
namespace Go.Proofs.YtohopceknpgcnaaGreatDoor
open Go.RowKit RegP RegL
set_option maxHeartbeats 400000

def upC (c : UInt8) : UInt8 := c - 32
def waysF : Str → Str → List Str
  | _, [] => [[]]
  | p, c :: r => (if takeB p [63] then (waysF (takeS p [63]) r).map (upC c :: ·) else []) ++ (if takeB p [c] then (waysF (takeS p [c]) r).map (c :: ·) else [])
theorem waysF_length : ∀ (p word : Str), (waysF p word).length ≤ 2 ^ word.length
  | _, [] => by simp [waysF]
  | p, c :: r => by
    have h1 := waysF_length (takeS p [63]) r
    have h2 := waysF_length (takeS p [c]) r
    rw [waysF, List.length_append, List.length_cons, Nat.pow_succ]
    split <;> split <;> simp <;> omega
theorem waysF_len : ∀ (p word : Str), ∀ x ∈ waysF p word, x.length = word.length
  | _, [], x, h => by simp [waysF] at h; subst h; rfl
  | p, c :: r, x, h => by
    rw [waysF, List.mem_append] at h
    rcases h with h | h
    · split at h
      · obtain ⟨y, hy, rfl⟩ := List.mem_map.1 h; simp [waysF_len _ _ y hy]
      · cases h
    · split at h
      · obtain ⟨y, hy, rfl⟩ := List.mem_map.1 h; simp [waysF_len _ _ y hy]
      · cases h
theorem run_string_lit {P : Program} (src dst e : TypeId) (hs : P.underlying src = some (.slice e)) (he : P.underlying e = some (.int .u8)) (hd : P.underlying dst = some .string) (w : World) (c : UInt8) :
    (convert src dst (.slice (some ⟨w.heap.size, 0, none⟩) 1 1)).run P (w.alloc (.cells #[bv c] e)) = .ok (sv [c]) (w.alloc (.cells #[bv c] e)) :=
  run_string_own (w.alloc (.cells #[bv c] e)) src dst e hs he hd (base := w.heap.size) (l := [c]) (World.ownsRow_lit w #[bv c] 1 (Nat.le_refl _) (by unfold maxLen; omega) rfl)

theorem ways_loop1 (c : UInt8) (hc : smallB c = true) : Value.int .u8 ((c.toNat : Int) - 97 + 65) = bv (upC c) := by
  simp only [smallB, Bool.and_eq_true, decide_eq_true_eq] at hc
  have : (upC c).toNat = c.toNat - 32 := by unfold upC; rw [UInt8.toNat_sub_of_le]; simp; rw [UInt8.le_iff_toNat_le]; simp; omega
  show _ = Value.int .u8 ((upC c).toNat : Int)
  rw [this]
  refine vi_eq (by omega)

set_option maxHeartbeats 4000000 in
theorem l03Ways_any : ∀ (n : Nat) (word pile : Str) (w : World), word.length = n → n ≤ 20 → word.all smallB = true → pile.length ≤ 2 ^ 37 →
    Calls Tryz.prog 159 #[sv pile, sv word] w fun e w' => ∃ v, e = .returned v ∧ w'.ownsRow w.heap.size 9 1 v (waysF pile word).length ((waysF pile word).map sv) ∧ Below w.heap.size w w' := by
  intro n
  induction n with
  | zero =>
    intro word pile w hn _ _ hp
    obtain rfl : word = [] := List.eq_nil_of_length_eq_zero hn
    go_enter Tryz.func159, Tryz.ntmps159
    go_wp2_with (fail)
    go_ret
    exact ⟨_, rfl, World.ownsRow_lit w #[sv []] 1 (Nat.le_refl _) (by unfold maxLen; omega) rfl, (Below.refl _ _).alloc (Nat.le_refl _) _⟩
  | succ n ih =>
    intro word pile w hn h20 hsm hp
    obtain ⟨c, r, rfl⟩ : ∃ c r, word = c :: r := by cases word with | nil => simp at hn | cons c r => exact ⟨c, r, rfl⟩
    have hr : Hid (r.length = n) := Lib.hid (by simpa using hn)
    have hr20 : r.length ≤ 19 := by rw [hr.out]; omega
    clear hn
    simp only [List.all_cons, Bool.and_eq_true] at hsm
    obtain ⟨hc, hrs⟩ := hsm
    have hcb := hc
    simp only [smallB, Bool.and_eq_true, decide_eq_true_eq] at hcb
    obtain ⟨hcb1, hcb2⟩ := hcb
    have H := Lib.hid ih
    clear ih
    go_enter Tryz.func159, Tryz.ntmps159
    go_wp2_with (fail)
    refine (l03Take_any pile [63] _ (by omega) (by simp)).mono ?_
    obtain ⟨ok, hok⟩ : ∃ ok, ok = takeB pile [63] := ⟨_, rfl⟩
    have hok' := Lib.hid hok
    have hlt := takeS_length pile [63]
    obtain ⟨less, hle⟩ : ∃ less, less = takeS pile [63] := ⟨_, rfl⟩
    have hle' := Lib.hid hle
    rw [← hle] at hlt
    rw [← hok, ← hle]
    clear hok hle
    rintro e w1 ⟨rfl, hb1⟩
    have hw1 : Below w.heap.size w w1 := ((Below.refl _ _).alloc (Nat.le_refl _) _).trans (hb1.mono (by simp))
    have hz1 : w.heap.size < w1.heap.size := by have := hb1.size; simp at this; omega
    have own1 : w1.ownsRow w.heap.size 9 1 (.slice (some ⟨w.heap.size, 0, none⟩) 0 0) 0 [] := own_call (World.ownsRow_lit w #[] 0 (Nat.le_refl _) (by unfold maxLen; omega) rfl) hb1
    go_upto_if 24 with (fail)
    go_cut [5] (fun o wx => ∃ xs : List Str, xs = (if takeB pile [63] then (waysF (takeS pile [63]) r).map (upC c :: ·) else []) ∧ wx.ownsRow w.heap.size 9 1 o xs.length (xs.map sv) ∧ Below w.heap.size w wx)
    case first =>
      cases ok
      · go_wp2_with (fail)
        go_meet
        exact ⟨[], by rw [← hok'.out]; simp, own1, hw1⟩
      · go_wp2_with (fail)
        refine (H.out r less _ hr.out (by omega) hrs (by omega)).mono ?_
        rintro e w2 ⟨v2, rfl, own2, hb2⟩
        have hwl := waysF_length less r
        have hwb : 2 ^ r.length ≤ 2 ^ 19 := Nat.pow_le_pow_right (by omega) hr20
        have hall := waysF_len less r
        obtain ⟨xs, hxs⟩ : ∃ xs, xs = waysF less r := ⟨_, rfl⟩
        rw [← hxs] at own2 hwl hall
        have hxs' := Lib.hid hxs
        clear hxs
        obtain ⟨A2, c2, rfl, hc2, hr2⟩ := own_sl own2
        have own1' := own_call own1 hb2
        have hlo2 := own_lo own2
        have hw2 := hw1.trans (hb2.mono hw1.size)
        have hnw2 : w1.heap.size ≤ w2.heap.size := hb2.size
        clear own1 hb1
        go_wp2_with (fail)
        go_loopw [5, 10] (fun o i wr => ∃ k : Nat, k ≤ xs.length ∧ i = .int .i64 k ∧ wr.ownsRow w.heap.size 9 1 o k (((xs.take k).map (upC c :: ·)).map sv) ∧ Reads wr w2.heap.size 1 A2 xs.length (xs.map sv) ∧ Below w.heap.size w wr ∧ w2.heap.size ≤ wr.heap.size ∧ (∀ q, o.ownBlock = some q → q < w1.heap.size ∨ w2.heap.size ≤ q)) (fun _ i _ => xs.length - (intOf i).toNat)
        case atStart => exact ⟨0, by omega, rfl, own1', hr2, hw2, Nat.le_refl _, fun q hq => by simp [Value.ownBlock] at hq; have := hw1.size; omega⟩
        case round =>
          obtain ⟨k, hk, rfl, own3, hr3, hw3, hz3, hq3⟩ := hrel
          by_cases hkl : k < xs.length
          · obtain ⟨ad, rfl, hadb, hc1⟩ := hr3.el hkl
            have hx1 := hall xs[k] (List.getElem_mem _)
            have hlit := run_string_lit (P := Tryz.prog) 111 9 5 Tryz.underlying111 Tryz.underlying5 Tryz.underlying9
            go_wp2_with (fail)
            obtain ⟨W, hW⟩ : ∃ W, W = wr.drew := ⟨_, rfl⟩
            have hcW : ∀ o1 o2 : Obj, W.cell? (ad.add k) = some (sv xs[k]) ∧ (W.alloc o1).cell? (ad.add k) = some (sv xs[k]) ∧ ((W.alloc o1).alloc o2).cell? (ad.add k) = some (sv xs[k]) := by
              intro o1 o2
              have hbk : (ad.add k).block < W.heap.size := by rw [block_of_add, hW]; show ad.block < wr.heap.size; omega
              have h0 : W.cell? (ad.add k) = some (sv xs[k]) := by rw [hW]; exact hc1
              have h1 : (W.alloc o1).cell? (ad.add k) = some (sv xs[k]) := by rw [World.cell?_alloc_lt _ _ _ hbk]; exact h0
              exact ⟨h0, h1, by rw [World.cell?_alloc_lt _ _ _ (by simp; omega)]; exact h1⟩
            refine wp_region_l 9 12 (S2 11 5 4 W (W.alloc (.cells #[bv (upC c)] 5)) ((W.alloc (.cells #[bv (upC c)] 5)).alloc (.cells #[sv (upC c :: xs[k])] 9))) (by kernel_rfl) (by kernel_rfl) (by rw [← hW]; exact S2.none_) ?_
            have hW' := Lib.hid hW
            clear hW
            simp only [List.take_succ_cons, List.take_zero, List.drop_succ_cons, List.drop_zero]
            iterate 4
              apply pl_step rfl
              · intro L w' hS h1 h2 K hK
                clear h2
                go_wp2
                exact hS.keep (by decide) (by decide)
              simp only [Act.put, List.setIfInBounds_toArray, List.set_cons_succ, List.set_cons_zero]
            rw [ways_loop1 c hc]
            -- the literal of one byte
            apply pl_step rfl
            · intro L w' hS h1 h2 K hK
              clear h2
              obtain rfl := hS.at0 h1
              go_wp2
              exact hS.to1 h1 (by decide)
            simp only [Act.put, List.setIfInBounds_toArray, List.set_cons_succ, List.set_cons_zero]
            -- its string
            apply pl_step rfl
            · intro L w' hS h1 h2 K hK
              have h4 : L 4 = true := h2 4 (List.contains_iff_mem.1 (by kernel_rfl))
              clear h2
              obtain rfl := hS.at1 h4 h1
              have hl := hlit W (upC c)
              go_wp2
              exact hS.keep (by decide) (by decide)
            simp only [Act.put, List.setIfInBounds_toArray, List.set_cons_succ, List.set_cons_zero]
            iterate 3
              apply pl_step rfl
              · intro L w' hS h1 h2 K hK
                clear h2
                go_wp2
                exact hS.keep (by decide) (by decide)
              simp only [Act.put, List.setIfInBounds_toArray, List.set_cons_succ, List.set_cons_zero]
            -- the load
            apply pl_step rfl
            · intro L w' hS h1 h2 K hK
              clear h2
              have hc2 : w'.cell? (ad.add k) = some (sv xs[k]) := hS.old (p := fun w' => w'.cell? (ad.add k) = some (sv xs[k])) (hcW default default).1 (hcW _ default).2.1 (hcW _ _).2.2
              go_wp2
              exact hS.keep (by decide) (by decide)
            simp only [Act.put, List.setIfInBounds_toArray, List.set_cons_succ, List.set_cons_zero]
            apply pl_step rfl
            · intro L w' hS h1 h2 K hK
              clear h2
              go_wp2
              exact hS.keep (by decide) (by decide)
            simp only [Act.put, List.setIfInBounds_toArray, List.set_cons_succ, List.set_cons_zero]
            -- the literal of one string
            apply pl_step rfl
            · intro L w' hS h1 h2 K hK
              have h4 : L 4 = true := h2 4 (List.contains_iff_mem.1 (by kernel_rfl))
              have h5 : L 5 = true := h2 5 (List.contains_iff_mem.1 (by kernel_rfl))
              clear h2
              obtain rfl := hS.at1' h4 h1
              go_wp2
              exact S2.to2 h4 h5 (by decide) (by decide)
            simp only [Act.put, List.setIfInBounds_toArray, List.set_cons_succ, List.set_cons_zero]
            refine pl_nil ?_
            intro w' hS
            obtain rfl := hS.at2 rfl
            clear hS hcW hlit
            have own3' : (W.alloc (.cells #[bv (upC c)] 5)).ownsRow w.heap.size 9 1 u5 k (((xs.take k).map (upC c :: ·)).map sv) := by rw [hW'.out]; exact World.ownsRow.alloc own3 _
            have hzW : W.heap.size = wr.heap.size := by rw [hW'.out]; rfl
            have hwW : Below w.heap.size w W := by rw [hW'.out]; exact hw3.drew
            have hrW : Reads W w2.heap.size 1 (some ad) xs.length (xs.map sv) := by rw [hW'.out]; exact hr3.drew
            go_wp2_with (at_builtin; refine wpList_app' strT rfl (.tmp 35) (.tmp 46) rfl u5 k _ rfl w.heap.size own3' [sv (upC c :: xs[k])] rfl (by simp [Value.oneCell']) (W.heap.size + 1) (by simp) rfl (by omega) (by omega) (by have := hwW.size; simp; omega) ?_; intro v4 w4 own4 hg4 hat4)
            go_roundw
            case rel =>
              have hz4 := hg4.size
              try simp at hz4
              refine ⟨k + 1, by omega, by go_num, own_cast own4 (by rw [List.take_succ_eq_append_getElem hkl, List.map_append, List.map_append]; rfl) rfl, ?_, ?_, by omega, ?_⟩
              · exact ((hrW.alloc (by omega) _).grown2 hlo2 hg4 (by simp; omega) (fun q hq => hq3 q hq))
              · exact (hwW.alloc hwW.size _).grown hg4 (by have := hwW.size; simp; omega) (fun q hq => (own3'.lt q hq).1)
              · intro q hq
                rcases hat4 with e | e
                · rw [e] at hq; exact hq3 q hq
                · rw [e] at hq; simp at hq; right; omega
            case measure => simp [intOf]; omega
          · obtain rfl : k = xs.length := by omega
            rw [List.take_length] at own3
            go_wp2_with (fail)
            go_meet
            refine ⟨xs.map (upC c :: ·), ?_, own_cast own3 rfl (by simp), hw3⟩
            rw [← hok'.out, ← hle'.out, hxs'.out]; rfl
    case rest =>
      obtain ⟨ys, hys, ownO, hwO⟩ := hcut
      have hys' := Lib.hid hys
      have hzy : ys.length ≤ 2 ^ r.length := by
        rw [hys]
        have := waysF_length (takeS pile [63]) r
        split
        · simpa using this
        · simp
      have hwb : 2 ^ r.length ≤ 2 ^ 19 := Nat.pow_le_pow_right (by omega) hr20
      clear hys hok' hle' hlt hb1 own1 hz1 hw1
      go_wp2_with (fail)
      refine (l03Take_any pile [c] _ (by omega) (by simp)).mono ?_
      obtain ⟨ok, hok⟩ : ∃ ok, ok = takeB pile [c] := ⟨_, rfl⟩
      have hok' := Lib.hid hok
      have hlt := takeS_length pile [c]
      obtain ⟨less, hle⟩ : ∃ less, less = takeS pile [c] := ⟨_, rfl⟩
      have hle' := Lib.hid hle
      rw [← hle] at hlt
      rw [← hok, ← hle]
      clear hok hle
      rintro e w1 ⟨rfl, hb1⟩
      have own1 := own_call ownO hb1
      have hw1 : Below w.heap.size w w1 := hwO.trans (hb1.mono hwO.size)
      have hend : waysF pile (c :: r) = ys ++ (if ok then (waysF less r).map (c :: ·) else []) := by
        rw [waysF, ← hys'.out, hok'.out, hle'.out]
      have hend' := Lib.hid hend
      clear hend hys' hok' hle' hb1 ownO hwO
      cases ok
      · go_wp2_with (fail)
        go_ret
        exact ⟨_, rfl, own_cast own1 (by rw [hend'.out]; simp) (by rw [hend'.out]; simp), hw1⟩
      · go_wp2_with (fail)
        refine (H.out r less _ hr.out (by omega) hrs (by omega)).mono ?_
        rintro e w2 ⟨v2, rfl, own2, hb2⟩
        have hwl := waysF_length less r
        have hall := waysF_len less r
        obtain ⟨xs, hxs⟩ : ∃ xs, xs = waysF less r := ⟨_, rfl⟩
        rw [← hxs] at own2 hwl hall
        have hxs' := Lib.hid hxs
        clear hxs
        obtain ⟨A2, c2, rfl, hc2, hr2⟩ := own_sl own2
        have own1' := own_call own1 hb2
        have hlo2 := own_lo own2
        have hw2 := hw1.trans (hb2.mono hw1.size)
        have hnw2 : w1.heap.size ≤ w2.heap.size := hb2.size
        have hq0 : ∀ q, u5.ownBlock = some q → q < w1.heap.size ∨ w2.heap.size ≤ q := fun q hq => .inl (own1.lt q hq).2
        clear own1
        go_wp2_with (fail)
        go_loopw [5, 12] (fun o i wr => ∃ k : Nat, k ≤ xs.length ∧ i = .int .i64 k ∧ wr.ownsRow w.heap.size 9 1 o (ys.length + k) (ys.map sv ++ ((xs.take k).map (c :: ·)).map sv) ∧ Reads wr w2.heap.size 1 A2 xs.length (xs.map sv) ∧ Below w.heap.size w wr ∧ w2.heap.size ≤ wr.heap.size ∧ (∀ q, o.ownBlock = some q → q < w1.heap.size ∨ w2.heap.size ≤ q)) (fun _ i _ => xs.length - (intOf i).toNat)
        case atStart => exact ⟨0, by omega, rfl, own_cast own1' (by simp) (by simp), hr2, hw2, Nat.le_refl _, hq0⟩
        case round =>
          obtain ⟨k, hk, rfl, own3, hr3, hw3, hz3, hq3⟩ := hrel
          by_cases hkl : k < xs.length
          · obtain ⟨ad, rfl, hadb, hc1⟩ := hr3.el hkl
            have hx1 := hall xs[k] (List.getElem_mem _)
            go_wp2_with (fail)
            obtain ⟨W, hW⟩ : ∃ W, W = wr.drew := ⟨_, rfl⟩
            have hcW : ∀ o1 : Obj, W.cell? (ad.add k) = some (sv xs[k]) ∧ (W.alloc o1).cell? (ad.add k) = some (sv xs[k]) := by
              intro o1
              have hbk : (ad.add k).block < W.heap.size := by rw [block_of_add, hW]; show ad.block < wr.heap.size; omega
              have h0 : W.cell? (ad.add k) = some (sv xs[k]) := by rw [hW]; exact hc1
              exact ⟨h0, by rw [World.cell?_alloc_lt _ _ _ hbk]; exact h0⟩
            refine wp_region_l 9 9 (S1 8 W (W.alloc (.cells #[sv (c :: xs[k])] 9))) (by kernel_rfl) (by kernel_rfl) (by rw [← hW]; exact S1.none_) ?_
            have hW' := Lib.hid hW
            clear hW
            simp only [List.take_succ_cons, List.take_zero, List.drop_succ_cons, List.drop_zero]
            iterate 6
              apply pl_step rfl
              · intro L w' hS h1 h2 K hK
                clear h2
                go_wp2
                exact hS.keep (by decide)
              simp only [Act.put, List.setIfInBounds_toArray, List.set_cons_succ, List.set_cons_zero]
            apply pl_step rfl
            · intro L w' hS h1 h2 K hK
              clear h2
              have hc2 : w'.cell? (ad.add k) = some (sv xs[k]) := hS.old (p := fun w' => w'.cell? (ad.add k) = some (sv xs[k])) (hcW default).1 (hcW _).2
              go_wp2
              exact hS.keep (by decide)
            simp only [Act.put, List.setIfInBounds_toArray, List.set_cons_succ, List.set_cons_zero]
            apply pl_step rfl
            · intro L w' hS h1 h2 K hK
              clear h2
              go_wp2
              exact hS.keep (by decide)
            simp only [Act.put, List.setIfInBounds_toArray, List.set_cons_succ, List.set_cons_zero]
            apply pl_step rfl
            · intro L w' hS h1 h2 K hK
              clear h2
              obtain rfl := hS.at0 h1
              go_wp2
              exact S1.to1
            simp only [Act.put, List.setIfInBounds_toArray, List.set_cons_succ, List.set_cons_zero]
            refine pl_nil ?_
            intro w' hS
            obtain rfl := hS.at1 rfl
            clear hS hcW
            have own3' : W.ownsRow w.heap.size 9 1 u5 (ys.length + k) (ys.map sv ++ ((xs.take k).map (c :: ·)).map sv) := by rw [hW'.out]; exact own3
            have hzW : W.heap.size = wr.heap.size := by rw [hW'.out]; rfl
            have hwW : Below w.heap.size w W := by rw [hW'.out]; exact hw3.drew
            have hrW : Reads W w2.heap.size 1 (some ad) xs.length (xs.map sv) := by rw [hW'.out]; exact hr3.drew
            go_wp2_with (at_builtin; refine wpList_app' strT rfl (.tmp 66) (.tmp 74) rfl u5 (ys.length + k) _ rfl w.heap.size own3' [sv (c :: xs[k])] rfl (by simp [Value.oneCell']) W.heap.size (by simp) rfl (by omega) (by omega) (by have := hwW.size; simp; omega) ?_; intro v4 w4 own4 hg4 hat4)
            go_roundw
            case rel =>
              have hz4 := hg4.size
              refine ⟨k + 1, by omega, by go_num, own_cast own4 (by rw [List.take_succ_eq_append_getElem hkl, List.map_append, List.map_append, List.append_assoc]; rfl) rfl, ?_, ?_, by omega, ?_⟩
              · exact (hrW.grown2 hlo2 hg4 (by omega) (fun q hq => hq3 q hq))
              · exact hwW.grown hg4 (by have := hwW.size; omega) (fun q hq => (own3'.lt q hq).1)
              · intro q hq
                rcases hat4 with e | e
                · rw [e] at hq; exact hq3 q hq
                · rw [e] at hq; simp at hq; right; omega
            case measure => simp [intOf]; omega
          · obtain rfl : k = xs.length := by omega
            rw [List.take_length] at own3
            go_wp2_with (fail)
            go_ret
            refine ⟨_, rfl, own_cast own3 (by rw [hend'.out, ← hxs'.out]; simp) (by rw [hend'.out, ← hxs'.out]; simp), hw3⟩
end Go.Proofs.YtohopceknpgcnaaGreatDoor
/-
  Contracts: boards of the spec package (layer 11).
  Conditions: a board lies at an address; the squares that are read are on the board.
-/
namespace Go.Proofs.YtohopceknpgcnaaGreatDoor
open Go.RowKit RegP RegL
set_option maxHeartbeats 400000

structure Bd where
  size : Int
  prem : Str
  cells : Str
def Bd.v (b : Bd) : Value := .agg #[.int .i64 b.size, sv b.prem, sv b.cells]
structure Pl where
  row : Int
  col : Int
  down : Bool
  word : Str
def Pl.v (p : Pl) : Value := .agg #[.int .i64 p.row, .int .i64 p.col, .bool p.down, sv p.word]
/-- A board lies at an address; a play does. -/
def BAt (w : World) (p : Addr) (b : Bd) : Prop := w.cell? p = some (.int .i64 b.size) ∧ w.cell? { block := p.block, off := p.off + 1 } = some (sv b.prem) ∧ w.cell? { block := p.block, off := p.off + 2 } = some (sv b.cells)
theorem BAt.lt {w : World} {p : Addr} {b : Bd} (h : BAt w p b) : p.block < w.heap.size := World.block_lt_of_cell? w p h.1
theorem BAt.below {w w' : World} {p : Addr} {b : Bd} {B : Nat} (h : BAt w p b) (hb : Below B w w') (hp : p.block < B) : BAt w' p b :=
  ⟨(hb.cell hp).trans h.1, (hb.cell (p := { block := p.block, off := p.off + 1 }) hp).trans h.2.1, (hb.cell (p := { block := p.block, off := p.off + 2 }) hp).trans h.2.2⟩
theorem BAt.dr {w w' : World} {p : Addr} {b : Bd} (h : BAt w p b) (hb : Dr w w') : BAt w' p b := h.below hb.below h.lt
def cellB (c : UInt8) : Bool := (c == 46) || smallB c || capB c
def premB (c : UInt8) : Bool := (c == 46) || (c == 50) || (c == 51) || (c == 100) || (c == 116)

theorem l11Cell_any (c : UInt8) (w : World) :
    Calls Tryz.prog 111 #[bv c] w fun e w' => e = .returned (.bool (cellB c)) ∧ w = w' := by
  unfold cellB
  have hq : ((c.toNat : Int) == 46) = (c == 46) := u8_eq c 46
  cases h : (c == 46) <;> rw [h] at hq <;> cases h1 : smallB c
  all_goals
    go_enter Tryz.func111, Tryz.ntmps111
    go_wp2_with (first
      | (go_at_call 70; refine (l01Small_any _ _).mono ?_; rw [h1]; rintro e w' ⟨rfl, rfl⟩)
      | (go_at_call 154; refine (l03Capital_any _ _).mono ?_; rintro e w' ⟨rfl, rfl⟩))
    go_ret
    exact ⟨by simp, rfl⟩
theorem l11Premium_any (c : UInt8) (w : World) :
    Calls Tryz.prog 112 #[bv c] w fun e w' => e = .returned (.bool (premB c)) ∧ w = w' := by
  unfold premB
  have q0 : ((c.toNat : Int) == 46) = (c == 46) := u8_eq c 46
  have q1 : ((c.toNat : Int) == 50) = (c == 50) := u8_eq c 50
  have q2 : ((c.toNat : Int) == 51) = (c == 51) := u8_eq c 51
  have q3 : ((c.toNat : Int) == 100) = (c == 100) := u8_eq c 100
  have q4 : ((c.toNat : Int) == 116) = (c == 116) := u8_eq c 116
  generalize (c == 46) = b0 at *
  generalize (c == 50) = b1 at *
  generalize (c == 51) = b2 at *
  generalize (c == 100) = b3 at *
  generalize (c == 116) = b4 at *
  cases b0
  · cases b1
    · cases b2
      · cases b3
        all_goals
          go_enter Tryz.func112, Tryz.ntmps112
          go_wp2_with (fail)
          go_ret
          exact ⟨by simp, rfl⟩
      · go_enter Tryz.func112, Tryz.ntmps112
        go_wp2_with (fail)
        go_ret
        exact ⟨by simp, rfl⟩
    · go_enter Tryz.func112, Tryz.ntmps112
      go_wp2_with (fail)
      go_ret
      exact ⟨by simp, rfl⟩
  · go_enter Tryz.func112, Tryz.ntmps112
    go_wp2_with (fail)
    go_ret
    exact ⟨by simp, rfl⟩
def sizeB (n : Int) : Bool := inR n 5 15
theorem l11Size_any (n : Int) (w : World) :
    Calls Tryz.prog 110 #[.int .i64 n] w fun e w' => e = .returned (.bool (sizeB n)) ∧ w = w' := by
  go_enter Tryz.func110, Tryz.ntmps110
  go_wp2_with (go_at_call 69; refine (l00In_any _ _ _ _).mono ?_; rintro e w' ⟨rfl, rfl⟩)
  go_ret
  exact ⟨rfl, rfl⟩
theorem l11In_any (p : Addr) (b : Bd) (r c : Int) (w : World) (hp : BAt w p b) (hs : sizeB b.size = true) :
    Calls Tryz.prog 165 #[.pointer (some p), .int .i64 r, .int .i64 c] w fun e w' => e = .returned (.bool (inR r 0 (b.size - 1) && inR c 0 (b.size - 1))) ∧ w = w' := by
  have hb := hs
  have h0 := hp.1
  simp only [sizeB, inR, Bool.and_eq_true, decide_eq_true_eq] at hb
  obtain ⟨hb1, hb2⟩ := hb
  cases hr : inR r 0 (b.size - 1)
  all_goals
    go_enter Tryz.func165, Tryz.ntmps165
    go_wp2_with (go_at_call 69; refine (l00In_any _ _ _ _).mono ?_; (try rw [hr]); rintro e w' ⟨rfl, rfl⟩)
    go_ret
    exact ⟨by simp, rfl⟩
def Bd.inB (b : Bd) (r c : Int) : Bool := inR r 0 (b.size - 1) && inR c 0 (b.size - 1)
def Bd.at_ (b : Bd) (r c : Int) : UInt8 := b.cells.getD (r * b.size + c).toNat 0
def Bd.full (b : Bd) (r c : Int) : Bool := b.inB r c && !(b.at_ r c == 46)
/-- what a valid board meets -/
structure Bd.Fit (b : Bd) : Prop where
  lo : 5 ≤ b.size
  hi : b.size ≤ 15
  prem : (b.prem.length : Int) = b.size * b.size
  cells : (b.cells.length : Int) = b.size * b.size
theorem inB_iff {b : Bd} {r c : Int} : b.inB r c = true ↔ (0 ≤ r ∧ r ≤ b.size - 1) ∧ (0 ≤ c ∧ c ≤ b.size - 1) := by
  simp [Bd.inB, inR]
theorem mul_bounds {n r c : Int} (h5 : 5 ≤ n) (h15 : n ≤ 15) (r0 : 0 ≤ r) (r1 : r ≤ n - 1) (c0 : 0 ≤ c) (c1 : c ≤ n - 1) :
    0 ≤ r * n ∧ r * n ≤ 210 ∧ 0 ≤ r * n + c ∧ r * n + c < n * n ∧ n * n ≤ 225 := by
  have h1 : r * n ≤ (n - 1) * n := Int.mul_le_mul_of_nonneg_right r1 (by omega)
  have h2 : 0 ≤ r * n := Int.mul_nonneg r0 (by omega)
  have h3 : (n - 1) * n = n * n - n := by rw [Int.sub_mul, Int.one_mul]
  have h4 : n * n ≤ 15 * n := Int.mul_le_mul_of_nonneg_right h15 (by omega)
  omega
theorem l11At_any (p : Addr) (b : Bd) (r c : Int) (w : World) (hp : BAt w p b) (hf : b.Fit) (hi : b.inB r c = true) :
    Calls Tryz.prog 167 #[.pointer (some p), .int .i64 r, .int .i64 c] w fun e w' => e = .returned (bv (b.at_ r c)) ∧ Dr w w' := by
  have h0 := hp.1
  have h2 := hp.2.2
  obtain ⟨⟨r0, r1⟩, c0, c1⟩ := inB_iff.1 hi
  obtain ⟨m0, m1, m2, m3, m4⟩ := mul_bounds hf.lo hf.hi r0 r1 c0 c1
  have h5 := hf.lo
  have h15 := hf.hi
  have hlen := hf.cells
  have m5 : r * b.size + c < (b.cells.length : Int) := by omega
  have m6 : IntKind.i64.wrap (r * b.size) = r * b.size := IntWalk.i64_in _ (by omega)
  obtain ⟨k, hk⟩ : ∃ k : Nat, r * b.size + c = (k : Int) := ⟨(r * b.size + c).toNat, by omega⟩
  have hat : b.at_ r c = b.cells.getD k 0 := by rw [Bd.at_, hk]; rfl
  have m7 : IntKind.i64.wrap (r * b.size + c) = (k : Int) := by rw [hk]; exact IntWalk.i64_in _ (by omega)
  have hkl : k < b.cells.length := by omega
  have m8 : (k : Int) < (b.cells.length : Int) := by omega
  have m9 : (0 : Int) ≤ k := by omega
  rw [hat, show b.cells.getD k 0 = b.cells[k] by simp [List.getD, List.getElem?_eq_getElem hkl]]
  clear hat hk m5 hlen m3
  go_enter Tryz.func167, Tryz.ntmps167
  go_wp2_with (fail)
  go_quiet (fail)
  go_wp2
  go_ret
  exact ⟨rfl, ⟨_, rfl⟩⟩
theorem l11Full_any (p : Addr) (b : Bd) (r c : Int) (w : World) (hp : BAt w p b) (hf : b.Fit) (hs : sizeB b.size = true) :
    Calls Tryz.prog 166 #[.pointer (some p), .int .i64 r, .int .i64 c] w fun e w' => e = .returned (.bool (b.full r c)) ∧ Dr w w' := by
  have hfull : b.full r c = (b.inB r c && !(b.at_ r c == 46)) := rfl
  cases hi : b.inB r c
  · go_enter Tryz.func166, Tryz.ntmps166
    go_wp2_with (go_at_call 165; refine (l11In_any p b _ _ _ hp hs).mono ?_; rw [show (inR r 0 (b.size - 1) && inR c 0 (b.size - 1)) = false from hi]; rintro e w' ⟨rfl, rfl⟩)
    go_ret
    exact ⟨ret_bool (by rw [hfull, hi]; rfl), Dr.refl _⟩
  · have hq : (((b.at_ r c).toNat : Int) == 46) = (b.at_ r c == 46) := u8_eq (b.at_ r c) 46
    go_enter Tryz.func166, Tryz.ntmps166
    go_wp2_with (first
      | (go_at_call 165; refine (l11In_any p b _ _ _ hp hs).mono ?_; rw [show (inR r 0 (b.size - 1) && inR c 0 (b.size - 1)) = true from hi]; rintro e w' ⟨rfl, rfl⟩)
      | (go_at_call 167; refine (l11At_any p b _ _ _ hp hf hi).mono ?_; rintro e w' ⟨rfl, hd⟩))
    go_ret
    exact ⟨ret_bool (by rw [hfull, hi, bne, hq]; rfl), hd⟩
def okFrom : Str → Str → Bool
  | [], _ => true
  | _, [] => true
  | c :: r, p :: q => cellB c && premB p && okFrom r q
def bdB (b : Bd) : Bool := sizeB b.size && (decide ((b.prem.length : Int) = b.size * b.size) && (decide ((b.cells.length : Int) = b.size * b.size) && okFrom b.cells b.prem))
theorem okFrom_eq : ∀ (c p : Str), c.length = p.length → okFrom c p = (p.all premB && c.all cellB)
  | [], [], _ => rfl
  | [], _ :: _, h => by simp at h
  | _ :: _, [], h => by simp at h
  | c :: r, p :: q, h => by
    rw [okFrom, okFrom_eq r q (by simpa using h), List.all_cons, List.all_cons]
    cases cellB c <;> cases premB p <;> cases List.all q premB <;> rfl
theorem bdB.fit {b : Bd} (h : bdB b = true) : b.Fit := by
  simp only [bdB, sizeB, inR, Bool.and_eq_true, decide_eq_true_eq] at h
  exact ⟨h.1.1, h.1.2, h.2.1, h.2.2.1⟩
theorem okFrom_step (c p : Str) (k : Nat) (h1 : k < c.length) (h2 : k < p.length) : okFrom (c.drop k) (p.drop k) = (cellB c[k] && premB p[k] && okFrom (c.drop (k + 1)) (p.drop (k + 1))) := by
  rw [drop_cons c k h1, drop_cons p k h2]; rfl
theorem l11Ok_any (p : Addr) (b : Bd) (w : World) (hp : BAt w p b) (h1 : b.prem.length ≤ 2 ^ 40) (h2 : b.cells.length ≤ 2 ^ 40) :
    Calls Tryz.prog 72 #[.pointer (some p)] w fun e w' => e = .returned (.bool (bdB b)) ∧ Dr w w' := by
  have hp0 := hp.1
  have hp1 := hp.2.1
  have hp2 := hp.2.2
  cases hs : sizeB b.size
  · go_enter Tryz.func72, Tryz.ntmps72
    go_wp2_with (fail)
    go_quiet ((go_at_call 110; exact quiet_eq (hs ▸ l11Size_any _ _)))
    go_wp2
    go_ret
    exact ⟨ret_bool (by rw [bdB, hs]; rfl), ⟨_, rfl⟩⟩
  · have hb := hs
    simp only [sizeB, inR, Bool.and_eq_true, decide_eq_true_eq] at hb
    obtain ⟨hb1, hb2⟩ := hb
    obtain ⟨m0, m1, _, _, m4⟩ := mul_bounds (r := b.size - 1) (c := 0) hb1 hb2 (by omega) (by omega) (by omega) (by omega)
    have m5 : 0 ≤ b.size * b.size := Int.mul_nonneg (by omega) (by omega)
    have m6 : IntKind.i64.wrap (b.size * b.size) = b.size * b.size := IntWalk.i64_in _ (by omega)
    clear m0 m1
    obtain ⟨q, hq⟩ : ∃ q, q = decide ((b.prem.length : Int) = b.size * b.size) := ⟨_, rfl⟩
    have hqd : ((b.prem.length : Int) != b.size * b.size) = !q := by rw [hq]; rfl
    obtain ⟨q2, hq2⟩ : ∃ q, q = decide ((b.cells.length : Int) = b.size * b.size) := ⟨_, rfl⟩
    have hqd2 : ((b.cells.length : Int) != b.size * b.size) = !q2 := by rw [hq2]; rfl
    have Hq := Lib.hid hq
    have Hq2 := Lib.hid hq2
    clear hq hq2
    cases q
    · go_enter Tryz.func72, Tryz.ntmps72
      go_wp2_with (fail)
      go_quiet ((go_at_call 110; exact quiet_eq (hs ▸ l11Size_any _ _)))
      go_wp2
      go_ret
      exact ⟨ret_bool (by rw [bdB, hs, ← Hq.out]; rfl), ⟨_, rfl⟩⟩
    · cases q2
      · go_enter Tryz.func72, Tryz.ntmps72
        go_wp2_with (fail)
        go_quiet ((go_at_call 110; exact quiet_eq (hs ▸ l11Size_any _ _)))
        go_wp2
        go_ret
        exact ⟨ret_bool (by rw [bdB, hs, ← Hq.out, ← Hq2.out]; rfl), ⟨_, rfl⟩⟩
      · go_enter Tryz.func72, Tryz.ntmps72
        go_wp2_with (fail)
        go_quiet ((go_at_call 110; exact quiet_eq (hs ▸ l11Size_any _ _)))
        have hlen : b.cells.length = b.prem.length := by
          have e1 : (b.prem.length : Int) = b.size * b.size := of_decide_eq_true Hq.out.symm
          have e2 : (b.cells.length : Int) = b.size * b.size := of_decide_eq_true Hq2.out.symm
          omega
        have Hlen := Lib.hid hlen
        clear hlen m4 m5 m6 hqd hqd2
        go_wp2_with (fail)
        go_loopw [3] (fun i wr => ∃ k : Nat, k ≤ b.cells.length ∧ i = .int .i64 k ∧ Hid (okFrom b.cells b.prem = okFrom (b.cells.drop k) (b.prem.drop k)) ∧ Dr w wr) (fun i _ => b.cells.length - (intOf i).toNat)
        case atStart => exact ⟨0, by omega, rfl, rfl, ⟨_, rfl⟩⟩
        case round =>
          obtain ⟨k, hk, rfl, he, hd⟩ := hrel
          obtain ⟨hp0, hp1, hp2⟩ := hp.dr hd
          by_cases hlt : k < b.cells.length
          · have hlt2 : k < b.prem.length := by rw [← Hlen.out]; exact hlt
            have hst := Lib.hid (okFrom_step b.cells b.prem k hlt hlt2)
            have j0 : (k : Int) < (b.cells.length : Int) := by omega
            have j1 : (k : Int) < (b.prem.length : Int) := by omega
            have j2 : (0 : Int) ≤ k := by omega
            obtain ⟨c, hc⟩ : ∃ c, c = b.cells[k] := ⟨_, rfl⟩
            cases hx : cellB b.cells[k]
            · go_wp2_with (go_at_call 111; refine (l11Cell_any _ _).mono ?_; rw [hx]; rintro e w' ⟨rfl, rfl⟩)
              go_ret
              exact ⟨ret_bool (by rw [bdB, hs, ← Hq.out, ← Hq2.out, he.out, hst.out, hx]; rfl), hd⟩
            · cases hy : premB b.prem[k]
              all_goals
                go_wp2_with (first
                  | (go_at_call 111; refine (l11Cell_any _ _).mono ?_; rw [hx]; rintro e w' ⟨rfl, rfl⟩)
                  | (go_at_call 112; refine (l11Premium_any _ _).mono ?_; rw [hy]; rintro e w' ⟨rfl, rfl⟩))
              · go_ret
                exact ⟨ret_bool (by rw [bdB, hs, ← Hq.out, ← Hq2.out, he.out, hst.out, hx, hy]; rfl), hd⟩
              · go_roundw
                case rel => exact ⟨k + 1, by omega, by go_num, Lib.hid (by rw [he.out, hst.out, hx, hy]; rfl), hd⟩
                case measure => simp [intOf]; omega
          · obtain rfl : k = b.cells.length := by omega
            go_wp2_with (fail)
            go_ret
            exact ⟨ret_bool (by rw [bdB, hs, ← Hq.out, ← Hq2.out, he.out, List.drop_length]; rfl), hd⟩
end Go.Proofs.YtohopceknpgcnaaGreatDoor
/-
  Contracts: transposed boards and plays (layers 11 and 12 of the spec package).
  Conditions: a board that is valid lies at an address.
-/
namespace Go.Proofs.YtohopceknpgcnaaGreatDoor
open Go.RowKit RegP RegL
set_option maxHeartbeats 400000

def turnTo (n : Nat) (s : Str) (m : Nat) : Str := (List.range m).map fun i => s.getD ((i % n) * n + i / n) 0
def turnS (n : Nat) (s : Str) : Str := turnTo n s (n * n)
theorem turnTo_length (n : Nat) (s : Str) (m : Nat) : (turnTo n s m).length = m := by simp [turnTo]
theorem turnTo_step (n : Nat) (s : Str) (c r : Nat) (h : r < n) (hl : r * n + c < s.length) : turnTo n s (c * n + r + 1) = turnTo n s (c * n + r) ++ [s[r * n + c]] := by
  have e1 : (c * n + r) % n = r := by rw [Nat.mul_comm, Nat.mul_add_mod, Nat.mod_eq_of_lt h]
  have e2 : (c * n + r) / n = c := by rw [Nat.mul_comm, Nat.mul_add_div (by omega), Nat.div_eq_of_lt h, Nat.add_zero]
  rw [turnTo, List.range_succ, List.map_append, ← turnTo, List.map_cons, List.map_nil, e1, e2]
  congr 2
  simp [List.getD, List.getElem?_eq_getElem hl]

theorem l11Turn_any (n : Nat) (s : Str) (w : World) (h5 : 5 ≤ n) (h15 : n ≤ 15) (hs : s.length = n * n) :
    Calls Tryz.prog 156 #[.int .i64 n, sv s] w fun e w' => e = .returned (sv (turnS n s)) ∧ Below w.heap.size w w' := by
  have Hs := Lib.hid hs
  clear hs
  go_enter Tryz.func156, Tryz.ntmps156
  go_wp2_with (fail)
  go_loopw [5, 6] (fun o i wr => ∃ c : Nat, c ≤ n ∧ i = .int .i64 c ∧ wr.ownsRow w.heap.size 5 1 o (c * n) ((turnTo n s (c * n)).map bv) ∧ Below w.heap.size w wr) (fun _ i _ => n - (intOf i).toNat)
  case atStart => exact ⟨0, by omega, rfl, own_cast (World.ownsRow_lit w #[] 0 (Nat.le_refl _) (by unfold maxLen; omega) rfl) (by simp [turnTo]) (by simp), (Below.refl _ _).alloc (Nat.le_refl _) _⟩
  case round =>
    obtain ⟨c, hc, rfl, hown, hw⟩ := hrel
    by_cases hcl : c < n
    · have hc1 : (c : Int) < (n : Int) := by omega
      go_wp2_with (fail)
      go_loopw [5, 7] (fun o i wr => ∃ r : Nat, r ≤ n ∧ i = .int .i64 r ∧ wr.ownsRow w.heap.size 5 1 o (c * n + r) ((turnTo n s (c * n + r)).map bv) ∧ Below w.heap.size w wr) (fun _ i _ => n - (intOf i).toNat)
      case atStart => exact ⟨0, by omega, rfl, hown, hw⟩
      case round =>
        obtain ⟨r, hr, rfl, hown, hw⟩ := hrel
        by_cases hrl : r < n
        · have hr1 : (r : Int) < (n : Int) := by omega
          obtain ⟨m0, m1, m2, m3, m4⟩ := mul_bounds (n := (n : Int)) (r := (r : Int)) (c := (c : Int)) (by omega) (by omega) (by omega) (by omega) (by omega) (by omega)
          obtain ⟨k, hk⟩ : ∃ k : Nat, k = r * n + c := ⟨_, rfl⟩
          have hkl : k < s.length := by rw [Hs.out]; rw [hk]; have : ((r * n + c : Nat) : Int) < ((n * n : Nat) : Int) := by push_cast; exact m3
                                        omega
          have hst : Hid (turnTo n s (c * n + r + 1) = turnTo n s (c * n + r) ++ [s[k]]) := Lib.hid (by subst hk; exact turnTo_step n s c r hrl hkl)
          have m6 : IntKind.i64.wrap ((r : Int) * (n : Int)) = ((r : Int) * (n : Int)) := IntWalk.i64_in _ (by omega)
          have m7 : IntKind.i64.wrap ((r : Int) * (n : Int) + c) = (k : Int) := by rw [hk]; push_cast; exact IntWalk.i64_in _ (by omega)
          have m8 : (k : Int) < (s.length : Int) := by omega
          have m9 : (0 : Int) ≤ k := by omega
          have hcn : c * n ≤ 225 := by have := Nat.mul_le_mul (show c ≤ 15 by omega) h15; omega
          clear m0 m1 m2 m3 m4 hk
          go_wp2_with (at_builtin; refine wpList_app byteT rfl (.tmp 19) (.tmp 27) rfl _ _ _ rfl w.heap.size hown [bv s[k]] rfl (by simp [Value.oneCell']) rfl (by omega) (by omega) hw.size ?_; intro v1 w1 hown1 hg1 _)
          go_roundw
          case rel => exact ⟨r + 1, by omega, by go_num, own_cast hown1 (by rw [← Nat.add_assoc, hst.out, List.map_append]; rfl) rfl, Below.own hw hw.size hown (Nat.le_refl _) hg1⟩
          case measure => simp [intOf]; omega
        · obtain rfl : r = n := by omega
          go_wp2_with (fail)
          go_roundw
          case rel => exact ⟨c + 1, by omega, by go_num, own_cast hown (by rw [Nat.add_mul, Nat.one_mul]) (by rw [Nat.add_mul, Nat.one_mul]), hw⟩
          case measure => simp [intOf]; omega
    · obtain rfl : c = n := by omega
      have hcv := run_string_own (P := Tryz.prog) wr 111 9 5 Tryz.underlying111 Tryz.underlying5 Tryz.underlying9 (l := turnS c s) (own_cast hown rfl (by rw [turnS, turnTo_length]))
      go_wp2
      go_ret
      exact ⟨rfl, hw⟩
def Bd.tr (b : Bd) : Bd := ⟨b.size, turnS b.size.toNat b.prem, turnS b.size.toNat b.cells⟩
theorem l11Transpose_any (p : Addr) (b : Bd) (w : World) (hp : BAt w p b) (hf : b.Fit) :
    Calls Tryz.prog 114 #[.pointer (some p)] w fun e w' => e = .returned b.tr.v ∧ Below w.heap.size w w' := by
  obtain ⟨n, hn⟩ : ∃ n : Nat, b.size = (n : Int) := ⟨b.size.toNat, by have := hf.lo; omega⟩
  have n5 : 5 ≤ n := by have := hf.lo; omega
  have n15 : n ≤ 15 := by have := hf.hi; omega
  have hlp : Hid (b.prem.length = n * n) := by have := hf.prem; rw [hn] at this; exact Lib.hid (by exact_mod_cast this)
  have hlc : Hid (b.cells.length = n * n) := by have := hf.cells; rw [hn] at this; exact Lib.hid (by exact_mod_cast this)
  have hp' := hp
  obtain ⟨hp0, hp1, hp2⟩ := hp
  rw [hn] at hp0
  have hlt := hp'.lt
  have htr : Hid (b.tr.v = .agg #[.int .i64 n, sv (turnS n b.prem), sv (turnS n b.cells)]) := Lib.hid (by rw [Bd.v, Bd.tr, hn]; rfl)
  clear hn
  go_enter Tryz.func114, Tryz.ntmps114
  go_wp2_with (fail)
  refine wp_region_b 23 (by kernel_rfl) (by kernel_rfl) ?_
  simp only [List.take_succ_cons, List.take_zero, List.drop_succ_cons, List.drop_zero]
  iterate 23
    apply pc_step rfl
    · intro w1 hb K hK
      have hz := hb.size
      simp at hz
      have hbp := hb.cell (p := p) (by simp; omega)
      have hbp1 := hb.cell (p := { block := p.block, off := p.off + 1 }) (by simp; omega)
      have hbp2 := hb.cell (p := { block := p.block, off := p.off + 2 }) (by simp; omega)
      go_wp2_with (go_at_call 156; refine (l11Turn_any n _ _ n5 n15 (by first | rw [hlp.out] | rw [hlc.out])).mono ?_; rintro e w2 ⟨rfl, hb2⟩)
      first | exact hb | exact hb.trans (hb2.mono hb.size)
    simp only [Act.put, List.setIfInBounds_toArray, List.set_cons_succ, List.set_cons_zero]
  refine pc_nil ?_
  intro w1 hb
  have hbc := bcell hb
  have hbs := hb.size
  simp at hbs
  go_wp2
  have hblk := (Blk.new w 40 _).below hb (by simp)
  have hrow := ((hblk.set_ 0 (.int .i64 n)).set_ 1 (sv (turnS n b.prem))).set_ 2 (sv (turnS n b.cells))
  refine ret_row (p := 2) (ty := 40) rfl w.heap.size 40 _ _ rfl hrow Tryz.underlying40 rfl (by kernel_rfl) rfl ⟨?_, ?_⟩
  · rw [htr.out]; rfl
  · exact ((((Below.refl _ _).alloc (Nat.le_refl _) _).trans (hb.mono (by simp))).setCell (Nat.le_refl _) _).setCell (Nat.le_refl _) _ |>.setCell (Nat.le_refl _) _
end Go.Proofs.YtohopceknpgcnaaGreatDoor
