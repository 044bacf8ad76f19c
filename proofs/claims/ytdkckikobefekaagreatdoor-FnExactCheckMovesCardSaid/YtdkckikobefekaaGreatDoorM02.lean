/-
  A region that draws its order, the third form: an operation may yield a value that hangs on the world ("free"); S tells what is known of it; Words for memory and small facts that the walks of this family share: slices that read as lists, blocks known whole, strings as lists of bytes; Contracts: letters, words, long words, lexicons (layers 1 and 5 of both packages); Contracts: lexicons (layer 5 of both packages).
  Conditions: the closed check regCkL of the region's own edges; none; lengths at most 2^40; each word at most 2^40 letters, at most 2^40 words.
-/
import Derived.Test.YtdkckikobefekaaGreatDoorM01
import Derived.Test.YtdkckikobefekaaGreatDoorProg
import Derived.WalkKit
import Derived.WalkSpells
import Derived.WalkLawsBesides
import Derived.Laws.OwnMore
import Derived.Deep.AppendLies
import Derived.Deep.Draws
import Derived.Maps.AppendAt
import Derived.Lib.Hide
import Derived.Deep.QuietTactic
import Derived.BigQuiet
namespace Go.Proofs.YtdkckikobefekaaGreatDoor
namespace RegV
open RegP RegL
section
variable {P : Program} {ops : Array Oper} {Q : Exit → Act → World → Prop} {S : (Nat → Value) → (Nat → Bool) → World → Prop}
def sub (σ : Nat → Value) (i : Nat) (u : Value) : Nat → Value := fun j => if j = i then u else σ j
theorem sub_same (σ : Nat → Value) (i : Nat) (u : Value) : sub σ i u i = u := by simp [sub]
theorem sub_ne (σ : Nat → Value) {i j : Nat} (u : Value) (h : j ≠ i) : sub σ i u j = σ j := by simp [sub, h]
def vsOf (σ : Nat → Value) : Nat → List (Option Value) → List Value
 | _, [] => []
 | k, x :: r => x.getD (σ k) :: vsOf σ (k + 1) r
theorem vsOf_length (σ : Nat → Value) : ∀ (k : Nat) (sp : List (Option Value)), (vsOf σ k sp).length = sp.length
 | _, [] => rfl
 | k, _ :: r => by rw [vsOf, List.length_cons, vsOf_length σ (k + 1) r, List.length_cons]
theorem vsOf_get (σ : Nat → Value) : ∀ (k : Nat) (sp : List (Option Value)) (i : Nat), (vsOf σ k sp)[i]? = sp[i]?.map fun x => x.getD (σ (k + i))
 | _, [], _ => by simp [vsOf]
 | k, x :: r, 0 => by simp [vsOf]
 | k, x :: r, i + 1 => by
   rw [vsOf, List.getElem?_cons_succ, vsOf_get σ (k + 1) r i, List.getElem?_cons_succ, show k + 1 + i = k + (i + 1) by omega]
def FreeV (P : Program) (ops : Array Oper) (f : Nat) (S : (Nat → Value) → (Nat → Bool) → World → Prop) (i : Nat) (o : Oper) (a : Act) (σ : Nat → Value) : Prop :=
 Region.wanted o (yielded ops a.tmps) = true ∧ ∀ L w, S σ L w → L i = false → (∀ e ∈ ancs ops f i, L e = true) → o.wp P a w (fun a' w' => ∃ u, a' = a.put o.dst u ∧ S (sub σ i u) (upd L i) w') Never
theorem FreeV.wpOp {f i : Nat} {o : Oper} {a a' : Act} {w : World} {L : Nat → Bool} {σ : Nat → Value} {K : Act → World → Prop} (hi : ops[i]? = some o) (hs : ∀ cs b, o.op ≠ .select cs b) (hsz : a.tmps.size = a'.tmps.size) (hl : ∀ t ∈ o.looksAt ops, a.tmps[t]? = a'.tmps[t]?)
   (h : FreeV P ops f S i o a σ) (hS : S σ L w) (hLi : L i = false) (hd : ∀ e ∈ ancs ops f i, L e = true) (hK : ∀ u w', S (sub σ i u) (upd L i) w' → K (a'.put o.dst u) w') : wpOp P ops Q i K a' w := by
 have hw := wanted_congr hl
 unfold Go.wpOp
 simp only [hi]
 obtain ⟨h1, h2⟩ := h
 rw [hw] at h1
 simp only [h1, if_true]
 refine .inl ?_
 have h3 := h2 L w hS hLi hd
 have he : ∀ x ∈ o.op.operands, a.eval x = a'.eval x := fun x hx => by
   cases x with
   | tmp t =>
     have := hl t (List.mem_append_left _ (List.mem_filterMap.2 ⟨.tmp t, by simpa using hx, rfl⟩))
     simp only [Act.eval, Array.getD_eq_getD_getElem?, this]
   | _ => rfl
 unfold Oper.wp at *
 rw [execOp_congr o hs he] at h3
 generalize (execOp a'.eval o).run P w = r at *
 cases r with
 | ok n w' =>
   cases n <;> simp only [Oper.upon] at h3 ⊢
   case value u => obtain ⟨u', h3, h4⟩ := h3; rw [put_inj hsz h3]; exact hK _ _ h4
   case skip => obtain ⟨u', h3, h4⟩ := h3; rw [put_inj hsz h3]; exact hK _ _ h4
   case defer d =>
     exfalso
     obtain ⟨u', h3, _⟩ := h3
     have h4 := congrArg Act.defers h3
     rw [put_defers', put_defers'] at h4
     have := congrArg List.length h4
     simp at this
   case enter f args =>
     refine Calls.mono h3 fun e w'' he => ?_
     cases e with
     | returned u => simp only at he ⊢; obtain ⟨u', he, h4⟩ := he; rw [put_inj hsz he]; exact hK _ _ h4
     | panicked c => exact he.elim
     | outgrown => obtain ⟨_, _, hh⟩ := he; exact hh.elim
   case row row args => exact Rows.mono h3 fun u w'' he => by obtain ⟨u', he, h4⟩ := he; rw [put_inj hsz he]; exact hK _ _ h4
 | halt x w' =>
   cases x <;> simp only [Oper.upon] at h3
   case panic u => exact h3.elim
def StepV (P : Program) (ops : Array Oper) (f : Nat) (S : (Nat → Value) → (Nat → Bool) → World → Prop) (i : Nat) (o : Oper) (a : Act) (σ : Nat → Value) : Option Value → Prop
 | some v => GStepL P ops f (S σ) i o a v
 | none => FreeV P ops f S i o a σ
def PChainV (P : Program) (ops : Array Oper) (f : Nat) (S : (Nat → Value) → (Nat → Bool) → World → Prop) (End : (Nat → Value) → Act → Prop) : Nat → List Oper → ((Nat → Value) → Act) → Prop
 | _, [], a => ∀ σ, End σ (a σ)
 | i, o :: r, a => ∃ x : Option Value, (∀ σ, StepV P ops f S i o (a σ) σ x) ∧ PChainV P ops f S End (i + 1) r (fun σ => (a σ).put o.dst (x.getD (σ i)))
theorem PChainV.vals {f : Nat} {End : (Nat → Value) → Act → Prop} : ∀ (l : List Oper) (k : Nat) (a : (Nat → Value) → Act), PChainV P ops f S End k l a →
   ∃ sp : List (Option Value), sp.length = l.length ∧ (∀ σ, End σ (actAfter l (vsOf σ k sp) (a σ))) ∧ ∀ i o x, l[i]? = some o → sp[i]? = some x → ∀ σ, StepV P ops f S (k + i) o (actAfter (l.take i) ((vsOf σ k sp).take i) (a σ)) σ x
 | [], _, a, h => ⟨[], rfl, h, fun i o v hi => by simp at hi⟩
 | o :: r, k, a, ⟨x, hg, hc⟩ => by
   obtain ⟨sp, hl, he, hs⟩ := PChainV.vals r _ _ hc
   refine ⟨x :: sp, by simp [hl], he, fun i o' v' hi hv => ?_⟩
   cases i with
   | zero => simp at hi hv; subst hi; subst hv; intro σ; simpa [actAfter, vsOf] using hg σ
   | succ i => simp at hi hv; intro σ; have := hs i o' v' hi hv σ; rw [show k + 1 + i = k + (i + 1) from by omega] at this; simpa [actAfter, vsOf] using this
theorem Is.vals {l : List Oper} {vs vs' : List Value} {a0 a : Act} {L : Nat → Bool} (h : Is l vs a0 L a) (hv : ∀ j, L j = true → vs'[j]? = vs[j]?) : Is l vs' a0 L a :=
 ⟨h.defers, h.size, fun i o v t h1 h2 h3 h4 => h.yes i o v t h1 (by rw [← hv i h4]; exact h2) h3 h4, h.no⟩
theorem prefix_anyV {f n : Nat} {a0 : Act} {sp : List (Option Value)} (hn : n ≤ ops.size) (hsl : sp.length = (ops.toList.take n).length)
   (hops : ∀ i o, (ops.toList.take n)[i]? = some o → opCk ops (ops.toList.take n) i o = true) (htw : tailWaitsL ops f n = true) (hd : dstsApart (ops.toList.take n))
   (hst : ∀ i o x, (ops.toList.take n)[i]? = some o → sp[i]? = some x → ∀ σ, StepV P ops f S i o (actAfter ((ops.toList.take n).take i) ((vsOf σ 0 sp).take i) a0) σ x)
   (hend : ∀ σ w, S σ (fun i => decide (i < n)) w → wpAny P .any ops Q (ops.size - n) (lst ops.size n) (actAfter (ops.toList.take n) (vsOf σ 0 sp) a0) w) :
   ∀ (m : Nat) (listed : Array Bool) (a : Act) (w : World) (σ : Nat → Value), unl listed n = m → listed.size = ops.size → (∀ k, n ≤ k → listed.getD k false = false) →
     (∀ i o, ops[i]? = some o → listed.getD i false = true → ∀ e ∈ bindsOn o, listed.getD e false = true) →
     Is (ops.toList.take n) (vsOf σ 0 sp) a0 (fun i => listed.getD i false) a → S σ (fun i => listed.getD i false) w → wpAny P .any ops Q (m + (ops.size - n)) listed a w := by
 have hnl : (ops.toList.take n).length = n := by simp; omega
 intro m
 induction m with
 | zero =>
   intro listed a w σ hm hsz hout _ his hS
   have hlen : (vsOf σ 0 sp).length = (ops.toList.take n).length := by rw [vsOf_length, hsl]
   generalize hvs : vsOf σ 0 sp = vs at *
   have hall := unl_zero hm
   have hL : listed = lst ops.size n := by
     apply Array.ext_getElem?
     intro i
     rw [lst_get]
     by_cases hi : i < ops.size
     · rw [if_pos hi, Array.getElem?_eq_getElem (by omega)]
       congr 1
       by_cases hin : i < n
       · have := hall i hin
         simp [hin]
         simpa [Array.getD_eq_getD_getElem?, Array.getElem?_eq_getElem (show i < listed.size by omega)] using this
       · have := hout i (by omega)
         simp [hin]
         simpa [Array.getD_eq_getD_getElem?, Array.getElem?_eq_getElem (show i < listed.size by omega)] using this
     · rw [if_neg hi, Array.getElem?_eq_none (by omega)]
   have hA : a = actAfter (ops.toList.take n) vs a0 := by
     have h2 := Is.take (a0 := a0) hd hlen n (by omega)
     rw [List.take_of_length_le (by omega : (ops.toList.take n).length ≤ n), List.take_of_length_le (by omega : vs.length ≤ n)] at h2
     have ht : a.tmps = (actAfter (ops.toList.take n) vs a0).tmps := by
       apply Array.ext_getElem?
       intro t
       refine his.same hlen h2 t fun j o hj _ => ?_
       have hlt : j < n := by have := (List.getElem?_eq_some_iff.1 hj).1; omega
       exact ⟨hall j hlt, by simp [hlt]⟩
     have hdf : a.defers = (actAfter (ops.toList.take n) vs a0).defers := his.defers.trans h2.defers.symm
     cases a
     generalize actAfter (ops.toList.take n) vs a0 = b at *
     cases b
     simp_all
   have hLf : (fun i => listed.getD i false) = fun i => decide (i < n) := by
     funext i
     by_cases hin : i < n
     · simp only [hin, decide_true]; exact hall i hin
     · simp only [hin, decide_false]; exact hout i (by omega)
   rw [hLf] at hS
   subst hL
   subst hA
   rw [← hvs]
   simpa using hend σ w hS
 | succ m ih =>
   intro listed a w σ hm hsz hout hcl his hS
   have hlen : (vsOf σ 0 sp).length = (ops.toList.take n).length := by rw [vsOf_length, hsl]
   obtain ⟨i0, hi0, hu0, hb0⟩ := unl_pos (n := n) (listed := listed) (by omega)
   have hget : ∀ i, i < n → ∃ o, (ops.toList.take n)[i]? = some o ∧ ops[i]? = some o := fun i hi => by
     have h1 : i < ops.toList.length := by simp; omega
     refine ⟨ops[i]'(by omega), ?_, Array.getElem?_eq_getElem (by omega)⟩
     rw [List.getElem?_take_of_lt hi]
     simp [Array.getElem?_eq_getElem (show i < ops.size by omega)]
   rw [show m + 1 + (ops.size - n) = (m + (ops.size - n)) + 1 from by omega]
   refine ⟨fun hnil => ?_, fun i hi => ?_⟩
   · exfalso
     obtain ⟨o, ho1, ho2⟩ := hget i0 hi0
     have hck := hops i0 o ho1
     simp only [opCk, Bool.and_eq_true, List.all_eq_true, decide_eq_true_eq] at hck
     have : i0 ∈ Region.ready .any ops listed := ready_iff.2 ⟨by
       have : i0 < listed.size := by omega
       simpa [Array.getD_eq_getD_getElem?, Array.getElem?_eq_getElem this] using hu0, o, ho2, fun e he => hb0 e (hck.1.2 e he)⟩
     rw [hnil] at this
     cases this
   · obtain ⟨hun, o, hoi, hall⟩ := ready_iff.1 hi
     have his' : i < ops.size := (Array.getElem?_eq_some_iff.1 hoi).1
     have hun' : listed.getD i false = false := by
       have : i < listed.size := by omega
       simpa [Array.getD_eq_getD_getElem?, Array.getElem?_eq_getElem this] using hun
     by_cases hin : i < n
     · obtain ⟨o', ho1, ho2⟩ := hget i hin
       rw [hoi] at ho2; cases ho2
       have hck := hops i o ho1
       simp only [opCk, Bool.and_eq_true, List.all_eq_true, decide_eq_true_eq] at hck
       obtain ⟨⟨hsel, _⟩, hdep⟩ := hck
       have hspl : i < sp.length := by omega
       have hspi : sp[i]? = some sp[i] := List.getElem?_eq_getElem hspl
       have hg := hst i o _ ho1 hspi σ
       have htk := Is.take (a0 := a0) hd hlen i (by omega)
       have hupd : (fun j => (listed.setIfInBounds i true).getD j false) = upd (fun j => listed.getD j false) i := by
         funext j
         by_cases hji : j = i
         · subst hji
           rw [upd_same]
           have : j < listed.size := by omega
           simp [this]
         · rw [upd_ne _ hji]; exact getD_set_ne false (fun e => hji e.symm)
       have hlook : ∀ t ∈ o.looksAt ops, (actAfter ((ops.toList.take n).take i) ((vsOf σ 0 sp).take i) a0).tmps[t]? = a.tmps[t]? := fun t ht => by
         refine htk.same hlen his t fun j oj hj hdj => ?_
         have hm2 : (oj, j) ∈ (ops.toList.take n).zipIdx := by
           rw [List.mem_zipIdx_iff_getElem?]; exact hj
         have := hdep (oj, j) hm2
         simp only [hdj, Bool.and_eq_true, Bool.or_eq_true, Bool.not_eq_true', List.contains_eq_mem, decide_eq_true_eq, decide_eq_false_iff_not] at this
         rcases this.1 with h | ⟨h1, h2⟩
         · exact absurd ht h
         · exact ⟨by simp [h2], hall j h1⟩
       have hns : ∀ cs b, o.op ≠ .select cs b := fun cs b e => by simp [notSel, e] at hsel
       have hanc : ∀ e ∈ ancs ops f i, listed.getD e false = true := fun e he => (ancs_ok f i e he).listed (L := fun j => listed.getD j false) hcl (fun o' ho' => by rw [hoi] at ho'; cases ho'; exact hall)
       have hnext : ∀ (σ' : Nat → Value) (v : Value) (w' : World), (∀ j, j ≠ i → σ' j = σ j) → (vsOf σ' 0 sp)[i]? = some v → S σ' (upd (fun j => listed.getD j false) i) w' → wpAny P .any ops Q (m + (ops.size - n)) (listed.setIfInBounds i true) (a.put o.dst v) w' := by
         intro σ' v w' hσ hv hS'
         refine ih _ _ w' σ' ?_ (by simpa using hsz) ?_ ?_ ?_ (by rw [hupd]; exact hS')
         · have := unl_set (n := n) (listed := listed) (i := i) (by omega) hun' hin
           omega
         · intro k hk
           rw [getD_set_ne false (by omega)]
           exact hout k hk
         · intro j oj hj hLj e he
           by_cases hji : j = i
           · subst hji
             rw [hoi] at hj; cases hj
             exact getD_set_true (hall e he)
           · rw [getD_set_ne false (fun e => hji e.symm)] at hLj
             exact getD_set_true (hcl j oj hj hLj e he)
         · have his2 : Is (ops.toList.take n) (vsOf σ' 0 sp) a0 (fun i => listed.getD i false) a := Is.vals his (fun j hj => by
             have hji : j ≠ i := fun e => by subst e; rw [hun'] at hj; cases hj
             rw [vsOf_get, vsOf_get, Nat.zero_add, hσ j hji])
           refine his2.step hd ho1 hv ?_ ?_
           · have : i < listed.size := by omega
             simp [this]
           · intro j _ hji
             exact getD_set_ne false (fun e => hji e.symm)
       cases hspx : sp[i] with
       | some v =>
         rw [hspx] at hg hspi
         exact GStepL.wpOp hoi hns (htk.size.trans his.size.symm) hlook hg hS hun' hanc fun w' hS' => hnext σ v w' (fun _ _ => rfl) (by rw [vsOf_get, hspi]; rfl) hS'
       | none =>
         rw [hspx] at hg hspi
         exact FreeV.wpOp hoi hns (htk.size.trans his.size.symm) hlook hg hS hun' hanc fun u w' hS' => hnext (sub σ i u) u w' (fun j hj => sub_ne σ u hj) (by rw [vsOf_get, hspi, Nat.zero_add]; simp [sub_same]) hS'
     · exfalso
       simp only [tailWaitsL, List.all_eq_true] at htw
       have hm2 : (o, i - n) ∈ (ops.toList.drop n).zipIdx := by
         rw [List.mem_zipIdx_iff_getElem?]
         simp only [List.getElem?_drop]
         rw [show n + (i - n) = i from by omega]
         simpa using hoi
       have := htw _ hm2
       simp only at this
       split at this
       · rename_i h0
         have hin' : i = n := by omega
         subst hin'
         simp only [List.all_eq_true, List.mem_range, List.contains_eq_mem, decide_eq_true_eq] at this
         have h1 := (ancs_ok f i i0 (this i0 hi0)).listed (L := fun j => listed.getD j false) hcl (fun o' ho' => by rw [hoi] at ho'; cases ho'; exact hall)
         rw [hu0] at h1
         cases h1
       · simp only [List.any_eq_true, decide_eq_true_eq] at this
         obtain ⟨e, he, hne⟩ := this
         have h1 := hall e he
         rw [hout e hne] at h1
         cases h1
theorem wp_region_v {id : Nat} {a : Act} {w : World} (f n : Nat) (S : (Nat → Value) → (Nat → Bool) → World → Prop) (hm : P.follows .mixedOrders = true) (hck : regCkL ops f n = true) (hS : ∃ σ, S σ (fun _ => false) w.drew)
   (h : PChainV P ops f S (fun σ a => ∀ w, S σ (fun i => decide (i < n)) w → wpList P ops Q (ops.toList.drop n) a w) 0 (ops.toList.take n) (fun _ => a)) : (Code.region id ops true).wp P Q a w := by
 simp only [regCkL, Bool.and_eq_true, decide_eq_true_eq] at hck
 obtain ⟨⟨⟨hn, hall⟩, htc⟩, htw⟩ := hck
 have hops : ∀ i o, (ops.toList.take n)[i]? = some o → opCk ops (ops.toList.take n) i o = true := fun i o hi => by
   rw [List.all_eq_true] at hall
   exact hall (o, i) (List.mem_zipIdx_iff_getElem?.2 hi)
 have hd : dstsApart (ops.toList.take n) := fun i j oi oj t hi hj hdi hdj => by
   have := hops i oi hi
   simp only [opCk, Bool.and_eq_true, List.all_eq_true] at this
   have h2 := this.2 (oj, j) (List.mem_zipIdx_iff_getElem?.2 hj)
   simp only [hdj, Bool.and_eq_true, Bool.or_eq_true, decide_eq_true_eq] at h2
   rcases h2.2 with e | e
   · exact e.symm
   · simp [hdi] at e
 obtain ⟨σ0, hS⟩ := hS
 obtain ⟨sp, hsl, hend, hst⟩ := PChainV.vals _ _ _ h
 refine wp_region_any hm ?_
 have hs0 : unl (Array.replicate ops.size false) n = n := by
   have : ∀ m, unl (Array.replicate ops.size false) m = m := by
     intro m
     induction m with
     | zero => rfl
     | succ m ih =>
       unfold unl at *
       rw [List.range_succ, List.countP_append, ih]
       by_cases h : m < ops.size <;> simp [h]
   exact this n
 have hfalse : ∀ k, (Array.replicate ops.size false).getD k false = false := fun k => by
   by_cases h : k < ops.size <;> simp [h]
 have hS' : S σ0 (fun i => (Array.replicate ops.size false).getD i false) w.drew := by
   rw [show (fun i => (Array.replicate ops.size false).getD i false) = fun _ => false from funext hfalse]; exact hS
 have := prefix_anyV (Q := Q) (a0 := a) hn hsl hops htw hd (fun i o x h1 h2 σ => by have := hst i o x h1 h2 σ; rwa [Nat.zero_add] at this) (fun σ w' hw' => tail_any htc (ops.size - n) n (by omega) (Nat.le_refl _) _ _ (hend σ w' hw')) n (Array.replicate ops.size false) a w.drew σ0 hs0 (by simp) (fun k _ => hfalse k)
   (fun i o _ h => by rw [hfalse i] at h; cases h) (Is.start fun i _ => hfalse i) hS'
 rw [show n + (ops.size - n) = ops.size from by omega] at this
 exact this
theorem pv_nil {End : (Nat → Value) → Act → Prop} {a : (Nat → Value) → Act} {f i : Nat} (h : ∀ σ, End σ (a σ)) : PChainV P ops f S End i [] a := h
theorem pv_step {End : (Nat → Value) → Act → Prop} {a : (Nat → Value) → Act} {o : Oper} {r : List Oper} {v : Value} {f i : Nat} (hw : ∀ σ, Region.wanted o (yielded ops (a σ).tmps) = true)
   (h : ∀ σ L w, S σ L w → L i = false → (∀ e ∈ ancs ops f i, L e = true) → ∀ K : Act → World → Prop, (∀ w', S σ (upd L i) w' → K ((a σ).put o.dst v) w') → o.wp P (a σ) w K Never) (hr : PChainV P ops f S End (i + 1) r (fun σ => (a σ).put o.dst v)) : PChainV P ops f S End i (o :: r) a :=
 ⟨some v, fun σ => .inl ⟨hw σ, fun L w hS h1 h2 => h σ L w hS h1 h2 _ fun _ hS' => ⟨rfl, hS'⟩⟩, hr⟩
theorem pv_free {End : (Nat → Value) → Act → Prop} {a : (Nat → Value) → Act} {o : Oper} {r : List Oper} {f i : Nat} (hw : ∀ σ, Region.wanted o (yielded ops (a σ).tmps) = true)
   (h : ∀ σ L w, S σ L w → L i = false → (∀ e ∈ ancs ops f i, L e = true) → ∀ K : Act → World → Prop, (∀ u w', S (sub σ i u) (upd L i) w' → K ((a σ).put o.dst u) w') → o.wp P (a σ) w K Never) (hr : PChainV P ops f S End (i + 1) r (fun σ => (a σ).put o.dst (σ i))) : PChainV P ops f S End i (o :: r) a :=
 ⟨none, fun σ => ⟨hw σ, fun L w hS h1 h2 => h σ L w hS h1 h2 _ fun u _ hS' => ⟨u, rfl, hS'⟩⟩, hr⟩
theorem pv_skip {End : (Nat → Value) → Act → Prop} {a : (Nat → Value) → Act} {o : Oper} {r : List Oper} {f i : Nat} (hw : ∀ σ, Region.wanted o (yielded ops (a σ).tmps) = false) (hS : ∀ σ L w, S σ L w → L i = false → S σ (upd L i) w)
   (hr : PChainV P ops f S End (i + 1) r (fun σ => (a σ).put o.dst undef)) : PChainV P ops f S End i (o :: r) a := ⟨some undef, fun σ => .inr ⟨hw σ, rfl, hS σ⟩, hr⟩
end
open Go.RowKit in
structure SV (W : World) (fs : List (Nat × Nat)) (σ : Nat → Value) (L : Nat → Bool) (w' : World) : Prop where
 low : Below W.heap.size W w'
 sl : ∀ p ∈ fs, L p.1 = true → ∃ A c, σ p.1 = .slice A p.2 c
section
open Go.RowKit
variable {W w1 w2 : World} {fs : List (Nat × Nat)} {σ : Nat → Value} {L : Nat → Bool} {i n : Nat}
theorem SV.start : SV W fs σ (fun _ => false) W.drew := ⟨(Below.refl _ _).drew, fun _ _ h => by cases h⟩
theorem SV.keep (h : SV W fs σ L w1) (hi : ∀ p ∈ fs, p.1 ≠ i) : SV W fs σ (upd L i) w1 := ⟨h.low, fun p hp hL => h.sl p hp (by rwa [upd_ne L (hi p hp)] at hL)⟩
theorem SV.call (h : SV W fs σ L w1) (hb : Below w1.heap.size w1 w2) : SV W fs σ L w2 := ⟨h.low.trans (hb.mono h.low.size), h.sl⟩
theorem SV.put {A : Option Addr} {c : Nat} (h : SV W fs σ L w1) (hi : ∀ p ∈ fs, p.1 = i → p.2 = n) : SV W fs (sub σ i (.slice A n c)) (upd L i) w1 :=
 ⟨h.low, fun p hp hL => by
   by_cases hpi : p.1 = i
   · rw [hpi, sub_same, hi p hp hpi]; exact ⟨A, c, rfl⟩
   · rw [sub_ne σ _ hpi]; exact h.sl p hp (by rwa [upd_ne L hpi] at hL)⟩
end
end RegV
end Go.Proofs.YtdkckikobefekaaGreatDoor
namespace Go.Proofs.YtdkckikobefekaaGreatDoor
open Go.RowKit RegP
abbrev Str := List UInt8
abbrev sv (l : Str) : Value := .string ⟨l.toArray⟩
abbrev bv (c : UInt8) : Value := .int .u8 (c.toNat : Int)
@[go_sem] theorem mk_getElem (l : List UInt8) (k : Nat) (h : k < (ByteArray.mk l.toArray).size) : (ByteArray.mk l.toArray)[k]'h = l[k]'(by simpa [ByteArray.size] using h) := rfl
@[go_sem] theorem mk_extract (l : List UInt8) (a b : Nat) : (ByteArray.mk l.toArray).extract a b = ByteArray.mk ((l.drop a).take (b - a)).toArray := ByteArray.extract_mk l a b
@[go_sem] theorem mk_append (x y : List UInt8) : (ByteArray.mk x.toArray ++ ByteArray.mk y.toArray) = ByteArray.mk (x ++ y).toArray := ByteArray.mk_append_mk x y
theorem drop_cons {α : Type} (l : List α) (k : Nat) (h : k < l.length) : l.drop k = l[k] :: l.drop (k + 1) := List.drop_eq_getElem_cons h
theorem drop_all {α : Type} (l : List α) (k : Nat) (h : l.length ≤ k) : l.drop k = [] := List.drop_eq_nil_of_le h
theorem u8_inj {a b : UInt8} (h : (a.toNat : Int) = (b.toNat : Int)) : a = b := UInt8.toNat_inj.1 (by omega)
theorem u8_eq (a b : UInt8) : ((a.toNat : Int) == (b.toNat : Int)) = (a == b) := by
 rw [Bool.eq_iff_iff, beq_iff_eq, beq_iff_eq]; exact ⟨u8_inj, fun h => by rw [h]⟩
theorem ret_int {k : IntKind} {a b : Int} (h : a = b) : Ending.returned (.int k a) = .returned (.int k b) := by rw [h]
theorem ret_bool {a b : Bool} (h : a = b) : Ending.returned (.bool a) = .returned (.bool b) := by rw [h]
theorem ret_str {a b : Str} (h : a = b) : Ending.returned (sv a) = .returned (sv b) := by rw [h]
theorem ret_tup2 {a b c d : Value} (h1 : a = c) (h2 : b = d) : Ending.returned (.tuple #[a, b]) = .returned (.tuple #[c, d]) := by rw [h1, h2]
theorem sv_eq {a b : Str} (h : a = b) : sv a = sv b := by rw [h]
theorem vb_eq {a b : Bool} (h : a = b) : Value.bool a = .bool b := by rw [h]
theorem vi_eq {k : IntKind} {a b : Int} (h : a = b) : Value.int k a = .int k b := by rw [h]
theorem bcell {B : Nat} {W w1 : World} (hb : Below B W w1) : (∀ b o, b < B → w1.cell? ⟨b, o, none⟩ = W.cell? ⟨b, o, none⟩) ∧ (∀ b o, b < B → w1.frozen? ⟨b, o, none⟩ = W.frozen? ⟨b, o, none⟩) :=
 ⟨fun b o h => hb.cell (p := ⟨b, o, none⟩) h, fun b o h => hb.frozen (p := ⟨b, o, none⟩) h⟩
/-! ### A block that is known whole -/
def Blk (w : World) (g : Nat) (t : TypeId) (cs : Array Value) : Prop := w.heap[g]? = some (.cells cs t (0, 0))
section
variable {w w' : World} {g : Nat} {t : TypeId} {cs : Array Value}
theorem Blk.lt (h : Blk w g t cs) : g < w.heap.size := by
 rcases Nat.lt_or_ge g w.heap.size with hlt | hge
 · exact hlt
 · unfold Blk at h; rw [Array.getElem?_eq_none hge] at h; cases h
theorem Blk.cell (h : Blk w g t cs) (i : Nat) : w.cell? ⟨g, i, none⟩ = cs[i]? := cell_of_row w g i cs t (0, 0) h
theorem Blk.frozen (h : Blk w g t cs) (i : Nat) : w.frozen? ⟨g, i, none⟩ = false := by
 unfold Blk at h
 simp [World.frozen?, h]
theorem Blk.new (w : World) (t : TypeId) (cs : Array Value) : Blk (w.alloc (.cells cs t)) w.heap.size t cs := heap_alloc_new w _
theorem Blk.drew (h : Blk w g t cs) : Blk w.drew g t cs := h
theorem Blk.alloc (h : Blk w g t cs) (o : Obj) : Blk (w.alloc o) g t cs := (Below.heap_alloc w o g h.lt).trans h
theorem Blk.set_ (h : Blk w g t cs) (i : Nat) (u : Value) : Blk (w.setCell ⟨g, i, none⟩ u) g t (cs.setIfInBounds i u) := by
 unfold Blk at h ⊢
 simp [World.setCell, Array.getElem?_modify, h]
theorem Blk.far (h : Blk w g t cs) {p : Addr} (hp : g ≠ p.block) (u : Value) : Blk (w.setCell p u) g t cs := (Below.heap_setCell w p u g hp).trans h
theorem Blk.below {B : Nat} (h : Blk w g t cs) (hb : Below B w w') (hg : g < B) : Blk w' g t cs := (hb.block g hg).trans h
theorem Blk.grown {row : Option Nat} (h : Blk w g t cs) (hb : w.grownBy w' row) (hg : some g ≠ row) : Blk w' g t cs := (hb.block g h.lt hg).trans h
theorem Blk.ne_ {g' : Nat} {t' : TypeId} {cs' : Array Value} (h : Blk w g t cs) (h' : Blk w g' t' cs') (hne : t ≠ t') : g ≠ g' := by
 rintro rfl
 unfold Blk at h h'
 rw [h] at h'
 injection h' with h'
 injection h' with _ ht
 exact hne ht
theorem own_blk_ne {base : Nat} {e : TypeId} {size n : Nat} {v : Value} {xs : List Value} (h : w.ownsRow base e size v n xs) (hg : Blk w g t cs) (hne : e ≠ t) : v.ownBlock ≠ some g := by
 rcases h.2 with ⟨rfl, _⟩ | ⟨g', cap, cur, rfl, _, hh, _⟩
 · simp [Value.ownBlock]
 · intro he
   have : g' = g := by simpa [Value.ownBlock] using he
   subst this
   exact Blk.ne_ (t := e) hh hg hne rfl
end
theorem ret_row {P : Program} {fn : Func} {R : Ending → World → Prop} {a : Act} {w : World} {p : Tmp} {ty : TypeId} (h : fn.results = #[.cell p ty]) (g : Nat) (t : TypeId) (cs : Array Value) (d : TypeDesc)
   (hp : a.tmps.getD p undef = .pointer (some ⟨g, 0, none⟩)) (hg : Blk w g t cs) (hu : P.underlying ty = some d)
   (hd : (match d with | .struct _ | .array _ _ => true | _ => false) = true) (hi : (P.info? ty).map (·.size) = some cs.size) (hdf : a.defers = [])
   (hR : R (.returned (.agg cs)) w) : bodyPost P fn R .ret a w :=
 bodyPost_ret (v := .agg cs) (results_cell_row h a.tmps w g t cs (0, 0) d hp hg hu hd hi) hdf hR
/-! ### A slice that reads as a list, nil let in -/
theorem block_of_add (a : Addr) (n : Nat) : (a.add n).block = a.block := by unfold Addr.add; split <;> rfl
theorem add_of_add (a : Addr) (i j : Nat) : (a.add i).add j = a.add (i + j) := by
 unfold Addr.add
 by_cases hi : i = 0 <;> by_cases hj : j = 0 <;> simp [hi, hj, Nat.add_assoc]
def Reads (w : World) (B size : Nat) (A : Option Addr) (n : Nat) (xs : List Value) : Prop :=
 xs.length = n * size ∧ (0 < n → ∃ ad, A = some ad ∧ ad.block < B ∧ ∀ j u, xs[j]? = some u → w.cell? (ad.add j) = some u)
section
variable {w w' : World} {B B' size n : Nat} {A : Option Addr} {xs : List Value}
theorem Reads.none_ : Reads w B size A 0 [] := ⟨by simp, fun h => absurd h (by omega)⟩
theorem Reads.at_ {k : Nat} (h : Reads w B 1 A n xs) (hk : k < n) : ∃ ad u, A = some ad ∧ ad.block < B ∧ xs[k]? = some u ∧ w.cell? (ad.add k) = some u := by
 obtain ⟨ad, e, hb, hc⟩ := h.2 (by omega)
 have hl : k < xs.length := by have := h.1; omega
 exact ⟨ad, xs[k], e, hb, List.getElem?_eq_getElem hl, hc k _ (List.getElem?_eq_getElem hl)⟩
theorem Reads.keep (h : Reads w B size A n xs) (hk : ∀ p : Addr, p.block < B → w'.cell? p = w.cell? p) : Reads w' B size A n xs :=
 ⟨h.1, fun hn => by
   obtain ⟨ad, e, hb, hc⟩ := h.2 hn
   exact ⟨ad, e, hb, fun j u hu => (hk _ (by rw [block_of_add]; exact hb)).trans (hc j u hu)⟩⟩
theorem Reads.more (h : Reads w B size A n xs) (hB : B ≤ B') : Reads w B' size A n xs :=
 ⟨h.1, fun hn => by
   obtain ⟨ad, e, hb, hc⟩ := h.2 hn
   exact ⟨ad, e, by omega, hc⟩⟩
theorem Reads.below (h : Reads w B size A n xs) (hb : Below B w w') : Reads w' B size A n xs := h.keep fun _ hp => hb.cell hp
theorem Reads.below' (h : Reads w B size A n xs) {C : Nat} (hb : Below C w w') (hC : B ≤ C) : Reads w' B size A n xs := h.below (hb.mono hC)
theorem Reads.drew (h : Reads w B size A n xs) : Reads w.drew B size A n xs := h
theorem Reads.alloc (h : Reads w B size A n xs) (hB : B ≤ w.heap.size) (o : Obj) : Reads (w.alloc o) B size A n xs := h.keep fun p hp => World.cell?_alloc_lt w o p (by omega)
theorem Reads.setCell (h : Reads w B size A n xs) {p : Addr} (hB : B ≤ p.block) (u : Value) : Reads (w.setCell p u) B size A n xs :=
 h.keep fun q hq => World.cell?_setCell_other w p q u (fun e => by subst e; omega)
theorem Reads.grown (h : Reads w B size A n xs) {row : Option Nat} (hg : w.grownBy w' row) (hB : B ≤ w.heap.size) (hr : ∀ g, row = some g → B ≤ g) : Reads w' B size A n xs :=
 h.keep fun p hp => World.cell?_of_block (hg.block p.block (by omega) (fun e => by have := hr _ e.symm; omega))
theorem Reads.grown2 (h : Reads w B size A n xs) {lo : Nat} (hlo : ∀ ad, A = some ad → lo ≤ ad.block) {row : Option Nat} (hg : w.grownBy w' row) (hB : B ≤ w.heap.size) (hr : ∀ g, row = some g → g < lo ∨ B ≤ g) : Reads w' B size A n xs :=
 ⟨h.1, fun hn => by
   obtain ⟨ad, e, hb, hc⟩ := h.2 hn
   exact ⟨ad, e, hb, fun j u hu => (World.cell?_of_block (hg.block _ (by rw [block_of_add]; omega) (fun e' => by
     have h1 := hr _ e'.symm
     rw [block_of_add] at h1
     have := hlo ad e
     omega))).trans (hc j u hu)⟩⟩
theorem Reads.cut (h : Reads w B size A n xs) {k cap : Nat} (hk : k ≤ n) (hc : n ≤ cap) :
   Reads w B size (if cap = k then A else A.map (·.add (k * size))) (n - k) (xs.drop (k * size)) := by
 refine ⟨by rw [List.length_drop, h.1, Nat.sub_mul], fun hn => ?_⟩
 obtain ⟨ad, rfl, hb, hcell⟩ := h.2 (by omega)
 rw [if_neg (by omega)]
 refine ⟨ad.add (k * size), rfl, by rw [block_of_add]; exact hb, fun j u hu => ?_⟩
 rw [add_of_add]
 exact hcell _ u (by rw [← hu, List.getElem?_drop])
theorem Reads.pre (h : Reads w B size A n xs) {k : Nat} (hk : k ≤ n) : Reads w B size A k (xs.take (k * size)) := by
 have hm : k * size ≤ n * size := Nat.mul_le_mul_right size hk
 refine ⟨by rw [List.length_take, h.1]; omega, fun hn => ?_⟩
 obtain ⟨ad, e, hb, hc⟩ := h.2 (by omega)
 refine ⟨ad, e, hb, fun j u hu => hc j u ?_⟩
 rw [List.getElem?_take] at hu
 split at hu
 · exact hu
 · cases hu
theorem Reads.of_own {base : Nat} {e : TypeId} {c : Nat} (h : w.ownsRow base e size (.slice A n c) n xs) : Reads w w.heap.size size A n xs := by
 refine ⟨h.1, fun hn => ?_⟩
 obtain ⟨g, cap, hv, _, hlt⟩ := h.form hn
 have hA : A = some ⟨g, 0, none⟩ := by injection hv
 subst hA
 exact ⟨_, rfl, hlt, h.cells (g := g) rfl⟩
end
theorem Reads.el {α : Type} {f : α → Value} {xs : List α} {w : World} {B : Nat} {A : Option Addr} (h : Reads w B 1 A xs.length (xs.map f)) {k : Nat} (hk : k < xs.length) :
   ∃ ad, A = some ad ∧ ad.block < B ∧ w.cell? (ad.add k) = some (f xs[k]) := by
 obtain ⟨ad, u, e, hb, hx, hc⟩ := h.at_ hk
 rw [List.getElem?_map, List.getElem?_eq_getElem hk] at hx
 exact ⟨ad, e, hb, by rw [hc]; exact hx.symm⟩
def IsSl (w : World) (B size : Nat) (v : Value) (n : Nat) (xs : List Value) : Prop := ∃ A c, v = .slice A n c ∧ n ≤ c ∧ c ≤ maxLen ∧ Reads w B size A n xs
theorem IsSl.below {w w' : World} {B C size n : Nat} {v : Value} {xs : List Value} (h : IsSl w B size v n xs) (hb : Below C w w') (hC : B ≤ C) : IsSl w' B size v n xs :=
 let ⟨A, c, e, h1, h2, h3⟩ := h; ⟨A, c, e, h1, h2, h3.below' hb hC⟩
theorem IsSl.more {w : World} {B C size n : Nat} {v : Value} {xs : List Value} (h : IsSl w B size v n xs) (hC : B ≤ C) : IsSl w C size v n xs :=
 let ⟨A, c, e, h1, h2, h3⟩ := h; ⟨A, c, e, h1, h2, h3.more hC⟩
set_option maxHeartbeats 400000
/-! ### The plain words -/
def smallB (c : UInt8) : Bool := decide (97 ≤ (c.toNat : Int)) && decide ((c.toNat : Int) ≤ 122)
def capB (c : UInt8) : Bool := decide (65 ≤ (c.toNat : Int)) && decide ((c.toNat : Int) ≤ 90)
def inR (x lo hi : Int) : Bool := decide (lo ≤ x) && decide (x ≤ hi)
def isWordB (l : Str) : Bool := l.all smallB && inR l.length 1 12
def longB (l : Str) : Bool := decide (2 ≤ l.length) && isWordB l
def sLt (a b : Str) : Bool := Op.bytesLess a b
def incB : List Str → Bool
 | [] => true
 | [_] => true
 | a :: b :: r => sLt a b && incB (b :: r)
def lexFrom : Option Str → List Str → Bool
 | _, [] => true
 | none, a :: r => longB a && lexFrom (some a) r
 | some q, a :: r => longB a && sLt q a && lexFrom (some a) r
def prevOf (ws : List Str) (k : Nat) : Option Str := if k = 0 then none else ws[k - 1]?
def lexB (ws : List Str) : Bool := lexFrom none ws && decide (ws.length ≤ 200)
theorem sLe_eq : ∀ x y : Str, (Op.bytesLess x y || x == y) = !Op.bytesLess y x
 | [], [] => rfl
 | [], _ :: _ => rfl
 | _ :: _, [] => rfl
 | a :: x, b :: y => by
   have ih := sLe_eq x y
   simp only [Op.bytesLess, List.cons_beq_cons]
   by_cases h : a = b
   · subst h
     have : decide (a < a) = false := by simp
     simp only [this, beq_self_eq_true, Bool.true_and, Bool.false_or]
     exact ih
   · have h1 : (a == b) = false := by simp [h]
     have h2 : (b == a) = false := by simp [Ne.symm h]
     have h3 : decide (a < b) = !decide (b < a) := by
       rw [Bool.eq_iff_iff]
       simp only [decide_eq_true_eq, Bool.not_eq_true', decide_eq_false_iff_not, UInt8.lt_iff_toNat_lt]
       have : a.toNat ≠ b.toNat := fun e => h (UInt8.toNat_inj.1 e)
       omega
     simp [h1, h2, h3]
/-! ### Letters -/
theorem small_any (c : UInt8) (w : World) :
   Calls Tryz.prog 299 #[bv c] w fun e w' => e = .returned (.bool (smallB c)) ∧ w = w' := by
 go_enter Tryz.func299, Tryz.ntmps299
 go_wp2
 all_goals (go_ret; exact ⟨by unfold smallB; congr 2; simp [*] <;> omega, rfl⟩)
theorem capital_any (c : UInt8) (w : World) :
   Calls Tryz.prog 252 #[bv c] w fun e w' => e = .returned (.bool (capB c)) ∧ w = w' := by
 go_enter Tryz.func252, Tryz.ntmps252
 go_wp2
 all_goals (go_ret; exact ⟨by unfold capB; congr 2; simp [*] <;> omega, rfl⟩)
theorem l01Small_any (c : UInt8) (w : World) :
   Calls Tryz.prog 204 #[bv c] w fun e w' => e = .returned (.bool (smallB c)) ∧ w = w' := by
 go_enter Tryz.func204, Tryz.ntmps204
 go_wp2
 all_goals (go_ret; exact ⟨by unfold smallB; congr 2; simp [*] <;> omega, rfl⟩)
theorem l03Capital_any (c : UInt8) (w : World) :
   Calls Tryz.prog 153 #[bv c] w fun e w' => e = .returned (.bool (capB c)) ∧ w = w' := by
 go_enter Tryz.func153, Tryz.ntmps153
 go_wp2
 all_goals (go_ret; exact ⟨by unfold capB; congr 2; simp [*] <;> omega, rfl⟩)
theorem l00In_any (x lo hi : Int) (w : World) :
   Calls Tryz.prog 143 #[.int .i64 x, .int .i64 lo, .int .i64 hi] w fun e w' => e = .returned (.bool (inR x lo hi)) ∧ w = w' := by
 go_enter Tryz.func143, Tryz.ntmps143
 go_wp2
 all_goals (go_ret; exact ⟨by unfold inR; congr 2; simp [*] <;> omega, rfl⟩)
theorem within_any (x lo hi : Int) (w : World) :
   Calls Tryz.prog 155 #[.int .i64 x, .int .i64 lo, .int .i64 hi] w fun e w' => e = .returned (.bool (inR x lo hi)) ∧ w = w' := by
 go_enter Tryz.func155, Tryz.ntmps155
 go_wp2
 all_goals (go_ret; exact ⟨by unfold inR; congr 2; simp [*] <;> omega, rfl⟩)
/-! ### Words -/
theorem sIsWord_any (l : Str) (w : World) (hl : l.length ≤ 2 ^ 40) :
   Calls Tryz.prog 307 #[sv l] w fun e w' => e = .returned (.bool (isWordB l)) ∧ w = w' := by
 go_enter Tryz.func307, Tryz.ntmps307
 go_wp2_with (fail)
 go_loop [3] (fun i => ∃ k : Nat, k ≤ l.length ∧ i = .int .i64 k ∧ Hid (l.all smallB = (l.drop k).all smallB)) (fun i => l.length - (intOf i).toNat)
 case atStart => exact ⟨0, by omega, rfl, rfl⟩
 case round =>
   obtain ⟨k, hk, rfl, he⟩ := hrel
   by_cases hlt : k < l.length
   · have hd := Lib.hid (drop_cons l k hlt)
     cases hc : smallB l[k]
     all_goals
       go_wp2_with (go_at_call 204; refine (l01Small_any _ _).mono ?_; rintro e w' ⟨rfl, rfl⟩)
     · go_ret
       exact ⟨by rw [isWordB, he.out, hd.out, List.all_cons, hc]; simp, rfl⟩
     · go_round
       case rel => exact ⟨k + 1, by omega, by go_num, Lib.hid (by rw [he.out, hd.out, List.all_cons, hc]; simp)⟩
       case measure => simp [intOf]; omega
   · rw [drop_all l k (by omega)] at he
     go_wp2_with (go_at_call 143; refine (l00In_any _ _ _ _).mono ?_; rintro e w' ⟨rfl, rfl⟩)
     go_ret
     exact ⟨by rw [isWordB, he.out]; simp, rfl⟩
theorem l05Long_any (l : Str) (w : World) (hl : l.length ≤ 2 ^ 40) :
   Calls Tryz.prog 276 #[sv l] w fun e w' => e = .returned (.bool (longB l)) ∧ w = w' := by
 go_enter Tryz.func276, Tryz.ntmps276
 by_cases h : 1 < l.length
 · go_wp2_with (go_at_call 307; refine (sIsWord_any _ _ hl).mono ?_; rintro e w' ⟨rfl, rfl⟩)
   go_ret
   exact ⟨by unfold longB; simp; omega, rfl⟩
 · go_wp2_with (go_at_call 307; refine (sIsWord_any _ _ hl).mono ?_; rintro e w' ⟨rfl, rfl⟩)
   go_ret
   exact ⟨by unfold longB; simp; omega, rfl⟩
theorem onlySmall_any (l : Str) (w : World) (hl : l.length ≤ 2 ^ 40) :
   Calls Tryz.prog 279 #[sv l] w fun e w' => e = .returned (.bool (l.all smallB)) ∧ Below w.heap.size w w' := by
 have kb := fun (w : World) => run_bytes_of_string (P := Tryz.prog) w 9 209 5 ⟨l.toArray⟩ Tryz.underlying9 Tryz.underlying209 Tryz.underlying5
 have kc : ∀ (f : Nat × Nat) (j : Nat) (hj : j < l.length), (w.alloc (Obj.cells (bytesRow ⟨l.toArray⟩ (grownCap w l.length 0 5)) 5 f)).cell? ⟨w.heap.size, j, none⟩ = some (.int .u8 (l[j].toNat : Int)) := by
   intro f j hj
   rw [World.cell?_alloc_mark, bytesRow_at _ _ _ (by simpa using hj)]
   simp
 have kf : Below w.heap.size w (w.alloc (Obj.cells (bytesRow ⟨l.toArray⟩ (grownCap w l.length 0 5)) 5 ((bytesRow ⟨l.toArray⟩ (grownCap w l.length 0 5)).size, (bytesRow ⟨l.toArray⟩ (grownCap w l.length 0 5)).size + 1))) := (Below.refl _ _).alloc (Nat.le_refl _) _
 go_enter Tryz.func279, Tryz.ntmps279
 go_wp2_with (fail)
 generalize (bytesRow { data := l.toArray } (grownCap w l.length 0 5)) = row at *
 go_loop [8] (fun i => ∃ k : Nat, k ≤ l.length ∧ i = .int .i64 k ∧ Hid (l.all smallB = (l.drop k).all smallB)) (fun i => l.length - (intOf i).toNat)
 case atStart => exact ⟨0, by omega, rfl, rfl⟩
 case round =>
   obtain ⟨k, hk, rfl, he⟩ := hrel
   by_cases hlt : k < l.length
   · have hd := Lib.hid (drop_cons l k hlt)
     have kc1 := kc (row.size, row.size + 1) k hlt
     clear kc
     cases hc : smallB l[k]
     all_goals
       go_wp2_with (go_at_call 299; refine (small_any _ _).mono ?_; rintro e w' ⟨rfl, rfl⟩)
     · go_ret
       exact ⟨by rw [he.out, hd.out, List.all_cons, hc]; simp, kf.drew⟩
     · go_round
       case rel => exact ⟨k + 1, by omega, by go_num, Lib.hid (by rw [he.out, hd.out, List.all_cons, hc]; simp)⟩
       case measure => simp [intOf]; omega
   · rw [drop_all l k (by omega)] at he
     go_wp2
     go_ret
     exact ⟨by rw [he.out]; simp, kf.drew⟩
theorem iIsWord_any (l : Str) (w : World) (hl : l.length ≤ 2 ^ 40) :
   Calls Tryz.prog 313 #[sv l] w fun e w' => e = .returned (.bool (isWordB l)) ∧ Below w.heap.size w w' := by
 go_enter Tryz.func313, Tryz.ntmps313
 by_cases h : 1 ≤ l.length
 · by_cases h2 : l.length ≤ 12
   · go_wp2_with (go_at_call 279; refine (onlySmall_any _ _ hl).mono ?_; rintro e w' ⟨rfl, hb⟩)
     go_ret
     exact ⟨ret_bool (by unfold isWordB inR; simp; omega), hb⟩
   · go_wp2_with (go_at_call 279; refine (onlySmall_any _ _ hl).mono ?_; rintro e w' ⟨rfl, hb⟩)
     go_ret
     exact ⟨ret_bool (by unfold isWordB inR; simp; omega), Below.refl _ _⟩
 · go_wp2_with (go_at_call 279; refine (onlySmall_any _ _ hl).mono ?_; rintro e w' ⟨rfl, hb⟩)
   go_ret
   exact ⟨ret_bool (by unfold isWordB inR; simp; omega), Below.refl _ _⟩
theorem isLong_any (l : Str) (w : World) (hl : l.length ≤ 2 ^ 40) :
   Calls Tryz.prog 281 #[sv l] w fun e w' => e = .returned (.bool (longB l)) ∧ Below w.heap.size w w' := by
 go_enter Tryz.func281, Tryz.ntmps281
 by_cases h : 2 ≤ l.length
 · go_wp2_with (go_at_call 313; refine (iIsWord_any _ _ hl).mono ?_; rintro e w' ⟨rfl, hb⟩)
   go_ret
   exact ⟨ret_bool (by unfold longB; simp; omega), hb⟩
 · go_wp2_with (go_at_call 313; refine (iIsWord_any _ _ hl).mono ?_; rintro e w' ⟨rfl, hb⟩)
   go_ret
   exact ⟨ret_bool (by unfold longB; simp; omega), Below.refl _ _⟩
theorem incB_drop (ws : List Str) (k : Nat) (hk : 1 ≤ k) (h : k < ws.length) : incB (ws.drop (k - 1)) = (sLt ws[k - 1] ws[k] && incB (ws.drop k)) := by
 rw [drop_cons ws (k - 1) (by omega)]
 have e : ws.drop (k - 1 + 1) = ws[k] :: ws.drop (k + 1) := by rw [show k - 1 + 1 = k from by omega]; exact drop_cons ws k h
 rw [e, incB, ← drop_cons ws k h]
theorem incB_end (ws : List Str) (k : Nat) (hk : 1 ≤ k) (h : ws.length ≤ k) : incB (ws.drop (k - 1)) = true := by
 by_cases h1 : k - 1 < ws.length
 · rw [drop_cons ws (k - 1) h1, drop_all ws _ (by omega)]; rfl
 · rw [drop_all ws _ (by omega)]; rfl
theorem lexFrom_eq (ws : List Str) : lexFrom none ws = (incB ws && ws.all longB) := by
 have key : ∀ (r : List Str) (a : Str), lexFrom (some a) r = (incB (a :: r) && r.all longB) := by
   intro r
   induction r with
   | nil => intro a; rfl
   | cons b r ih => intro a; simp only [lexFrom, ih, incB, List.all_cons]; cases longB b <;> cases sLt a b <;> simp
 cases ws with
 | nil => rfl
 | cons a r => simp only [lexFrom, key, List.all_cons]; cases longB a <;> simp
theorem below_drewN {B : Nat} {a w : World} (h : Below B a w) (n : Nat) : Below B a (w.drewN n) := ⟨h.os, h.tape, h.output, h.size, h.block⟩
theorem increasing_any (A : Option Addr) (c : Nat) (ws : List Str) (w : World) (hr : Reads w w.heap.size 1 A ws.length (ws.map sv)) (hn : ws.length ≤ 2 ^ 40) :
   Calls Tryz.prog 280 #[.slice A ws.length c] w fun e w' => e = .returned (.bool (incB ws)) ∧ Below w.heap.size w w' := by
 go_enter Tryz.func280, Tryz.ntmps280
 go_wp2_with (fail)
 go_loopw [3] (fun i wr => ∃ k : Nat, 1 ≤ k ∧ k ≤ ws.length + 1 ∧ i = .int .i64 k ∧ Hid (incB ws = incB (ws.drop (k - 1))) ∧ Below w.heap.size w wr) (fun i _ => ws.length + 1 - (intOf i).toNat)
 case atStart => exact ⟨1, by omega, by omega, rfl, rfl, Below.refl _ _⟩
 case round =>
   obtain ⟨k, hk1, hk2, rfl, he, hb⟩ := hrel
   by_cases hlt : k < ws.length
   · obtain ⟨ad, rfl, _, hc0⟩ := (hr.below hb).el (k := k - 1) (by omega)
     obtain ⟨ad', e1, _, hc1⟩ := (hr.below hb).el (k := k) hlt
     cases e1
     have hd := Lib.hid (incB_drop ws k hk1 hlt)
     generalize ws[k - 1] = x at *
     generalize ws[k] = y at *
     cases hxy : Op.bytesLess x y
     · go_wp2_with (fail)
       go_quiet (fail)
       go_wp2
       go_ret
       exact ⟨ret_bool (by rw [he.out, hd.out, sLt, hxy]; rfl), below_drewN hb _⟩
     · go_wp2_with (fail)
       go_quiet (fail)
       go_wp2
       go_roundw
       case rel => exact ⟨k + 1, by omega, by omega, by go_num, Lib.hid (by rw [he.out, hd.out, sLt, hxy]; rfl), below_drewN hb _⟩
       case measure => simp [intOf]; omega
   · have he2 := Lib.hid (incB_end ws k hk1 (by omega))
     go_wp2
     go_ret
     exact ⟨ret_bool (by rw [he.out, he2.out]), hb⟩
theorem iValidLexicon_any (A : Option Addr) (c : Nat) (ws : List Str) (w : World) (hr : Reads w w.heap.size 1 A ws.length (ws.map sv)) (hn : ws.length ≤ 2 ^ 40) (hs : ∀ x ∈ ws, x.length ≤ 2 ^ 40) :
   Calls Tryz.prog 208 #[.agg #[.slice A ws.length c]] w fun e w' => e = .returned (.bool (lexB ws)) ∧ Below w.heap.size w w' := by
 have hlex : lexB ws = (incB ws && ws.all longB && decide (ws.length ≤ 200)) := by unfold lexB; rw [lexFrom_eq]
 have Hlex := Lib.hid hlex
 clear hlex
 by_cases h200 : 200 < ws.length
 · go_enter Tryz.func208, Tryz.ntmps208
   go_wp2_with (fail)
   go_ret
   exact ⟨ret_bool (by rw [Hlex.out]; simp; omega), (Below.refl _ _).alloc (Nat.le_refl _) _⟩
 cases hinc : incB ws
 · go_enter Tryz.func208, Tryz.ntmps208
   go_wp2_with (go_at_call 280; refine (increasing_any _ _ ws _ (hr.alloc (Nat.le_refl _) _ |>.more (by simp)) hn).mono ?_; rintro e w' ⟨rfl, hb⟩)
   go_ret
   exact ⟨ret_bool (by rw [Hlex.out, hinc]; simp), ((Below.refl _ _).alloc (Nat.le_refl _) _).trans (hb.mono (by simp))⟩
 · go_enter Tryz.func208, Tryz.ntmps208
   go_wp2_with (go_at_call 280; refine (increasing_any _ _ ws _ (hr.alloc (Nat.le_refl _) _ |>.more (by simp)) hn).mono ?_; rintro e w' ⟨rfl, hb⟩; have hbc := bcell hb)
   have hr1 : Reads w' w.heap.size 1 A ws.length (ws.map sv) := (hr.alloc (Nat.le_refl _) _).below' hb (by simp)
   have hb1 : Below w.heap.size w w' := ((Below.refl _ _).alloc (Nat.le_refl _) _).trans (hb.mono (by simp))
   clear hbc hb
   go_loopw [18] (fun i wr => ∃ k : Nat, k ≤ ws.length ∧ i = .int .i64 k ∧ Hid (ws.all longB = (ws.drop k).all longB) ∧ Below w.heap.size w wr) (fun i _ => ws.length - (intOf i).toNat)
   case atStart => exact ⟨0, by omega, rfl, rfl, hb1⟩
   case round =>
     obtain ⟨k, hk, rfl, he, hb2⟩ := hrel
     by_cases hlt : k < ws.length
     · obtain ⟨ad, rfl, _, hc0⟩ := (hr.below hb2).el (k := k) hlt
       have hd := Lib.hid (drop_cons ws k hlt)
       have hx := hs ws[k] (List.getElem_mem _)
       generalize ws[k] = x at *
       cases hxl : longB x
       all_goals
         go_wp2_with (go_at_call 281; refine (isLong_any _ _ hx).mono ?_; rintro e w3 ⟨rfl, hb3⟩)
       · go_ret
         exact ⟨ret_bool (by rw [Hlex.out, he.out, hd.out, List.all_cons, hxl]; simp), hb2.trans (hb3.mono hb2.size)⟩
       · go_roundw
         case rel => exact ⟨k + 1, by omega, by go_num, Lib.hid (by rw [he.out, hd.out, List.all_cons, hxl]; simp), hb2.trans (hb3.mono hb2.size)⟩
         case measure => simp [intOf]; omega
     · rw [drop_all ws k (by omega)] at he
       go_wp2
       go_ret
       exact ⟨ret_bool (by rw [Hlex.out, hinc, he.out]; simp; omega), hb2⟩
theorem l05Ok_any (A : Option Addr) (c : Nat) (ws : List Str) (p : Addr) (w : World) (hp : w.cell? p = some (.slice A ws.length c)) (hr : Reads w w.heap.size 1 A ws.length (ws.map sv)) (hn : ws.length ≤ 2 ^ 40) (hs : ∀ x ∈ ws, x.length ≤ 2 ^ 40) :
   Calls Tryz.prog 205 #[.pointer (some p)] w fun e w' => e = .returned (.bool (lexB ws)) ∧ Below w.heap.size w w' := by
 go_enter Tryz.func205, Tryz.ntmps205
 go_wp2_with (fail)
 go_loopw [3] (fun i wr => ∃ k : Nat, k ≤ ws.length ∧ i = .int .i64 k ∧ Hid (lexFrom none ws = lexFrom (prevOf ws k) (ws.drop k)) ∧ Below w.heap.size w wr) (fun i _ => ws.length - (intOf i).toNat)
 case atStart => exact ⟨0, by omega, rfl, rfl, Below.refl _ _⟩
 case round =>
   obtain ⟨k, hk, rfl, he, hb2⟩ := hrel
   have hp1 : wr.cell? p = some (.slice A ws.length c) := (hb2.cell (World.block_lt_of_cell? w p hp)).trans hp
   by_cases hlt : k < ws.length
   · obtain ⟨ad, rfl, _, hc0⟩ := (hr.below hb2).el (k := k) hlt
     have hd := Lib.hid (drop_cons ws k hlt)
     have hx := hs ws[k] (List.getElem_mem _)
     cases hxl : longB ws[k]
     · go_wp2_with (fail)
       go_quiet ((go_at_call 276; exact Calls.quiet_of_same ((l05Long_any _ _ hx).mono fun _ _ ⟨a, b⟩ => ⟨a, b.symm⟩)))
       go_wp2
       go_ret
       exact ⟨ret_bool (by rw [lexB, he.out, hd.out]; cases prevOf ws k <;> simp [lexFrom, hxl]), below_drewN hb2 _⟩
     · by_cases h0 : 0 < k
       · obtain ⟨ad', e1, _, hc1⟩ := (hr.below hb2).el (k := k - 1) (by omega)
         cases e1
         have hpv : Hid (prevOf ws k = some ws[k - 1]) := by
           unfold prevOf Hid; rw [if_neg (by omega)]; exact List.getElem?_eq_getElem (by omega)
         generalize ws[k - 1] = y at *
         generalize hxe : ws[k] = x at *
         have hxe' := Lib.hid hxe
         clear hxe
         have hle := sLe_eq x y
         cases hxy : Op.bytesLess y x
         all_goals rw [hxy] at hle
         · go_wp2_with (fail)
           go_quiet ((go_at_call 276; exact Calls.quiet_of_same ((l05Long_any _ _ hx).mono fun _ _ ⟨a, b⟩ => ⟨a, b.symm⟩)))
           go_wp2
           go_ret
           exact ⟨ret_bool (by rw [lexB, he.out, hd.out, hpv.out]; simp [lexFrom, hxl, sLt, hxy]), below_drewN hb2 _⟩
         · go_wp2_with (fail)
           go_quiet ((go_at_call 276; exact Calls.quiet_of_same ((l05Long_any _ _ hx).mono fun _ _ ⟨a, b⟩ => ⟨a, b.symm⟩)))
           go_wp2
           go_roundw
           case rel => exact ⟨k + 1, by omega, by go_num, Lib.hid (by rw [he.out, hd.out, hpv.out, lexFrom, hxl, sLt, hxy]; simp [prevOf, hlt, hxe'.out]), below_drewN hb2 _⟩
           case measure => simp [intOf]; omega
       · have hk0 : k = 0 := by omega
         have hg : decide ((0 : Int) < (k : Int)) = false := by simp; omega
         have hpv : Hid (prevOf ws k = none) := by unfold prevOf Hid; rw [if_pos hk0]
         have hk0' := Lib.hid hk0
         clear hk0
         generalize hxe : ws[k] = x at *
         have hxe' := Lib.hid hxe
         clear hxe
         go_wp2_with (fail)
         go_quiet ((go_at_call 276; exact Calls.quiet_of_same ((l05Long_any _ _ hx).mono fun _ _ ⟨a, b⟩ => ⟨a, b.symm⟩)))
         go_wp2
         go_roundw
         case rel => exact ⟨k + 1, by omega, by go_num, Lib.hid (by rw [he.out, hd.out, hpv.out, lexFrom, hxl]; simp [prevOf, hlt, hxe'.out]), below_drewN hb2 _⟩
         case measure => simp [intOf]; omega
   · rw [drop_all ws k (by omega)] at he
     go_wp2
     go_ret
     exact ⟨ret_bool (by rw [lexB, he.out]; cases prevOf ws k <;> simp [lexFrom] <;> omega), hb2⟩
end Go.Proofs.YtdkckikobefekaaGreatDoor
