/-
  Results told in other words: nil as an empty row; two preconditions joined; What a turn with a play answers, of the impl package.
  Conditions: as each part below says.
-/
import Derived.Test.YtdojdfminchlaaaGreatDoorM21
import Derived.Test.YtdojdfminchlaaaGreatDoorM29
import Derived.Test.YtdojdfminchlaaaGreatDoorM30
set_option linter.unusedSimpArgs false
set_option linter.unusedVariables false
/-
  Results told in other words: nil as an empty row; two preconditions joined.
  Conditions: none.
-/
namespace Go.Proofs.YtdojdfminchlaaaGreatDoor
namespace Ax
set_option maxRecDepth 100000
set_option maxHeartbeats 2000000
section
variable {P : Program} {f : FuncId} {α : Type}
theorem FOk.casesE {A : Args α} {pre1 pre2 pre : α → Prop} {v1 v2 v : α → PV} {e1 e2 e : α → AH} (h1 : FOk P f (fsp A pre1 v1 e1)) (h2 : FOk P f (fsp A pre2 v2 e2)) (hd : ∀ a, pre a → (pre1 a ∧ v1 a = v a ∧ e1 a = e a) ∨ (pre2 a ∧ v2 a = v a ∧ e2 a = e a)) : FOk P f (fsp A pre v e) := by
  refine ⟨h1.fn, fun args out hs hp => ?_⟩
  unfold fsp at hs
  split at hs
  · rename_i a ha
    cases hs
    rcases hd a (hp _ (List.mem_cons_self ..)) with ⟨g1, g2, g3⟩ | ⟨g1, g2, g3⟩
    · have := h1.run args ⟨[pre1 a], v1 a, e1 a⟩ (by unfold fsp; rw [ha]) (fun p hm => by rw [List.mem_singleton.1 hm]; exact g1)
      rw [g2, g3] at this
      intro w e vals hz hl
      refine (this w e vals hz hl).mono ?_
      rintro en w' ⟨u, e', rfl, hP⟩
      exact ⟨u, e', rfl, by cases hP; constructor <;> assumption⟩
    · have := h2.run args ⟨[pre2 a], v2 a, e2 a⟩ (by unfold fsp; rw [ha]) (fun p hm => by rw [List.mem_singleton.1 hm]; exact g1)
      rw [g2, g3] at this
      intro w e vals hz hl
      refine (this w e vals hz hl).mono ?_
      rintro en w' ⟨u, e', rfl, hP⟩
      exact ⟨u, e', rfl, by cases hP; constructor <;> assumption⟩
  · cases hs
theorem FOk.cases {A : Args α} {pre1 pre2 pre : α → Prop} {v1 v2 v : α → PV} (h1 : FOk P f (fsp A pre1 v1)) (h2 : FOk P f (fsp A pre2 v2)) (hd : ∀ a, pre a → (pre1 a ∧ v1 a = v a) ∨ (pre2 a ∧ v2 a = v a)) : FOk P f (fsp A pre v) :=
  FOk.casesE h1 h2 fun a ha => (hd a ha).imp (fun h => ⟨h.1, h.2, rfl⟩) (fun h => ⟨h.1, h.2, rfl⟩)
/-- Empty rows of one's own. -/
def nilH : List (Nat × Ob) → Bool
  | [] => true
  | (_, .own _ [] _) :: r => nilH r
  | _ => false
theorem nilH_get : ∀ {H : AH} {k : Nat} {o : Ob}, nilH H = true → H.get k = some o → ∃ sh t, o = .own sh [] t
  | [], k, o, _, h => by simp [AH.get] at h
  | (j, x) :: r, k, o, hn, h => by
    unfold nilH at hn
    unfold AH.get at h
    split at hn
    · rename_i h0; cases h0
    · rename_i h0
      cases h0
      split at h
      · cases h; exact ⟨_, _, rfl⟩
      · exact nilH_get hn h
    · cases hn
/-- Nil slices of a result told as empty rows of one's own. -/
theorem FOk.own {A : Args α} {pre : α → Prop} {v v' : α → PV} {H : AH} (h : FOk P f (fsp A pre v)) (hH : nilH H = true)
    (hd : ∀ a w e u, (∀ k, (H.get k).isSome = true → e.on k ∧ e.adr k = none ∧ e.len k = 0 ∧ e.cap k = 0) → R w e (v a) u → R w e (v' a) u) : FOk P f (fsp A pre v' fun _ => H) := by
  refine ⟨h.fn, fun args out hs hp w e vals hz hl => ?_⟩
  unfold fsp at hs
  split at hs
  · rename_i a ha
    cases hs
    refine (h.run args ⟨[pre a], v a, []⟩ (by unfold fsp; rw [ha]) hp w e vals hz hl).mono ?_
    rintro en w' ⟨u, e', rfl, hP⟩
    have hoff : ∀ k, ¬ e'.on k := fun k hk => (hP.new k hk).elim (fun h => h) (fun h => by have h2 := h.2; simp [AH.get] at h2)
    have hle : e'.Le ⟨fun _ => none, fun _ => 0, fun _ => 0, e'.fz, fun k => (H.get k).isSome = true, fun k => (H.get k).isSome = true⟩ := ⟨fun k hk => (hoff k hk).elim, fun k hk => (hoff k hk).elim, fun k hk => (hoff k hk).elim, fun k hk => (hoff k hk).elim, fun _ h => h⟩
    have hb : ∀ k b, ¬ Env.blk ⟨fun _ => none, fun _ => 0, fun _ => 0, e'.fz, fun k => (H.get k).isSome = true, fun k => (H.get k).isSome = true⟩ k b := fun k b ⟨x, hx, _⟩ => by cases hx
    refine ⟨u, _, rfl, hd a _ _ _ (fun k hk => ⟨hk, rfl, rfl, rfl⟩) (R_mono (fun _ _ => rfl) hle _ _ hP.val), ⟨fun k hk => hk.elim, fun k hk => hk.elim, fun k hk => hk.elim, fun k hk => hk.elim, fun b hb => hP.le.fz b hb⟩,
      ⟨fun b hb => hP.fz.fz b hb, fun k b _ _ hk => (hb k b hk).elim⟩, fun k o ho => ?_, fun k hk => .inr ⟨Nat.zero_le _, hk⟩, fun k hk => .inr ⟨fun h => h, hk, fun b h => (hb k b h).elim⟩, fun k hk => hk.elim, fun k k' b _ _ _ _ hk => (hb k b hk).elim, ⟨hP.chg.os, hP.chg.tape, hP.chg.output, hP.chg.size, fun b hb _ => hP.chg.block b hb fun ⟨k, hk, _⟩ => hk.elim⟩⟩
    obtain ⟨sh, t, rfl⟩ := nilH_get hH ho
    exact ⟨⟨rfl, .inl ⟨rfl, rfl, rfl⟩⟩, by show (H.get k).isSome = true; rw [ho]; rfl, fun _ => by show (H.get k).isSome = true; rw [ho]; rfl⟩
  · cases hs
theorem nil_O {w : World} {e : Env} {k : Nat} {u : Value} (h : e.on k ∧ e.adr k = none ∧ e.len k = 0 ∧ e.cap k = 0) (hr : R w e .esl u) : R w e (.osl k) u := by
  unfold R at *
  exact ⟨h.1, by rw [h.2.1, h.2.2.1, h.2.2.2]; exact hr⟩
/-- Lists of values, one by one. -/
inductive Fol (w : World) (e : Env) : List PV → List PV → Prop
  | nil : Fol w e [] []
  | cons {p q : PV} {l r : List PV} (h : ∀ u, R w e p u → R w e q u) (t : Fol w e l r) : Fol w e (p :: l) (q :: r)
theorem Rs_fol {w : World} {e : Env} : ∀ {l r : List PV}, Fol w e l r → ∀ {vs : List Value}, Rs w e l vs → Rs w e r vs
  | _, _, .nil, _, h => h
  | _, _, .cons h t, vs, hs => by
    unfold Rs at hs ⊢
    obtain ⟨u, us, rfl, h1, h2⟩ := hs
    exact ⟨u, us, rfl, h u h1, Rs_fol t h2⟩
theorem agg_fol {w : World} {e : Env} {l r : List PV} (h : Fol w e l r) : ∀ u, R w e (.agg l) u → R w e (.agg r) u := fun u hr => by
  unfold R at hr ⊢
  obtain ⟨vs, rfl, h1⟩ := hr
  exact ⟨vs, rfl, Rs_fol h h1⟩
theorem tup_fol {w : World} {e : Env} {l r : List PV} (h : Fol w e l r) : ∀ u, R w e (.tup l) u → R w e (.tup r) u := fun u hr => by
  unfold R at hr ⊢
  obtain ⟨vs, rfl, h1⟩ := hr
  exact ⟨vs, rfl, Rs_fol h h1⟩
end
theorem esl_fol {w : World} {e : Env} (h : ∀ k, ((gmH6 gm0).get k).isSome = true → e.on k ∧ e.adr k = none ∧ e.len k = 0 ∧ e.cap k = 0) : Fol w e (gmK gm0 .esl .esl .esl .esl .esl .esl) (gmO6 gm0) := by
  unfold gmO6 gmK
  repeat' first
    | exact .nil
    | refine .cons ?_ ?_
    | exact fun _ h => h
    | exact fun _ hr => nil_O (h _ rfl) hr
end Ax
end Go.Proofs.YtdojdfminchlaaaGreatDoor
/-
  What a turn with a play answers, of the impl package.
  Conditions: none.
-/
namespace Go.Proofs.YtdojdfminchlaaaGreatDoor
namespace Ax
set_option maxRecDepth 100000
set_option maxHeartbeats 2000000
section
variable {g : Gm} {q : Pl} {n : Int}
theorem bag_eq (hG : PyG g n) (hC : PyC g q) : pBag g q = g.bag.drop (drawN g.bag (restT g q)) := by
  unfold pBag frB
  rw [hG.ok.bag, hC.rk, td_nat hC.rk]; rfl
theorem drw_eq (hC : PyC g q) : pDrw g q = g.bag.take (drawN g.bag (restT g q)) := by
  unfold pDrw
  rw [td_nat hC.rk]
theorem p1_eq (hG : PyG g n) (hC : PyC g q) : p1 g q n = turn1 g q n := by
  unfold p1 turn1 pRks pScs pClk pCel pScore
  rw [rack_eq hG hC, bag_eq hG hC, drw_eq hC]
theorem pG_eq (hG : PyG g n) (hC : PyC g q) : pG g q n = turnG g q n := by
  have e := p1_eq hG hC
  have e2 : pEnd g q = (g.rule == 0 && (isort (restT g q ++ g.bag.take (drawN g.bag (restT g q)))).isEmpty) := by
    unfold pEnd
    rw [rack_eq hG hC]
  have e3 : pG g q n = { p1 g q n with scores := setS (p1 g q n) (pEnd g q), over := ovB g (pEnd g q) } := rfl
  rw [e3, e, e2]
  unfold turnG
  by_cases h : g.rule = 0 ∧ (isort (restT g q ++ g.bag.take (drawN g.bag (restT g q)))).isEmpty = true
  · rw [if_pos h, h.2, show (g.rule == 0) = true by simpa using h.1]
    unfold setS ovB settleG setSc
    simp
  · rw [if_neg h]
    have h2 : (g.rule == 0 && (isort (restT g q ++ g.bag.take (drawN g.bag (restT g q)))).isEmpty) = false := by
      rw [Bool.eq_false_iff]
      intro h3
      rw [Bool.and_eq_true, beq_iff_eq] at h3
      exact h h3
    rw [h2]
    unfold setS ovB
    simp [turn1]
end
def sp_PlayTurn (p : Pr) : FSpec := fsp (ac (aA aGm) (ac (aA aPl) (a1 aI))) (fun (g, q, n) => PtP g q) (fun (g, q, n) => .tup [.agg (gmO6 (turnR g q n)), .i .i64 (turnS' g q n), .i .i64 (turnC g q n)]) (fun (g, q, n) => gmH6 (turnR g q n))
def spPtN (p : Pr) : FSpec := fsp (ac (aA aGm) (ac (aA aPl) (a1 aI))) (fun (g, q, n) => PtN g q n) (fun (g, q, n) => .tup [.agg (gmO6 gm0), .i .i64 0, .i .i64 (turnC g q n)]) (fun _ => gmH6 gm0)
theorem okPtN : FOk Tryz.prog 10 (spPtN std) := FOk.own ok_i_PlayTurn_n rfl fun ⟨g, q, n⟩ w e u h hr =>
  tup_fol (.cons (agg_fol (esl_fol h)) (.cons (fun _ h => h) (.cons (fun _ h => h) .nil))) u hr
theorem ok_PlayTurn : FOk Tryz.prog 10 (sp_PlayTurn std) := FOk.casesE ok_i_PlayTurn_y okPtN fun ⟨g, q, n⟩ hp => by
  by_cases hc : turnC g q n = 0
  · obtain ⟨hG, hC⟩ := turn_of hc
    refine .inl ⟨⟨hp, hc⟩, ?_, ?_⟩
    · show PV.tup [.agg (gmO6 (pG g q n)), .i .i64 (pScore g q), .i .i64 0] = .tup [.agg (gmO6 (turnR g q n)), .i .i64 (turnS' g q n), .i .i64 (turnC g q n)]
      unfold turnR turnS'
      rw [if_pos hc, if_pos hc, hc, pG_eq hG hC]; rfl
    · show gmH6 (pG g q n) = gmH6 (turnR g q n)
      unfold turnR
      rw [if_pos hc, pG_eq hG hC]
  · refine .inr ⟨⟨hp, hc⟩, ?_, ?_⟩
    · show PV.tup [.agg (gmO6 gm0), .i .i64 0, .i .i64 (turnC g q n)] = .tup [.agg (gmO6 (turnR g q n)), .i .i64 (turnS' g q n), .i .i64 (turnC g q n)]
      unfold turnR turnS'
      rw [if_neg hc, if_neg hc]
    · show gmH6 gm0 = gmH6 (turnR g q n)
      unfold turnR
      rw [if_neg hc]
end Ax
end Go.Proofs.YtdojdfminchlaaaGreatDoor
