/-
  A challenge that may be made, of the impl package; Results told in other words: nil as an empty row; two preconditions joined.
  Conditions: as each part below says.
-/
import Derived.Test.YtdojdfminchlaaaGreatDoorC29
import Derived.Test.YtdojdfminchlaaaGreatDoorC31
import Derived.Test.YtdojdfminchlaaaGreatDoorC19
set_option linter.unusedSimpArgs false
set_option linter.unusedVariables false
/-
  A challenge that may be made, of the impl package.
  Conditions: none.
-/
namespace Go.Proofs.YtdojdfminchlaaaGreatDoor
namespace Ax
set_option maxRecDepth 100000
set_option maxHeartbeats 20000000
structure ChP (g : Gm) : Prop where
  gm : GmQ g
  cp : GcL g
structure ChY (g : Gm) (n : Int) : Prop where
  b : ChP g
  c : chC g n = 0
section
variable {g : Gm} {n : Int}
theorem chG_yi (h : ChF g n) (hu : iUp g = true) : chG g n = ⟨g.ts, g.lex, g.bd0, g.secs, g.rule, ⟨g.bd.size, g.bd.prem, g.last.before⟩, wBag (clockG g n), iRks (clockG g n), iSs (clockG g n), ckL g n, g.player, wZe (clockG g n), ⟨3, g.last.player, ⟨0, 0, false, []⟩, [], [], 0, 0⟩, iOv (clockG g n)⟩ := by
  rw [chG_y (by rw [← i_vu (ch_v h)]; exact hu), i_ss h, i_ov h, show iRks (clockG g n) = wRks (clockG g n) from (show iRks g = wRks g from i_rks h)]; rfl
theorem chG_ni (h : ChF g n) (hu : iUp g = false) : chG g n = iRf (clockG g n) (iPts g) := by
  rw [chG_n (by rw [← i_vu (ch_v h)]; exact hu), i_rf, i_vp (ch_v h)]
end
def sp_i_ChallengeTurn_y (p : Pr) : FSpec := fsp (ac (aA aGm) (a1 aI)) (fun (g, n) => ChY g n) (fun (g, n) => .tup [.agg (gmK ⟨g.ts, g.lex, g.bd0, g.secs, g.rule, ⟨(chG g n).bd.size, (chG g n).bd.prem, (chG g n).bd.cells⟩, (chG g n).bag, (chG g n).racks, (chG g n).scores, (chG g n).clocks, (chG g n).player, (chG g n).zeros, ⟨(chG g n).last.kind, (chG g n).last.player, ⟨(chG g n).last.play.row, (chG g n).last.play.col, (chG g n).last.play.down, (chG g n).last.play.word⟩, (chG g n).last.before, (chG g n).last.drawn, (chG g n).last.score, (chG g n).last.zeros⟩, (chG g n).over⟩ (.osl 0) (.osl 1) (.osl 2) (.osl 3) (.osl 4) (.osl 5)), .agg [.osl 6, .osl 7, .b (vUp g), .i .i64 (vPts g)], .i .i64 0]) (fun (g, n) => [(0, .own [.i .i64] g.ts.values 2), (1, .own [.i .i64] g.ts.counts 2), (2, .own [.s] g.lex 9), (3, .own [.s] (chG g n).racks 9), (4, .own [.i .i64] (chG g n).scores 2), (5, .own [.i .i64] (chG g n).clocks 2), (6, .own [.s] (vWords g) 9), (7, .own [.s] (vWrong g) 9)])
theorem ok_i_ChallengeTurn_y : FOk Tryz.prog 15 (sp_i_ChallengeTurn_y std) := by
  refine FOk.goD (c := cx std [(44, sp_i_actionCode std), (70, sp_i_Game_canChallenge std), (72, sp_i_Game_verdict std), (48, sp_i_copyGame std)] [(73, sp_i_xGame_withdraw std), (74, sp_i_xGame_refuse std)] 0) (cx_ok (.cons ok_i_actionCode (.cons ok_i_Game_canChallenge (.cons ok_i_Game_verdict (.cons ok_i_copyGame .nil)))) (.cons ok_i_xGame_withdraw (.cons ok_i_xGame_refuse .nil))) mixed Tryz.func15 rfl rfl rfl (by kernel_rfl) Tryz.func71 rfl (by kernel_rfl) rfl rfl ?_
  rintro ⟨g, n⟩ hp
  dsimp only at hp
  refine ⟨rfl, ?_⟩
  unfold sp_i_actionCode sp_i_Game_canChallenge sp_i_Game_verdict sp_i_copyGame sp_i_xGame_withdraw sp_i_xGame_refuse
  generalize hP : std = p
  generalize hB0 : actC = B0
  generalize hB1 : canB = B1
  generalize hB2 : vUp = B2
  generalize hB3 : vPts = B3
  generalize hB4 : vWords = B4
  generalize hB5 : vWrong = B5
  generalize hB6 : iUp = B6
  generalize hB7 : iPts = B7
  generalize hB8 : iWords = B8
  generalize hB9 : iWrong = B9
  generalize hB10 : wBag = B10
  generalize hB11 : iRks = B11
  generalize hB12 : iSs = B12
  generalize hB13 : wZe = B13
  generalize hB14 : iOv = B14
  generalize hB15 : iRf = B15
  generalize hB16 : waitsB = B16
  generalize hB17 : ckL = B17
  generalize hB18 : chG = B18
  cbv
  repeat' first
    | (refine fun (_ : Unit) => ?_; cbv)
    | (refine And.intro (fun h => ?_) (fun h => ?_) <;> cbv)
    | (refine And.intro ?_ ?_)
    | (refine Or.inl (fun (_ : Unit) => ?_); cbv)
  all_goals subst hP hB0 hB1 hB2 hB3 hB4 hB5 hB6 hB7 hB8 hB9 hB10 hB11 hB12 hB13 hB14 hB15 hB16 hB17 hB18
  all_goals try first
    | exact True.intro
    | with_reducible assumption
    | with_reducible exact byte_in
    | with_reducible exact hp.1
    | with_reducible exact hp.2
    | with_reducible exact hp.2.1
    | with_reducible exact hp.2.2
    | (simp [std] at * <;> lia)
    | rfl
  all_goals try (exfalso; exact ce1 hp.c (by assumption))
  all_goals try (exfalso; exact ce2 hp.c (by assumption) (by assumption))
  all_goals have hF := chc_of hp.c
  all_goals have hV := ch_v hF
  all_goals (have hpl := hF.sy.fa.ply; have hk2 := hF.sy.fa.k; have hck := hF.sy.ok.clk g.player; have hcc := hF.sy.c; have hn := hF.sy.nb)
  all_goals first
    | exact hp.b.gm
    | exact ⟨⟨⟨hp.b.cp.v, hp.b.cp.c⟩, hp.b.cp.l⟩, hp.b.cp.r, hp.b.cp.s, hp.b.cp.k⟩
    | exact ⟨hpl.1, by show g.player < (g.clocks.length : Int); omega⟩
    | exact in64 (by show _ ≤ g.clk g.player - n ∧ g.clk g.player - n ≤ _; omega)
    | exact ch_ve hF
    | exact ch_wi hF
    | exact ch_rf hF
    | exact i_vu hV
    | exact i_vp hV
    | exact congrArg (fun L => Ob.own [.s] L 9) (i_vw hV)
    | exact congrArg (fun L => Ob.own [.s] L 9) (i_vx hV)
    | (rw [chG_yi hF (by assumption)]; rfl)
    | (rw [chG_yi hF (by assumption)]; done)
    | (rw [chG_ni hF (by assumption)]; rfl)
    | (rw [chG_ni hF (by assumption)]; done)
    | skip
end Ax
end Go.Proofs.YtdojdfminchlaaaGreatDoor
/-
  Results told in other words: nil as an empty row; two preconditions joined.
  Conditions: none.
-/
namespace Go.Proofs.YtdojdfminchlaaaGreatDoor
namespace Ax
set_option maxRecDepth 100000
set_option maxHeartbeats 2000000
section
variable {P : Program} {f : FuncId} {α : Type}
theorem FOk.casesE {A : Args α} {pre1 pre2 pre : α → Prop} {v1 v2 v : α → PV} {e1 e2 e : α → AH} (h1 : FOk P f (fsp A pre1 v1 e1)) (h2 : FOk P f (fsp A pre2 v2 e2)) (hd : ∀ a, pre a → (pre1 a ∧ v1 a = v a ∧ e1 a = e a) ∨ (pre2 a ∧ v2 a = v a ∧ e2 a = e a)) : FOk P f (fsp A pre v e) := by
  refine ⟨h1.fn, fun args out hs hp => ?_⟩
  unfold fsp at hs
  split at hs
  · rename_i a ha
    cases hs
    rcases hd a (hp _ (List.mem_cons_self ..)) with ⟨g1, g2, g3⟩ | ⟨g1, g2, g3⟩
    · have := h1.run args ⟨[pre1 a], v1 a, e1 a⟩ (by unfold fsp; rw [ha]) (fun p hm => by rw [List.mem_singleton.1 hm]; exact g1)
      rw [g2, g3] at this
      intro w e vals hz hl
      refine (this w e vals hz hl).mono ?_
      rintro en w' ⟨u, e', rfl, hP⟩
      exact ⟨u, e', rfl, by cases hP; constructor <;> assumption⟩
    · have := h2.run args ⟨[pre2 a], v2 a, e2 a⟩ (by unfold fsp; rw [ha]) (fun p hm => by rw [List.mem_singleton.1 hm]; exact g1)
      rw [g2, g3] at this
      intro w e vals hz hl
      refine (this w e vals hz hl).mono ?_
      rintro en w' ⟨u, e', rfl, hP⟩
      exact ⟨u, e', rfl, by cases hP; constructor <;> assumption⟩
  · cases hs
theorem FOk.cases {A : Args α} {pre1 pre2 pre : α → Prop} {v1 v2 v : α → PV} (h1 : FOk P f (fsp A pre1 v1)) (h2 : FOk P f (fsp A pre2 v2)) (hd : ∀ a, pre a → (pre1 a ∧ v1 a = v a) ∨ (pre2 a ∧ v2 a = v a)) : FOk P f (fsp A pre v) :=
  FOk.casesE h1 h2 fun a ha => (hd a ha).imp (fun h => ⟨h.1, h.2, rfl⟩) (fun h => ⟨h.1, h.2, rfl⟩)
/-- Empty rows of one's own. -/
def nilH : List (Nat × Ob) → Bool
  | [] => true
  | (_, .own _ [] _) :: r => nilH r
  | _ => false
theorem nilH_get : ∀ {H : AH} {k : Nat} {o : Ob}, nilH H = true → H.get k = some o → ∃ sh t, o = .own sh [] t
  | [], k, o, _, h => by simp [AH.get] at h
  | (j, x) :: r, k, o, hn, h => by
    unfold nilH at hn
    unfold AH.get at h
    split at hn
    · rename_i h0; cases h0
    · rename_i h0
      cases h0
      split at h
      · cases h; exact ⟨_, _, rfl⟩
      · exact nilH_get hn h
    · cases hn
/-- Nil slices of a result told as empty rows of one's own. -/
theorem FOk.own {A : Args α} {pre : α → Prop} {v v' : α → PV} {H : AH} (h : FOk P f (fsp A pre v)) (hH : nilH H = true)
    (hd : ∀ a w e u, (∀ k, (H.get k).isSome = true → e.on k ∧ e.adr k = none ∧ e.len k = 0 ∧ e.cap k = 0) → R w e (v a) u → R w e (v' a) u) : FOk P f (fsp A pre v' fun _ => H) := by
  refine ⟨h.fn, fun args out hs hp w e vals hz hl => ?_⟩
  unfold fsp at hs
  split at hs
  · rename_i a ha
    cases hs
    refine (h.run args ⟨[pre a], v a, []⟩ (by unfold fsp; rw [ha]) hp w e vals hz hl).mono ?_
    rintro en w' ⟨u, e', rfl, hP⟩
    have hoff : ∀ k, ¬ e'.on k := fun k hk => (hP.new k hk).elim (fun h => h) (fun h => by have h2 := h.2; simp [AH.get] at h2)
    have hle : e'.Le ⟨fun _ => none, fun _ => 0, fun _ => 0, e'.fz, fun k => (H.get k).isSome = true, fun k => (H.get k).isSome = true⟩ := ⟨fun k hk => (hoff k hk).elim, fun k hk => (hoff k hk).elim, fun k hk => (hoff k hk).elim, fun k hk => (hoff k hk).elim, fun _ h => h⟩
    have hb : ∀ k b, ¬ Env.blk ⟨fun _ => none, fun _ => 0, fun _ => 0, e'.fz, fun k => (H.get k).isSome = true, fun k => (H.get k).isSome = true⟩ k b := fun k b ⟨x, hx, _⟩ => by cases hx
    refine ⟨u, _, rfl, hd a _ _ _ (fun k hk => ⟨hk, rfl, rfl, rfl⟩) (R_mono (fun _ _ => rfl) hle _ _ hP.val), ⟨fun k hk => hk.elim, fun k hk => hk.elim, fun k hk => hk.elim, fun k hk => hk.elim, fun b hb => hP.le.fz b hb⟩,
      ⟨fun b hb => hP.fz.fz b hb, fun k b _ _ hk => (hb k b hk).elim⟩, fun k o ho => ?_, fun k hk => .inr ⟨Nat.zero_le _, hk⟩, fun k hk => .inr ⟨fun h => h, hk, fun b h => (hb k b h).elim⟩, fun k hk => hk.elim, fun k k' b _ _ _ _ hk => (hb k b hk).elim, ⟨hP.chg.os, hP.chg.tape, hP.chg.output, hP.chg.size, fun b hb _ => hP.chg.block b hb fun ⟨k, hk, _⟩ => hk.elim⟩⟩
    obtain ⟨sh, t, rfl⟩ := nilH_get hH ho
    exact ⟨⟨rfl, .inl ⟨rfl, rfl, rfl⟩⟩, by show (H.get k).isSome = true; rw [ho]; rfl, fun _ => by show (H.get k).isSome = true; rw [ho]; rfl⟩
  · cases hs
theorem nil_O {w : World} {e : Env} {k : Nat} {u : Value} (h : e.on k ∧ e.adr k = none ∧ e.len k = 0 ∧ e.cap k = 0) (hr : R w e .esl u) : R w e (.osl k) u := by
  unfold R at *
  exact ⟨h.1, by rw [h.2.1, h.2.2.1, h.2.2.2]; exact hr⟩
/-- Lists of values, one by one. -/
inductive Fol (w : World) (e : Env) : List PV → List PV → Prop
  | nil : Fol w e [] []
  | cons {p q : PV} {l r : List PV} (h : ∀ u, R w e p u → R w e q u) (t : Fol w e l r) : Fol w e (p :: l) (q :: r)
theorem Rs_fol {w : World} {e : Env} : ∀ {l r : List PV}, Fol w e l r → ∀ {vs : List Value}, Rs w e l vs → Rs w e r vs
  | _, _, .nil, _, h => h
  | _, _, .cons h t, vs, hs => by
    unfold Rs at hs ⊢
    obtain ⟨u, us, rfl, h1, h2⟩ := hs
    exact ⟨u, us, rfl, h u h1, Rs_fol t h2⟩
theorem agg_fol {w : World} {e : Env} {l r : List PV} (h : Fol w e l r) : ∀ u, R w e (.agg l) u → R w e (.agg r) u := fun u hr => by
  unfold R at hr ⊢
  obtain ⟨vs, rfl, h1⟩ := hr
  exact ⟨vs, rfl, Rs_fol h h1⟩
theorem tup_fol {w : World} {e : Env} {l r : List PV} (h : Fol w e l r) : ∀ u, R w e (.tup l) u → R w e (.tup r) u := fun u hr => by
  unfold R at hr ⊢
  obtain ⟨vs, rfl, h1⟩ := hr
  exact ⟨vs, rfl, Rs_fol h h1⟩
end
theorem esl_fol {w : World} {e : Env} (h : ∀ k, ((gmH6 gm0).get k).isSome = true → e.on k ∧ e.adr k = none ∧ e.len k = 0 ∧ e.cap k = 0) : Fol w e (gmK gm0 .esl .esl .esl .esl .esl .esl) (gmO6 gm0) := by
  unfold gmO6 gmK
  repeat' first
    | exact .nil
    | refine .cons ?_ ?_
    | exact fun _ h => h
    | exact fun _ hr => nil_O (h _ rfl) hr
end Ax
end Go.Proofs.YtdojdfminchlaaaGreatDoor
