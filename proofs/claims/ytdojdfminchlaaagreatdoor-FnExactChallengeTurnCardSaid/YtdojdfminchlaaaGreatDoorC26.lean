/-
  What a turn with a play rests on: facts of a game in which an action may be done; Facts of a turn with a play; How long things are whose size is common; The laws package: whether two rows, two tile sets, two games are the same; The laws package: marks laid into rows, tile sets, games.
  Conditions: as each part below says.
-/
import Derived.Test.YtdojdfminchlaaaGreatDoorC25
import Derived.Test.YtdojdfminchlaaaGreatDoorC24
import Derived.Test.YtdojdfminchlaaaGreatDoorC18
set_option linter.unusedSimpArgs false
set_option linter.unusedVariables false
/-
  What a turn with a play rests on: facts of a game in which an action may be done.
  Conditions: none.
-/
namespace Go.Proofs.YtdojdfminchlaaaGreatDoor
namespace Ax
set_option maxRecDepth 100000
set_option maxHeartbeats 2000000
structure StP' (g : Gm) (q : Pl) : Prop where
  gm : GmL g
  wd : q.word.length ≤ 1073741824
  own : GmP g
section
variable {g : Gm} {q : Pl} {n : Int}
structure GmS' (g : Gm) : Prop where
  bd : bdB g.bd = true
  ts : tsB g.ts = true
  lex : lexB g.lex = true
  bag : bagB g.bag = true
  rk : ∀ k : Int, rackB (g.rk k) = true
  sc : ∀ k : Int, -100000 ≤ g.sc k ∧ g.sc k ≤ 100000
  clk : ∀ k : Int, -36000 ≤ g.clk k ∧ g.clk k ≤ 36000
theorem gm_s' (h : gameB g = true) : GmS' g := by
  unfold gameB shapeB setupB twoB sideB at h
  simp only [Bool.and_eq_true, decide_eq_true_eq] at h
  have hp := in_bd h.2.1.2.2.2.1
  have hg : ∀ k : Int, g.rk k = g.racks.getD 0 [] ∨ g.rk k = g.racks.getD 1 [] ∨ g.rk k = [] := fun k => by
    unfold Gm.rk
    rcases (show k.toNat = 0 ∨ k.toNat = 1 ∨ 2 ≤ k.toNat by omega) with e | e | e
    · rw [e]; exact .inl rfl
    · rw [e]; exact .inr (.inl rfl)
    · exact .inr (.inr (by rw [List.getD_eq_getElem?_getD, List.getElem?_eq_none (by have := h.2.1.1; omega)]; rfl))
  have hr : ∀ k : Int, rackB (g.rk k) = true := fun k => by
    rcases hg k with e | e | e <;> rw [e]
    · exact h.2.2.1.1.1
    · exact h.2.2.1.2.1
    · rfl
  have s0 := in_bd h.2.2.1.1.2.1
  have s1 := in_bd h.2.2.1.2.2.1
  have k0 := in_bd h.2.2.1.1.2.2
  have k1 := in_bd h.2.2.1.2.2.2
  refine ⟨h.1.2.1, h.1.1.1, h.1.1.2.1, h.1.2.2.2.2, hr, fun k => ?_, fun k => ?_⟩
  · unfold Gm.sc
    rcases (show k.toNat = 0 ∨ k.toNat = 1 ∨ 2 ≤ k.toNat by omega) with e | e | e
    · rw [e]; exact s0
    · rw [e]; exact s1
    · rw [List.getD_eq_getElem?_getD, List.getElem?_eq_none (by have := h.2.1.2.1; omega)]; decide
  · unfold Gm.clk
    rcases (show k.toNat = 0 ∨ k.toNat = 1 ∨ 2 ≤ k.toNat by omega) with e | e | e
    · rw [e]; exact k0
    · rw [e]; exact k1
    · rw [List.getD_eq_getElem?_getD, List.getElem?_eq_none (by have := h.2.1.2.2.1; omega)]; decide
structure SyG (g : Gm) (n : Int) : Prop where
  fa : SaF g
  r2 : g.racks.length = 2
  ok : GmS' g
  c : -36000 ≤ g.clk g.player - n
  nb : 0 ≤ n ∧ n ≤ 36000
  s : -50000 ≤ g.sc g.player ∧ g.sc g.player ≤ 50000
theorem syg (h : std.eqI (actC g n) 0 = true) : SyG g n := by
  have h := eqI_t h
  unfold actC at h
  by_cases h1 : gameB g = true
  · rw [if_pos h1] at h
    by_cases h2 : g.over = true
    · rw [if_pos h2] at h; exact absurd h (by decide)
    · rw [if_neg h2] at h
      by_cases h3 : (inR n 0 36000 && decide (-36000 ≤ g.clk g.player - n)) = true
      · rw [if_pos h3] at h
        by_cases h4 : (inR (g.sc 0) (-50000) 50000 && inR (g.sc 1) (-50000) 50000) = true
        · rw [Bool.and_eq_true] at h3 h4
          have hf := sa_facts h1
          have hp := hf.ply
          refine ⟨hf, ?_, gm_s' h1, of_decide_eq_true h3.2, in_bd h3.1, ?_⟩
          · unfold gameB twoB at h1
            simp only [Bool.and_eq_true, decide_eq_true_eq] at h1
            exact h1.2.1.1
          · rcases (show g.player = 0 ∨ g.player = 1 by omega) with e | e <;> rw [e]
            · exact in_bd h4.1
            · exact in_bd h4.2
        · rw [if_neg h4] at h; exact absurd h (by decide)
      · rw [if_neg h3] at h; exact absurd h (by decide)
  · rw [if_neg h1] at h; exact absurd h (by decide)
theorem setg_bd {α : Type} {L : List α} {i k : Nat} {x d : α} {P : α → Prop} (hx : P x) (h : P (L.getD k d)) : P ((L.set i x).getD k d) := by
  rw [List.getD_eq_getElem?_getD, List.getElem?_set]
  rw [List.getD_eq_getElem?_getD] at h
  split
  · split
    · exact hx
    · rename_i e1 e2
      subst e1
      rw [List.getElem?_eq_none (by omega)] at h
      exact h
  · exact h
end
end Ax
end Go.Proofs.YtdojdfminchlaaaGreatDoor
/-
  Facts of a turn with a play.
  Conditions: none.
-/
namespace Go.Proofs.YtdojdfminchlaaaGreatDoor
namespace Ax
set_option maxRecDepth 100000
set_option maxHeartbeats 2000000
structure GcL (g : Gm) : Prop where
  v : (g.ts.values.length : Int) ≤ 1073741824
  c : (g.ts.counts.length : Int) ≤ 1073741824
  l : (g.lex.length : Int) ≤ 1073741824
  r : (g.racks.length : Int) ≤ 1073741824
  s : (g.scores.length : Int) ≤ 1073741824
  k : (g.clocks.length : Int) ≤ 1073741824
structure PtP (g : Gm) (q : Pl) : Prop where
  gm : GmQ g
  wl : (q.word.length : Int) ≤ 1073741824
  cp : GcL g
def pScore (g : Gm) (q : Pl) : Int := scoreI g.ts g.bd q
def pRack (g : Gm) (q : Pl) : List UInt8 := frR g.bag (restT g q)
def pBag (g : Gm) (q : Pl) : List UInt8 := frB g.bag (restT g q)
def pDrw (g : Gm) (q : Pl) : List UInt8 := g.bag.take (tdI g.bag (restT g q)).toNat
def pRks (g : Gm) (q : Pl) : List (List UInt8) := g.racks.set g.player.toNat (pRack g q)
def pScs (g : Gm) (q : Pl) : List Int := g.scores.set g.player.toNat (g.sc g.player + pScore g q)
def pClk (g : Gm) (n : Int) : List Int := g.clocks.set g.player.toNat (g.clk g.player - n)
def pCel (g : Gm) (q : Pl) : Bd := madeB g.bd q
def p1 (g : Gm) (q : Pl) (n : Int) : Gm := ⟨g.ts, g.lex, g.bd0, g.secs, g.rule, pCel g q, pBag g q, pRks g q, pScs g q, pClk g n, 1 - g.player, 0, ⟨1, g.player, q, g.bd.cells, pDrw g q, pScore g q, g.zeros⟩, g.over⟩
section
variable {g : Gm} {q : Pl} {n : Int}
theorem lex_lxp {ws : List (List UInt8)} (h : lexB ws = true) : LxP ws := by
  unfold lexB at h
  rw [Bool.and_eq_true, decide_eq_true_eq, lex_adj, Bool.and_eq_true] at h
  exact ⟨by rw [inc_adj]; exact h.1.1, by omega⟩
end
end Ax
end Go.Proofs.YtdojdfminchlaaaGreatDoor
/-
  How long things are whose size is common.
  Conditions: none.
-/
namespace Go.Proofs.YtdojdfminchlaaaGreatDoor
namespace Ax
set_option maxRecDepth 100000
set_option maxHeartbeats 2000000
theorem zS {n : Int} {s : List UInt8} (h : 0 ≤ szS n s) : 0 ≤ n ∧ szS n s ≤ n ∧ (s.length : Int) ≤ n := by
  obtain ⟨h1, h2, h3⟩ := szL_le (nat1 _) h
  exact ⟨h1, h2, h3 _ (List.mem_singleton.2 rfl)⟩
theorem zN {n : Int} {s : List Int} (h : 0 ≤ szN n s) : 0 ≤ n ∧ szN n s ≤ n ∧ (s.length : Int) ≤ n := by
  obtain ⟨h1, h2, h3⟩ := szL_le (nat1 _) h
  exact ⟨h1, h2, h3 _ (List.mem_singleton.2 rfl)⟩
theorem zP {n : Int} {q : Pl} (h : 0 ≤ szP n q) : 0 ≤ n ∧ szP n q ≤ n ∧ (q.word.length : Int) ≤ n := by
  obtain ⟨h1, h2, h3⟩ := szL_le (nat1 _) h
  exact ⟨h1, h2, h3 _ (List.mem_singleton.2 rfl)⟩
theorem zB {n : Int} {b : Bd} (h : 0 ≤ szB n b) : 0 ≤ n ∧ szB n b ≤ n ∧ (b.prem.length : Int) ≤ n ∧ (b.cells.length : Int) ≤ n := by
  obtain ⟨h1, h2, h3⟩ := szL_le (nat2 _ _) h
  exact ⟨h1, h2, h3 _ (by simp), h3 _ (by simp)⟩
theorem zW {n : Int} {ws : List (List UInt8)} (h : 0 ≤ szW n ws) : 0 ≤ n ∧ szW n ws ≤ n ∧ (ws.length : Int) ≤ n ∧ ∀ k : Int, ((ws.getD k.toNat []).length : Int) ≤ n := by
  obtain ⟨h1, h2, h3⟩ := szL_le (natW _) h
  refine ⟨h1, h2, h3 _ List.mem_cons_self, fun k => ?_⟩
  rw [List.getD_eq_getElem?_getD]
  cases hk : ws[k.toNat]? with
  | none => exact h1
  | some x => exact h3 _ (List.mem_cons_of_mem _ (List.mem_map.2 ⟨x, List.mem_of_getElem? hk, rfl⟩))
structure TsB (n : Int) (t : TS) : Prop where
  l : (t.letters.length : Int) ≤ n
  v : (t.values.length : Int) ≤ n
  c : (t.counts.length : Int) ≤ n
theorem zT {n : Int} {t : TS} (h : 0 ≤ szT n t) : 0 ≤ n ∧ szT n t ≤ n ∧ TsB n t := by
  unfold szT at h
  have h1 := zN h
  have h2 := zN h1.1
  have h3 := zS h2.1
  unfold szT
  exact ⟨h3.1, by omega, by omega, by omega, by omega⟩
structure BdB (n : Int) (b : Bd) : Prop where
  p : (b.prem.length : Int) ≤ n
  c : (b.cells.length : Int) ≤ n
structure WsB (n : Int) (ws : List (List UInt8)) : Prop where
  l : (ws.length : Int) ≤ n
  w : ∀ k : Int, ((ws.getD k.toNat []).length : Int) ≤ n
structure GmB (n : Int) (g : Gm) : Prop where
  ts : TsB n g.ts
  lx : WsB n g.lex
  b0 : BdB n g.bd0
  bd : BdB n g.bd
  bag : (g.bag.length : Int) ≤ n
  rk : WsB n g.racks
  sc : (g.scores.length : Int) ≤ n
  ck : (g.clocks.length : Int) ≤ n
  wd : (g.last.play.word.length : Int) ≤ n
  bf : (g.last.before.length : Int) ≤ n
  dr : (g.last.drawn.length : Int) ≤ n
theorem TsB.le {n m : Int} {t : TS} (h : TsB n t) (hm : n ≤ m) : TsB m t := ⟨Int.le_trans h.l hm, Int.le_trans h.v hm, Int.le_trans h.c hm⟩
theorem BdB.le {n m : Int} {t : Bd} (h : BdB n t) (hm : n ≤ m) : BdB m t := ⟨Int.le_trans h.p hm, Int.le_trans h.c hm⟩
theorem WsB.le {n m : Int} {t : List (List UInt8)} (h : WsB n t) (hm : n ≤ m) : WsB m t := ⟨Int.le_trans h.l hm, fun k => Int.le_trans (h.w k) hm⟩
theorem zG {n : Int} {g : Gm} (h : 0 ≤ szG n g) : 0 ≤ n ∧ szG n g ≤ n ∧ GmB n g := by
  unfold szG szLa at h
  have a1 := zS h
  have a2 := zS a1.1
  have a3 := zP a2.1
  have a4 := zN a3.1
  have a5 := zN a4.1
  have a6 := zW a5.1
  have a7 := zS a6.1
  have a8 := zB a7.1
  have a9 := zB (show 0 ≤ szB (szW (szT n g.ts) g.lex) g.bd0 from a8.1)
  have b1 := zW a9.1
  have b2 := zT b1.1
  have e : szU n (gSu g) = szB (szW (szT n g.ts) g.lex) g.bd0 := rfl
  unfold szG szLa
  refine ⟨b2.1, by omega, b2.2.2, WsB.le ⟨b1.2.2.1, b1.2.2.2⟩ (by omega), BdB.le ⟨a9.2.2.1, a9.2.2.2⟩ (by omega), BdB.le ⟨a8.2.2.1, a8.2.2.2⟩ (by omega), by omega, WsB.le ⟨a6.2.2.1, a6.2.2.2⟩ (by omega), by omega, by omega, by omega, by omega, by omega⟩
theorem GmB.n {n : Int} {g : Gm} (h : GmB n g) (hn : n ≤ 1048576) : GmN g := by
  have := h.ts.v; have := h.ts.c; have := h.lx.l; have := h.rk.l; have := h.sc; have := h.ck
  exact ⟨⟨⟨by show (g.ts.values.length : Int) ≤ _; omega, by show (g.ts.counts.length : Int) ≤ _; omega⟩, by show (g.lex.length : Int) ≤ _; omega⟩, by omega, by omega, by omega⟩
theorem bd_p {n : Int} {b : Bd} (h : BdB n b) (hn : n ≤ 1048576) : BdP b := ⟨by have := h.p; omega, by have := h.c; omega⟩
theorem ts_l {n : Int} {t : TS} (h : TsB n t) (hn : n ≤ 1048576) : TsL t := ⟨by have := h.l; omega, by have := h.v; omega, by have := h.c; omega⟩
theorem bef_p {n : Int} {g : Gm} (h : GmB n g) (hn : n ≤ 1048576) : BdP g.bef := ⟨by have := h.bd.p; show g.bd.prem.length ≤ _; omega, by have := h.bf; show g.last.before.length ≤ _; omega⟩
theorem GmB.q {n : Int} {g : Gm} {q : Pl} (h : GmB n g) (hn : n ≤ 1048576) (hq : (q.word.length : Int) ≤ n) : PtP g q := by
  have h1 := h.ts; have := h1.v; have := h1.c; have := h.lx.l; have := h.rk.l; have := h.sc; have := h.ck; have := h.wd; have := h.bag; have := h.dr
  exact ⟨⟨⟨ts_l h.ts hn, ⟨by show g.lex.length ≤ _; omega, fun k => by have := h.lx.w k; show (g.lex.getD k.toNat []).length ≤ _; omega⟩, bd_p h.b0 hn⟩, bd_p h.bd hn, by omega, fun k => by have := h.rk.w k; omega, by omega, by omega, bef_p h hn⟩, by omega, ⟨by omega, by omega, by omega, by omega, by omega, by omega⟩⟩
theorem GmB.s {n : Int} {g : Gm} {q : Pl} (h : GmB n g) (hn : n ≤ 1048576) (hq : (q.word.length : Int) ≤ n) : StP' g q := by
  have h1 := h.ts; have := h1.v; have := h1.c; have := h.lx.l; have := h.rk.l; have := h.sc; have := h.ck; have := h.wd; have := h.bag; have := h.dr
  exact ⟨⟨⟨ts_l h.ts hn, ⟨by show g.lex.length ≤ _; omega, fun k => by have := h.lx.w (k : Int); rw [Int.toNat_natCast] at this; show (g.lex.getD k []).length ≤ _; omega⟩, bd_p h.b0 hn⟩, bd_p h.bd hn, by omega, fun k => by have := h.rk.w k; show (g.racks.getD k.toNat []).length ≤ _; omega, bef_p h hn, by omega, by omega⟩, by omega, ⟨⟨by show g.ts.values.length ≤ _; omega, by show g.ts.counts.length ≤ _; omega, by show g.lex.length ≤ _; omega⟩, by omega, by omega, by omega⟩⟩
end Ax
end Go.Proofs.YtdojdfminchlaaaGreatDoor
/-
  The laws package: whether two rows, two tile sets, two games are the same.
  Conditions: none.
-/
namespace Go.Proofs.YtdojdfminchlaaaGreatDoor
namespace Ax
set_option maxRecDepth 100000
set_option maxHeartbeats 2000000
def qeN (a b : List Int) : Bool := a == b
def qeW (a b : List (List UInt8)) : Bool := a == b
def qeTs (a b : TS) : Bool := a.letters == b.letters && (qeN a.values b.values && (qeN a.counts b.counts && a.blanks == b.blanks))
def qeBd (a b : Bd) : Bool := a.size == b.size && (a.prem == b.prem && a.cells == b.cells)
def qePl (a b : Pl) : Bool := a.row == b.row && (a.col == b.col && (a.down == b.down && a.word == b.word))
def qeLa (a b : La) : Bool := a.kind == b.kind && (a.player == b.player && (qePl a.play b.play && (a.before == b.before && (a.drawn == b.drawn && (a.score == b.score && a.zeros == b.zeros)))))
def qeSu (a b : Su) : Bool := qeTs a.ts b.ts && (qeW a.lex b.lex && (qeBd a.bd b.bd && (a.secs == b.secs && a.rule == b.rule)))
def qeGm (a b : Gm) : Bool := qeSu (gSu a) (gSu b) && (qeBd a.bd b.bd && (a.bag == b.bag && (qeW a.racks b.racks && (qeN a.scores b.scores && (qeN a.clocks b.clocks && (a.player == b.player && (a.zeros == b.zeros && (qeLa a.last b.last && a.over == b.over))))))))
theorem qeN_r (a : List Int) : qeN a a = true := by simp [qeN]
theorem qeW_r (a : List (List UInt8)) : qeW a a = true := by simp [qeW]
theorem qeBd_r (a : Bd) : qeBd a a = true := by simp [qeBd]
theorem qePl_r (a : Pl) : qePl a a = true := by simp [qePl]
theorem qeTs_r (a : TS) : qeTs a a = true := by simp [qeTs, qeN_r]
theorem qeLa_r (a : La) : qeLa a a = true := by simp [qeLa, qePl_r]
theorem qeSu_r (a : Su) : qeSu a a = true := by simp [qeSu, qeTs_r, qeW_r, qeBd_r]
theorem qeGm_r (a : Gm) : qeGm a a = true := by simp [qeGm, qeSu_r, qeBd_r, qeW_r, qeN_r, qeLa_r]
section
variable {α : Type} {a b : List α} {k : Int} {d : α}
theorem eq_tk (h0 : 0 ≤ k) (h1 : k < a.length) (hl : a.length = b.length) (h : a.take k.toNat = b.take k.toNat) (he : a.getD k.toNat d = b.getD k.toNat d) : a.take (k + 1).toNat = b.take (k + 1).toNat := by
  rw [tk h0 h1 d, tk h0 (by omega) d, h, he]
theorem eq_al (h1 : (a.length : Int) ≤ k) (hl : a.length = b.length) (h : a.take k.toNat = b.take k.toNat) : a = b := by
  rw [← tk_all h1, h, tk_all (by omega)]
theorem eq_no (he : a.getD k.toNat d ≠ b.getD k.toNat d) : a ≠ b := fun h => he (by rw [h])
end
def sp_l_eqInt64S (p : Pr) : FSpec := fsp (ac aN (a1 aN)) (fun (a, b) => p.leP (p.len a) 1073741824) (fun (a, b) => .b (qeN a b))
theorem ok_l_eqInt64S : FOk Tryz.prog 59 (sp_l_eqInt64S std) := by
  refine FOk.go (c := cx std [] [] 0) (cx_ok .nil .nil) mixed Tryz.func59 rfl rfl rfl (by kernel_rfl) ?_
  rintro ⟨a, b⟩ hp
  dsimp only at hp
  refine ⟨rfl, ?_⟩
  obtain ⟨H, hH⟩ : ∃ H : Hd (Int), H = ⟨fun k => 0 ≤ k ∧ k ≤ a.length ∧ a.length = b.length ∧ a.take k.toNat = b.take k.toNat, fun k => (a.length - k).toNat, (· < ·)⟩ := ⟨_, rfl⟩
  have hl : ∀ m n, H.lt m n → m < n := by subst hH; exact fun _ _ h => h
  generalize hP : std = p
  generalize hB0 : qeN = B0
  cbv
  repeat' first
    | (refine fun (_ : Unit) => ?_; cbv)
    | (refine Or.inr ⟨11, [], [.s 5 (.i .i64)], [], [], H, rfl, hl, ?_, fun (k : Int) hk => ?_⟩ <;> cbv)
    | (refine And.intro (fun h => ?_) (fun h => ?_) <;> cbv)
    | (refine And.intro ?_ ?_)
  all_goals subst hP hB0 hH
  all_goals clear hl
  all_goals try dsimp only at hk
  all_goals try dsimp only
  all_goals try first
    | exact True.intro
    | with_reducible assumption
    | with_reducible exact byte_in
    | with_reducible exact hp.1
    | with_reducible exact hp.2
    | with_reducible exact hp.2.1
    | with_reducible exact hp.2.2
    | (simp [std] at * <;> lia)
    | rfl
  · show (a == b) = false
    exact beq_eq_false_iff_ne.2 fun e => beq_eq_false_iff_ne.1 (show ((a.length : Int) == (b.length : Int)) = false from h) (by rw [e])
  all_goals obtain ⟨q0, q1, q2, q3⟩ := hk
  · show (a == b) = false
    exact beq_eq_false_iff_ne.2 (eq_no (d := 0) (k := k) (beq_eq_false_iff_ne.1 (show (a.getD k.toNat 0 == b.getD k.toNat 0) = false from h)))
  · have hlt : k < (a.length : Int) := lt_of (by assumption)
    exact ⟨by show 0 ≤ k + 1; omega, by show k + 1 ≤ (a.length : Int); omega, q2, eq_tk q0 hlt q2 q3 (beq_iff_eq.1 (show (a.getD k.toNat 0 == b.getD k.toNat 0) = true from h))⟩
  · show (a == b) = true
    exact beq_iff_eq.2 (eq_al (ge_of h) q2 q3)
def sp_l_eqStringS (p : Pr) : FSpec := fsp (ac aW (a1 aW)) (fun (a, b) => p.leP (p.len a) 1073741824) (fun (a, b) => .b (qeW a b))
theorem ok_l_eqStringS : FOk Tryz.prog 58 (sp_l_eqStringS std) := by
  refine FOk.go (c := cx std [] [] 0) (cx_ok .nil .nil) mixed Tryz.func58 rfl rfl rfl (by kernel_rfl) ?_
  rintro ⟨a, b⟩ hp
  dsimp only at hp
  refine ⟨rfl, ?_⟩
  obtain ⟨H, hH⟩ : ∃ H : Hd (Int), H = ⟨fun k => 0 ≤ k ∧ k ≤ a.length ∧ a.length = b.length ∧ a.take k.toNat = b.take k.toNat, fun k => (a.length - k).toNat, (· < ·)⟩ := ⟨_, rfl⟩
  have hl : ∀ m n, H.lt m n → m < n := by subst hH; exact fun _ _ h => h
  generalize hP : std = p
  generalize hB0 : qeW = B0
  cbv
  repeat' first
    | (refine fun (_ : Unit) => ?_; cbv)
    | (refine Or.inr ⟨11, [], [.s 5 (.i .i64)], [], [], H, rfl, hl, ?_, fun (k : Int) hk => ?_⟩ <;> cbv)
    | (refine And.intro (fun h => ?_) (fun h => ?_) <;> cbv)
    | (refine And.intro ?_ ?_)
  all_goals subst hP hB0 hH
  all_goals clear hl
  all_goals try dsimp only at hk
  all_goals try dsimp only
  all_goals try first
    | exact True.intro
    | with_reducible assumption
    | with_reducible exact byte_in
    | with_reducible exact hp.1
    | with_reducible exact hp.2
    | with_reducible exact hp.2.1
    | with_reducible exact hp.2.2
    | (simp [std] at * <;> lia)
    | rfl
  · show (a == b) = false
    exact beq_eq_false_iff_ne.2 fun e => beq_eq_false_iff_ne.1 (show ((a.length : Int) == (b.length : Int)) = false from h) (by rw [e])
  all_goals obtain ⟨q0, q1, q2, q3⟩ := hk
  · show (a == b) = false
    exact beq_eq_false_iff_ne.2 (eq_no (d := []) (k := k) (beq_eq_false_iff_ne.1 (show (a.getD k.toNat [] == b.getD k.toNat []) = false from h)))
  · have hlt : k < (a.length : Int) := lt_of (by assumption)
    exact ⟨by show 0 ≤ k + 1; omega, by show k + 1 ≤ (a.length : Int); omega, q2, eq_tk q0 hlt q2 q3 (beq_iff_eq.1 (show (a.getD k.toNat [] == b.getD k.toNat []) = true from h))⟩
  · show (a == b) = true
    exact beq_iff_eq.2 (eq_al (ge_of h) q2 q3)
def sp_l_eqTileSet (p : Pr) : FSpec := fsp (ac (aA aTs) (a1 (aA aTs))) (fun (a, b) => TsN a) (fun (a, b) => .b (qeTs a b))
theorem ok_l_eqTileSet : FOk Tryz.prog 113 (sp_l_eqTileSet std) := by
  refine FOk.go (c := cx std [(59, sp_l_eqInt64S std)] [] 0) (cx_ok (.cons ok_l_eqInt64S .nil) .nil) mixed Tryz.func113 rfl rfl rfl (by kernel_rfl) ?_
  rintro ⟨a, b⟩ hp
  dsimp only at hp
  refine ⟨rfl, ?_⟩
  unfold sp_l_eqInt64S
  generalize hP : std = p
  generalize hB0 : qeTs = B0
  generalize hB1 : qeN = B1
  cbv
  repeat' first
    | (refine fun (_ : Unit) => ?_; cbv)
    | (refine And.intro (fun h => ?_) (fun h => ?_) <;> cbv)
    | (refine And.intro ?_ ?_)
    | (refine Or.inl (fun (_ : Unit) => ?_); cbv)
  all_goals subst hP hB0 hB1
  all_goals try first
    | exact True.intro
    | with_reducible assumption
    | with_reducible exact byte_in
    | with_reducible exact hp.1
    | with_reducible exact hp.2
    | with_reducible exact hp.2.1
    | with_reducible exact hp.2.2
    | (simp [std] at * <;> lia)
    | rfl
  all_goals (try simp only [sd_eqI, sd_eqS, sd_eqB, eta_ts, eta_bd, eta_pl, eta_la, eta_su] at *)
  all_goals first
    | exact hp.v
    | exact hp.c
    | simp only [qeTs, *, Bool.true_and, Bool.false_and, Bool.and_true]
def sp_l_eqLexicon (p : Pr) : FSpec := fsp (ac (aA aLex) (a1 (aA aLex))) (fun (a, b) => p.leP (p.len a) 1073741824) (fun (a, b) => .b (qeW a b))
theorem ok_l_eqLexicon : FOk Tryz.prog 114 (sp_l_eqLexicon std) := by
  refine FOk.go (c := cx std [(58, sp_l_eqStringS std)] [] 0) (cx_ok (.cons ok_l_eqStringS .nil) .nil) mixed Tryz.func114 rfl rfl rfl (by kernel_rfl) ?_
  rintro ⟨a, b⟩ hp
  dsimp only at hp
  refine ⟨rfl, ?_⟩
  unfold sp_l_eqStringS
  generalize hP : std = p
  generalize hB0 : qeW = B0
  cbv
  repeat' first
    | (refine fun (_ : Unit) => ?_; cbv)
    | (refine And.intro (fun h => ?_) (fun h => ?_) <;> cbv)
    | (refine And.intro ?_ ?_)
    | (refine Or.inl (fun (_ : Unit) => ?_); cbv)
  all_goals subst hP hB0
  all_goals try first
    | exact True.intro
    | with_reducible assumption
    | with_reducible exact byte_in
    | with_reducible exact hp.1
    | with_reducible exact hp.2
    | with_reducible exact hp.2.1
    | with_reducible exact hp.2.2
    | (simp [std] at * <;> lia)
    | rfl
def sp_l_eqBoard (p : Pr) : FSpec := fsp (ac (aA aBd) (a1 (aA aBd))) (fun (a, b) => True) (fun (a, b) => .b (qeBd a b))
theorem ok_l_eqBoard : FOk Tryz.prog 57 (sp_l_eqBoard std) := by
  refine FOk.go (c := cx std [] [] 0) (cx_ok .nil .nil) mixed Tryz.func57 rfl rfl rfl (by kernel_rfl) ?_
  rintro ⟨a, b⟩ hp
  dsimp only at hp
  refine ⟨rfl, ?_⟩
  generalize hP : std = p
  generalize hB0 : qeBd = B0
  cbv
  repeat' first
    | (refine fun (_ : Unit) => ?_; cbv)
    | (refine And.intro (fun h => ?_) (fun h => ?_) <;> cbv)
    | (refine And.intro ?_ ?_)
    | (refine Or.inl (fun (_ : Unit) => ?_); cbv)
  all_goals subst hP hB0
  all_goals try first
    | exact True.intro
    | with_reducible assumption
    | with_reducible exact byte_in
    | with_reducible exact hp.1
    | with_reducible exact hp.2
    | with_reducible exact hp.2.1
    | with_reducible exact hp.2.2
    | (simp [std] at * <;> lia)
    | rfl
  all_goals (try simp only [sd_eqI, sd_eqS, sd_eqB, eta_ts, eta_bd, eta_pl, eta_la, eta_su] at *)
  all_goals first
    | simp only [qeBd, *, Bool.true_and, Bool.false_and, Bool.and_true]
def sp_l_eqPlay (p : Pr) : FSpec := fsp (ac (aA aPl) (a1 (aA aPl))) (fun (a, b) => True) (fun (a, b) => .b (qePl a b))
theorem ok_l_eqPlay : FOk Tryz.prog 115 (sp_l_eqPlay std) := by
  refine FOk.go (c := cx std [] [] 0) (cx_ok .nil .nil) mixed Tryz.func115 rfl rfl rfl (by kernel_rfl) ?_
  rintro ⟨a, b⟩ hp
  dsimp only at hp
  refine ⟨rfl, ?_⟩
  generalize hP : std = p
  generalize hB0 : qePl = B0
  cbv
  repeat' first
    | (refine fun (_ : Unit) => ?_; cbv)
    | (refine And.intro (fun h => ?_) (fun h => ?_) <;> cbv)
    | (refine And.intro ?_ ?_)
    | (refine Or.inl (fun (_ : Unit) => ?_); cbv)
  all_goals subst hP hB0
  all_goals try first
    | exact True.intro
    | with_reducible assumption
    | with_reducible exact byte_in
    | with_reducible exact hp.1
    | with_reducible exact hp.2
    | with_reducible exact hp.2.1
    | with_reducible exact hp.2.2
    | (simp [std] at * <;> lia)
    | rfl
  all_goals (try simp only [sd_eqI, sd_eqS, sd_eqB, eta_ts, eta_bd, eta_pl, eta_la, eta_su] at *)
  all_goals first
    | simp only [qePl, *, Bool.true_and, Bool.false_and, Bool.and_true]
def sp_l_eqLast (p : Pr) : FSpec := fsp (ac (aA aLa) (a1 (aA aLa))) (fun (a, b) => True) (fun (a, b) => .b (qeLa a b))
theorem ok_l_eqLast : FOk Tryz.prog 60 (sp_l_eqLast std) := by
  refine FOk.go (c := cx std [(115, sp_l_eqPlay std)] [] 0) (cx_ok (.cons ok_l_eqPlay .nil) .nil) mixed Tryz.func60 rfl rfl rfl (by kernel_rfl) ?_
  rintro ⟨a, b⟩ hp
  dsimp only at hp
  refine ⟨rfl, ?_⟩
  unfold sp_l_eqPlay
  generalize hP : std = p
  generalize hB0 : qeLa = B0
  generalize hB1 : qePl = B1
  cbv
  repeat' first
    | (refine fun (_ : Unit) => ?_; cbv)
    | (refine And.intro (fun h => ?_) (fun h => ?_) <;> cbv)
    | (refine And.intro ?_ ?_)
    | (refine Or.inl (fun (_ : Unit) => ?_); cbv)
  all_goals subst hP hB0 hB1
  all_goals try first
    | exact True.intro
    | with_reducible assumption
    | with_reducible exact byte_in
    | with_reducible exact hp.1
    | with_reducible exact hp.2
    | with_reducible exact hp.2.1
    | with_reducible exact hp.2.2
    | (simp [std] at * <;> lia)
    | rfl
  all_goals (try simp only [sd_eqI, sd_eqS, sd_eqB, eta_ts, eta_bd, eta_pl, eta_la, eta_su] at *)
  all_goals first
    | simp only [qeLa, *, Bool.true_and, Bool.false_and, Bool.and_true]
def sp_l_eqSetup (p : Pr) : FSpec := fsp (ac (aA aSu) (a1 (aA aSu))) (fun (a, b) => SuN a) (fun (a, b) => .b (qeSu a b))
theorem ok_l_eqSetup : FOk Tryz.prog 56 (sp_l_eqSetup std) := by
  refine FOk.go (c := cx std [(113, sp_l_eqTileSet std), (114, sp_l_eqLexicon std), (57, sp_l_eqBoard std)] [] 0) (cx_ok (.cons ok_l_eqTileSet (.cons ok_l_eqLexicon (.cons ok_l_eqBoard .nil))) .nil) mixed Tryz.func56 rfl rfl rfl (by kernel_rfl) ?_
  rintro ⟨a, b⟩ hp
  dsimp only at hp
  refine ⟨rfl, ?_⟩
  unfold sp_l_eqTileSet sp_l_eqLexicon sp_l_eqBoard
  generalize hP : std = p
  generalize hB0 : qeSu = B0
  generalize hB1 : qeTs = B1
  generalize hB2 : qeW = B2
  generalize hB3 : qeBd = B3
  cbv
  repeat' first
    | (refine fun (_ : Unit) => ?_; cbv)
    | (refine And.intro (fun h => ?_) (fun h => ?_) <;> cbv)
    | (refine And.intro ?_ ?_)
    | (refine Or.inl (fun (_ : Unit) => ?_); cbv)
  all_goals subst hP hB0 hB1 hB2 hB3
  all_goals try first
    | exact True.intro
    | with_reducible assumption
    | with_reducible exact byte_in
    | with_reducible exact hp.1
    | with_reducible exact hp.2
    | with_reducible exact hp.2.1
    | with_reducible exact hp.2.2
    | (simp [std] at * <;> lia)
    | rfl
  all_goals (try simp only [sd_eqI, sd_eqS, sd_eqB, eta_ts, eta_bd, eta_pl, eta_la, eta_su] at *)
  all_goals first
    | exact hp.ts
    | exact hp.l
    | simp only [qeSu, *, Bool.true_and, Bool.false_and, Bool.and_true]
def sp_l_eqGame (p : Pr) : FSpec := fsp (ac (aA aGm) (a1 (aA aGm))) (fun (a, b) => GmN a) (fun (a, b) => .b (qeGm a b))
theorem ok_l_eqGame : FOk Tryz.prog 11 (sp_l_eqGame std) := by
  refine FOk.go (c := cx std [(56, sp_l_eqSetup std), (57, sp_l_eqBoard std), (58, sp_l_eqStringS std), (59, sp_l_eqInt64S std), (60, sp_l_eqLast std)] [] 0) (cx_ok (.cons ok_l_eqSetup (.cons ok_l_eqBoard (.cons ok_l_eqStringS (.cons ok_l_eqInt64S (.cons ok_l_eqLast .nil))))) .nil) mixed Tryz.func11 rfl rfl rfl (by kernel_rfl) ?_
  rintro ⟨a, b⟩ hp
  dsimp only at hp
  refine ⟨rfl, ?_⟩
  unfold sp_l_eqSetup sp_l_eqBoard sp_l_eqStringS sp_l_eqInt64S sp_l_eqLast
  generalize hP : std = p
  generalize hB0 : qeGm = B0
  generalize hB1 : qeSu = B1
  generalize hB2 : qeBd = B2
  generalize hB3 : qeW = B3
  generalize hB4 : qeN = B4
  generalize hB5 : qeLa = B5
  cbv
  repeat' first
    | (refine fun (_ : Unit) => ?_; cbv)
    | (refine And.intro (fun h => ?_) (fun h => ?_) <;> cbv)
    | (refine And.intro ?_ ?_)
    | (refine Or.inl (fun (_ : Unit) => ?_); cbv)
  all_goals subst hP hB0 hB1 hB2 hB3 hB4 hB5
  all_goals try first
    | exact True.intro
    | with_reducible assumption
    | with_reducible exact byte_in
    | with_reducible exact hp.1
    | with_reducible exact hp.2
    | with_reducible exact hp.2.1
    | with_reducible exact hp.2.2
    | (simp [std] at * <;> lia)
    | rfl
  all_goals (try simp only [sd_eqI, sd_eqS, sd_eqB, eta_ts, eta_bd, eta_pl, eta_la, eta_su] at *)
  all_goals first
    | exact hp.su
    | exact hp.r
    | exact hp.s
    | exact hp.k
    | simp only [qeGm, *, Bool.true_and, Bool.false_and, Bool.and_true]
end Ax
end Go.Proofs.YtdojdfminchlaaaGreatDoor
/-
  The laws package: marks laid into rows, tile sets, games.
  Conditions: none.
-/
namespace Go.Proofs.YtdojdfminchlaaaGreatDoor
namespace Ax
set_option maxRecDepth 100000
set_option maxHeartbeats 2000000
def digI : Nat → Nat → List UInt8 → List UInt8
  | 0, _, out => out
  | f + 1, n, out => if n = 0 then out else digI f (n / 10) (UInt8.ofNat (48 + n % 10) :: out)
theorem digI_fuel : ∀ (f n : Nat) (out : List UInt8), n ≤ f → digI f n out = digI n n out
  | 0, n, out, h => by obtain rfl : n = 0 := by omega
                       rfl
  | f + 1, 0, out, _ => by simp [digI]
  | f + 1, n + 1, out, h => by
    rw [digI, digI, if_neg (by omega), if_neg (by omega), digI_fuel f _ _ (by omega), digI_fuel n _ _ (by omega)]
theorem digI_step {n : Nat} (h : n ≠ 0) (out : List UInt8) : digI n n out = digI (n / 10) (n / 10) (UInt8.ofNat (48 + n % 10) :: out) := by
  obtain ⟨m, rfl⟩ : ∃ m, n = m + 1 := ⟨n - 1, by omega⟩
  rw [digI, if_neg h, digI_fuel m _ _ (by omega)]
def markI (k : Int) : List UInt8 := if k ≤ 0 then [109, 48] else 109 :: digI k.toNat k.toNat []
def marksW (k : Int) (n : Nat) : List (List UInt8) := (List.range n).map fun i : Nat => markI (k + (i : Int))
def marksN (k : Int) (n : Nat) : List Int := (List.range n).map fun i : Nat => k + (i : Int)
theorem marksW_len (k : Int) (n : Nat) : (marksW k n).length = n := by simp [marksW]
theorem marksN_len (k : Int) (n : Nat) : (marksN k n).length = n := by simp [marksN]
def markW (k : Int) (l : List (List UInt8)) : List (List UInt8) := marksW k l.length
def markN (k : Int) (l : List Int) : List Int := marksN k l.length
def toW (k : Int) (l : List (List UInt8)) (i : Int) : List (List UInt8) := marksW k i.toNat ++ l.drop i.toNat
def toN (k : Int) (l : List Int) (i : Int) : List Int := marksN k i.toNat ++ l.drop i.toNat
def endW (k : Int) (l : List (List UInt8)) : Int := k + l.length
def endN (k : Int) (l : List Int) : Int := k + l.length
section
variable {k i : Int} {l : List (List UInt8)} {m : List Int}
theorem toW_0 : toW k l 0 = l := by simp [toW, marksW]
theorem toN_0 : toN k m 0 = m := by simp [toN, marksN]
theorem toW_n (h : (l.length : Int) ≤ i) (h1 : i ≤ l.length) : toW k l i = markW k l := by
  rw [toW, dn h, List.append_nil, markW, show i.toNat = l.length by omega]
theorem toN_n (h : (m.length : Int) ≤ i) (h1 : i ≤ m.length) : toN k m i = markN k m := by
  rw [toN, dn h, List.append_nil, markN, show i.toNat = m.length by omega]
theorem toW_s (h0 : 0 ≤ i) (h : i < l.length) : (toW k l i).set i.toNat (markI (k + i)) = toW k l (i + 1) := by
  unfold toW
  rw [List.set_append_right _ _ (by rw [marksW_len]; omega), marksW_len, Nat.sub_self, dc h0 h [], List.set_cons_zero, show (i + 1).toNat = i.toNat + 1 by omega, marksW, marksW, List.range_succ, List.map_append, List.append_assoc]
  simp [show ((i.toNat : Nat) : Int) = i by omega]
theorem toN_s (h0 : 0 ≤ i) (h : i < m.length) : (toN k m i).set i.toNat (k + i) = toN k m (i + 1) := by
  unfold toN
  rw [List.set_append_right _ _ (by rw [marksN_len]; omega), marksN_len, Nat.sub_self, dc h0 h 0, List.set_cons_zero, show (i + 1).toNat = i.toNat + 1 by omega, marksN, marksN, List.range_succ, List.map_append, List.append_assoc]
  simp [show ((i.toNat : Nat) : Int) = i by omega]
theorem toW_l (h0 : 0 ≤ i) (h : i ≤ l.length) : (toW k l i).length = l.length := by
  unfold toW; rw [List.length_append, marksW_len, List.length_drop]; omega
theorem toN_l (h0 : 0 ≤ i) (h : i ≤ m.length) : (toN k m i).length = m.length := by
  unfold toN; rw [List.length_append, marksN_len, List.length_drop]; omega
end
structure KnP {α : Type} (k : Int) (l : List α) : Prop where
  lo : 0 ≤ k
  hi : k ≤ 1099511627776
  n : (l.length : Int) ≤ 1073741824
/-- A row that is changed, and a number. -/
def mN : MArgs (List Int × Int) := ⟨fun H l => match H, l with
  | [x], [.osl 0, .i .i64 k] => match hN x with
    | some (0, L) => some (L, k)
    | _ => none
  | _, _ => none, fun a => [(0, .own [.i .i64] a.1 2)], fun a => [.osl 0, .i .i64 a.2], fun H l a h => by
    split at h
    · split at h
      · rename_i h0
        cases h
        exact ⟨by rw [hN_ok h0], rfl⟩
      · cases h
    · cases h⟩
def mW : MArgs (List (List UInt8) × Int) := ⟨fun H l => match H, l with
  | [x], [.osl 0, .i .i64 k] => match hW x with
    | some (0, L) => some (L, k)
    | _ => none
  | _, _ => none, fun a => [(0, .own [.s] a.1 9)], fun a => [.osl 0, .i .i64 a.2], fun H l a h => by
    split at h
    · split at h
      · rename_i h0
        cases h
        exact ⟨by rw [hW_ok h0], rfl⟩
      · cases h
    · cases h⟩
def mLx : MArgs (List (List UInt8) × Int) := ⟨fun H l => match H, l with
  | [x], [.agg [.osl 0], .i .i64 k] => match hW x with
    | some (0, L) => some (L, k)
    | _ => none
  | _, _ => none, fun a => [(0, .own [.s] a.1 9)], fun a => [.agg [.osl 0], .i .i64 a.2], fun H l a h => by
    split at h
    · split at h
      · rename_i h0
        cases h
        exact ⟨by rw [hW_ok h0], rfl⟩
      · cases h
    · cases h⟩
def mTs : MArgs (TS × Int) := ⟨fun H l => match H, l with
  | [x, y], [.agg [.s a, .osl 0, .osl 1, .i .i64 d], .i .i64 k] => match hN x, hN y with
    | some (0, v), some (1, c) => some (⟨a, v, c, d⟩, k)
    | _, _ => none
  | _, _ => none, fun a => [(0, .own [.i .i64] a.1.values 2), (1, .own [.i .i64] a.1.counts 2)], fun a => [.agg (tsK a.1 (.osl 0) (.osl 1)), .i .i64 a.2], fun H l a h => by
    split at h
    · split at h
      · rename_i h0 h1
        cases h
        exact ⟨by rw [hN_ok h0, hN_ok h1], rfl⟩
      · cases h
    · cases h⟩
def mSu : MArgs (Su × Int) := ⟨fun H l => match H, l with
  | [x, y, z], [.agg [.s a, .osl 0, .osl 1, .i .i64 d, .osl 2, .i .i64 e, .s f, .s g, .i .i64 i, .i .i64 j], .i .i64 k] => match hN x, hN y, hW z with
    | some (0, v), some (1, c), some (2, w) => some (⟨⟨a, v, c, d⟩, w, ⟨e, f, g⟩, i, j⟩, k)
    | _, _, _ => none
  | _, _ => none, fun a => [(0, .own [.i .i64] a.1.ts.values 2), (1, .own [.i .i64] a.1.ts.counts 2), (2, .own [.s] a.1.lex 9)], fun a => [.agg (suK a.1 (.osl 0) (.osl 1) (.osl 2)), .i .i64 a.2], fun H l a h => by
    split at h
    · split at h
      · rename_i h0 h1 h2
        cases h
        exact ⟨by rw [hN_ok h0, hN_ok h1, hW_ok h2], rfl⟩
      · cases h
    · cases h⟩
def gmH6d : AH → Option (List Int × List Int × List (List UInt8) × List (List UInt8) × List Int × List Int)
  | [x0, x1, x2, x3, x4, x5] => match hN x0, hN x1, hW x2, hW x3, hN x4, hN x5 with
    | some (0, v), some (1, c), some (2, l), some (3, r), some (4, s), some (5, k) => some (v, c, l, r, s, k)
    | _, _, _, _, _, _ => none
  | _ => none
theorem gmH6d_ok {H : AH} {v c : List Int} {l r : List (List UInt8)} {s k : List Int} (h : gmH6d H = some (v, c, l, r, s, k)) (g : Gm) : H = gmH6 (fillG g v c l r s k) := by
  unfold gmH6d at h
  split at h
  · split at h
    · rename_i h0 h1 h2 h3 h4 h5
      cases h
      rw [hN_ok h0, hN_ok h1, hW_ok h2, hW_ok h3, hN_ok h4, hN_ok h5]
      rfl
    · cases h
  · cases h
def gmO6d (l : List PV) : Option Gm := match gmO l with
  | some (g, [.osl 0, .osl 1, .osl 2, .osl 3, .osl 4, .osl 5]) => some g
  | _ => none
/-- A game whose rows are changed. -/
def mGm6 : MArgs (Gm × Int) := ⟨fun H l => match l with
  | [.agg x, .i .i64 k] => match gmO6d x, gmH6d H with
    | some g, some (v, c, lx, r, s, ck) => some (fillG g v c lx r s ck, k)
    | _, _ => none
  | _ => none, fun a => gmH6 a.1, fun a => [.agg (gmO6 a.1), .i .i64 a.2], fun H l a h => by
    split at h
    · split at h
      · rename_i h0 h1
        cases h
        unfold gmO6d at h0
        split at h0
        · rename_i h2
          cases h0
          obtain ⟨v, c, lx, rk, sc, ck, hx, rfl⟩ := gmO_eq h2
          cases hx
          exact ⟨gmH6d_ok h1 _, rfl⟩
        · cases h0
      · cases h
    · cases h⟩
def endTs (k : Int) (t : TS) : Int := endN (endN k t.values) t.counts
def endSu (k : Int) (u : Su) : Int := endW (endTs k u.ts) u.lex
def endG1 (k : Int) (g : Gm) : Int := endW (endSu k (gSu g)) g.racks
def endG2 (k : Int) (g : Gm) : Int := endN (endG1 k g) g.scores
def endGm (k : Int) (g : Gm) : Int := endN (endG2 k g) g.clocks
def markGm (k : Int) (g : Gm) : Gm := fillG g (markN k g.ts.values) (markN (endN k g.ts.values) g.ts.counts) (markW (endTs k g.ts) g.lex) (markW (endSu k (gSu g)) g.racks) (markN (endG1 k g) g.scores) (markN (endG2 k g) g.clocks)
def sp_l_markText (p : Pr) : FSpec := fsp (a1 aI) (fun k => p.leP 0 k ∧ p.leP k 1152921504606846976) (fun k => .s (markI k))
theorem ok_l_markText : FOk Tryz.prog 118 (sp_l_markText std) := by
  refine FOk.go (c := cx std [] [] 0) (cx_ok .nil .nil) mixed Tryz.func118 rfl rfl rfl (by kernel_rfl) ?_
  rintro k hp
  refine ⟨rfl, ?_⟩
  obtain ⟨H, hH⟩ : ∃ H : Hd (Int × List UInt8), H = ⟨fun (m, out) => 0 ≤ m ∧ m ≤ k ∧ out.length + m ≤ 1152921504606846976 ∧ digI m.toNat m.toNat out = digI k.toNat k.toNat [], fun (m, out) => m.toNat, (· < ·)⟩ := ⟨_, rfl⟩
  have hl : ∀ m n, H.lt m n → m < n := by subst hH; exact fun _ _ h => h
  generalize hP : std = p
  generalize hB0 : markI = B0
  cbv
  repeat' first
    | (refine fun (_ : Unit) => ?_; cbv)
    | (refine Or.inr ⟨6, [], [.s 0 (.i .i64), .s 3 .s], [], [], H, rfl, hl, ?_, fun ((m, out) : Int × List UInt8) hk => ?_⟩ <;> cbv)
    | (refine And.intro (fun h => ?_) (fun h => ?_) <;> cbv)
    | (refine And.intro ?_ ?_)
  all_goals subst hP hB0 hH
  all_goals clear hl
  all_goals try dsimp only at hk
  all_goals try dsimp only
  all_goals try first
    | exact True.intro
    | with_reducible assumption
    | with_reducible exact byte_in
    | with_reducible exact hp.1
    | with_reducible exact hp.2
    | with_reducible exact hp.2.1
    | with_reducible exact hp.2.2
    | (simp [std] at * <;> lia)
    | rfl
  · rw [markI, if_pos (show k ≤ 0 by simpa using h)]
  all_goals obtain ⟨q0, q1, q2, q3⟩ := hk
  all_goals have q2 : (out.length : Int) + m ≤ 1152921504606846976 := q2
  all_goals have hk0 : 0 < k := by have : std.leI k 0 = false := (by assumption); simpa using this
  · exact in64 (by show _ ≤ (1 : Int) + (out.length : Int) ∧ (1 : Int) + (out.length : Int) ≤ _; omega)
  · have hm : 0 < m := lt_of h
    have e1 : std.rem m 10 = m % 10 := rem_nn q0
    have e2 : std.quo m 10 = m / 10 := quo_nn q0
    have e3 : std.app (std.toS [std.add 48 (std.rem m 10)]) out = UInt8.ofNat (48 + m.toNat % 10) :: out := by
      rw [e1]
      show UInt8.ofNat (48 + m % 10).toNat :: out = _
      rw [show (48 + m % 10).toNat = 48 + m.toNat % 10 by omega]
    show 0 ≤ std.quo m 10 ∧ std.quo m 10 ≤ k ∧ ((std.app (std.toS [std.add 48 (std.rem m 10)]) out).length : Int) + std.quo m 10 ≤ 1152921504606846976 ∧ digI (std.quo m 10).toNat (std.quo m 10).toNat (std.app (std.toS [std.add 48 (std.rem m 10)]) out) = digI k.toNat k.toNat []
    rw [e2, e3]
    have g1 : ((UInt8.ofNat (48 + m.toNat % 10) :: out).length : Int) = (out.length : Int) + 1 := rfl
    refine ⟨by omega, by omega, by omega, ?_⟩
    rw [← q3, digI_step (n := m.toNat) (by omega) out, show (m / 10).toNat = m.toNat / 10 by omega]
  · have hm : m ≤ 0 := ge_of h
    show 109 :: out = markI k
    rw [markI, if_neg (by omega), ← q3, show m.toNat = 0 by omega]; rfl
def sp_l_markInt64S (p : Pr) : MSpec := msp mN (fun (l, k) => KnP k l) (fun (l, k) => .i .i64 (endN k l)) (fun (l, k) => [(0, .own [.i .i64] (markN k l) 2)])
theorem ok_l_markInt64S : MOk Tryz.prog 63 (sp_l_markInt64S std) := by
  refine MOk.go (c := cx std [] [] 1) (cx_ok .nil .nil) mixed Tryz.func63 rfl rfl (by kernel_rfl) ?_
  rintro ⟨l, k⟩ hp
  dsimp only at hp
  refine ⟨rfl, ?_⟩
  obtain ⟨H, hH⟩ : ∃ H : Hd (Int × Int × List Int), H = ⟨fun (m, i, L) => 0 ≤ i ∧ i ≤ l.length ∧ m = k + i ∧ L = toN k l i, fun (m, i, L) => (l.length - i).toNat, (· < ·)⟩ := ⟨_, rfl⟩
  have hl : ∀ m n, H.lt m n → m < n := by subst hH; exact fun _ _ h => h
  generalize hP : std = p
  generalize hB0 : endN = B0
  generalize hB1 : markN = B1
  generalize hB2 : toN = B2
  cbv
  repeat' first
    | (refine fun (_ : Unit) => ?_; cbv)
    | (refine Or.inr ⟨6, [], [.s 1 (.i .i64), .s 5 (.i .i64), .o 0 [.i .i64]], [], [], H, rfl, hl, ?_, fun ((m, i, L) : Int × Int × List Int) hk => ?_⟩ <;> cbv)
    | (refine And.intro (fun h => ?_) (fun h => ?_) <;> cbv)
    | (refine And.intro ?_ ?_)
  all_goals subst hP hB0 hB1 hB2 hH
  all_goals clear hl
  all_goals try dsimp only at hk
  all_goals try dsimp only
  all_goals try first
    | exact True.intro
    | with_reducible assumption
    | with_reducible exact byte_in
    | with_reducible exact hp.1
    | with_reducible exact hp.2
    | with_reducible exact hp.2.1
    | with_reducible exact hp.2.2
    | (simp [std] at * <;> lia)
    | rfl
  · exact ⟨Int.le_refl 0, Int.natCast_nonneg _, by omega, toN_0.symm⟩
  all_goals obtain ⟨q0, q1, rfl, rfl⟩ := hk
  all_goals have q1 : i ≤ (l.length : Int) := q1
  all_goals have hl := toN_l (k := k) q0 q1
  all_goals have b1 := hp.lo
  all_goals have b2 := hp.hi
  all_goals have b3 := hp.n
  all_goals try (have hlt : i < (l.length : Int) := by have h7 : i < ((toN k l i).length : Int) := lt_of (by assumption); omega)
  all_goals try (have hge : (l.length : Int) ≤ i := by have h7 : ((toN k l i).length : Int) ≤ i := ge_of (by assumption); omega)
  · exact in64 (by show _ ≤ k + i + 1 ∧ k + i + 1 ≤ _; omega)
  · exact in64 (by show _ ≤ i + 1 ∧ i + 1 ≤ _; omega)
  · exact ⟨by show 0 ≤ i + 1; omega, by show i + 1 ≤ (l.length : Int); omega, by show k + i + 1 = k + (i + 1); omega, toN_s q0 hlt⟩
  · show ((l.length : Int) - (i + 1)).toNat < ((l.length : Int) - i).toNat
    omega
  · rw [toN_n hge q1]
  · show k + i = k + (l.length : Int)
    omega
def sp_l_markStringS (p : Pr) : MSpec := msp mW (fun (l, k) => KnP k l) (fun (l, k) => .i .i64 (endW k l)) (fun (l, k) => [(0, .own [.s] (markW k l) 9)])
theorem ok_l_markStringS : MOk Tryz.prog 62 (sp_l_markStringS std) := by
  refine MOk.go (c := cx std [(118, sp_l_markText std)] [] 1) (cx_ok (.cons ok_l_markText .nil) .nil) mixed Tryz.func62 rfl rfl (by kernel_rfl) ?_
  rintro ⟨l, k⟩ hp
  dsimp only at hp
  refine ⟨rfl, ?_⟩
  unfold sp_l_markText
  obtain ⟨H, hH⟩ : ∃ H : Hd (Int × Int × List (List UInt8)), H = ⟨fun (m, i, L) => 0 ≤ i ∧ i ≤ l.length ∧ m = k + i ∧ L = toW k l i, fun (m, i, L) => (l.length - i).toNat, (· < ·)⟩ := ⟨_, rfl⟩
  have hl : ∀ m n, H.lt m n → m < n := by subst hH; exact fun _ _ h => h
  generalize hP : std = p
  generalize hB0 : endW = B0
  generalize hB1 : markW = B1
  generalize hB2 : markI = B2
  generalize hB3 : toW = B3
  cbv
  repeat' first
    | (refine fun (_ : Unit) => ?_; cbv)
    | (refine Or.inr ⟨6, [], [.s 1 (.i .i64), .s 5 (.i .i64), .o 0 [.s]], [], [], H, rfl, hl, ?_, fun ((m, i, L) : Int × Int × List (List UInt8)) hk => ?_⟩ <;> cbv)
    | (refine And.intro (fun h => ?_) (fun h => ?_) <;> cbv)
    | (refine And.intro ?_ ?_)
  all_goals subst hP hB0 hB1 hB2 hB3 hH
  all_goals clear hl
  all_goals try dsimp only at hk
  all_goals try dsimp only
  all_goals try first
    | exact True.intro
    | with_reducible assumption
    | with_reducible exact byte_in
    | with_reducible exact hp.1
    | with_reducible exact hp.2
    | with_reducible exact hp.2.1
    | with_reducible exact hp.2.2
    | (simp [std] at * <;> lia)
    | rfl
  · exact ⟨Int.le_refl 0, Int.natCast_nonneg _, by omega, toW_0.symm⟩
  all_goals obtain ⟨q0, q1, rfl, rfl⟩ := hk
  all_goals have q1 : i ≤ (l.length : Int) := q1
  all_goals have hl := toW_l (k := k) q0 q1
  all_goals have b1 := hp.lo
  all_goals have b2 := hp.hi
  all_goals have b3 := hp.n
  all_goals try (have hlt : i < (l.length : Int) := by have h7 : i < ((toW k l i).length : Int) := lt_of (by assumption); omega)
  all_goals try (have hge : (l.length : Int) ≤ i := by have h7 : ((toW k l i).length : Int) ≤ i := ge_of (by assumption); omega)
  · show 0 ≤ k + i
    have := hp.lo; omega
  · show k + i ≤ 1152921504606846976
    have := hp.n; have := hp.hi; omega
  · exact in64 (by show _ ≤ k + i + 1 ∧ k + i + 1 ≤ _; omega)
  · exact in64 (by show _ ≤ i + 1 ∧ i + 1 ≤ _; omega)
  · exact ⟨by show 0 ≤ i + 1; omega, by show i + 1 ≤ (l.length : Int); omega, by show k + i + 1 = k + (i + 1); omega, toW_s q0 hlt⟩
  · show ((l.length : Int) - (i + 1)).toNat < ((l.length : Int) - i).toNat
    omega
  · rw [toW_n hge q1]
  · show k + i = k + (l.length : Int)
    omega
structure KnT (k : Int) (t : TS) : Prop where
  lo : 0 ≤ k
  hi : k ≤ 17179869184
  n : TsN t
structure KnS (k : Int) (u : Su) : Prop where
  lo : 0 ≤ k
  hi : k ≤ 8589934592
  n : SuN u
structure KnG (k : Int) (g : Gm) : Prop where
  lo : 0 ≤ k
  hi : k ≤ 4294967296
  n : GmN g
def sp_l_markTileSet (p : Pr) : MSpec := msp mTs (fun (t, k) => KnT k t) (fun (t, k) => .i .i64 (endTs k t)) (fun (t, k) => [(0, .own [.i .i64] (markN k t.values) 2), (1, .own [.i .i64] (markN (endN k t.values) t.counts) 2)])
theorem ok_l_markTileSet : MOk Tryz.prog 116 (sp_l_markTileSet std) := by
  refine MOk.go (c := cx std [] [(63, sp_l_markInt64S std)] 2) (cx_ok .nil (.cons ok_l_markInt64S .nil)) mixed Tryz.func116 rfl rfl (by kernel_rfl) ?_
  rintro ⟨t, k⟩ hp
  dsimp only at hp
  refine ⟨rfl, ?_⟩
  unfold sp_l_markInt64S
  generalize hP : std = p
  generalize hB0 : endN = B0
  generalize hB1 : markN = B1
  generalize hB2 : endTs = B2
  cbv
  repeat' first
    | (refine fun (_ : Unit) => ?_; cbv)
    | (refine And.intro (fun h => ?_) (fun h => ?_) <;> cbv)
    | (refine And.intro ?_ ?_)
    | (refine Or.inl (fun (_ : Unit) => ?_); cbv)
  all_goals subst hP hB0 hB1 hB2
  all_goals try first
    | exact True.intro
    | with_reducible assumption
    | with_reducible exact byte_in
    | with_reducible exact hp.1
    | with_reducible exact hp.2
    | with_reducible exact hp.2.1
    | with_reducible exact hp.2.2
    | (simp [std] at * <;> lia)
    | rfl
  all_goals have b1 := hp.lo
  all_goals have b2 := hp.hi
  all_goals have b3 := hp.n.v
  all_goals have b4 := hp.n.c
  · exact ⟨b1, by omega, b3⟩
  · exact ⟨by show 0 ≤ k + (t.values.length : Int); omega, by show k + (t.values.length : Int) ≤ _; omega, b4⟩
def sp_l_markLexicon (p : Pr) : MSpec := msp mLx (fun (l, k) => KnP k l) (fun (l, k) => .i .i64 (endW k l)) (fun (l, k) => [(0, .own [.s] (markW k l) 9)])
theorem ok_l_markLexicon : MOk Tryz.prog 117 (sp_l_markLexicon std) := by
  refine MOk.go (c := cx std [] [(62, sp_l_markStringS std)] 1) (cx_ok .nil (.cons ok_l_markStringS .nil)) mixed Tryz.func117 rfl rfl (by kernel_rfl) ?_
  rintro ⟨l, k⟩ hp
  dsimp only at hp
  refine ⟨rfl, ?_⟩
  unfold sp_l_markStringS
  generalize hP : std = p
  generalize hB0 : endW = B0
  generalize hB1 : markW = B1
  cbv
  repeat' first
    | (refine fun (_ : Unit) => ?_; cbv)
    | (refine And.intro (fun h => ?_) (fun h => ?_) <;> cbv)
    | (refine And.intro ?_ ?_)
    | (refine Or.inl (fun (_ : Unit) => ?_); cbv)
  all_goals subst hP hB0 hB1
  all_goals try first
    | exact True.intro
    | with_reducible assumption
    | with_reducible exact byte_in
    | with_reducible exact hp.1
    | with_reducible exact hp.2
    | with_reducible exact hp.2.1
    | with_reducible exact hp.2.2
    | (simp [std] at * <;> lia)
    | rfl
def sp_l_markSetup (p : Pr) : MSpec := msp mSu (fun (u, k) => KnS k u) (fun (u, k) => .i .i64 (endSu k u)) (fun (u, k) => [(0, .own [.i .i64] (markN k u.ts.values) 2), (1, .own [.i .i64] (markN (endN k u.ts.values) u.ts.counts) 2), (2, .own [.s] (markW (endTs k u.ts) u.lex) 9)])
theorem ok_l_markSetup : MOk Tryz.prog 61 (sp_l_markSetup std) := by
  refine MOk.go (c := cx std [] [(116, sp_l_markTileSet std), (117, sp_l_markLexicon std)] 3) (cx_ok .nil (.cons ok_l_markTileSet (.cons ok_l_markLexicon .nil))) mixed Tryz.func61 rfl rfl (by kernel_rfl) ?_
  rintro ⟨u, k⟩ hp
  dsimp only at hp
  refine ⟨rfl, ?_⟩
  unfold sp_l_markTileSet sp_l_markLexicon
  generalize hP : std = p
  generalize hB0 : endN = B0
  generalize hB1 : markN = B1
  generalize hB2 : endTs = B2
  generalize hB3 : endSu = B3
  generalize hB4 : markW = B4
  generalize hB5 : endW = B5
  cbv
  repeat' first
    | (refine fun (_ : Unit) => ?_; cbv)
    | (refine And.intro (fun h => ?_) (fun h => ?_) <;> cbv)
    | (refine And.intro ?_ ?_)
    | (refine Or.inl (fun (_ : Unit) => ?_); cbv)
  all_goals subst hP hB0 hB1 hB2 hB3 hB4 hB5
  all_goals try first
    | exact True.intro
    | with_reducible assumption
    | with_reducible exact byte_in
    | with_reducible exact hp.1
    | with_reducible exact hp.2
    | with_reducible exact hp.2.1
    | with_reducible exact hp.2.2
    | (simp [std] at * <;> lia)
    | rfl
  all_goals have b1 := hp.lo
  all_goals have b2 := hp.hi
  all_goals have b3 := hp.n.ts.v
  all_goals have b4 := hp.n.ts.c
  · exact ⟨b1, by omega, hp.n.ts⟩
  · exact ⟨by show 0 ≤ k + (u.ts.values.length : Int) + (u.ts.counts.length : Int); omega, by show k + (u.ts.values.length : Int) + (u.ts.counts.length : Int) ≤ _; omega, hp.n.l⟩
def sp_l_markGame (p : Pr) : MSpec := msp mGm6 (fun (g, k) => KnG k g) (fun (g, k) => .i .i64 (endGm k g)) (fun (g, k) => [(0, .own [.i .i64] (markN k g.ts.values) 2), (1, .own [.i .i64] (markN (endN k g.ts.values) g.ts.counts) 2), (2, .own [.s] (markW (endTs k g.ts) g.lex) 9), (3, .own [.s] (markW (endSu k (gSu g)) g.racks) 9), (4, .own [.i .i64] (markN (endG1 k g) g.scores) 2), (5, .own [.i .i64] (markN (endG2 k g) g.clocks) 2)])
theorem ok_l_markGame : MOk Tryz.prog 12 (sp_l_markGame std) := by
  refine MOk.go (c := cx std [] [(61, sp_l_markSetup std), (62, sp_l_markStringS std), (63, sp_l_markInt64S std)] 6) (cx_ok .nil (.cons ok_l_markSetup (.cons ok_l_markStringS (.cons ok_l_markInt64S .nil)))) mixed Tryz.func12 rfl rfl (by kernel_rfl) ?_
  rintro ⟨g, k⟩ hp
  dsimp only at hp
  refine ⟨rfl, ?_⟩
  unfold sp_l_markSetup sp_l_markStringS sp_l_markInt64S
  generalize hP : std = p
  generalize hB0 : endN = B0
  generalize hB1 : markN = B1
  generalize hB2 : endTs = B2
  generalize hB3 : endSu = B3
  generalize hB4 : markW = B4
  generalize hB5 : endW = B5
  generalize hB6 : endG1 = B6
  generalize hB7 : endG2 = B7
  generalize hB8 : endGm = B8
  cbv
  repeat' first
    | (refine fun (_ : Unit) => ?_; cbv)
    | (refine And.intro (fun h => ?_) (fun h => ?_) <;> cbv)
    | (refine And.intro ?_ ?_)
    | (refine Or.inl (fun (_ : Unit) => ?_); cbv)
  all_goals subst hP hB0 hB1 hB2 hB3 hB4 hB5 hB6 hB7 hB8
  all_goals try first
    | exact True.intro
    | with_reducible assumption
    | with_reducible exact byte_in
    | with_reducible exact hp.1
    | with_reducible exact hp.2
    | with_reducible exact hp.2.1
    | with_reducible exact hp.2.2
    | (simp [std] at * <;> lia)
    | rfl
  all_goals have b1 := hp.lo
  all_goals have b2 := hp.hi
  all_goals have b3 := hp.n.su.ts.v
  all_goals have b4 := hp.n.su.ts.c
  all_goals have b5 := hp.n.su.l
  all_goals have b6 := hp.n.r
  all_goals have b7 := hp.n.s
  all_goals have b3 : (g.ts.values.length : Int) ≤ 1073741824 := b3
  all_goals have b4 : (g.ts.counts.length : Int) ≤ 1073741824 := b4
  all_goals have b5 : (g.lex.length : Int) ≤ 1073741824 := b5
  · exact ⟨b1, by omega, hp.n.su⟩
  · exact ⟨by show 0 ≤ k + (g.ts.values.length : Int) + (g.ts.counts.length : Int) + (g.lex.length : Int); omega, by show k + (g.ts.values.length : Int) + (g.ts.counts.length : Int) + (g.lex.length : Int) ≤ _; omega, hp.n.r⟩
  · exact ⟨by show 0 ≤ k + (g.ts.values.length : Int) + (g.ts.counts.length : Int) + (g.lex.length : Int) + (g.racks.length : Int); omega, by show k + (g.ts.values.length : Int) + (g.ts.counts.length : Int) + (g.lex.length : Int) + (g.racks.length : Int) ≤ _; omega, hp.n.s⟩
  · exact ⟨by show 0 ≤ k + (g.ts.values.length : Int) + (g.ts.counts.length : Int) + (g.lex.length : Int) + (g.racks.length : Int) + (g.scores.length : Int); omega, by show k + (g.ts.values.length : Int) + (g.ts.counts.length : Int) + (g.lex.length : Int) + (g.racks.length : Int) + (g.scores.length : Int) ≤ _; omega, hp.n.k⟩
end Ax
end Go.Proofs.YtdojdfminchlaaaGreatDoor
