/-
  Squares, directions, plays of the impl package: whether a play is valid, its new squares, the board after it; A region that draws its order, the third form: an operation may yield a value that hangs on the world ("free"); S tells what is known of it; strings.Builder; piles of counts, all tiles, of the impl package.
  Conditions: as each part below says.
-/
import Derived.Test.YtdojdfminchlaaaGreatDoorC20
import Derived.Test.YtdojdfminchlaaaGreatDoorC08
import Derived.Test.YtdojdfminchlaaaGreatDoorC19
import Derived.Lib.Builder
import Derived.Lib.UnsafeStr
import Derived.Lib.AppendStr
import Derived.Laws.Externs
import Derived.RegionTactic
import Derived.Laws.Rows
import Derived.Laws.Tables
set_option linter.unusedSimpArgs false
set_option linter.unusedVariables false
/-
  Squares, directions, plays of the impl package: whether a play is valid, its new squares, the board after it.
  Conditions: none.
-/
namespace Go.Proofs.YtdojdfminchlaaaGreatDoor
namespace Ax
set_option maxRecDepth 100000
set_option maxHeartbeats 2000000
def aE : Args Unit := a0
def aSq : Args (Int × Int) := ac aI (a1 aI)
def celV (b : Bd) (r c : Int) : Int := (b.cell r c).toNat
def prmV (b : Bd) (r c : Int) : Int := (b.prm r c).toNat
def srI (q : Pl) (n : Int) : Int := q.sr n
def scI (q : Pl) (n : Int) : Int := q.sc n
theorem ix_in {b : Bd} {r c : Int} (hf : b.Fit) (h : b.inB r c = true) : (0 ≤ r * b.size ∧ r * b.size ≤ 225) ∧ (0 ≤ r * b.size + c ∧ r * b.size + c < b.cells.length ∧ r * b.size + c < b.prem.length ∧ (b.cells.length : Int) ≤ 225) := by
  have h1 := atP_bd ⟨hf, h⟩
  have h2 := hf.prem
  have h3 := hf.cells
  omega
def sp_i_Board_inside (p : Pr) : FSpec := fsp (ac (aA aBd) (ac aI (a1 aI))) (fun (b, r, c) => b.Fit) (fun (b, r, c) => .b (b.inB r c))
theorem ok_i_Board_inside : FOk Tryz.prog 150 (sp_i_Board_inside std) := by
  refine FOk.go (c := cx std [(94, sp_i_within std)] [] 0) (cx_ok (.cons ok_i_within .nil) .nil) mixed Tryz.func150 rfl rfl rfl (by kernel_rfl) ?_
  rintro ⟨b, r, c⟩ hp
  dsimp only at hp
  refine ⟨rfl, ?_⟩
  unfold sp_i_within
  generalize hP : std = p
  generalize hB0 : Bd.inB = B0
  generalize hB1 : inR = B1
  cbv
  repeat' first
    | (refine fun (_ : Unit) => ?_; cbv)
    | (refine And.intro (fun h => ?_) (fun h => ?_) <;> cbv)
    | (refine And.intro ?_ ?_)
    | (refine Or.inl (fun (_ : Unit) => ?_); cbv)
  all_goals subst hP hB0 hB1
  all_goals try first
    | exact True.intro
    | with_reducible assumption
    | with_reducible exact byte_in
    | with_reducible exact hp.1
    | with_reducible exact hp.2
    | with_reducible exact hp.2.1
    | with_reducible exact hp.2.2
    | (simp [std] at * <;> lia)
    | rfl
  · exact in64 (by have := hp.lo; have := hp.hi; show _ ≤ b.size - 1 ∧ b.size - 1 ≤ _; omega)
  · exact in64 (by have := hp.lo; have := hp.hi; show _ ≤ b.size - 1 ∧ b.size - 1 ≤ _; omega)
  · show inR c 0 (b.size - 1) = _
    unfold Bd.inB; rw [show inR r 0 (b.size - 1) = true from h]; rfl
  · unfold Bd.inB; rw [show inR r 0 (b.size - 1) = false from h]; rfl
def sp_i_Board_cell (p : Pr) : FSpec := fsp (ac (aA aBd) (ac aI (a1 aI))) (fun (b, r, c) => b.Fit) (fun (b, r, c) => .i .u8 (celV b r c))
theorem ok_i_Board_cell : FOk Tryz.prog 152 (sp_i_Board_cell std) := by
  refine FOk.go (c := cx std [(150, sp_i_Board_inside std)] [] 0) (cx_ok (.cons ok_i_Board_inside .nil) .nil) mixed Tryz.func152 rfl rfl rfl (by kernel_rfl) ?_
  rintro ⟨b, r, c⟩ hp
  dsimp only at hp
  refine ⟨rfl, ?_⟩
  unfold sp_i_Board_inside
  generalize hP : std = p
  generalize hB0 : celV = B0
  generalize hB1 : Bd.inB = B1
  cbv
  repeat' first
    | (refine fun (_ : Unit) => ?_; cbv)
    | (refine And.intro (fun h => ?_) (fun h => ?_) <;> cbv)
    | (refine And.intro ?_ ?_)
    | (refine Or.inl (fun (_ : Unit) => ?_); cbv)
  all_goals subst hP hB0 hB1
  all_goals try first
    | exact True.intro
    | with_reducible assumption
    | with_reducible exact byte_in
    | with_reducible exact hp.1
    | with_reducible exact hp.2
    | with_reducible exact hp.2.1
    | with_reducible exact hp.2.2
    | (simp [std] at * <;> lia)
    | rfl
  · unfold celV Bd.cell; rw [if_neg (by rw [show b.inB r c = false from h]; simp)]; rfl
  all_goals have f := ix_in hp (show b.inB r c = true from h)
  · exact in64 (by show _ ≤ r * b.size ∧ r * b.size ≤ _; omega)
  · exact in64 (by show _ ≤ r * b.size + c ∧ r * b.size + c ≤ _; omega)
  · exact ⟨f.2.1, f.2.2.1⟩
  · unfold celV Bd.cell; rw [if_pos h]; rfl
def sp_i_Board_premium (p : Pr) : FSpec := fsp (ac (aA aBd) (ac aI (a1 aI))) (fun (b, r, c) => b.Fit ∧ b.inB r c = true) (fun (b, r, c) => .i .u8 (prmV b r c))
theorem ok_i_Board_premium : FOk Tryz.prog 162 (sp_i_Board_premium std) := by
  refine FOk.go (c := cx std [] [] 0) (cx_ok .nil .nil) mixed Tryz.func162 rfl rfl rfl (by kernel_rfl) ?_
  rintro ⟨b, r, c⟩ hp
  dsimp only at hp
  refine ⟨rfl, ?_⟩
  generalize hP : std = p
  generalize hB0 : prmV = B0
  cbv
  repeat' first
    | (refine fun (_ : Unit) => ?_; cbv)
    | (refine And.intro (fun h => ?_) (fun h => ?_) <;> cbv)
    | (refine And.intro ?_ ?_)
    | (refine Or.inl (fun (_ : Unit) => ?_); cbv)
  all_goals subst hP hB0
  all_goals try first
    | exact True.intro
    | with_reducible assumption
    | with_reducible exact byte_in
    | with_reducible exact hp.1
    | with_reducible exact hp.2
    | with_reducible exact hp.2.1
    | with_reducible exact hp.2.2
    | (simp [std] at * <;> lia)
    | rfl
  all_goals have f := ix_in hp.1 hp.2
  · exact in64 (by show _ ≤ r * b.size ∧ r * b.size ≤ _; omega)
  · exact in64 (by show _ ≤ r * b.size + c ∧ r * b.size + c ≤ _; omega)
  · exact ⟨f.2.1, f.2.2.2.1⟩
def sp_i_Board_letter (p : Pr) : FSpec := fsp (ac (aA aBd) (ac aI (a1 aI))) (fun (b, r, c) => b.Fit) (fun (b, r, c) => .b (b.let_ r c))
theorem ok_i_Board_letter : FOk Tryz.prog 203 (sp_i_Board_letter std) := by
  refine FOk.go (c := cx std [(152, sp_i_Board_cell std)] [] 0) (cx_ok (.cons ok_i_Board_cell .nil) .nil) mixed Tryz.func203 rfl rfl rfl (by kernel_rfl) ?_
  rintro ⟨b, r, c⟩ hp
  dsimp only at hp
  refine ⟨rfl, ?_⟩
  unfold sp_i_Board_cell
  generalize hP : std = p
  generalize hB0 : celV = B0
  generalize hB1 : Bd.let_ = B1
  cbv
  repeat' first
    | (refine fun (_ : Unit) => ?_; cbv)
    | (refine And.intro (fun h => ?_) (fun h => ?_) <;> cbv)
    | (refine And.intro ?_ ?_)
    | (refine Or.inl (fun (_ : Unit) => ?_); cbv)
  all_goals subst hP hB0 hB1
  all_goals try first
    | exact True.intro
    | with_reducible assumption
    | with_reducible exact byte_in
    | with_reducible exact hp.1
    | with_reducible exact hp.2
    | with_reducible exact hp.2.1
    | with_reducible exact hp.2.2
    | (simp [std] at * <;> lia)
    | rfl
  · have h1 : celV b r c ≠ 0 := by simpa using h
    have h2 : (b.cell r c == 0) = false := by
      rw [← byte_is (n := 0) (m := 0) rfl, beq_eq_false_iff_ne]; exact h1
    show (match (celV b r c == 46) with | true => false | false => true) = _
    unfold Bd.let_
    rw [h2, ← byte_is (c := b.cell r c) (n := 46) (m := 46) rfl]
    show (match (celV b r c == 46) with | true => false | false => true) = (!false && !(celV b r c == 46))
    cases (celV b r c == 46) <;> rfl
  · have h1 : celV b r c = 0 := by simpa using h
    have h2 : (b.cell r c == 0) = true := by
      rw [← byte_is (n := 0) (m := 0) rfl, beq_iff_eq]; exact h1
    unfold Bd.let_
    rw [h2]; rfl
def sp_i_Board_on (p : Pr) : FSpec := fsp (ac (aA aBd) (a1 (aA aSq))) (fun (b, s) => b.Fit) (fun (b, s) => .b (b.let_ s.1 s.2))
theorem ok_i_Board_on : FOk Tryz.prog 151 (sp_i_Board_on std) := by
  refine FOk.go (c := cx std [(203, sp_i_Board_letter std)] [] 0) (cx_ok (.cons ok_i_Board_letter .nil) .nil) mixed Tryz.func151 rfl rfl rfl (by kernel_rfl) ?_
  rintro ⟨b, s⟩ hp
  dsimp only at hp
  refine ⟨rfl, ?_⟩
  unfold sp_i_Board_letter
  generalize hP : std = p
  generalize hB0 : Bd.let_ = B0
  cbv
  repeat' first
    | (refine fun (_ : Unit) => ?_; cbv)
    | (refine And.intro (fun h => ?_) (fun h => ?_) <;> cbv)
    | (refine And.intro ?_ ?_)
    | (refine Or.inl (fun (_ : Unit) => ?_); cbv)
  all_goals subst hP hB0
  all_goals try first
    | exact True.intro
    | with_reducible assumption
    | with_reducible exact byte_in
    | with_reducible exact hp.1
    | with_reducible exact hp.2
    | with_reducible exact hp.2.1
    | with_reducible exact hp.2.2
    | (simp [std] at * <;> lia)
    | rfl
def sp_i_right_at (p : Pr) : FSpec := fsp (ac (aA aE) (ac aI (ac aI (a1 aI)))) (fun (_u, r, c, n) => p.inK .i64 (p.add c n)) (fun (_u, r, c, n) => .agg [.i .i64 r, .i .i64 (p.add c n)])
theorem ok_i_right_at : FOk Tryz.prog 281 (sp_i_right_at std) := by
  refine FOk.go (c := cx std [] [] 0) (cx_ok .nil .nil) mixed Tryz.func281 rfl rfl rfl (by kernel_rfl) ?_
  rintro ⟨_u, r, c, n⟩ hp
  dsimp only at hp
  refine ⟨rfl, ?_⟩
  generalize hP : std = p
  cbv
  repeat' first
    | (refine fun (_ : Unit) => ?_; cbv)
    | (refine And.intro (fun h => ?_) (fun h => ?_) <;> cbv)
    | (refine And.intro ?_ ?_)
    | (refine Or.inl (fun (_ : Unit) => ?_); cbv)
  all_goals subst hP
  all_goals try first
    | exact True.intro
    | with_reducible assumption
    | with_reducible exact byte_in
    | with_reducible exact hp.1
    | with_reducible exact hp.2
    | with_reducible exact hp.2.1
    | with_reducible exact hp.2.2
    | (simp [std] at * <;> lia)
    | rfl
def sp_i_downwards_at (p : Pr) : FSpec := fsp (ac (aA aE) (ac aI (ac aI (a1 aI)))) (fun (_u, r, c, n) => p.inK .i64 (p.add r n)) (fun (_u, r, c, n) => .agg [.i .i64 (p.add r n), .i .i64 c])
theorem ok_i_downwards_at : FOk Tryz.prog 279 (sp_i_downwards_at std) := by
  refine FOk.go (c := cx std [] [] 0) (cx_ok .nil .nil) mixed Tryz.func279 rfl rfl rfl (by kernel_rfl) ?_
  rintro ⟨_u, r, c, n⟩ hp
  dsimp only at hp
  refine ⟨rfl, ?_⟩
  generalize hP : std = p
  cbv
  repeat' first
    | (refine fun (_ : Unit) => ?_; cbv)
    | (refine And.intro (fun h => ?_) (fun h => ?_) <;> cbv)
    | (refine And.intro ?_ ?_)
    | (refine Or.inl (fun (_ : Unit) => ?_); cbv)
  all_goals subst hP
  all_goals try first
    | exact True.intro
    | with_reducible assumption
    | with_reducible exact byte_in
    | with_reducible exact hp.1
    | with_reducible exact hp.2
    | with_reducible exact hp.2.1
    | with_reducible exact hp.2.2
    | (simp [std] at * <;> lia)
    | rfl
def dirV : Bool → PV
  | true => .raw (.iface 225 (.agg ⟨[]⟩))
  | false => .raw (.iface 226 (.agg ⟨[]⟩))
def sp_i_right_cross (p : Pr) : FSpec := fsp (a1 (aA aE)) (fun _u => True) (fun _u => dirV true)
theorem ok_i_right_cross : FOk Tryz.prog 282 (sp_i_right_cross std) := by
  refine FOk.go (c := cx std [] [] 0) (cx_ok .nil .nil) mixed Tryz.func282 rfl rfl rfl (by kernel_rfl) ?_
  rintro _u hp
  refine ⟨rfl, ?_⟩
  generalize hP : std = p
  cbv
  repeat' first
    | (refine fun (_ : Unit) => ?_; cbv)
    | (refine And.intro (fun h => ?_) (fun h => ?_) <;> cbv)
    | (refine And.intro ?_ ?_)
    | (refine Or.inl (fun (_ : Unit) => ?_); cbv)
  all_goals subst hP
  all_goals try first
    | exact True.intro
    | with_reducible assumption
    | with_reducible exact byte_in
    | with_reducible exact hp.1
    | with_reducible exact hp.2
    | with_reducible exact hp.2.1
    | with_reducible exact hp.2.2
    | (simp [std] at * <;> lia)
    | rfl
def sp_i_downwards_cross (p : Pr) : FSpec := fsp (a1 (aA aE)) (fun _u => True) (fun _u => dirV false)
theorem ok_i_downwards_cross : FOk Tryz.prog 280 (sp_i_downwards_cross std) := by
  refine FOk.go (c := cx std [] [] 0) (cx_ok .nil .nil) mixed Tryz.func280 rfl rfl rfl (by kernel_rfl) ?_
  rintro _u hp
  refine ⟨rfl, ?_⟩
  generalize hP : std = p
  cbv
  repeat' first
    | (refine fun (_ : Unit) => ?_; cbv)
    | (refine And.intro (fun h => ?_) (fun h => ?_) <;> cbv)
    | (refine And.intro ?_ ?_)
    | (refine Or.inl (fun (_ : Unit) => ?_); cbv)
  all_goals subst hP
  all_goals try first
    | exact True.intro
    | with_reducible assumption
    | with_reducible exact byte_in
    | with_reducible exact hp.1
    | with_reducible exact hp.2
    | with_reducible exact hp.2.1
    | with_reducible exact hp.2.2
    | (simp [std] at * <;> lia)
    | rfl
def sp_i_directionOf (p : Pr) : FSpec := fsp (a1 aB) (fun d => True) (fun d => dirV d)
theorem ok_i_directionOf : FOk Tryz.prog 172 (sp_i_directionOf std) := by
  refine FOk.go (c := cx std [] [] 0) (cx_ok .nil .nil) mixed Tryz.func172 rfl rfl rfl (by kernel_rfl) ?_
  rintro d hp
  cases d
  all_goals
    refine ⟨rfl, ?_⟩
    generalize hP : std = p
    cbv
    repeat' first
      | (refine fun (_ : Unit) => ?_; cbv)
      | (refine And.intro (fun h => ?_) (fun h => ?_) <;> cbv)
      | (refine And.intro ?_ ?_)
      | (refine Or.inl (fun (_ : Unit) => ?_); cbv)
  all_goals subst hP
  all_goals try first
    | exact True.intro
    | with_reducible assumption
    | with_reducible exact byte_in
    | with_reducible exact hp.1
    | with_reducible exact hp.2
    | with_reducible exact hp.2.1
    | with_reducible exact hp.2.2
    | (simp [std] at * <;> lia)
    | rfl
structure SqP (q : Pl) (n : Int) : Prop where
  r : std.inK .i64 (q.row + n)
  c : std.inK .i64 (q.col + n)
def sp_i_Play_square (p : Pr) : FSpec := fsp (ac (aA aPl) (a1 aI)) (fun (q, n) => SqP q n) (fun (q, n) => .agg [.i .i64 (srI q n), .i .i64 (scI q n)])
theorem ok_i_Play_square : FOk Tryz.prog 108 (sp_i_Play_square std) := by
  refine FOk.go (c := cx std [(172, sp_i_directionOf std), (281, sp_i_right_at std), (279, sp_i_downwards_at std)] [] 0) (cx_ok (.cons ok_i_directionOf (.cons ok_i_right_at (.cons ok_i_downwards_at .nil))) .nil) mixed Tryz.func108 rfl rfl rfl (by kernel_rfl) ?_
  rintro ⟨q, n⟩ hp
  dsimp only at hp
  obtain ⟨row, col, dn, wd⟩ := q
  cases dn
  all_goals
    refine ⟨rfl, ?_⟩
    unfold sp_i_directionOf sp_i_right_at sp_i_downwards_at
    generalize hP : std = p
    cbv
    repeat' first
      | (refine fun (_ : Unit) => ?_; cbv)
      | (refine And.intro (fun h => ?_) (fun h => ?_) <;> cbv)
      | (refine And.intro ?_ ?_)
      | (refine Or.inl (fun (_ : Unit) => ?_); cbv)
  all_goals subst hP
  all_goals try first
    | exact True.intro
    | with_reducible assumption
    | with_reducible exact byte_in
    | with_reducible exact hp.1
    | with_reducible exact hp.2
    | with_reducible exact hp.2.1
    | with_reducible exact hp.2.2
    | (simp [std] at * <;> lia)
    | rfl
  · exact hp.c
  · exact hp.r
theorem fit_step (b : Bd) (q : Pl) (k : Nat) : fitTo b q (k + 1) = (fitTo b q k && fitQ b q k) := by
  unfold fitTo
  rw [List.range_succ, List.all_append]
  simp
theorem free_step (b : Bd) (q : Pl) (k : Nat) : freeTo b q (k + 1) = (freeTo b q k || (cellQ b q k == 46)) := by
  unfold freeTo
  rw [List.range_succ, List.any_append]
  simp
theorem fit_no {b : Bd} {q : Pl} {k n : Nat} (h : fitQ b q k = false) (hk : k < n) : fitTo b q n = false := by
  unfold fitTo
  rw [List.all_eq_false]
  exact ⟨k, List.mem_range.2 hk, by rw [h]; simp⟩
theorem byte_both (c d : UInt8) : ((c.toNat : Int) == (d.toNat : Int)) = (c == d) := byte_is rfl
theorem wordB_len {s : List UInt8} (h : wordB s = true) : 2 ≤ s.length ∧ s.length ≤ 12 := by
  unfold wordB placedB inR at h
  simp at h
  omega
theorem Fit_in {b : Bd} (hf : b.Fit) {r c : Int} (h : b.inB r c = true) : (0 ≤ r ∧ r ≤ 14) ∧ (0 ≤ c ∧ c ≤ 14) := by
  have h1 := inB_iff.1 h
  have h2 := hf.hi
  omega
theorem sqP_of {q : Pl} {n : Int} (h1 : -1000 ≤ q.row ∧ q.row ≤ 1000) (h2 : -1000 ≤ q.col ∧ q.col ≤ 1000) (h3 : -1000 ≤ n ∧ n ≤ 1000) : SqP q n :=
  ⟨in64 (by omega), in64 (by omega)⟩
theorem k_suc {k : Int} (h : 0 ≤ k) : (std.add k 1).toNat = k.toNat + 1 := by show (k + 1).toNat = _; omega
theorem vk_cell {b : Bd} {q : Pl} {k : Int} (h : 0 ≤ k) : celV b (srI q k) (scI q k) = ((cellQ b q k.toNat).toNat : Int) := by
  unfold celV srI scI cellQ
  rw [Int.toNat_of_nonneg h]
theorem vk_dot {b : Bd} {q : Pl} {k : Int} {x : Bool} (h0 : 0 ≤ k) (h : std.eqI (celV b (srI q k) (scI q k)) 46 = x) : (cellQ b q k.toNat == 46) = x := by
  rw [← h, vk_cell h0]
  exact (byte_is (n := 46) (m := 46) rfl).symm
theorem vk_let {b : Bd} {q : Pl} {k : Int} {x : Bool} (h0 : 0 ≤ k) (h : std.eqI (celV b (srI q k) (scI q k)) (std.byte q.word k) = x) : (cellQ b q k.toNat == q.word.getD k.toNat 0) = x := by
  rw [← h, vk_cell h0]
  exact (byte_both _ _).symm
theorem valid_eq {b : Bd} {q : Pl} (h1 : wordB q.word = true) (h2 : b.inB q.row q.col = true) (h3 : b.inB (srI q (std.sub (std.lenS q.word) 1)) (scI q (std.sub (std.lenS q.word) 1)) = true) (h4 : b.let_ (srI q (-1)) (scI q (-1)) = false) (h5 : b.let_ (srI q (std.lenS q.word)) (scI q (std.lenS q.word)) = false) :
    validI b q = (fitTo b q q.word.length && freeTo b q q.word.length) := by
  have h3 : b.inB (q.sr ((q.word.length : Int) - 1)) (q.sc ((q.word.length : Int) - 1)) = true := h3
  have h4 : b.let_ (q.sr (-1)) (q.sc (-1)) = false := h4
  have h5 : b.let_ (q.sr q.word.length) (q.sc q.word.length) = false := h5
  unfold validI
  rw [h1, h2, h3, h4, h5]
  simp
def sp_i_Play_validOn (p : Pr) : FSpec := fsp (ac (aA aPl) (a1 (aA aBd))) (fun (q, b) => b.Fit ∧ p.leP (p.lenS q.word) 1073741824) (fun (q, b) => .b (validI b q))
theorem ok_i_Play_validOn : FOk Tryz.prog 95 (sp_i_Play_validOn std) := by
  refine FOk.go (c := cx std [(149, sp_i_isMain std), (150, sp_i_Board_inside std), (108, sp_i_Play_square std), (151, sp_i_Board_on std), (152, sp_i_Board_cell std)] [] 0) (cx_ok (.cons ok_i_isMain (.cons ok_i_Board_inside (.cons ok_i_Play_square (.cons ok_i_Board_on (.cons ok_i_Board_cell .nil))))) .nil) mixed Tryz.func95 rfl rfl rfl (by kernel_rfl) ?_
  rintro ⟨q, b⟩ hp
  dsimp only at hp
  refine ⟨rfl, ?_⟩
  unfold sp_i_isMain sp_i_Board_inside sp_i_Play_square sp_i_Board_on sp_i_Board_cell
  obtain ⟨H, hH⟩ : ∃ H : Hd (Int × Bool), H = ⟨fun (k, fr) => 0 ≤ k ∧ k ≤ q.word.length ∧ fitTo b q k.toNat = true ∧ fr = freeTo b q k.toNat, fun (k, fr) => (q.word.length - k).toNat, (· < ·)⟩ := ⟨_, rfl⟩
  have hl : ∀ m n, H.lt m n → m < n := by subst hH; exact fun _ _ h => h
  generalize hP : std = p
  generalize hB0 : validI = B0
  generalize hB1 : wordB = B1
  generalize hB2 : Bd.inB = B2
  generalize hB3 : Bd.let_ = B3
  generalize hB4 : srI = B4
  generalize hB5 : scI = B5
  generalize hB6 : celV = B6
  cbv
  repeat' first
    | (refine fun (_ : Unit) => ?_; cbv)
    | (refine Or.inr ⟨51, [], [.s 7 (.i .i64), .s 6 .b], [], [], H, rfl, hl, ?_, fun ((k, fr) : Int × Bool) hk => ?_⟩ <;> cbv)
    | (refine And.intro (fun h => ?_) (fun h => ?_) <;> cbv)
    | (refine And.intro ?_ ?_)
  all_goals subst hP hB0 hB1 hB2 hB3 hB4 hB5 hB6 hH
  all_goals clear hl
  all_goals try dsimp only at hk
  all_goals try dsimp only
  all_goals try first
    | exact True.intro
    | with_reducible assumption
    | with_reducible exact byte_in
    | with_reducible exact hp.1
    | with_reducible exact hp.2
    | with_reducible exact hp.2.1
    | with_reducible exact hp.2.2
    | (simp [std] at * <;> lia)
    | rfl
  all_goals (try simp only [eta_bd, eta_pl] at *)
  all_goals try (have hw := wordB_len (show wordB q.word = true by assumption))
  all_goals try (have hi := Fit_in hp.1 (show b.inB q.row q.col = true by assumption))
  · unfold validI; simp [*]
  · exact sqP_of (by omega) (by omega) (by show _ ≤ (q.word.length : Int) - 1 ∧ (q.word.length : Int) - 1 ≤ _; omega)
  · exact sqP_of (by omega) (by omega) (by omega)
  · exact sqP_of (by omega) (by omega) (by show _ ≤ (q.word.length : Int) ∧ (q.word.length : Int) ≤ _; omega)
  · unfold validI; simp only [srI, scI, sd_sub, sd_lenS] at *; simp [*]
  · exact ⟨Int.le_refl 0, Int.natCast_nonneg _, rfl, rfl⟩
  · obtain ⟨q0, q1, -, -⟩ := hk
    have q1 : k ≤ (q.word.length : Int) := q1
    exact sqP_of (by omega) (by omega) (by omega)
  all_goals try obtain ⟨q0, q1, q2, q3⟩ := hk
  all_goals try (have q1 : k ≤ (q.word.length : Int) := q1)
  all_goals try (have hlt : k < (q.word.length : Int) := lt_of (by assumption))
  · refine ⟨by show 0 ≤ k + 1; omega, by show k + 1 ≤ (q.word.length : Int); omega, ?_⟩
    rw [k_suc q0, fit_step, free_step, q2, vk_dot q0 h, Bool.or_true]
    refine ⟨?_, rfl⟩
    unfold fitQ; rw [vk_dot q0 h]; rfl
  · rw [valid_eq (by assumption) (by assumption) (by assumption) (by assumption) (by assumption), fit_no (k := k.toNat) ?_ (by omega), Bool.false_and]
    unfold fitQ
    rw [vk_dot q0 (show std.eqI (celV b (srI q k) (scI q k)) 46 = false by assumption), vk_let q0 (by assumption)]; rfl
  · refine ⟨by show 0 ≤ k + 1; omega, by show k + 1 ≤ (q.word.length : Int); omega, ?_⟩
    have hd := vk_dot q0 (show std.eqI (celV b (srI q k) (scI q k)) 46 = false by assumption)
    rw [k_suc q0, fit_step, free_step, q2, hd, Bool.or_false]
    refine ⟨?_, q3⟩
    unfold fitQ
    rw [vk_let q0 (by assumption), Bool.or_true]; rfl
  · have hge := ge_of (show std.ltI k (std.lenS q.word) = false by assumption)
    have e : k.toNat = q.word.length := by have : (q.word.length : Int) ≤ k := hge; omega
    rw [valid_eq (by assumption) (by assumption) (by assumption) (by assumption) (by assumption), q3, ← e, q2]; rfl
  · unfold validI; simp only [srI, scI, sd_sub, sd_lenS] at *; simp [*]
  · unfold validI; simp only [srI, scI, sd_sub, sd_lenS] at *; simp [*]
  · unfold validI; rw [show wordB q.word = false by assumption]; simp
def okI (b : Bd) (q : Pl) : Bool := bdB b && validI b q
def sp_i_ValidPlay (p : Pr) : FSpec := fsp (ac (aA aBd) (a1 (aA aPl))) (fun (b, q) => BdP b ∧ p.leP (p.lenS q.word) 1073741824) (fun (b, q) => .b (okI b q))
theorem ok_i_ValidPlay : FOk Tryz.prog 219 (sp_i_ValidPlay std) := by
  refine FOk.go (c := cx std [(146, sp_i_ValidBoard std), (95, sp_i_Play_validOn std)] [] 0) (cx_ok (.cons ok_i_ValidBoard (.cons ok_i_Play_validOn .nil)) .nil) mixed Tryz.func219 rfl rfl rfl (by kernel_rfl) ?_
  rintro ⟨b, q⟩ hp
  dsimp only at hp
  refine ⟨rfl, ?_⟩
  unfold sp_i_ValidBoard sp_i_Play_validOn
  generalize hP : std = p
  generalize hB0 : okI = B0
  generalize hB1 : bdB = B1
  generalize hB2 : validI = B2
  cbv
  repeat' first
    | (refine fun (_ : Unit) => ?_; cbv)
    | (refine And.intro (fun h => ?_) (fun h => ?_) <;> cbv)
    | (refine And.intro ?_ ?_)
    | (refine Or.inl (fun (_ : Unit) => ?_); cbv)
  all_goals subst hP hB0 hB1 hB2
  all_goals try first
    | exact True.intro
    | with_reducible assumption
    | with_reducible exact byte_in
    | with_reducible exact hp.1
    | with_reducible exact hp.2
    | with_reducible exact hp.2.1
    | with_reducible exact hp.2.2
    | (simp [std] at * <;> lia)
    | rfl
  · exact bdB.fit (show bdB b = true from h)
  · unfold okI; rw [show bdB b = true from h, Bool.true_and]
  · unfold okI; rw [show bdB b = false from h, Bool.false_and]
/-- A valid play on a valid board. -/
structure VP (b : Bd) (q : Pl) : Prop where
  bd : bdB b = true
  fit : b.Fit
  on : OnQ b q
  lett : lettB q.word = true
  lo : 2 ≤ q.word.length
  hi : q.word.length ≤ 12
  r : 0 ≤ q.row ∧ q.row ≤ 14
  c : 0 ≤ q.col ∧ q.col ≤ 14
theorem VP.of {b : Bd} {q : Pl} (hb : bdB b = true) (h : validI b q = true) : VP b q := by
  have hf := bdB.fit hb
  obtain ⟨h1, h2, h3, h4⟩ := validI_facts h
  have h5 := h1 0 (by omega)
  have h6 : q.sr ((0 : Nat) : Int) = q.row := by unfold Pl.sr; split <;> simp
  have h7 : q.sc ((0 : Nat) : Int) = q.col := by unfold Pl.sc; split <;> simp
  rw [h6, h7] at h5
  exact ⟨hb, hf, h1, h2, h3, h4, (Fit_in hf h5).1, (Fit_in hf h5).2⟩
theorem asc_of {s : List UInt8} (h : lettB s = true) : std.asc s := fun c hc => by
  have := List.all_eq_true.1 (lettB_ascii h) c hc
  simpa using this
def nsTo (b : Bd) (q : Pl) (k : Int) : List (Int × Int) := sqL q (newTo b q k.toNat)
def npTo (b : Bd) (q : Pl) (k : Int) : List Int := (newTo b q k.toNat).map fun i : Nat => (i : Int)
def nsI (b : Bd) (q : Pl) : List (Int × Int) := sqL q (newL b q)
def npI (b : Bd) (q : Pl) : List Int := (newL b q).map fun i : Nat => (i : Int)
theorem new_no {b : Bd} {q : Pl} {k : Nat} (h : b.let_ (q.sr k) (q.sc k) = false) : newTo b q (k + 1) = newTo b q k ++ [k] := by
  unfold newTo
  rw [List.range_succ, List.filter_append]
  simp [h]
theorem new_yes {b : Bd} {q : Pl} {k : Nat} (h : b.let_ (q.sr k) (q.sc k) = true) : newTo b q (k + 1) = newTo b q k := by
  unfold newTo
  rw [List.range_succ, List.filter_append]
  simp [h]
def sp_i_newSquares (p : Pr) : FSpec := fsp (ac (aA aBd) (a1 (aA aPl))) (fun (b, q) => VP b q) (fun (b, q) => .tup [.rsl [.i .i64, .i .i64] (nsI b q), .rsl [.i .i64] (npI b q)])
def sp_i_newSquares_o (p : Pr) : FSpec := fsp (ac (aA aBd) (a1 (aA aPl))) (fun (b, q) => VP b q) (fun (b, q) => .tup [.osl 0, .osl 1]) (fun (b, q) => [(0, .own [.i .i64, .i .i64] (nsI b q) 149), (1, .own [.i .i64] (npI b q) 3)])
theorem ok_i_newSquares_o : FOk Tryz.prog 96 (sp_i_newSquares_o std) := by
  refine FOk.go (c := cx std [(108, sp_i_Play_square std), (151, sp_i_Board_on std)] [] 0) (cx_ok (.cons ok_i_Play_square (.cons ok_i_Board_on .nil)) .nil) mixed Tryz.func96 rfl rfl rfl (by kernel_rfl) ?_
  rintro ⟨b, q⟩ hp
  dsimp only at hp
  refine ⟨rfl, ?_⟩
  unfold sp_i_Play_square sp_i_Board_on
  obtain ⟨H, hH⟩ : ∃ H : Hd (Int × List (Int × Int) × List Int), H = ⟨fun (k, S, P) => 0 ≤ k ∧ k ≤ q.word.length ∧ S = nsTo b q k ∧ P = npTo b q k, fun (k, S, P) => (q.word.length - k).toNat, (· < ·)⟩ := ⟨_, rfl⟩
  have hl : ∀ m n, H.lt m n → m < n := by subst hH; exact fun _ _ h => h
  generalize hP : std = p
  generalize hB0 : nsI = B0
  generalize hB1 : npI = B1
  generalize hB2 : Bd.let_ = B2
  generalize hB3 : srI = B3
  generalize hB4 : scI = B4
  cbv
  repeat' first
    | (refine fun (_ : Unit) => ?_; cbv)
    | (refine Or.inr ⟨15, [], [.c 4 0 (.i .i64), .o 2 [.i .i64, .i .i64], .o 3 [.i .i64]], [.s 6, .s 7], [], H, rfl, hl, ?_, fun ((k, S, P) : Int × List (Int × Int) × List Int) hk => ?_⟩ <;> cbv)
    | (refine And.intro (fun h => ?_) (fun h => ?_) <;> cbv)
    | (refine And.intro ?_ ?_)
  all_goals subst hP hB0 hB1 hB2 hB3 hB4 hH
  all_goals clear hl
  all_goals try dsimp only at hk
  all_goals try dsimp only
  all_goals try first
    | exact True.intro
    | with_reducible assumption
    | with_reducible exact byte_in
    | with_reducible exact hp.1
    | with_reducible exact hp.2
    | with_reducible exact hp.2.1
    | with_reducible exact hp.2.2
    | (simp [std] at * <;> lia)
    | rfl
  · exact asc_of hp.lett
  · exact ⟨Int.le_refl 0, Int.natCast_nonneg _, rfl, rfl⟩
  all_goals obtain ⟨q0, q1, rfl, rfl⟩ := hk
  all_goals have q1 : k ≤ (q.word.length : Int) := q1
  all_goals have a1 := hp.r
  all_goals have a2 := hp.c
  all_goals have a3 := hp.hi
  all_goals have a4 := newTo_length b q k.toNat
  all_goals try (have hlt : k < (q.word.length : Int) := lt_of (by assumption))
  · show SqP q k; exact sqP_of (by omega) (by omega) (by omega)
  · show ((nsTo b q k).length : Int) + 1 ≤ _
    unfold nsTo sqL; rw [List.length_map]; omega
  · show ((npTo b q k).length : Int) + 1 ≤ _
    unfold npTo; rw [List.length_map]; omega
  · refine ⟨by show 0 ≤ k + 1; omega, by show k + 1 ≤ (q.word.length : Int); omega, ?_, ?_⟩
    · show nsTo b q k ++ [(q.sr k, q.sc k)] = _
      unfold nsTo
      rw [k_suc q0, new_no (by rw [Int.toNat_of_nonneg q0]; assumption)]
      simp [sqL, Int.toNat_of_nonneg q0]
    · show npTo b q k ++ [k] = _
      unfold npTo
      rw [k_suc q0, new_no (by rw [Int.toNat_of_nonneg q0]; assumption)]
      simp [Int.toNat_of_nonneg q0]
  · refine ⟨by show 0 ≤ k + 1; omega, by show k + 1 ≤ (q.word.length : Int); omega, ?_, ?_⟩
    · unfold nsTo; rw [k_suc q0, new_yes (by rw [Int.toNat_of_nonneg q0]; assumption)]
    · unfold npTo; rw [k_suc q0, new_yes (by rw [Int.toNat_of_nonneg q0]; assumption)]
  all_goals
    have hge : (q.word.length : Int) ≤ k := ge_of (by assumption)
    have e : k.toNat = q.word.length := by omega
  · unfold nsTo; rw [e]; rfl
  · unfold npTo; rw [e]; rfl
theorem ok_i_newSquares : FOk Tryz.prog 96 (sp_i_newSquares std) := FOk.frz ok_i_newSquares_o fun ⟨b, q⟩ => ⟨by simp [deep, deeps, AH.get], by simp [PV.idIn, idInL]⟩
theorem made_suc (b : Bd) (q : Pl) (k : Nat) : madeTo b q (k + 1) = (madeTo b q k).set (idxOf b q k) (q.word.getD k 0) := by
  unfold madeTo
  rw [List.range_succ, List.foldl_append]
  rfl
theorem made_len (b : Bd) (q : Pl) : ∀ k, (madeTo b q k).length = b.cells.length
  | 0 => rfl
  | k + 1 => by rw [made_suc, List.length_set, made_len b q k]
def sp_i_made (p : Pr) : FSpec := fsp (ac (aA aBd) (a1 (aA aPl))) (fun (b, q) => VP b q) (fun (b, q) => .agg [.i .i64 (madeB b q).size, .s (madeB b q).prem, .s (madeB b q).cells])
theorem ok_i_made : FOk Tryz.prog 53 (sp_i_made std) := by
  refine FOk.go (c := cx std [(108, sp_i_Play_square std)] [] 0) (cx_ok (.cons ok_i_Play_square .nil) .nil) mixed Tryz.func53 rfl rfl rfl (by kernel_rfl) ?_
  rintro ⟨b, q⟩ hp
  dsimp only at hp
  refine ⟨rfl, ?_⟩
  unfold sp_i_Play_square
  obtain ⟨H, hH⟩ : ∃ H : Hd (Int × List Int), H = ⟨fun (k, L) => 0 ≤ k ∧ k ≤ q.word.length ∧ L = toBl (madeTo b q k.toNat), fun (k, L) => (q.word.length - k).toNat, (· < ·)⟩ := ⟨_, rfl⟩
  have hl : ∀ m n, H.lt m n → m < n := by subst hH; exact fun _ _ h => h
  generalize hP : std = p
  generalize hB0 : madeB = B0
  generalize hB1 : srI = B1
  generalize hB2 : scI = B2
  cbv
  repeat' first
    | (refine fun (_ : Unit) => ?_; cbv)
    | (refine Or.inr ⟨14, [], [.c 4 0 (.i .i64), .o 3 [.i .u8]], [], [], H, rfl, hl, ?_, fun ((k, L) : Int × List Int) hk => ?_⟩ <;> cbv)
    | (refine And.intro (fun h => ?_) (fun h => ?_) <;> cbv)
    | (refine And.intro ?_ ?_)
  all_goals subst hP hB0 hB1 hB2 hH
  all_goals clear hl
  all_goals try dsimp only at hk
  all_goals try dsimp only
  all_goals try first
    | exact True.intro
    | with_reducible assumption
    | with_reducible exact byte_in
    | with_reducible exact hp.1
    | with_reducible exact hp.2
    | with_reducible exact hp.2.1
    | with_reducible exact hp.2.2
    | (simp [std] at * <;> lia)
    | rfl
  · exact asc_of hp.lett
  · exact ⟨Int.le_refl 0, Int.natCast_nonneg _, rfl⟩
  all_goals obtain ⟨q0, q1, rfl⟩ := hk
  all_goals have q1 : k ≤ (q.word.length : Int) := q1
  all_goals have a1 := hp.r
  all_goals have a2 := hp.c
  all_goals have a3 := hp.hi
  all_goals have a4 := made_len b q k.toNat
  all_goals try (have hlt : k < (q.word.length : Int) := lt_of (by assumption))
  all_goals try (have hix := ix_in hp.fit (hp.on k.toNat (by omega)); rw [Int.toNat_of_nonneg q0] at hix)
  · show SqP q k; exact sqP_of (by omega) (by omega) (by omega)
  · exact in64 (by show _ ≤ q.sr k * b.size ∧ q.sr k * b.size ≤ _; omega)
  · exact in64 (by show _ ≤ q.sr k * b.size + q.sc k ∧ q.sr k * b.size + q.sc k ≤ _; omega)
  · refine ⟨hix.2.1, ?_⟩
    show q.sr k * b.size + q.sc k < ((toBl (madeTo b q k.toNat)).length : Int)
    rw [toB_len]; omega
  · refine ⟨hix.2.1, ?_⟩
    show q.sr k * b.size + q.sc k < ((toBl (madeTo b q k.toNat)).length : Int)
    rw [toB_len]; omega
  · refine ⟨by show 0 ≤ k + 1; omega, by show k + 1 ≤ (q.word.length : Int); omega, ?_⟩
    show (toBl (madeTo b q k.toNat)).set (q.sr k * b.size + q.sc k).toNat (((q.word.getD k.toNat 0).toNat : Nat) : Int) = _
    rw [toB_set, k_suc q0, made_suc]
    unfold idxOf
    rw [Int.toNat_of_nonneg q0]
  · have hge : (q.word.length : Int) ≤ k := ge_of (by assumption)
    have e : k.toNat = q.word.length := by omega
    show toSl (toBl (madeTo b q k.toNat)) = madeTo b q q.word.length
    rw [toS_toB, e]
end Ax
end Go.Proofs.YtdojdfminchlaaaGreatDoor
/-
  A region that draws its order, the third form: an operation may yield a value that hangs on the world ("free"); S tells what is known of it.
  Conditions: the closed check regCkL of the region's own edges.
-/
namespace Go.Proofs.YtdojdfminchlaaaGreatDoor
namespace RegV
open RegP RegL
section
variable {P : Program} {ops : Array Oper} {Q : Exit → Act → World → Prop} {S : (Nat → Value) → (Nat → Bool) → World → Prop}

def sub (σ : Nat → Value) (i : Nat) (u : Value) : Nat → Value := fun j => if j = i then u else σ j
theorem sub_same (σ : Nat → Value) (i : Nat) (u : Value) : sub σ i u i = u := by simp [sub]
theorem sub_ne (σ : Nat → Value) {i j : Nat} (u : Value) (h : j ≠ i) : sub σ i u j = σ j := by simp [sub, h]
def vsOf (σ : Nat → Value) : Nat → List (Option Value) → List Value
  | _, [] => []
  | k, x :: r => x.getD (σ k) :: vsOf σ (k + 1) r
/-- The step of operation i, its value free. -/
def FreeV (P : Program) (ops : Array Oper) (f : Nat) (S : (Nat → Value) → (Nat → Bool) → World → Prop) (i : Nat) (o : Oper) (a : Act) (σ : Nat → Value) : Prop :=
  Region.wanted o (yielded ops a.tmps) = true ∧ ∀ L w, S σ L w → L i = false → (∀ e ∈ ancs ops f i, L e = true) → o.wp P a w (fun a' w' => ∃ u, a' = a.put o.dst u ∧ S (sub σ i u) (upd L i) w') Never
theorem FreeV.wpOp {f i : Nat} {o : Oper} {a a' : Act} {w : World} {L : Nat → Bool} {σ : Nat → Value} {K : Act → World → Prop} (hi : ops[i]? = some o) (hs : ∀ cs b, o.op ≠ .select cs b) (hsz : a.tmps.size = a'.tmps.size) (hl : ∀ t ∈ o.looksAt ops, a.tmps[t]? = a'.tmps[t]?)
    (h : FreeV P ops f S i o a σ) (hS : S σ L w) (hLi : L i = false) (hd : ∀ e ∈ ancs ops f i, L e = true) (hK : ∀ u w', S (sub σ i u) (upd L i) w' → K (a'.put o.dst u) w') : wpOp P ops Q i K a' w := by
  have hw := wanted_congr hl
  unfold Go.wpOp
  simp only [hi]
  obtain ⟨h1, h2⟩ := h
  rw [hw] at h1
  simp only [h1, if_true]
  refine .inl ?_
  have h3 := h2 L w hS hLi hd
  have he : ∀ x ∈ o.op.operands, a.eval x = a'.eval x := fun x hx => by
    cases x with
    | tmp t =>
      have := hl t (List.mem_append_left _ (List.mem_filterMap.2 ⟨.tmp t, by simpa using hx, rfl⟩))
      simp only [Act.eval, Array.getD_eq_getD_getElem?, this]
    | _ => rfl
  unfold Oper.wp at *
  rw [execOp_congr o hs he] at h3
  generalize (execOp a'.eval o).run P w = r at *
  cases r with
  | ok n w' =>
    cases n <;> simp only [Oper.upon] at h3 ⊢
    case value u => obtain ⟨u', h3, h4⟩ := h3; rw [put_inj hsz h3]; exact hK _ _ h4
    case skip => obtain ⟨u', h3, h4⟩ := h3; rw [put_inj hsz h3]; exact hK _ _ h4
    case defer d =>
      exfalso
      obtain ⟨u', h3, _⟩ := h3
      have h4 := congrArg Act.defers h3
      rw [put_defers', put_defers'] at h4
      have := congrArg List.length h4
      simp at this
    case enter f args =>
      refine Calls.mono h3 fun e w'' he => ?_
      cases e with
      | returned u => simp only at he ⊢; obtain ⟨u', he, h4⟩ := he; rw [put_inj hsz he]; exact hK _ _ h4
      | panicked c => exact he.elim
      | outgrown => obtain ⟨_, _, hh⟩ := he; exact hh.elim
    case row row args => exact Rows.mono h3 fun u w'' he => by obtain ⟨u', he, h4⟩ := he; rw [put_inj hsz he]; exact hK _ _ h4
  | halt x w' =>
    cases x <;> simp only [Oper.upon] at h3
    case panic u => exact h3.elim

def StepV (P : Program) (ops : Array Oper) (f : Nat) (S : (Nat → Value) → (Nat → Bool) → World → Prop) (i : Nat) (o : Oper) (a : Act) (σ : Nat → Value) : Option Value → Prop
  | some v => GStepL P ops f (S σ) i o a v
  | none => FreeV P ops f S i o a σ
def PChainV (P : Program) (ops : Array Oper) (f : Nat) (S : (Nat → Value) → (Nat → Bool) → World → Prop) (End : (Nat → Value) → Act → Prop) : Nat → List Oper → ((Nat → Value) → Act) → Prop
  | _, [], a => ∀ σ, End σ (a σ)
  | i, o :: r, a => ∃ x : Option Value, (∀ σ, StepV P ops f S i o (a σ) σ x) ∧ PChainV P ops f S End (i + 1) r (fun σ => (a σ).put o.dst (x.getD (σ i)))
theorem PChainV.vals {f : Nat} {End : (Nat → Value) → Act → Prop} : ∀ (l : List Oper) (k : Nat) (a : (Nat → Value) → Act), PChainV P ops f S End k l a →
    ∃ sp : List (Option Value), sp.length = l.length ∧ (∀ σ, End σ (actAfter l (vsOf σ k sp) (a σ))) ∧ ∀ i o x, l[i]? = some o → sp[i]? = some x → ∀ σ, StepV P ops f S (k + i) o (actAfter (l.take i) ((vsOf σ k sp).take i) (a σ)) σ x
  | [], _, a, h => ⟨[], rfl, h, fun i o v hi => by simp at hi⟩
  | o :: r, k, a, ⟨x, hg, hc⟩ => by
    obtain ⟨sp, hl, he, hs⟩ := PChainV.vals r _ _ hc
    refine ⟨x :: sp, by simp [hl], he, fun i o' v' hi hv => ?_⟩
    cases i with
    | zero => simp at hi hv; subst hi; subst hv; intro σ; simpa [actAfter, vsOf] using hg σ
    | succ i => simp at hi hv; intro σ; have := hs i o' v' hi hv σ; rw [show k + 1 + i = k + (i + 1) from by omega] at this; simpa [actAfter, vsOf] using this

theorem Is.vals {l : List Oper} {vs vs' : List Value} {a0 a : Act} {L : Nat → Bool} (h : Is l vs a0 L a) (hv : ∀ j, L j = true → vs'[j]? = vs[j]?) : Is l vs' a0 L a :=
  ⟨h.defers, h.size, fun i o v t h1 h2 h3 h4 => h.yes i o v t h1 (by rw [← hv i h4]; exact h2) h3 h4, h.no⟩

end
open Go.RowKit in
/-- The free values are slices of known lengths; below the heap's size all is as it was. -/
structure SV (W : World) (fs : List (Nat × Nat)) (σ : Nat → Value) (L : Nat → Bool) (w' : World) : Prop where
  low : Below W.heap.size W w'
  sl : ∀ p ∈ fs, L p.1 = true → ∃ A c, σ p.1 = .slice A p.2 c
section
open Go.RowKit
variable {W w1 w2 : World} {fs : List (Nat × Nat)} {σ : Nat → Value} {L : Nat → Bool} {i n : Nat}
theorem SV.start : SV W fs σ (fun _ => false) W.drew := ⟨(Below.refl _ _).drew, fun _ _ h => by cases h⟩
theorem SV.keep (h : SV W fs σ L w1) (hi : ∀ p ∈ fs, p.1 ≠ i) : SV W fs σ (upd L i) w1 := ⟨h.low, fun p hp hL => h.sl p hp (by rwa [upd_ne L (hi p hp)] at hL)⟩
theorem SV.call (h : SV W fs σ L w1) (hb : Below w1.heap.size w1 w2) : SV W fs σ L w2 := ⟨h.low.trans (hb.mono h.low.size), h.sl⟩
theorem SV.put {A : Option Addr} {c : Nat} (h : SV W fs σ L w1) (hi : ∀ p ∈ fs, p.1 = i → p.2 = n) : SV W fs (sub σ i (.slice A n c)) (upd L i) w1 :=
  ⟨h.low, fun p hp hL => by
    by_cases hpi : p.1 = i
    · rw [hpi, sub_same, hi p hp hpi]; exact ⟨A, c, rfl⟩
    · rw [sub_ne σ _ hpi]; exact h.sl p hp (by rwa [upd_ne L hpi] at hL)⟩
end
end RegV
end Go.Proofs.YtdojdfminchlaaaGreatDoor
/-
  strings.Builder; piles of counts, all tiles, of the impl package.
  Conditions: none.
-/
namespace Go.Proofs.YtdojdfminchlaaaGreatDoor
open Go.RowKit RegP RegL RegV
set_option maxHeartbeats 1000000
set_option maxRecDepth 100000

theorem byteT : SlT Tryz.prog 126 5 (.int .u8 0) 1 1 := ⟨Tryz.underlying126, by kernel_rfl, rfl, by decide⟩
theorem own_keep {w w' : World} {base e size n : Nat} {v : Value} {xs : List Value} (h : w.ownsRow base e size v n xs) (hk : ∀ k, v.ownBlock = some k → w'.heap[k]? = w.heap[k]?) : w'.ownsRow base e size v n xs := by
  refine ⟨h.1, h.2.imp id ?_⟩
  rintro ⟨g, cap, cur, rfl, h1, h2, h3⟩
  exact ⟨g, cap, cur, rfl, h1, (hk g rfl).trans h2, h3⟩
theorem own_far {w : World} {base e size n : Nat} {v : Value} {xs : List Value} (h : w.ownsRow base e size v n xs) {p : Addr} (hp : v.ownBlock ≠ some p.block) (u : Value) : (w.setCell p u).ownsRow base e size v n xs :=
  own_keep h fun k hk => Below.heap_setCell w p u k (fun e => hp (by rw [← e]; exact hk))
theorem Blk.new1 (w : World) (o : Obj) (t : TypeId) (cs : Array Value) : Blk ((w.alloc o).alloc (.cells cs t)) (w.heap.size + 1) t cs := by
  have := Blk.new (w.alloc o) t cs
  rwa [show (w.alloc o).heap.size = w.heap.size + 1 by simp] at this
/-- A builder in block g with the bytes l; its buffer lies from block base on. -/
def BldAt (w : World) (g base : Nat) (p : Value) (l : Str) : Prop := base ≤ g ∧ ∃ v, Blk w g 194 #[p, v] ∧ w.ownsRow base 5 1 v l.length (l.map bv) ∧ (l = [] → v = .slice none 0 0)
def selfP (g : Nat) : Value := .pointer (some ⟨g, 0, none⟩)
theorem Blk.shape {w : World} {g : Nat} {t : TypeId} {cs : Array Value} (h : Blk w g t cs) : w.shape? g = some (t, cs.size) := by
  unfold Blk at h
  simp [World.shape?, h]
theorem copy_used (g : Nat) (w : World) (h0 : w.cell? ⟨g, 0, none⟩ = some (.pointer (some ⟨g, 0, none⟩))) :
    Calls Tryz.prog 210 #[.pointer (some ⟨g, 0, none⟩)] w fun e w' => e = .returned (.tuple #[]) ∧ w = w' := by
  obtain ⟨j, hj, _⟩ := Option.map_eq_some_iff.1 (show (Tryz.prog.info? 194).map (·.size) = some 2 by kernel_rfl)
  have hq := fun w => Lib.run_neq_ptr_same (P := Tryz.prog) w ⟨g, 0, none⟩ Tryz.underlying192 hj
  go_enter Tryz.func210, Tryz.ntmps210
  go_wp2_with (fail)
  go_end0
  exact ⟨rfl, rfl⟩
theorem copy_fresh (g : Nat) (w : World) (v : Value) (hb : Blk w g 194 #[.pointer none, v]) :
    Calls Tryz.prog 210 #[.pointer (some ⟨g, 0, none⟩)] w fun e w' => e = .returned (.tuple #[]) ∧ w' = w.setCell ⟨g, 0, none⟩ (.pointer (some ⟨g, 0, none⟩)) := by
  obtain ⟨j, hj, hjs⟩ := Option.map_eq_some_iff.1 (show (Tryz.prog.info? 194).map (·.size) = some 2 by kernel_rfl)
  have h0 : w.cell? ⟨g, 0, none⟩ = some (.pointer none) := hb.cell 0
  have hz : w.frozen? ⟨g, 0, none⟩ = false := hb.frozen 0
  have hs : w.shape? g = some (194, 2) := hb.shape
  have k1 := Lib.run_to_unsafe (P := Tryz.prog) (dst := 237) w ⟨g, 0, none⟩ Tryz.underlying192 Tryz.underlying237 hj (by rw [hjs]; decide) hs (Nat.zero_lt_succ 1)
  have k2 := Lib.run_from_unsafe (P := Tryz.prog) w ⟨g, 0, none⟩ Tryz.underlying237 Tryz.underlying192 hj hs (by kernel_rfl)
  have k3 : ∀ x : Value, (callFunc 229 #[x]).run Tryz.prog w = .ok (.value x) w := fun x => by
    rw [run_callFunc_extern Tryz.func229 (by kernel_rfl) (by kernel_rfl) (by kernel_rfl) (e := Extern.AbiNoEscape.same) (by kernel_rfl)]
    rfl
  go_enter Tryz.func210, Tryz.ntmps210
  go_wp2_with (fail)
  go_end0
  exact ⟨rfl, rfl⟩
theorem copyCheck_any (g base : Nat) (p : Value) (l : Str) (w : World) (hp : p = .pointer none ∨ p = selfP g) (h : BldAt w g base p l) :
    Calls Tryz.prog 210 #[.pointer (some ⟨g, 0, none⟩)] w fun e w' => e = .returned (.tuple #[]) ∧ BldAt w' g base (selfP g) l ∧ Below base w w' := by
  obtain ⟨hbg, v, hb, hown, hnil⟩ := h
  rcases hp with rfl | rfl
  · refine (copy_fresh g w v hb).mono ?_
    rintro e w' ⟨rfl, rfl⟩
    exact ⟨rfl, ⟨hbg, v, hb.set_ 0 _, own_far hown (own_blk_ne hown hb (by decide)) _, hnil⟩, (Below.refl _ _).setCell hbg _⟩
  · refine (copy_used g w (hb.cell 0)).mono ?_
    rintro e w' ⟨rfl, rfl⟩
    exact ⟨rfl, ⟨hbg, v, hb, hown, hnil⟩, Below.refl _ _⟩
theorem WriteByte_any (g base : Nat) (p : Value) (l : Str) (c : UInt8) (w : World) (hp : p = .pointer none ∨ p = selfP g) (h : BldAt w g base p l) (hl : l.length ≤ 2 ^ 37) (hbw : base ≤ w.heap.size) :
    Calls Tryz.prog 168 #[.pointer (some ⟨g, 0, none⟩), bv c] w fun e w' => e = .returned .nilIface ∧ BldAt w' g base (selfP g) (l ++ [c]) ∧ Below base w w' := by
  have kc := fun w h => copyCheck_any g base p l w hp h
  go_enter Tryz.func168, Tryz.ntmps168
  go_wp2_with (first
    | (go_at_call 210; refine (kc _ h).mono ?_; rintro e w1 ⟨rfl, ⟨hbg, v, hb, hown, _⟩, hb1⟩
       obtain ⟨A1, n1, rfl, _, _⟩ := own_sl hown
       have c1 : w1.cell? ⟨g, 1, none⟩ = some (.slice A1 l.length n1) := hb.cell 1
       have hz1 := hb1.size)
    | (at_builtin; refine wpList_app byteT rfl (.tmp 11) (.tmp 13) rfl _ l.length (l.map bv) rfl base hown [bv c] rfl (by simp [Value.oneCell']) rfl (by omega) (by omega) (by omega) ?_; intro v2 w2 own2 hg2 hat2
       have hne := own_blk_ne hown hb (by decide)
       have hB2 := hb.grown hg2 (fun h => hne h.symm)
       have d1 : w2.cell? ⟨g, 1, none⟩ = some (.slice A1 l.length n1) := hB2.cell 1
       have f1 : w2.frozen? ⟨g, 1, none⟩ = false := hB2.frozen 1
       have hb2 := Below.own hb1 (Nat.le_trans hbw hz1) hown (Nat.le_refl _) hg2
       obtain ⟨A2, c2, rfl, _, _⟩ := own_sl own2))
  go_ret
  exact ⟨rfl, ⟨hbg, .slice A2 (l.length + 1) c2, hB2.set_ 1 _, own_cast (own_far own2 (own_blk_ne (t := 194) own2 hB2 (by decide)) _) (by simp) (by simp), fun h => by simp at h⟩, hb2.setCell hbg _⟩
theorem String_any (g base : Nat) (p : Value) (l : Str) (w : World) (h : BldAt w g base p l) :
    Calls Tryz.prog 170 #[.pointer (some ⟨g, 0, none⟩)] w fun e w' => e = .returned (sv l) ∧ Below base w w' := by
  obtain ⟨hbg, v, hb, hown, hnil⟩ := h
  rcases hown.2 with ⟨rfl, h0⟩ | ⟨gv, cap, cur, rfl, hgv, hcur, hlc, hcm, hcs, htk⟩
  · obtain rfl : l = [] := List.eq_nil_of_length_eq_zero h0
    have c1 : w.drew.cell? ⟨g, 1, none⟩ = some (.slice none 0 0) := hb.drew.cell 1
    have k1 := fun w => Lib.run_unsafeString_none (P := Tryz.prog) w 223 3 9 none
    have k2 : (Builtin.unsafeSliceData_ #[126] 223 #[.slice none 0 0]).run Tryz.prog w.drew = .ok (.pointer none) w.drew := rfl
    clear hown h0
    go_enter Tryz.func170, Tryz.ntmps170
    go_wp2_with (fail)
    go_region
    all_goals (go_wp2; go_ret; exact ⟨rfl, (Below.refl _ _).drew⟩)
  · have c1 : w.drew.cell? ⟨g, 1, none⟩ = some (.slice (some ⟨gv, 0, none⟩) l.length cap) := hb.drew.cell 1
    have hBc : Blk w gv 5 cur := hcur
    by_cases hl : l = []
    · have := hnil hl
      cases this
    · have k2 : (Builtin.unsafeSliceData_ #[126] 223 #[.slice (some ⟨gv, 0, none⟩) l.length cap]).run Tryz.prog w.drew = .ok (.pointer (some ⟨gv, 0, none⟩)) w.drew := Lib.run_unsafeSliceData_row _ _ _ _ _ _ (by have := List.length_pos_iff.2 hl; omega)
      have k3 : (Builtin.unsafeString_ #[223, 3] 9 #[.pointer (some ⟨gv, 0, none⟩), .int .i64 l.length]).run Tryz.prog w.drew = .ok (.string ⟨l.toArray⟩) (w.drew.freeze ⟨gv, 0, none⟩ l.length) := by
        refine Lib.run_unsafeString_row w.drew 223 3 9 5 Tryz.underlying223 (by kernel_rfl) gv cur.size hBc.drew.shape l hl (by omega) (by unfold maxLen at hcm; omega) ?_
        intro j x hx
        exact hown.cells (g := gv) rfl j (.int .u8 x.toNat) (by rw [List.getElem?_map, hx]; rfl)
      have hl' := Lib.hid hl
      clear hown hlc hcs htk hl
      go_enter Tryz.func170, Tryz.ntmps170
      go_wp2_with (fail)
      go_region
      all_goals (go_wp2; go_ret; exact ⟨rfl, Lib.below_freeze (Below.refl _ _).drew (p := ⟨gv, 0, none⟩) hgv _⟩)
/-- Counts as a row of cells. -/
def cntA (c : List Int) : Array Value := (c.map (Value.int .i64)).toArray
theorem cntA_size (c : List Int) : (cntA c).size = c.length := by simp [cntA]
theorem cntA_get (c : List Int) (k : Nat) (h : k < c.length) : (cntA c)[k]? = some (.int .i64 (c.getD k 0)) := by
  simp [cntA, List.getD_eq_getElem?_getD, List.getElem?_eq_getElem h]
theorem run_index_cnt (c : List Int) (k : Nat) (w : World) (h : k < 27) (hc : c.length = 27) :
    (Instr.index 143 (.agg (cntA c)) (.int .i64 (k : Int))).run Tryz.prog w = .ok (.int .i64 (c.getD k 0)) w := by
  have hg := cntA_get c k (by omega)
  have hu : Tryz.prog.underlying 143 = some (.array 27 3) := Tryz.underlying143
  have hagg : ∀ w, (isAgg 3).run Tryz.prog w = .ok false w := fun w => by kernel_rfl
  have hsz : ∀ w, (Go.sizeOf 3).run Tryz.prog w = .ok 1 w := fun w => by kernel_rfl
  simp [Instr.index, asIntOf, run_underlying hu, hsz, hagg, hg, part, h]
theorem tileC_nat (k : Nat) (h : k < 27) (h0 : k ≠ 0) : ((tileC k).toNat : Int) = 96 + k := by
  unfold tileC
  rw [if_neg h0, UInt8.toNat_ofNat']
  omega
theorem tileAt_any (k : Nat) (w : World) (h : k < 27) :
    Calls Tryz.prog 169 #[.int .i64 (k : Int)] w fun e w' => e = .returned (bv (tileC k)) ∧ w = w' := by
  by_cases h0 : k = 0
  · subst h0
    go_enter Tryz.func169, Tryz.ntmps169
    go_wp2_with (fail)
    go_ret
    exact ⟨rfl, rfl⟩
  · have h0' : ((k : Int) == 0) = false := by simp [h0]
    have hn := Lib.hid (tileC_nat k h h0)
    have hk : (k : Int) < 27 := by omega
    have hk1 : (1 : Int) ≤ (k : Int) := by omega
    clear h h0
    go_enter Tryz.func169, Tryz.ntmps169
    go_wp2_with (fail)
    go_ret
    exact ⟨congrArg (fun n => Ending.returned (.int .u8 n)) (by rw [hn.out]; omega), rfl⟩
theorem pileTo_succ (c : List Int) (k : Nat) : pileTo c (k + 1) = pileTo c k ++ List.replicate (c.getD k 0).toNat (tileC k) := by
  simp [pileTo, List.range_succ]
theorem pileTo_le (c : List Int) (k : Nat) : ∀ d, (pileTo c k).length ≤ (pileTo c (k + d)).length
  | 0 => Nat.le_refl _
  | d + 1 => by
    have := pileTo_le c k d
    rw [show k + (d + 1) = (k + d) + 1 by omega, pileTo_succ, List.length_append]; omega
theorem pile_any (c : List Int) (w : World) (hc : c.length = 27) (hnn : ∀ j, 0 ≤ c.getD j 0) (hs : (pileL c).length ≤ 2 ^ 37) :
    Calls Tryz.prog 106 #[.agg (cntA c)] w fun e w' => e = .returned (sv (pileL c)) ∧ Below w.heap.size w w' := by
  have hidx := fun (k : Nat) (h : k < 27) (w : World) => run_index_cnt c k w h hc
  have hsz : (cntA c).size = 27 := by rw [cntA_size, hc]
  obtain ⟨X, hX⟩ : ∃ X, X = cntA c := ⟨_, rfl⟩
  have hPL : Hid (pileL c = pileTo c 27) := Lib.hid rfl
  obtain ⟨PL, hPLe⟩ : ∃ PL, PL = pileL c := ⟨_, rfl⟩
  rw [← hPLe] at hPL hs ⊢
  rw [← hX] at hidx hsz ⊢
  clear hX hPLe
  have hs27 := Lib.hid hsz
  have hidx' := Lib.hid hidx
  clear hsz hidx hc
  go_enter Tryz.func106, Tryz.ntmps106
  go_wp2_with (refine wpList_load_row rfl 143 (.tmp 1) rfl w.heap.size rfl 143 X (0, 0) _ ((Blk.new w 143 X).alloc _) Tryz.underlying143 rfl (by rw [hs27.out]; kernel_rfl) ?_)
  have hB0 : BldAt ((w.alloc (.cells X 143)).alloc (.cells #[.pointer none, .slice none 0 0] 194)) (w.heap.size + 1) w.heap.size (.pointer none) [] :=
    ⟨by omega, _, Blk.new1 w _ _ _, ⟨rfl, .inl ⟨rfl, rfl⟩⟩, fun _ => rfl⟩
  have hb0 : Below w.heap.size w ((w.alloc (.cells X 143)).alloc (.cells #[.pointer none, .slice none 0 0] 194)) := ((Below.refl _ _).alloc (Nat.le_refl _) _).alloc (by simp) _
  have hn' := Lib.hid hnn
  clear hnn
  go_loopw [7] (fun i wr => ∃ (k : Nat) (p : Value), k ≤ 27 ∧ i = .int .i64 k ∧ Hid (p = .pointer none ∨ p = selfP (w.heap.size + 1)) ∧ BldAt wr (w.heap.size + 1) w.heap.size p (pileTo c k) ∧ Below w.heap.size w wr) (fun i _ => 27 - (intOf i).toNat)
  case atStart => exact ⟨0, _, by omega, rfl, .inl rfl, hB0, hb0⟩
  case round =>
    clear hB0 hb0
    obtain ⟨k, p, hk, rfl, hp, hB, hb⟩ := hrel
    by_cases hlt : k < 27
    · have hkk : (k : Int) < 27 := by omega
      have hk0 : (0 : Int) ≤ (k : Int) := by omega
      have hix := hidx'.out k hlt
      have hsucc := pileTo_succ c k
      have hle := pileTo_le c (k + 1) (26 - k)
      rw [show k + 1 + (26 - k) = 27 by omega, ← hPL.out] at hle
      have hsl : Hid ((pileTo c (k + 1)).length = (pileTo c k).length + (c.getD k 0).toNat) := Lib.hid (by rw [hsucc, List.length_append, List.length_replicate])
      have hsc := Lib.hid hsucc
      obtain ⟨n, hn⟩ : ∃ n : Nat, c.getD k 0 = (n : Int) := ⟨(c.getD k 0).toNat, by have := hn'.out k; omega⟩
      have hsc2 : Hid (pileTo c (k + 1) = pileTo c k ++ List.replicate n (tileC k)) := Lib.hid (by rw [hsc.out, hn]; simp)
      have hlen : (pileTo c k).length + n ≤ 137438953472 := by have h := hsl.out; rw [hn] at h; simp at h; omega
      rw [hn] at hix
      have kt := fun w => tileAt_any k w hlt
      obtain ⟨P0, hP0⟩ : ∃ P0, P0 = pileTo c k := ⟨_, rfl⟩
      rw [← hP0] at hB hsc2 hlen
      obtain ⟨t, ht⟩ : ∃ t, t = tileC k := ⟨_, rfl⟩
      rw [← ht] at kt hsc2
      clear hsucc hsc hsl hn hP0 ht hle
      go_wp2_with (fail)
      obtain ⟨wo, rfl⟩ : ∃ wo : World, wo = wr := ⟨_, rfl⟩
      go_loopw [5] (fun i wr => ∃ (m : Nat) (p : Value), m ≤ n ∧ i = .int .i64 m ∧ Hid (p = .pointer none ∨ p = selfP (w.heap.size + 1)) ∧ BldAt wr (w.heap.size + 1) w.heap.size p (P0 ++ List.replicate (n - m) t) ∧ Below w.heap.size w wr) (fun i _ => (intOf i).toNat)
      case atStart => exact ⟨n, p, Nat.le_refl _, rfl, hp, by simpa using hB, hb⟩
      case round =>
        clear hB hb hp
        obtain ⟨m, p, hm, rfl, hp, hB, hb⟩ := hrel
        by_cases hm0 : 0 < m
        · have hm1 : (0 : Int) < (m : Int) := by omega
          have hln : (P0 ++ List.replicate (n - m) t).length ≤ 2 ^ 37 := by simp; omega
          have hstep : Hid (P0 ++ List.replicate (n - (m - 1)) t = (P0 ++ List.replicate (n - m) t) ++ [t]) := Lib.hid (by rw [show n - (m - 1) = (n - m) + 1 by omega, List.replicate_succ', List.append_assoc])
          have hz := hb.size
          have hsub : Hid ((m : Int) - 1 = ((m - 1 : Nat) : Int)) := Lib.hid (by omega)
          obtain ⟨L, hL⟩ : ∃ L, L = P0 ++ List.replicate (n - m) t := ⟨_, rfl⟩
          rw [← hL] at hB hln hstep
          clear hL
          go_wp2_with (first
            | (go_at_call 169; refine (kt _).mono ?_; rintro e w' ⟨rfl, rfl⟩)
            | (go_at_call 168; refine (WriteByte_any (w.heap.size + 1) w.heap.size p L t _ hp.out hB hln hz).mono ?_; rintro e w2 ⟨rfl, hB2, hb2⟩))
          go_roundw
          case rel => exact ⟨m - 1, _, by omega, by rw [hsub.out], .inr rfl, by rw [hstep.out]; exact hB2, hb.trans hb2⟩
          case measure => simp [intOf]; omega
        · obtain rfl : m = 0 := by omega
          go_wp2_with (fail)
          go_roundw
          case rel => exact ⟨k + 1, p, by omega, by go_num, hp, by rw [hsc2.out]; simpa using hB, hb⟩
          case measure => simp [intOf]; omega
    · obtain rfl : k = 27 := by omega
      rw [← hPL.out] at hB
      go_wp2_with (go_at_call 170; refine (String_any (w.heap.size + 1) w.heap.size p PL _ hB).mono ?_; rintro e w2 ⟨rfl, hb2⟩)
      go_ret
      exact ⟨rfl, hb.trans hb2⟩
end Go.Proofs.YtdojdfminchlaaaGreatDoor
