/-
  A map from moves to truth values: what lookups and updates do; The plays that are found by trying, in plain Lean: each is legal; sorting permutes them; Contract: valid tile sets (layer 2 of the spec package); The state of a region that draws its order, calls functions, lays a literal and appends it to a row of the call's own; Contracts: the scores of the letters of a play on a flat board, the factor of its word (layer 13 of the spec package). PRINTED BY wip/mk90.py (with wip/L90.head); Contract: the factor of a main word (layer 13 of the spec package).
  Conditions: none; a tile set lies in memory; lengths at most 2^40; a valid board and a valid tile set lie in memory; the play's squares are on the board; a valid board lies in memory; the play's squares are on the board.
-/
import Derived.Test.YtdkckikobefekaaGreatDoorM19
import Derived.MapKept
import Derived.Test.YtdkckikobefekaaGreatDoorM15
import Derived.Test.YtdkckikobefekaaGreatDoorM10
import Derived.Test.YtdkckikobefekaaGreatDoorM18
import Derived.Test.YtdkckikobefekaaGreatDoorM04
import Derived.Test.YtdkckikobefekaaGreatDoorM06
namespace Go.Proofs.YtdkckikobefekaaGreatDoor
open Go.RowKit RegP RegL RegV
set_option maxHeartbeats 4000000
set_option maxRecDepth 100000
theorem eqMv_iff (a b : Mv) : eqMv a b = true ↔ a = b := by
 obtain ⟨⟨r, c, d, s⟩, x⟩ := a
 obtain ⟨⟨r', c', d', s'⟩, x'⟩ := b
 unfold eqMv eqPlB
 simp only [Bool.and_eq_true, beq_iff_eq, Prod.mk.injEq, Pl.mk.injEq]
theorem eqMv_no {a b : Mv} (h : a ≠ b) : eqMv a b = false := by
 cases hh : eqMv a b
 · rfl
 · exact absurd ((eqMv_iff a b).1 hh) h
abbrev En := Mv × Bool × Nat
def toE (e : En) : MapEntry := ⟨mvV e.1, .bool e.2.1, e.2.2⟩
def findE : List En → Mv → Nat → Option (Nat × Bool)
 | [], _, _ => none
 | e :: r, x, i => if eqMv x e.1 then some (i, e.2.1) else findE r x (i + 1)
def getE : List En → Mv → Bool
 | [], _ => false
 | e :: r, x => if eqMv x e.1 then e.2.1 else getE r x
def putE : List En → Mv → Bool → Nat → List En
 | [], x, v, c => [(x, v, c)]
 | e :: r, x, v, c => if eqMv x e.1 then (x, v, e.2.2) :: r else e :: putE r x v c
theorem getE_put (E : List En) (x y : Mv) (v : Bool) (c : Nat) : getE (putE E x v c) y = if eqMv y x then v else getE E y := by
 induction E with
 | nil => simp [putE, getE]
 | cons e r ih =>
   by_cases h : x = e.1
   · rw [putE, if_pos ((eqMv_iff _ _).2 h), getE, getE]
     by_cases hy : y = x
     · rw [if_pos ((eqMv_iff _ _).2 hy), if_pos ((eqMv_iff _ _).2 hy)]
     · rw [eqMv_no hy, eqMv_no (fun e1 => hy (e1.trans h.symm))]
       rfl
   · rw [putE, eqMv_no h, if_neg (by decide), getE, getE, ih]
     by_cases hy : y = x
     · rw [eqMv_no (fun e1 => h (hy ▸ e1))]
       simp
     · rw [eqMv_no hy]
       rfl
theorem findE_none {E : List En} {x : Mv} {i : Nat} (h : findE E x i = none) (v : Bool) (c : Nat) : getE E x = false ∧ putE E x v c = E ++ [(x, v, c)] := by
 induction E generalizing i with
 | nil => exact ⟨rfl, rfl⟩
 | cons e r ih =>
   rw [findE] at h
   split at h
   · cases h
   · rename_i hne
     obtain ⟨h1, h2⟩ := ih h
     exact ⟨by rw [getE, if_neg hne, h1], by rw [putE, if_neg hne, h2]; rfl⟩
theorem findE_some {E : List En} {x : Mv} {i j : Nat} {b : Bool} (h : findE E x i = some (j, b)) (v : Bool) (c : Nat) : getE E x = b ∧ ∃ k, j = i + k ∧ (∃ e, E[k]? = some e ∧ e.1 = x) ∧ putE E x v c = E.modify k fun e => (x, v, e.2.2) := by
 induction E generalizing i with
 | nil => cases h
 | cons e r ih =>
   rw [findE] at h
   split at h
   · rename_i hp
     injection h with h
     injection h with h1 h2
     subst h1 h2
     exact ⟨by rw [getE, if_pos hp], 0, rfl, ⟨e, rfl, ((eqMv_iff _ _).1 hp).symm⟩, by rw [putE, if_pos hp]; rfl⟩
   · rename_i hne
     obtain ⟨h1, k, h2, ⟨e', h3, h4⟩, h5⟩ := ih h
     exact ⟨by rw [getE, if_neg hne, h1], k + 1, by omega, ⟨e', by simpa using h3, h4⟩, by rw [putE, if_neg hne, h5]; rfl⟩
theorem mv_equal (w : World) (a b : Mv) : (Op.equal 124 (mvV a) (mvV b)).run Tryz.prog w = .ok (eqMv a b) w := by
 have h := mv_eql w a b
 unfold mvV at h ⊢
 rw [run_eql_struct] at h
 unfold Op.equal Op.maxDepth
 cases hr : (Op.equalIn 10000 124 (.agg #[.int .i64 a.1.row, .int .i64 a.1.col, .bool a.1.down, sv a.1.word, .int .i64 a.2]) (.agg #[.int .i64 b.1.row, .int .i64 b.1.col, .bool b.1.down, sv b.1.word, .int .i64 b.2])).run Tryz.prog w with
 | ok r w' =>
   rw [hr] at h
   simp only [Result.andThen_ok] at h
   injection h with h1 h2
   injection h1 with h1
   subst h1 h2
   rfl
 | halt x w' => rw [hr] at h; simp [Result.andThen] at h
theorem run_asking (w : World) (x : Mv) : ∀ (E : List En) (i : Nat), (Instr.findAsking 124 (mvV x) (E.map toE) i).run Tryz.prog w = .ok ((findE E x i).map fun p => (p.1, .bool p.2)) w
 | [], i => by simp [Instr.findAsking, findE]
 | e :: r, i => by
   have ih := run_asking w x r (i + 1)
   have he := mv_equal w x e.1
   simp only [List.map_cons, Instr.findAsking, Sem.run_bind]
   show ((Op.equal 124 (mvV x) (mvV e.1)).run Tryz.prog w).andThen _ = _
   rw [he]
   simp only [Result.andThen_ok, findE]
   cases hh : eqMv x e.1
   · simp only [Bool.false_eq_true, if_false]
     exact ih
   · simp [toE]
theorem run_find (w : World) (x : Mv) (E : List En) : (Instr.findKey 124 (mvV x) (E.map toE)).run Tryz.prog w = .ok ((findE E x 0).map fun p => (p.1, .bool p.2)) w := by
 have hu := Tryz.underlying124
 unfold Instr.findKey
 simp only [Sem.run_bind, run_underlying hu, Result.andThen_ok]
 cases E with
 | nil => simp [Instr.findNow, findE]
 | cons e r =>
   have := run_asking w x (e :: r) 0
   simp only [List.map_cons, Instr.findNow, Instr.sameNow] at this ⊢
   exact this
theorem run_check (w : World) (x : Mv) (em : Bool) : (Instr.checkKey em 10000 124 (mvV x)).run Tryz.prog w = .ok () w := by
 obtain ⟨⟨r, c, dn, s⟩, y⟩ := x
 unfold mvV
 simp only
 have hP : ∀ n, (Instr.checkKey em (n + 1 + 1) 61 (.agg #[.int .i64 r, .int .i64 c, .bool dn, sv s])).run Tryz.prog w = .ok () w := fun n => by
   rw [Instr.checkKey]
   simp only [Sem.run_bind, run_underlying Tryz.underlying61, Result.andThen_ok]
   rw [← Array.forIn_toList]
   simp only [List.forIn_cons, List.forIn_nil, Sem.run_bind]
   rfl
 have hM : ∀ n, (Instr.checkKey em (n + 1 + 1 + 1) 124 (.agg #[.int .i64 r, .int .i64 c, .bool dn, sv s, .int .i64 y])).run Tryz.prog w = .ok () w := fun n => by
   rw [Instr.checkKey]
   simp only [Sem.run_bind, run_underlying Tryz.underlying124, Result.andThen_ok]
   rw [← Array.forIn_toList]
   simp only [List.forIn_cons, List.forIn_nil, Sem.run_bind]
   rfl
 exact hM 9997
theorem run_stays (w : World) (x : Mv) : (Instr.keyThatStays (mvV x) (mvV x)).run Tryz.prog w = .ok (mvV x) w := by
 have h : Instr.sameBits 10000 (mvV x) (mvV x) = true := by
   show Instr.sameBits (9999 + 1) (mvV x) (mvV x) = true
   unfold mvV
   simp [Instr.sameBits, sv]
   exact (MapKept.bytes_beq _ _).2 rfl
 simp [Instr.keyThatStays, h]
def setM (w : World) (g : Nat) (E : List En) (c : Nat) : World := { w with heap := w.heap.setIfInBounds g (.map (E.map toE).toArray c) }
theorem run_upd (w : World) (g : Nat) (E : List En) (c : Nat) (x : Mv) (v : Bool) (hg : w.heap[g]? = some (.map (E.map toE).toArray c)) :
   ∃ c', (Instr.mapUpdate 129 (.map (some g)) (mvV x) (.bool v)).run Tryz.prog w = .ok () (setM w g (putE E x v c) c') := by
 have hm := Tryz.underlying129
 have hf := run_find w x E
 cases hr : findE E x 0 with
 | none =>
   obtain ⟨-, h2⟩ := findE_none hr v c
   rw [hr] at hf
   refine ⟨c + 1, ?_⟩
   rw [h2]
   simp [Instr.mapUpdate, run_underlying hm, MapKept.run_getObj_map hg, run_check w x, hf, MapKept.run_setObj_map _ hg, Result.andThen, setM, toE]
 | some p =>
   obtain ⟨j, b⟩ := p
   obtain ⟨-, k, h1, ⟨e, h2, h3⟩, h4⟩ := findE_some hr v c
   rw [hr] at hf
   obtain rfl : j = k := by omega
   have hkey : (toE e).key = mvV x := by rw [← h3]; rfl
   have hmod : ((E.map toE).modify j fun e => { e with key := mvV x, val := .bool v }) = (E.modify j fun e => (x, v, e.2.2)).map toE := by
     apply List.ext_getElem?
     intro i
     simp only [List.getElem?_modify, List.getElem?_map]
     by_cases hij : j = i
     · subst hij
       simp [h2, toE]
     · simp [hij]
   refine ⟨c, ?_⟩
   rw [h4]
   simp [Instr.mapUpdate, run_underlying hm, MapKept.run_getObj_map hg, run_check w x, hf, h2, hkey, run_stays w x, hmod, MapKept.run_setObj_map _ hg, Result.andThen, setM]
theorem run_get (w : World) (g : Nat) (E : List En) (c : Nat) (x : Mv) (hg : w.heap[g]? = some (.map (E.map toE).toArray c)) :
   (Instr.lookup 129 (.map (some g)) (mvV x) false).run Tryz.prog w = .ok (.bool (getE E x)) w := by
 have hm := Tryz.underlying129
 have hf := run_find w x E
 have hz : (zeroValue 4).run Tryz.prog w = .ok (.bool false) w := rfl
 cases hr : findE E x 0 with
 | none =>
   obtain ⟨h1, -⟩ := findE_none hr true c
   rw [hr] at hf
   rw [h1]
   simp [Instr.lookup, run_underlying hm, MapKept.run_getObj_map hg, run_check w x, hf, hz, Result.andThen]
 | some p =>
   obtain ⟨j, b⟩ := p
   obtain ⟨h1, -⟩ := findE_some hr true c
   rw [hr] at hf
   rw [h1]
   simp [Instr.lookup, run_underlying hm, MapKept.run_getObj_map hg, run_check w x, hf, Result.andThen]
end Go.Proofs.YtdkckikobefekaaGreatDoor
namespace Go.Proofs.YtdkckikobefekaaGreatDoor
theorem mrg_perm : ∀ a b : List Pl, (mrg a b).Perm (a ++ b)
 | a, [] => by simp [mrg]
 | [], b :: r => by simp [mrg]
 | x :: a, y :: b => by
   rw [mrg]
   split
   · exact (mrg_perm a (y :: b)).cons x
   · exact ((mrg_perm (x :: a) b).cons y).trans List.perm_middle.symm
termination_by a b => a.length + b.length
theorem sortN_perm : ∀ (n : Nat) (l : List Pl), (sortN n l).Perm l
 | 0, _ => List.Perm.refl _
 | n + 1, l => by
   rw [sortN]
   split
   · exact List.Perm.refl _
   · refine (mrg_perm _ _).trans ?_
     refine ((sortN_perm n _).append (sortN_perm n _)).trans ?_
     rw [List.take_append_drop]
theorem playsL_perm (b : Bd) (ws : List Str) (rack : Str) : (playsL b ws rack).Perm (foundL b ws rack) := sortN_perm _ _
def AllLegal (b : Bd) (ws : List Str) (rack : Str) (ps : List Pl) : Prop := ∀ p ∈ ps, legalC b ws rack p = 0
section
variable {b : Bd} {ws : List Str} {rack : Str} {ps : List Pl}
theorem tryL_legal (f : Bd) (word : Str) (row col : Int) (down : Bool) : AllLegal b ws rack (tryL b ws rack f word row col down) := by
 intro p hp
 unfold tryL at hp
 split at hp
 · cases hp
 · split at hp
   · cases hp
   · split at hp
     · simpa using (List.mem_filter.1 hp).2
     · cases hp
theorem tryF_legal (f : Bd) (word : Str) (row col : Int) (down : Bool) (h : AllLegal b ws rack ps) : AllLegal b ws rack (tryF b ws rack f word row col down ps) := by
 intro p hp
 unfold tryF at hp
 split at hp
 · exact h p hp
 · rcases List.mem_append.1 hp with hp | hp
   · exact h p hp
   · exact tryL_legal f word row col down p hp
theorem colF_legal (word : Str) (row : Nat) : ∀ (k : Nat) (ps : List Pl), AllLegal b ws rack ps → AllLegal b ws rack (colF b ws rack word row k ps)
 | 0, _, h => h
 | k + 1, ps, h => tryF_legal _ _ _ _ _ (tryF_legal _ _ _ _ _ (colF_legal word row k ps h))
theorem rowF_legal (word : Str) (n : Nat) : ∀ (k : Nat) (ps : List Pl), AllLegal b ws rack ps → AllLegal b ws rack (rowF b ws rack word n k ps)
 | 0, _, h => h
 | k + 1, ps, h => colF_legal word k n _ (rowF_legal word n k ps h)
theorem wordF_legal (n : Nat) : ∀ (k : Nat) (ps : List Pl), AllLegal b ws rack ps → AllLegal b ws rack (wordF b ws rack n k ps)
 | 0, _, h => h
 | k + 1, ps, h => rowF_legal _ n n _ (wordF_legal n k ps h)
theorem foundL_legal : AllLegal b ws rack (foundL b ws rack) := wordF_legal _ _ [] (fun p hp => by cases hp)
theorem playsL_legal : AllLegal b ws rack (playsL b ws rack) := fun p hp => foundL_legal p ((playsL_perm b ws rack).mem_iff.1 hp)
end
end Go.Proofs.YtdkckikobefekaaGreatDoor
namespace Go.Proofs.YtdkckikobefekaaGreatDoor
open Go.RowKit RegP RegL RegV
set_option maxHeartbeats 20000000
set_option maxRecDepth 100000
def prevL (l : Str) (k : Nat) : Option UInt8 := if k = 0 then none else l[k - 1]?
theorem tripB_step (L : Str) (V C : List Int) (k : Nat) (h : k < L.length) (h1 : k < V.length) (h2 : k < C.length) :
   tripB (prevL L k) (L.drop k) (V.drop k) (C.drop k) = (smallB L[k] && (aftB (prevL L k) L[k] && (inR V[k] 0 20 && (inR C[k] 1 20 && tripB (prevL L (k + 1)) (L.drop (k + 1)) (V.drop (k + 1)) (C.drop (k + 1)))))) := by
 have e : prevL L (k + 1) = some L[k] := by unfold prevL; rw [if_neg (by omega)]; simp [List.getElem?_eq_getElem h]
 rw [e, drop_cons L k h, drop_cons V k h1, drop_cons C k h2]
 rfl
theorem tsB_trip (t : TS) : tsB t = (inR t.letters.length 1 26 && (decide (t.values.length = t.letters.length) && (decide (t.counts.length = t.letters.length) && (inR t.blanks 0 4 && (tripB none t.letters t.values t.counts && decide (t.blanks + t.counts.sum ≤ 120)))))) := by
 unfold tsB
 by_cases h1 : t.values.length = t.letters.length
 · by_cases h2 : t.counts.length = t.letters.length
   · rw [tripB_eq _ _ _ _ h1 h2, decide_eq_true h1, decide_eq_true h2]
     cases hs : smFrom none t.letters
     · simp
     · have := smFrom_26 hs
       have e : inR (t.letters.length : Int) 1 26 = decide (1 ≤ t.letters.length) := by
         unfold inR
         rw [Bool.eq_iff_iff]
         simp
         omega
       rw [e]
       simp
   · rw [decide_eq_false h2]
     simp
 · rw [decide_eq_false h1]
   simp
theorem l02Ok_any (p : Addr) (t : TS) (A1 A2 : Option Addr) (c1 c2 : Nat) (w : World) (hp : TsAt w p t A1 c1 A2 c2) (hl : t.letters.length ≤ 2 ^ 40) (hv : t.values.length ≤ 2 ^ 40) (hc : t.counts.length ≤ 2 ^ 40) :
   Calls Tryz.prog 137 #[.pointer (some p)] w fun e w' => e = .returned (.bool (tsB t)) ∧ Below w.heap.size w w' := by
 rw [tsB_trip]
 obtain ⟨L, V, C, B⟩ := t
 simp only at *
 have kn := fun w => l00In_any (L.length : Int) 1 26 w
 have kb := fun w => l00In_any B 0 4 w
 have kw1 := fun x w => l00In_any x 0 20 w
 have kw2 := fun x w => l00In_any x 1 20 w
 have d0 := hp.x0
 have d1 := hp.x1
 have d2 := hp.x2
 have d3 := hp.x3
 simp only at d0 d1 d2 d3
 obtain ⟨b1, h1⟩ : ∃ b, b = inR (L.length : Int) 1 26 := ⟨_, rfl⟩
 obtain ⟨b3, h3⟩ : ∃ b, b = decide (V.length = L.length) := ⟨_, rfl⟩
 obtain ⟨b4, h4⟩ : ∃ b, b = decide (C.length = L.length) := ⟨_, rfl⟩
 obtain ⟨b5, h5⟩ : ∃ b, b = inR B 0 4 := ⟨_, rfl⟩
 have h3' : ((V.length : Int) != (L.length : Int)) = !b3 := by rw [h3, Bool.eq_iff_iff]; simp; omega
 have h4' : ((C.length : Int) != (L.length : Int)) = !b4 := by rw [h4, Bool.eq_iff_iff]; simp; omega
 have hn26 : Hid (b1 = true → L.length ≤ 26) := Lib.hid (fun e => by have := h1.symm.trans e; unfold inR at this; simp at this; omega)
 have hV : Hid (b3 = true → V.length = L.length) := Lib.hid (fun e => of_decide_eq_true (h3.symm.trans e))
 have hC : Hid (b4 = true → C.length = L.length) := Lib.hid (fun e => of_decide_eq_true (h4.symm.trans e))
 have hB : Hid (b5 = true → 0 ≤ B ∧ B ≤ 4) := Lib.hid (fun e => by have := h5.symm.trans e; unfold inR at this; simpa using this)
 rw [← h1, ← h3, ← h4, ← h5]
 rw [← h1] at kn
 rw [← h5] at kb
 obtain ⟨T, hT⟩ : ∃ T, T = (b1 && (b3 && (b4 && (b5 && (tripB none L V C && decide (B + C.sum ≤ 120)))))) := ⟨_, rfl⟩
 rw [← hT]
 have hdef := Lib.hid hT
 clear h1 h3 h4 h5 hT
 by_cases hall : (b1 && (b3 && (b4 && b5))) = true
 · simp only [Bool.and_eq_true] at hall
   obtain ⟨rfl, rfl, rfl, rfl⟩ := hall
   simp only [Bool.true_and] at hdef
   have hVl := Lib.hid (hV.out rfl)
   have hCl := Lib.hid (hC.out rfl)
   have h26 := hn26.out rfl
   obtain ⟨hb0, hb4⟩ := hB.out rfl
   clear hn26 hV hC hB hl hv hc
   go_enter Tryz.func137, Tryz.ntmps137
   go_wp2_with (first
     | (go_at_call 143; (with_reducible refine (kn _).mono ?_); rintro e w3 ⟨rfl, rfl⟩)
     | (go_at_call 143; (with_reducible refine (kb _).mono ?_); rintro e w3 ⟨rfl, rfl⟩))
   go_loopw [4, 5] (fun tot i wr => ∃ k : Nat, k ≤ L.length ∧ i = .int .i64 k ∧ tot = .int .i64 (B + (C.take k).sum) ∧ B + (C.take k).sum ≤ 4 + 20 * k ∧ 0 ≤ B + (C.take k).sum ∧ Hid (tripB none L V C = tripB (prevL L k) (L.drop k) (V.drop k) (C.drop k)) ∧ Dr w wr) (fun _ i _ => L.length - (intOf i).toNat)
   case atStart => exact ⟨0, by omega, rfl, by simp, by simp; omega, by simp; omega, Lib.hid rfl, Dr.refl _⟩
   case round =>
     clear d0 d1 d2 d3
     obtain ⟨k, hk, rfl, rfl, ht1, ht2, he, hd⟩ := hrel
     obtain ⟨d0, d1, d2, d3, r1, r2⟩ := hp.dr hd
     simp only at d0 d1 d2 d3 r1 r2
     obtain ⟨S, hS⟩ : ∃ S, S = B + (C.take k).sum := ⟨_, rfl⟩
     rw [← hS] at ht1 ht2 ⊢
     by_cases hlt : k < L.length
     · have hltV : k < V.length := by have := hVl.out; omega
       have hltC : k < C.length := by have := hCl.out; omega
       have hst := Lib.hid (tripB_step L V C k hlt hltV hltC)
       have hsm := Lib.hid (sum_take hltC)
       obtain ⟨a1, rfl, hab1, hx1⟩ := r1.el hltV
       obtain ⟨a2, rfl, hab2, hx2⟩ := r2.el hltC
       have kx1 := fun w => kw1 V[k] w
       have kx2 := fun w => kw2 C[k] w
       have hy : Hid (inR C[k] 1 20 = true → 1 ≤ C[k] ∧ C[k] ≤ 20) := Lib.hid (fun e => by unfold inR at e; simpa using e)
       have ks := fun w => l01Small_any L[k] w
       have hS' := Lib.hid hS
       have j0 : (k : Int) < (L.length : Int) := by omega
       have j1 : (k : Int) < (V.length : Int) := by omega
       have j2 : (k : Int) < (C.length : Int) := by omega
       have j3 : (0 : Int) ≤ k := by omega
       clear hS kw1 kw2 kn kb
       generalize V[k] = x at *
       generalize C[k] = y at *
       generalize inR x 0 20 = e3 at *
       generalize inR y 1 20 = e4 at *
       simp only [xv] at hx1 hx2
       obtain ⟨e1, he1⟩ : ∃ e, e = smallB L[k] := ⟨_, rfl⟩
       rw [← he1] at hst ks
       clear he1
       obtain ⟨e2, he2⟩ : ∃ e, e = aftB (prevL L k) L[k] := ⟨_, rfl⟩
       rw [← he2] at hst
       by_cases h0 : 0 < k
       · have i1 : (1 : Int) ≤ (k : Int) := by omega
         have i2 : (k : Int) ≤ (L.length : Int) := by omega
         have i4 : (0 : Int) ≤ (k : Int) - 1 := by omega
         have i5 : (k : Int) - 1 < (L.length : Int) := by omega
         have i3 : ((k : Int) - 1).toNat = k - 1 := by omega
         have hle : decide (L[k].toNat ≤ (L[k - 1]'(by omega)).toNat) = !e2 := by
           rw [he2, prevL, if_neg (by omega), List.getElem?_eq_getElem (by omega : k - 1 < L.length)]
           rw [Bool.eq_iff_iff]
           simp [aftB]
         clear he2
         have hor : (e1 = false) ∨ (e1 = true ∧ e2 = false) ∨ (e1 = true ∧ e2 = true ∧ e3 = false) ∨ (e1 = true ∧ e2 = true ∧ e3 = true ∧ e4 = false) ∨ (e1 = true ∧ e2 = true ∧ e3 = true ∧ e4 = true) := by
           cases e1 <;> cases e2 <;> cases e3 <;> cases e4 <;> simp
         rcases hor with rfl | ⟨rfl, rfl⟩ | ⟨rfl, rfl, rfl⟩ | ⟨rfl, rfl, rfl, rfl⟩ | ⟨rfl, rfl, rfl, rfl⟩
         · go_wp2_with (fail)
           go_quiet (first
               | (go_at_call 204; exact quiet_eq (ks _))
               | (go_at_call 143; (with_reducible exact quiet_eq (kx1 _)))
               | (go_at_call 143; (with_reducible exact quiet_eq (kx2 _))))
           go_wp2_with (fail)
           go_ret
           exact ⟨ret_bool (by rw [hdef.out, he.out, hst.out]; rfl), hd.below.trans (Dr.below ⟨_, rfl⟩ |>.mono hd.below.size)⟩
         · go_wp2_with (fail)
           go_quiet (first
               | (go_at_call 204; exact quiet_eq (ks _))
               | (go_at_call 143; (with_reducible exact quiet_eq (kx1 _)))
               | (go_at_call 143; (with_reducible exact quiet_eq (kx2 _))))
           go_wp2_with (fail)
           go_ret
           exact ⟨ret_bool (by rw [hdef.out, he.out, hst.out]; rfl), hd.below.trans (Dr.below ⟨_, rfl⟩ |>.mono hd.below.size)⟩
         · go_wp2_with (fail)
           go_quiet (first
               | (go_at_call 204; exact quiet_eq (ks _))
               | (go_at_call 143; (with_reducible exact quiet_eq (kx1 _)))
               | (go_at_call 143; (with_reducible exact quiet_eq (kx2 _))))
           go_wp2_with (fail)
           go_ret
           exact ⟨ret_bool (by rw [hdef.out, he.out, hst.out]; rfl), hd.below.trans (Dr.below ⟨_, rfl⟩ |>.mono hd.below.size)⟩
         · go_wp2_with (fail)
           go_quiet (first
               | (go_at_call 204; exact quiet_eq (ks _))
               | (go_at_call 143; (with_reducible exact quiet_eq (kx1 _)))
               | (go_at_call 143; (with_reducible exact quiet_eq (kx2 _))))
           go_wp2_with (fail)
           go_ret
           exact ⟨ret_bool (by rw [hdef.out, he.out, hst.out]; rfl), hd.below.trans (Dr.below ⟨_, rfl⟩ |>.mono hd.below.size)⟩
         · obtain ⟨y1, y2⟩ := hy.out (by simp)
           go_wp2_with (fail)
           go_quiet (first
               | (go_at_call 204; exact quiet_eq (ks _))
               | (go_at_call 143; (with_reducible exact quiet_eq (kx1 _)))
               | (go_at_call 143; (with_reducible exact quiet_eq (kx2 _))))
           go_wp2_with (fail)
           go_roundw
           case rel => exact ⟨k + 1, by omega, by go_num, vi_eq (by rw [hsm.out, hS'.out]; omega), by rw [hsm.out]; have := hS'.out; omega, by rw [hsm.out]; have := hS'.out; omega, Lib.hid (by rw [he.out, hst.out]; rfl), hd.trans ⟨_, rfl⟩⟩
           case measure => simp [intOf]; omega
       · have i0 : ¬ (0 : Int) < (k : Int) := by omega
         have i0' : decide ((0 : Int) < (k : Int)) = false := decide_eq_false i0
         have he2' : e2 = true := by rw [he2, prevL, if_pos (by omega)]; rfl
         subst he2'
         clear he2
         have hor : (e1 = false) ∨ (e1 = true ∧ e3 = false) ∨ (e1 = true ∧ e3 = true ∧ e4 = false) ∨ (e1 = true ∧ e3 = true ∧ e4 = true) := by
           cases e1 <;> cases e3 <;> cases e4 <;> simp
         rcases hor with rfl | ⟨rfl, rfl⟩ | ⟨rfl, rfl, rfl⟩ | ⟨rfl, rfl, rfl⟩
         · go_wp2_with (fail)
           go_quiet (first
               | (go_at_call 204; exact quiet_eq (ks _))
               | (go_at_call 143; (with_reducible exact quiet_eq (kx1 _)))
               | (go_at_call 143; (with_reducible exact quiet_eq (kx2 _))))
           go_wp2_with (fail)
           go_ret
           exact ⟨ret_bool (by rw [hdef.out, he.out, hst.out]; rfl), hd.below.trans (Dr.below ⟨_, rfl⟩ |>.mono hd.below.size)⟩
         · go_wp2_with (fail)
           go_quiet (first
               | (go_at_call 204; exact quiet_eq (ks _))
               | (go_at_call 143; (with_reducible exact quiet_eq (kx1 _)))
               | (go_at_call 143; (with_reducible exact quiet_eq (kx2 _))))
           go_wp2_with (fail)
           go_ret
           exact ⟨ret_bool (by rw [hdef.out, he.out, hst.out]; rfl), hd.below.trans (Dr.below ⟨_, rfl⟩ |>.mono hd.below.size)⟩
         · go_wp2_with (fail)
           go_quiet (first
               | (go_at_call 204; exact quiet_eq (ks _))
               | (go_at_call 143; (with_reducible exact quiet_eq (kx1 _)))
               | (go_at_call 143; (with_reducible exact quiet_eq (kx2 _))))
           go_wp2_with (fail)
           go_ret
           exact ⟨ret_bool (by rw [hdef.out, he.out, hst.out]; rfl), hd.below.trans (Dr.below ⟨_, rfl⟩ |>.mono hd.below.size)⟩
         · obtain ⟨y1, y2⟩ := hy.out (by simp)
           go_wp2_with (fail)
           go_quiet (first
               | (go_at_call 204; exact quiet_eq (ks _))
               | (go_at_call 143; (with_reducible exact quiet_eq (kx1 _)))
               | (go_at_call 143; (with_reducible exact quiet_eq (kx2 _))))
           go_wp2_with (fail)
           go_roundw
           case rel => exact ⟨k + 1, by omega, by go_num, vi_eq (by rw [hsm.out, hS'.out]; omega), by rw [hsm.out]; have := hS'.out; omega, by rw [hsm.out]; have := hS'.out; omega, Lib.hid (by rw [he.out, hst.out]; rfl), hd.trans ⟨_, rfl⟩⟩
           case measure => simp [intOf]; omega
     · obtain rfl : k = L.length := by omega
       have hT : Hid (T = decide (S ≤ 120)) := Lib.hid (by
         rw [hdef.out, he.out, drop_all L _ (Nat.le_refl _), hS, List.take_of_length_le (by have := hCl.out; omega)]
         simp [tripB])
       have hlt' : ¬ (L.length : Int) < (L.length : Int) := by omega
       go_wp2_with (fail)
       go_ret
       exact ⟨ret_bool (by rw [hT.out, hS]), hd.below⟩
 · have hres : Hid (T = false) := Lib.hid (by
     rw [hdef.out]
     cases b1 <;> cases b3 <;> cases b4 <;> cases b5 <;> simp_all)
   have hor : b1 = false ∨ (b1 = true ∧ b3 = false) ∨ (b1 = true ∧ b3 = true ∧ b4 = false) ∨ (b1 = true ∧ b3 = true ∧ b4 = true ∧ b5 = false) := by
     revert hall
     cases b1 <;> cases b3 <;> cases b4 <;> cases b5 <;> simp
   clear hdef hall hn26 hV hC hB
   rcases hor with rfl | ⟨rfl, rfl⟩ | ⟨rfl, rfl, rfl⟩ | ⟨rfl, rfl, rfl, rfl⟩
   all_goals
     go_enter Tryz.func137, Tryz.ntmps137
     go_wp2_with (first
       | (go_at_call 143; (with_reducible refine (kn _).mono ?_); rintro e w3 ⟨rfl, rfl⟩)
       | (go_at_call 143; (with_reducible refine (kb _).mono ?_); rintro e w3 ⟨rfl, rfl⟩))
     go_ret
     exact ⟨ret_bool (by rw [hres.out]), Below.refl _ _⟩
end Go.Proofs.YtdkckikobefekaaGreatDoor
namespace Go.Proofs.YtdkckikobefekaaGreatDoor
namespace RegV
open Go.RowKit RegP RegL
def SC (b a : Nat) (pre : List Nat) (W : World) (ob : Obj) (R : Value → World → Prop) (σ : Nat → Value) (L : Nat → Bool) (w : World) : Prop :=
 (L a = true ∧ L b = true ∧ (∀ e ∈ pre, L e = true) ∧ R (σ a) w) ∨ (L a = false ∧ L b = true ∧ (∀ e ∈ pre, L e = true) ∧ ∃ w1, Below W.heap.size W w1 ∧ σ b = .slice (some ⟨w1.heap.size, 0, none⟩) 1 1 ∧ w = w1.alloc ob) ∨ (L a = false ∧ L b = false ∧ Below W.heap.size W w)
section
variable {b a i : Nat} {pre : List Nat} {W w w' : World} {ob : Obj} {R : Value → World → Prop} {σ : Nat → Value} {L : Nat → Bool} {u : Value}
theorem SC.start : SC b a pre W ob R σ (fun _ => false) W.drew := .inr (.inr ⟨rfl, rfl, (Below.refl _ _).drew⟩)
theorem SC.keep (h : SC b a pre W ob R σ L w) (ha : i ≠ a) (hb : i ≠ b) : SC b a pre W ob R σ (upd L i) w := by
 have e1 : upd L i a = L a := upd_ne L (Ne.symm ha)
 have e2 : upd L i b = L b := upd_ne L (Ne.symm hb)
 have e3 : (∀ e ∈ pre, L e = true) → ∀ e ∈ pre, upd L i e = true := fun h3 e he => by unfold upd; simp [h3 e he]
 rcases h with ⟨h1, h2, h3, h4⟩ | ⟨h1, h2, h3, h4⟩ | ⟨h1, h2, h3⟩
 · exact .inl ⟨e1.trans h1, e2.trans h2, e3 h3, h4⟩
 · exact .inr (.inl ⟨e1.trans h1, e2.trans h2, e3 h3, h4⟩)
 · exact .inr (.inr ⟨e1.trans h1, e2.trans h2, h3⟩)
theorem SC.low (h : SC b a pre W ob R σ L w) (hi : i ∈ pre) (hL : L i = false) : Below W.heap.size W w := by
 rcases h with ⟨_, _, h3, _⟩ | ⟨_, _, h3, _⟩ | ⟨_, _, h3⟩
 · rw [h3 i hi] at hL; cases hL
 · rw [h3 i hi] at hL; cases hL
 · exact h3
theorem SC.call (h : SC b a pre W ob R σ L w) (hi : i ∈ pre) (hL : L i = false) (ha : i ≠ a) (hb : i ≠ b) (hw : Below w.heap.size w w') : SC b a pre W ob R σ (upd L i) w' := by
 rcases h with ⟨_, _, h3, _⟩ | ⟨_, _, h3, _⟩ | ⟨h1, h2, h3⟩
 · rw [h3 i hi] at hL; cases hL
 · rw [h3 i hi] at hL; cases hL
 · exact .inr (.inr ⟨(upd_ne L (Ne.symm ha)).trans h1, (upd_ne L (Ne.symm hb)).trans h2, h3.trans (hw.mono h3.size)⟩)
theorem SC.atb (h : SC b a pre W ob R σ L w) (hL : L b = false) : Below W.heap.size W w := by
 rcases h with ⟨_, h2, _⟩ | ⟨_, h2, _⟩ | ⟨_, _, h3⟩
 · rw [h2] at hL; cases hL
 · rw [h2] at hL; cases hL
 · exact h3
theorem SC.tob (h : SC b a pre W ob R σ L w) (hL : L b = false) (hab : a ≠ b) (hp : ∀ e ∈ pre, L e = true) : SC b a pre W ob R (sub σ b (.slice (some ⟨w.heap.size, 0, none⟩) 1 1)) (upd L b) (w.alloc ob) := by
 rcases h with ⟨_, h2, _⟩ | ⟨_, h2, _⟩ | ⟨h1, _, h3⟩
 · rw [h2] at hL; cases hL
 · rw [h2] at hL; cases hL
 · refine .inr (.inl ⟨(upd_ne L hab).trans h1, upd_same L b, fun e he => ?_, w, h3, sub_same .., rfl⟩)
   unfold upd; simp [hp e he]
theorem SC.ata (h : SC b a pre W ob R σ L w) (hL : L a = false) (hb : L b = true) : ∃ w1, Below W.heap.size W w1 ∧ σ b = .slice (some ⟨w1.heap.size, 0, none⟩) 1 1 ∧ w = w1.alloc ob := by
 rcases h with ⟨h1, _⟩ | ⟨_, _, _, h3⟩ | ⟨_, h2, _⟩
 · rw [h1] at hL; cases hL
 · exact h3
 · rw [h2] at hb; cases hb
theorem SC.toa (hb : L b = true) (hp : ∀ e ∈ pre, L e = true) (hR : R u w') : SC b a pre W ob R (sub σ a u) (upd L a) w' := by
 refine .inl ⟨upd_same L a, ?_, fun e he => ?_, by rw [sub_same]; exact hR⟩
 · unfold upd; simp [hb]
 · unfold upd; simp [hp e he]
theorem SC.fin (h : SC b a pre W ob R σ L w) (hL : L a = true) : R (σ a) w := by
 rcases h with ⟨_, _, _, h4⟩ | ⟨h1, _⟩ | ⟨h1, _⟩
 · exact h4
 · rw [h1] at hL; cases hL
 · rw [h1] at hL; cases hL
end
end RegV
end Go.Proofs.YtdkckikobefekaaGreatDoor
namespace Go.Proofs.YtdkckikobefekaaGreatDoor
open Go.RowKit RegP RegL RegV
set_option maxHeartbeats 4000000
set_option maxRecDepth 100000
def lsE (t : TS) (b : Bd) (q : Pl) (i : Nat) : Int := if b.at_ q.row (q.col + i) == 46 then ltF (b.prm q.row (q.col + i)) * valT t (q.word.getD i 0) else valT t (q.word.getD i 0)
def lsTo (t : TS) (b : Bd) (q : Pl) (m : Nat) : List Int := (List.range m).map (lsE t b q)
theorem lsTo_length (t : TS) (b : Bd) (q : Pl) (m : Nat) : (lsTo t b q m).length = m := by simp [lsTo]
theorem lsTo_step (t : TS) (b : Bd) (q : Pl) (m : Nat) : lsTo t b q (m + 1) = lsTo t b q m ++ [lsE t b q m] := by
 unfold lsTo
 rw [List.range_succ, List.map_append]
 rfl
theorem lsS_to (t : TS) (b : Bd) (q : Pl) : lsS t b q = lsTo t b q q.word.length := rfl
theorem l13Letters_any (pt p : Addr) (t : TS) (A1 A2 : Option Addr) (c1 c2 : Nat) (b : Bd) (q : Pl) (w : World) (ht : TsAt w pt t A1 c1 A2 c2) (hp : BAt w p b) (ho : TsOk t) (hf : b.Fit) (hon : OnB b q) (hl : q.word.length ≤ 2 ^ 38) :
   Calls Tryz.prog 219 #[.pointer (some pt), .pointer (some p), q.v] w fun e w' => ∃ v, e = .returned v ∧ w'.ownsRow w.heap.size 2 1 v (lsS t b q).length ((lsS t b q).map xv) ∧ Below w.heap.size w w' := by
 have kv := fun l w h => l02Value_any pt t A1 A2 c1 c2 l w h (by have := ho.len; omega) ho.vals
 have kl0 := fun r c l (hi : b.inB r c = true) w h1 h2 => l13Letter_any pt p t A1 A2 c1 c2 b r c l w h1 h2 ho hf hi
 have hstep := Lib.hid (lsTo_step t b q)
 have hend := Lib.hid (lsS_to t b q)
 have hz : lsTo t b q 0 = [] := rfl
 have hE : Hid (∀ k (h : k < q.word.length), lsE t b q k = if b.at_ q.row (q.col + k) == 46 then ltF (b.prm q.row (q.col + k)) * valT t q.word[k] else valT t q.word[k]) := Lib.hid (fun k h => by
   unfold lsE
   rw [List.getD_eq_getElem?_getD, List.getElem?_eq_getElem h]
   rfl)
 have hlen := lsTo_length t b q q.word.length
 rw [← lsS_to] at hlen
 rw [hlen]
 obtain ⟨F, hF⟩ : ∃ F, F = lsTo t b q := ⟨_, rfl⟩
 obtain ⟨E, hEe⟩ : ∃ E, E = lsE t b q := ⟨_, rfl⟩
 obtain ⟨G, hG⟩ : ∃ G, G = lsS t b q := ⟨_, rfl⟩
 rw [← hF] at hstep hz hend
 rw [← hEe] at hstep hE
 rw [← hG] at hend ⊢
 clear hF hG hEe hlen
 obtain ⟨r, c, dn, s⟩ := q
 simp only [OnB] at hon
 have hblt := hp.lt
 have h15 := hf.hi
 simp only at hl hend hE
 simp only [Pl.v]
 go_enter Tryz.func219, Tryz.ntmps219
 go_wp2_with (fail)
 go_loopw [7, 8] (fun o i wr => ∃ k : Nat, k ≤ s.length ∧ i = .int .i64 k ∧ wr.ownsRow w.heap.size 2 1 o k ((F k).map xv) ∧ Below w.heap.size w wr ∧ Blk wr w.heap.size 61 #[.int .i64 r, .int .i64 c, .bool dn, sv s]) (fun _ i _ => s.length - (intOf i).toNat)
 case atStart =>
   refine ⟨0, by omega, rfl, ?_, ((Below.refl _ _).alloc (Nat.le_refl _) _).alloc (by simp) _, (Blk.new w _ _).alloc _⟩
   exact own_cast (lit1 w _ #[] 0 (Nat.le_refl _) (by unfold maxLen; omega) rfl) (by rw [hz]; rfl) rfl
 case round =>
   obtain ⟨k, hk, rfl, hown, hw, hbx⟩ := hrel
   have e0 : wr.cell? ⟨w.heap.size, 0, none⟩ = some (.int .i64 r) := hbx.cell 0
   have e1 : wr.cell? ⟨w.heap.size, 1, none⟩ = some (.int .i64 c) := hbx.cell 1
   have e3 : wr.cell? ⟨w.heap.size, 3, none⟩ = some (sv s) := hbx.cell 3
   have hpr := hp.below hw hblt
   have htr := ht.below hw
   by_cases hlt : k < s.length
   · have hk1 : (k : Int) < (s.length : Int) := by omega
     have hk0 : (0 : Int) ≤ (k : Int) := by omega
     have hik : b.inB r (c + (k : Int)) = true := hon k hlt
     obtain ⟨⟨r0, r1⟩, c0, c1⟩ := inB_iff.1 hik
     have hst := Lib.hid (hstep.out k)
     have hEk := Lib.hid (hE.out k hlt)
     have kl := fun (hi : b.inB r (c + (k : Int)) = true) => kl0 r (c + k) s[k] hi
     have kvk := fun w => kv s[k] w
     have hq : (((b.at_ r (c + k)).toNat : Int) == 46) = (b.at_ r (c + k) == 46) := u8_eq _ 46
     obtain ⟨x, hx⟩ : ∃ x, x = b.at_ r (c + k) := ⟨_, rfl⟩
     rw [← hx] at hq hEk
     have hx' := Lib.hid hx
     clear hx
     have hcl : c + (k : Int) ≤ 14 := by omega
     have hc0' : -274877906944 ≤ c := by omega
     obtain ⟨Y, hY⟩ : ∃ Y, Y = valT t s[k] := ⟨_, rfl⟩
     rw [← hY] at hEk
     simp only [← hY] at kl kvk
     obtain ⟨X, hX⟩ : ∃ X, X = ltF (b.prm r (c + k)) * Y := ⟨_, rfl⟩
     rw [← hX] at hEk
     simp only [← hX] at kl
     clear hY hX kl0 kv hE hstep
     cases hx1 : (x == 46)
     all_goals rw [hx1] at hq hEk
     · go_wp2_with (first
         | (go_at_call 225; refine (l11At_any p b r _ _ hpr hf hik).mono ?_; rw [← hx'.out]; rintro e w2 ⟨rfl, hd2⟩; have hw2 := hw.trans (hd2.below.mono hw.size); have hown2 := own_call hown hd2.below; have hbx2 := hbx.below hd2.below hbx.lt
            have g3 : w2.cell? ⟨w.heap.size, 3, none⟩ = some (sv s) := hbx2.cell 3)
         | (go_at_call 223; refine (kvk _ (ht.below hw2)).mono ?_; rintro e w3 ⟨rfl, rfl⟩)
         | (at_builtin; refine wpList_app i64T rfl (.tmp 42) (.tmp 49) rfl _ _ _ rfl w.heap.size hown2 [.int .i64 Y] rfl (by simp [Value.oneCell']) rfl (by omega) (by omega) hw2.size ?_; intro v1 w1 hown1 hg1 _))
       go_roundw
       case rel => exact ⟨k + 1, by omega, by go_num, own_cast hown1 (by rw [hst.out, hEk.out, List.map_append]; rfl) rfl, Below.own hw2 hw2.size hown2 (Nat.le_refl _) hg1, hbx2.grown hg1 (fun h => own_blk_ne hown2 hbx2 (by decide) h.symm)⟩
       case measure => simp [intOf]; omega
     · go_wp2_with (go_at_call 225; refine (l11At_any p b r _ _ hpr hf hik).mono ?_; rw [← hx'.out]; rintro e w2 ⟨rfl, hd2⟩; have hw2 := hw.trans (hd2.below.mono hw.size); have hown2 := own_call hown hd2.below; have hbx2 := hbx.below hd2.below hbx.lt)
       clear hw hown hbx e0 e1 e3 hpr htr hd2
       obtain ⟨hbl, hown, hbx⟩ := And.intro hw2 (And.intro hown2 hbx2)
       clear hw2 hown2 hbx2
       refine wp_region_v 16 16 (SC 14 15 [4, 6, 10, 13] w2 (.cells #[.int .i64 X] 2) (fun u w' => ∃ w1, Below w2.heap.size w2 w1 ∧ w'.ownsRow w.heap.size 2 1 u (k + 1) ((F k).map xv ++ [.int .i64 X]) ∧ w1.grownBy w' (u7).ownBlock)) (by kernel_rfl) (by kernel_rfl) ⟨fun _ => undef, SC.start⟩ ?_
       simp only [qqT, List.take_zero, qqD, List.drop_zero]
       apply pv_step (fun _ => rfl)
       · intro σ L w' hS h1 h2 K hK
         clear h2
         go_wp2
         exact hS.keep (by decide) (by decide)
       simp only [Act.put, qqS, qqC, qqZ]
       apply pv_step (fun _ => rfl)
       · intro σ L w' hS h1 h2 K hK
         clear h2
         go_wp2
         exact hS.keep (by decide) (by decide)
       simp only [Act.put, qqS, qqC, qqZ]
       apply pv_step (fun _ => rfl)
       · intro σ L w' hS h1 h2 K hK
         clear h2
         go_wp2
         exact hS.keep (by decide) (by decide)
       simp only [Act.put, qqS, qqC, qqZ]
       apply pv_step (fun _ => rfl)
       · intro σ L w' hS h1 h2 K hK
         clear h2
         go_wp2
         exact hS.keep (by decide) (by decide)
       simp only [Act.put, qqS, qqC, qqZ]
       apply pv_step (fun _ => rfl)
       · intro σ L w' hS h1 h2 K hK
         clear h2
         have f := hbx.below (hS.low (by decide) h1) hbx.lt
         have f0 : w'.cell? ⟨w.heap.size, 0, none⟩ = some (.int .i64 r) := f.cell 0
         have f1 : w'.cell? ⟨w.heap.size, 1, none⟩ = some (.int .i64 c) := f.cell 1
         have f3 : w'.cell? ⟨w.heap.size, 3, none⟩ = some (sv s) := f.cell 3
         go_wp2
         exact hS.keep (by decide) (by decide)
       simp only [Act.put, qqS, qqC, qqZ]
       apply pv_step (fun _ => rfl)
       · intro σ L w' hS h1 h2 K hK
         clear h2
         go_wp2
         exact hS.keep (by decide) (by decide)
       simp only [Act.put, qqS, qqC, qqZ]
       apply pv_step (fun _ => rfl)
       · intro σ L w' hS h1 h2 K hK
         clear h2
         have f := hbx.below (hS.low (by decide) h1) hbx.lt
         have f0 : w'.cell? ⟨w.heap.size, 0, none⟩ = some (.int .i64 r) := f.cell 0
         have f1 : w'.cell? ⟨w.heap.size, 1, none⟩ = some (.int .i64 c) := f.cell 1
         have f3 : w'.cell? ⟨w.heap.size, 3, none⟩ = some (sv s) := f.cell 3
         go_wp2
         exact hS.keep (by decide) (by decide)
       simp only [Act.put, qqS, qqC, qqZ]
       apply pv_step (fun _ => rfl)
       · intro σ L w' hS h1 h2 K hK
         clear h2
         go_wp2
         exact hS.keep (by decide) (by decide)
       simp only [Act.put, qqS, qqC, qqZ]
       apply pv_step (fun _ => rfl)
       · intro σ L w' hS h1 h2 K hK
         clear h2
         go_wp2
         exact hS.keep (by decide) (by decide)
       simp only [Act.put, qqS, qqC, qqZ]
       apply pv_step (fun _ => rfl)
       · intro σ L w' hS h1 h2 K hK
         clear h2
         go_wp2
         exact hS.keep (by decide) (by decide)
       simp only [Act.put, qqS, qqC, qqZ]
       apply pv_step (fun _ => rfl)
       · intro σ L w' hS h1 h2 K hK
         clear h2
         have f := hbx.below (hS.low (by decide) h1) hbx.lt
         have f0 : w'.cell? ⟨w.heap.size, 0, none⟩ = some (.int .i64 r) := f.cell 0
         have f1 : w'.cell? ⟨w.heap.size, 1, none⟩ = some (.int .i64 c) := f.cell 1
         have f3 : w'.cell? ⟨w.heap.size, 3, none⟩ = some (sv s) := f.cell 3
         go_wp2
         exact hS.keep (by decide) (by decide)
       simp only [Act.put, qqS, qqC, qqZ]
       apply pv_step (fun _ => rfl)
       · intro σ L w' hS h1 h2 K hK
         clear h2
         go_wp2
         exact hS.keep (by decide) (by decide)
       simp only [Act.put, qqS, qqC, qqZ]
       apply pv_step (fun _ => rfl)
       · intro σ L w' hS h1 h2 K hK
         clear h2
         go_wp2
         exact hS.keep (by decide) (by decide)
       simp only [Act.put, qqS, qqC, qqZ]
       apply pv_step (v := .int .i64 X) (fun _ => rfl)
       · intro σ L w' hS h1 h2 K hK
         clear h2
         have hl := hS.low (by decide) h1
         go_wp2_with (go_at_call 222; refine (kl hik _ (ht.below (hbl.trans (hl.mono hbl.size))) (hp.below (hbl.trans (hl.mono hbl.size)) hblt)).mono ?_; rintro e w2 ⟨rfl, hb2⟩)
         exact hS.call (by decide) h1 (by decide) (by decide) hb2
       simp only [Act.put, qqS, qqC, qqZ]
       apply pv_free (fun _ => rfl)
       · intro σ L w' hS h1 h2 K hK
         have hp := h2 13 (List.contains_iff_mem.1 (by kernel_rfl))
         have hp4 := h2 4 (List.contains_iff_mem.1 (by kernel_rfl))
         have hp6 := h2 6 (List.contains_iff_mem.1 (by kernel_rfl))
         have hp10 := h2 10 (List.contains_iff_mem.1 (by kernel_rfl))
         clear h2
         have hS' := hS.tob h1 (by decide) (by simp [hp, hp4, hp6, hp10])
         have hlit := run_lit1 i64T (.int .i64 X) #[.int .i64 X] rfl rfl (by omega)
         go_wp2
         exact hS'
       simp only [Act.put, qqS, qqC, qqZ]
       apply pv_free (fun _ => rfl)
       · intro σ L w' hS h1 h2 K hK
         have g14 := h2 14 (List.contains_iff_mem.1 (by kernel_rfl))
         have g13 := h2 13 (List.contains_iff_mem.1 (by kernel_rfl))
         have g4 := h2 4 (List.contains_iff_mem.1 (by kernel_rfl))
         have g6 := h2 6 (List.contains_iff_mem.1 (by kernel_rfl))
         have g10 := h2 10 (List.contains_iff_mem.1 (by kernel_rfl))
         clear h2
         obtain ⟨w1, hl1, e1, rfl⟩ := hS.ata h1 g14
         refine oper_app i64T (.tmp 26) (.tmp 40) rfl u7 k _ rfl w.heap.size (own_call hown hl1) [.int .i64 X] rfl (by simp [Value.oneCell']) w1.heap.size rfl e1 (by omega) (by omega) (Nat.le_trans hbl.size hl1.size) ?_
         intro v1 w1' h11 h12 h13
         exact hK v1 w1' (SC.toa g14 (by simp [g4, g6, g10, g13]) ⟨w1, hl1, h11, h12⟩)
       simp only [Act.put, qqS, qqC, qqZ]
       refine pv_nil fun σ w8 hS => ?_
       obtain ⟨w1, hl1, own8, hg8⟩ := hS.fin rfl
       obtain ⟨v8, hv8⟩ : ∃ v8, v8 = σ 15 := ⟨_, rfl⟩
       rw [← hv8] at own8
       simp only [← hv8]
       clear hS hv8
       have hown1 := own_call hown hl1
       have hb1 := hbl.trans (hl1.mono hbl.size)
       have hbx1 := hbx.below hl1 hbx.lt
       go_wp2_with (fail)
       go_roundw
       case rel => exact ⟨k + 1, by omega, by go_num, own_cast own8 (by rw [hst.out, hEk.out, List.map_append]; rfl) rfl, Below.own hb1 hb1.size hown1 (Nat.le_refl _) hg8, hbx1.grown hg8 (fun h => own_blk_ne hown1 hbx1 (by decide) h.symm)⟩
       case measure => simp [intOf]; omega
   · obtain rfl : k = s.length := by omega
     go_wp2_with (fail)
     go_ret
     exact ⟨_, rfl, own_cast hown (by rw [hend.out]) rfl, hw⟩
theorem l13Main_any (p : Addr) (b : Bd) (q : Pl) (w : World) (hp : BAt w p b) (hf : b.Fit) (hon : OnB b q) :
   Calls Tryz.prog 220 #[.pointer (some p), q.v] w fun e w' => e = .returned (.int .i64 (mainF b q)) ∧ Below w.heap.size w w' := by
 have hl15 := OnB_len hf hon
 have hfr := fun w hp => l12Fresh_any p b q w hp hf hon (by omega)
 have kf := fun r c (hi : b.inB r c = true) w h => l13Factor_any p b r c w h hf hi
 have hGx := freshTo_lt b q q.word.length
 change ∀ x ∈ freshL b q, _ at hGx
 have hG15 := freshL_15 hf hon
 obtain ⟨P, hP⟩ : ∃ P, P = (freshL b q).map fun i : Nat => b.prm q.row (q.col + i) := ⟨_, rfl⟩
 have hPl : P.length = (freshL b q).length := by rw [hP, List.length_map]
 have hPk : Hid (∀ (k x : Nat) (_ : (freshL b q)[k]? = some x) (h2 : k < P.length), P[k] = b.prm q.row (q.col + x)) := Lib.hid (fun k x h h2 => by
   have e : P[k]? = some (b.prm q.row (q.col + x)) := by rw [hP, List.getElem?_map, h]; rfl
   rw [List.getElem?_eq_getElem h2] at e
   exact Option.some.inj e)
 have hbd := fun k => wfL_bd (l := P) (by omega) k
 have hst := fun k (h : k < P.length) => wfL_step h
 have hend : Hid (mainF b q = wfL (P.take P.length)) := Lib.hid (by rw [mainF_wf, ← hP, List.take_length])
 have hz : wfL (P.take 0) = 1 := rfl
 obtain ⟨M, hM⟩ : ∃ M, M = mainF b q := ⟨_, rfl⟩
 rw [← hM] at hend ⊢
 obtain ⟨G, hG⟩ : ∃ G, G = freshL b q := ⟨_, rfl⟩
 rw [← hG] at hfr hGx hG15 hPl hPk
 obtain ⟨F, hF⟩ : ∃ F : Nat → Int, F = fun k => wfL (P.take k) := ⟨_, rfl⟩
 have hFk : ∀ k, wfL (P.take k) = F k := fun k => by rw [hF]
 simp only [hFk] at hbd hst hend hz
 have hst' := Lib.hid hst
 have hbd' := Lib.hid hbd
 have hPl' := Lib.hid hPl
 clear hP hM hG hF hFk hst hbd hPl
 obtain ⟨r, c, dn, s⟩ := q
 simp only [OnB] at hon
 simp only at hl15 hPk hGx
 simp only [Pl.v] at hfr ⊢
 have hblt := hp.lt
 have h15 := hf.hi
 have hbx := (Blk.new w 61 #[.int .i64 r, .int .i64 c, .bool dn, sv s])
 have hbW := (Below.refl w.heap.size w).alloc (Nat.le_refl _) (.cells #[.int .i64 r, .int .i64 c, .bool dn, sv s] 61)
 go_enter Tryz.func220, Tryz.ntmps220
 go_wp2_with (go_at_call 149; refine (hfr _ (hp.alloc _)).mono ?_; rintro e w1 ⟨v1, rfl, own1, hb1⟩; obtain ⟨A1, c1, rfl, hc1, hr1⟩ := own_sl own1; have hbx1 := hbx.below hb1 hbx.lt; have hw1 := hbW.trans (hb1.mono hbW.size); have hp1 := hp.below hw1 hblt)
 go_loopw [6, 7] (fun o i wr => ∃ k : Nat, k ≤ G.length ∧ i = .int .i64 k ∧ o = .int .i64 (F k) ∧ Below w1.heap.size w1 wr) (fun _ i _ => G.length - (intOf i).toNat)
 case atStart => exact ⟨0, by omega, rfl, by rw [hz], Below.refl _ _⟩
 case round =>
   obtain ⟨k, hk, rfl, rfl, hb⟩ := hrel
   have hr := hr1.below' hb (Nat.le_refl _)
   have hzz := hb.size
   have hbxr := hbx1.below hb hbx1.lt
   have hwr := hw1.trans (hb.mono hw1.size)
   have hpr := hp1.below hb hp1.lt
   clear hbx
   by_cases hkl : k < G.length
   · obtain ⟨ad, rfl, hadb, hc3⟩ := hr.el hkl
     have hx := hGx G[k] (List.getElem_mem _)
     have hkP : k < P.length := by rw [hPl'.out]; exact hkl
     have hstk := Lib.hid (hst'.out k hkP)
     have hPx := Lib.hid (hPk.out k _ (List.getElem?_eq_getElem hkl) hkP)
     obtain ⟨f1, f2⟩ := hbd'.out k
     obtain ⟨g1, g2⟩ := wdF_bd P[k]
     obtain ⟨x, hxx⟩ : ∃ x, x = G[k] := ⟨_, rfl⟩
     rw [← hxx] at hx hc3 hPx
     clear hxx
     have hkk : (k : Int) < (G.length : Int) := by omega
     have hin := hon x hx
     obtain ⟨⟨r0, r1⟩, c0, c1'⟩ := inB_iff.1 hin
     have hcx0 : -274877906944 ≤ c := by omega
     have hcx1 : c ≤ 14 := by omega
     have hc3' : wr.cell? (ad.add k) = some (.int .i64 x) := hc3
     have hadk : (ad.add k).block < wr.heap.size := by rw [block_of_add]; omega
     have kfx := kf r (c + x) hin
     rw [← hPx.out] at kfx
     obtain ⟨D, hD⟩ : ∃ D, D = wdF P[k] := ⟨_, rfl⟩
     rw [← hD] at kfx hstk g1 g2
     obtain ⟨f, hfk⟩ : ∃ f, f = F k := ⟨_, rfl⟩
     rw [← hfk] at hstk f1 f2
     simp only [← hfk]
     clear hD hfk hPx kf
     have m1 : 0 ≤ f * D := Int.mul_nonneg (by omega) (by omega)
     have m2 : f * D ≤ 43046721 := by
       have := Int.mul_le_mul f2 g2 (by omega) (by omega : (0 : Int) ≤ 14348907)
       omega
     have m3 : IntKind.i64.wrap (f * D) = f * D := IntWalk.i64_in _ (by omega)
     have m4 : IntKind.i64.wrap (c + (x : Int)) = c + (x : Int) := IntWalk.i64_in _ (by omega)
     go_wp2_with (fail)
     refine wp_region_b 13 (by kernel_rfl) (by kernel_rfl) ?_
     simp only [qqT, List.take_zero, qqD, List.drop_zero]
     iterate 13
       apply pc_step rfl
       · intro w4 hb4 K hK
         have f0 : w4.cell? (ad.add k) = some (.int .i64 x) := (hb4.cell hadk).trans hc3'
         have hbx4 := hbxr.below hb4 hbxr.lt
         have d0 : w4.cell? ⟨w.heap.size, 0, none⟩ = some (.int .i64 r) := hbx4.cell 0
         have d1 : w4.cell? ⟨w.heap.size, 1, none⟩ = some (.int .i64 c) := hbx4.cell 1
         go_wp2_with (first | (go_at_call 224; refine (kfx _ (hpr.below hb4 hpr.lt)).mono ?_; rintro e w5 ⟨rfl, hb5⟩))
         all_goals first | exact hb4 | exact hb4.trans (hb5.mono hb4.size) | exact hb4.trans (hd5.below.mono hb4.size)
       simp only [Act.put, qqS, qqC, qqZ]
     refine pc_nil ?_
     intro w4 hb4
     go_wp2_with (fail)
     go_roundw
     case rel => exact ⟨k + 1, by omega, by go_num, by rw [hstk.out], hb.trans (hb4.mono hb.size)⟩
     case measure => simp [intOf]; omega
   · obtain rfl : k = G.length := by omega
     have hlt' : ¬ (G.length : Int) < (G.length : Int) := by omega
     go_wp2_with (fail)
     go_ret
     exact ⟨ret_int (by rw [hend.out, hPl'.out]), hwr⟩
end Go.Proofs.YtdkckikobefekaaGreatDoor
