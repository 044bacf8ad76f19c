/-
  The state of a search for plays (layer 16 of the spec package): what lies in memory, what a step keeps; the plays of one place in plain Lean; Contract: merge sort of plays (layer 16 of the spec package); append as one operation of a region that draws its order; Contract: the letters that a word needs from a square on to the right (layer 16 of the spec package), whole; Contract: one place of the search for plays (layer 16 of the spec package).
  Conditions: none; a slice of plays lies in memory; a board that is valid lies at an address; a search, a board that is valid and a lexicon lie in memory.
-/
import Derived.Test.YtdkckikobefekaaGreatDoorM04
import Derived.Test.YtdkckikobefekaaGreatDoorM08
import Derived.Test.YtdkckikobefekaaGreatDoorM02
import Derived.Test.YtdkckikobefekaaGreatDoorM07
namespace Go.Proofs.YtdkckikobefekaaGreatDoor
open Go.RowKit RegP RegL RegV
set_option maxHeartbeats 400000
def plC (p : Pl) : List Value := [.int .i64 p.row, .int .i64 p.col, .bool p.down, sv p.word]
def psC (ps : List Pl) : List Value := ps.flatMap plC
theorem psC_append (a b : List Pl) : psC (a ++ b) = psC a ++ psC b := by simp [psC]
theorem psC_one (p : Pl) : psC [p] = plC p := by simp [psC]
theorem psC_length (a : List Pl) : (psC a).length = a.length * 4 := by
 induction a with
 | nil => rfl
 | cons p r ih => show (plC p ++ psC r).length = _; rw [List.length_append, ih, List.length_cons]; simp [plC]; omega
theorem playT : SlT Tryz.prog 194 61 (.agg #[.int .i64 0, .int .i64 0, .bool false, sv []]) 4 40 := ⟨Tryz.underlying194, by kernel_rfl, rfl, by decide⟩
structure TAt (w : World) (gt : Nat) (pl pb : Addr) (rack : Str) (o : Value) (ps : List Pl) (base : Nat) : Prop where
 blk : Blk w gt 309 #[.pointer (some pl), .pointer (some pb), sv rack, o]
 own : w.ownsRow base 61 4 o ps.length (psC ps)
structure Kept (w w' : World) (gt : Nat) (o o' : Value) : Prop where
 os : w'.os = w.os
 tape : w'.tape = w.tape
 output : w'.output = w.output
 size : w.heap.size ≤ w'.heap.size
 block : ∀ k, k < w.heap.size → k ≠ gt → o.ownBlock ≠ some k → w'.heap[k]? = w.heap[k]?
 at_ : o'.ownBlock = o.ownBlock ∨ ∃ k, w.heap.size ≤ k ∧ o'.ownBlock = some k
section
variable {w w1 w2 : World} {gt base : Nat} {pl pb : Addr} {rack : Str} {o o1 o2 : Value} {ps : List Pl}
theorem Kept.refl (w : World) (gt : Nat) (o : Value) : Kept w w gt o o := ⟨rfl, rfl, rfl, Nat.le_refl _, fun _ _ _ _ => rfl, .inl rfl⟩
theorem Kept.of_below (h : Below w.heap.size w w1) (gt : Nat) (o : Value) : Kept w w1 gt o o := ⟨h.os, h.tape, h.output, h.size, fun k hk _ _ => h.block k hk, .inl rfl⟩
theorem Kept.trans (h : Kept w w1 gt o o1) (h2 : Kept w1 w2 gt o1 o2) : Kept w w2 gt o o2 := by
 refine ⟨h2.os.trans h.os, h2.tape.trans h.tape, h2.output.trans h.output, Nat.le_trans h.size h2.size, fun k hk hg ho => ?_, ?_⟩
 · rw [h2.block k (Nat.lt_of_lt_of_le hk h.size) hg, h.block k hk hg ho]
   intro e
   rcases h.at_ with h3 | ⟨j, hj, h3⟩
   · exact ho (h3 ▸ e)
   · rw [h3] at e; cases e; omega
 · rcases h2.at_ with h3 | ⟨j, hj, h3⟩
   · rcases h.at_ with h4 | ⟨j, hj, h4⟩
     · exact .inl (h3.trans h4)
     · exact .inr ⟨j, hj, h3.trans h4⟩
   · exact .inr ⟨j, Nat.le_trans h.size hj, h3⟩
theorem Kept.below {B : Nat} (h : Kept w w1 gt o o1) (h1 : B ≤ gt) (h2 : ∀ k, o.ownBlock = some k → B ≤ k) (h3 : B ≤ w.heap.size) : Below B w w1 :=
 ⟨h.os, h.tape, h.output, h.size, fun k hk => h.block k (by omega) (by omega) (fun e => by have := h2 k e; omega)⟩
theorem Kept.blk {g : Nat} {t : TypeId} {cs : Array Value} (h : Kept w w1 gt o o1) (hb : Blk w g t cs) (h1 : g ≠ gt) (h2 : o.ownBlock ≠ some g) : Blk w1 g t cs := (h.block g hb.lt h1 h2).trans hb
theorem TAt.below (h : TAt w gt pl pb rack o ps base) (hb : Below w.heap.size w w1) : TAt w1 gt pl pb rack o ps base := ⟨h.blk.below hb h.blk.lt, own_call h.own hb⟩
end
def wayPl (f : Bd) (word : Str) (row col : Int) (down : Bool) (way : Str) : Pl :=
 if down then (⟨row, col, false, fillGo f row word col way⟩ : Pl).tr else ⟨row, col, false, fillGo f row word col way⟩
def tryL (b : Bd) (ws : List Str) (rack : Str) (f : Bd) (word : Str) (row col : Int) (down : Bool) : List Pl :=
 match needS f word row col with
 | none => []
 | some need => if need = [] then [] else if canB rack need then ((waysF rack need).map (wayPl f word row col down)).filter fun p => decide (legalC b ws rack p = 0) else []
def tryF (b : Bd) (ws : List Str) (rack : Str) (f : Bd) (word : Str) (row col : Int) (down : Bool) (ps : List Pl) : List Pl :=
 if 400 < ps.length then ps else ps ++ tryL b ws rack f word row col down
theorem needGo_len (b : Bd) (row : Int) : ∀ (word out : Str) (c : Int) (r : Str), needGo b row out word c = some r → r.length = out.length + dotN b row word c
 | [], out, c, r, h => by simp [needGo] at h; subst h; simp [dotN]
 | x :: t, out, c, r, h => by
   rw [needGo] at h
   rw [dotN]
   split at h
   · rename_i hx
     have := needGo_len b row t (out ++ [x]) (c + 1) r h
     rw [if_pos hx, this, List.length_append]; simp; omega
   · rename_i hx
     rw [if_neg hx]
     split at h
     · exact needGo_len b row t out (c + 1) r h
     · cases h
theorem dotN_le (b : Bd) (row : Int) : ∀ (word : Str) (c : Int), dotN b row word c ≤ word.length
 | [], _ => Nat.le_refl _
 | _ :: t, c => by
   have := dotN_le b row t (c + 1)
   rw [dotN]
   split <;> simp <;> omega
theorem needS_facts {f : Bd} {word need : Str} {row col : Int} (hf : f.Fit) (h : needS f word row col = some need) :
   need.length = dotN f row word col ∧ word.length ≤ 15 ∧ (∀ i : Nat, i < word.length → f.inB row (col + (i : Int)) = true) := by
 unfold needS at h
 split at h
 · rename_i hk
   have := needGo_len f row word [] col need h
   simp only [needOk, Bool.and_eq_true, decide_eq_true_eq] at hk
   obtain ⟨h2, hi, hi2, _⟩ := hk
   obtain ⟨⟨r0, r1⟩, c0, c1⟩ := inB_iff.1 hi
   obtain ⟨_, d0, d1⟩ := inB_iff.1 hi2
   have := hf.hi
   exact ⟨by simp at *; omega, by omega, fun i hi => inB_iff.2 ⟨⟨r0, r1⟩, by omega, by omega⟩⟩
 · cases h
set_option maxHeartbeats 1000000
set_option maxRecDepth 100000
def mrg : List Pl → List Pl → List Pl
 | a, [] => a
 | [], b => b
 | x :: a, y :: b => if cmpPl x y ≤ 0 then x :: mrg a (y :: b) else y :: mrg (x :: a) b
termination_by a b => a.length + b.length
def sortN : Nat → List Pl → List Pl
 | 0, l => l
 | n + 1, l => if l.length < 2 then l else mrg (sortN n (l.take (l.length / 2))) (sortN n (l.drop (l.length / 2)))
theorem mrg_nil (b : List Pl) : mrg [] b = b := by cases b <;> simp [mrg]
theorem mrg_end (a : List Pl) : mrg a [] = a := by simp [mrg]
theorem mrg_length : ∀ a b : List Pl, (mrg a b).length = a.length + b.length
 | a, [] => by simp [mrg]
 | [], b :: r => by simp [mrg]
 | x :: a, y :: b => by
   rw [mrg]
   split
   · rw [List.length_cons, mrg_length a (y :: b)]; simp; omega
   · rw [List.length_cons, mrg_length (x :: a) b]; simp; omega
termination_by a b => a.length + b.length
theorem sortN_length : ∀ (n : Nat) (l : List Pl), (sortN n l).length = l.length
 | 0, _ => rfl
 | n + 1, l => by
   rw [sortN]
   split
   · rfl
   · rw [mrg_length, sortN_length, sortN_length, List.length_take, List.length_drop]; omega
theorem mrg_left {a b : List Pl} {i k : Nat} (hi : i < a.length) (hk : k < b.length) (h : cmpPl a[i] b[k] ≤ 0) : mrg (a.drop i) (b.drop k) = a[i] :: mrg (a.drop (i + 1)) (b.drop k) := by
 rw [drop_cons a i hi, drop_cons b k hk, mrg, if_pos h]
theorem mrg_right {a b : List Pl} {i k : Nat} (hk : k < b.length) (h : ∀ hi : i < a.length, ¬ cmpPl a[i] b[k] ≤ 0) : mrg (a.drop i) (b.drop k) = b[k] :: mrg (a.drop i) (b.drop (k + 1)) := by
 by_cases hi : i < a.length
 · rw [drop_cons a i hi, drop_cons b k hk, mrg, if_neg (h hi)]
 · rw [drop_all a i (by omega), drop_cons b k hk, mrg_nil, mrg_nil]
theorem psC_get (ps : List Pl) (k j : Nat) (h : k < ps.length) (hj : j < 4) : (psC ps)[k * 4 + j]? = (plC ps[k])[j]? := by
 induction ps generalizing k with
 | nil => simp at h
 | cons p r ih =>
   have hl : (plC p).length = 4 := rfl
   show (plC p ++ psC r)[_]? = _
   cases k with
   | zero => rw [List.getElem?_append_left (by omega)]; simp
   | succ k =>
     rw [List.getElem?_append_right (by omega), hl, show (k + 1) * 4 + j - 4 = k * 4 + j by omega, ih k (by simpa using h)]
     rfl
def PSl (w : World) (v : Value) (ps : List Pl) : Prop := ∃ A c, v = .slice A ps.length c ∧ ps.length ≤ c ∧ Reads w w.heap.size 4 A ps.length (psC ps) ∧ (∀ ad, A = some ad → ∃ g o, ad = ⟨g, o, none⟩)
theorem PSl.of_own {w : World} {base : Nat} {v : Value} {ps : List Pl} (h : w.ownsRow base 61 4 v ps.length (psC ps)) : PSl w v ps := by
 rcases h.2 with ⟨h0, h1⟩ | ⟨g, cap, cur, h0, h1, h2, h3, h4⟩
 · refine ⟨none, 0, ?_, by omega, ?_, fun ad e => by cases e⟩
   · rw [h0, h1]
   · rw [h1]; exact ⟨by rw [h.1, h1], fun hn => absurd hn (by omega)⟩
 · subst h0
   exact ⟨_, cap, rfl, h3, Reads.of_own h, fun ad e => ⟨g, 0, by injection e with e; exact e.symm⟩⟩
theorem PSl.below {w w' : World} {v : Value} {ps : List Pl} (h : PSl w v ps) (hb : Below w.heap.size w w') : PSl w' v ps := by
 obtain ⟨A, c, h1, h2, h3, h4⟩ := h
 exact ⟨A, c, h1, h2, (h3.below hb).more hb.size, h4⟩
theorem Reads.pl {w : World} {B g o : Nat} {ps : List Pl} (h : Reads w B 4 (some ⟨g, o, none⟩) ps.length (psC ps)) {k : Nat} (hk : k < ps.length) :
   w.cell? ⟨g, o + k * 4, none⟩ = some (.int .i64 ps[k].row) ∧ w.cell? ⟨g, o + k * 4 + 1, none⟩ = some (.int .i64 ps[k].col) ∧ w.cell? ⟨g, o + k * 4 + 2, none⟩ = some (.bool ps[k].down) ∧ w.cell? ⟨g, o + k * 4 + 3, none⟩ = some (sv ps[k].word) := by
 obtain ⟨ad, e, _, hc⟩ := h.2 (by omega)
 injection e with e
 subst e
 have hadd : ∀ n, (⟨g, o, none⟩ : Addr).add n = ⟨g, o + n, none⟩ := fun n => by unfold Addr.add; split <;> simp_all
 have h0 := hc (k * 4 + 0) _ (by rw [psC_get ps k 0 hk (by omega)]; rfl)
 have h1 := hc (k * 4 + 1) _ (by rw [psC_get ps k 1 hk (by omega)]; rfl)
 have h2 := hc (k * 4 + 2) _ (by rw [psC_get ps k 2 hk (by omega)]; rfl)
 have h3 := hc (k * 4 + 3) _ (by rw [psC_get ps k 3 hk (by omega)]; rfl)
 rw [hadd] at h0 h1 h2 h3
 exact ⟨h0, h1, h2, h3⟩
theorem psC_take (ps : List Pl) (k : Nat) : psC (ps.take k) = (psC ps).take (k * 4) := by
 induction ps generalizing k with
 | nil => simp [psC]
 | cons p r ih =>
   cases k with
   | zero => simp [psC]
   | succ k =>
     show plC p ++ psC (r.take k) = (plC p ++ psC r).take ((k + 1) * 4)
     rw [ih, List.take_append, List.take_of_length_le (l := plC p) (by simp [plC]; omega), show (k + 1) * 4 - (plC p).length = k * 4 by simp [plC]; omega]
theorem psC_drop (ps : List Pl) (k : Nat) : psC (ps.drop k) = (psC ps).drop (k * 4) := by
 induction ps generalizing k with
 | nil => simp [psC]
 | cons p r ih =>
   cases k with
   | zero => simp [psC]
   | succ k =>
     show psC (r.drop k) = (plC p ++ psC r).drop ((k + 1) * 4)
     rw [ih, List.drop_append, (List.drop_eq_nil_of_le (by simp [plC]; omega) : (plC p).drop ((k + 1) * 4) = []), show (k + 1) * 4 - (plC p).length = k * 4 by simp [plC]; omega]; rfl
theorem psC_one4 (ps : List Pl) : ∀ u ∈ psC ps, u.oneCell' = true := by
 intro u hu
 obtain ⟨p, _, hp⟩ := List.mem_flatMap.1 hu
 simp only [plC, List.mem_cons, List.not_mem_nil, or_false] at hp
 rcases hp with rfl | rfl | rfl | rfl <;> rfl
def SortPost (w : World) (qs : List Pl) (e : Ending) (w' : World) : Prop := ∃ v, e = .returned v ∧ PSl w' v qs ∧ Below w.heap.size w w'
structure SRel (w : World) (B : Nat) (A1 A2 : Option Addr) (a b : List Pl) (o : Value) (i k : Nat) (wr : World) : Prop where
 hi : i ≤ a.length
 hk : k ≤ b.length
 out : ∃ l, l.length = i + k ∧ mrg a b = l ++ mrg (a.drop i) (b.drop k) ∧ wr.ownsRow B 61 4 o (i + k) (psC l)
 rd1 : Reads wr B 4 A1 a.length (psC a)
 rd2 : Reads wr B 4 A2 b.length (psC b)
 low : Below w.heap.size w wr
 le : B ≤ wr.heap.size
 wB : w.heap.size ≤ B
section
variable {w wr w1 : World} {B i k : Nat} {A1 A2 : Option Addr} {a b : List Pl} {o o1 : Value}
theorem SRel.below (h : SRel w B A1 A2 a b o i k wr) (hb : Below wr.heap.size wr w1) : SRel w B A1 A2 a b o i k w1 := by
 obtain ⟨l, h1, h2, h3⟩ := h.out
 exact ⟨h.hi, h.hk, ⟨l, h1, h2, own_call h3 hb⟩, h.rd1.below' hb h.le, h.rd2.below' hb h.le, h.low.trans (hb.mono h.low.size), Nat.le_trans h.le hb.size, h.wB⟩
theorem SRel.left (h : SRel w B A1 A2 a b o i k wr) {l : List Pl} (hl : l.length = i + k) (hm : mrg a b = l ++ mrg (a.drop i) (b.drop k)) (hown : wr.ownsRow B 61 4 o (i + k) (psC l)) (hi : i < a.length) (hk : k < b.length) (hc : cmpPl a[i] b[k] ≤ 0)
   (own1 : w1.ownsRow B 61 4 o1 (i + k + 1) (psC l ++ plC a[i])) (hg : wr.grownBy w1 o.ownBlock) : SRel w B A1 A2 a b o1 (i + 1) k w1 :=
 ⟨by omega, h.hk, ⟨l ++ [a[i]], by simp [hl]; omega, by rw [hm, mrg_left hi hk hc]; simp, own_cast own1 (by rw [psC_append, psC_one]) (by omega)⟩,
   h.rd1.grown hg h.le (fun g hr => (hown.lt g hr).1), h.rd2.grown hg h.le (fun g hr => (hown.lt g hr).1), Below.own h.low h.low.size hown h.wB hg, Nat.le_trans h.le hg.size, h.wB⟩
theorem SRel.right (h : SRel w B A1 A2 a b o i k wr) {l : List Pl} (hl : l.length = i + k) (hm : mrg a b = l ++ mrg (a.drop i) (b.drop k)) (hown : wr.ownsRow B 61 4 o (i + k) (psC l)) (hk : k < b.length) (hc : ∀ hi : i < a.length, ¬ cmpPl a[i] b[k] ≤ 0)
   (own1 : w1.ownsRow B 61 4 o1 (i + k + 1) (psC l ++ plC b[k])) (hg : wr.grownBy w1 o.ownBlock) : SRel w B A1 A2 a b o1 i (k + 1) w1 :=
 ⟨h.hi, by omega, ⟨l ++ [b[k]], by simp [hl]; omega, by rw [hm, mrg_right hk hc]; simp, own_cast own1 (by rw [psC_append, psC_one]) (by omega)⟩,
   h.rd1.grown hg h.le (fun g hr => (hown.lt g hr).1), h.rd2.grown hg h.le (fun g hr => (hown.lt g hr).1), Below.own h.low h.low.size hown h.wB hg, Nat.le_trans h.le hg.size, h.wB⟩
end
theorem l16Sort_any : ∀ (n : Nat) (ps : List Pl) (v : Value) (w : World), ps.length ≤ n → n ≤ 2 ^ 37 → PSl w v ps → Calls Tryz.prog 278 #[v] w (SortPost w (sortN n ps)) := by
 intro n
 induction n with
 | zero =>
   intro ps v w hl _ hv
   obtain ⟨A, c, rfl, hc, hr, hf⟩ := hv
   obtain rfl : ps = [] := List.eq_nil_of_length_eq_zero (by omega)
   go_enter Tryz.func278, Tryz.ntmps278
   go_wp2_with (fail)
   go_ret
   exact ⟨_, rfl, ⟨A, c, rfl, hc, hr, hf⟩, Below.refl _ _⟩
 | succ n ih =>
   intro ps v w hl hn hv
   by_cases h2 : ps.length < 2
   · have hres : Hid (sortN (n + 1) ps = ps) := Lib.hid (by rw [sortN, if_pos h2])
     obtain ⟨S, hS⟩ : ∃ S, S = sortN (n + 1) ps := ⟨_, rfl⟩
     rw [← hS] at hres ⊢
     clear hS
     obtain ⟨A, c, rfl, hc, hr, hf⟩ := hv
     go_enter Tryz.func278, Tryz.ntmps278
     go_wp2_with (fail)
     go_ret
     exact ⟨_, rfl, by rw [hres.out]; exact ⟨A, c, rfl, hc, hr, hf⟩, Below.refl _ _⟩
   · have hres : Hid (sortN (n + 1) ps = mrg (sortN n (ps.take (ps.length / 2))) (sortN n (ps.drop (ps.length / 2)))) := Lib.hid (by rw [sortN, if_neg h2])
     obtain ⟨S, hS⟩ : ∃ S, S = sortN (n + 1) ps := ⟨_, rfl⟩
     rw [← hS] at hres ⊢
     clear hS
     obtain ⟨h, hh⟩ : ∃ h, h = ps.length / 2 := ⟨_, rfl⟩
     rw [← hh] at hres
     have hq : (ps.length : Int) / 2 = (h : Int) := by omega
     have hh1 : 1 ≤ h := by omega
     have hh2 : h + 1 ≤ ps.length := by omega
     have hh3 : ps.length ≤ h + h + 1 := by omega
     clear hh
     obtain ⟨A, c, rfl, hc, hr, hf⟩ := hv
     have hc1 : ∀ w1, Below w.heap.size w w1 → PSl w1 (.slice A h c) (ps.take h) := fun w1 hb => by
       have hl1 : (ps.take h).length = h := by rw [List.length_take]; omega
       have hp := ((hr.below hb).more hb.size).pre (k := h) (by omega)
       exact ⟨A, c, by rw [hl1], by omega, by rw [hl1, psC_take]; exact hp, hf⟩
     have hc2 : ∀ w1, Below w.heap.size w w1 → PSl w1 (.slice (cutA c A h 4) (ps.length - h) (c - h)) (ps.drop h) := fun w1 hb => by
       have hl1 : (ps.drop h).length = ps.length - h := by rw [List.length_drop]
       have hp := Reads.cutA ((hr.below hb).more hb.size) (k := h) (cap := c) (by omega) (by omega)
       refine ⟨cutA c A h 4, c - h, by rw [hl1], by omega, by rw [hl1, psC_drop]; exact hp, fun ad e => ?_⟩
       unfold cutA at e
       rw [if_neg (by omega)] at e
       cases hA : A with
       | none => rw [hA] at e; cases e
       | some ad0 =>
         obtain ⟨g, o, rfl⟩ := hf ad0 hA
         rw [hA] at e
         injection e with e
         refine ⟨g, o + h * 4, ?_⟩
         rw [← e]
         have hadd : ∀ n, (⟨g, o, none⟩ : Addr).add n = ⟨g, o + n, none⟩ := fun n => by unfold Addr.add; split <;> simp_all
         exact hadd _
     have s1 := fun w => run_pre playT A ps.length c h (by omega) w
     have s2 := fun w => run_cut playT A ps.length c h (by omega) w
     have i1 := fun w hb => ih (ps.take h) _ w (by rw [List.length_take]; omega) (by omega) (hc1 w hb)
     have i2 := fun w hb => ih (ps.drop h) _ w (by rw [List.length_drop]; omega) (by omega) (hc2 w hb)
     have la := sortN_length n (ps.take h)
     have lb := sortN_length n (ps.drop h)
     rw [List.length_take] at la
     rw [List.length_drop] at lb
     obtain ⟨a, ha⟩ : ∃ a, a = sortN n (ps.take h) := ⟨_, rfl⟩
     obtain ⟨b, hb⟩ : ∃ b, b = sortN n (ps.drop h) := ⟨_, rfl⟩
     rw [← ha] at hres la i1
     rw [← hb] at hres lb i2
     have hh2' : h < ps.length := by omega
     clear ha hb hc1 hc2 hr hf ih
     go_enter Tryz.func278, Tryz.ntmps278
     go_wp2_with (first
       | (go_at_call 278; refine (i2 _ hb1).mono ?_; rintro e w2 ⟨v2, rfl, hs2, hb2⟩)
       | (go_at_call 278; refine (i1 _ (Below.refl _ _)).mono ?_; rintro e w1 ⟨v1, rfl, hs1, hb1⟩))
     obtain ⟨A1, c1, rfl, hc1, hr1, hf1⟩ := hs1.below hb2
     obtain ⟨A2, c2, rfl, hc2, hr2, hf2⟩ := hs2
     clear hs1
     obtain ⟨ad1, e1, _⟩ := hr1.2 (by omega)
     obtain ⟨g1, o1, rfl⟩ := hf1 ad1 e1
     subst e1
     obtain ⟨ad2, e2, _⟩ := hr2.2 (by omega)
     obtain ⟨g2, o2, rfl⟩ := hf2 ad2 e2
     subst e2
     have hw2 := hb1.trans (hb2.mono hb1.size)
     have hz2 := hw2.size
     have own0 := World.ownsRow_lit (base := w2.heap.size) (size := 4) (e := 61) w2 #[] 0 (Nat.le_refl _) (by unfold maxLen; omega) rfl
     have hR0 : SRel w w2.heap.size (some ⟨g1, o1, none⟩) (some ⟨g2, o2, none⟩) a b (.slice (some ⟨w2.heap.size, 0, none⟩) 0 0) 0 0 (w2.alloc (.cells #[] 61)) :=
       ⟨by omega, by omega, ⟨[], rfl, by simp, own0⟩, hr1.alloc (Nat.le_refl _) _, hr2.alloc (Nat.le_refl _) _, hw2.alloc hz2 _, by simp, hz2⟩
     clear own0 hb1 hb2 hr1 hr2 hf1 hf2 s1 s2 i1 i2 hq
     have hal : a.length ≤ 2 ^ 37 := by omega
     have hbl : b.length ≤ 2 ^ 37 := by omega
     have hsum : Hid (a.length + b.length = S.length) := Lib.hid (by rw [hres.out, mrg_length])
     clear la lb hh1 hh2 hh3 h2 hh2' hl
     go_loopw [6, 7, 8] (fun o i k wr => ∃ ii kk : Nat, i = .int .i64 ii ∧ k = .int .i64 kk ∧ SRel w w2.heap.size (some ⟨g1, o1, none⟩) (some ⟨g2, o2, none⟩) a b o ii kk wr) (fun _ _ k _ => b.length - (intOf k).toNat)
     case atStart => exact ⟨0, 0, rfl, rfl, hR0⟩
     case round =>
       clear hR0
       obtain ⟨ii0, k, rfl, rfl, hR⟩ := hrel
       have hk0 := hR.hk
       by_cases hk : k < b.length
       · have hk' : (k : Int) < (b.length : Int) := by omega
         go_wp2_with (fail)
         obtain ⟨wo, rfl⟩ : ∃ wo : World, wo = wr := ⟨_, rfl⟩
         go_loopw [6, 7] (fun o i wr => ∃ ii : Nat, i = .int .i64 ii ∧ SRel w w2.heap.size (some ⟨g1, o1, none⟩) (some ⟨g2, o2, none⟩) a b o ii k wr) (fun _ i _ => a.length - (intOf i).toNat)
         case atStart => exact ⟨ii0, rfl, hR⟩
         case round =>
           clear hR
           obtain ⟨i, rfl, hR⟩ := hrel
           have hi0 := hR.hi
           obtain ⟨l, hll, hlm, hown⟩ := hR.out
           have HL := Lib.hid (And.intro hll hlm)
           clear hll hlm
           have P2 := Lib.hid (hR.rd2.pl hk)
           have hin : i + k + 1 ≤ 1099511627776 := by omega
           have hle := hR.le
           by_cases hi : i < a.length
           · have hi' : (i : Int) < (a.length : Int) := by omega
             have P1 := Lib.hid (hR.rd1.pl hi)
             have hgb1 : g1 < wr.heap.size := by obtain ⟨ad, e, hb, _⟩ := hR.rd1.2 (by omega); injection e with e; subst e; simp at hb; omega
             have hgb2 : g2 < wr.heap.size := by obtain ⟨ad, e, hb, _⟩ := hR.rd2.2 (by omega); injection e with e; subst e; simp at hb; omega
             go_wp2_with (fail)
             refine wp_region_b 16 (by kernel_rfl) (by kernel_rfl) ?_
             simp only [qqT, List.take_zero, qqD, List.drop_zero]
             iterate 16
               apply pc_step rfl
               · intro w4 hb4 K hK
                 have f0 := (hb4.cell (p := ⟨g1, o1 + i * 4, none⟩) hgb1).trans P1.out.1
                 have f1 := (hb4.cell (p := ⟨g1, o1 + i * 4 + 1, none⟩) hgb1).trans P1.out.2.1
                 have f2 := (hb4.cell (p := ⟨g1, o1 + i * 4 + 2, none⟩) hgb1).trans P1.out.2.2.1
                 have f3 := (hb4.cell (p := ⟨g1, o1 + i * 4 + 3, none⟩) hgb1).trans P1.out.2.2.2
                 have d0 := (hb4.cell (p := ⟨g2, o2 + k * 4, none⟩) hgb2).trans P2.out.1
                 have d1 := (hb4.cell (p := ⟨g2, o2 + k * 4 + 1, none⟩) hgb2).trans P2.out.2.1
                 have d2 := (hb4.cell (p := ⟨g2, o2 + k * 4 + 2, none⟩) hgb2).trans P2.out.2.2.1
                 have d3 := (hb4.cell (p := ⟨g2, o2 + k * 4 + 3, none⟩) hgb2).trans P2.out.2.2.2
                 go_wp2_with (go_at_call 312; refine (l12Compare_any a[i] b[k] _).mono ?_; rintro e w5 ⟨rfl, hb5⟩)
                 first | exact hb4 | exact hb4.trans (hb5.mono hb4.size)
               simp only [Act.put, qqS, qqC, qqZ]
             refine pc_nil ?_
             intro w4 hb4
             obtain ⟨lc, hlc⟩ : ∃ lc, lc = cmpPl a[i] b[k] := ⟨_, rfl⟩
             have hlc' := Lib.hid hlc
             simp only [← hlc]
             clear hlc
             have hR4 := hR.below hb4
             have own4 := own_call hown hb4
             have hgs := hb4.size
             have d0 := (hb4.cell (p := ⟨g2, o2 + k * 4, none⟩) hgb2).trans P2.out.1
             have d1 := (hb4.cell (p := ⟨g2, o2 + k * 4 + 1, none⟩) hgb2).trans P2.out.2.1
             have d2 := (hb4.cell (p := ⟨g2, o2 + k * 4 + 2, none⟩) hgb2).trans P2.out.2.2.1
             have d3 := (hb4.cell (p := ⟨g2, o2 + k * 4 + 3, none⟩) hgb2).trans P2.out.2.2.2
             by_cases hcmp : lc ≤ 0
             · clear d0 d1 d2 d3
               have d0 := (hb4.cell (p := ⟨g1, o1 + i * 4, none⟩) hgb1).trans P1.out.1
               have d1 := (hb4.cell (p := ⟨g1, o1 + i * 4 + 1, none⟩) hgb1).trans P1.out.2.1
               have d2 := (hb4.cell (p := ⟨g1, o1 + i * 4 + 2, none⟩) hgb1).trans P1.out.2.2.1
               have d3 := (hb4.cell (p := ⟨g1, o1 + i * 4 + 3, none⟩) hgb1).trans P1.out.2.2.2
               have hlit := run_lit1 playT (.agg #[.int .i64 a[i].row, .int .i64 a[i].col, .bool a[i].down, sv a[i].word]) #[.int .i64 a[i].row, .int .i64 a[i].col, .bool a[i].down, sv a[i].word] rfl rfl (by omega)
               obtain ⟨y, hy⟩ : ∃ y, y = a[i] := ⟨_, rfl⟩
               rw [← hy] at hlit d0 d1 d2 d3
               have HY := Lib.hid hy
               clear hy
               go_wp2_with (at_builtin; refine wpList_app playT rfl (.tmp 47) (.tmp 52) rfl _ (i + k) (psC l) rfl w2.heap.size own4 (plC y) rfl (by simp [plC, Value.oneCell']) rfl hin (by omega) hR4.le ?_; intro v5 w5 own5 hg5 _)
               go_roundw
               case rel => exact ⟨i + 1, by go_num, hR4.left HL.out.1 HL.out.2 own4 hi hk (by rw [← hlc'.out]; exact hcmp) (by rw [← HY.out]; exact own5) hg5⟩
               case measure => simp [intOf]; omega
             · have hcmp' : decide (lc ≤ 0) = false := decide_eq_false hcmp
               have hcmp2 : 0 < lc := by omega
               have hno := Lib.hid (fun hi : i < a.length => show ¬ cmpPl a[i] b[k] ≤ 0 by rw [← hlc'.out]; exact hcmp)
               clear hcmp
               have hlit := run_lit1 playT (.agg #[.int .i64 b[k].row, .int .i64 b[k].col, .bool b[k].down, sv b[k].word]) #[.int .i64 b[k].row, .int .i64 b[k].col, .bool b[k].down, sv b[k].word] rfl rfl (by omega)
               obtain ⟨y, hy⟩ : ∃ y, y = b[k] := ⟨_, rfl⟩
               rw [← hy] at hlit d0 d1 d2 d3
               have HY := Lib.hid hy
               clear hy
               go_wp2_with (at_builtin; refine wpList_app playT rfl (.tmp 56) (.tmp 61) rfl _ (i + k) (psC l) rfl w2.heap.size own4 (plC y) rfl (by simp [plC, Value.oneCell']) rfl hin (by omega) hR4.le ?_; intro v5 w5 own5 hg5 _)
               go_roundw
               case rel => exact ⟨i, k + 1, rfl, by go_num, hR4.right HL.out.1 HL.out.2 own4 hk (fun h => by have := hno.out h; omega) (by rw [← HY.out]; exact own5) hg5⟩
               case measure => simp [intOf]; omega
           · have hi' : decide (i < a.length) = false := decide_eq_false hi
             have hno := Lib.hid (fun h : i < a.length => show ¬ cmpPl a[i] b[k] ≤ 0 from absurd h hi)
             have hgb2 : g2 < wr.heap.size := by obtain ⟨ad, e, hb, _⟩ := hR.rd2.2 (by omega); injection e with e; subst e; simp at hb; omega
             clear hi
             go_wp2_with (fail)
             refine wp_region_b 16 (by kernel_rfl) (by kernel_rfl) ?_
             simp only [qqT, List.take_zero, qqD, List.drop_zero]
             iterate 5
               apply pc_step rfl
               · intro w4 hb4 K hK
                 go_wp2_with (fail)
                 exact hb4
               simp only [Act.put, qqS, qqC, qqZ]
             iterate 10
               apply pc_skip rfl
               simp only [Act.put, qqS, qqC, qqZ]
             apply pc_step rfl
             · intro w4 hb4 K hK
               go_wp2_with (fail)
               exact hb4
             simp only [Act.put, qqS, qqC, qqZ]
             refine pc_nil ?_
             intro w4 hb4
             have hR4 := hR.below hb4
             have own4 := own_call hown hb4
             have hgs := hb4.size
             have d0 := (hb4.cell (p := ⟨g2, o2 + k * 4, none⟩) hgb2).trans P2.out.1
             have d1 := (hb4.cell (p := ⟨g2, o2 + k * 4 + 1, none⟩) hgb2).trans P2.out.2.1
             have d2 := (hb4.cell (p := ⟨g2, o2 + k * 4 + 2, none⟩) hgb2).trans P2.out.2.2.1
             have d3 := (hb4.cell (p := ⟨g2, o2 + k * 4 + 3, none⟩) hgb2).trans P2.out.2.2.2
             have hlit := run_lit1 playT (.agg #[.int .i64 b[k].row, .int .i64 b[k].col, .bool b[k].down, sv b[k].word]) #[.int .i64 b[k].row, .int .i64 b[k].col, .bool b[k].down, sv b[k].word] rfl rfl (by omega)
             obtain ⟨y, hy⟩ : ∃ y, y = b[k] := ⟨_, rfl⟩
             rw [← hy] at hlit d0 d1 d2 d3
             have HY := Lib.hid hy
             clear hy
             go_wp2_with (at_builtin; refine wpList_app playT rfl (.tmp 56) (.tmp 61) rfl _ (i + k) (psC l) rfl w2.heap.size own4 (plC y) rfl (by simp [plC, Value.oneCell']) rfl hin (by omega) hR4.le ?_; intro v5 w5 own5 hg5 _)
             go_roundw
             case rel => exact ⟨i, k + 1, rfl, by go_num, hR4.right HL.out.1 HL.out.2 own4 hk (fun h => by have := hno.out h; omega) (by rw [← HY.out]; exact own5) hg5⟩
             case measure => simp [intOf]; omega
       · have hk' : decide (k < b.length) = false := decide_eq_false hk
         have hke : Hid (k = b.length) := Lib.hid (by omega)
         clear hk hk0
         have hcut := fun w => run_cut playT (some ⟨g1, o1, none⟩) a.length c1 ii0 hR.hi w
         obtain ⟨l, hll, hlm, hown⟩ := hR.out
         have HL := Lib.hid (And.intro hll hlm)
         clear hll hlm
         have hrc := Reads.cutA hR.rd1 (k := ii0) (cap := c1) hR.hi hc1
         have hin : ii0 + k + (a.length - ii0) ≤ 1099511627776 := by have := hR.hi; have := hR.hk; omega
         go_wp2_with (at_builtin; refine wpList_apps playT rfl (.tmp 63) (.tmp 66) rfl _ (ii0 + k) (psC l) rfl w2.heap.size hown w2.heap.size _ (a.length - ii0) _ ((psC a).drop (ii0 * 4)) rfl hrc (one_drop (psC_one4 _) _) hin (by omega) hR.le ?_; intro v3 w3 own3 hg3 _)
         go_ret
         refine ⟨v3, rfl, PSl.of_own (own_cast own3 ?_ ?_), Below.own hR.low hR.low.size hown hR.wB hg3⟩
         · rw [hres.out, HL.out.2, hke.out, List.drop_length, mrg_end, psC_append, psC_drop]
         · rw [← hsum.out, hke.out]; have := hR.hi; omega
section
variable {P : Program} {w w0 w1 w' : World} {base e size n : Nat} {v z : Value} {xs : List Value} {T bytes : Nat}
theorem oper_app {o : Oper} {a : Act} {K : Act → World → Prop} {Q : Exit → Act → World → Prop} (hT : SlT P T e z size bytes) (s x : Operand)
   (ho : o.op = .call { callee := .builtin .append, args := #[s, x], argTypes := #[T, T] })
   (v : Value) (n : Nat) (xs : List Value) (hs : a.eval s = v) (base : Nat) (hown : w0.ownsRow base e size v n xs) (us : List Value) (hu : us.length = size) (h1 : ∀ u ∈ us, u.oneCell' = true)
   (g : Nat) (hg : g = w0.heap.size) (hx : a.eval x = .slice (some ⟨g, 0, none⟩) 1 1) (hn : n + 1 ≤ 1099511627776) (hby : bytes ≤ 128) (hbase : base ≤ w0.heap.size)
   (h : ∀ v' w', w'.ownsRow base e size v' (n + 1) (xs ++ us) → w0.grownBy w' v.ownBlock → (v'.ownBlock = v.ownBlock ∨ v'.ownBlock = some (w0.heap.size + 1)) → K (a.put o.dst v') w') :
   o.wp P a (w0.alloc (.cells us.toArray e)) K Q := by
 subst hg
 cases hq : P.info? e with
 | none => have := hT.hi; rw [hq] at this; cases this
 | some i =>
   have hii := hT.hi
   rw [hq] at hii
   simp only [Option.map_some, Option.some.injEq, Prod.mk.injEq] at hii
   obtain ⟨hz, hsz, hbt⟩ := hii
   obtain ⟨v', w', hr, h2, h3, _, h5⟩ := run_append_own_at (P := P) (w0.alloc (.cells us.toArray e)) base T o.type e i z size bytes hT.ht hq hz hsz hbt hT.hz hT.pos v n xs (hown.alloc _) ⟨w0.heap.size, 0, none⟩ 1 1 us (by omega) (by
     intro j u hj
     have hadd : (⟨w0.heap.size, 0, none⟩ : Addr).add j = ⟨w0.heap.size, j, none⟩ := by unfold Addr.add; split <;> simp_all
     rw [hadd, cell_of_row _ _ j us.toArray e (0, 0) (heap_alloc_new w0 _)]
     simpa using hj) h1 (by unfold maxLen; omega) (by have : (n + 1) * bytes ≤ 1099511627776 * 128 := Nat.mul_le_mul hn hby; omega) (by simp; omega)
   unfold Oper.wp execOp
   simp only [ho, resolve, invoke, builtin, Sem.run_bind, Sem.run_pure, Result.andThen_ok, List.map_toArray, List.map_cons, List.map_nil, hs, hx, hr]
   refine h v' w' h2 ⟨h3.os, h3.tape, h3.output, ?_, ?_⟩ ?_
   · have := h3.size; simp at this; omega
   · intro k hk hne
     rw [h3.block k (by simp; omega) hne, Below.heap_alloc w0 _ k hk]
   · rcases h5 with h5 | h5
     · exact .inl h5
     · exact .inr (by simpa using h5)
end
set_option maxHeartbeats 400000
theorem l16Need_good (p : Addr) (b : Bd) (word : Str) (row col : Int) (w : World) (hp : BAt w p b) (hf : b.Fit) (hl : word.length ≤ 2 ^ 37) (hok : needOk b word row col = true) :
   Calls Tryz.prog 308 #[.pointer (some p), sv word, .int .i64 row, .int .i64 col] w fun e w' => e = .returned (needV (needS b word row col)) ∧ Below w.heap.size w w' := by
 have hres : Hid (needS b word row col = needGo b row [] word col) := Lib.hid (by rw [needS, if_pos hok])
 have hs := hf.size
 have h5 := hf.lo
 have h15 := hf.hi
 simp only [needOk, Bool.and_eq_true, decide_eq_true_eq, Bool.not_eq_true'] at hok
 obtain ⟨h2, hi, hi2, hf1, hf2⟩ := hok
 have h2' : decide ((word.length : Int) < 2) = false := decide_eq_false (by omega)
 obtain ⟨⟨r0, r1⟩, c0, c1⟩ := inB_iff.1 hi
 obtain ⟨_, d0, d1⟩ := inB_iff.1 hi2
 have hblt := hp.lt
 go_enter Tryz.func308, Tryz.ntmps308
 go_wp2_with (first
   | (go_at_call 287; refine (l11In_v p b _ _ _ _ (by first | rw [hi] | rw [hi2]) hp hs).mono ?_; rintro e w1 ⟨rfl, rfl⟩)
   | (go_at_call 288; refine (l11Full_v p b _ _ _ _ (by rw [hf2]) (hp.dr hd2) hf).mono ?_; rintro e w3 ⟨rfl, hd3⟩)
   | (go_at_call 288; refine (l11Full_v p b _ _ _ _ (by rw [hf1]) hp hf).mono ?_; rintro e w2 ⟨rfl, hd2⟩))
 have hb0 : Below w.heap.size w w3 := (hd2.trans hd3).below
 clear hd2 hd3 hi hi2 hf1 hf2
 go_loopw [11, 12] (fun o i wr => ∃ (k : Nat) (out : Str), k ≤ word.length ∧ i = .int .i64 k ∧ o = sv out ∧ out.length ≤ k ∧ Hid (needGo b row [] word col = needGo b row out (word.drop k) (col + (k : Int))) ∧ Below w.heap.size w wr) (fun _ i _ => word.length - (intOf i).toNat)
 case atStart => exact ⟨0, [], by omega, rfl, rfl, by simp, by unfold Hid; simp, hb0⟩
 case round =>
   obtain ⟨k, out, hk, rfl, rfl, hol, he, hb⟩ := hrel
   have hpr := hp.below hb hblt
   by_cases hlt : k < word.length
   · have j0 : (k : Int) < (word.length : Int) := by omega
     have j1 : (0 : Int) ≤ (k : Int) := by omega
     have j2 : (k : Int) ≤ (k : Int) + 1 := by omega
     have j3 : (k : Int) + 1 ≤ (word.length : Int) := by omega
     have hone : Hid ((word.drop k).take 1 = [word[k]]) := Lib.hid (by rw [drop_cons word k hlt]; rfl)
     have hin : b.inB row (col + (k : Int)) = true := inB_iff.2 ⟨⟨r0, r1⟩, by omega, by omega⟩
     have hst : Hid (needGo b row out (word.drop k) (col + (k : Int)) = if b.at_ row (col + (k : Int)) == 46 then needGo b row (out ++ [word[k]]) (word.drop (k + 1)) (col + (k : Int) + 1) else if lowC (b.at_ row (col + (k : Int))) == word[k] then needGo b row out (word.drop (k + 1)) (col + (k : Int) + 1) else none) := Lib.hid (by rw [drop_cons word k hlt]; rfl)
     have hsum : Hid (col + ((k + 1 : Nat) : Int) = col + (k : Int) + 1) := Lib.hid (by omega)
     have hq : (((b.at_ row (col + (k : Int))).toNat : Int) == 46) = (b.at_ row (col + (k : Int)) == 46) := u8_eq _ 46
     obtain ⟨x, hx⟩ : ∃ x, x = b.at_ row (col + (k : Int)) := ⟨_, rfl⟩
     rw [← hx] at hq hst
     have hx' := Lib.hid hx
     clear hx
     cases hx1 : (x == 46)
     all_goals rw [hx1] at hq hst
     · have hcase : Hid (∃ t, t = (lowC x == word[k])) := Lib.hid ⟨_, rfl⟩
       obtain ⟨t, ht⟩ := hcase.out
       rw [← ht] at hst
       have hne : (lowS [x] == [word[k]]) = t := by rw [lowS_one, ht]
       have ht' := Lib.hid ht
       clear ht hcase
       cases t
       all_goals
         go_wp2_with (go_at_call 225; refine (l11At_any p b row _ _ hpr hf hin).mono ?_; rw [← hx'.out]; rintro e w4 ⟨rfl, hd4⟩; have hb4 := hb.trans (hd4.below.mono hb.size))
         obtain ⟨W, hW⟩ : ∃ W, W = w4.drew := ⟨_, rfl⟩
         refine wp_region_l 9 10 (SM 1 W (W.alloc (.cells #[bv x] 5))) (by kernel_rfl) (by kernel_rfl) (by rw [← hW]; exact SM.none_) ?_
         have hbW : Below w.heap.size w W := by rw [hW]; exact hb4.drew
         clear hW
         have own0 := World.ownsRow_lit (base := W.heap.size) (size := 1) (e := 5) W #[bv x] 1 (Nat.le_refl _) (by unfold maxLen; omega) rfl
         simp only [qqT, List.take_zero, qqD, List.drop_zero]
         apply pl_step rfl
         · intro L w' hS h1 h2 K hK
           clear h2
           go_wp2
           exact hS.keep (by decide)
         simp only [Act.put, qqS, qqC, qqZ]
         apply pl_step rfl
         · intro L w' hS h1 h2 K hK
           clear h2
           obtain rfl := hS.at0 h1
           go_wp2
           exact SM.to1
         simp only [Act.put, qqS, qqC, qqZ]
         apply pl_step rfl
         · intro L w' hS h1 h2 K hK
           have hb1 := hS.at1 (h2 1 (List.contains_iff_mem.1 (by kernel_rfl)))
           clear h2
           have hcv := run_string_own (P := Tryz.prog) w' 209 9 5 Tryz.underlying209 Tryz.underlying5 Tryz.underlying9 (l := [x]) (own_call own0 hb1)
           go_wp2
           exact hS.keep (by decide)
         simp only [Act.put, qqS, qqC, qqZ]
         apply pl_step rfl
         · intro L w' hS h1 h2 K hK
           have h3 := h2 1 (List.contains_iff_mem.1 (by kernel_rfl))
           clear h2
           go_wp2_with (go_at_call 257; refine (l03Small_any [x] _ (by simp)).mono ?_; rintro e w5 ⟨rfl, hb5⟩)
           exact (hS.call h3 hb5).keep (by decide)
         simp only [Act.put, qqS, qqC, qqZ]
         iterate 5
           apply pl_step rfl
           · intro L w' hS h1 h2 K hK
             clear h2
             go_wp2
             exact hS.keep (by decide)
           simp only [Act.put, qqS, qqC, qqZ]
         rw [hone.out]
         apply pl_step rfl
         · intro L w' hS h1 h2 K hK
           clear h2
           go_wp2
           exact hS.keep (by decide)
         simp only [Act.put, qqS, qqC, qqZ]
         refine pl_nil ?_
         intro w5 hS
         have hb5 := hbW.trans (((Below.refl W.heap.size W).alloc (Nat.le_refl _) (.cells #[bv x] 5)).mono hbW.size |>.trans ((hS.at1 rfl).mono (by have := hbW.size; simp; omega)))
         clear hS
         go_wp2
       · go_ret2
         exact ⟨by rw [hres.out, he.out, hst.out]; rfl, hb5⟩
       · go_roundw
         case rel => exact ⟨k + 1, out, by omega, by go_num, rfl, by omega, Lib.hid (by rw [he.out, hst.out, hsum.out]; simp), hb5⟩
         case measure => simp [intOf]; omega
     · go_wp2_with (go_at_call 225; refine (l11At_any p b row _ _ hpr hf hin).mono ?_; rw [← hx'.out]; rintro e w4 ⟨rfl, hd4⟩; have hb4 := hb.trans (hd4.below.mono hb.size))
       go_roundw
       case rel => exact ⟨k + 1, out ++ [word[k]], by omega, by go_num, sv_eq (by rw [hone.out]), by simp; omega, Lib.hid (by rw [he.out, hst.out, hsum.out]; simp), hb4⟩
       case measure => simp [intOf]; omega
   · obtain rfl : k = word.length := by omega
     go_wp2_with (fail)
     go_ret2
     exact ⟨by rw [hres.out, he.out, List.drop_length]; rfl, hb⟩
theorem l16Need_any (p : Addr) (b : Bd) (word : Str) (row col : Int) (w : World) (hp : BAt w p b) (hf : b.Fit) (hl : word.length ≤ 2 ^ 37) :
   Calls Tryz.prog 308 #[.pointer (some p), sv word, .int .i64 row, .int .i64 col] w fun e w' => e = .returned (needV (needS b word row col)) ∧ Below w.heap.size w w' := by
 cases h : needOk b word row col
 · exact (l16Need_bad p b word row col w hp hf hl h).mono fun _ _ ⟨a, b⟩ => ⟨a, b.below⟩
 · exact l16Need_good p b word row col w hp hf hl h
set_option maxHeartbeats 1000000
theorem l03Can_v (pile word : Str) (w : World) (v : Bool) (hv : canB pile word = v) (hp : pile.length ≤ 2 ^ 37) (hl : word.length ≤ 2 ^ 37) :
   Calls Tryz.prog 309 #[sv pile, sv word] w fun e w' => e = .returned (.bool v) ∧ Below w.heap.size w w' := hv ▸ l03Can_any pile word w hp hl
theorem try_bad (gt : Nat) (pl pb : Addr) (rack : Str) (o : Value) (ps : List Pl) (base : Nat) (pf : Addr) (f : Bd) (word : Str) (row col : Int) (down : Bool) (w : World)
   (hT : TAt w gt pl pb rack o ps base) (hfb : BAt w pf f) (hf : f.Fit) (hl : word.length ≤ 2 ^ 37) (hrk : rack.length ≤ 2 ^ 37) (hps : ps.length ≤ 2 ^ 37)
   (hno : 400 < ps.length ∨ needS f word row col = none ∨ needS f word row col = some [] ∨ ∃ need, needS f word row col = some need ∧ canB rack need = false) :
   Calls Tryz.prog 277 #[.pointer (some ⟨gt, 0, none⟩), .pointer (some pf), sv word, .int .i64 row, .int .i64 col, .bool down] w fun e w' => e = .returned (.tuple #[]) ∧ Below w.heap.size w w' := by
 obtain ⟨A, n, ho⟩ : ∃ A c, o = .slice A ps.length c := by obtain ⟨A, c, h, _⟩ := own_sl hT.own; exact ⟨A, c, h⟩
 have hn := fun (w : World) (hp : BAt w pf f) => l16Need_any pf f word row col w hp hf hl
 have hnl : ∀ need, needS f word row col = some need → need.length ≤ 2 ^ 37 := by
   intro need h
   obtain ⟨h1, h2, _⟩ := needS_facts hf h
   have := dotN_le f row word col
   omega
 obtain ⟨ne, hne⟩ : ∃ ne, ne = needS f word row col := ⟨_, rfl⟩
 rw [← hne] at hn hno hnl
 clear hne
 have hb0 := hT.blk
 subst ho
 cases ne with
 | none =>
   simp only [needV] at hn
   go_enter Tryz.func277, Tryz.ntmps277
   go_wp2_with (first
     | (go_at_call 308; refine (hn w hfb).mono ?_; rintro e w1 ⟨rfl, hb1⟩
        have hB1 := hb0.below hb1 hb0.lt
        have e2 : w1.cell? ⟨gt, 2, none⟩ = some (sv rack) := hB1.cell 2
        have e3 : w1.cell? ⟨gt, 3, none⟩ = some (.slice A ps.length n) := hB1.cell 3))
   refine bodyPost_ret (v := .tuple #[]) (by simp [results, Tryz.results277, go_sem]) rfl ⟨rfl, hb1⟩
 | some need =>
   simp only [needV] at hn
   have hnl' := hnl need rfl
   clear hnl
   cases hem : need.isEmpty
   · rw [hem] at hn
     by_cases h400 : 400 < ps.length
     · have h400' : decide ((400 : Int) < (ps.length : Int)) = true := decide_eq_true (by omega)
       go_enter Tryz.func277, Tryz.ntmps277
       go_wp2_with (first
         | (go_at_call 308; refine (hn w hfb).mono ?_; rintro e w1 ⟨rfl, hb1⟩
            have hB1 := hb0.below hb1 hb0.lt
            have e2 : w1.cell? ⟨gt, 2, none⟩ = some (sv rack) := hB1.cell 2
            have e3 : w1.cell? ⟨gt, 3, none⟩ = some (.slice A ps.length n) := hB1.cell 3))
       refine bodyPost_ret (v := .tuple #[]) (by simp [results, Tryz.results277, go_sem]) rfl ⟨rfl, hb1⟩
     · have h400' : decide ((400 : Int) < (ps.length : Int)) = false := decide_eq_false (by omega)
       have hcan : canB rack need = false := by
         rcases hno with h | h | h | ⟨x, h, hc⟩
         · exact absurd h h400
         · cases h
         · cases h; cases hem
         · cases h; exact hc
       go_enter Tryz.func277, Tryz.ntmps277
       go_wp2_with (first
         | (go_at_call 308; refine (hn w hfb).mono ?_; rintro e w1 ⟨rfl, hb1⟩
            have hB1 := hb0.below hb1 hb0.lt
            have e2 : w1.cell? ⟨gt, 2, none⟩ = some (sv rack) := hB1.cell 2
            have e3 : w1.cell? ⟨gt, 3, none⟩ = some (.slice A ps.length n) := hB1.cell 3)
         | (go_at_call 309; refine (l03Can_v rack need _ _ hcan hrk hnl').mono ?_; rintro e w2 ⟨rfl, hb2⟩))
       refine bodyPost_ret (v := .tuple #[]) (by simp [results, Tryz.results277, go_sem]) rfl ⟨rfl, hb1.trans (hb2.mono hb1.size)⟩
   · rw [hem] at hn
     go_enter Tryz.func277, Tryz.ntmps277
     go_wp2_with (first
       | (go_at_call 308; refine (hn w hfb).mono ?_; rintro e w1 ⟨rfl, hb1⟩
          have hB1 := hb0.below hb1 hb0.lt
          have e2 : w1.cell? ⟨gt, 2, none⟩ = some (sv rack) := hB1.cell 2
          have e3 : w1.cell? ⟨gt, 3, none⟩ = some (.slice A ps.length n) := hB1.cell 3))
     refine bodyPost_ret (v := .tuple #[]) (by simp [results, Tryz.results277, go_sem]) rfl ⟨rfl, hb1⟩
end Go.Proofs.YtdkckikobefekaaGreatDoor
