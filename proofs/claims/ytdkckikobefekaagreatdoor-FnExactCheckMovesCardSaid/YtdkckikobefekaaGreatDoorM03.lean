/-
  Words for rows that a call makes: append of new elements, bytes made of a string and stored into, strings made of bytes; Contracts: piles of the reference (layer 3 of the spec package); Contracts: sorting of bytes, small letters, tiles (layer 3 of the spec package); Contracts: small letters, tiles of words, what a word needs (layer 3 of the spec package).
  Conditions: none; lengths at most 2^20; lengths at most 2^38.
-/
import Derived.Test.YtdkckikobefekaaGreatDoorM02
namespace Go.Proofs.YtdkckikobefekaaGreatDoor
open Go.RowKit RegP
structure SlT (P : Program) (T E : TypeId) (z : Value) (size bytes : Nat) : Prop where
 ht : P.underlying T = some (.slice E)
 hi : (P.info? E).map (fun i => (i.zero, i.size, i.bytes)) = some (some z, size, bytes)
 hz : z.cells.size = size
 pos : 0 < size
section
variable {P : Program} {w w0 w1 w' : World} {base e size n : Nat} {v z : Value} {xs : List Value} {T bytes : Nat}
theorem wpList_app {ops : Array Oper} {rest : List Oper} {o : Oper} {a : Act} {Q : Exit → Act → World → Prop} (hT : SlT P T e z size bytes) (hgd : o.guard = none) (s x : Operand)
   (ho : o.op = .call { callee := .builtin .append, args := #[s, x], argTypes := #[T, T] })
   (v : Value) (n : Nat) (xs : List Value) (hs : a.eval s = v) (base : Nat) (hown : w0.ownsRow base e size v n xs) (us : List Value) (hu : us.length = size) (h1 : ∀ u ∈ us, u.oneCell' = true)
   (hx : a.eval x = .slice (some ⟨w0.heap.size, 0, none⟩) 1 1) (hn : n + 1 ≤ 1099511627776) (hby : bytes ≤ 128) (hbase : base ≤ w0.heap.size)
   (h : ∀ v' w', w'.ownsRow base e size v' (n + 1) (xs ++ us) → w0.grownBy w' v.ownBlock → (v'.ownBlock = v.ownBlock ∨ v'.ownBlock = some (w0.heap.size + 1)) → wpList P ops Q rest (a.put o.dst v') w') :
   wpList P ops Q (o :: rest) a (w0.alloc (.cells us.toArray e)) := by
 cases hq : P.info? e with
 | none => have := hT.hi; rw [hq] at this; cases this
 | some i =>
   have hii := hT.hi
   rw [hq] at hii
   simp only [Option.map_some, Option.some.injEq, Prod.mk.injEq] at hii
   obtain ⟨hz, hsz, hbt⟩ := hii
   refine wpList_append_own_at (w0.alloc (.cells us.toArray e)) hgd s x T ho base e i z size bytes hT.ht hq hz hsz hbt hT.hz hT.pos v n xs hs (hown.alloc _) ⟨w0.heap.size, 0, none⟩ 1 1 us hx (by omega) ?_ h1 ?_ ?_ ?_ ?_
   · intro j u hj
     have hadd : (⟨w0.heap.size, 0, none⟩ : Addr).add j = ⟨w0.heap.size, j, none⟩ := by unfold Addr.add; split <;> simp_all
     rw [hadd, cell_of_row _ _ j us.toArray e (0, 0) (heap_alloc_new w0 _)]
     simpa using hj
   · unfold maxLen; omega
   · have : (n + 1) * bytes ≤ 1099511627776 * 128 := Nat.mul_le_mul hn hby
     omega
   · simp; omega
   · intro v' w' k1 k2 _ k3
     refine h v' w' k1 ⟨k2.os, k2.tape, k2.output, ?_, ?_⟩ ?_
     · have := k2.size; simp at this; omega
     · intro k hk hne
       rw [k2.block k (by simp; omega) hne, Below.heap_alloc w0 _ k hk]
     · rcases k3 with k3 | k3
       · exact .inl k3
       · exact .inr (by simpa using k3)
theorem wpList_app' {ops : Array Oper} {rest : List Oper} {o : Oper} {a : Act} {Q : Exit → Act → World → Prop} (hT : SlT P T e z size bytes) (hgd : o.guard = none) (s x : Operand)
   (ho : o.op = .call { callee := .builtin .append, args := #[s, x], argTypes := #[T, T] })
   (v : Value) (n : Nat) (xs : List Value) (hs : a.eval s = v) (base : Nat) (hown : w0.ownsRow base e size v n xs) (us : List Value) (hu : us.length = size) (h1 : ∀ u ∈ us, u.oneCell' = true)
   (g : Nat) (hg : g = w0.heap.size) (hx : a.eval x = .slice (some ⟨g, 0, none⟩) 1 1) (hn : n + 1 ≤ 1099511627776) (hby : bytes ≤ 128) (hbase : base ≤ w0.heap.size)
   (h : ∀ v' w', w'.ownsRow base e size v' (n + 1) (xs ++ us) → w0.grownBy w' v.ownBlock → (v'.ownBlock = v.ownBlock ∨ v'.ownBlock = some (w0.heap.size + 1)) → wpList P ops Q rest (a.put o.dst v') w') :
   wpList P ops Q (o :: rest) a (w0.alloc (.cells us.toArray e)) := by
 subst hg
 exact wpList_app hT hgd s x ho v n xs hs base hown us hu h1 hx hn hby hbase h
theorem wpList_apps {ops : Array Oper} {rest : List Oper} {o : Oper} {a : Act} {Q : Exit → Act → World → Prop} (hT : SlT P T e z size bytes) (hgd : o.guard = none) (s x : Operand)
   (ho : o.op = .call { callee := .builtin .append, args := #[s, x], argTypes := #[T, T] })
   (v : Value) (n : Nat) (xs : List Value) (hs : a.eval s = v) (base : Nat) (hown : w.ownsRow base e size v n xs) (B : Nat) (A : Option Addr) (m c : Nat) (us : List Value) (hx : a.eval x = .slice A m c) (hr : Reads w B size A m us)
   (h1 : ∀ u ∈ us, u.oneCell' = true) (hn : n + m ≤ 1099511627776) (hby : bytes ≤ 128) (hbase : base ≤ w.heap.size)
   (h : ∀ v' w', w'.ownsRow base e size v' (n + m) (xs ++ us) → w.grownBy w' v.ownBlock → (v'.ownBlock = v.ownBlock ∨ v'.ownBlock = some w.heap.size) → wpList P ops Q rest (a.put o.dst v') w') :
   wpList P ops Q (o :: rest) a w := by
 cases hq : P.info? e with
 | none => have := hT.hi; rw [hq] at this; cases this
 | some i =>
   have hii := hT.hi
   rw [hq] at hii
   simp only [Option.map_some, Option.some.injEq, Prod.mk.injEq] at hii
   obtain ⟨hz, hsz, hbt⟩ := hii
   have hmul : (n + m) * bytes ≤ 140737488355328 := by
     have : (n + m) * bytes ≤ 1099511627776 * 128 := Nat.mul_le_mul hn hby
     omega
   have hml : n + m ≤ maxLen := by unfold maxLen; omega
   rcases A with _ | ad
   · have hm : m = 0 := by
       rcases Nat.eq_zero_or_pos m with h0 | h0
       · exact h0
       · obtain ⟨ad, h, _⟩ := hr.2 h0
         cases h
     subst hm
     have hn' : us = [] := List.eq_nil_of_length_eq_zero (by simpa using hr.1)
     subst hn'
     have hrun : (Builtin.append_ #[T, T] o.type #[v, .slice none 0 c]).run P w = .ok v w := by
       rcases hown.2 with ⟨rfl, rfl⟩ | ⟨g, cap, cur, rfl, _, _, hnc, _⟩
       · simp [Builtin.append_, run_underlying hT.ht, sizeOf, typeInfo, hq, Builtin.lenOf, Builtin.firstCells]
       · simp [Builtin.append_, run_underlying hT.ht, sizeOf, typeInfo, hq, Builtin.lenOf, Builtin.firstCells, hnc, storeCells]
     refine wpList_plain hgd fun K hK => ?_
     unfold Oper.wp execOp
     simp only [ho, resolve, invoke, builtin, Sem.run_bind, Sem.run_pure, Result.andThen_ok, List.map_toArray, List.map_cons, List.map_nil, hs, hx, hrun]
     exact hK _ _ (h v w (by simpa using hown) (World.grownBy.refl w _) (.inl rfl))
   · have hcells : ∀ j u, us[j]? = some u → w.cell? (ad.add j) = some u := by
       intro j u hu
       rcases Nat.eq_zero_or_pos m with h0 | h0
       · subst h0
         have hn' : us = [] := List.eq_nil_of_length_eq_zero (by simpa using hr.1)
         subst hn'
         simp at hu
       · obtain ⟨ad', h, _, hc⟩ := hr.2 h0
         injection h with h
         subst h
         exact hc j u hu
     exact wpList_append_own_at w hgd s x T ho base e i z size bytes hT.ht hq hz hsz hbt hT.hz hT.pos v n xs hs hown ad m c us hx hr.1 hcells h1 hml hmul hbase (fun v' w' k1 k2 _ k3 => h v' w' k1 k2 k3)
theorem Below.own {B : Nat} {a : World} (hb : Below B a w) (hle : B ≤ w.heap.size) (hown : w.ownsRow base e size v n xs) (hB : B ≤ base) (hg : w.grownBy w' v.ownBlock) : Below B a w' :=
 hb.grown hg hle (fun k hk => Nat.le_trans hB (hown.lt k hk).1)
end
def cutA (c : Nat) (A : Option Addr) (k size : Nat) : Option Addr := if c = k then A else A.map (·.add (k * size))
theorem run_cut {P : Program} {T e size bytes : Nat} {z : Value} (hT : SlT P T e z size bytes) (A : Option Addr) (n c k : Nat) (hk : k ≤ n) (w : World) :
   (Instr.slice T (.slice A n c) (some (.int .i64 (k : Int))) none none).run P w = .ok (.slice (cutA c A k size) (n - k) (c - k)) w := by
 cases hq : P.info? e with
 | none => have := hT.hi; rw [hq] at this; cases this
 | some i =>
   have hii := hT.hi
   rw [hq] at hii
   simp only [Option.map_some, Option.some.injEq, Prod.mk.injEq] at hii
   have hel : P.elem T = e := by simp [Program.elem, hT.ht]
   have ht' : P.underlying T = some (.slice (P.elem T)) := by rw [hel]; exact hT.ht
   rw [run_slice_l (t := T) w A n c ht' .i64 (k : Int) (by omega) (by omega), hel]
   simp [sizeOf, typeInfo, hq, hii.2.1, sliced, cutA]
theorem run_pre {P : Program} {T e size bytes : Nat} {z : Value} (hT : SlT P T e z size bytes) (A : Option Addr) (n c k : Nat) (hk : k ≤ c) (w : World) :
   (Instr.slice T (.slice A n c) none (some (.int .i64 (k : Int))) none).run P w = .ok (.slice A k c) w := by
 cases hq : P.info? e with
 | none => have := hT.hi; rw [hq] at this; cases this
 | some i =>
   have hii := hT.hi
   rw [hq] at hii
   simp only [Option.map_some, Option.some.injEq, Prod.mk.injEq] at hii
   have hel : P.elem T = e := by simp [Program.elem, hT.ht]
   have ht' : P.underlying T = some (.slice (P.elem T)) := by rw [hel]; exact hT.ht
   rw [run_slice_h (t := T) w A n c ht' .i64 (k : Int) (by omega) (by omega), hel]
   have h0 : ∀ a : Addr, a.add 0 = a := fun a => by simp [Addr.add]
   cases A <;> simp [sizeOf, typeInfo, hq, hii.2.1, sliced, h0]
theorem Reads.cutA {w : World} {B size n k cap : Nat} {A : Option Addr} {xs : List Value} (h : Reads w B size A n xs) (hk : k ≤ n) (hc : n ≤ cap) :
   Reads w B size (cutA cap A k size) (n - k) (xs.drop (k * size)) := h.cut hk hc
theorem own_cast {w : World} {base e size n n' : Nat} {v : Value} {xs xs' : List Value} (h : w.ownsRow base e size v n xs) (hx : xs = xs') (hn : n = n') : w.ownsRow base e size v n' xs' := by rw [← hn, ← hx]; exact h
theorem own_below {w w' : World} {B base size n : Nat} {e : TypeId} {v : Value} {xs : List Value} (h : w.ownsRow base e size v n xs) (hb : Below B w w') (hB : ∀ k, v.ownBlock = some k → k < B := by intros; omega) : w'.ownsRow base e size v n xs := by
 refine ⟨h.1, h.2.imp id ?_⟩
 rintro ⟨g, cap, cur, rfl, h1, h2, h3⟩
 exact ⟨g, cap, cur, rfl, h1, (hb.block g (hB g rfl)).trans h2, h3⟩
theorem own_call {w w' : World} {base size n : Nat} {e : TypeId} {v : Value} {xs : List Value} (h : w.ownsRow base e size v n xs) (hb : Below w.heap.size w w') : w'.ownsRow base e size v n xs :=
 own_below h hb (fun k hk => (h.lt k hk).2)
theorem one_drop {l : List Value} (h : ∀ u ∈ l, u.oneCell' = true) (k : Nat) : ∀ u ∈ l.drop k, u.oneCell' = true := fun u hu => h u (List.mem_of_mem_drop hu)
theorem own_sl {w : World} {base e size n : Nat} {v : Value} {xs : List Value} (h : w.ownsRow base e size v n xs) : ∃ A c, v = .slice A n c ∧ n ≤ c ∧ Reads w w.heap.size size A n xs := by
 rcases h.2 with ⟨rfl, rfl⟩ | ⟨g, cap, cur, rfl, _, _, hc, _⟩
 · exact ⟨none, 0, rfl, Nat.le_refl _, Reads.of_own h⟩
 · exact ⟨_, cap, rfl, hc, Reads.of_own h⟩
theorem own_lo {w : World} {base e size n c : Nat} {A : Option Addr} {xs : List Value} (h : w.ownsRow base e size (.slice A n c) n xs) : ∀ ad, A = some ad → base ≤ ad.block := by
 rintro ad rfl
 exact (h.lt ad.block rfl).1
theorem run_len_own {P : Program} (w : World) {T e ty base size n : Nat} {v : Value} {xs : List Value} (ht : P.underlying T = some (.slice e)) (h : w.ownsRow base e size v n xs) (hn : n ≤ maxLen) (w' : World) :
   (Builtin.len_ #[T] ty #[v]).run P w' = .ok (.int .i64 n) w' := by
 unfold maxLen at hn
 rcases h.2 with ⟨rfl, rfl⟩ | ⟨g, cap, cur, rfl, _⟩
 · simp [Builtin.len_, run_underlying ht, go_sem]
 · simp [Builtin.len_, run_underlying ht, go_sem]
theorem run_string_own {P : Program} (w : World) (src dst e : TypeId) (hs : P.underlying src = some (.slice e)) (he : P.underlying e = some (.int .u8)) (hd : P.underlying dst = some .string) {base : Nat} {v : Value} {l : Str} (h : w.ownsRow base e 1 v l.length (l.map bv)) :
   (convert src dst v).run P w = .ok (sv l) w := by
 rcases h.2 with ⟨rfl, h0⟩ | ⟨g, cap, cur, rfl, _⟩
 · rw [run_convert_bytes_nil w src e hs he 0 0 dst hd]
   have : l = [] := List.eq_nil_of_length_eq_zero h0
   subst this; rfl
 · refine run_convert_bytes_back w src dst e ⟨g, 0, none⟩ cap l hs he hd fun j hj => ?_
   have hadd : (⟨g, 0, none⟩ : Addr).add j = ⟨g, j, none⟩ := by unfold Addr.add; split <;> simp_all
   rw [hadd, h.cellAt j (by omega), List.getElem?_map, List.getElem?_eq_getElem hj]; rfl
/-! ### Bytes made of a string: a row whose mark lies behind its cells -/
def BRow (w : World) (base g : Nat) (e : TypeId) (xs : List Value) : Prop :=
 base ≤ g ∧ ∃ cur lo hi, w.heap[g]? = some (.cells cur e (lo, hi)) ∧ xs.length ≤ lo ∧ xs.length ≤ cur.size ∧ cur.toList.take xs.length = xs
section
variable {w w' : World} {base g : Nat} {e : TypeId} {xs : List Value}
theorem BRow.lt (h : BRow w base g e xs) : g < w.heap.size := by
 obtain ⟨_, cur, lo, hi, hh, _⟩ := h
 rcases Nat.lt_or_ge g w.heap.size with hlt | hge
 · exact hlt
 · rw [Array.getElem?_eq_none hge] at hh; cases hh
theorem BRow.cell (h : BRow w base g e xs) {j : Nat} (hj : j < xs.length) : w.cell? ⟨g, j, none⟩ = some xs[j] := by
 obtain ⟨_, cur, lo, hi, hh, _, _, ht⟩ := h
 rw [cell_of_row w g j cur e (lo, hi) hh]
 have : (cur.toList.take xs.length)[j]? = cur.toList[j]? := by rw [List.getElem?_take, if_pos hj]
 rw [ht] at this
 rw [List.getElem?_eq_getElem hj] at this
 simpa using this.symm
theorem BRow.frozen (h : BRow w base g e xs) {j : Nat} (hj : j < xs.length) : w.frozen? ⟨g, j, none⟩ = false := by
 obtain ⟨_, cur, lo, hi, hh, hl, _⟩ := h
 simp [World.frozen?, hh]; omega
theorem BRow.keep (h : BRow w base g e xs) (hk : w'.heap[g]? = w.heap[g]?) : BRow w' base g e xs := by
 obtain ⟨hb, cur, lo, hi, hh, h2⟩ := h
 exact ⟨hb, cur, lo, hi, hk.trans hh, h2⟩
theorem BRow.below {B : Nat} (h : BRow w base g e xs) (hb : Below B w w') (hg : g < B) : BRow w' base g e xs := h.keep (hb.block g hg)
theorem BRow.stored (h : BRow w base g e xs) (j : Nat) (u : Value) : BRow (w.setCell ⟨g, j, none⟩ u) base g e (xs.set j u) := by
 obtain ⟨hb, cur, lo, hi, hh, h1, h2, h3⟩ := h
 refine ⟨hb, cur.setIfInBounds j u, lo, hi, ?_, by simpa using h1, by simpa using h2, ?_⟩
 · simp [World.setCell, Array.getElem?_modify, hh]
 · rw [Array.toList_setIfInBounds, List.length_set, List.take_set, h3]
theorem BRow.of_string (w : World) (l : Str) (cap : Nat) (e : TypeId) : BRow (w.alloc (.cells (bytesRow ⟨l.toArray⟩ cap) e ((bytesRow ⟨l.toArray⟩ cap).size, (bytesRow ⟨l.toArray⟩ cap).size + 1))) w.heap.size w.heap.size e (l.map bv) := by
 refine ⟨Nat.le_refl _, bytesRow ⟨l.toArray⟩ cap, _, _, heap_alloc_new w _, ?_, ?_, ?_⟩
 · simp [bytesRow]
 · simp [bytesRow]
 · simp [bytesRow]
end
theorem run_string_brow {P : Program} (w : World) (src dst e : TypeId) (hs : P.underlying src = some (.slice e)) (he : P.underlying e = some (.int .u8)) (hd : P.underlying dst = some .string) {base g n cap : Nat} {l : Str} (h : BRow w base g e (l.map bv)) (hn : n = l.length) :
   (convert src dst (.slice (some ⟨g, 0, none⟩) n cap)).run P w = .ok (sv l) w := by
 subst hn
 refine run_convert_bytes_back w src dst e ⟨g, 0, none⟩ cap l hs he hd fun j hj => ?_
 have hadd : (⟨g, 0, none⟩ : Addr).add j = ⟨g, j, none⟩ := by unfold Addr.add; split <;> simp_all
 rw [hadd, h.cell (by simpa using hj)]; simp
set_option maxHeartbeats 400000
def tileB (c : UInt8) : Bool := (c == 63) || smallB c
def leB (a b : UInt8) : Bool := decide (a.toNat ≤ b.toNat)
def pileFrom : Option UInt8 → Str → Bool
 | _, [] => true
 | none, a :: r => tileB a && pileFrom (some a) r
 | some q, a :: r => tileB a && leB q a && pileFrom (some a) r
def prevC (s : Str) (k : Nat) : Option UInt8 := if k = 0 then none else s[k - 1]?
def pileB (s : Str) : Bool := pileFrom none s && decide (s.length ≤ 120)
def rackB (s : Str) : Bool := pileB s && decide (s.length ≤ 7)
def takeGo : Str → Str → Str × Str
 | [], b => ([], b)
 | x :: a, [] => (x :: (takeGo a []).1, [])
 | x :: a, y :: b => if y = x then takeGo a b else (x :: (takeGo a (y :: b)).1, (takeGo a (y :: b)).2)
theorem takeGo_nil : ∀ a : Str, (takeGo a []).2 = []
 | [] => rfl
 | _ :: _ => rfl
def takeS (a b : Str) : Str := (takeGo a b).1
def takeB (a b : Str) : Bool := (takeGo a b).2.isEmpty
def Dr (w w' : World) : Prop := ∃ n, w' = w.drewN n
theorem Dr.refl (w : World) : Dr w w := ⟨0, rfl⟩
theorem Dr.more {w w' : World} (h : Dr w w') (n : Nat) : Dr w (w'.drewN n) := let ⟨m, e⟩ := h; ⟨m + n, by rw [e, World.drewN_drewN]⟩
theorem Dr.below {w w' : World} (h : Dr w w') : Below w.heap.size w w' := let ⟨m, e⟩ := h; by rw [e]; exact below_drewN (Below.refl _ _) m
theorem quiet_dr {P : Program} {f : FuncId} {args : Array Value} {w : World} {n : Nat} {v : Value} (h : Calls P f args (w.drewN n) fun e w' => e = .returned v ∧ Dr (w.drewN n) w') :
   Calls P f args (w.drewN n) fun e w'' => e = .returned v ∧ ∃ m, w'' = w.drewN m := Calls.quiet_of h
theorem quiet_eq {P : Program} {f : FuncId} {args : Array Value} {w : World} {n : Nat} {v : Value} (h : Calls P f args (w.drewN n) fun e w' => e = .returned v ∧ w.drewN n = w') :
   Calls P f args (w.drewN n) fun e w'' => e = .returned v ∧ ∃ m, w'' = w.drewN m := Calls.quiet_of_same (h.mono fun _ _ ⟨a, b⟩ => ⟨a, b.symm⟩)
theorem World.ownsRow.drewN {w : World} {base e size n : Nat} {v : Value} {xs : List Value} (h : w.ownsRow base e size v n xs) (k : Nat) : (w.drewN k).ownsRow base e size v n xs := h
theorem byteT : SlT Tryz.prog 209 5 (.int .u8 0) 1 1 := ⟨Tryz.underlying209, by kernel_rfl, rfl, by decide⟩
theorem strT : SlT Tryz.prog 22 9 (sv []) 1 16 := ⟨Tryz.underlying22, by kernel_rfl, rfl, by decide⟩
theorem l03Tile_any (c : UInt8) (w : World) :
   Calls Tryz.prog 264 #[bv c] w fun e w' => e = .returned (.bool (tileB c)) ∧ w = w' := by
 unfold tileB
 have hq := u8_eq c 63
 cases h : (c == 63)
 all_goals
   rw [h] at hq
   have hq' : ((c.toNat : Int) == 63) = _ := hq
   clear hq
   go_enter Tryz.func264, Tryz.ntmps264
   go_wp2_with (go_at_call 204; refine (l01Small_any _ _).mono ?_; rintro e w' ⟨rfl, rfl⟩)
   go_ret
   exact ⟨rfl, rfl⟩
theorem l03Pile_any (s : Str) (w : World) (hs : s.length ≤ 2 ^ 40) :
   Calls Tryz.prog 265 #[sv s] w fun e w' => e = .returned (.bool (pileB s)) ∧ Dr w w' := by
 go_enter Tryz.func265, Tryz.ntmps265
 go_wp2_with (fail)
 go_loopw [3] (fun i wr => ∃ k : Nat, k ≤ s.length ∧ i = .int .i64 k ∧ Hid (pileFrom none s = pileFrom (prevC s k) (s.drop k)) ∧ Dr w wr) (fun i _ => s.length - (intOf i).toNat)
 case atStart => exact ⟨0, by omega, rfl, rfl, Dr.refl _⟩
 case round =>
   obtain ⟨k, hk, rfl, he, hw⟩ := hrel
   by_cases hlt : k < s.length
   · have hd := Lib.hid (drop_cons s k hlt)
     have hlt' : (k : Int) < (s.length : Int) := by omega
     have h0' : (0 : Int) ≤ (k : Int) := by omega
     cases hxl : tileB s[k]
     · go_wp2_with (fail)
       go_quiet ((go_at_call 264; exact quiet_eq (l03Tile_any _ _)))
       go_wp2
       go_ret
       exact ⟨ret_bool (by rw [pileB, he.out, hd.out]; cases prevC s k <;> simp [pileFrom, hxl]), hw.more _⟩
     · by_cases h0 : 0 < k
       · have hpv : Hid (prevC s k = some (s[k - 1]'(by omega))) := by
           unfold prevC Hid; rw [if_neg (by omega)]; exact List.getElem?_eq_getElem (by omega)
         have hg : decide ((0 : Int) < (k : Int)) = true := by simp; omega
         have hi1 : (1 : Int) ≤ (k : Int) := by omega
         have hi2 : (k : Int) ≤ (s.length : Int) := by omega
         have hi4 : (0 : Int) ≤ (k : Int) - 1 := by omega
         have hi5 : (k : Int) - 1 < (s.length : Int) := by omega
         have hi3 : ((k : Int) - 1).toNat = k - 1 := by omega
         have hle : decide (s[k].toNat < (s[k - 1]'(by omega)).toNat) = !leB (s[k - 1]'(by omega)) s[k] := by
           unfold leB; rw [Bool.eq_iff_iff]; simp
         cases hxy : leB (s[k - 1]'(by omega)) s[k]
         all_goals
           rw [hxy] at hle
           go_wp2_with (fail)
           go_quiet ((go_at_call 264; exact quiet_eq (l03Tile_any _ _)))
           go_wp2
         · go_ret
           exact ⟨ret_bool (by rw [pileB, he.out, hd.out, hpv.out]; simp [pileFrom, hxl, hxy]), hw.more _⟩
         · go_roundw
           case rel => exact ⟨k + 1, by omega, by go_num, Lib.hid (by rw [he.out, hd.out, hpv.out, pileFrom, hxl, hxy]; simp [prevC, hlt]), hw.more _⟩
           case measure => simp [intOf]; omega
       · have hk0 : k = 0 := by omega
         have hg : decide ((0 : Int) < (k : Int)) = false := by simp; omega
         have hpv : Hid (prevC s k = none) := by unfold prevC Hid; rw [if_pos hk0]
         clear hk0
         go_wp2_with (fail)
         go_quiet ((go_at_call 264; exact quiet_eq (l03Tile_any _ _)))
         go_wp2
         go_roundw
         case rel => exact ⟨k + 1, by omega, by go_num, Lib.hid (by rw [he.out, hd.out, hpv.out, pileFrom, hxl]; simp [prevC, hlt]), hw.more _⟩
         case measure => simp [intOf]; omega
   · rw [drop_all s k (by omega)] at he
     go_wp2
     go_ret
     exact ⟨ret_bool (by rw [pileB, he.out]; cases prevC s k <;> simp [pileFrom] <;> omega), hw⟩
theorem l03Rack_any (s : Str) (w : World) (hs : s.length ≤ 2 ^ 40) :
   Calls Tryz.prog 191 #[sv s] w fun e w' => e = .returned (.bool (rackB s)) ∧ Dr w w' := by
 unfold rackB
 cases h : pileB s
 all_goals
   go_enter Tryz.func191, Tryz.ntmps191
   go_wp2_with (go_at_call 265; refine (l03Pile_any _ _ hs).mono ?_; rintro e w' ⟨rfl, hw⟩)
   go_ret
   exact ⟨ret_bool (by first | (simp; done) | (rw [Bool.eq_iff_iff]; simp; omega)), hw⟩
theorem l03Take_any (s b : Str) (w : World) (hs : s.length ≤ 2 ^ 38) (hb : b.length ≤ 2 ^ 38) :
   Calls Tryz.prog 81 #[sv s, sv b] w fun e w' => e = .returned (.tuple #[sv (takeS s b), .bool (takeB s b)]) ∧ Below w.heap.size w w' := by
 go_enter Tryz.func81, Tryz.ntmps81
 go_wp2_with (fail)
 go_loopw [6, 7, 8] (fun o kk i wr => ∃ (k j : Nat) (out : Str), k ≤ s.length ∧ j ≤ b.length ∧ i = .int .i64 k ∧ kk = .int .i64 j ∧ out.length ≤ k ∧ wr.ownsRow w.heap.size 5 1 o out.length (out.map bv) ∧
   Hid (takeS s b = out ++ takeS (s.drop k) (b.drop j) ∧ (takeGo s b).2 = (takeGo (s.drop k) (b.drop j)).2) ∧ Below w.heap.size w wr) (fun _ _ i _ => s.length - (intOf i).toNat)
 case atStart => exact ⟨0, 0, [], by omega, by omega, rfl, rfl, by simp, World.ownsRow_lit w #[] 0 (Nat.le_refl _) (by unfold maxLen; omega) rfl, ⟨rfl, rfl⟩, (Below.refl _ _).alloc (Nat.le_refl _) _⟩
 case round =>
   obtain ⟨k, j, out, hk, hj, rfl, rfl, hol, hown, he, hw⟩ := hrel
   by_cases hlt : k < s.length
   · have hd := Lib.hid (drop_cons s k hlt)
     have hlt' : (k : Int) < (s.length : Int) := by omega
     have h0' : (0 : Int) ≤ (k : Int) := by omega
     by_cases hjl : j < b.length
     · have hdb := Lib.hid (drop_cons b j hjl)
       have hjl' : (j : Int) < (b.length : Int) := by omega
       have h0j' : (0 : Int) ≤ (j : Int) := by omega
       have hq := u8_eq b[j] s[k]
       cases hxy : (b[j] == s[k])
       all_goals
         rw [hxy] at hq
         go_wp2_with (fail)
         go_quiet (fail)
       · go_wp2_with (at_builtin; refine wpList_app byteT rfl (.tmp 31) (.tmp 35) rfl _ _ _ rfl w.heap.size (World.ownsRow.drewN hown _) [bv s[k]] rfl (by simp [Value.oneCell']) rfl (by omega) (by omega) hw.size ?_; intro v1 w1 hown1 hg1 _)
         go_roundw
         case rel => exact ⟨k + 1, j, out ++ [s[k]], by omega, by omega, by go_num, rfl, by simp; omega, by simpa using hown1, Lib.hid (by
           obtain ⟨h1, h2⟩ := he.out
           rw [h1, h2, takeS, hd.out, hdb.out, takeGo, if_neg (by simpa using hxy), takeS]; simp), Below.own (below_drewN hw _) hw.size (World.ownsRow.drewN hown _) (Nat.le_refl _) hg1⟩
         case measure => simp [intOf]; omega
       · go_wp2
         go_roundw
         case rel => exact ⟨k + 1, j + 1, out, by omega, by omega, by go_num, by go_num, by omega, World.ownsRow.drewN hown _, Lib.hid (by
           obtain ⟨h1, h2⟩ := he.out
           rw [h1, h2, takeS, hd.out, hdb.out, takeGo, if_pos (by simpa using hxy), takeS]; exact ⟨rfl, rfl⟩), below_drewN hw _⟩
         case measure => simp [intOf]; omega
     · have hgf : decide (j < b.length) = false := by simp; omega
       have hgf' : decide ((j : Int) < (b.length : Int)) = false := by simp; omega
       have hbe := Lib.hid (drop_all b j (by omega))
       go_wp2_with (fail)
       go_quiet (fail)
       go_wp2_with (at_builtin; refine wpList_app byteT rfl (.tmp 31) (.tmp 35) rfl _ _ _ rfl w.heap.size (World.ownsRow.drewN hown _) [bv s[k]] rfl (by simp [Value.oneCell']) rfl (by omega) (by omega) hw.size ?_; intro v1 w1 hown1 hg1 _)
       go_roundw
       case rel => exact ⟨k + 1, j, out ++ [s[k]], by omega, by omega, by go_num, rfl, by simp; omega, by simpa using hown1, Lib.hid (by
           obtain ⟨h1, h2⟩ := he.out
           rw [h1, h2, takeS, hd.out, hbe.out, takeGo, takeS]; simp [takeGo_nil]), Below.own (below_drewN hw _) hw.size (World.ownsRow.drewN hown _) (Nat.le_refl _) hg1⟩
       case measure => simp [intOf]; omega
   · rw [drop_all s k (by omega)] at he
     have hcv := run_string_own (P := Tryz.prog) wr 209 9 5 Tryz.underlying209 Tryz.underlying5 Tryz.underlying9 hown
     go_wp2
     go_ret2
     obtain ⟨h1, h2⟩ := he.out
     have hlen : ((j : Int) == (b.length : Int)) = takeB s b := by
       rw [takeB, h2, takeGo, Bool.eq_iff_iff, beq_iff_eq, List.isEmpty_iff, List.drop_eq_nil_iff]; omega
     exact ⟨ret_tup2 (sv_eq (by rw [h1, takeS, takeGo, List.append_nil])) (vb_eq hlen), hw⟩
def insK (l : Str) (c : UInt8) : Nat → Nat
 | 0 => 0
 | k + 1 => if c.toNat < (l[k]?.getD 0).toNat then insK l c k else k + 1
def insR (l : Str) (c : UInt8) : Str := l.take (insK l c l.length) ++ c :: l.drop (insK l c l.length)
def isort (s : Str) : Str := s.foldl insR []
theorem insR_length (l : Str) (c : UInt8) : (insR l c).length = l.length + 1 := by unfold insR; simp; omega
theorem isort_length (s : Str) : (isort s).length = s.length := by
 have key : ∀ (s l : Str), (s.foldl insR l).length = l.length + s.length := by
   intro s
   induction s with
   | nil => intro l; simp
   | cons a s ih => intro l; rw [List.foldl_cons, ih, insR_length]; simp; omega
 simpa [isort] using key s []
theorem isort_take (s : Str) (k : Nat) (h : k < s.length) : isort (s.take (k + 1)) = insR (isort (s.take k)) s[k] := by
 rw [List.take_succ_eq_append_getElem h, isort, List.foldl_append]; rfl
theorem set_mid {α : Type} (a b : List α) (x y : α) (n : Nat) (h : a.length = n) : (a ++ x :: b).set n y = a ++ y :: b := by
 subst h
 rw [List.set_append_right _ _ (Nat.le_refl _)]
 simp
theorem sort_step (l : Str) (x : UInt8) (j : Nat) (h0 : 0 < j) (_hj : j ≤ l.length) (hjl : j - 1 < l.length) (_h : j ≤ l.length) :
   ((l.take (j - 1) ++ l[j - 1] :: l.drop (j - 1)).map bv) = ((l.take j ++ x :: l.drop j).map bv).set j (bv l[j - 1]) := by
 have hjl' : j - 1 + 1 = j := by omega
 rw [← List.map_set, set_mid _ _ _ _ _ (by simp; omega)]
 have e1 : l.take j = l.take (j - 1) ++ [l[j - 1]] := by rw [← List.take_succ_eq_append_getElem hjl, hjl']
 have e2 : l.drop (j - 1) = l[j - 1] :: l.drop j := by have := drop_cons l (j - 1) hjl; rwa [hjl'] at this
 rw [e1, e2, List.append_assoc]
 rfl
theorem l03Sort_any (s : Str) (w : World) (hs : s.length ≤ 2 ^ 38) :
   Calls Tryz.prog 86 #[sv s] w fun e w' => e = .returned (sv (isort s)) ∧ Below w.heap.size w w' := by
 go_enter Tryz.func86, Tryz.ntmps86
 go_wp2_with (fail)
 go_loopw [3, 4] (fun o i wr => ∃ k : Nat, k ≤ s.length ∧ i = .int .i64 k ∧ wr.ownsRow w.heap.size 5 1 o k ((isort (s.take k)).map bv) ∧ Below w.heap.size w wr) (fun _ i _ => s.length - (intOf i).toNat)
 case atStart => exact ⟨0, by omega, rfl, World.ownsRow_lit w #[] 0 (Nat.le_refl _) (by unfold maxLen; omega) rfl, (Below.refl _ _).alloc (Nat.le_refl _) _⟩
 case round =>
   obtain ⟨k, hk, rfl, hown, hw⟩ := hrel
   by_cases hlt : k < s.length
   · have hlt' : (k : Int) < (s.length : Int) := by omega
     have h0' : (0 : Int) ≤ (k : Int) := by omega
     have hlen : Hid ((isort (s.take k)).length = k) := Lib.hid (by rw [isort_length, List.length_take]; omega)
     have hstep := Lib.hid (isort_take s k hlt)
     have hlenk : (isort (s.take k)).length ≤ k ∧ k ≤ (isort (s.take k)).length := by rw [hlen.out]; omega
     obtain ⟨l, hl⟩ : ∃ l, l = isort (s.take k) := ⟨_, rfl⟩
     rw [← hl] at hown hlen hstep hlenk
     have hl' := Lib.hid hl
     clear hl
     have hln := run_len_own (P := Tryz.prog) (ty := 3) wr Tryz.underlying209 hown (by unfold maxLen; omega)
     go_wp2_with (at_builtin; refine wpList_app byteT rfl (.tmp 15) (.tmp 19) rfl _ _ _ rfl w.heap.size hown [bv s[k]] rfl (by simp [Value.oneCell']) rfl (by omega) (by omega) hw.size ?_; intro v1 w1 hown1 hg1 _)
     have hw1 : Below w.heap.size w w1 := Below.own hw hw.size hown (Nat.le_refl _) hg1
     obtain ⟨g, cap, hv, hgb, hgl⟩ := hown1.form (by omega)
     subst hv
     have hfin : ∀ (j : Nat) (x : UInt8), insK l s[k] k = j → j ≤ k → ((l.take j ++ x :: l.drop j).map bv).set j (bv s[k]) = (isort (s.take (k + 1))).map bv := by
       intro j x hjk hj
       rw [hstep.out, insR, hlen.out, hjk, ← List.map_set, set_mid _ _ _ _ _ (by simp; omega)]
     go_loopw [5] (fun q wr => ∃ (j : Nat) (x : UInt8), j ≤ k ∧ q = .int .i64 j ∧ wr.ownsRow w.heap.size 5 1 (.slice (some ⟨g, 0, none⟩) (k + 1) cap) (k + 1) ((l.take j ++ x :: l.drop j).map bv) ∧
       Hid (insK l s[k] k = insK l s[k] j) ∧ Below w.heap.size w wr) (fun q _ => (intOf q).toNat)
     case atStart => exact ⟨k, s[k], by omega, rfl, by rw [List.take_of_length_le (by omega), List.drop_eq_nil_of_le (by omega)]; simpa using hown1, rfl, hw1⟩
     case round =>
       obtain ⟨j, x, hj, rfl, hown2, he, hw2⟩ := hrel
       by_cases h0 : 0 < j
       · have hg0 : decide ((0 : Int) < (j : Int)) = true := by simp; omega
         have hj1 : (1 : Int) ≤ (j : Int) := by omega
         have hj2 : (0 : Int) ≤ (j : Int) - 1 := by omega
         have hj3 : (j : Int) - 1 < ((k + 1 : Nat) : Int) := by omega
         have hj4 : ((j : Int) - 1).toNat = j - 1 := by omega
         have hj5 : (j : Int) - 1 < (k : Int) + 1 := by omega
         have hj6 : (j : Int) < (k : Int) + 1 := by omega
         have hjl : j - 1 < l.length := by omega
         have hc1 : wr.cell? ⟨g, j - 1, none⟩ = some (bv (l[j - 1]'hjl)) := by
           rw [hown2.cellAt (j - 1) (by omega), List.getElem?_map, List.getElem?_append_left (by simp; omega), List.getElem?_take_of_lt (by omega), List.getElem?_eq_getElem hjl]; rfl
         have hc2 : wr.cell? ⟨g, j, none⟩ = some (bv x) := by
           rw [hown2.cellAt j (by omega), List.getElem?_map, List.getElem?_append_right (by simp; omega)]
           simp [show j - min j l.length = 0 from by omega]
         have hf2 : wr.frozen? ⟨g, j, none⟩ = false := hown2.frozenAt j
         have hins : Hid (insK l s[k] j = if s[k].toNat < (l[j - 1]'hjl).toNat then insK l s[k] (j - 1) else j) := by
           obtain ⟨i, rfl⟩ : ∃ i, j = i + 1 := ⟨j - 1, by omega⟩
           unfold Hid
           rw [insK]
           simp only [Nat.add_sub_cancel] at hjl ⊢
           rw [List.getElem?_eq_getElem hjl]; rfl
         by_cases hgt : s[k].toNat < (l[j - 1]'hjl).toNat
         · have hgt' : decide (s[k].toNat < (l[j - 1]'hjl).toNat) = true := by simpa using hgt
           go_wp2_with (fail)
           go_quiet (fail)
           go_wp2
           go_roundw
           case rel =>
             refine ⟨j - 1, l[j - 1]'hjl, by omega, vi_eq (by omega), ?_, Lib.hid (by rw [he.out, hins.out, if_pos hgt]), (below_drewN hw2 _).setCell (by exact hgb) _⟩
             have h3 := (World.ownsRow.drewN hown2 nq).stored j (bv (l[j - 1]'hjl))
             rw [← sort_step l x j h0 (by omega) hjl (by omega)] at h3
             exact h3.1
           case measure => simp [intOf]; omega
         · have hgt' : decide (s[k].toNat < (l[j - 1]'hjl).toNat) = false := by simpa using hgt
           go_wp2_with (fail)
           go_quiet (fail)
           go_wp2
           go_roundw
           case rel =>
             refine ⟨k + 1, by omega, by go_num, ?_, (below_drewN hw2 _).setCell (by exact hgb) _⟩
             have h3 := (World.ownsRow.drewN hown2 nq).stored j (bv s[k])
             rw [hfin j x (by rw [he.out, hins.out, if_neg hgt]) hj] at h3
             exact h3.1
           case measure => simp [intOf]; omega
       · have hj0 : j = 0 := by omega
         have hg0 : decide ((0 : Int) < (j : Int)) = false := by simp; omega
         have hj6 : (j : Int) < (k : Int) + 1 := by omega
         have hc2 : wr.cell? ⟨g, j, none⟩ = some (bv x) := by
           rw [hown2.cellAt j (by omega), List.getElem?_map, List.getElem?_append_right (by simp; omega)]
           simp [show j - min j l.length = 0 from by omega]
         have hf2 : wr.frozen? ⟨g, j, none⟩ = false := hown2.frozenAt j
         have hins : Hid (insK l s[k] j = j) := by rw [hj0]; rfl
         have hj0' := Lib.hid hj0
         clear hj0
         go_wp2_with (fail)
         go_quiet (fail)
         go_wp2
         go_roundw
         case rel =>
           refine ⟨k + 1, by omega, by go_num, ?_, (below_drewN hw2 _).setCell (by exact hgb) _⟩
           have h3 := (World.ownsRow.drewN hown2 nq).stored j (bv s[k])
           rw [hfin j x (by rw [he.out, hins.out]) hj] at h3
           exact h3.1
         case measure => simp [intOf]; omega
   · obtain rfl : k = s.length := by omega
     rw [List.take_length] at hown
     have hown' : wr.ownsRow w.heap.size 5 1 u3 (isort s).length ((isort s).map bv) := by rw [isort_length]; exact hown
     have hcv := run_string_own (P := Tryz.prog) wr 209 9 5 Tryz.underlying209 Tryz.underlying5 Tryz.underlying9 hown'
     go_wp2
     go_ret
     exact ⟨rfl, hw⟩
def lowC (c : UInt8) : UInt8 := if capB c then c + 32 else c
def blankC (c : UInt8) : UInt8 := if capB c then 63 else c
def lowS (l : Str) : Str := l.map lowC
def tilesS (l : Str) : Str := isort (l.map blankC)
def placedB (l : Str) : Bool := l.all (fun c => smallB c || capB c) && inR l.length 1 12
def needF : Str → Str → Nat
 | _, [] => 0
 | left, c :: r => if takeB left [c] then needF (takeS left [c]) r else needF left r + 1
def blanksN (s : Str) : Nat := s.count 63
def canB (pile word : Str) : Bool := decide (needF pile word ≤ blanksN pile)
theorem takeGo_length : ∀ a b : Str, (takeGo a b).1.length ≤ a.length
 | [], _ => by simp [takeGo]
 | x :: a, [] => by have := takeGo_length a []; simp [takeGo]; omega
 | x :: a, y :: b => by
   have h1 := takeGo_length a b
   have h2 := takeGo_length a (y :: b)
   rw [takeGo]; split <;> simp <;> omega
theorem takeS_length (a b : Str) : (takeS a b).length ≤ a.length := takeGo_length a b
theorem map_step {α β : Type} (f : α → α) (g : α → β) (l : List α) (k : Nat) (h : k < l.length) :
   (((l.take k).map f ++ l.drop k).map g).set k (g (f l[k])) = ((l.take (k + 1)).map f ++ l.drop (k + 1)).map g := by
 rw [drop_cons l k h, ← List.map_set, set_mid _ _ _ _ _ (by simp; omega), List.take_succ_eq_append_getElem h, List.map_append (f := f), List.append_assoc]
 rfl
theorem map_same {α β : Type} (f : α → α) (g : α → β) (l : List α) (k : Nat) (h : k < l.length) (hf : f l[k] = l[k]) :
   ((l.take k).map f ++ l.drop k).map g = ((l.take (k + 1)).map f ++ l.drop (k + 1)).map g := by
 rw [drop_cons l k h, List.take_succ_eq_append_getElem h, List.map_append (f := f), List.append_assoc, List.map_singleton, hf]
 rfl
theorem map_at {α β : Type} (f : α → α) (g : α → β) (l : List α) (k : Nat) (h : k < l.length) (hk : k < (((l.take k).map f ++ l.drop k).map g).length) :
   (((l.take k).map f ++ l.drop k).map g)[k]'hk = g l[k] := by
 rw [List.getElem_map, List.getElem_append_right (by simp; omega)]
 simp [show k - min k l.length = 0 from by omega]
theorem add32 (c : UInt8) (h1 : 65 ≤ (c.toNat : Int)) (h2 : (c.toNat : Int) ≤ 90) : Value.int .u8 ((c.toNat : Int) + 32) = bv (c + 32) := by
 have : (c + 32).toNat = c.toNat + 32 := by rw [UInt8.toNat_add]; simp; omega
 show Value.int .u8 _ = Value.int .u8 ((c + 32).toNat : Int)
 rw [this]; simp
theorem l03Small_any (l : Str) (w : World) (hl : l.length ≤ 2 ^ 38) :
   Calls Tryz.prog 257 #[sv l] w fun e w' => e = .returned (sv (lowS l)) ∧ Below w.heap.size w w' := by
 have kb := fun (w : World) => run_bytes_of_string (P := Tryz.prog) w 9 209 5 ⟨l.toArray⟩ Tryz.underlying9 Tryz.underlying209 Tryz.underlying5
 have kr := Lib.hid (BRow.of_string w l (grownCap w l.length 0 5) 5)
 have kf := Lib.hid ((Below.refl w.heap.size w).alloc (Nat.le_refl _) (Obj.cells (bytesRow ⟨l.toArray⟩ (grownCap w l.length 0 5)) 5 ((bytesRow ⟨l.toArray⟩ (grownCap w l.length 0 5)).size, (bytesRow ⟨l.toArray⟩ (grownCap w l.length 0 5)).size + 1)))
 go_enter Tryz.func257, Tryz.ntmps257
 go_wp2_with (fail)
 go_loopw [4] (fun i wr => ∃ k : Nat, k ≤ l.length ∧ i = .int .i64 k ∧ BRow wr w.heap.size w.heap.size 5 (((l.take k).map lowC ++ l.drop k).map bv) ∧ Below w.heap.size w wr) (fun i _ => l.length - (intOf i).toNat)
 case atStart => exact ⟨0, by omega, rfl, kr.out.keep rfl, kf.out.drew⟩
 case round =>
   clear kb kr kf
   generalize grownCap w l.length 0 5 = cap
   obtain ⟨k, hk, rfl, hown, hw⟩ := hrel
   by_cases hlt : k < l.length
   · have hlt' : (k : Int) < (l.length : Int) := by omega
     have hkl : k < (((l.take k).map lowC ++ l.drop k).map bv).length := by simp; omega
     have hc := hown.cell hkl
     rw [map_at lowC bv l k hlt] at hc
     have hf := hown.frozen hkl
     cases hcap : capB l[k]
     · go_wp2_with (go_at_call 153; refine (l03Capital_any _ _).mono ?_; rintro e w' ⟨rfl, rfl⟩)
       go_roundw
       case rel => exact ⟨k + 1, by omega, by go_num, by rw [← map_same lowC bv l k hlt (by simp [lowC, hcap])]; exact hown, hw⟩
       case measure => simp [intOf]; omega
     · have hcb := hcap
       simp only [capB, Bool.and_eq_true, decide_eq_true_eq] at hcb
       obtain ⟨hcb1, hcb2⟩ := hcb
       go_wp2_with (go_at_call 153; refine (l03Capital_any _ _).mono ?_; rintro e w' ⟨rfl, rfl⟩)
       go_roundw
       case rel =>
         refine ⟨k + 1, by omega, by go_num, ?_, hw.setCell (Nat.le_refl _) _⟩
         rw [← map_step lowC bv l k hlt, add32 _ hcb1 hcb2]
         have := hown.stored k (bv (lowC l[k]))
         simpa [lowC, hcap] using this
       case measure => simp [intOf]; omega
   · obtain rfl : k = l.length := by omega
     have hown' : BRow wr w.heap.size w.heap.size 5 ((lowS l).map bv) := by simpa [lowS] using hown
     have hcv := run_string_brow (P := Tryz.prog) (cap := cap) (n := l.length) wr 209 9 5 Tryz.underlying209 Tryz.underlying5 Tryz.underlying9 hown' (by simp [lowS])
     go_wp2
     go_ret
     exact ⟨rfl, hw⟩
theorem l03Tiles_any (l : Str) (w : World) (hl : l.length ≤ 2 ^ 38) :
   Calls Tryz.prog 82 #[sv l] w fun e w' => e = .returned (sv (tilesS l)) ∧ Below w.heap.size w w' := by
 have kb := fun (w : World) => run_bytes_of_string (P := Tryz.prog) w 9 209 5 ⟨l.toArray⟩ Tryz.underlying9 Tryz.underlying209 Tryz.underlying5
 have kr := Lib.hid (BRow.of_string w l (grownCap w l.length 0 5) 5)
 have kf := Lib.hid ((Below.refl w.heap.size w).alloc (Nat.le_refl _) (Obj.cells (bytesRow ⟨l.toArray⟩ (grownCap w l.length 0 5)) 5 ((bytesRow ⟨l.toArray⟩ (grownCap w l.length 0 5)).size, (bytesRow ⟨l.toArray⟩ (grownCap w l.length 0 5)).size + 1)))
 go_enter Tryz.func82, Tryz.ntmps82
 go_wp2_with (fail)
 go_loopw [4] (fun i wr => ∃ k : Nat, k ≤ l.length ∧ i = .int .i64 k ∧ BRow wr w.heap.size w.heap.size 5 (((l.take k).map blankC ++ l.drop k).map bv) ∧ Below w.heap.size w wr) (fun i _ => l.length - (intOf i).toNat)
 case atStart => exact ⟨0, by omega, rfl, kr.out.keep rfl, kf.out.drew⟩
 case round =>
   clear kb kr kf
   generalize grownCap w l.length 0 5 = cap
   obtain ⟨k, hk, rfl, hown, hw⟩ := hrel
   by_cases hlt : k < l.length
   · have hlt' : (k : Int) < (l.length : Int) := by omega
     have hkl : k < (((l.take k).map blankC ++ l.drop k).map bv).length := by simp; omega
     have hc := hown.cell hkl
     rw [map_at blankC bv l k hlt] at hc
     have hf := hown.frozen hkl
     cases hcap : capB l[k]
     · go_wp2_with (go_at_call 153; refine (l03Capital_any _ _).mono ?_; rintro e w' ⟨rfl, rfl⟩)
       go_roundw
       case rel => exact ⟨k + 1, by omega, by go_num, by rw [← map_same blankC bv l k hlt (by simp [blankC, hcap])]; exact hown, hw⟩
       case measure => simp [intOf]; omega
     · go_wp2_with (go_at_call 153; refine (l03Capital_any _ _).mono ?_; rintro e w' ⟨rfl, rfl⟩)
       go_roundw
       case rel =>
         refine ⟨k + 1, by omega, by go_num, ?_, hw.setCell (Nat.le_refl _) _⟩
         rw [← map_step blankC bv l k hlt]
         have := hown.stored k (bv (blankC l[k]))
         rw [show blankC l[k] = 63 from by simp [blankC, hcap]] at this ⊢
         exact this
       case measure => simp [intOf]; omega
   · obtain rfl : k = l.length := by omega
     have hown' : BRow wr w.heap.size w.heap.size 5 ((l.map blankC).map bv) := by simpa using hown
     have hcv := run_string_brow (P := Tryz.prog) (cap := cap) (n := l.length) wr 209 9 5 Tryz.underlying209 Tryz.underlying5 Tryz.underlying9 hown' (by simp)
     go_wp2_with (go_at_call 86; refine (l03Sort_any (l.map blankC) _ (by simpa using hl)).mono ?_; rintro e w' ⟨rfl, hb⟩)
     go_ret
     exact ⟨rfl, hw.trans (hb.mono hw.size)⟩
theorem l03Placed_any (l : Str) (w : World) (hl : l.length ≤ 2 ^ 38) :
   Calls Tryz.prog 286 #[sv l] w fun e w' => e = .returned (.bool (placedB l)) ∧ w = w' := by
 go_enter Tryz.func286, Tryz.ntmps286
 go_wp2_with (fail)
 go_loop [3] (fun i => ∃ k : Nat, k ≤ l.length ∧ i = .int .i64 k ∧ Hid (l.all (fun c => smallB c || capB c) = (l.drop k).all (fun c => smallB c || capB c))) (fun i => l.length - (intOf i).toNat)
 case atStart => exact ⟨0, by omega, rfl, rfl⟩
 case round =>
   obtain ⟨k, hk, rfl, he⟩ := hrel
   by_cases hlt : k < l.length
   · have hd := Lib.hid (drop_cons l k hlt)
     cases hc : smallB l[k] <;> cases hcc : capB l[k]
     all_goals
       go_wp2_with (first | (go_at_call 204; refine (l01Small_any _ _).mono ?_; rintro e w' ⟨rfl, rfl⟩) | (go_at_call 153; refine (l03Capital_any _ _).mono ?_; rintro e w' ⟨rfl, rfl⟩))
     · go_ret
       exact ⟨by rw [placedB, he.out, hd.out, List.all_cons, hc, hcc]; simp, rfl⟩
     all_goals
       go_round
       case rel => exact ⟨k + 1, by omega, by go_num, Lib.hid (by rw [he.out, hd.out, List.all_cons, hc, hcc]; simp)⟩
       case measure => simp [intOf]; omega
   · rw [drop_all l k (by omega)] at he
     go_wp2_with (go_at_call 143; refine (l00In_any _ _ _ _).mono ?_; rintro e w' ⟨rfl, rfl⟩)
     go_ret
     exact ⟨by rw [placedB, he.out]; simp, rfl⟩
theorem l03Need_any (pile word : Str) (w : World) (hp : pile.length ≤ 2 ^ 38) (hl : word.length ≤ 2 ^ 37) :
   Calls Tryz.prog 341 #[sv pile, sv word] w fun e w' => e = .returned (.int .i64 (needF pile word : Nat)) ∧ Below w.heap.size w w' := by
 go_enter Tryz.func341, Tryz.ntmps341
 go_wp2_with (fail)
 go_loopw [5, 6, 7] (fun lf nd i wr => ∃ (k m : Nat) (left : Str), k ≤ word.length ∧ m ≤ k ∧ left.length ≤ pile.length ∧ i = .int .i64 k ∧ nd = .int .i64 m ∧ lf = sv left ∧ Hid (needF pile word = m + needF left (word.drop k)) ∧ Below w.heap.size w wr) (fun _ _ i _ => word.length - (intOf i).toNat)
 case atStart => exact ⟨0, 0, pile, by omega, by omega, by omega, rfl, rfl, rfl, by simp [Hid], Below.refl _ _⟩
 case round =>
   obtain ⟨k, m, left, hk, hm, hleft, rfl, rfl, rfl, he, hw⟩ := hrel
   by_cases hlt : k < word.length
   · have hd := Lib.hid (drop_cons word k hlt)
     have h1 : (0 : Int) ≤ (k : Int) := by omega
     have h2 : (k : Int) ≤ (k : Int) + 1 := by omega
     have h3 : (k : Int) + 1 ≤ (word.length : Int) := by omega
     have hone : Hid ((word.drop k).take 1 = [word[k]]) := Lib.hid (by rw [drop_cons word k hlt]; rfl)
     have htl := takeS_length left [word[k]]
     cases htb : takeB left [word[k]]
     all_goals
       go_wp2_with (fail)
       rw [hone.out]
       refine (l03Take_any left [word[k]] _ (by omega) (by simp)).mono ?_
       rintro e w2 ⟨rfl, hb⟩
       rw [htb]
       go_wp2
     · go_roundw
       case rel => exact ⟨k + 1, m + 1, left, by omega, by omega, by omega, by go_num, by go_num, rfl, Lib.hid (by rw [he.out, hd.out, needF, htb]; simp; omega), hw.trans (hb.mono hw.size)⟩
       case measure => simp [intOf]; omega
     · go_roundw
       case rel => exact ⟨k + 1, m, takeS left [word[k]], by omega, by omega, by omega, by go_num, rfl, rfl, Lib.hid (by rw [he.out, hd.out, needF, htb]; simp), hw.trans (hb.mono hw.size)⟩
       case measure => simp [intOf]; omega
   · rw [drop_all word k (by omega)] at he
     go_wp2
     go_ret
     exact ⟨ret_int (by rw [he.out]; simp [needF]), hw⟩
theorem l03Blanks_any (s : Str) (w : World) (hl : s.length ≤ 2 ^ 38) :
   Calls Tryz.prog 342 #[sv s] w fun e w' => e = .returned (.int .i64 (blanksN s : Nat)) ∧ w = w' := by
 go_enter Tryz.func342, Tryz.ntmps342
 go_wp2_with (fail)
 go_loop [3, 4] (fun n i => ∃ k m : Nat, k ≤ s.length ∧ m ≤ k ∧ i = .int .i64 k ∧ n = .int .i64 m ∧ Hid (blanksN s = m + blanksN (s.drop k))) (fun _ i => s.length - (intOf i).toNat)
 case atStart => exact ⟨0, 0, by omega, by omega, rfl, rfl, by simp [Hid]⟩
 case round =>
   obtain ⟨k, m, hk, hm, rfl, rfl, he⟩ := hrel
   by_cases hlt : k < s.length
   · have hd := Lib.hid (drop_cons s k hlt)
     have hq := u8_eq s[k] 63
     cases hc : (s[k] == 63)
     all_goals
       rw [hc] at hq
       have hq' : ((s[k].toNat : Int) == 63) = _ := hq
       clear hq
       go_wp2
     · go_round
       case rel => exact ⟨k + 1, m, by omega, by omega, by go_num, rfl, Lib.hid (by rw [he.out, hd.out, blanksN, blanksN, List.count_cons, hc]; simp)⟩
       case measure => simp [intOf]; omega
     · go_round
       case rel => exact ⟨k + 1, m + 1, by omega, by omega, by go_num, by go_num, Lib.hid (by rw [he.out, hd.out, blanksN, blanksN, List.count_cons, hc]; simp; omega)⟩
       case measure => simp [intOf]; omega
   · rw [drop_all s k (by omega)] at he
     go_wp2
     go_ret
     exact ⟨ret_int (by rw [he.out]; simp [blanksN]), rfl⟩
end Go.Proofs.YtdkckikobefekaaGreatDoor
