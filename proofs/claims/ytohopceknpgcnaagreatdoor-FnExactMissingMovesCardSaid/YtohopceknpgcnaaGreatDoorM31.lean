/-
  What comes in: lexicons, boards, tile sets; the row's wrap; What comes in: lists of moves; five arguments; FnExactMissingMoves: whatever the arguments, the law returns true and they read as they did (the row's statement).
  Conditions: none; none of ours; what the row lists reads as the program's text lays it.
-/
import Derived.Test.YtohopceknpgcnaaGreatDoorM16
import Derived.Test.YtohopceknpgcnaaGreatDoorM07
import Derived.ProofKit
import Derived.Lay
import Derived.LaidMore
import Derived.Carry
import Derived.SizedLaws
import Derived.Deep.Strs
import Derived.Lib.SmallJoins
import Derived.Shelf.Vars
import Derived.ShapedOpen
import Derived.ChangeSlices
import Derived.Test.YtohopceknpgcnaaGreatDoorM21
import Derived.Deep.Slices
import Derived.Test.YtohopceknpgcnaaGreatDoorRows
import Derived.Test.YtohopceknpgcnaaGreatDoorM30
namespace Go.Proofs.YtohopceknpgcnaaGreatDoor
open Go.ChangeShapes Go.WideShapes Go.ChangeAt Go.RowKit Go.Joins
open Go.ChangeMaps (open_string shut_string)
open RegP RegL RegV
set_option maxRecDepth 100000
theorem change_shaped_and {H : Type} {enc : TypeId × Value → H} {a : Assume} {C : Checked} {os : Os} {f : FuncId} {fn : Func} {s : ChangeSpec} {conds : List PathCond} {apart fresh handsOn again : Bool} {X : World → Array Value → Prop}
   (hX : ∀ (w w' : World) (args : Array Value), w.heap = w'.heap → X w args → X w' args)
   (own : ownKnob C.prog.godebug = none) (started : os.Started) (noInit : C.prog.inits.idxOf? f = none) (hfn : C.prog.funcs[f]? = some fn)
   (witness : ∃ (w : World) (tape : Tape) (i : Input), w.os = os ∧ (w.forCall tape i).Shaped C.prog ∧ i.vars = [] ∧ Input.okWide C.prog (w.forCall tape i) .any w.heap.size f i ∧
     ((s.pre enc C.prog fn conds apart (w.forCall tape i).memory i.args ∧ X (w.forCall tape i).memory i.args) ∧ sizedMet enc C.prog fn (OpenSpec.ofChange s) apart (w.forCall tape i).memory i.args) ∧ a.holds C.prog (lone (Frame.enter C.prog f i.args .normal) [] (w.forCall tape i)))
   (contract : ∀ (W : World) (base : Nat) (args : Array Value) (ds gs : List (DataW H)) (before : List MemPlace),
     (∀ (j : Nat) t v, fn.params[j]? = some t → args[j]? = some v → Value.okWide C.prog W .any base t v) →
     DataW.Whole enc C.prog fn.params.toList s.vars apart W args.toList ds gs before →
     W.ShapedOpen C.prog → X W args →
     Calls C.prog f args W fun e W' => ∃ v, e = .returned v ∧ s.post enc C.prog fn apart fresh handsOn again W args v W') :
   ReturnsInHanded a C os f .any (fun w args => (s.pre enc C.prog fn conds apart w args ∧ X w args) ∧ sizedMet enc C.prog fn (OpenSpec.ofChange s) apart w args) (s.post enc C.prog fn apart fresh handsOn again) := by
 refine returnsInHanded_of_calls own started noInit witness ?_
 intro w tape i _ hsh _ hok hpre _
 obtain ⟨_, _, _, fn', hfn', _, _, _, _, hval⟩ := hok
 have e : fn' = fn := Option.some.inj (hfn'.symm.trans hfn)
 subst e
 obtain ⟨⟨⟨ds, gs, before, hw, _⟩, hx⟩, _⟩ := hpre
 have hw' := DataW.Whole.of_heap (w' := w.forCall tape i) (by rfl) hw
 refine (contract (w.forCall tape i) w.heap.size i.args ds gs before hval hw' hsh (hX _ _ _ (by rfl) hx)).mono fun e W' ⟨v, he, hp⟩ => ?_
 subst he
 exact ChangeSpec.post_blind hp
theorem max_shaped {W : World} (h : W.ShapedOpen Tryz.prog) : MaxOk W :=
 cell_of_shapedOpen_int (g := 0) (t := 3) (zero := #[.int .i64 0]) (k := .i64) h (of_decide_eq_true (by kernel_rfl)) (by kernel_rfl) rfl (by kernel_rfl) (by kernel_rfl) Tryz.underlying3
theorem ownM : ownKnob Tryz.prog.godebug = none := by kernel_rfl
theorem laidOutM : laidOutB Tryz.prog = true := by kernel_rfl
theorem open_lex {H : Type} {enc : TypeId × Value → H} {W : World} {base : Nat} {v : Value} {d : DataW H} {p : List MemPlace} (hv : Value.okWide Tryz.prog W .any base 24 v) (h : DataW.Trod enc Tryz.prog W 0 (fun _ => true) true 24 v d p) :
   ∃ (A : Option Addr) (c : Nat) (lex : List Str), v = .agg #[.slice A lex.length c] ∧ Reads W W.heap.size 1 A lex.length (lex.map sv) ∧ lex.length ≤ 9223372036854775807 ∧ ∀ x ∈ lex, x.length ≤ 9223372036854775807 := by
 obtain ⟨cs, rfl, hsz⟩ := okWide_struct Tryz.underlying24 hv
 have hc1 : Tryz.prog.cellsOf 24 = 1 := by kernel_rfl
 have hc22 : Tryz.prog.cellsOf 22 = 1 := by kernel_rfl
 rw [hc1] at hsz
 obtain ⟨l⟩ := cs
 match l, hsz with
 | [c0], _ =>
   obtain ⟨fuel, hf⟩ := h
   obtain ⟨y0, n, _, _, hy⟩ := trod_struct1 Tryz.underlying24 hf
   have hy' : DataW.trod enc Tryz.prog W 0 (fun _ => true) true n 22 [c0] = some y0 := by simpa [Value.cells, hc22] using hy
   rcases Deep.open_strs Tryz.underlying22 Tryz.underlying9 (by kernel_rfl) hy' with ⟨h1, _⟩ | ⟨a, len, cap, m, Sx, h1, _, hlc, hcm, hm, _, hcell⟩
   · obtain rfl : c0 = .slice none 0 0 := by injection h1
     exact ⟨none, 0, [], rfl, ⟨rfl, fun h => absurd h (by simp)⟩, by simp, fun x hx => by cases hx⟩
   · obtain rfl : c0 = .slice (some a) len cap := by injection h1
     have hlm : len ≤ m := by rw [hm]; simp; exact hlc
     refine ⟨some a, cap, (List.range len).map fun i => (Sx i).data.toList, by simp, ⟨by simp, fun h0 => ?_⟩, ?_, fun x hx => ?_⟩
     · have hl0 : 0 < len := by simpa using h0
       have hlt : a.block < W.heap.size := by
         have := World.block_lt_of_cell? W _ (hcell 0 (by omega)).1
         rwa [block_of_add] at this
       refine ⟨a, rfl, hlt, fun j u hu => ?_⟩
       have hj : j < len := by
         have := (List.getElem?_eq_some_iff.1 hu).1
         simpa using this
       rw [List.getElem?_map, List.getElem?_map, List.getElem?_range hj] at hu
       simp only [Option.map_some, Option.some.injEq] at hu
       rw [← hu, (hcell j (by omega)).1]
     · have hcm' : cap ≤ 9223372036854775807 := hcm
       rw [List.length_map, List.length_range]
       exact Nat.le_trans hlc hcm'
     · obtain ⟨i, hi, rfl⟩ := List.mem_map.1 hx
       have h2 : (Sx i).size ≤ 9223372036854775807 := (hcell i (by have := List.mem_range.1 hi; omega)).2
       exact h2
theorem open_bd {H : Type} {enc : TypeId × Value → H} {W : World} {base : Nat} {v : Value} {d : DataW H} {p : List MemPlace} (hv : Value.okWide Tryz.prog W .any base 29 v) (h : DataW.Trod enc Tryz.prog W 0 (fun _ => true) true 29 v d p) :
   ∃ b : Bd, v = b.v ∧ b.prem.length ≤ 9223372036854775807 ∧ b.cells.length ≤ 9223372036854775807 := by
 obtain ⟨c0, c1, c2, y0, y1, y2, m, rfl, _, _, hy0, hy1, hy2⟩ := open_agg3 Tryz.underlying29 (by kernel_rfl) (by kernel_rfl) hv h
 obtain ⟨k, e0, _, _⟩ := DataW.trod_int Tryz.underlying2 hy0
 obtain ⟨s1, e1, _, w1⟩ := DataW.trod_string Tryz.underlying9 hy1
 obtain ⟨s2, e2, _, w2⟩ := DataW.trod_string Tryz.underlying9 hy2
 injection e0 with e0
 injection e1 with e1
 injection e2 with e2
 subst e0 e1 e2
 exact ⟨⟨k, s1.data.toList, s2.data.toList⟩, rfl, w1, w2⟩
theorem open_nums {H : Type} {enc : TypeId × Value → H} {W : World} {fuel : Nat} {v : Value} {x : DataW H × List MemPlace} (h : DataW.trod enc Tryz.prog W 0 (fun _ => true) true fuel 25 [v] = some x) :
   ∃ (A : Option Addr) (c : Nat) (xs : List Int), v = .slice A xs.length c ∧ Reads W W.heap.size 1 A xs.length (xs.map xv) ∧ xs.length ≤ 9223372036854775807 := by
 rcases open_ints Tryz.underlying25 Tryz.underlying2 (by kernel_rfl) h with ⟨h1, _⟩ | ⟨a, len, cap, zs, h1, _, hlc, hcm, hz, _, hcell, _⟩
 · obtain rfl : v = .slice none 0 0 := by injection h1
   exact ⟨none, 0, [], rfl, ⟨rfl, fun h => absurd h (by simp)⟩, by simp⟩
 · obtain rfl : v = .slice (some a) len cap := by injection h1
   have hzl : zs.length = cap := by rw [hz]; simp
   have htl : (zs.take len).length = len := by rw [List.length_take]; omega
   refine ⟨some a, cap, zs.take len, by rw [htl], ⟨by simp, fun h0 => ?_⟩, ?_⟩
   · have hl0 : 0 < len := by rw [htl] at h0; exact h0
     have hlt : a.block < W.heap.size := by
       have := World.block_lt_of_cell? W _ (hcell 0 (by omega))
       rwa [block_of_add] at this
     refine ⟨a, rfl, hlt, fun j u hu => ?_⟩
     have hj : j < len := by
       have := (List.getElem?_eq_some_iff.1 hu).1
       rw [List.length_map, htl] at this
       exact this
     rw [List.getElem?_map, List.getElem?_take_of_lt hj, List.getElem?_eq_getElem (by omega)] at hu
     simp only [Option.map_some, Option.some.injEq] at hu
     rw [← hu, hcell j (by omega), List.getD_eq_getElem?_getD, List.getElem?_eq_getElem (by omega)]
     rfl
   · have hcm' : cap ≤ 9223372036854775807 := hcm
     rw [htl]
     omega
theorem open_ts {H : Type} {enc : TypeId × Value → H} {W : World} {base : Nat} {v : Value} {d : DataW H} {p : List MemPlace} (hv : Value.okWide Tryz.prog W .any base 27 v) (h : DataW.Trod enc Tryz.prog W 0 (fun _ => true) true 27 v d p) :
   ∃ (t : TS) (A1 A2 : Option Addr) (c1 c2 : Nat), v = t.v A1 c1 A2 c2 ∧ TsIn W t A1 A2 ∧ t.letters.length ≤ 9223372036854775807 ∧ t.values.length ≤ 9223372036854775807 ∧ t.counts.length ≤ 9223372036854775807 := by
 obtain ⟨c0, c1, c2, c3, y0, y1, y2, y3, m, rfl, _, _, hy0, hy1, hy2, hy3⟩ := open_agg4 Tryz.underlying27 (by kernel_rfl) (by kernel_rfl) hv h
 obtain ⟨s1, e1, _, w1⟩ := DataW.trod_string Tryz.underlying9 hy0
 obtain ⟨A1, d1, xs, rfl, r1, n1⟩ := open_nums hy1
 obtain ⟨A2, d2, ys, rfl, r2, n2⟩ := open_nums hy2
 obtain ⟨k, e3, _, _⟩ := DataW.trod_int Tryz.underlying2 hy3
 injection e1 with e1
 injection e3 with e3
 subst e1 e3
 exact ⟨⟨s1.data.toList, xs, ys, k⟩, A1, A2, d1, d2, rfl, ⟨r1, r2⟩, w1, n1, n2⟩
section
variable {H : Type} {enc : TypeId × Value → H} {P : Program} {w : World} {base : Nat} {spare : Nat → Bool} {held : Bool}
theorem trodAll_five' {t t' t'' t3 t4 : TypeId} {args : Array Value} {ds : List (DataW H)} {ps : List MemPlace} (h : DataW.TrodAll enc P w base spare held [t, t', t'', t3, t4] args.toList ds ps) :
   ∃ v v' v'' v3 v4 d d' d'' d3 d4 p p' p'' p3 p4, args = #[v, v', v'', v3, v4] ∧ ds = [d, d', d'', d3, d4] ∧ ps = p ++ p' ++ p'' ++ p3 ++ p4 ∧ DataW.Trod enc P w base spare held t v d p ∧ DataW.Trod enc P w base spare held t' v' d' p' ∧ DataW.Trod enc P w base spare held t'' v'' d'' p'' ∧ DataW.Trod enc P w base spare held t3 v3 d3 p3 ∧ DataW.Trod enc P w base spare held t4 v4 d4 p4 := by
 obtain ⟨v, vs, d, ds', p, q, hargs, rfl, rfl, hd, hrest⟩ := trodAll_cons h
 obtain ⟨v', vs', d', ds'', p', q', rfl, rfl, rfl, hd', hrest'⟩ := trodAll_cons hrest
 obtain ⟨v'', vs'', d'', ds''', p'', q'', rfl, rfl, rfl, hd'', hrest''⟩ := trodAll_cons hrest'
 obtain ⟨v3, vs3, d3, ds3, p3, q3, rfl, rfl, rfl, hd3, hrest3⟩ := trodAll_cons hrest''
 obtain ⟨v4, vs4, d4, ds4, p4, q4, rfl, rfl, rfl, hd4, hrest4⟩ := trodAll_cons hrest3
 obtain ⟨rfl, rfl, rfl⟩ := trodAll_nil hrest4
 exact ⟨v, v', v'', v3, v4, d, d', d'', d3, d4, p, p', p'', p3, p4, by cases args; simp_all, rfl, by simp, hd, hd', hd'', hd3, hd4⟩
theorem trodAll_mk5' {t t' t'' t3 t4 : TypeId} {v v' v'' v3 v4 : Value} {d d' d'' d3 d4 : DataW H} {p p' p'' p3 p4 : List MemPlace} (h : DataW.Trod enc P w base spare held t v d p) (h' : DataW.Trod enc P w base spare held t' v' d' p')
   (h'' : DataW.Trod enc P w base spare held t'' v'' d'' p'') (h3 : DataW.Trod enc P w base spare held t3 v3 d3 p3) (h4 : DataW.Trod enc P w base spare held t4 v4 d4 p4) : DataW.TrodAll enc P w base spare held [t, t', t'', t3, t4] [v, v', v'', v3, v4] [d, d', d'', d3, d4] (p ++ (p' ++ (p'' ++ (p3 ++ p4)))) :=
 ⟨p, p' ++ (p'' ++ (p3 ++ p4)), h, trodAll_mk4 h' h'' h3 h4, rfl⟩
end
instance : Inhabited Mv := ⟨(⟨0, 0, false, []⟩, 0)⟩
theorem open_mv {H : Type} {enc : TypeId × Value → H} {W : World} {n : Nat} {cs : List Value} {x : DataW H × List MemPlace} (h : DataW.trod enc Tryz.prog W 0 (fun _ => true) true n 80 cs = some x) :
   ∃ m : Mv, cs = mvC m ∧ m.1.word.length ≤ 9223372036854775807 := by
 obtain ⟨y0, y1, k, _, hl, h0, h1⟩ := trod_struct2 Tryz.underlying80 h
 have c1 : Tryz.prog.cellsOf 80 = 5 := by kernel_rfl
 have c2 : Tryz.prog.cellsOf 78 = 4 := by kernel_rfl
 have c3 : Tryz.prog.cellsOf 2 = 1 := by kernel_rfl
 have c4 : Tryz.prog.cellsOf 4 = 1 := by kernel_rfl
 have c5 : Tryz.prog.cellsOf 9 = 1 := by kernel_rfl
 rw [c1] at hl
 match cs, hl with
 | [v0, v1, v2, v3, v4], _ =>
   simp only [c2, c3, List.drop_zero, List.take_succ_cons, List.take_zero, List.drop_succ_cons] at h0 h1
   obtain ⟨z0, z1, z2, z3, k2, _, _, g0, g1, g2, g3⟩ := trod_struct4 Tryz.underlying78 h0
   simp only [c3, c4, c5, List.drop_zero, List.take_succ_cons, List.take_zero, List.drop_succ_cons] at g0 g1 g2 g3
   obtain ⟨a0, e0, _, _⟩ := DataW.trod_int Tryz.underlying2 g0
   obtain ⟨a1, e1, _, _⟩ := DataW.trod_int Tryz.underlying2 g1
   obtain ⟨a2, e2, _⟩ := DataW.trod_bool Tryz.underlying4 g2
   obtain ⟨a3, e3, _, w3⟩ := DataW.trod_string Tryz.underlying9 g3
   obtain ⟨a4, e4, _, _⟩ := DataW.trod_int Tryz.underlying2 h1
   injection e0 with e0
   injection e1 with e1
   injection e2 with e2
   injection e3 with e3
   injection e4 with e4
   subst e0 e1 e2 e3 e4
   exact ⟨(⟨a0, a1, a2, a3.data.toList⟩, a4), rfl, w3⟩
theorem open_mvs {H : Type} {enc : TypeId × Value → H} {W : World} {base : Nat} {v : Value} {d : DataW H} {p : List MemPlace} (hv : Value.okWide Tryz.prog W .any base 49 v) (h : DataW.Trod enc Tryz.prog W 0 (fun _ => true) true 49 v d p) :
   ∃ (A : Option Addr) (c : Nat) (ms : List Mv), v = .slice A ms.length c ∧ Reads W W.heap.size 5 A ms.length (mvsC ms) ∧ (0 < ms.length → ∀ ad, A = some ad → ad = ⟨ad.block, ad.off, none⟩) ∧ ms.length ≤ 9223372036854775807 ∧ ∀ x ∈ ms, x.1.word.length ≤ 9223372036854775807 := by
 have hc : Tryz.prog.cellsOf 80 = 5 := by kernel_rfl
 obtain ⟨fuel, hf⟩ := h
 have slice_of : v.cells.toList = [.slice none 0 0] ∨ (∃ a l c, v.cells.toList = [.slice (some a) l c]) → ∃ A l c, v = .slice A l c ∧ v.cells.toList = [.slice A l c] := by
   intro hx
   cases v with
   | slice A l c => exact ⟨A, l, c, rfl, rfl⟩
   | agg cs =>
     exfalso
     have := hv
     simp [Value.okWide, Cell.okWide, Cell.ok, Tryz.underlying49] at this
   | _ => simp [Value.cells] at hx
 rcases Deep.open_slice Tryz.underlying49 hf with ⟨h1, _⟩ | ⟨a, len, cap, m, k, D, Pl, h1, _, hlc, hcm, hm, _, hcell⟩
 · obtain ⟨A, l, c, rfl, h2⟩ := slice_of (.inl h1)
   rw [h2] at h1
   injection h1 with h1
   injection h1 with e1 e2 e3
   subst e1 e2 e3
   exact ⟨none, 0, [], rfl, ⟨rfl, fun h => absurd h (by simp)⟩, fun h => absurd h (by simp), by simp, fun x hx => by cases hx⟩
 · obtain ⟨A, l, c, rfl, h2⟩ := slice_of (.inr ⟨a, len, cap, h1⟩)
   rw [h2] at h1
   injection h1 with h1
   injection h1 with e1 e2 e3
   subst e1 e2 e3
   have hm' : m = c := hm
   obtain ⟨V, hV⟩ := Deep.choose_lt (n := l) (α := Mv) (p := fun i x => (∀ j u, (mvC x)[j]? = some u → W.cell? ((a.add (i * 5)).add j) = some u) ∧ x.1.word.length ≤ 9223372036854775807) (fun i hi => by
     obtain ⟨cs', g1, g2⟩ := hcell i (by omega)
     obtain ⟨x, rfl, hx⟩ := open_mv g2
     rw [hc] at g1
     obtain ⟨_, _, g3⟩ := World.cells?_some g1
     refine ⟨x, fun j u hu => ?_, hx⟩
     have hj : j < 5 := (List.getElem?_eq_some_iff.1 hu).1
     rw [g3 j hj, hu])
   have hadd : ∀ i j : Nat, (a.add (i * 5)).add j = a.add (i * 5 + j) := fun i j => by
     unfold Addr.add
     split <;> split <;> split <;> simp_all <;> omega
   have hlen : ((List.range l).map V).length = l := by simp
   refine ⟨some a, c, (List.range l).map V, by rw [hlen], ⟨by rw [mvsC_length], fun h0 => ?_⟩, fun h0 ad e => ?_, ?_, fun x hx => ?_⟩
   · rw [hlen] at h0
     have g0 := (hV 0 h0).1 0 _ rfl
     have hlt : a.block < W.heap.size := by
       have := World.block_lt_of_cell? W _ g0
       rwa [block_of_add, block_of_add] at this
     refine ⟨a, rfl, hlt, fun j u hu => ?_⟩
     have hj : j < l * 5 := by
       have := (List.getElem?_eq_some_iff.1 hu).1
       rwa [mvsC_length, hlen] at this
     have e : j = (j / 5) * 5 + j % 5 := by omega
     have hk : j / 5 < ((List.range l).map V).length := by rw [hlen]; omega
     rw [e, mvsC_get _ _ _ hk (by omega)] at hu
     have hvk : ((List.range l).map V)[j / 5] = V (j / 5) := by simp
     rw [hvk] at hu
     have := (hV (j / 5) (by omega)).1 (j % 5) u hu
     rw [hadd] at this
     rw [e]
     exact this
   · injection e with e
     subst e
     rw [hlen] at h0
     have g0 := (hV 0 h0).1 0 _ rfl
     obtain ⟨u, g1⟩ : ∃ u, W.cell? a = some u := ⟨_, by simpa [Addr.add] using g0⟩
     unfold World.cell? at g1
     split at g1
     · split at g1
       · cases g1
       · rename_i hs
         cases hsp : a.spot with
         | none => cases a; simp at hsp; subst hsp; rfl
         | some q => rw [hsp] at hs; simp at hs
     · cases g1
   · have hcm' : c ≤ 9223372036854775807 := hcm
     rw [hlen]
     omega
   · obtain ⟨i, hi, rfl⟩ := List.mem_map.1 hx
     exact (hV i (List.mem_range.1 hi)).2
theorem lifted_missing (os : Os) (started : os.Started) (H : Type) (enc : TypeId × Value → H) :
   ReturnsInHanded {} Tryz.checked os 5 .any (fun w args => (Rows.fnExactMissingMovesSpec.pre enc Tryz.prog Tryz.f5 [] false w args ∧ laidMetH Tryz.prog Rows.fnExactMissingMovesRow.laid w) ∧ sizedMet enc Tryz.prog Tryz.f5 (OpenSpec.ofChange Rows.fnExactMissingMovesSpec) false w args)
     (Rows.fnExactMissingMovesSpec.post enc Tryz.prog Tryz.f5 false true false false) := by
 refine change_shaped_and (C := Tryz.checked) (X := fun w _ => laidMetH Tryz.prog Rows.fnExactMissingMovesRow.laid w) (fun _ _ _ hh h => h.of_heap hh) ownM started (by kernel_rfl) Tryz.func5
   (ChangeSpec.witness_shaped (enc := enc) (C := Tryz.checked) (os := os) (X := fun w _ => laidMetH Tryz.prog Rows.fnExactMissingMovesRow.laid w) false (World.laidAll Tryz.prog os Rows.fnExactMissingMovesRow.laid) #[.agg #[.slice none 0 0], .agg #[.string ⟨#[]⟩, .slice none 0 0, .slice none 0 0, .int .i64 0], .agg #[.int .i64 0, .string ⟨#[]⟩, .string ⟨#[]⟩], .string ⟨#[]⟩, .slice none 0 0] 8 (World.laidAll_os _ _ _)
     (World.shaped_of_ZipB (by kernel_rfl) (by kernel_rfl)) (by kernel_rfl) (by kernel_rfl) (by kernel_rfl)
     (by rw [MakeChecks.laidMetH_plain _ _ _ (by kernel_rfl)]; exact laidMet_laidAll _ (by kernel_rfl) (by kernel_rfl))) ?_
 intro W base args ds gs before hval0 hW hsh _
 have hval : ∀ (j : Nat) t v, Tryz.f5.params[j]? = some t → args[j]? = some v → Value.okWide Tryz.prog W .any base t v := hval0
 have hW' := hW
 obtain ⟨p, q, hA0, hV, rfl, _, _⟩ := hW
 have hA : DataW.TrodAll enc Tryz.prog W 0 (fun _ => true) true Tryz.f5.params.toList args.toList ds p := hA0
 rw [Tryz.params5] at hA hval
 have hlt := DataW.TrodAll.lt hA
 obtain ⟨v0, v1, v2, v3, v4, d0, d1, d2, d3, d4, p0, p1, p2, p3, p4, rfl, rfl, rfl, h0, h1, h2, h3, h4⟩ := trodAll_five' hA
 obtain ⟨rfl, rfl⟩ := trodVars_none hV
 obtain ⟨A, c, lex, rfl, hr, hll, hls⟩ := open_lex (hval 0 24 v0 rfl rfl) h0
 obtain ⟨t, A1, A2, c1, c2, rfl, hi, htl, htv, htc⟩ := open_ts (hval 1 27 v1 rfl rfl) h1
 obtain ⟨b, rfl, hbp, hbc⟩ := open_bd (hval 2 29 v2 rfl rfl) h2
 obtain ⟨s, hs⟩ : ∃ s : ByteArray, v3 = .string s := okWide_string Tryz.underlying9 (hval 3 9 v3 rfl rfl)
 subst hs
 obtain ⟨A5, c5, ms, rfl, h5, hf5, hm1, hm2⟩ := open_mvs (hval 4 49 v4 rfl rfl) h4
 simp only [List.append_nil, List.append_assoc] at hW'
 have hl0 : ∀ x ∈ p0, x.block < W.heap.size := fun x hx => hlt x (by simp [hx])
 have hl1 : ∀ x ∈ p1, x.block < W.heap.size := fun x hx => hlt x (by simp [hx])
 have hl2 : ∀ x ∈ p2, x.block < W.heap.size := fun x hx => hlt x (by simp [hx])
 have hl3 : ∀ x ∈ p3, x.block < W.heap.size := fun x hx => hlt x (by simp [hx])
 have hl4 : ∀ x ∈ p4, x.block < W.heap.size := fun x hx => hlt x (by simp [hx])
 refine Calls.mono (law_missing_any A c lex t A1 A2 c1 c2 b s.data.toList A5 c5 ms W (max_shaped hsh) hr hi h5 hf5 hm1 hm2 hll hls htl htv htc hbp hbc) fun e W' ⟨he, hb⟩ => ?_
 subst he
 exact ⟨_, rfl, _, _, _, [], _, [], hW', trodAll_mk1 (shut_bool Tryz.underlying4 _),
   trodAll_mk5' (Below.trod laidOutM (by kernel_rfl) (of_decide_eq_true (by kernel_rfl)) h0 hb hl0) (Below.trod laidOutM (by kernel_rfl) (of_decide_eq_true (by kernel_rfl)) h1 hb hl1) (Below.trod laidOutM (by kernel_rfl) (of_decide_eq_true (by kernel_rfl)) h2 hb hl2) (Below.trod laidOutM (by kernel_rfl) (of_decide_eq_true (by kernel_rfl)) h3 hb hl3) (Below.trod laidOutM (by kernel_rfl) (of_decide_eq_true (by kernel_rfl)) h4 hb hl4), rfl, hb.frame _, fun h => by cases h⟩
theorem fnExactMissingMoves_holds : Rows.FnExactMissingMovesSaid :=
 OpenClaim.holds_of_wide 5 Tryz.f5 rfl rfl rfl rfl rfl rfl rfl ⟨rfl, rfl, rfl, rfl, rfl⟩ rfl rfl rfl rfl rfl (by kernel_rfl) Tryz.func5 (by kernel_rfl)
   (of_decide_eq_true (by kernel_rfl)) (by unfold Func.isWrapper; first | (rw [if_pos (by decide +kernel)]; kernel_rfl) | (rw [if_neg (by decide +kernel)]; exact ⟨rfl, rfl⟩))
   (fun os started H enc _ => lifted_missing os started H enc)
#print axioms fnExactMissingMoves_holds
end Go.Proofs.YtohopceknpgcnaaGreatDoor
