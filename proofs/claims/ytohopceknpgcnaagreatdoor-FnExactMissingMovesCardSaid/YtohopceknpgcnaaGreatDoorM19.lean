/-
  Contract: the ways to make a word (layer 3 of the impl package); What tryPlays finds: the plays of a word at a place, of a place, of all places (layer 16 of the impl package); Plain law: the ways to make a word, head first and as a whole; The plays that are found by trying, in plain Lean: each is legal; sorting permutes them.
  Conditions: small letters; counts of common size; none.
-/
import Derived.Test.YtohopceknpgcnaaGreatDoorM18
import Derived.Laws.EntriesVeiled
import Derived.Test.YtohopceknpgcnaaGreatDoorM17
import Derived.Test.YtohopceknpgcnaaGreatDoorM15
import Derived.Test.YtohopceknpgcnaaGreatDoorM10
namespace Go.Proofs.YtohopceknpgcnaaGreatDoor
open Go.RowKit RegP RegL RegV
set_option maxHeartbeats 4000000
set_option maxRecDepth 100000
def waysI (C : List Int) (word : Str) : List Str := if canMakeC C word then waysR C [] word else []
theorem waysI_length (C : List Int) (word : Str) : (waysI C word).length ≤ 2 ^ word.length := by
 unfold waysI
 split
 · exact waysR_length _ _ _
 · exact Nat.zero_le _
structure SY (W : World) (word : Str) (σ : Nat → Value) (L : Nat → Bool) (w : World) : Prop where
 low : Below W.heap.size W w
 s0 : L 0 = true → w.ownsRow W.heap.size 9 1 (σ 0) 0 []
 s2 : L 2 = true → ∃ g cap, σ 2 = .slice (some ⟨g, 0, none⟩) word.length cap ∧ BRow w W.heap.size g 5 (word.map bv)
 s3 : L 3 = true → ∃ g, σ 3 = .pointer (some ⟨g, 0, none⟩) ∧ W.heap.size ≤ g ∧ Blk w g 22 #[if L 5 then σ 0 else .slice none 0 0]
 s4 : L 4 = true → ∃ g, σ 4 = .pointer (some ⟨g, 0, none⟩) ∧ W.heap.size ≤ g ∧ Blk w g 111 #[if L 6 then σ 2 else .slice none 0 0]
 s5 : L 5 = true → L 0 = true ∧ L 3 = true
 s6 : L 6 = true → L 2 = true ∧ L 4 = true
section
variable {W w1 w2 : World} {word : Str} {σ : Nat → Value} {L : Nat → Bool}
theorem SY.start : SY W word σ (fun _ => false) W.drew := ⟨(Below.refl _ _).drew, (fun h => by cases h), (fun h => by cases h), (fun h => by cases h), (fun h => by cases h), (fun h => by cases h), (fun h => by cases h)⟩
theorem SY.call (h : SY W word σ L w1) (hb : Below w1.heap.size w1 w2) : SY W word σ L w2 :=
 ⟨h.low.trans (hb.mono h.low.size), fun e => own_call (h.s0 e) hb, fun e => by
   obtain ⟨g, cap, h1, h2⟩ := h.s2 e
   exact ⟨g, cap, h1, h2.below hb h2.lt⟩, fun e => by
   obtain ⟨g, h1, h2, h3⟩ := h.s3 e
   exact ⟨g, h1, h2, h3.below hb h3.lt⟩, fun e => by
   obtain ⟨g, h1, h2, h3⟩ := h.s4 e
   exact ⟨g, h1, h2, h3.below hb h3.lt⟩, h.s5, h.s6⟩
theorem SY.keep1 (h : SY W word σ L w1) : SY W word σ (upd L 1) w1 :=
 ⟨h.low, fun e => h.s0 (by rwa [upd_ne L (by decide)] at e), fun e => h.s2 (by rwa [upd_ne L (by decide)] at e), (fun e => by rw [upd_ne L (by decide)] at e; rw [upd_ne L (by decide)]; exact h.s3 e), (fun e => by rw [upd_ne L (by decide)] at e; rw [upd_ne L (by decide)]; exact h.s4 e), (fun e => by rw [upd_ne L (by decide)] at e; rw [upd_ne L (by decide), upd_ne L (by decide)]; exact h.s5 e), (fun e => by rw [upd_ne L (by decide)] at e; rw [upd_ne L (by decide), upd_ne L (by decide)]; exact h.s6 e)⟩
theorem SY.put0 (h : SY W word σ L w1) (hL : L 0 = false) (hb : Below w1.heap.size w1 w2) {u : Value} (hu : w2.ownsRow W.heap.size 9 1 u 0 []) : SY W word (sub σ 0 u) (upd L 0) w2 := by
 have h := h.call hb
 have h5 : L 5 = false := by cases e : L 5; · rfl
                             · rw [(h.s5 e).1] at hL; cases hL
 refine ⟨h.low, fun _ => by rw [sub_same]; exact hu, fun e => ?_, fun e => ?_, fun e => ?_, fun e => ?_, fun e => ?_⟩
 · rw [upd_ne L (by decide)] at e; rw [sub_ne _ _ (by decide)]; exact h.s2 e
 · rw [upd_ne L (by decide)] at e; rw [upd_ne L (by decide), sub_ne _ _ (by decide), h5]
   have := h.s3 e
   rw [h5] at this
   exact this
 · rw [upd_ne L (by decide)] at e; rw [upd_ne L (by decide), sub_ne _ _ (by decide), sub_ne _ _ (by decide)]; exact h.s4 e
 · rw [upd_ne L (by decide), h5] at e; cases e
 · rw [upd_ne L (by decide)] at e; rw [upd_ne L (by decide), upd_ne L (by decide)]; exact h.s6 e
theorem SY.put2 (h : SY W word σ L w1) (hL : L 2 = false) (hb : Below w1.heap.size w1 w2) {u : Value} (hu : ∃ g cap, u = .slice (some ⟨g, 0, none⟩) word.length cap ∧ BRow w2 W.heap.size g 5 (word.map bv)) : SY W word (sub σ 2 u) (upd L 2) w2 := by
 have h := h.call hb
 have h6 : L 6 = false := by cases e : L 6; · rfl
                             · rw [(h.s6 e).1] at hL; cases hL
 refine ⟨h.low, fun e => ?_, fun _ => by rw [sub_same]; exact hu, fun e => ?_, fun e => ?_, fun e => ?_, fun e => ?_⟩
 · rw [upd_ne L (by decide)] at e; rw [sub_ne _ _ (by decide)]; exact h.s0 e
 · rw [upd_ne L (by decide)] at e; rw [upd_ne L (by decide), sub_ne _ _ (by decide), sub_ne _ _ (by decide)]; exact h.s3 e
 · rw [upd_ne L (by decide)] at e; rw [upd_ne L (by decide), sub_ne _ _ (by decide), h6]
   have := h.s4 e
   rw [h6] at this
   exact this
 · rw [upd_ne L (by decide)] at e; rw [upd_ne L (by decide), upd_ne L (by decide)]; exact h.s5 e
 · rw [upd_ne L (by decide), h6] at e; cases e
theorem SY.put3 (h : SY W word σ L w1) (hL : L 3 = false) (hb : Below w1.heap.size w1 w2) {u : Value} (hu : ∃ g, u = .pointer (some ⟨g, 0, none⟩) ∧ W.heap.size ≤ g ∧ Blk w2 g 22 #[.slice none 0 0]) : SY W word (sub σ 3 u) (upd L 3) w2 := by
 have h := h.call hb
 have h5 : L 5 = false := by cases e : L 5; · rfl
                             · rw [(h.s5 e).2] at hL; cases hL
 refine ⟨h.low, fun e => ?_, fun e => ?_, fun _ => ?_, fun e => ?_, fun e => ?_, fun e => ?_⟩
 · rw [upd_ne L (by decide)] at e; rw [sub_ne _ _ (by decide)]; exact h.s0 e
 · rw [upd_ne L (by decide)] at e; rw [sub_ne _ _ (by decide)]; exact h.s2 e
 · rw [upd_ne L (by decide), h5, sub_same]; exact hu
 · rw [upd_ne L (by decide)] at e; rw [upd_ne L (by decide), sub_ne _ _ (by decide), sub_ne _ _ (by decide)]; exact h.s4 e
 · rw [upd_ne L (by decide), h5] at e; cases e
 · rw [upd_ne L (by decide)] at e; rw [upd_ne L (by decide), upd_ne L (by decide)]; exact h.s6 e
theorem SY.put4 (h : SY W word σ L w1) (hL : L 4 = false) (hb : Below w1.heap.size w1 w2) {u : Value} (hu : ∃ g, u = .pointer (some ⟨g, 0, none⟩) ∧ W.heap.size ≤ g ∧ Blk w2 g 111 #[.slice none 0 0]) : SY W word (sub σ 4 u) (upd L 4) w2 := by
 have h := h.call hb
 have h6 : L 6 = false := by cases e : L 6; · rfl
                             · rw [(h.s6 e).2] at hL; cases hL
 refine ⟨h.low, fun e => ?_, fun e => ?_, fun e => ?_, fun _ => ?_, fun e => ?_, fun e => ?_⟩
 · rw [upd_ne L (by decide)] at e; rw [sub_ne _ _ (by decide)]; exact h.s0 e
 · rw [upd_ne L (by decide)] at e; rw [sub_ne _ _ (by decide)]; exact h.s2 e
 · rw [upd_ne L (by decide)] at e; rw [upd_ne L (by decide), sub_ne _ _ (by decide), sub_ne _ _ (by decide)]; exact h.s3 e
 · rw [upd_ne L (by decide), h6, sub_same]; exact hu
 · rw [upd_ne L (by decide)] at e; rw [upd_ne L (by decide), upd_ne L (by decide)]; exact h.s5 e
 · rw [upd_ne L (by decide), h6] at e; cases e
theorem SY.set5 (h : SY W word σ L w1) (hL : L 5 = false) (h0 : L 0 = true) (h3 : L 3 = true) {g : Nat} (hg : σ 3 = .pointer (some ⟨g, 0, none⟩)) : SY W word σ (upd L 5) (w1.setCell ⟨g, 0, none⟩ (σ 0)) := by
 obtain ⟨g3, e3, l3, b3⟩ := h.s3 h3
 rw [hg] at e3
 injection e3 with e3; injection e3 with e3; injection e3 with e3 _ _
 subst e3
 rw [hL] at b3
 refine ⟨h.low.setCell l3 _, fun e => ?_, fun e => ?_, fun e => ?_, fun e => ?_, fun _ => ?_, fun e => ?_⟩
 · exact own_far (h.s0 h0) (p := ⟨g, 0, none⟩) (own_blk_ne (h.s0 h0) b3 (by decide)) _
 · rw [upd_ne L (by decide)] at e
   obtain ⟨g2, cap, h1, h2⟩ := h.s2 e
   exact ⟨g2, cap, h1, h2.keep (Below.heap_setCell w1 ⟨g, 0, none⟩ _ g2 (fun e => (h2.ne_ b3 (by decide)) e.symm))⟩
 · rw [upd_same]; exact ⟨g, hg, l3, b3.set_ 0 _⟩
 · rw [upd_ne L (by decide)] at e; rw [upd_ne L (by decide)]
   obtain ⟨g4, h1, h2, b4⟩ := h.s4 e
   exact ⟨g4, h1, h2, b4.far (p := ⟨g, 0, none⟩) (b4.ne_ b3 (by decide)) _⟩
 · rw [upd_ne L (by decide), upd_ne L (by decide)]; exact ⟨h0, h3⟩
 · rw [upd_ne L (by decide)] at e; rw [upd_ne L (by decide), upd_ne L (by decide)]; exact h.s6 e
theorem SY.set6 (h : SY W word σ L w1) (hL : L 6 = false) (h0 : L 2 = true) (h3 : L 4 = true) {g : Nat} (hg : σ 4 = .pointer (some ⟨g, 0, none⟩)) : SY W word σ (upd L 6) (w1.setCell ⟨g, 0, none⟩ (σ 2)) := by
 obtain ⟨g3, e3, l3, b3⟩ := h.s4 h3
 rw [hg] at e3
 injection e3 with e3; injection e3 with e3; injection e3 with e3 _ _
 subst e3
 rw [hL] at b3
 refine ⟨h.low.setCell l3 _, fun e => ?_, fun e => ?_, fun e => ?_, fun e => ?_, fun e => ?_, fun _ => ?_⟩
 · rw [upd_ne L (by decide)] at e
   exact own_far (h.s0 e) (p := ⟨g, 0, none⟩) (own_blk_ne (h.s0 e) b3 (by decide)) _
 · obtain ⟨g2, cap, h1, h2⟩ := h.s2 h0
   exact ⟨g2, cap, h1, h2.keep (Below.heap_setCell w1 ⟨g, 0, none⟩ _ g2 (fun e => (h2.ne_ b3 (by decide)) e.symm))⟩
 · rw [upd_ne L (by decide)] at e; rw [upd_ne L (by decide)]
   obtain ⟨g4, h1, h2, b4⟩ := h.s3 e
   exact ⟨g4, h1, h2, b4.far (p := ⟨g, 0, none⟩) (b4.ne_ b3 (by decide)) _⟩
 · rw [upd_same]; exact ⟨g, hg, l3, b3.set_ 0 _⟩
 · rw [upd_ne L (by decide)] at e; rw [upd_ne L (by decide), upd_ne L (by decide)]; exact h.s5 e
 · rw [upd_ne L (by decide), upd_ne L (by decide)]; exact ⟨h0, h3⟩
end
theorem waysToMake_any (C : List Int) (word : Str) (w : World) (hsm : word.all smallB = true) (hl : word.length ≤ 20) (hc : C.length = 27) (hcb : ∀ j, 0 ≤ C.getD j 0 ∧ C.getD j 0 ≤ 2 ^ 40) :
   Calls Tryz.prog 58 #[.agg (cntA C), sv word] w fun e w' => ∃ v, e = .returned v ∧ w'.ownsRow w.heap.size 9 1 v (waysI C word).length ((waysI C word).map sv) ∧ Below w.heap.size w w' := by
 have kc := fun w => canMake_any C word w hc hcb (by omega) hsm
 have kw := fun (gw gy gb gc gf gx cap B : Nat) (o : Value) (w : World) hS => walk_any gw gy gb gc gf gx cap B word hsm (by omega) word [] C o [] word w rfl rfl rfl hc hcb (by have := Nat.pow_le_pow_right (n := 2) (by decide) hl; simp; omega) hS
 have hdef : Hid (waysI C word = if canMakeC C word then waysR C [] word else []) := Lib.hid rfl
 have hs27 : Hid ((cntA C).size = 27) := Lib.hid (by rw [cntA_size, hc])
 obtain ⟨WI, hWI⟩ : ∃ WI, WI = waysI C word := ⟨_, rfl⟩
 obtain ⟨CM, hCM⟩ : ∃ CM, CM = canMakeC C word := ⟨_, rfl⟩
 obtain ⟨WR, hWR⟩ : ∃ WR, WR = waysR C [] word := ⟨_, rfl⟩
 rw [← hWI] at hdef ⊢
 rw [← hCM] at hdef kc
 rw [← hWR] at hdef kw
 clear hWI hCM hWR hcb hc hsm
 obtain ⟨X, hX⟩ : ∃ X, X = cntA C := ⟨_, rfl⟩
 have hX' := Lib.hid hX
 rw [← hX] at hs27 kc ⊢
 clear hX
 obtain ⟨W, hW⟩ : ∃ W, W = (w.alloc (.cells X 95)).alloc (.cells #[sv word] 9) := ⟨_, rfl⟩
 have hC : Blk W w.heap.size 95 X := by rw [hW]; exact (Blk.new w _ _).alloc _
 have hWd : Blk W (w.heap.size + 1) 9 #[sv word] := by rw [hW]; exact Blk.new1 w _ _ _
 have hb0 : Below w.heap.size w W := by rw [hW]; exact ((Below.refl _ _).alloc (Nat.le_refl _) _).alloc (by simp) _
 have hz0 : W.heap.size = w.heap.size + 1 + 1 := by rw [hW]; simp
 have hwd0 : W.cell? ⟨w.heap.size + 1, 0, none⟩ = some (sv word) := hWd.cell 0
 have kb := fun (w : World) => run_bytes_of_string (P := Tryz.prog) w 9 111 5 ⟨word.toArray⟩ Tryz.underlying9 Tryz.underlying111 Tryz.underlying5
 go_enter Tryz.func58, Tryz.ntmps58
 go_wp2_with (fail)
 rw [← hW]
 clear hW
 refine wp_region_v 8 7 (SY W word) (by kernel_rfl) (by kernel_rfl) ⟨fun _ => undef, SY.start⟩ ?_
 simp only [qqT, List.take_zero, qqD, List.drop_zero]
 apply pv_free (fun _ => rfl)
 · intro σ L w1 hS h1 h2 K hK
   clear h2
   go_wp2
   exact hS.put0 h1 ((Below.refl _ _).alloc (Nat.le_refl _) _) (World.ownsRow_lit (base := W.heap.size) (size := 1) (e := 9) w1 #[] 0 hS.low.size (by unfold maxLen; omega) rfl)
 simp only [Act.put, qqS, qqC, qqZ]
 apply pv_step (fun _ => rfl)
 · intro σ L w1 hS h1 h2 K hK
   clear h2
   have c1 : w1.cell? ⟨w.heap.size + 1, 0, none⟩ = some (sv word) := (hS.low.cell (p := ⟨w.heap.size + 1, 0, none⟩) (by simp; omega)).trans hwd0
   go_wp2
   exact hS.keep1
 simp only [Act.put, qqS, qqC, qqZ]
 apply pv_free (fun _ => rfl)
 · intro σ L w1 hS h1 h2 K hK
   clear h2
   go_wp2
   exact hS.put2 h1 (((Below.refl _ _).alloc (Nat.le_refl _) _).drew) ⟨w1.heap.size, _, rfl, hS.low.size, (BRow.of_string w1 word _ 5).2⟩
 simp only [Act.put, qqS, qqC, qqZ]
 apply pv_free (fun _ => rfl)
 · intro σ L w1 hS h1 h2 K hK
   clear h2
   go_wp2
   exact hS.put3 h1 ((Below.refl _ _).alloc (Nat.le_refl _) _) ⟨_, rfl, hS.low.size, Blk.new _ _ _⟩
 simp only [Act.put, qqS, qqC, qqZ]
 apply pv_free (fun _ => rfl)
 · intro σ L w1 hS h1 h2 K hK
   clear h2
   go_wp2
   exact hS.put4 h1 ((Below.refl _ _).alloc (Nat.le_refl _) _) ⟨_, rfl, hS.low.size, Blk.new _ _ _⟩
 simp only [Act.put, qqS, qqC, qqZ]
 apply pv_step (v := undef) (fun _ => rfl)
 · intro σ L w1 hS h1 h2 K hK
   have h0 := h2 0 (List.contains_iff_mem.1 (by kernel_rfl))
   have h3 := h2 3 (List.contains_iff_mem.1 (by kernel_rfl))
   clear h2
   have ho := hS.s0 h0
   obtain ⟨g, hg, hgl, hgb⟩ := hS.s3 h3
   have hfin := hS.set5 h1 h0 h3 hg
   rw [h1] at hgb
   obtain ⟨A0, n0, hv, -, -⟩ := own_sl ho
   simp only [hg, hv] at hfin hK ⊢
   have c0 : w1.cell? ⟨g, 0, none⟩ = some (.slice none 0 0) := hgb.cell 0
   have f0 := hgb.frozen 0
   have lz := hgb.lt
   go_wp2
   exact hfin
 simp only [Act.put]
 apply pv_step (v := undef) (fun _ => rfl)
 · intro σ L w1 hS h1 h2 K hK
   have h0 := h2 2 (List.contains_iff_mem.1 (by kernel_rfl))
   have h3 := h2 4 (List.contains_iff_mem.1 (by kernel_rfl))
   clear h2
   obtain ⟨gx, cap, hv, -⟩ := hS.s2 h0
   obtain ⟨g, hg, hgl, hgb⟩ := hS.s4 h3
   have hfin := hS.set6 h1 h0 h3 hg
   rw [h1] at hgb
   simp only [hg, hv] at hfin hK ⊢
   have c0 : w1.cell? ⟨g, 0, none⟩ = some (.slice none 0 0) := hgb.cell 0
   have f0 := hgb.frozen 0
   have lz := hgb.lt
   go_wp2
   exact hfin
 simp only [Act.put]
 refine pv_nil fun σ w1 hS => ?_
 have ho := hS.s0 rfl
 obtain ⟨gx, cap, e2, hbx⟩ := hS.s2 rfl
 obtain ⟨gy, e3, ly, hby⟩ := hS.s3 rfl
 obtain ⟨gb, e4, lb, hbb⟩ := hS.s4 rfl
 obtain ⟨A0, n0, e0, -, -⟩ := own_sl ho
 have hlow := hS.low
 clear hS
 simp only [e0, e2, e3, e4] at ho hby hbb ⊢
 have hC1 := hC.below hlow (by omega)
 have hW1 := hWd.below hlow (by omega)
 have hby' : Blk w1 gy 22 #[.slice A0 0 n0] := by simpa using hby
 have hbb' : Blk w1 gb 111 #[.slice (some ⟨gx, 0, none⟩) word.length cap] := by simpa using hbb
 have hb1 := hb0.trans (hlow.mono hb0.size)
 have hz1 := hlow.size
 have hb0z : w.heap.size ≤ W.heap.size := by omega
 clear hby hbb hwd0 kb hC hWd hlow hb0
 have hmf : ∀ (fn : Fn) (first cap : Array Value) (w : World), (Instr.makeFunc fn first cap).run Tryz.prog w = .ok (.func fn first cap) w := fun _ _ _ _ => rfl
 obtain ⟨W5, hW5⟩ : ∃ W5, W5 = w1.alloc (.cells #[.func (.func 91) #[] #[.pointer (some ⟨w.heap.size + 1, 0, none⟩), .pointer (some ⟨gy, 0, none⟩), .pointer (some ⟨gb, 0, none⟩), .pointer (some ⟨w.heap.size, 0, none⟩), .pointer (some ⟨w1.heap.size, 0, none⟩)]] 131) := ⟨_, rfl⟩
 have hb5 : Below w1.heap.size w1 W5 := by rw [hW5]; exact (Below.refl _ _).alloc (Nat.le_refl _) _
 have hF5 : Blk W5 w1.heap.size 131 #[.func (.func 91) #[] #[.pointer (some ⟨w.heap.size + 1, 0, none⟩), .pointer (some ⟨gy, 0, none⟩), .pointer (some ⟨gb, 0, none⟩), .pointer (some ⟨w.heap.size, 0, none⟩), .pointer (some ⟨w1.heap.size, 0, none⟩)]] := by rw [hW5]; exact Blk.new _ _ _
 have hS5 : WSt W5 (w.heap.size + 1) gy gb w.heap.size w1.heap.size gx cap W.heap.size word word C (.slice A0 0 n0) [] := by
   have hC5 := hC1.below hb5 hC1.lt
   rw [hX'.out] at hC5
   exact ⟨hW1.below hb5 hW1.lt, hby'.below hb5 hby'.lt, own_call ho hb5, hbb'.below hb5 hbb'.lt, hbx.below hb5 hbx.lt, hC5, hF5, by omega⟩
 have hC5 : Blk W5 w.heap.size 95 X := hC1.below hb5 hC1.lt
 have hbw5 := hb1.trans (hb5.mono hb1.size)
 have hgy0 : w.heap.size ≤ gy := by omega
 have hgx0 : w.heap.size ≤ gx := by have := hbx.1; omega
 clear hC1 hW1 hby' hbb' ho hbx hb5 hF5
 have c1 : W5.cell? ⟨w.heap.size + 1, 0, none⟩ = some (sv word) := hS5.wd.cell 0
 have c7 : W5.cell? ⟨w1.heap.size, 0, none⟩ = some _ := hS5.fn.cell 0
 have c5 : W5.cell? ⟨gy, 0, none⟩ = some (.slice A0 0 n0) := hS5.ways.cell 0
 cases CM
 · have hWI : Hid (WI = []) := Lib.hid (by rw [hdef.out]; rfl)
   go_wp2_with (first
     | (rw [← hW5]; clear hW5; refine wpList_load_row rfl 95 (.tmp 2) rfl w.heap.size rfl 95 X (0, 0) _ hC5 Tryz.underlying95 rfl (by rw [hs27.out]; kernel_rfl) ?_)
     | (go_at_call 57; refine (kc _).mono ?_; rintro e w6 ⟨rfl, hb6⟩
        have hS6 := hS5.below hb6
        have d5 : w6.cell? ⟨gy, 0, none⟩ = some (.slice A0 0 n0) := hS6.ways.cell 0
        have lz := hS6.ways.lt))
   go_ret
   refine ⟨_, rfl, own_cast (own_base hS6.own (Nat.le_trans hb0z (Nat.le_refl _))) (by rw [hWI.out]) (by rw [hWI.out]), hbw5.trans (hb6.mono hbw5.size)⟩
 · have hWI : Hid (WI = WR) := Lib.hid (by rw [hdef.out]; rfl)
   go_wp2_with (first
     | (rw [← hW5]; clear hW5; refine wpList_load_row rfl 95 (.tmp 2) rfl w.heap.size rfl 95 X (0, 0) _ hC5 Tryz.underlying95 rfl (by rw [hs27.out]; kernel_rfl) ?_)
     | (go_at_call 57; refine (kc _).mono ?_; rintro e w6 ⟨rfl, hb6⟩
        have hS6 := hS5.below hb6
        have d7 : w6.cell? ⟨w1.heap.size, 0, none⟩ = some _ := hS6.fn.cell 0
        have lz := hS6.fn.lt)
     | (go_at_call 91; refine (kw _ _ _ _ _ _ _ _ _ _ hS6).mono ?_; rintro e w7 ⟨rfl, o7, buf7, -, -, hS7, hF7, hO7⟩
        obtain ⟨A7, n7, rfl, hn7, -⟩ := own_sl hS7.own
        have d5 : w7.cell? ⟨gy, 0, none⟩ = some _ := hS7.ways.cell 0
        have lz7 := hS7.ways.lt))
   go_ret
   have hb8 : Below w.heap.size W5 w7 := by
     have h := hF7
     refine ⟨h.os.trans hb6.os, h.tape.trans hb6.tape, h.output.trans hb6.output, Nat.le_trans hb6.size h.size, fun k hk => ?_⟩
     have hz5 := hbw5.size
     have hgyW := hgy0
     have hgxW := hgx0
     rw [h.block k (by have := hb6.size; omega) (by omega) (by omega) (by omega) (fun e => by have := (hS6.own.lt k e.symm).1; omega)]
     exact hb6.block k (by omega)
   exact ⟨_, rfl, own_cast (own_base hS7.own hb0z) (by rw [hWI.out]; simp) (by rw [hWI.out]; simp), hbw5.trans hb8⟩
def lettI (b : Bd) (word : Str) (r c : Int) (d : Bool) : Str := letTo b ⟨r, c, d, []⟩ word word.length
def goodI (b : Bd) (rack word : Str) (r c : Int) (d : Bool) : Bool := (standB b word r c d && validI b (putQ b word r c d)) && canMakeC (countsL rack) (lettI b word r c d)
def wayI (b : Bd) (lex : List Str) (rack word : Str) (r c : Int) (d : Bool) (ways : List Str) : List Pl := (ways.map (fillQ b (putQ b word r c d))).filter fun q => codeI b lex rack q == 0
def wordI (b : Bd) (lex : List Str) (rack : Str) (r c : Int) (d : Bool) (word : Str) : List Pl :=
 if goodI b rack word r c d then wayI b lex rack word r c d (waysI (countsL rack) (lettI b word r c d)) else []
def rowI (b : Bd) (k : Nat) : Int := ((k : Int) % (b.size * b.size)) / b.size
def colI (b : Bd) (k : Nat) : Int := ((k : Int) % (b.size * b.size)) % b.size
def downI (b : Bd) (k : Nat) : Bool := decide (b.size * b.size ≤ (k : Int))
def placeI (b : Bd) (lex : List Str) (rack : Str) (k : Nat) (ws : List Str) : List Pl := ws.flatMap (wordI b lex rack (rowI b k) (colI b k) (downI b k))
def allI (b : Bd) (lex : List Str) (rack : Str) (k : Nat) : List Pl := (List.range k).flatMap fun i => placeI b lex rack i lex
def tryI (b : Bd) (lex : List Str) (rack : Str) : List Pl := allI b lex rack (2 * b.size * b.size).toNat
theorem letTo_small (b : Bd) (q : Pl) {word : Str} (h : word.all smallB = true) (k : Nat) (hk : k ≤ word.length) : (letTo b q word k).all smallB = true := by
 rw [List.all_eq_true]
 intro c hc
 obtain ⟨i, hi, rfl⟩ := List.mem_map.1 hc
 have hlt := List.mem_range.1 (List.mem_filter.1 hi).1
 have hil : i < word.length := by omega
 rw [List.getD_eq_getElem?_getD, List.getElem?_eq_getElem hil]
 exact List.all_eq_true.1 h _ (List.getElem_mem hil)
end Go.Proofs.YtohopceknpgcnaaGreatDoor
namespace Go.Proofs.YtohopceknpgcnaaGreatDoor
theorem waysR_len : ∀ (r : Str) (C : List Int) (pre : Str), ∀ y ∈ waysR C pre r, y.length = pre.length + r.length
 | [], C, pre, y, h => by simp [waysR] at h; simp [h]
 | x :: r, C, pre, y, h => by
   rw [waysR, List.mem_append] at h
   rcases h with h | h
   · split at h
     · cases h
     · have := waysR_len r _ _ y h; simp at this ⊢; omega
   · split at h
     · cases h
     · have := waysR_len r _ _ y h; simp at this ⊢; omega
theorem waysI_len (C : List Int) (word : Str) : ∀ y ∈ waysI C word, y.length = word.length := fun y h => by
 unfold waysI at h
 split at h
 · have := waysR_len word C [] y h; simpa using this
 · cases h
theorem waysR_lett : ∀ (r : Str) (C : List Int) (pre : Str), lettB pre = true → r.all smallB = true → ∀ y ∈ waysR C pre r, lettB y = true
 | [], C, pre, hp, _, y, h => by simp [waysR] at h; rw [h]; exact hp
 | x :: r, C, pre, hp, hr, y, h => by
   rw [List.all_cons, Bool.and_eq_true] at hr
   have hu : lettB (pre ++ [upC x]) = true := by
     unfold lettB at hp ⊢
     rw [List.all_append, hp, Bool.true_and]
     have h2 := hr.1
     unfold smallB at h2
     have h3 : (upC x).toNat = x.toNat - 32 := by
       unfold upC
       simp only [Bool.and_eq_true, decide_eq_true_eq] at h2
       rw [UInt8.toNat_sub]
       have : (32 : UInt8).toNat = 32 := rfl
       omega
     simp only [Bool.and_eq_true, decide_eq_true_eq] at h2
     simp only [List.all_cons, List.all_nil, Bool.and_true, Bool.or_eq_true]
     right
     unfold capB
     simp only [Bool.and_eq_true, decide_eq_true_eq]
     omega
   have hs : lettB (pre ++ [x]) = true := by
     unfold lettB at hp ⊢
     rw [List.all_append, hp]
     simp [hr.1]
   rw [waysR, List.mem_append] at h
   rcases h with h | h
   · split at h
     · cases h
     · exact waysR_lett r _ _ hu hr.2 y h
   · split at h
     · cases h
     · exact waysR_lett r _ _ hs hr.2 y h
theorem waysI_ascii (C : List Int) {word : Str} (hw : word.all smallB = true) : ∀ y ∈ waysI C word, asciiB y = true := fun y h => by
 unfold waysI at h
 split at h
 · exact lettB_ascii (waysR_lett word C [] rfl hw y h)
 · cases h
theorem fillTo_ascii {word : Str} (hw : asciiB word = true) (N : List Nat) {L : Str} (hL : asciiB L = true) : ∀ k, asciiB (fillTo word N L k) = true
 | 0 => hw
 | k + 1 => by
   rw [fillTo_succ]
   refine List.all_eq_true.2 fun c hc => ?_
   rcases List.mem_or_eq_of_mem_set hc with h | h
   · exact List.all_eq_true.1 (fillTo_ascii hw N hL k) c h
   · subst h; simpa using asciiB_getD hL k
theorem letTo_new (b : Bd) (word : Str) (r c : Int) (d : Bool) (hs : standB b word r c d = true) : newL b (putQ b word r c d) = (List.range word.length).filter (fun i => cellQ b ⟨r, c, d, []⟩ i == 46) := by
 unfold standB at hs
 simp only [Bool.and_eq_true] at hs
 have hok := hs.2
 have hl : (putQ b word r c d).word.length = word.length := putTo_length b _ word word.length
 show (List.range _).filter _ = _
 rw [hl]
 refine List.filter_congr fun i hi => ?_
 have h1 : takeOk b ⟨r, c, d, []⟩ word i = true := List.all_eq_true.1 hok i hi
 have hz : cellQ b ⟨r, c, d, []⟩ i = b.cell ((putQ b word r c d).sr i) ((putQ b word r c d).sc i) := rfl
 unfold takeOk takeC at h1
 unfold Bd.let_
 rw [← hz]
 cases h46 : (cellQ b ⟨r, c, d, []⟩ i == 46)
 · rw [h46] at h1
   simp only [Bool.false_eq_true, if_false, Bool.and_eq_true, Bool.not_eq_true'] at h1
   rw [h1.1]; rfl
 · simp
theorem letTo_newl (b : Bd) (word : Str) (r c : Int) (d : Bool) (hs : standB b word r c d = true) : (newL b (putQ b word r c d)).length = (lettI b word r c d).length := by
 rw [letTo_new b word r c d hs, lettI, letTo, List.length_map]
theorem mrg_perm : ∀ a b : List Pl, (mrg a b).Perm (a ++ b)
 | a, [] => by simp [mrg]
 | [], b :: r => by simp [mrg]
 | x :: a, y :: b => by
   rw [mrg]
   split
   · exact (mrg_perm a (y :: b)).cons x
   · exact ((mrg_perm (x :: a) b).cons y).trans List.perm_middle.symm
termination_by a b => a.length + b.length
theorem sortN_perm : ∀ (n : Nat) (l : List Pl), (sortN n l).Perm l
 | 0, _ => List.Perm.refl _
 | n + 1, l => by
   rw [sortN]
   split
   · exact List.Perm.refl _
   · refine (mrg_perm _ _).trans ?_
     refine ((sortN_perm n _).append (sortN_perm n _)).trans ?_
     rw [List.take_append_drop]
theorem playsL_perm (b : Bd) (ws : List Str) (rack : Str) : (playsL b ws rack).Perm (foundL b ws rack) := sortN_perm _ _
def AllLegal (b : Bd) (ws : List Str) (rack : Str) (ps : List Pl) : Prop := ∀ p ∈ ps, legalC b ws rack p = 0
section
variable {b : Bd} {ws : List Str} {rack : Str} {ps : List Pl}
theorem tryL_legal (f : Bd) (word : Str) (row col : Int) (down : Bool) : AllLegal b ws rack (tryL b ws rack f word row col down) := by
 intro p hp
 unfold tryL at hp
 split at hp
 · cases hp
 · split at hp
   · cases hp
   · split at hp
     · simpa using (List.mem_filter.1 hp).2
     · cases hp
theorem tryF_legal (f : Bd) (word : Str) (row col : Int) (down : Bool) (h : AllLegal b ws rack ps) : AllLegal b ws rack (tryF b ws rack f word row col down ps) := by
 intro p hp
 unfold tryF at hp
 split at hp
 · exact h p hp
 · rcases List.mem_append.1 hp with hp | hp
   · exact h p hp
   · exact tryL_legal f word row col down p hp
theorem colF_legal (word : Str) (row : Nat) : ∀ (k : Nat) (ps : List Pl), AllLegal b ws rack ps → AllLegal b ws rack (colF b ws rack word row k ps)
 | 0, _, h => h
 | k + 1, ps, h => tryF_legal _ _ _ _ _ (tryF_legal _ _ _ _ _ (colF_legal word row k ps h))
theorem rowF_legal (word : Str) (n : Nat) : ∀ (k : Nat) (ps : List Pl), AllLegal b ws rack ps → AllLegal b ws rack (rowF b ws rack word n k ps)
 | 0, _, h => h
 | k + 1, ps, h => colF_legal word k n _ (rowF_legal word n k ps h)
theorem wordF_legal (n : Nat) : ∀ (k : Nat) (ps : List Pl), AllLegal b ws rack ps → AllLegal b ws rack (wordF b ws rack n k ps)
 | 0, _, h => h
 | k + 1, ps, h => rowF_legal _ n n _ (wordF_legal n k ps h)
theorem foundL_legal : AllLegal b ws rack (foundL b ws rack) := wordF_legal _ _ [] (fun p hp => by cases hp)
theorem playsL_legal : AllLegal b ws rack (playsL b ws rack) := fun p hp => foundL_legal p ((playsL_perm b ws rack).mem_iff.1 hp)
end
end Go.Proofs.YtohopceknpgcnaaGreatDoor
