/-
  strings.Builder as the plain walker sees it: written, read; all tiles of a set; Counts of tiles, piles, values of letters of the impl package.
  Conditions: as each part below says.
-/
import Derived.Test.YtdojdfminchlaaaGreatDoorC21
import Derived.Test.YtdojdfminchlaaaGreatDoorC20
set_option linter.unusedSimpArgs false
set_option linter.unusedVariables false
/-
  strings.Builder as the plain walker sees it: written, read; all tiles of a set.
  Conditions: none.
-/
namespace Go.Proofs.YtdojdfminchlaaaGreatDoor
open Go.RowKit
set_option maxHeartbeats 2000000
set_option maxRecDepth 100000
/-- The bytes so far; in the row they are frozen. -/
theorem string_row (g gv cap : Nat) (p : Value) (l : List UInt8) (cur : Array Value) (w : World) (hb : Blk w g 194 #[p, .slice (some ⟨gv, 0, none⟩) l.length cap]) (hBc : Blk w gv 5 cur) (hl : l ≠ []) (hc : l.length ≤ cap) (hcm : cap ≤ maxLen) (hcs : cur.size = cap)
    (hat : ∀ j x, l[j]? = some x → w.cell? ⟨gv, j, none⟩ = some (.int .u8 x.toNat)) :
    Calls Tryz.prog 170 #[.pointer (some ⟨g, 0, none⟩)] w fun e w' => e = .returned (.string ⟨l.toArray⟩) ∧ w' = w.drew.freeze ⟨gv, 0, none⟩ l.length := by
  have c1 : w.drew.cell? ⟨g, 1, none⟩ = some (.slice (some ⟨gv, 0, none⟩) l.length cap) := hb.drew.cell 1
  have k2 : (Builtin.unsafeSliceData_ #[126] 223 #[.slice (some ⟨gv, 0, none⟩) l.length cap]).run Tryz.prog w.drew = .ok (.pointer (some ⟨gv, 0, none⟩)) w.drew := Lib.run_unsafeSliceData_row _ _ _ _ _ _ (by have := List.length_pos_iff.2 hl; omega)
  have k3 : (Builtin.unsafeString_ #[223, 3] 9 #[.pointer (some ⟨gv, 0, none⟩), .int .i64 l.length]).run Tryz.prog w.drew = .ok (.string ⟨l.toArray⟩) (w.drew.freeze ⟨gv, 0, none⟩ l.length) := by
    refine Lib.run_unsafeString_row w.drew 223 3 9 5 Tryz.underlying223 (by kernel_rfl) gv cur.size hBc.drew.shape l hl (by omega) (by unfold maxLen at hcm; omega) ?_
    intro j x hx
    have hadd : (⟨gv, 0, none⟩ : Addr).add j = ⟨gv, j, none⟩ := by unfold Addr.add; split <;> simp_all
    rw [hadd]
    exact hat j x hx
  have hl' := Lib.hid hl
  clear hc hcm hcs hl hat
  go_enter Tryz.func170, Tryz.ntmps170
  go_wp2_with (fail)
  go_region
  all_goals (go_wp2; go_ret; exact ⟨rfl, rfl⟩)
namespace Ax
/-! What a builder is: its own pointer, its row. -/
def blF : AH := [(0, .cells [.nilp, .esl] 194)]
def blH : AH := [(0, .cells [.ptr 0 0, .esl] 194)]
def blU (L : List Int) : AH := [(0, .cells [.ptr 0 0, .osl 1] 194), (1, .own [.i .u8] L 5)]
def rdF {β : Type} (B : Args β) : AH → List PV → Option (Unit × β)
  | [(0, .cells [.nilp, .esl] t)], .ptr 0 0 :: r => if Nat.beq t 194 then both' (some ()) (B.rd r) else none
  | _, _ => none
def mBF {β : Type} (B : Args β) : MArgs (Unit × β) := ⟨rdF B, fun _ => blF, fun a => .ptr 0 0 :: B.enc a.2, fun H l a h => by
  unfold rdF at h
  split at h
  · split at h
    · rename_i ht
      obtain ⟨-, h2⟩ := both'_ok h
      exact ⟨by rw [Nat.eq_of_beq_eq_true ht]; rfl, by rw [B.ok _ _ h2]⟩
    · cases h
  · cases h⟩
def rdU {β : Type} (B : Args β) : AH → List PV → Option (List Int × β)
  | [(0, .cells [.ptr 0 0, .osl 1] t), (1, .own [.i .u8] L u)], .ptr 0 0 :: r => if Nat.beq t 194 && Nat.beq u 5 then both' (some L) (B.rd r) else none
  | _, _ => none
def mBU {β : Type} (B : Args β) : MArgs (List Int × β) := ⟨rdU B, fun a => blU a.1, fun a => .ptr 0 0 :: B.enc a.2, fun H l a h => by
  unfold rdU at h
  split at h
  · split at h
    · rename_i ht
      rw [Bool.and_eq_true] at ht
      obtain ⟨h1, h2⟩ := both'_ok h
      cases h1
      exact ⟨by rw [Nat.eq_of_beq_eq_true ht.1, Nat.eq_of_beq_eq_true ht.2]; rfl, by rw [B.ok _ _ h2]⟩
    · cases h
  · cases h⟩
theorem AH_one {k : Nat} {o : Ob} {j : Nat} {o' : Ob} (h : AH.get [(k, o)] j = some o') : j = k ∧ o' = o := by
  unfold AH.get at h
  split at h
  · rename_i hk; exact ⟨(by simpa using hk : k = j).symm, by cases h; rfl⟩
  · cases h
theorem cells_at {w : World} {e : Env} {id : Nat} {l : List PV} {ty : TypeId} (h : OR w e id (.cells l ty)) : ∃ b vs, e.adr id = some ⟨b, 0, none⟩ ∧ ¬ e.fz b ∧ w.heap[b]? = some (.cells vs ty (0, 0)) ∧ Rs w e l vs.toList := by
  unfold OR at h; exact h
def sp_copyF (p : Pr) : MSpec := msp (mBF a0) (fun _ => True) (fun _ => .tup []) fun _ => blH
def sp_copyU (p : Pr) : MSpec := msp (mBU a0) (fun _ => True) (fun _ => .tup []) fun _ => []
theorem ok_copyF : MOk Tryz.prog 210 (sp_copyF std) := by
  refine ⟨⟨_, Tryz.func210, rfl, rfl⟩, fun H args out hs hp w e vals hz hob hon hlv hbd hdis hl => ?_⟩
  unfold sp_copyF msp at hs
  split at hs
  · rename_i a ha
    cases hs
    obtain ⟨rfl, rfl⟩ := (mBF a0).ok _ _ _ ha
    obtain ⟨hO, hn0⟩ := hob 0 _ (show AH.get blF 0 = some _ from rfl)
    obtain ⟨b, vs, h1, h2, h3, h4⟩ := cells_at hO
    obtain ⟨x, y, h5, h6, h7⟩ := Rs2 h4
    have h6 : x = .pointer none := by unfold R at h6; exact h6
    have h7 : y = .slice none 0 0 := by unfold R at h7; exact h7
    subst h6 h7
    obtain ⟨u, hv, h8⟩ := Rs1 hl
    rw [arr_of hv]
    unfold R at h8
    obtain ⟨-, b', h9, rfl⟩ := h8
    rw [h1] at h9
    cases h9
    have hB : Blk w b 194 #[.pointer none, .slice none 0 0] := by unfold Blk; rw [h3, arr_of h5]
    refine (copy_fresh b w _ hB).mono ?_
    rintro en w' ⟨rfl, rfl⟩
    have hB' := hB.set_ 0 (.pointer (some ⟨b, 0, none⟩))
    refine ⟨_, e, rfl, by unfold R; exact ⟨#[], rfl, by unfold Rs; rfl⟩, .refl e, .of fun _ h => h, ?_, fun k hk => .inl hk, fun k hk => .inl hk, fun k hk => .inl hk, fun k _ _ h1 h2 => absurd h1 h2, ⟨rfl, rfl, rfl, by rw [World.size_setCell]; exact Nat.le_refl _, fun j _ hM => heap_setCell_other w _ j _ fun hj => hM ⟨0, (hlv 0).2 (Nat.zero_lt_succ _), rfl, _, h1, hj.symm⟩⟩⟩
    intro k o hk
    obtain ⟨rfl, rfl⟩ := AH_one hk
    refine ⟨?_, hn0, fun _ => (hlv 0).2 (Nat.zero_lt_succ _)⟩
    unfold OR
    refine ⟨b, _, h1, h2, hB', ?_⟩
    simp [Rs, R, h1, hn0]
  · cases hs
theorem ok_copyU : MOk Tryz.prog 210 (sp_copyU std) := by
  refine ⟨⟨_, Tryz.func210, rfl, rfl⟩, fun H args out hs hp w e vals hz hob hon hlv hbd hdis hl => ?_⟩
  unfold sp_copyU msp at hs
  split at hs
  · rename_i a ha
    cases hs
    obtain ⟨rfl, rfl⟩ := (mBU a0).ok _ _ _ ha
    obtain ⟨hO, hn0⟩ := hob 0 _ (show AH.get (blU a.1) 0 = some _ from rfl)
    obtain ⟨b, vs, h1, h2, h3, h4⟩ := cells_at hO
    obtain ⟨x, y, h5, h6, h7⟩ := Rs2 h4
    have h6 : x = .pointer (some ⟨b, 0, none⟩) := by
      unfold R at h6
      obtain ⟨-, b', q1, q2⟩ := h6
      rw [h1] at q1; cases q1; exact q2
    subst h6
    obtain ⟨u, hv, h8⟩ := Rs1 hl
    rw [arr_of hv]
    unfold R at h8
    obtain ⟨-, b', h9, rfl⟩ := h8
    rw [h1] at h9
    cases h9
    have hB : Blk w b 194 #[.pointer (some ⟨b, 0, none⟩), y] := by unfold Blk; rw [h3, arr_of h5]
    refine (copy_used b w (hB.cell 0)).mono ?_
    rintro en w' ⟨rfl, rfl⟩
    exact ⟨_, e, rfl, by unfold R; exact ⟨#[], rfl, by unfold Rs; rfl⟩, .refl e, .of fun _ h => h, fun k o hk => by simp [AH.get] at hk, fun k hk => .inl hk, fun k hk => .inl hk, fun k hk => .inl hk, fun k _ _ h1 h2 => absurd h1 h2, .refl _ _⟩
  · cases hs
def sp_copy (p : Pr) : MSpec := MSpec.or (msp (mBF a0) (fun _ => True) (fun _ => .tup []) fun _ => blH) (msp (mBU a0) (fun _ => True) (fun _ => .tup []) fun _ => [])
theorem ok_copy : MOk Tryz.prog 210 (sp_copy std) := MOk.or ok_copyF ok_copyU
/-- The string of a builder that was written. -/
def sp_strU (p : Pr) : MSpec := msp (mBU a0) (fun (L, _) => ∀ x ∈ L, 0 ≤ x ∧ x ≤ 255) (fun (L, _) => .s (p.toS L)) fun _ => [(1, .gone)]
theorem toB_toS {L : List Int} (h : ∀ x ∈ L, 0 ≤ x ∧ x ≤ 255) : toBl (toSl L) = L := by
  unfold toBl toSl
  rw [List.map_map]
  conv => rhs; rw [← List.map_id L]
  refine List.map_congr_left fun x hx => ?_
  have := h x hx
  show ((UInt8.ofNat x.toNat).toNat : Int) = x
  rw [UInt8.toNat_ofNat']
  omega
theorem freeze_other (w : World) (p : Addr) (n k : Nat) (h : k ≠ p.block) : (w.freeze p n).heap[k]? = w.heap[k]? := by
  unfold World.freeze
  split
  · rfl
  · simp only [Array.getElem?_modify]
    rw [if_neg (by omega)]
theorem ok_strU : MOk Tryz.prog 170 (sp_strU std) := by
  refine ⟨⟨_, Tryz.func170, rfl, rfl⟩, fun H args out hs hp w e vals hz hob hon hlv hbd hdis hl => ?_⟩
  unfold sp_strU msp at hs
  split at hs
  · rename_i a ha
    cases hs
    obtain ⟨rfl, rfl⟩ := (mBU a0).ok _ _ _ ha
    obtain ⟨L, u0⟩ := a
    have hL : ∀ x ∈ L, 0 ≤ x ∧ x ≤ 255 := hp _ (by simp)
    obtain ⟨hO, hn0⟩ := hob 0 _ (show AH.get (blU L) 0 = some _ from rfl)
    obtain ⟨hO1, hn1⟩ := hob 1 _ (show AH.get (blU L) 1 = some (.own [.i .u8] L 5) from rfl)
    obtain ⟨b, vs, h1, h2, h3, h4⟩ := cells_at hO
    obtain ⟨x, y, h5, h6, h7⟩ := Rs2 h4
    have h7 : y = .slice (e.adr 1) (e.len 1) (e.cap 1) := by unfold R at h7; exact h7.2
    subst h7
    obtain ⟨u, hv, h8⟩ := Rs1 hl
    rw [arr_of hv]
    unfold R at h8
    obtain ⟨-, b', h9, rfl⟩ := h8
    rw [h1] at h9
    cases h9
    have hB : Blk w b 194 #[x, .slice (e.adr 1) (e.len 1) (e.cap 1)] := by unfold Blk; rw [h3, arr_of h5]
    have hfin : ∀ w', w'.os = w.os → w'.tape = w.tape → w'.output = w.output → w.heap.size ≤ w'.heap.size → (∀ j, j < w.heap.size → (∀ ad, e.adr 1 = some ad → ad.block ≠ j) → w'.heap[j]? = w.heap[j]?) →
        ∃ v e', Ending.returned (.string ⟨(toSl L).toArray⟩) = .returned v ∧ Post w w' e e' (blU L).length ⟨[∀ x ∈ L, 0 ≤ x ∧ x ≤ 255], .s (std.toS L), [(1, .gone)]⟩ v := fun w' q1 q2 q3 q4 q5 => by
      refine ⟨_, { e with lv := fun k => e.lv k ∧ k ≠ 1 }, rfl, by unfold R; rfl, ⟨fun k h => h, fun _ _ => rfl, fun _ _ => rfl, fun _ _ => rfl, fun _ h => h⟩, .of fun _ h => h, ?_, fun k hk => .inl hk, fun k hk => .inl hk.1, fun k hk => ?_, fun k _ _ h1 h2 => absurd h1.1 h2, ⟨q1, q2, q3, q4, fun j hj hM => q5 j hj fun ad h h' => hM ⟨1, (hlv 1).2 (Nat.lt_succ_self 1), rfl, ad, h, h'⟩⟩⟩
      · intro k o hk
        obtain ⟨rfl, rfl⟩ := AH_one hk
        exact ⟨trivial, hn1, fun h => by cases h⟩
      · by_cases h : k = 1
        · subst h; exact .inr rfl
        · exact .inl ⟨hk, h⟩
    unfold OR at hO1
    obtain ⟨g1, g2⟩ := hO1
    rcases g2 with ⟨g3, rfl, g4⟩ | ⟨gv, cur, g3, g4, g5, g6, ⟨g7, g8⟩, g9⟩
    · rw [g3, g1, g4] at hB
      refine (Any.Builder_String_nil Tryz.lays169 Tryz.Builder_Extra_169 w.heap.size b x w hB).mono ?_
      rintro en w' ⟨rfl, hb⟩
      exact hfin w' hb.os hb.tape hb.output hb.size fun j hj _ => hb.block j hj
    · rw [g3, g1] at hB
      by_cases h0 : L = []
      · subst h0
        by_cases hc0 : e.cap 1 = 0
        · rw [hc0] at hB
          refine (Any.Builder_String_noroom Tryz.lays169 Tryz.Builder_Extra_169 w.heap.size b gv x cur w (Nat.le_refl _) hB g5).mono ?_
          rintro en w' ⟨rfl, hb⟩
          exact hfin w' hb.os hb.tape hb.output hb.size fun j hj _ => hb.block j hj
        · refine (Any.Builder_String_room Tryz.lays169 Tryz.Builder_Extra_169 w.heap.size b gv (e.cap 1) x w hc0 hB).mono ?_
          rintro en w' ⟨rfl, hb⟩
          exact hfin w' hb.os hb.tape hb.output hb.size fun j hj _ => hb.block j hj
      · have hll : (toSl L).length = L.length := by simp [toSl]
        refine (string_row b gv (e.cap 1) x (toSl L) cur w (by rw [hll]; exact hB) g5 (fun h => h0 (List.eq_nil_of_length_eq_zero (by rw [← hll, h]; rfl))) (by rw [hll]; exact g7) g8 (by simpa using g6) fun j z hz => ?_).mono ?_
        · have hz' : L[j]? = some (z.toNat : Int) := by
            have := congrArg (fun l => l[j]?) (toB_toS hL)
            have := (show (toBl (toSl L))[j]? = L[j]? from this)
            rw [← this]
            unfold toBl
            rw [List.getElem?_map, hz]; rfl
          have := g9 j _ hz'
          unfold RE REs RE2 at this
          obtain ⟨q, q1, q2⟩ := this
          unfold RA at q2
          rw [q2] at q1
          simpa using q1
        · rintro en w' ⟨rfl, rfl⟩
          have hsz : (w.drew.freeze ⟨gv, 0, none⟩ (toSl L).length).heap.size = w.heap.size := by
            unfold World.freeze; split
            · rfl
            · show (Array.modify _ _ _).size = _; rw [Array.size_modify]; rfl
          refine hfin _ ?_ ?_ ?_ (by rw [hsz]; exact Nat.le_refl _) fun j hj h => freeze_other w.drew _ _ j fun h' => h _ g3 h'.symm
          all_goals (unfold World.freeze; split <;> rfl)
  · cases hs
def sp_wStrF (p : Pr) : MSpec := msp (mBF (a1 aS)) (fun (_u, s) => p.ltM (p.lenS s)) (fun (_u, s) => .tup [.i .i64 (p.lenS s), .raw .nilIface]) (fun (_u, s) => [(0, .cells [.ptr 0 0, .osl 1] 194), (1, .own [.i .u8] (p.toB s) 5)])
theorem ok_wStrF : MOk Tryz.prog 217 (sp_wStrF std) := by
  refine MOk.go (c := cx std [] [(210, sp_copy std)] 1) (cx_ok .nil (.cons ok_copy .nil)) mixed Tryz.func217 rfl rfl (by kernel_rfl) ?_
  rintro ⟨_u, s⟩ hp
  dsimp only at hp
  refine ⟨rfl, ?_⟩
  unfold sp_copy
  generalize hP : std = p
  cbv
  repeat' first
    | (refine fun (_ : Unit) => ?_; cbv)
    | (refine And.intro (fun h => ?_) (fun h => ?_) <;> cbv)
    | (refine And.intro ?_ ?_)
    | (refine Or.inl (fun (_ : Unit) => ?_); cbv)
  all_goals subst hP
  all_goals try first
    | exact True.intro
    | with_reducible assumption
    | with_reducible exact byte_in
    | with_reducible exact hp.1
    | with_reducible exact hp.2
    | with_reducible exact hp.2.1
    | with_reducible exact hp.2.2
    | (simp [std] at * <;> lia)
    | rfl
def sp_wStrU (p : Pr) : MSpec := msp (mBU (a1 aS)) (fun (L, s) => p.ltM (p.add (p.len L) (p.lenS s))) (fun (L, s) => .tup [.i .i64 (p.lenS s), .raw .nilIface]) (fun (L, s) => [(0, .cells [.ptr 0 0, .osl 2] 194), (1, .gone), (2, .own [.i .u8] (p.snoc L (p.toB s)) 5)])
theorem ok_wStrU : MOk Tryz.prog 217 (sp_wStrU std) := by
  refine MOk.go (c := cx std [] [(210, sp_copy std)] 2) (cx_ok .nil (.cons ok_copy .nil)) mixed Tryz.func217 rfl rfl (by kernel_rfl) ?_
  rintro ⟨L, s⟩ hp
  dsimp only at hp
  refine ⟨rfl, ?_⟩
  unfold sp_copy
  generalize hP : std = p
  cbv
  repeat' first
    | (refine fun (_ : Unit) => ?_; cbv)
    | (refine And.intro (fun h => ?_) (fun h => ?_) <;> cbv)
    | (refine And.intro ?_ ?_)
    | (refine Or.inl (fun (_ : Unit) => ?_); cbv)
  all_goals subst hP
  all_goals try first
    | exact True.intro
    | with_reducible assumption
    | with_reducible exact byte_in
    | with_reducible exact hp.1
    | with_reducible exact hp.2
    | with_reducible exact hp.2.1
    | with_reducible exact hp.2.2
    | (simp [std] at * <;> lia)
    | rfl
def sp_wStr (p : Pr) : MSpec := MSpec.or (msp (mBF (a1 aS)) (fun (_, s) => p.ltM (p.lenS s)) (fun (_, s) => .tup [.i .i64 (p.lenS s), .raw .nilIface]) (fun (_, s) => [(0, .cells [.ptr 0 0, .osl 1] 194), (1, .own [.i .u8] (p.toB s) 5)]))
  (msp (mBU (a1 aS)) (fun (L, s) => p.ltM (p.add (p.len L) (p.lenS s))) (fun (_, s) => .tup [.i .i64 (p.lenS s), .raw .nilIface]) (fun (L, s) => [(0, .cells [.ptr 0 0, .osl 2] 194), (1, .gone), (2, .own [.i .u8] (p.snoc L (p.toB s)) 5)]))
theorem ok_wStr : MOk Tryz.prog 217 (sp_wStr std) := MOk.or ok_wStrF ok_wStrU
end Ax
end Go.Proofs.YtdojdfminchlaaaGreatDoor
/-
  Counts of tiles, piles, values of letters of the impl package.
  Conditions: none.
-/
namespace Go.Proofs.YtdojdfminchlaaaGreatDoor
namespace Ax
open Go.RowKit
set_option maxRecDepth 100000
set_option maxHeartbeats 2000000
/-- Counts, by value. -/
def aCt : Arg (List Int) := ⟨fun | .arr (.i .i64) n L => if Nat.beq n 27 then some L else none | _ => none, fun L => .arr (.i .i64) 27 L, fun x a h => by
  split at h
  · split at h
    · rename_i hn
      cases h
      rw [Nat.eq_of_beq_eq_true hn]
    · cases h
  · cases h⟩
structure CtP (c : List Int) (m : Int) : Prop where
  len : c.length = 27
  lo : ∀ j, 0 ≤ c.getD j 0
  hi : ∀ j, c.getD j 0 ≤ m
theorem pileTo_bd {c : List Int} {m : Nat} (h : ∀ j, c.getD j 0 ≤ m) : ∀ k, (pileTo c k).length ≤ k * m
  | 0 => by simp [pileTo]
  | k + 1 => by
    rw [pileTo_succ, List.length_append, List.length_replicate, Nat.succ_mul]
    have h1 := pileTo_bd h k
    have h2 := h k
    omega
def sp_pile (p : Pr) : FSpec := fsp (a1 aCt) (fun c => CtP c 1000000000) (fun c => .s (pileL c))
theorem ok_pile : FOk Tryz.prog 106 (sp_pile std) := by
  refine FOk.of_calls Tryz.func106 rfl rfl fun c hp w e vals hz hl => ?_
  obtain ⟨u, hv, h1⟩ := Rs1 hl
  rw [arr_of hv]
  have h1 : u = .agg (cntA c) := by unfold R at h1; exact h1.2.2
  subst h1
  have hp : CtP c 1000000000 := hp
  refine (pile_any c w hp.len hp.lo ?_).mono ?_
  · have h2 := pileTo_bd (m := 1000000000) hp.hi 27
    unfold pileL; omega
  · rintro en w' ⟨rfl, hb⟩
    exact ⟨_, rfl, fun w e => by unfold R; rfl, hb⟩
theorem plc_K {c : UInt8} (h : tileB c = true) : plcI (c.toNat : Int) = (tileK c : Int) ∧ tileK c < 27 := by
  have h1 := tileK_lt' h
  refine ⟨?_, h1⟩
  rcases (tileB_iff c).1 h with rfl | ⟨h2, h3⟩
  · rfl
  · rw [tileK_small h2]
    unfold plcI inR
    rw [if_neg (by omega), decide_eq_true (by omega), decide_eq_true (by omega), if_pos (by rfl)]
    omega
theorem cl_suc {s : List UInt8} {k : Int} (h0 : 0 ≤ k) (h : k < s.length) : countsL (s.take (k + 1).toNat) = incAt (countsL (s.take k.toNat)) (tileK (s.getD k.toNat 0)) := by
  rw [tk h0 h 0]
  simp [countsL]
theorem incAt_len (c : List Int) (k : Nat) : (incAt c k).length = c.length := by simp [incAt]
theorem incAt_get (c : List Int) (k j : Nat) : (incAt c k).getD j 0 ≤ c.getD j 0 + 1 ∧ c.getD j 0 ≤ (incAt c k).getD j 0 := by
  unfold incAt
  rw [List.getD_eq_getElem?_getD, List.getElem?_set]
  split
  · rename_i hk
    subst hk
    split
    · rw [Option.getD_some]; omega
    · rename_i hl; simp [List.getD_eq_getElem?_getD, List.getElem?_eq_none (Nat.le_of_not_lt hl)]
  · rw [← List.getD_eq_getElem?_getD]; omega
theorem fold_ct (s : List UInt8) : ∀ (c : List Int) (m : Int), CtP c m → CtP (s.foldl (fun c x => incAt c (tileK x)) c) (m + s.length) := by
  induction s with
  | nil => intro c m h; simpa using h
  | cons x r ih =>
    intro c m h
    have := ih (incAt c (tileK x)) (m + 1) ⟨by rw [incAt_len, h.len], fun j => by have := incAt_get c (tileK x) j; have := h.lo j; omega, fun j => by have := incAt_get c (tileK x) j; have := h.hi j; omega⟩
    rw [List.foldl_cons, List.length_cons]
    exact ⟨this.len, this.lo, fun j => by have := this.hi j; omega⟩
theorem zero_ct : CtP zeroC 0 := by
  have h : ∀ j, zeroC.getD j 0 = 0 := fun j => by
    unfold zeroC
    rw [List.getD_eq_getElem?_getD, List.getElem?_replicate]
    split <;> rfl
  exact ⟨rfl, fun j => by rw [h]; omega, fun j => by rw [h]; omega⟩
theorem counts_ct (s : List UInt8) : CtP (countsL s) s.length := by
  have := fold_ct s zeroC 0 zero_ct
  rw [Int.zero_add] at this
  exact this
theorem CtP.mono {c : List Int} {m n : Int} (h : CtP c m) (hmn : m ≤ n) : CtP c n := ⟨h.len, h.lo, fun j => Int.le_trans (h.hi j) hmn⟩
theorem tile_at {s : List UInt8} {k : Int} (h : s.all tileB = true) (h0 : 0 ≤ k) (h1 : k < s.length) : tileB (s.getD k.toNat 0) = true := by
  rw [List.getD_eq_getElem?_getD, List.getElem?_eq_getElem (by omega)]
  exact List.all_eq_true.1 h _ (List.getElem_mem (by omega))
structure StP (s : List UInt8) : Prop where
  ti : s.all tileB = true
  len : s.length ≤ 1000000
def sp_i_countsOf (p : Pr) : FSpec := fsp (a1 aS) (fun s => StP s) (fun s => .arr (.i .i64) 27 (countsL s))
theorem ok_i_countsOf : FOk Tryz.prog 104 (sp_i_countsOf std) := by
  refine FOk.go (c := cx std [(167, sp_i_place std)] [] 0) (cx_ok (.cons ok_i_place .nil) .nil) mixed Tryz.func104 rfl rfl rfl (by kernel_rfl) ?_
  rintro s hp
  refine ⟨rfl, ?_⟩
  unfold sp_i_place
  obtain ⟨H, hH⟩ : ∃ H : Hd (Int × List Int), H = ⟨fun (k, L) => 0 ≤ k ∧ k ≤ s.length ∧ L = countsL (s.take k.toNat), fun (k, L) => (s.length - k).toNat, (· < ·)⟩ := ⟨_, rfl⟩
  have hl : ∀ m n, H.lt m n → m < n := by subst hH; exact fun _ _ h => h
  generalize hP : std = p
  generalize hB0 : countsL = B0
  generalize hB1 : plcI = B1
  cbv
  repeat' first
    | (refine fun (_ : Unit) => ?_; cbv)
    | (refine Or.inr ⟨5, [], [.s 4 (.i .i64), .o 1 [.i .i64]], [], [], H, rfl, hl, ?_, fun ((k, L) : Int × List Int) hk => ?_⟩ <;> cbv)
    | (refine And.intro (fun h => ?_) (fun h => ?_) <;> cbv)
    | (refine And.intro ?_ ?_)
  all_goals subst hP hB0 hB1 hH
  all_goals clear hl
  all_goals try dsimp only at hk
  all_goals try dsimp only
  all_goals try first
    | exact True.intro
    | with_reducible assumption
    | with_reducible exact byte_in
    | with_reducible exact hp.1
    | with_reducible exact hp.2
    | with_reducible exact hp.2.1
    | with_reducible exact hp.2.2
    | (simp [std] at * <;> lia)
    | rfl
  · exact ⟨Int.le_refl 0, Int.natCast_nonneg _, rfl⟩
  all_goals obtain ⟨q0, q1, rfl⟩ := hk
  all_goals have q1 : k ≤ (s.length : Int) := q1
  all_goals have hl := hp.len
  all_goals have hC := counts_ct (s.take k.toNat)
  all_goals have hC2 : ((s.take k.toNat).length : Int) ≤ s.length := by rw [List.length_take]; omega
  all_goals try (have hlt : k < (s.length : Int) := lt_of (by assumption))
  all_goals try (have hT := tile_at hp.ti q0 hlt; obtain ⟨hK, hK2⟩ := plc_K hT; have hK : plcI (std.byte s k) = (tileK (s.getD k.toNat 0) : Int) := hK)
  · show 0 ≤ plcI (std.byte s k) ∧ plcI (std.byte s k) < 27
    omega
  · show 0 ≤ plcI (std.byte s k) ∧ plcI (std.byte s k) < 27
    omega
  · have h1 := hC.lo (plcI (std.byte s k)).toNat
    have h2 := hC.hi (plcI (std.byte s k)).toNat
    exact in64 (by show _ ≤ (countsL (s.take k.toNat)).getD (plcI (std.byte s k)).toNat 0 + 1 ∧ (countsL (s.take k.toNat)).getD (plcI (std.byte s k)).toNat 0 + 1 ≤ _; omega)
  · show 0 ≤ plcI (std.byte s k) ∧ plcI (std.byte s k) < 27
    omega
  · show 0 ≤ plcI (std.byte s k) ∧ plcI (std.byte s k) < 27
    omega
  · exact in64 (by show _ ≤ k + 1 ∧ k + 1 ≤ _; omega)
  · refine ⟨by show 0 ≤ k + 1; omega, by show k + 1 ≤ (s.length : Int); omega, ?_⟩
    show (countsL (s.take k.toNat)).set (plcI (std.byte s k)).toNat ((countsL (s.take k.toNat)).getD (plcI (std.byte s k)).toNat 0 + 1) = _
    rw [hK, Int.toNat_natCast]
    exact (cl_suc q0 hlt).symm
  · rw [tk_all (ge_of (by assumption))]
section
variable {c d : List Int}
theorem sub_get {k j : Nat} (hj : j < 27) : (subTo c d k).getD j 0 = if j < k then c.getD j 0 - d.getD j 0 else c.getD j 0 := by
  unfold subTo
  rw [List.getD_eq_getElem?_getD, List.getElem?_map, List.getElem?_range hj]
  rfl
theorem sub_len (k : Nat) : (subTo c d k).length = 27 := by simp [subTo]
theorem sub_zero (h : c.length = 27) : subTo c d 0 = c := by
  refine List.ext_getElem (by rw [sub_len, h]) fun j h1 h2 => ?_
  have := sub_get (c := c) (d := d) (k := 0) (j := j) (by omega)
  rw [if_neg (by omega), List.getD_eq_getElem?_getD, List.getElem?_eq_getElem h1, List.getD_eq_getElem?_getD, List.getElem?_eq_getElem h2] at this
  simpa using this
theorem sub_suc {k : Nat} (hk : k < 27) : (subTo c d k).set k (c.getD k 0 - d.getD k 0) = subTo c d (k + 1) := by
  refine List.ext_getElem (by simp [sub_len]) fun j h1 h2 => ?_
  rw [sub_len] at h2
  have e1 := sub_get (c := c) (d := d) (k := k) (j := j) h2
  have e2 := sub_get (c := c) (d := d) (k := k + 1) (j := j) h2
  rw [List.getD_eq_getElem?_getD, List.getElem?_eq_getElem (by rw [sub_len]; exact h2), Option.getD_some] at e1 e2
  rw [e2, List.getElem_set]
  split
  · rename_i hh; subst hh; rw [if_pos (by omega)]
  · rename_i hh
    rw [e1]
    by_cases h3 : j < k
    · rw [if_pos h3, if_pos (by omega)]
    · rw [if_neg h3, if_neg (by omega)]
theorem less_at {k : Nat} (hk : k < 27) : std.get 0 (std.set (subTo c d k) k (std.sub (std.get 0 (subTo c d k) k) (std.get 0 d k))) k = c.getD k 0 - d.getD k 0 := by
  show ((subTo c d k).set k ((subTo c d k).getD k 0 - d.getD k 0)).getD k 0 = _
  have := sub_get (c := c) (d := d) (k := k) (j := k) hk
  rw [if_neg (by omega)] at this
  rw [this, List.getD_eq_getElem?_getD, List.getElem?_set, if_pos rfl, if_pos (by rw [sub_len]; exact hk)]
  rfl
end
theorem less_lt {c d : List Int} {k : Int} (hk : 0 ≤ k ∧ k < 27) (h : std.ltI (std.get 0 (std.set (subTo c d k.toNat) k (std.sub (std.get 0 (subTo c d k.toNat) k) (std.get 0 d k))) k) 0 = true) : c.getD k.toNat 0 < d.getD k.toNat 0 := by
  have h1 := lt_of h
  have h2 := less_at (c := c) (d := d) (k := k.toNat) (by omega)
  rw [Int.toNat_of_nonneg hk.1] at h2
  rw [h2] at h1
  omega
theorem less_ge {c d : List Int} {k : Int} (hk : 0 ≤ k ∧ k < 27) (h : std.ltI (std.get 0 (std.set (subTo c d k.toNat) k (std.sub (std.get 0 (subTo c d k.toNat) k) (std.get 0 d k))) k) 0 = false) : d.getD k.toNat 0 ≤ c.getD k.toNat 0 := by
  have h1 := ge_of h
  have h2 := less_at (c := c) (d := d) (k := k.toNat) (by omega)
  rw [Int.toNat_of_nonneg hk.1] at h2
  rw [h2] at h1
  omega
theorem lessOk_no {c d : List Int} {k : Nat} (hk : k < 27) (h : c.getD k 0 < d.getD k 0) : lessOk c d = false := by
  unfold lessOk
  rw [List.all_eq_false]
  exact ⟨k, List.mem_range.2 hk, by simp; simpa using h⟩
theorem less_no {c d : List Int} {k : Nat} (hk : k < 27) (h : c.getD k 0 < d.getD k 0) : lessR c d = zeroC := by
  unfold lessR
  rw [lessOk_no hk h]; rfl
theorem lessOk_all {c d : List Int} (h : ∀ j, j < 27 → d.getD j 0 ≤ c.getD j 0) : lessOk c d = true := by
  unfold lessOk
  rw [List.all_eq_true]
  intro j hj
  exact decide_eq_true (h j (List.mem_range.1 hj))
theorem less_all {c d : List Int} (h : ∀ j, j < 27 → d.getD j 0 ≤ c.getD j 0) : subTo c d 27 = lessR c d := by
  unfold lessR
  rw [lessOk_all h]; rfl
theorem less_ct {c d : List Int} {m : Int} (hc : CtP c m) (hd : CtP d m) : CtP (lessR c d) m := by
  unfold lessR
  by_cases h : lessOk c d = true
  · rw [if_pos h]
    have h0 : ∀ j, j < 27 → d.getD j 0 ≤ c.getD j 0 := fun j hj => by
      unfold lessOk at h
      have := List.all_eq_true.1 h j (List.mem_range.2 hj)
      simpa using this
    have hg : ∀ j, (subTo c d 27).getD j 0 = if j < 27 then c.getD j 0 - d.getD j 0 else 0 := fun j => by
      by_cases hj : j < 27
      · rw [sub_get hj, if_pos hj]; simp [hj]
      · rw [if_neg hj, List.getD_eq_getElem?_getD, List.getElem?_eq_none (by rw [sub_len]; omega)]; rfl
    refine ⟨sub_len 27, fun j => ?_, fun j => ?_⟩
    · rw [hg]; split
      · have := h0 j ‹_›; omega
      · omega
    · rw [hg]
      have h1 := hc.hi j; have h2 := hd.lo j; have h3 := hc.lo j
      split <;> omega
  · rw [if_neg h]
    refine zero_ct.mono ?_
    have h1 := hc.lo 0; have h2 := hc.hi 0
    omega
def sp_i_counts_less (p : Pr) : FSpec := fsp (ac aCt (a1 aCt)) (fun (c, d) => CtP c 1000000000 ∧ CtP d 1000000000) (fun (c, d) => .tup [.arr (.i .i64) 27 (lessR c d), .b (lessOk c d)])
theorem ok_i_counts_less : FOk Tryz.prog 105 (sp_i_counts_less std) := by
  refine FOk.go (c := cx std [] [] 0) (cx_ok .nil .nil) mixed Tryz.func105 rfl rfl rfl (by kernel_rfl) ?_
  rintro ⟨c, d⟩ hp
  dsimp only at hp
  refine ⟨rfl, ?_⟩
  obtain ⟨H, hH⟩ : ∃ H : Hd (Int × List Int), H = ⟨fun (k, L) => 0 ≤ k ∧ k ≤ 27 ∧ L = subTo c d k.toNat ∧ ∀ j, j < k.toNat → d.getD j 0 ≤ c.getD j 0, fun (k, L) => (27 - k).toNat, (· < ·)⟩ := ⟨_, rfl⟩
  have hl : ∀ m n, H.lt m n → m < n := by subst hH; exact fun _ _ h => h
  generalize hP : std = p
  generalize hB0 : lessR = B0
  generalize hB1 : lessOk = B1
  cbv
  repeat' first
    | (refine fun (_ : Unit) => ?_; cbv)
    | (refine Or.inr ⟨10, [], [.s 9 (.i .i64), .o 0 [.i .i64]], [], [], H, rfl, hl, ?_, fun ((k, L) : Int × List Int) hk => ?_⟩ <;> cbv)
    | (refine And.intro (fun h => ?_) (fun h => ?_) <;> cbv)
    | (refine And.intro ?_ ?_)
  all_goals subst hP hB0 hB1 hH
  all_goals clear hl
  all_goals try dsimp only at hk
  all_goals try dsimp only
  all_goals try first
    | exact True.intro
    | with_reducible assumption
    | with_reducible exact byte_in
    | with_reducible exact hp.1
    | with_reducible exact hp.2
    | with_reducible exact hp.2.1
    | with_reducible exact hp.2.2
    | (simp [std] at * <;> lia)
    | rfl
  · exact ⟨Int.le_refl 0, by decide, (sub_zero hp.1.len).symm, fun j hj => by simp at hj⟩
  all_goals obtain ⟨q0, q1, rfl, q3⟩ := hk
  all_goals have c1 := hp.1.lo k.toNat
  all_goals have c2 := hp.1.hi k.toNat
  all_goals have d1 := hp.2.lo k.toNat
  all_goals have d2 := hp.2.hi k.toNat
  all_goals try (have hlt : k < 27 := lt_of (by assumption))
  all_goals try (have hg := sub_get (c := c) (d := d) (k := k.toNat) (j := k.toNat) (by omega); rw [if_neg (by omega)] at hg)
  · exact in64 (by show _ ≤ (subTo c d k.toNat).getD k.toNat 0 - d.getD k.toNat 0 ∧ (subTo c d k.toNat).getD k.toNat 0 - d.getD k.toNat 0 ≤ _; omega)
  · rw [less_no (k := k.toNat) (by omega) (less_lt ⟨by omega, by omega⟩ (by assumption))]; rfl
  · exact lessOk_no (k := k.toNat) (by omega) (less_lt ⟨by omega, by omega⟩ (by assumption))
  · have h4 := less_ge (c := c) (d := d) (k := k) ⟨q0, hlt⟩ (show std.ltI (std.get 0 (std.set (subTo c d k.toNat) k (std.sub (std.get 0 (subTo c d k.toNat) k) (std.get 0 d k))) k) 0 = false by assumption)
    refine ⟨by show 0 ≤ k + 1; omega, by show k + 1 ≤ 27; omega, ?_, fun j hj => ?_⟩
    · show (subTo c d k.toNat).set k.toNat ((subTo c d k.toNat).getD k.toNat 0 - d.getD k.toNat 0) = _
      rw [hg, k_suc q0]
      exact sub_suc (by omega)
    · rw [k_suc q0] at hj
      by_cases hjk : j < k.toNat
      · exact q3 j hjk
      · rw [show j = k.toNat by omega]; exact h4
  all_goals
    have hge : 27 ≤ k := ge_of (by assumption)
    have e : k.toNat = 27 := by omega
    rw [e] at q3
  · rw [e, less_all q3]
  · exact lessOk_all q3
def sp_i_sorted (p : Pr) : FSpec := fsp (a1 aS) (fun s => StP s) (fun s => .s (pileL (countsL s)))
theorem ok_i_sorted : FOk Tryz.prog 111 (sp_i_sorted std) := by
  refine FOk.go (c := cx std [(104, sp_i_countsOf std), (106, sp_pile std)] [] 0) (cx_ok (.cons ok_i_countsOf (.cons ok_pile .nil)) .nil) mixed Tryz.func111 rfl rfl rfl (by kernel_rfl) ?_
  rintro s hp
  refine ⟨rfl, ?_⟩
  unfold sp_i_countsOf sp_pile
  generalize hP : std = p
  generalize hB0 : pileL = B0
  generalize hB1 : countsL = B1
  cbv
  repeat' first
    | (refine fun (_ : Unit) => ?_; cbv)
    | (refine And.intro (fun h => ?_) (fun h => ?_) <;> cbv)
    | (refine And.intro ?_ ?_)
    | (refine Or.inl (fun (_ : Unit) => ?_); cbv)
  all_goals subst hP hB0 hB1
  all_goals try first
    | exact True.intro
    | with_reducible assumption
    | with_reducible exact byte_in
    | with_reducible exact hp.1
    | with_reducible exact hp.2
    | with_reducible exact hp.2.1
    | with_reducible exact hp.2.2
    | (simp [std] at * <;> lia)
    | rfl
  · exact (counts_ct s).mono (by have := hp.len; omega)
def sp_i_without (p : Pr) : FSpec := fsp (ac aS (a1 aS)) (fun (a, b) => StP a ∧ StP b) (fun (a, b) => .tup [.s (withoutS a b), .b (withoutB a b)])
theorem ok_i_without : FOk Tryz.prog 50 (sp_i_without std) := by
  refine FOk.go (c := cx std [(104, sp_i_countsOf std), (105, sp_i_counts_less std), (106, sp_pile std)] [] 0) (cx_ok (.cons ok_i_countsOf (.cons ok_i_counts_less (.cons ok_pile .nil))) .nil) mixed Tryz.func50 rfl rfl rfl (by kernel_rfl) ?_
  rintro ⟨a, b⟩ hp
  dsimp only at hp
  refine ⟨rfl, ?_⟩
  unfold sp_i_countsOf sp_i_counts_less sp_pile
  generalize hP : std = p
  generalize hB0 : withoutS = B0
  generalize hB1 : withoutB = B1
  generalize hB2 : pileL = B2
  generalize hB3 : countsL = B3
  generalize hB4 : lessR = B4
  generalize hB5 : lessOk = B5
  cbv
  repeat' first
    | (refine fun (_ : Unit) => ?_; cbv)
    | (refine And.intro (fun h => ?_) (fun h => ?_) <;> cbv)
    | (refine And.intro ?_ ?_)
    | (refine Or.inl (fun (_ : Unit) => ?_); cbv)
  all_goals subst hP hB0 hB1 hB2 hB3 hB4 hB5
  all_goals try first
    | exact True.intro
    | with_reducible assumption
    | with_reducible exact byte_in
    | with_reducible exact hp.1
    | with_reducible exact hp.2
    | with_reducible exact hp.2.1
    | with_reducible exact hp.2.2
    | (simp [std] at * <;> lia)
    | rfl
  all_goals have ha := (counts_ct a).mono (n := 1000000000) (by have := hp.1.len; omega)
  all_goals have hb := (counts_ct b).mono (n := 1000000000) (by have := hp.2.len; omega)
  · exact ha
  · exact hb
  · exact less_ct ha hb
structure LlP (s : List UInt8) : Prop where
  lt : lettB s = true
  len : s.length ≤ 1000000
theorem clb_suc {s : List UInt8} {k : Int} (h0 : 0 ≤ k) (h : k < s.length) : countsL ((s.take (k + 1).toNat).map blankC) = incAt (countsL ((s.take k.toNat).map blankC)) (tileK (blankC (s.getD k.toNat 0))) := by
  rw [tk h0 h 0]
  simp [countsL]
theorem lett_at {s : List UInt8} {k : Int} (h : lettB s = true) (h0 : 0 ≤ k) (h1 : k < s.length) : smallB (s.getD k.toNat 0) = true ∨ capB (s.getD k.toNat 0) = true := by
  rw [List.getD_eq_getElem?_getD, List.getElem?_eq_getElem (by omega)]
  have := List.all_eq_true.1 h _ (List.getElem_mem (l := s) (n := k.toNat) (by omega))
  simpa using this
theorem lett_tile {c : UInt8} (h : smallB c = true ∨ capB c = true) (hc : capB c = false) : tileB c = true := by
  have h1 := h.resolve_right (by rw [hc]; simp)
  unfold tileB; rw [h1, Bool.or_true]
def sp_i_tilesOf (p : Pr) : FSpec := fsp (a1 aS) (fun s => LlP s) (fun s => .s (tilesP s))
theorem ok_i_tilesOf : FOk Tryz.prog 107 (sp_i_tilesOf std) := by
  refine FOk.go (c := cx std [(171, sp_i_capital std), (167, sp_i_place std), (106, sp_pile std)] [] 0) (cx_ok (.cons ok_i_capital (.cons ok_i_place (.cons ok_pile .nil))) .nil) mixed Tryz.func107 rfl rfl rfl (by kernel_rfl) ?_
  rintro s hp
  refine ⟨rfl, ?_⟩
  unfold sp_i_capital sp_i_place sp_pile
  obtain ⟨H, hH⟩ : ∃ H : Hd (Int × List Int), H = ⟨fun (k, L) => 0 ≤ k ∧ k ≤ s.length ∧ L = countsL ((s.take k.toNat).map blankC), fun (k, L) => (s.length - k).toNat, (· < ·)⟩ := ⟨_, rfl⟩
  have hl : ∀ m n, H.lt m n → m < n := by subst hH; exact fun _ _ h => h
  generalize hP : std = p
  generalize hB0 : tilesP = B0
  generalize hB1 : pileL = B1
  generalize hB2 : plcI = B2
  generalize hB3 : inR = B3
  cbv
  repeat' first
    | (refine fun (_ : Unit) => ?_; cbv)
    | (refine Or.inr ⟨5, [], [.s 4 (.i .i64), .o 0 [.i .i64]], [], [], H, rfl, hl, ?_, fun ((k, L) : Int × List Int) hk => ?_⟩ <;> cbv)
    | (refine And.intro (fun h => ?_) (fun h => ?_) <;> cbv)
    | (refine And.intro ?_ ?_)
  all_goals subst hP hB0 hB1 hB2 hB3 hH
  all_goals clear hl
  all_goals try dsimp only at hk
  all_goals try dsimp only
  all_goals try first
    | exact True.intro
    | with_reducible assumption
    | with_reducible exact byte_in
    | with_reducible exact hp.1
    | with_reducible exact hp.2
    | with_reducible exact hp.2.1
    | with_reducible exact hp.2.2
    | (simp [std] at * <;> lia)
    | rfl
  · exact ⟨Int.le_refl 0, Int.natCast_nonneg _, rfl⟩
  all_goals obtain ⟨q0, q1, rfl⟩ := hk
  all_goals have q1 : k ≤ (s.length : Int) := q1
  all_goals have hl := hp.len
  all_goals have hC := counts_ct ((s.take k.toNat).map blankC)
  all_goals have hC2 : (((s.take k.toNat).map blankC).length : Int) ≤ s.length := by rw [List.length_map, List.length_take]; omega
  all_goals try (have hlt : k < (s.length : Int) := lt_of (by assumption))
  · have h1 := hC.lo 0
    have h2 := hC.hi 0
    exact in64 (by show _ ≤ (countsL ((s.take k.toNat).map blankC)).getD 0 0 + 1 ∧ (countsL ((s.take k.toNat).map blankC)).getD 0 0 + 1 ≤ _; omega)
  · exact in64 (by show _ ≤ k + 1 ∧ k + 1 ≤ _; omega)
  · refine ⟨by show 0 ≤ k + 1; omega, by show k + 1 ≤ (s.length : Int); omega, ?_⟩
    have hc : capB (s.getD k.toNat 0) = true := by rw [← cap_byte]; assumption
    have hb : blankC (s.getD k.toNat 0) = 63 := by unfold blankC; rw [if_pos hc]
    show (countsL ((s.take k.toNat).map blankC)).set 0 ((countsL ((s.take k.toNat).map blankC)).getD 0 0 + 1) = _
    show _ = countsL ((s.take (k + 1).toNat).map blankC)
    rw [clb_suc q0 hlt, hb]; rfl
  all_goals try (have hc : capB (s.getD k.toNat 0) = false := by rw [← cap_byte]; assumption)
  all_goals try (have hb : blankC (s.getD k.toNat 0) = s.getD k.toNat 0 := by unfold blankC; rw [hc]; rfl)
  all_goals try (have hT := plc_K (lett_tile (lett_at hp.lt q0 hlt) hc); obtain ⟨hK, hK2⟩ := hT; have hK : plcI (std.byte s k) = (tileK (s.getD k.toNat 0) : Int) := hK)
  · show 0 ≤ plcI (std.byte s k) ∧ plcI (std.byte s k) < 27
    omega
  · show 0 ≤ plcI (std.byte s k) ∧ plcI (std.byte s k) < 27
    omega
  · have h1 := hC.lo (plcI (std.byte s k)).toNat
    have h2 := hC.hi (plcI (std.byte s k)).toNat
    exact in64 (by show _ ≤ (countsL ((s.take k.toNat).map blankC)).getD (plcI (std.byte s k)).toNat 0 + 1 ∧ (countsL ((s.take k.toNat).map blankC)).getD (plcI (std.byte s k)).toNat 0 + 1 ≤ _; omega)
  · show 0 ≤ plcI (std.byte s k) ∧ plcI (std.byte s k) < 27
    omega
  · show 0 ≤ plcI (std.byte s k) ∧ plcI (std.byte s k) < 27
    omega
  · exact in64 (by show _ ≤ k + 1 ∧ k + 1 ≤ _; omega)
  · refine ⟨by show 0 ≤ k + 1; omega, by show k + 1 ≤ (s.length : Int); omega, ?_⟩
    show (countsL ((s.take k.toNat).map blankC)).set (plcI (std.byte s k)).toNat ((countsL ((s.take k.toNat).map blankC)).getD (plcI (std.byte s k)).toNat 0 + 1) = _
    rw [hK, Int.toNat_natCast]
    show _ = countsL ((s.take (k + 1).toNat).map blankC)
    rw [clb_suc q0 hlt, hb]; rfl
  · exact hC.mono (by omega)
  · rw [tk_all (ge_of (by assumption))]; rfl
section
variable {b : Bd} {q : Pl} {k : Int}
theorem np_len : (npI b q).length = (newL b q).length := by simp [npI]
theorem np_at (h0 : 0 ≤ k) (h : k < (npI b q).length) : ∃ n : Nat, n < q.word.length ∧ (npI b q).getD k.toNat 0 = (n : Int) ∧ (placedI b q).take (k + 1).toNat = (placedI b q).take k.toNat ++ [q.word.getD n 0] := by
  rw [np_len] at h
  have hk : k.toNat < (newL b q).length := by omega
  have hm : (newL b q)[k.toNat] ∈ newL b q := List.getElem_mem hk
  refine ⟨(newL b q)[k.toNat], ?_, ?_, ?_⟩
  · unfold newL newTo at hm
    exact List.mem_range.1 (List.mem_filter.1 hm).1
  · unfold npI
    rw [List.getD_eq_getElem?_getD, List.getElem?_map, List.getElem?_eq_getElem hk]; rfl
  · rw [tk h0 (by rw [placedI, List.length_map]; omega) 0]
    congr 2
    unfold placedI
    rw [List.getD_eq_getElem?_getD, List.getElem?_map, List.getElem?_eq_getElem hk]; rfl
end
theorem toB_snoc1 (l : List UInt8) (c : UInt8) : toBl l ++ [(c.toNat : Int)] = toBl (l ++ [c]) := by simp [toBl]
def sp_i_placedTiles (p : Pr) : FSpec := fsp (ac (aA aBd) (a1 (aA aPl))) (fun (b, q) => VP b q) (fun (b, q) => .s (tilesP (placedI b q)))
theorem ok_i_placedTiles : FOk Tryz.prog 51 (sp_i_placedTiles std) := by
  refine FOk.go (c := cx std [(96, sp_i_newSquares std), (107, sp_i_tilesOf std)] [] 0) (cx_ok (.cons ok_i_newSquares (.cons ok_i_tilesOf .nil)) .nil) mixed Tryz.func51 rfl rfl rfl (by kernel_rfl) ?_
  rintro ⟨b, q⟩ hp
  dsimp only at hp
  refine ⟨rfl, ?_⟩
  unfold sp_i_newSquares sp_i_tilesOf
  obtain ⟨H, hH⟩ : ∃ H : Hd (Int × List Int), H = ⟨fun (k, L) => 0 ≤ k ∧ k ≤ (npI b q).length ∧ L = toBl ((placedI b q).take k.toNat), fun (k, L) => ((npI b q).length - k).toNat, (· < ·)⟩ := ⟨_, rfl⟩
  have hl : ∀ m n, H.lt m n → m < n := by subst hH; exact fun _ _ h => h
  generalize hP : std = p
  generalize hB0 : tilesP = B0
  generalize hB1 : placedI = B1
  generalize hB2 : nsI = B2
  generalize hB3 : npI = B3
  cbv
  repeat' first
    | (refine fun (_ : Unit) => ?_; cbv)
    | (refine Or.inr ⟨20, [], [.s 19 (.i .i64), .o 2 [.i .u8]], [.s 7], [], H, rfl, hl, ?_, fun ((k, L) : Int × List Int) hk => ?_⟩ <;> cbv)
    | (refine And.intro (fun h => ?_) (fun h => ?_) <;> cbv)
    | (refine And.intro ?_ ?_)
  all_goals subst hP hB0 hB1 hB2 hB3 hH
  all_goals clear hl
  all_goals try dsimp only at hk
  all_goals try dsimp only
  all_goals try first
    | exact True.intro
    | with_reducible assumption
    | with_reducible exact byte_in
    | with_reducible exact hp.1
    | with_reducible exact hp.2
    | with_reducible exact hp.2.1
    | with_reducible exact hp.2.2
    | (simp [std] at * <;> lia)
    | rfl
  · exact ⟨Int.le_refl 0, Int.natCast_nonneg _, rfl⟩
  all_goals obtain ⟨q0, q1, rfl⟩ := hk
  all_goals have q1 : k ≤ ((npI b q).length : Int) := q1
  all_goals have hn := newTo_length b q q.word.length
  all_goals have hn2 : (npI b q).length ≤ q.word.length := by rw [np_len]; exact hn
  all_goals have hw := hp.hi
  all_goals have hll : ((placedI b q).take k.toNat).length ≤ 12 := by rw [List.length_take]; unfold placedI newL; rw [List.length_map]; omega
  all_goals try (have hlt : k < ((npI b q).length : Int) := lt_of (by assumption); obtain ⟨n, n1, n2, n3⟩ := np_at q0 hlt)
  · show 0 ≤ (npI b q).getD k.toNat 0 ∧ (npI b q).getD k.toNat 0 < (q.word.length : Int)
    rw [n2]; omega
  · show ((toBl ((placedI b q).take k.toNat)).length : Int) + 1 ≤ _
    rw [toB_len]; omega
  · exact in64 (by show _ ≤ k + 1 ∧ k + 1 ≤ _; omega)
  · refine ⟨by show 0 ≤ k + 1; omega, by show k + 1 ≤ ((npI b q).length : Int); omega, ?_⟩
    show toBl ((placedI b q).take k.toNat) ++ [((q.word.getD ((npI b q).getD k.toNat 0).toNat 0).toNat : Int)] = _
    rw [n2, Int.toNat_natCast, toB_snoc1]
    show _ = toBl ((placedI b q).take (k + 1).toNat)
    rw [n3]
  all_goals have hge : ((npI b q).length : Int) ≤ k := ge_of (by assumption)
  all_goals have e : (placedI b q).take k.toNat = placedI b q := List.take_of_length_le (by unfold placedI; rw [List.length_map]; rw [np_len] at hge; omega)
  · refine ⟨?_, ?_⟩
    · show lettB (toSl (toBl ((placedI b q).take k.toNat))) = true
      rw [toS_toB, e]; exact placedI_lett hp.lett
    · show (toSl (toBl ((placedI b q).take k.toNat))).length ≤ 1000000
      rw [toS_toB]; omega
  · show tilesP (toSl (toBl ((placedI b q).take k.toNat))) = _
    rw [toS_toB, e]
def sp_i_valueOf (p : Pr) : FSpec := fsp (ac (aA aTs) (a1 aC)) (fun (t, n) => p.inK .u8 n ∧ TsOk t) (fun (t, n) => .i .i64 (valT t (u8 n)))
theorem ok_i_valueOf : FOk Tryz.prog 164 (sp_i_valueOf std) := by
  refine FOk.go (c := cx std [(208, sp_index std)] [] 0) (cx_ok (.cons ok_index .nil) .nil) mixed Tryz.func164 rfl rfl rfl (by kernel_rfl) ?_
  rintro ⟨t, n⟩ hp
  dsimp only at hp
  refine ⟨rfl, ?_⟩
  unfold sp_index
  generalize hP : std = p
  generalize hB0 : findI = B0
  generalize hB1 : valT = B1
  generalize hB2 : u8 = B2
  cbv
  repeat' first
    | (refine fun (_ : Unit) => ?_; cbv)
    | (refine And.intro (fun h => ?_) (fun h => ?_) <;> cbv)
    | (refine And.intro ?_ ?_)
    | (refine Or.inl (fun (_ : Unit) => ?_); cbv)
  all_goals subst hP hB0 hB1 hB2
  all_goals try first
    | exact True.intro
    | with_reducible assumption
    | with_reducible exact byte_in
    | with_reducible exact hp.1
    | with_reducible exact hp.2
    | with_reducible exact hp.2.1
    | with_reducible exact hp.2.2
    | (simp [std] at * <;> lia)
    | rfl
  · have h1 : 0 ≤ findI t.letters (u8 n) := by simpa using h
    have h2 := findI_K t.letters (u8 n)
    have h3 := hp.2.vals
    refine ⟨h1, ?_⟩
    show findI t.letters (u8 n) < ((t.values.length : Nat) : Int)
    rw [h2] at h1 ⊢
    split at h1 <;> omega
  · have h1 : 0 ≤ findI t.letters (u8 n) := by simpa using h
    rw [valT_I, if_neg (by omega)]; rfl
  · have h1 : findI t.letters (u8 n) < 0 := by simpa using h
    rw [valT_I, if_pos h1]
def sp_i_lettersValue (p : Pr) : FSpec := fsp (ac (aA aTs) (a1 aS)) (fun (t, s) => TsOk t ∧ p.ltM (p.lenS s)) (fun (t, s) => .i .i64 (sumT t s))
theorem ok_i_lettersValue : FOk Tryz.prog 175 (sp_i_lettersValue std) := by
  refine FOk.go (c := cx std [(164, sp_i_valueOf std)] [] 0) (cx_ok (.cons ok_i_valueOf .nil) .nil) mixed Tryz.func175 rfl rfl rfl (by kernel_rfl) ?_
  rintro ⟨t, s⟩ hp
  dsimp only at hp
  refine ⟨rfl, ?_⟩
  unfold sp_i_valueOf
  obtain ⟨H, hH⟩ : ∃ H : Hd (Int × Int), H = ⟨fun (m, k) => 0 ≤ k ∧ k ≤ s.length ∧ sumT t s = m + sumT t (s.drop k.toNat) ∧ 0 ≤ m ∧ m ≤ 20 * k, fun (m, k) => (s.length - k).toNat, (· < ·)⟩ := ⟨_, rfl⟩
  have hl : ∀ m n, H.lt m n → m < n := by subst hH; exact fun _ _ h => h
  generalize hP : std = p
  generalize hB0 : valT = B0
  generalize hB1 : sumT = B1
  generalize hB2 : u8 = B2
  cbv
  repeat' first
    | (refine fun (_ : Unit) => ?_; cbv)
    | (refine Or.inr ⟨7, [], [.s 5 (.i .i64), .s 6 (.i .i64)], [], [], H, rfl, hl, ?_, fun ((m, k) : Int × Int) hk => ?_⟩ <;> cbv)
    | (refine And.intro (fun h => ?_) (fun h => ?_) <;> cbv)
    | (refine And.intro ?_ ?_)
  all_goals subst hP hB0 hB1 hB2 hH
  all_goals clear hl
  all_goals try dsimp only at hk
  all_goals try dsimp only
  all_goals try first
    | exact True.intro
    | with_reducible assumption
    | with_reducible exact byte_in
    | with_reducible exact hp.1
    | with_reducible exact hp.2
    | with_reducible exact hp.2.1
    | with_reducible exact hp.2.2
    | (simp [std] at * <;> lia)
    | rfl
  all_goals try simp only [eta_ts] at *
  · obtain ⟨q0, q1, e, q2, q3⟩ := hk
    have h1 := lt_of h
    have h2 := hp.1.lo (u8 (std.byte s k))
    have h3 := hp.1.hi (u8 (std.byte s k))
    have h4 : (s.length : Int) ≤ 1099511627776 := hp.2
    have h5 : k < (s.length : Int) := h1
    exact in64 (by show _ ≤ m + valT t (u8 (std.byte s k)) ∧ m + valT t (u8 (std.byte s k)) ≤ _; omega)
  · obtain ⟨q0, q1, e, q2, q3⟩ := hk
    have h1 : k < (s.length : Int) := lt_of h
    have h2 := hp.1.lo (u8 (std.byte s k))
    have h3 := hp.1.hi (u8 (std.byte s k))
    refine ⟨by show 0 ≤ k + 1; omega, by show k + 1 ≤ (s.length : Int); omega, ?_, by show 0 ≤ m + valT t (u8 (std.byte s k)); omega, by show m + valT t (u8 (std.byte s k)) ≤ 20 * (k + 1); omega⟩
    rw [e, dc q0 h1 0, u8_byte]
    simp [sumT, Int.add_assoc]
  · obtain ⟨q0, q1, e, q2, q3⟩ := hk
    rw [e, dn (ge_of h)]
    simp [sumT]
def allTo (t : TS) (k : Nat) : List UInt8 := List.replicate t.blanks.toNat 63 ++ repT (t.letters.take k) (t.counts.take k)
structure TlP (t : TS) : Prop where
  al : AllP t
  b0 : 0 ≤ t.blanks
  lo : ∀ k : Nat, 0 ≤ t.counts.getD k 0
theorem rep_one (c : UInt8) (n : Int) : repS [c] n = List.replicate n.toNat c := by
  unfold repS
  generalize n.toNat = m
  induction m with
  | zero => rfl
  | succ m ih => rw [List.replicate_succ, ← ih]; rfl
theorem sl_one {s : List UInt8} {k : Int} (h0 : 0 ≤ k) (h : k < s.length) : (s.take (k + 1).toNat).drop k.toNat = [s.getD k.toNat 0] := by
  rw [tk h0 h 0, List.drop_append_of_le_length (by rw [List.length_take]; omega), List.drop_of_length_le (by rw [List.length_take]; omega)]
  rfl
theorem repT_snoc : ∀ (l : List UInt8) (c : List Int) (k : Nat), k < l.length → k < c.length → repT (l.take (k + 1)) (c.take (k + 1)) = repT (l.take k) (c.take k) ++ List.replicate (c.getD k 0).toNat (l.getD k 0)
  | a :: r, x :: cs, 0, _, _ => by simp [repT]
  | a :: r, x :: cs, k + 1, h1, h2 => by
    have := repT_snoc r cs k (by simpa using h1) (by simpa using h2)
    simp only [List.take_succ_cons, repT, List.getD_cons_succ, List.append_assoc] at this ⊢
    rw [this]
  | [], _, _, h, _ => by simp at h
  | _ :: _, [], _, _, h => by simp at h
theorem all_suc {t : TS} {k : Int} (h0 : 0 ≤ k) (h : k < t.counts.length) (h2 : t.counts.length = t.letters.length) : allTo t (k + 1).toNat = allTo t k.toNat ++ List.replicate (t.counts.getD k.toNat 0).toNat (t.letters.getD k.toNat 0) := by
  unfold allTo
  rw [show (k + 1).toNat = k.toNat + 1 by omega, repT_snoc _ _ _ (by omega) (by omega), List.append_assoc]
theorem all_bd {t : TS} (h : TlP t) : ∀ k : Nat, k ≤ t.counts.length → (allTo t k).length ≤ 4 + 20 * k
  | 0, _ => by
    have := h.al.bl
    unfold allTo
    simp [repT]; omega
  | k + 1, hk => by
    have h1 := all_bd h k (by omega)
    have h2 := all_suc (t := t) (k := k) (by omega) (by omega) h.al.ok.cnts
    have h3 := h.al.hi k
    rw [show ((k : Int) + 1).toNat = k + 1 by omega, Int.toNat_natCast] at h2
    rw [h2, List.length_append, List.length_replicate]
    omega
def sp_i_allTiles (p : Pr) : FSpec := fsp (a1 (aA aTs)) (fun t => TlP t) (fun t => .s (allT t))
theorem ok_i_allTiles : FOk Tryz.prog 200 (sp_i_allTiles std) := by
  refine FOk.go (c := cx std [(218, sp_repeat std)] [(217, sp_wStr std), (170, sp_strU std)] 0) (cx_ok (.cons ok_repeat .nil) (.cons ok_wStr (.cons ok_strU .nil))) mixed Tryz.func200 rfl rfl rfl (by kernel_rfl) ?_
  rintro t hp
  refine ⟨rfl, ?_⟩
  unfold sp_repeat sp_wStr sp_strU
  obtain ⟨H, hH⟩ : ∃ H : Hd (Int × List Int), H = ⟨fun (k, L) => 0 ≤ k ∧ k ≤ t.counts.length ∧ L = toBl (allTo t k.toNat), fun (k, L) => (t.counts.length - k).toNat, (· < ·)⟩ := ⟨_, rfl⟩
  have hl : ∀ m n, H.lt m n → m < n := by subst hH; exact fun _ _ h => h
  generalize hP : std = p
  generalize hB0 : allT = B0
  generalize hB1 : repS = B1
  generalize hB2 : allTo = B2
  cbv
  repeat' first
    | (refine fun (_ : Unit) => ?_; cbv)
    | (refine Or.inr ⟨14, [], [.s 13 (.i .i64), .o 2 [.i .u8]], [.c 1 1], [], H, rfl, hl, ?_, fun ((k, L) : Int × List Int) hk => ?_⟩ <;> cbv)
    | (refine And.intro (fun h => ?_) (fun h => ?_) <;> cbv)
    | (refine And.intro ?_ ?_)
  all_goals subst hP hB0 hB1 hB2 hH
  all_goals clear hl
  all_goals try dsimp only at hk
  all_goals try dsimp only
  all_goals try first
    | exact True.intro
    | with_reducible assumption
    | with_reducible exact byte_in
    | with_reducible exact hp.1
    | with_reducible exact hp.2
    | with_reducible exact hp.2.1
    | with_reducible exact hp.2.2
    | (simp [std] at * <;> lia)
    | rfl
  · exact hp.b0
  · have := hp.al.bl; show t.blanks ≤ 65536; omega
  · exact ltM_of (by have := hp.al.bl; show (repS [63] t.blanks).length ≤ _; rw [rep_one, List.length_replicate]; omega)
  · refine ⟨Int.le_refl 0, Int.natCast_nonneg _, ?_⟩
    show toBl (repS [63] t.blanks) = _
    rw [rep_one]; simp [allTo, repT]
  all_goals try obtain ⟨q0, q1, rfl⟩ := hk
  all_goals try (have q1 : k ≤ (t.counts.length : Int) := q1)
  all_goals have hc := hp.al.ok.cnts
  all_goals have hll := hp.al.ok.len
  all_goals try (have hlt : k < (t.counts.length : Int) := lt_of (by assumption))
  all_goals try (have hb := all_bd hp k.toNat (by omega))
  all_goals try (have hlo := hp.lo k.toNat; have hhi := hp.al.hi k.toNat)
  · exact in64 (by show _ ≤ k + 1 ∧ k + 1 ≤ _; omega)
  · show k + 1 ≤ (t.letters.length : Int); omega
  · exact hlo
  · show t.counts.getD k.toNat 0 ≤ 65536; omega
  · show ((toBl (allTo t k.toNat)).length : Int) + ((repS ((t.letters.take (k + 1).toNat).drop k.toNat) (t.counts.getD k.toNat 0)).length : Int) ≤ _
    rw [sl_one q0 (by omega), rep_one, List.length_replicate, toB_len]; omega
  · exact in64 (by show _ ≤ k + 1 ∧ k + 1 ≤ _; omega)
  · refine ⟨by show 0 ≤ k + 1; omega, by show k + 1 ≤ (t.counts.length : Int); omega, ?_⟩
    show toBl (allTo t k.toNat) ++ toBl (repS ((t.letters.take (k + 1).toNat).drop k.toNat) (t.counts.getD k.toNat 0)) = _
    rw [sl_one q0 (by omega), rep_one]
    show _ = toBl (allTo t (k + 1).toNat)
    rw [all_suc q0 hlt hc]
    simp [toBl]
  · intro hx
    unfold toBl at hx
    obtain ⟨c, -, rfl⟩ := List.mem_map.1 hx
    have := c.toNat_lt
    omega
  · have hge : (t.counts.length : Int) ≤ k := ge_of (by assumption)
    show toSl (toBl (allTo t k.toNat)) = _
    rw [toS_toB]
    unfold allTo allT
    rw [List.take_of_length_le (by omega), List.take_of_length_le (by omega)]
end Ax
end Go.Proofs.YtdojdfminchlaaaGreatDoor
