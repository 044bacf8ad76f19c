/-
  Contract: one place of the search for plays (layer 16 of the spec package) where something is tried; Contract: one place of the search for plays (layer 16 of the spec package), whole; Contract: all plays by trying (layer 16 of the spec package): the search and its order; Contracts: the legal plays and their main words by trying (layer 16 of the spec package).
  Conditions: a search, a board that is valid and a lexicon lie in memory; a search, a board that is valid and a lexicon of small letters lie in memory; a board that is valid and a lexicon of small letters lie in memory; a lexicon and a board lie in memory.
-/
import Derived.Test.YtdkckikobefekaaGreatDoorM09
import Derived.Test.YtdkckikobefekaaGreatDoorM04
namespace Go.Proofs.YtdkckikobefekaaGreatDoor
open Go.RowKit RegP RegL RegV
set_option maxHeartbeats 1000000
def wayL (b : Bd) (ws : List Str) (rack : Str) (f : Bd) (word : Str) (row col : Int) (down : Bool) (ways : List Str) : List Pl :=
 (ways.map (wayPl f word row col down)).filter fun p => decide (legalC b ws rack p = 0)
theorem wayL_step (b : Bd) (ws : List Str) (rack : Str) (f : Bd) (word : Str) (row col : Int) (down : Bool) (ways : List Str) (k : Nat) (h : k < ways.length) :
   wayL b ws rack f word row col down (ways.take (k + 1)) = if legalC b ws rack (wayPl f word row col down ways[k]) = 0 then wayL b ws rack f word row col down (ways.take k) ++ [wayPl f word row col down ways[k]] else wayL b ws rack f word row col down (ways.take k) := by
 rw [List.take_succ_eq_append_getElem h]
 unfold wayL
 rw [List.map_append, List.filter_append]
 by_cases hh : legalC b ws rack (wayPl f word row col down ways[k]) = 0 <;> simp [hh]
theorem wayL_length (b : Bd) (ws : List Str) (rack : Str) (f : Bd) (word : Str) (row col : Int) (down : Bool) (ways : List Str) : (wayL b ws rack f word row col down ways).length ≤ ways.length := by
 unfold wayL
 exact Nat.le_trans (List.length_filter_le _ _) (by simp)
theorem BAt.kept {w w1 : World} {gt : Nat} {o o1 : Value} {p : Addr} {b : Bd} (h : BAt w p b) (hk : Kept w w1 gt o o1) (h1 : p.block ≠ gt) (h2 : o.ownBlock ≠ some p.block) : BAt w1 p b := by
 have hb := hk.block p.block h.lt h1 h2
 have hc : ∀ q : Addr, q.block = p.block → w1.cell? q = w.cell? q := fun q hq => World.cell?_of_block (by rw [hq]; exact hb)
 exact ⟨(hc p rfl).trans h.1, (hc ⟨p.block, p.off + 1, none⟩ rfl).trans h.2.1, (hc ⟨p.block, p.off + 2, none⟩ rfl).trans h.2.2⟩
theorem LxAt.low {w w' : World} {p : Addr} {A : Option Addr} {c B : Nat} {ws : List Str} (h : LxAt w p A c ws) (hp : p.block < B) (hA : 0 < ws.length → ∀ x, A = some x → x.block < B) (hb : Below B w w') : LxAt w' p A c ws := by
 refine ⟨(hb.cell hp).trans h.cell, h.reads.1, fun hn => ?_⟩
 obtain ⟨ad, e, h1, h2⟩ := h.reads.2 hn
 exact ⟨ad, e, by have := hb.size; omega, fun j u hu => (hb.cell (by rw [block_of_add]; exact hA hn ad e)).trans (h2 j u hu)⟩
theorem TAt.app {w w1 : World} {gt base : Nat} {pl pb : Addr} {rack : Str} {o u : Value} {qs qs' : List Pl} (hT : TAt w gt pl pb rack o qs base) (hg : w.grownBy w1 o.ownBlock)
   (hat : u.ownBlock = o.ownBlock ∨ u.ownBlock = some (w.heap.size + 1)) (own1 : w1.ownsRow base 61 4 u qs'.length (psC qs')) :
   TAt (w1.setCell ⟨gt, 3, none⟩ u) gt pl pb rack u qs' base ∧ Kept w (w1.setCell ⟨gt, 3, none⟩ u) gt o u := by
 have hne := own_blk_ne hT.own hT.blk (by decide)
 have hlt := hT.blk.lt
 refine ⟨⟨(hT.blk.grown hg (fun h => hne h.symm)).set_ 3 u, own_far own1 ?_ u⟩, ⟨hg.os, hg.tape, hg.output, ?_, fun k hk hkg hko => ?_, ?_⟩⟩
 · rcases hat with h | h
   · rw [h]; exact hne
   · rw [h]; intro e; injection e with e; simp only at e; omega
 · have := hg.size
   simpa using this
 · rw [Below.heap_setCell w1 ⟨gt, 3, none⟩ u k (by simpa using hkg)]
   exact hg.block k hk (fun h => hko h.symm)
 · rcases hat with h | h
   · exact .inl h
   · exact .inr ⟨_, by omega, h⟩
theorem Reads.far {w : World} {B size n : Nat} {ad : Addr} {xs : List Value} (h : Reads w B size (some ad) n xs) {p : Addr} (hp : p.block < ad.block) (u : Value) : Reads (w.setCell p u) B size (some ad) n xs :=
 ⟨h.1, fun hn => by
   obtain ⟨a, e, hb, hc⟩ := h.2 hn
   injection e with e
   subst e
   exact ⟨ad, rfl, hb, fun j x hx => (World.cell?_setCell_other w p (ad.add j) u (fun e => by have := congrArg Addr.block e; rw [block_of_add] at this; omega)).trans (hc j x hx)⟩⟩
def TryPost (w : World) (gt : Nat) (pl pb : Addr) (rack : Str) (o : Value) (qs : List Pl) (base : Nat) (e : Ending) (w' : World) : Prop :=
 ∃ o', e = .returned (.tuple #[]) ∧ TAt w' gt pl pb rack o' qs base ∧ Kept w w' gt o o'
theorem TryPost.mk {w : World} {gt : Nat} {pl pb : Addr} {rack : Str} {o : Value} {qs : List Pl} {base : Nat} {w' : World} (o' : Value) (h1 : TAt w' gt pl pb rack o' qs base) (h2 : Kept w w' gt o o') : TryPost w gt pl pb rack o qs base (.returned (.tuple #[])) w' := ⟨o', rfl, h1, h2⟩
theorem try_good (gt : Nat) (pl : Addr) (gb : Nat) (rack : Str) (o : Value) (ps : List Pl) (base : Nat) (pf : Addr) (f b : Bd) (A : Option Addr) (c0 : Nat) (ws : List Str) (word need : Str) (row col : Int) (down : Bool) (w : World)
   (hT : TAt w gt pl ⟨gb, 0, none⟩ rack o ps base) (hbase : base ≤ w.heap.size) (hfb : BAt w pf f) (hf : f.Fit) (hpb : BAt w ⟨gb, 0, none⟩ b) (hbd : bdB b = true) (hlx : LxAt w pl A c0 ws) (hn : ws.length ≤ 2 ^ 40) (hl : word.length ≤ 2 ^ 37) (hrk : rack.length ≤ 2 ^ 37) (hps : ps.length ≤ 2 ^ 37)
   (hlo : 0 < ws.length → ∀ x, A = some x → x.block < base) (hgf : pf.block ≠ gt) (hgf2 : o.ownBlock ≠ some pf.block) (hgb : gb < base) (hgl : pl.block < base) (hbt : base ≤ gt)
   (h400 : ps.length ≤ 400) (hne : needS f word row col = some need) (hnn : need ≠ []) (hcan : canB rack need = true) (hnl : need.length ≤ 15) (hns : need.all smallB = true) :
   Calls Tryz.prog 277 #[.pointer (some ⟨gt, 0, none⟩), .pointer (some pf), sv word, .int .i64 row, .int .i64 col, .bool down] w
     (TryPost w gt pl ⟨gb, 0, none⟩ rack o (ps ++ wayL b ws rack f word row col down (waysF rack need)) base) := by
 obtain ⟨A0, n0, ho⟩ : ∃ A c, o = .slice A ps.length c := by obtain ⟨A, c, h, _⟩ := own_sl hT.own; exact ⟨A, c, h⟩
 have hn' := fun (w : World) (hp : BAt w pf f) => l16Need_any pf f word row col w hp hf hl
 obtain ⟨hnd, hwl, hon⟩ := needS_facts hf hne
 rw [hne] at hn'
 simp only [needV] at hn'
 have hem : need.isEmpty = false := by cases need <;> simp_all
 rw [hem] at hn'
 have hb0 := hT.blk
 have h400' : decide ((400 : Int) < (ps.length : Int)) = false := decide_eq_false (by omega)
 have hwy := fun (w : World) => l03Ways_any need.length need rack w rfl (by omega) hns hrk
 have hWl := waysF_len rack need
 have hWn := waysF_length rack need
 obtain ⟨F, hF⟩ : ∃ F, F = waysF rack need := ⟨_, rfl⟩
 rw [← hF] at hwy hWl hWn ⊢
 have hWn' : F.length ≤ 2 ^ 15 := Nat.le_trans hWn (Nat.pow_le_pow_right (by omega) hnl)
 clear hF hWn hne
 subst ho
 go_enter Tryz.func277, Tryz.ntmps277
 go_wp2_with (first
   | (go_at_call 308; refine (hn' w hfb).mono ?_; rintro e w1 ⟨rfl, hb1⟩
      have hB1 := hb0.below hb1 hb0.lt
      have e2 : w1.cell? ⟨gt, 2, none⟩ = some (sv rack) := hB1.cell 2
      have e3 : w1.cell? ⟨gt, 3, none⟩ = some (.slice A0 ps.length n0) := hB1.cell 3)
   | (go_at_call 309; refine (l03Can_v rack need _ _ hcan hrk (by omega)).mono ?_; rintro e w2 ⟨rfl, hb2⟩
      have hB2 := hB1.below hb2 hB1.lt
      have f2 : w2.cell? ⟨gt, 2, none⟩ = some (sv rack) := hB2.cell 2)
   | (go_at_call 310; refine (hwy _).mono ?_; rintro e w3 ⟨v3, rfl, own3, hb3⟩))
 obtain ⟨A3, c3, rfl, hc3, hr3⟩ := own_sl own3
 have hlo3 := own_lo own3
 have hb12 := hb1.trans (hb2.mono hb1.size)
 have hb123 := hb12.trans (hb3.mono hb12.size)
 have hz2 := hb12.size
 have hz3 := hb3.size
 have hT3 := hT.below hb123
 have hK3 := Kept.of_below hb123 gt (.slice A0 ps.length n0)
 have hgt := hb0.lt
 have hq1 : ∀ q, (Value.slice A0 ps.length n0).ownBlock = some q → base ≤ q := fun q hq => (hT.own.lt q hq).1
 have hq0 : ∀ q, (Value.slice A0 ps.length n0).ownBlock = some q → q < w2.heap.size := fun q hq => by have := (hT.own.lt q hq).2; omega
 clear own3 hb1 hb2 hb3 hb12 hB1 hB2 e2 e3 f2 hT hb0
 go_loopw [15] (fun i wr => ∃ (k : Nat) (o2 : Value), k ≤ F.length ∧ i = .int .i64 k ∧ TAt wr gt pl ⟨gb, 0, none⟩ rack o2 (ps ++ wayL b ws rack f word row col down (F.take k)) base ∧ Kept w wr gt (.slice A0 ps.length n0) o2 ∧ Reads wr w3.heap.size 1 A3 F.length (F.map sv) ∧ w3.heap.size ≤ wr.heap.size ∧ (∀ q, o2.ownBlock = some q → q < w2.heap.size ∨ w3.heap.size ≤ q)) (fun i _ => F.length - (intOf i).toNat)
 case atStart => exact ⟨0, _, by omega, rfl, by simpa [wayL] using hT3, hK3, hr3, Nat.le_refl _, fun q hq => .inl (hq0 q hq)⟩
 case round =>
   obtain ⟨k, o2, hk, rfl, hT4, hK4, hr4, hz4, hq4⟩ := hrel
   have hbg : Below base w wr := hK4.below hbt hq1 hbase
   have hfb4 := hfb.kept hK4 hgf hgf2
   have hbwr := Nat.le_trans hbase hK4.size
   have hpb4 := hpb.below hbg hgb
   have hlx4 := hlx.low hgl hlo hbg
   by_cases hkl : k < F.length
   · obtain ⟨ad, rfl, hadb, hc4⟩ := hr4.el hkl
     have hstep := Lib.hid (wayL_step b ws rack f word row col down F k hkl)
     have hwl4 := hWl F[k] (List.getElem_mem _)
     obtain ⟨x, hxx⟩ : ∃ x, x = F[k] := ⟨_, rfl⟩
     rw [← hxx] at hstep hc4 hwl4
     clear hxx
     have hkk : (k : Int) < (F.length : Int) := by omega
     have hfl := fun w hp => l16Fill_any pf f word row col x w hp hf hon hl (by omega) (by omega)
     have hyl := fillGo_length f row word col x
     have hyw : Hid (∀ d, wayPl f word row col d x = if d then (⟨row, col, false, fillGo f row word col x⟩ : Pl).tr else ⟨row, col, false, fillGo f row word col x⟩) := Lib.hid (fun d => rfl)
     obtain ⟨y, hy⟩ : ∃ y, y = fillGo f row word col x := ⟨_, rfl⟩
     rw [← hy] at hfl hyl hyw
     clear hy
     cases down
     · go_wp2_with (first | (go_at_call 311; refine (hfl _ hfb4).mono ?_; rintro e w5 ⟨rfl, hb5⟩))
       obtain ⟨W, hW⟩ : ∃ W, W = w5.alloc (.cells #[.int .i64 row, .int .i64 col, .bool false, sv y] 61) := ⟨_, rfl⟩
       have hBW : Blk W w5.heap.size 61 #[.int .i64 row, .int .i64 col, .bool false, sv y] := by rw [hW]; exact Blk.new _ _ _
       have hwW : Below wr.heap.size wr W := by rw [hW]; exact hb5.alloc hb5.size _
       rw [← hW]
       clear hW
       have hTW := hT4.below hwW
       have hbgW := hbg.trans (hwW.mono hbwr)
       have hpbW := hpb.below hbgW hgb
       have hlxW := hlx.low hgl hlo hbgW
       refine wp_region_b 15 (by kernel_rfl) (by kernel_rfl) ?_
       simp only [qqT, List.take_zero, qqD, List.drop_zero]
       iterate 15
         apply pc_step rfl
         · intro w6 hb6 K hK
           have hB6 := hTW.blk.below hb6 hTW.blk.lt
           have f0 : w6.cell? ⟨gt, 0, none⟩ = some (.pointer (some pl)) := hB6.cell 0
           have f1 : w6.cell? ⟨gt, 1, none⟩ = some (.pointer (some ⟨gb, 0, none⟩)) := hB6.cell 1
           have f2 : w6.cell? ⟨gt, 2, none⟩ = some (sv rack) := hB6.cell 2
           have hC6 := hBW.below hb6 hBW.lt
           have d0 : w6.cell? ⟨w5.heap.size, 0, none⟩ = some (.int .i64 row) := hC6.cell 0
           have d1 : w6.cell? ⟨w5.heap.size, 1, none⟩ = some (.int .i64 col) := hC6.cell 1
           have d2 : w6.cell? ⟨w5.heap.size, 2, none⟩ = some (.bool false) := hC6.cell 2
           have d3 : w6.cell? ⟨w5.heap.size, 3, none⟩ = some (sv y) := hC6.cell 3
           go_wp2_with (go_at_call 76; refine (l12Legal_any gb b pl A c0 ws rack ⟨row, col, false, y⟩ _ (hpbW.below hb6 hpbW.lt) hbd (hlxW.below hb6) hn (by omega) (by simp only; omega)).mono ?_; rintro e w7 ⟨rfl, hb7⟩)
           first | exact hb6 | exact hb6.trans (hb7.mono hb6.size)
         simp only [Act.put, qqS, qqC, qqZ]
       refine pc_nil ?_
       intro w6 hb6
       have hstep2 : Hid (wayL b ws rack f word row col false (F.take (k + 1)) = if legalC b ws rack ⟨row, col, false, y⟩ = 0 then wayL b ws rack f word row col false (F.take k) ++ [⟨row, col, false, y⟩] else wayL b ws rack f word row col false (F.take k)) := Lib.hid (by rw [hstep.out, hyw.out]; rfl)
       have hqn := wayL_length b ws rack f word row col false (F.take k)
       have hqn2 : (F.take k).length ≤ F.length := by rw [List.length_take]; omega
       obtain ⟨qs, hqs⟩ : ∃ qs, qs = wayL b ws rack f word row col false (F.take k) := ⟨_, rfl⟩
       obtain ⟨lc, hlc⟩ : ∃ lc, lc = legalC b ws rack ⟨row, col, false, y⟩ := ⟨_, rfl⟩
       rw [← hqs] at hstep2 hTW hqn
       rw [← hlc] at hstep2
       have hKW := hK4.trans (Kept.of_below (hwW.trans (hb6.mono hwW.size)) gt o2)
       have hT6 := hTW.below hb6
       have hC6 := hBW.below hb6 hBW.lt
       have hrW := hr4.below' hwW hz4
       have hr6 := hrW.below' hb6 (by have := hwW.size; omega)
       have hz6 := Nat.le_trans hz4 (Nat.le_trans hwW.size hb6.size)
       simp only [← hlc]
       clear hqs hlc hyw hstep hK4 hTW hb6 hBW hwW hrW hr4 hz4 hT4
       by_cases hl0 : lc = 0
       · subst hl0
         go_wp2
         have hps2 : (ps ++ qs).length ≤ 2 ^ 38 := by rw [List.length_append]; omega
         have hcat : Hid (ps ++ wayL b ws rack f word row col false (F.take (k + 1)) = (ps ++ qs) ++ [⟨row, col, false, y⟩]) := Lib.hid (by rw [hstep2.out]; simp)
         obtain ⟨rs, hrs⟩ : ∃ rs, rs = ps ++ qs := ⟨_, rfl⟩
         rw [← hrs] at hT6 hps2 hcat
         clear hrs hstep2
         have hz66 : w6.drew.heap.size = w6.heap.size := rfl
         obtain ⟨W6, hW6⟩ : ∃ W6, W6 = w6.drew := ⟨_, rfl⟩
         have hT7 : TAt W6 gt pl ⟨gb, 0, none⟩ rack o2 rs base := by rw [hW6]; exact hT6.below (Below.refl _ _).drew
         have hC7 : Blk W6 w5.heap.size 61 #[.int .i64 row, .int .i64 col, .bool false, sv y] := by rw [hW6]; exact hC6
         have hK7 : Kept w W6 gt (.slice A0 ps.length n0) o2 := by rw [hW6]; exact hKW.trans (Kept.of_below (Below.refl _ _).drew gt o2)
         have hr7 : Reads W6 w3.heap.size 1 (some ad) F.length (F.map sv) := by rw [hW6]; exact hr6
         have hz7 : w3.heap.size ≤ W6.heap.size := by rw [hW6]; exact hz6
         refine wp_region_v 9 10 (SA 6 7 [4, 5] W6 (.cells #[.int .i64 row, .int .i64 col, .bool false, sv y] 61) (fun u w' => w'.ownsRow base 61 4 u (rs.length + 1) (psC rs ++ plC ⟨row, col, false, y⟩) ∧ W6.grownBy w' o2.ownBlock ∧ (u.ownBlock = o2.ownBlock ∨ u.ownBlock = some (W6.heap.size + 1)))) (by kernel_rfl) (by kernel_rfl) ⟨fun _ => undef, by rw [← hW6]; exact SA.start⟩ ?_
         clear hW6 hz66 hT6 hC6 hKW hr6 hz6
         have c3a : W6.cell? ⟨gt, 3, none⟩ = some o2 := hT7.blk.cell 3
         have c3b : (W6.alloc (.cells #[.int .i64 row, .int .i64 col, .bool false, sv y] 61)).cell? ⟨gt, 3, none⟩ = some o2 := (hT7.blk.alloc _).cell 3
         have hC8 := hC7.alloc (.cells #[.int .i64 row, .int .i64 col, .bool false, sv y] 61)
         simp only [qqT, List.take_zero, qqD, List.drop_zero]
         iterate 4
           apply pv_step (fun _ => rfl)
           · intro σ L w' hS h1 h2 K hK
             clear h2
             go_wp2
             exact hS.keep (by decide) (by decide)
           simp only [Act.put, qqS, qqC, qqZ]
         apply pv_step (fun _ => rfl)
         · intro σ L w' hS h1 h2 K hK
           clear h2
           have f3 : w'.cell? ⟨gt, 3, none⟩ = some o2 := hS.cell (by decide) h1 c3a c3b
           go_wp2
           exact hS.keep (by decide) (by decide)
         simp only [Act.put, qqS, qqC, qqZ]
         apply pv_step (fun _ => rfl)
         · intro σ L w' hS h1 h2 K hK
           clear h2
           have d0 : w'.cell? ⟨w5.heap.size, 0, none⟩ = some (.int .i64 row) := hS.cell (by decide) h1 (hC7.cell 0) (hC8.cell 0)
           have d1 : w'.cell? ⟨w5.heap.size, 1, none⟩ = some (.int .i64 col) := hS.cell (by decide) h1 (hC7.cell 1) (hC8.cell 1)
           have d2 : w'.cell? ⟨w5.heap.size, 2, none⟩ = some (.bool false) := hS.cell (by decide) h1 (hC7.cell 2) (hC8.cell 2)
           have d3 : w'.cell? ⟨w5.heap.size, 3, none⟩ = some (sv y) := hS.cell (by decide) h1 (hC7.cell 3) (hC8.cell 3)
           go_wp2
           exact hS.keep (by decide) (by decide)
         simp only [Act.put, qqS, qqC, qqZ]
         apply pv_step (fun _ => rfl)
         · intro σ L w' hS h1 h2 K hK
           clear h2
           have hS' := hS.tob h1 (by decide)
           obtain rfl := hS.atb h1
           have hlit := run_lit1 playT (.agg #[.int .i64 row, .int .i64 col, .bool false, sv y]) #[.int .i64 row, .int .i64 col, .bool false, sv y] rfl rfl (by omega)
           go_wp2
           exact hS'
         simp only [Act.put, qqS, qqC, qqZ]
         apply pv_free (fun _ => rfl)
         · intro σ L w' hS h1 h2 K hK
           have g6 := h2 6 (List.contains_iff_mem.1 (by kernel_rfl))
           have g4 := h2 4 (List.contains_iff_mem.1 (by kernel_rfl))
           have g5 := h2 5 (List.contains_iff_mem.1 (by kernel_rfl))
           clear h2
           obtain rfl := hS.ata h1 g6
           refine oper_app playT (.tmp 90) (.tmp 92) rfl o2 rs.length (psC rs) rfl base hT7.own (plC ⟨row, col, false, y⟩) rfl (by simp [plC, Value.oneCell']) W6.heap.size rfl rfl (by omega) (by omega) (by omega) ?_
           intro v1 w1' h11 h12 h13
           exact hK v1 w1' (SA.toa g6 (by simp [g4, g5]) ⟨h11, h12, h13⟩)
         simp only [Act.put, qqS, qqC, qqZ]
         iterate 2
           apply pv_step (fun _ => rfl)
           · intro σ L w' hS h1 h2 K hK
             clear h2
             go_wp2
             exact hS.keep (by decide) (by decide)
           simp only [Act.put, qqS, qqC, qqZ]
         refine pv_nil ?_
         intro σ w8 hS
         obtain ⟨own8, hg8, hat8⟩ := hS.fin rfl
         obtain ⟨v8, hv8⟩ : ∃ v8, v8 = σ 7 := ⟨_, rfl⟩
         rw [← hv8] at own8 hat8
         simp only [← hv8]
         clear hS hv8
         obtain ⟨A8, c8, rfl, _, _⟩ := own_sl own8
         have hne8 := own_blk_ne hT7.own hT7.blk (by decide)
         have hB8 := hT7.blk.grown hg8 (fun h => hne8 h.symm)
         have e8 : w8.cell? ⟨gt, 3, none⟩ = some o2 := hB8.cell 3
         have e9 : w8.frozen? ⟨gt, 3, none⟩ = false := hB8.frozen 3
         obtain ⟨hT9, hK9⟩ := hT7.app hg8 hat8 (qs' := rs ++ [⟨row, col, false, y⟩]) (own_cast own8 (by rw [psC_append, psC_one]) (by simp))
         go_wp2
         go_roundw
         case rel =>
           have had := hlo3 ad rfl
           refine ⟨k + 1, .slice A8 (rs.length + 1) c8, by omega, by go_num, by rw [hcat.out]; exact hT9, hK7.trans hK9, Reads.far (hr7.grown2 hlo3 hg8 hz7 hq4) (by show gt < _; omega) _, by have := hg8.size; simp; omega, ?_⟩
           intro q hq
           rcases hat8 with h | h
           · exact hq4 q (by rw [← h]; exact hq)
           · rw [h] at hq; injection hq with hq; right; omega
         case measure => simp [intOf]; omega
       · have hl0' : (lc == 0) = false := by simpa using hl0
         go_wp2
         go_roundw
         case rel => exact ⟨k + 1, o2, by omega, by go_num, by rw [hstep2.out, if_neg hl0]; exact hT6, hKW, hr6, hz6, hq4⟩
         case measure => simp [intOf]; omega
     · have hturn : ∀ w, Calls Tryz.prog 152 #[.agg #[.int .i64 row, .int .i64 col, .bool false, sv y]] w fun e w' => e = .returned (.agg #[.int .i64 col, .int .i64 row, .bool true, sv y]) ∧ Below w.heap.size w w' := fun w => l12Turn_any ⟨row, col, false, y⟩ w
       go_wp2_with (first
         | (go_at_call 311; refine (hfl _ hfb4).mono ?_; rintro e w5 ⟨rfl, hb5⟩)
         | (go_at_call 152; refine (hturn _).mono ?_; rintro e w5b ⟨rfl, hb5b⟩
            have hBb : Blk w5b w5.heap.size 61 #[.int .i64 row, .int .i64 col, .bool false, sv y] := (Blk.new _ _ _).below hb5b (by simp)
            have t0 : w5b.cell? ⟨w5.heap.size, 0, none⟩ = some (.int .i64 row) := hBb.cell 0
            have t1 : w5b.cell? ⟨w5.heap.size, 1, none⟩ = some (.int .i64 col) := hBb.cell 1
            have t2 : w5b.cell? ⟨w5.heap.size, 2, none⟩ = some (.bool false) := hBb.cell 2
            have t3 : w5b.cell? ⟨w5.heap.size, 3, none⟩ = some (sv y) := hBb.cell 3
            have s0 : w5b.frozen? ⟨w5.heap.size, 0, none⟩ = false := hBb.frozen 0
            have s1 : w5b.frozen? ⟨w5.heap.size, 1, none⟩ = false := hBb.frozen 1
            have s2 : w5b.frozen? ⟨w5.heap.size, 2, none⟩ = false := hBb.frozen 2
            have s3 : w5b.frozen? ⟨w5.heap.size, 3, none⟩ = false := hBb.frozen 3))
       obtain ⟨W, hW⟩ : ∃ W, W = (((w5b.setCell ⟨w5.heap.size, 0, none⟩ (.int .i64 col)).setCell ⟨w5.heap.size, 1, none⟩ (.int .i64 row)).setCell ⟨w5.heap.size, 2, none⟩ (.bool true)).setCell ⟨w5.heap.size, 3, none⟩ (sv y) := ⟨_, rfl⟩
       have hBW : Blk W w5.heap.size 61 #[.int .i64 col, .int .i64 row, .bool true, sv y] := by rw [hW]; exact (((hBb.set_ 0 _).set_ 1 _).set_ 2 _).set_ 3 _
       have hz5 := hb5.size
       have hwW : Below wr.heap.size wr W := by rw [hW]; exact (((((hb5.alloc hb5.size _).trans (hb5b.mono (by simp; omega))).setCell hz5 _).setCell hz5 _).setCell hz5 _).setCell hz5 _
       clear t0 t1 t2 t3 s0 s1 s2 s3
       rw [← hW]
       clear hW
       have hTW := hT4.below hwW
       have hbgW := hbg.trans (hwW.mono hbwr)
       have hpbW := hpb.below hbgW hgb
       have hlxW := hlx.low hgl hlo hbgW
       refine wp_region_b 15 (by kernel_rfl) (by kernel_rfl) ?_
       simp only [qqT, List.take_zero, qqD, List.drop_zero]
       iterate 15
         apply pc_step rfl
         · intro w6 hb6 K hK
           have hB6 := hTW.blk.below hb6 hTW.blk.lt
           have f0 : w6.cell? ⟨gt, 0, none⟩ = some (.pointer (some pl)) := hB6.cell 0
           have f1 : w6.cell? ⟨gt, 1, none⟩ = some (.pointer (some ⟨gb, 0, none⟩)) := hB6.cell 1
           have f2 : w6.cell? ⟨gt, 2, none⟩ = some (sv rack) := hB6.cell 2
           have hC6 := hBW.below hb6 hBW.lt
           have d0 : w6.cell? ⟨w5.heap.size, 0, none⟩ = some (.int .i64 col) := hC6.cell 0
           have d1 : w6.cell? ⟨w5.heap.size, 1, none⟩ = some (.int .i64 row) := hC6.cell 1
           have d2 : w6.cell? ⟨w5.heap.size, 2, none⟩ = some (.bool true) := hC6.cell 2
           have d3 : w6.cell? ⟨w5.heap.size, 3, none⟩ = some (sv y) := hC6.cell 3
           go_wp2_with (go_at_call 76; refine (l12Legal_any gb b pl A c0 ws rack ⟨col, row, true, y⟩ _ (hpbW.below hb6 hpbW.lt) hbd (hlxW.below hb6) hn (by omega) (by simp only; omega)).mono ?_; rintro e w7 ⟨rfl, hb7⟩)
           first | exact hb6 | exact hb6.trans (hb7.mono hb6.size)
         simp only [Act.put, qqS, qqC, qqZ]
       refine pc_nil ?_
       intro w6 hb6
       have hstep2 : Hid (wayL b ws rack f word row col true (F.take (k + 1)) = if legalC b ws rack ⟨col, row, true, y⟩ = 0 then wayL b ws rack f word row col true (F.take k) ++ [⟨col, row, true, y⟩] else wayL b ws rack f word row col true (F.take k)) := Lib.hid (by rw [hstep.out, hyw.out]; rfl)
       have hqn := wayL_length b ws rack f word row col true (F.take k)
       have hqn2 : (F.take k).length ≤ F.length := by rw [List.length_take]; omega
       obtain ⟨qs, hqs⟩ : ∃ qs, qs = wayL b ws rack f word row col true (F.take k) := ⟨_, rfl⟩
       obtain ⟨lc, hlc⟩ : ∃ lc, lc = legalC b ws rack ⟨col, row, true, y⟩ := ⟨_, rfl⟩
       rw [← hqs] at hstep2 hTW hqn
       rw [← hlc] at hstep2
       have hKW := hK4.trans (Kept.of_below (hwW.trans (hb6.mono hwW.size)) gt o2)
       have hT6 := hTW.below hb6
       have hC6 := hBW.below hb6 hBW.lt
       have hrW := hr4.below' hwW hz4
       have hr6 := hrW.below' hb6 (by have := hwW.size; omega)
       have hz6 := Nat.le_trans hz4 (Nat.le_trans hwW.size hb6.size)
       simp only [← hlc]
       clear hqs hlc hyw hstep hK4 hTW hb6 hBW hwW hrW hr4 hz4 hT4
       by_cases hl0 : lc = 0
       · subst hl0
         go_wp2
         have hps2 : (ps ++ qs).length ≤ 2 ^ 38 := by rw [List.length_append]; omega
         have hcat : Hid (ps ++ wayL b ws rack f word row col true (F.take (k + 1)) = (ps ++ qs) ++ [⟨col, row, true, y⟩]) := Lib.hid (by rw [hstep2.out]; simp)
         obtain ⟨rs, hrs⟩ : ∃ rs, rs = ps ++ qs := ⟨_, rfl⟩
         rw [← hrs] at hT6 hps2 hcat
         clear hrs hstep2
         have hz66 : w6.drew.heap.size = w6.heap.size := rfl
         obtain ⟨W6, hW6⟩ : ∃ W6, W6 = w6.drew := ⟨_, rfl⟩
         have hT7 : TAt W6 gt pl ⟨gb, 0, none⟩ rack o2 rs base := by rw [hW6]; exact hT6.below (Below.refl _ _).drew
         have hC7 : Blk W6 w5.heap.size 61 #[.int .i64 col, .int .i64 row, .bool true, sv y] := by rw [hW6]; exact hC6
         have hK7 : Kept w W6 gt (.slice A0 ps.length n0) o2 := by rw [hW6]; exact hKW.trans (Kept.of_below (Below.refl _ _).drew gt o2)
         have hr7 : Reads W6 w3.heap.size 1 (some ad) F.length (F.map sv) := by rw [hW6]; exact hr6
         have hz7 : w3.heap.size ≤ W6.heap.size := by rw [hW6]; exact hz6
         refine wp_region_v 9 10 (SA 6 7 [4, 5] W6 (.cells #[.int .i64 col, .int .i64 row, .bool true, sv y] 61) (fun u w' => w'.ownsRow base 61 4 u (rs.length + 1) (psC rs ++ plC ⟨col, row, true, y⟩) ∧ W6.grownBy w' o2.ownBlock ∧ (u.ownBlock = o2.ownBlock ∨ u.ownBlock = some (W6.heap.size + 1)))) (by kernel_rfl) (by kernel_rfl) ⟨fun _ => undef, by rw [← hW6]; exact SA.start⟩ ?_
         clear hW6 hz66 hT6 hC6 hKW hr6 hz6
         have c3a : W6.cell? ⟨gt, 3, none⟩ = some o2 := hT7.blk.cell 3
         have c3b : (W6.alloc (.cells #[.int .i64 col, .int .i64 row, .bool true, sv y] 61)).cell? ⟨gt, 3, none⟩ = some o2 := (hT7.blk.alloc _).cell 3
         have hC8 := hC7.alloc (.cells #[.int .i64 col, .int .i64 row, .bool true, sv y] 61)
         simp only [qqT, List.take_zero, qqD, List.drop_zero]
         iterate 4
           apply pv_step (fun _ => rfl)
           · intro σ L w' hS h1 h2 K hK
             clear h2
             go_wp2
             exact hS.keep (by decide) (by decide)
           simp only [Act.put, qqS, qqC, qqZ]
         apply pv_step (fun _ => rfl)
         · intro σ L w' hS h1 h2 K hK
           clear h2
           have f3 : w'.cell? ⟨gt, 3, none⟩ = some o2 := hS.cell (by decide) h1 c3a c3b
           go_wp2
           exact hS.keep (by decide) (by decide)
         simp only [Act.put, qqS, qqC, qqZ]
         apply pv_step (fun _ => rfl)
         · intro σ L w' hS h1 h2 K hK
           clear h2
           have d0 : w'.cell? ⟨w5.heap.size, 0, none⟩ = some (.int .i64 col) := hS.cell (by decide) h1 (hC7.cell 0) (hC8.cell 0)
           have d1 : w'.cell? ⟨w5.heap.size, 1, none⟩ = some (.int .i64 row) := hS.cell (by decide) h1 (hC7.cell 1) (hC8.cell 1)
           have d2 : w'.cell? ⟨w5.heap.size, 2, none⟩ = some (.bool true) := hS.cell (by decide) h1 (hC7.cell 2) (hC8.cell 2)
           have d3 : w'.cell? ⟨w5.heap.size, 3, none⟩ = some (sv y) := hS.cell (by decide) h1 (hC7.cell 3) (hC8.cell 3)
           go_wp2
           exact hS.keep (by decide) (by decide)
         simp only [Act.put, qqS, qqC, qqZ]
         apply pv_step (fun _ => rfl)
         · intro σ L w' hS h1 h2 K hK
           clear h2
           have hS' := hS.tob h1 (by decide)
           obtain rfl := hS.atb h1
           have hlit := run_lit1 playT (.agg #[.int .i64 col, .int .i64 row, .bool true, sv y]) #[.int .i64 col, .int .i64 row, .bool true, sv y] rfl rfl (by omega)
           go_wp2
           exact hS'
         simp only [Act.put, qqS, qqC, qqZ]
         apply pv_free (fun _ => rfl)
         · intro σ L w' hS h1 h2 K hK
           have g6 := h2 6 (List.contains_iff_mem.1 (by kernel_rfl))
           have g4 := h2 4 (List.contains_iff_mem.1 (by kernel_rfl))
           have g5 := h2 5 (List.contains_iff_mem.1 (by kernel_rfl))
           clear h2
           obtain rfl := hS.ata h1 g6
           refine oper_app playT (.tmp 90) (.tmp 92) rfl o2 rs.length (psC rs) rfl base hT7.own (plC ⟨col, row, true, y⟩) rfl (by simp [plC, Value.oneCell']) W6.heap.size rfl rfl (by omega) (by omega) (by omega) ?_
           intro v1 w1' h11 h12 h13
           exact hK v1 w1' (SA.toa g6 (by simp [g4, g5]) ⟨h11, h12, h13⟩)
         simp only [Act.put, qqS, qqC, qqZ]
         iterate 2
           apply pv_step (fun _ => rfl)
           · intro σ L w' hS h1 h2 K hK
             clear h2
             go_wp2
             exact hS.keep (by decide) (by decide)
           simp only [Act.put, qqS, qqC, qqZ]
         refine pv_nil ?_
         intro σ w8 hS
         obtain ⟨own8, hg8, hat8⟩ := hS.fin rfl
         obtain ⟨v8, hv8⟩ : ∃ v8, v8 = σ 7 := ⟨_, rfl⟩
         rw [← hv8] at own8 hat8
         simp only [← hv8]
         clear hS hv8
         obtain ⟨A8, c8, rfl, _, _⟩ := own_sl own8
         have hne8 := own_blk_ne hT7.own hT7.blk (by decide)
         have hB8 := hT7.blk.grown hg8 (fun h => hne8 h.symm)
         have e8 : w8.cell? ⟨gt, 3, none⟩ = some o2 := hB8.cell 3
         have e9 : w8.frozen? ⟨gt, 3, none⟩ = false := hB8.frozen 3
         obtain ⟨hT9, hK9⟩ := hT7.app hg8 hat8 (qs' := rs ++ [⟨col, row, true, y⟩]) (own_cast own8 (by rw [psC_append, psC_one]) (by simp))
         go_wp2
         go_roundw
         case rel =>
           have had := hlo3 ad rfl
           refine ⟨k + 1, .slice A8 (rs.length + 1) c8, by omega, by go_num, by rw [hcat.out]; exact hT9, hK7.trans hK9, Reads.far (hr7.grown2 hlo3 hg8 hz7 hq4) (by show gt < _; omega) _, by have := hg8.size; simp; omega, ?_⟩
           intro q hq
           rcases hat8 with h | h
           · exact hq4 q (by rw [← h]; exact hq)
           · rw [h] at hq; injection hq with hq; right; omega
         case measure => simp [intOf]; omega
       · have hl0' : (lc == 0) = false := by simpa using hl0
         go_wp2
         go_roundw
         case rel => exact ⟨k + 1, o2, by omega, by go_num, by rw [hstep2.out, if_neg hl0]; exact hT6, hKW, hr6, hz6, hq4⟩
         case measure => simp [intOf]; omega
   · obtain rfl : k = F.length := by omega
     rw [List.take_length] at hT4
     go_wp2_with (fail)
     refine bodyPost_ret (v := .tuple #[]) (by simp [results, Tryz.results277, go_sem]) rfl (.mk o2 hT4 hK4)
set_option maxHeartbeats 400000
theorem needGo_all (b : Bd) (row : Int) : ∀ (word out : Str) (c : Int) (r : Str), needGo b row out word c = some r → out.all smallB = true → word.all smallB = true → r.all smallB = true
 | [], out, c, r, h, h1, _ => by simp [needGo] at h; subst h; exact h1
 | x :: t, out, c, r, h, h1, h2 => by
   rw [List.all_cons, Bool.and_eq_true] at h2
   rw [needGo] at h
   split at h
   · exact needGo_all b row t (out ++ [x]) (c + 1) r h (by rw [List.all_append, h1]; simp [h2.1]) h2.2
   · split at h
     · exact needGo_all b row t out (c + 1) r h h1 h2.2
     · cases h
theorem needS_all {f : Bd} {word need : Str} {row col : Int} (h : needS f word row col = some need) (hw : word.all smallB = true) : need.all smallB = true := by
 unfold needS at h
 split at h
 · exact needGo_all f row word [] col need h rfl hw
 · cases h
theorem try_any (gt : Nat) (pl : Addr) (gb : Nat) (rack : Str) (o : Value) (ps : List Pl) (base : Nat) (pf : Addr) (f b : Bd) (A : Option Addr) (c0 : Nat) (ws : List Str) (word : Str) (row col : Int) (down : Bool) (w : World)
   (hT : TAt w gt pl ⟨gb, 0, none⟩ rack o ps base) (hbase : base ≤ w.heap.size) (hfb : BAt w pf f) (hf : f.Fit) (hpb : BAt w ⟨gb, 0, none⟩ b) (hbd : bdB b = true) (hlx : LxAt w pl A c0 ws) (hn : ws.length ≤ 2 ^ 40) (hl : word.length ≤ 2 ^ 37) (hrk : rack.length ≤ 2 ^ 37) (hps : ps.length ≤ 2 ^ 37)
   (hlo : 0 < ws.length → ∀ x, A = some x → x.block < base) (hgf : pf.block ≠ gt) (hgf2 : o.ownBlock ≠ some pf.block) (hgb : gb < base) (hgl : pl.block < base) (hbt : base ≤ gt) (hws : word.all smallB = true) :
   Calls Tryz.prog 277 #[.pointer (some ⟨gt, 0, none⟩), .pointer (some pf), sv word, .int .i64 row, .int .i64 col, .bool down] w
     (TryPost w gt pl ⟨gb, 0, none⟩ rack o (tryF b ws rack f word row col down ps) base) := by
 have bad : (400 < ps.length ∨ needS f word row col = none ∨ needS f word row col = some [] ∨ ∃ need, needS f word row col = some need ∧ canB rack need = false) → tryF b ws rack f word row col down ps = ps →
     Calls Tryz.prog 277 #[.pointer (some ⟨gt, 0, none⟩), .pointer (some pf), sv word, .int .i64 row, .int .i64 col, .bool down] w
       (TryPost w gt pl ⟨gb, 0, none⟩ rack o (tryF b ws rack f word row col down ps) base) := fun hno he => by
   rw [he]
   exact (try_bad gt pl ⟨gb, 0, none⟩ rack o ps base pf f word row col down w hT hfb hf hl hrk hps hno).mono fun e w' ⟨h1, h2⟩ => ⟨o, h1, hT.below h2, Kept.of_below h2 gt o⟩
 by_cases h400 : 400 < ps.length
 · exact bad (.inl h400) (by unfold tryF; rw [if_pos h400])
 · cases hne : needS f word row col with
   | none => exact bad (.inr (.inl hne)) (by unfold tryF tryL; rw [if_neg h400, hne]; simp)
   | some need =>
     by_cases hnn : need = []
     · subst hnn
       exact bad (.inr (.inr (.inl hne))) (by unfold tryF tryL; rw [if_neg h400, hne]; simp)
     · cases hcan : canB rack need with
       | false => exact bad (.inr (.inr (.inr ⟨need, hne, hcan⟩))) (by unfold tryF tryL; rw [if_neg h400, hne]; simp [hnn, hcan])
       | true =>
         obtain ⟨h1, h2, _⟩ := needS_facts hf hne
         have h3 := dotN_le f row word col
         have he : tryF b ws rack f word row col down ps = ps ++ wayL b ws rack f word row col down (waysF rack need) := by
           unfold tryF tryL; rw [if_neg h400, hne]; simp only [if_neg hnn, hcan, if_true]; rfl
         rw [he]
         exact try_good gt pl gb rack o ps base pf f b A c0 ws word need row col down w hT hbase hfb hf hpb hbd hlx hn hl hrk hps hlo hgf hgf2 hgb hgl hbt (by omega) hne hnn hcan (by omega) (needS_all hne hws)
theorem tryL_length (b : Bd) (ws : List Str) (rack : Str) (f : Bd) (hf : f.Fit) (word : Str) (row col : Int) (down : Bool) : (tryL b ws rack f word row col down).length ≤ 2 ^ 15 := by
 unfold tryL
 cases hne : needS f word row col with
 | none => simp
 | some need =>
   obtain ⟨h1, h2, _⟩ := needS_facts hf hne
   have h3 := dotN_le f row word col
   simp only
   split
   · simp
   · split
     · refine Nat.le_trans (List.length_filter_le _ _) ?_
       rw [List.length_map]
       exact Nat.le_trans (waysF_length rack need) (Nat.pow_le_pow_right (by omega) (by omega))
     · simp
theorem tryF_length (b : Bd) (ws : List Str) (rack : Str) (f : Bd) (hf : f.Fit) (word : Str) (row col : Int) (down : Bool) (ps : List Pl) (h : ps.length ≤ 2 ^ 16) : (tryF b ws rack f word row col down ps).length ≤ 2 ^ 16 := by
 have := tryL_length b ws rack f hf word row col down
 unfold tryF
 split
 · exact h
 · rw [List.length_append]; omega
set_option maxHeartbeats 1000000
set_option maxRecDepth 100000
section
variable (b : Bd) (ws : List Str) (rack : Str)
def placeF (word : Str) (row col : Nat) (ps : List Pl) : List Pl := tryF b ws rack b.tr word row col true (tryF b ws rack b word row col false ps)
def colF (word : Str) (row : Nat) : Nat → List Pl → List Pl
 | 0, ps => ps
 | k + 1, ps => placeF b ws rack word row k (colF word row k ps)
def rowF (word : Str) (n : Nat) : Nat → List Pl → List Pl
 | 0, ps => ps
 | k + 1, ps => colF b ws rack word k n (rowF word n k ps)
def wordF (n : Nat) : Nat → List Pl → List Pl
 | 0, ps => ps
 | k + 1, ps => rowF b ws rack (ws.getD k []) n n (wordF n k ps)
def foundL : List Pl := wordF b ws rack b.size.toNat ws.length []
end
section
variable {b : Bd} {ws : List Str} {rack : Str}
theorem placeF_length (hf : b.Fit) (word : Str) (row col : Nat) (ps : List Pl) (h : ps.length ≤ 2 ^ 16) : (placeF b ws rack word row col ps).length ≤ 2 ^ 16 := tryF_length b ws rack b.tr hf.tr word row col true _ (tryF_length b ws rack b hf word row col false ps h)
theorem colF_length (hf : b.Fit) (word : Str) (row : Nat) : ∀ (k : Nat) (ps : List Pl), ps.length ≤ 2 ^ 16 → (colF b ws rack word row k ps).length ≤ 2 ^ 16
 | 0, _, h => h
 | k + 1, ps, h => placeF_length hf word row k _ (colF_length hf word row k ps h)
theorem rowF_length (hf : b.Fit) (word : Str) (n : Nat) : ∀ (k : Nat) (ps : List Pl), ps.length ≤ 2 ^ 16 → (rowF b ws rack word n k ps).length ≤ 2 ^ 16
 | 0, _, h => h
 | k + 1, ps, h => colF_length hf word k n _ (rowF_length hf word n k ps h)
theorem wordF_length (hf : b.Fit) (n : Nat) : ∀ (k : Nat) (ps : List Pl), ps.length ≤ 2 ^ 16 → (wordF b ws rack n k ps).length ≤ 2 ^ 16
 | 0, _, h => h
 | k + 1, ps, h => rowF_length hf _ n n _ (wordF_length hf n k ps h)
theorem foundL_length (hf : b.Fit) : (foundL b ws rack).length ≤ 2 ^ 16 := wordF_length hf _ _ [] (by simp)
end
structure ACtx (W : World) (gt base : Nat) (pl : Addr) (gb gf : Nat) (o0 : Value) (b : Bd) (A : Option Addr) (c0 : Nat) (ws : List Str) : Prop where
 hbase : base ≤ W.heap.size
 hpb : BAt W ⟨gb, 0, none⟩ b
 hbd : bdB b = true
 hlx : LxAt W pl A c0 ws
 hlo : 0 < ws.length → ∀ x, A = some x → x.block < base
 hgb : gb < base
 hgl : pl.block < base
 hbt : base ≤ gt
 hff : BAt W ⟨gf, 0, none⟩ b.tr
 hgf : gf ≠ gt
 hgf2 : o0.ownBlock ≠ some gf
 ho : ∀ k, o0.ownBlock = some k → base ≤ k
 hn : ws.length ≤ 2 ^ 40
 hwl : ∀ x ∈ ws, x.length ≤ 2 ^ 37
 hws : ∀ x ∈ ws, x.all smallB = true
def ARel (W : World) (gt base : Nat) (pl : Addr) (gb : Nat) (rack : Str) (o0 : Value) (ps : List Pl) (wr : World) : Prop :=
 ∃ o, TAt wr gt pl ⟨gb, 0, none⟩ rack o ps base ∧ Kept W wr gt o0 o
section
variable {W wr : World} {gt base : Nat} {pl : Addr} {gb gf : Nat} {o0 : Value} {b : Bd} {A : Option Addr} {c0 : Nat} {ws : List Str} {rack : Str} {ps : List Pl}
theorem ARel.low (c : ACtx W gt base pl gb gf o0 b A c0 ws) (h : ARel W gt base pl gb rack o0 ps wr) : Below base W wr := by
 obtain ⟨o, h1, h2⟩ := h
 exact h2.below c.hbt c.ho c.hbase
theorem ARel.drew (h : ARel W gt base pl gb rack o0 ps wr) : ARel W gt base pl gb rack o0 ps wr.drew := by
 obtain ⟨o, h1, h2⟩ := h
 exact ⟨o, h1.below (Below.refl _ _).drew, h2.trans (Kept.of_below (Below.refl _ _).drew gt o)⟩
theorem ARel.b_ (c : ACtx W gt base pl gb gf o0 b A c0 ws) (h : ARel W gt base pl gb rack o0 ps wr) : BAt wr ⟨gb, 0, none⟩ b := c.hpb.below (h.low c) c.hgb
theorem ARel.lx (c : ACtx W gt base pl gb gf o0 b A c0 ws) (h : ARel W gt base pl gb rack o0 ps wr) : LxAt wr pl A c0 ws := c.hlx.low c.hgl c.hlo (h.low c)
theorem ARel.step1 (c : ACtx W gt base pl gb gf o0 b A c0 ws) (h : ARel W gt base pl gb rack o0 ps wr) (hrk : rack.length ≤ 2 ^ 37) (hps : ps.length ≤ 2 ^ 16) (word : Str) (hw : word ∈ ws) (row col : Int) :
   Calls Tryz.prog 277 #[.pointer (some ⟨gt, 0, none⟩), .pointer (some ⟨gb, 0, none⟩), sv word, .int .i64 row, .int .i64 col, .bool false] wr fun e w' => e = .returned (.tuple #[]) ∧ ARel W gt base pl gb rack o0 (tryF b ws rack b word row col false ps) w' := by
 have hb := h.b_ c
 have hl := h.lx c
 have hlow := h.low c
 obtain ⟨o, h1, h2⟩ := h
 refine (try_any gt pl gb rack o ps base ⟨gb, 0, none⟩ b b A c0 ws word row col false wr h1 (Nat.le_trans c.hbase hlow.size) hb (bdB.fit c.hbd) hb c.hbd hl c.hn (c.hwl word hw) hrk (by omega) c.hlo ?_ ?_ c.hgb c.hgl c.hbt (c.hws word hw)).mono ?_
 · have := c.hgb; have := c.hbt; show gb ≠ gt; omega
 · intro e
   have := (h1.own.lt gb e).1
   have := c.hgb
   omega
 · rintro e w' ⟨o', h3, h4, h5⟩
   exact ⟨h3, o', h4, h2.trans h5⟩
theorem ARel.step2 (c : ACtx W gt base pl gb gf o0 b A c0 ws) (h : ARel W gt base pl gb rack o0 ps wr) (hrk : rack.length ≤ 2 ^ 37) (hps : ps.length ≤ 2 ^ 16) (word : Str) (hw : word ∈ ws) (row col : Int) :
   Calls Tryz.prog 277 #[.pointer (some ⟨gt, 0, none⟩), .pointer (some ⟨gf, 0, none⟩), sv word, .int .i64 row, .int .i64 col, .bool true] wr fun e w' => e = .returned (.tuple #[]) ∧ ARel W gt base pl gb rack o0 (tryF b ws rack b.tr word row col true ps) w' := by
 have hb := h.b_ c
 have hl := h.lx c
 have hlow := h.low c
 obtain ⟨o, h1, h2⟩ := h
 have hgo : o.ownBlock ≠ some gf := by
   rcases h2.at_ with e | ⟨k, hk, e⟩
   · rw [e]; exact c.hgf2
   · rw [e]; intro e2; injection e2 with e2; have := c.hff.lt; simp only at this; omega
 refine (try_any gt pl gb rack o ps base ⟨gf, 0, none⟩ b.tr b A c0 ws word row col true wr h1 (Nat.le_trans c.hbase hlow.size) (c.hff.kept h2 c.hgf c.hgf2) (bdB.fit c.hbd).tr hb c.hbd hl c.hn (c.hwl word hw) hrk (by omega) c.hlo c.hgf hgo c.hgb c.hgl c.hbt (c.hws word hw)).mono ?_
 rintro e w' ⟨o', h3, h4, h5⟩
 exact ⟨h3, o', h4, h2.trans h5⟩
end
theorem l16All_any (pl : Addr) (gb : Nat) (rack : Str) (b : Bd) (A : Option Addr) (c0 : Nat) (ws : List Str) (w : World) (hpb : BAt w ⟨gb, 0, none⟩ b) (hbd : bdB b = true) (hlx : LxAt w pl A c0 ws) (hn : ws.length ≤ 2 ^ 40) (hwl : ∀ x ∈ ws, x.length ≤ 2 ^ 37) (hws : ∀ x ∈ ws, x.all smallB = true) (hrk : rack.length ≤ 2 ^ 37) :
   Calls Tryz.prog 206 #[.pointer (some pl), .pointer (some ⟨gb, 0, none⟩), sv rack] w (SortPost w (sortN (foundL b ws rack).length (foundL b ws rack))) := by
 have hf := bdB.fit hbd
 have htr := fun (w : World) (hp : BAt w ⟨gb, 0, none⟩ b) => l11Transpose_any ⟨gb, 0, none⟩ b w hp hf
 obtain ⟨f, hfe⟩ : ∃ f, f = b.tr := ⟨_, rfl⟩
 rw [← hfe] at htr
 simp only [Bd.v] at htr
 have hfe' := Lib.hid hfe
 clear hfe
 go_enter Tryz.func206, Tryz.ntmps206
 go_wp2_with (first
   | (go_at_call 151; refine (htr _ ((hpb.alloc _).alloc _)).mono ?_; rintro e w1 ⟨rfl, hb1⟩))
 obtain ⟨W, hW⟩ : ∃ W, W = w1.alloc (.cells #[.int .i64 f.size, sv f.prem, sv f.cells] 41) := ⟨_, rfl⟩
 rw [← hW]
 have hB0 : Below w.heap.size w ((w.alloc (.cells #[] 61)).alloc (.cells #[.pointer (some pl), .pointer (some ⟨gb, 0, none⟩), sv rack, .slice (some ⟨w.heap.size, 0, none⟩) 0 0] 309)) := ((Below.refl _ _).alloc (Nat.le_refl _) _).alloc (by simp) _
 have hB1 := hB0.trans (hb1.mono hB0.size)
 have hWb : Below w.heap.size w W := by rw [hW]; exact hB1.alloc hB1.size _
 have hT0 : TAt ((w.alloc (.cells #[] 61)).alloc (.cells #[.pointer (some pl), .pointer (some ⟨gb, 0, none⟩), sv rack, .slice (some ⟨w.heap.size, 0, none⟩) 0 0] 309)) (w.heap.size + 1) pl ⟨gb, 0, none⟩ rack (.slice (some ⟨w.heap.size, 0, none⟩) 0 0) [] w.heap.size :=
   ⟨Blk.new1 w _ _ _, (World.ownsRow_lit (base := w.heap.size) (size := 4) (e := 61) w #[] 0 (Nat.le_refl _) (by unfold maxLen; omega) rfl).alloc _⟩
 have hz1 : w.heap.size + 2 ≤ w1.heap.size := by have := hb1.size; simpa using this
 have hTW : TAt W (w.heap.size + 1) pl ⟨gb, 0, none⟩ rack (.slice (some ⟨w.heap.size, 0, none⟩) 0 0) [] w.heap.size := by rw [hW]; exact (hT0.below hb1).below ((Below.refl _ _).alloc (Nat.le_refl _) _)
 have hff : BAt W ⟨w1.heap.size, 0, none⟩ f := by rw [hW]; exact BAt.new w1 f _
 have hc : ACtx W (w.heap.size + 1) w.heap.size pl gb w1.heap.size (.slice (some ⟨w.heap.size, 0, none⟩) 0 0) b A c0 ws :=
   ⟨hWb.size, hpb.below hWb hpb.lt, hbd, hlx.below hWb, fun h x e => by
     obtain ⟨ad, e2, h2, _⟩ := hlx.reads.2 h
     rw [e] at e2; injection e2 with e2; rw [e2]; exact h2, hpb.lt, World.block_lt_of_cell? w pl hlx.cell, by omega, by rw [← hfe'.out]; exact hff, by omega, by simp [Value.ownBlock]; omega, fun k hk => by simp [Value.ownBlock] at hk; omega, hn, hwl, hws⟩
 have hA0 : ARel W (w.heap.size + 1) w.heap.size pl gb rack (.slice (some ⟨w.heap.size, 0, none⟩) 0 0) [] W := ⟨_, hTW, Kept.refl _ _ _⟩
 obtain ⟨n, hsz⟩ : ∃ n : Nat, b.size = (n : Int) := ⟨b.size.toNat, by have := hf.lo; omega⟩
 have hend : Hid (wordF b ws rack n ws.length [] = foundL b ws rack) := Lib.hid (by unfold foundL; rw [hsz]; rfl)
 have hnn : n ≤ 15 := by have := hf.hi; omega
 have hbs : ∀ wr : World, BAt wr ⟨gb, 0, none⟩ b → wr.cell? ⟨gb, 0, none⟩ = some (.int .i64 (n : Int)) := fun wr h => by rw [← hsz]; exact h.1
 have hbs' := Lib.hid hbs
 obtain ⟨o0, ho0⟩ : ∃ o0 : Value, o0 = .slice (some ⟨w.heap.size, 0, none⟩) 0 0 := ⟨_, rfl⟩
 rw [← ho0] at hc hA0
 obtain ⟨gf, hgf⟩ : ∃ gf, gf = w1.heap.size := ⟨_, rfl⟩
 rw [← hgf] at hc ⊢
 clear hbs hsz hT0 hTW hff hW hB0 hB1 hb1 hz1 ho0 hgf htr hfe' hpb hlx
 go_loopw [9] (fun i wr => ∃ k : Nat, k ≤ ws.length ∧ i = .int .i64 k ∧ ARel W (w.heap.size + 1) w.heap.size pl gb rack o0 (wordF b ws rack n k []) wr) (fun i _ => ws.length - (intOf i).toNat)
 case atStart => exact ⟨0, by omega, rfl, hA0⟩
 case round =>
   clear hA0
   obtain ⟨k, hk, rfl, hA⟩ := hrel
   have hl := hA.lx hc
   have e0 := hl.cell
   by_cases hkl : k < ws.length
   · have hkk : (k : Int) < (ws.length : Int) := by omega
     have hlk := wordF_length (b := b) (ws := ws) (rack := rack) hf n k [] (by simp)
     have hmem : ws[k] ∈ ws := List.getElem_mem hkl
     have hel := Lib.hid (fun (wr : World) (h : LxAt wr pl A c0 ws) => h.reads.el hkl)
     have hstep : Hid (wordF b ws rack n (k + 1) [] = rowF b ws rack ws[k] n n (wordF b ws rack n k [])) := Lib.hid (by rw [wordF, List.getD_eq_getElem?_getD, List.getElem?_eq_getElem hkl]; rfl)
     obtain ⟨word, hword⟩ : ∃ word, word = ws[k] := ⟨_, rfl⟩
     rw [← hword] at hmem hel hstep
     clear hword
     obtain ⟨P0, hP0⟩ : ∃ P0, P0 = wordF b ws rack n k [] := ⟨_, rfl⟩
     rw [← hP0] at hA hlk hstep
     clear hP0
     go_wp2_with (fail)
     obtain ⟨wo, rfl⟩ : ∃ wo : World, wo = wr := ⟨_, rfl⟩
     go_loopw [10, 11] (fun i _ wr => ∃ r : Nat, r ≤ n ∧ i = .int .i64 r ∧ ARel W (w.heap.size + 1) w.heap.size pl gb rack o0 (rowF b ws rack word n r P0) wr) (fun i _ _ => n - (intOf i).toNat)
     case atStart => exact ⟨0, by omega, rfl, hA⟩
     case round =>
       clear hA e0 hl
       obtain ⟨r, hr, rfl, hA⟩ := hrel
       have hb := hbs'.out wr (hA.b_ hc)
       have hlr := rowF_length (b := b) (ws := ws) (rack := rack) hf word n r P0 hlk
       by_cases hrn : r < n
       · have hrr : (r : Int) < (n : Int) := by omega
         have hstep2 : Hid (rowF b ws rack word n (r + 1) P0 = colF b ws rack word r n (rowF b ws rack word n r P0)) := Lib.hid (by rw [rowF])
         obtain ⟨P1, hP1⟩ : ∃ P1, P1 = rowF b ws rack word n r P0 := ⟨_, rfl⟩
         rw [← hP1] at hA hlr hstep2
         clear hP1
         go_wp2_with (fail)
         obtain ⟨wo, rfl⟩ : ∃ wo : World, wo = wr := ⟨_, rfl⟩
         go_loopw [11] (fun i wr => ∃ c : Nat, c ≤ n ∧ i = .int .i64 c ∧ ARel W (w.heap.size + 1) w.heap.size pl gb rack o0 (colF b ws rack word r c P1) wr) (fun i _ => n - (intOf i).toNat)
         case atStart => exact ⟨0, by omega, rfl, hA⟩
         case round =>
           clear hA hb
           obtain ⟨c, hcn, rfl, hA⟩ := hrel
           have hb := hbs'.out wr (hA.b_ hc)
           have hlc := colF_length (b := b) (ws := ws) (rack := rack) hf word r c P1 hlr
           by_cases hc1 : c < n
           · have hcc : (c : Int) < (n : Int) := by omega
             have hstep3 : Hid (colF b ws rack word r (c + 1) P1 = placeF b ws rack word r c (colF b ws rack word r c P1)) := Lib.hid (by rw [colF])
             obtain ⟨P2, hP2⟩ : ∃ P2, P2 = colF b ws rack word r c P1 := ⟨_, rfl⟩
             rw [← hP2] at hA hlc hstep3
             clear hP2
             have e0 := (hA.lx hc).cell
             obtain ⟨ad, rfl, hadb, e1⟩ := hel.out wr (hA.lx hc)
             have hl2 := tryF_length b ws rack b hf word r c false P2 hlc
             go_wp2_with (first
               | (go_at_call 277; refine (hA3.step2 hc hrk hl2 word hmem r c).mono ?_; rintro e w4 ⟨rfl, hA4⟩)
               | (go_at_call 277; refine (hA.step1 hc hrk hlc word hmem r c).mono ?_; rintro e w3 ⟨rfl, hA3⟩
                  have e3 := (hA3.lx hc).cell
                  have e4 : w3.cell? (ad.add k) = some (sv word) := by
                    obtain ⟨ad', e, _, h⟩ := hel.out w3 (hA3.lx hc)
                    injection e with e
                    rw [e]; exact h))
             go_roundw
             case rel => exact ⟨c + 1, by omega, by go_num, by rw [hstep3.out]; exact hA4⟩
             case measure => simp [intOf]; omega
           · obtain rfl : c = n := by omega
             go_wp2_with (fail)
             go_roundw
             case rel => exact ⟨r + 1, by omega, by go_num, by rw [hstep2.out]; exact hA⟩
             case measure => simp [intOf]; omega
       · obtain rfl : r = n := by omega
         go_wp2_with (fail)
         go_roundw
         case rel => exact ⟨k + 1, by omega, by go_num, by rw [hstep.out]; exact hA⟩
         case measure => simp [intOf]; omega
   · obtain rfl : k = ws.length := by omega
     have hS := Lib.hid (fun w' v (h : PSl w' v (foundL b ws rack)) (hle : (foundL b ws rack).length ≤ 2 ^ 37) => l16Sort_any (foundL b ws rack).length (foundL b ws rack) v w' (Nat.le_refl _) hle h)
     have hfl := foundL_length (b := b) (ws := ws) (rack := rack) hf
     have hlow := hA.low hc
     rw [hend.out] at hA
     obtain ⟨o, h1, h2⟩ := hA
     have hpsl : PSl wr o (foundL b ws rack) := PSl.of_own h1.own
     have e3 : wr.cell? ⟨w.heap.size + 1, 3, none⟩ = some o := h1.blk.cell 3
     go_wp2_with (go_at_call 278; refine (hS.out _ _ hpsl (by omega)).mono ?_; rintro e w5 ⟨v5, rfl, hp5, hb5⟩)
     go_ret
     exact ⟨_, rfl, hp5, hWb.trans (hlow.trans (hb5.mono (Nat.le_trans hWb.size hlow.size)))⟩
def argsB (b : Bd) (ws : List Str) (rack : Str) : Bool := lexB ws && (bdB b && rackB rack)
def playsCode (b : Bd) (ws : List Str) (rack : Str) : Int := if argsB b ws rack then if 400 < (foundL b ws rack).length then 5 else 0 else 1
def playsL (b : Bd) (ws : List Str) (rack : Str) : List Pl := sortN (foundL b ws rack).length (foundL b ws rack)
theorem playsL_length (b : Bd) (ws : List Str) (rack : Str) : (playsL b ws rack).length = (foundL b ws rack).length := sortN_length _ _
def PlaysPost (w : World) (b : Bd) (ws : List Str) (rack : Str) (e : Ending) (w' : World) : Prop :=
 ∃ v, e = .returned (.tuple #[v, .int .i64 (playsCode b ws rack)]) ∧ (playsCode b ws rack = 0 → PSl w' v (playsL b ws rack)) ∧ (playsCode b ws rack ≠ 0 → v = .slice none 0 0) ∧ Below w.heap.size w w'
theorem PlaysPost.no {w w' : World} {b : Bd} {ws : List Str} {rack : Str} {c : Int} (h : playsCode b ws rack = c) (hc : c ≠ 0) (hb : Below w.heap.size w w') : PlaysPost w b ws rack (.returned (.tuple #[.slice none 0 0, .int .i64 c])) w' :=
 ⟨_, by rw [h], fun h2 => absurd (h ▸ h2) hc, fun _ => rfl, hb⟩
theorem PlaysPost.yes {w w' : World} {b : Bd} {ws : List Str} {rack : Str} {v : Value} (h : playsCode b ws rack = 0) (hv : PSl w' v (playsL b ws rack)) (hb : Below w.heap.size w w') : PlaysPost w b ws rack (.returned (.tuple #[v, .int .i64 0])) w' :=
 ⟨v, by rw [h], fun _ => hv, fun h2 => absurd h h2, hb⟩
theorem lexB_words {ws : List Str} (h : lexB ws = true) : ∀ x ∈ ws, x.all smallB = true ∧ x.length ≤ 12 := by
 unfold lexB at h
 rw [Bool.and_eq_true, lexFrom_eq, Bool.and_eq_true] at h
 intro x hx
 have := List.all_eq_true.1 h.1.2 x hx
 unfold longB isWordB inR at this
 simp only [Bool.and_eq_true, decide_eq_true_eq] at this
 exact ⟨this.2.1, by omega⟩
theorem lexB_len {ws : List Str} (h : lexB ws = true) : ws.length ≤ 200 := by
 unfold lexB at h
 rw [Bool.and_eq_true] at h
 simpa using h.2
theorem rackB_len {rack : Str} (h : rackB rack = true) : rack.length ≤ 7 := by
 unfold rackB at h
 rw [Bool.and_eq_true] at h
 simpa using h.2
theorem l16Plays_any (pl : Addr) (gb : Nat) (rack : Str) (b : Bd) (A : Option Addr) (c0 : Nat) (ws : List Str) (w : World) (hpb : BAt w ⟨gb, 0, none⟩ b) (hlx : LxAt w pl A c0 ws) (hn : ws.length ≤ 2 ^ 40) (hwl : ∀ x ∈ ws, x.length ≤ 2 ^ 40) (hrk : rack.length ≤ 2 ^ 40) (h1 : b.prem.length ≤ 2 ^ 40) (h2 : b.cells.length ≤ 2 ^ 40) :
   Calls Tryz.prog 138 #[.pointer (some pl), .pointer (some ⟨gb, 0, none⟩), sv rack] w (PlaysPost w b ws rack) := by
 have k1 := fun (w : World) (h : LxAt w pl A c0 ws) => l05Ok_any A c0 ws pl w h.cell h.reads hn hwl
 have k2 := fun (w : World) (h : BAt w ⟨gb, 0, none⟩ b) => l11Ok_any ⟨gb, 0, none⟩ b w h h1 h2
 have k3 := fun (w : World) => l03Rack_any rack w hrk
 have hcode : Hid (playsCode b ws rack = if argsB b ws rack then if 400 < (foundL b ws rack).length then 5 else 0 else 1) := Lib.hid rfl
 have hargs : Hid (argsB b ws rack = (lexB ws && (bdB b && rackB rack))) := Lib.hid rfl
 cases e1 : lexB ws
 · rw [e1] at k1 hargs
   go_enter Tryz.func138, Tryz.ntmps138
   go_wp2_with (go_at_call 205; refine (k1 _ hlx).mono ?_; rintro e w1 ⟨rfl, hb1⟩)
   go_ret2
   exact PlaysPost.no (by rw [hcode.out, hargs.out]; rfl) (by decide) hb1
 · rw [e1] at k1 hargs
   cases e2 : bdB b
   · rw [e2] at k2 hargs
     go_enter Tryz.func138, Tryz.ntmps138
     go_wp2_with (first
       | (go_at_call 205; refine (k1 _ hlx).mono ?_; rintro e w1 ⟨rfl, hb1⟩)
       | (go_at_call 189; refine (k2 _ (hpb.below hb1 hpb.lt)).mono ?_; rintro e w2 ⟨rfl, hd2⟩))
     go_ret2
     exact PlaysPost.no (by rw [hcode.out, hargs.out]; rfl) (by decide) (hb1.trans (hd2.below.mono hb1.size))
   · rw [e2] at k2 hargs
     cases e3 : rackB rack
     · rw [e3] at k3 hargs
       go_enter Tryz.func138, Tryz.ntmps138
       go_wp2_with (first
         | (go_at_call 205; refine (k1 _ hlx).mono ?_; rintro e w1 ⟨rfl, hb1⟩)
         | (go_at_call 189; refine (k2 _ (hpb.below hb1 hpb.lt)).mono ?_; rintro e w2 ⟨rfl, hd2⟩)
         | (go_at_call 191; refine (k3 _).mono ?_; rintro e w3 ⟨rfl, hd3⟩))
       go_ret2
       exact PlaysPost.no (by rw [hcode.out, hargs.out]; rfl) (by decide) (hb1.trans ((hd2.trans hd3).below.mono hb1.size))
     · rw [e3] at k3 hargs
       have hwd := lexB_words e1
       have hrl := rackB_len e3
       have k4 := fun (w : World) (hp : BAt w ⟨gb, 0, none⟩ b) (hl : LxAt w pl A c0 ws) => l16All_any pl gb rack b A c0 ws w hp e2 hl hn (fun x hx => by have := (hwd x hx).2; omega) (fun x hx => (hwd x hx).1) (by omega)
       have hpl : Hid (playsL b ws rack = sortN (foundL b ws rack).length (foundL b ws rack)) := Lib.hid rfl
       have hfl := foundL_length (ws := ws) (rack := rack) (bdB.fit e2)
       have hsl := playsL_length b ws rack
       rw [hpl.out] at hsl
       obtain ⟨S, hS⟩ : ∃ S, S = sortN (foundL b ws rack).length (foundL b ws rack) := ⟨_, rfl⟩
       obtain ⟨F, hF⟩ : ∃ F, F = foundL b ws rack := ⟨_, rfl⟩
       rw [← hS] at k4 hpl hsl
       rw [← hF] at hcode hsl hfl
       clear hS hF hwd
       have hSl : S.length ≤ 2 ^ 16 := by omega
       have hsl' := Lib.hid hsl
       clear hsl
       by_cases h4 : 400 < S.length
       · have h4' : (400 : Int) < (S.length : Int) := by omega
         go_enter Tryz.func138, Tryz.ntmps138
         go_wp2_with (first
           | (go_at_call 205; refine (k1 _ hlx).mono ?_; rintro e w1 ⟨rfl, hb1⟩)
           | (go_at_call 189; refine (k2 _ (hpb.below hb1 hpb.lt)).mono ?_; rintro e w2 ⟨rfl, hd2⟩)
           | (go_at_call 191; refine (k3 _).mono ?_; rintro e w3 ⟨rfl, hd3⟩
              have hb3 := hb1.trans ((hd2.trans hd3).below.mono hb1.size))
           | (go_at_call 206; refine (k4 _ (hpb.below hb3 hpb.lt) (hlx.below hb3)).mono ?_; rintro e w4 ⟨v4, rfl, ⟨A4, c4, rfl, hc4, hr4, hf4⟩, hb4⟩))
         go_ret2
         exact PlaysPost.no (by rw [hcode.out, hargs.out, ← hsl'.out]; simp [h4]) (by decide) (hb3.trans (hb4.mono hb3.size))
       · have h4' : decide (400 < S.length) = false := decide_eq_false h4
         go_enter Tryz.func138, Tryz.ntmps138
         go_wp2_with (first
           | (go_at_call 205; refine (k1 _ hlx).mono ?_; rintro e w1 ⟨rfl, hb1⟩)
           | (go_at_call 189; refine (k2 _ (hpb.below hb1 hpb.lt)).mono ?_; rintro e w2 ⟨rfl, hd2⟩)
           | (go_at_call 191; refine (k3 _).mono ?_; rintro e w3 ⟨rfl, hd3⟩
              have hb3 := hb1.trans ((hd2.trans hd3).below.mono hb1.size))
           | (go_at_call 206; refine (k4 _ (hpb.below hb3 hpb.lt) (hlx.below hb3)).mono ?_; rintro e w4 ⟨v4, rfl, ⟨A4, c4, rfl, hc4, hr4, hf4⟩, hb4⟩))
         go_ret2
         exact PlaysPost.yes (by rw [hcode.out, hargs.out, ← hsl'.out]; simp [h4]) (by rw [hpl.out]; exact ⟨A4, c4, rfl, hc4, hr4, hf4⟩) (hb3.trans (hb4.mono hb3.size))
end Go.Proofs.YtdkckikobefekaaGreatDoor
