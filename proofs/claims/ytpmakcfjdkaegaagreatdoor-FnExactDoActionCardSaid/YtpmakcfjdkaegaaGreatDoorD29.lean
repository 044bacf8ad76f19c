/-
  The words of a play, whether it touches, its code: both packages' are the same.
  Conditions: as each part below says.
-/
import Derived.Test.YtpmakcfjdkaegaaGreatDoorD21
set_option linter.unusedSimpArgs false
set_option linter.unusedVariables false
namespace Go.Proofs.YtpmakcfjdkaegaaGreatDoor
namespace Ax
set_option maxRecDepth 100000
set_option maxHeartbeats 2000000
section
variable {b:Bd} {q:Pl} {i:Nat}
theorem words_same (hb:bdB b=true) (hon:OnQ b q) (hw:lettB q.word=true):wordsL b q=wordsI b q:=by
 unfold wordsL wordsI formedL crossW crossP sqL
 rw [fresh_new hb hon,flatP_word,List.map_cons]
 congr 1
 have hlt : ∀x∈newL b q,x<q.word.length:=fun x hx=>List.mem_range.1 (List.mem_filter.1 hx).1
 generalize newL b q=N at hlt
 unfold keepL
 induction N with
 | nil=>rfl
 | cons x N ih=>
   have ih:=ih fun y hy=>hlt y (List.mem_cons_of_mem _ hy)
   have hx:=cross_seq hb hon (hlt x (List.mem_cons_self ..)) hw
   have hlen:(crossAt (flatB b q) (flatP q) x).length =(seqL (madeB b q) (!q.down) (q.sr x) (q.sc x)).length :=by rw [hx];simp [sqW]
   simp only [List.map_cons,List.filter_cons,hlen]
   by_cases h2:2≤(seqL (madeB b q) (!q.down) (q.sr x) (q.sc x)).length
   ·rw [if_pos (by simp;omega),if_pos (by simpa using h2),List.map_cons,List.map_cons,ih,hx]
   ·rw [if_neg (by simp;omega),if_neg (by simpa using h2),ih]
theorem formed_wds {b:Bd} {q:Pl} (hb:bdB b=true) (hon:OnQ b q) (hw:lettB q.word=true):(formedL (flatB b q) (flatP q)).length =(wordsI b q).length :=by
 rw [←words_same hb hon hw,wordsL,List.length_map]
theorem empty_new {b:Bd} (hb:bdB b=true) {q:Pl} (hon:OnQ b q) (h:lettersS b=[]):newL b q=List.range q.word.length:=by
 unfold newL newTo
 rw [List.filter_eq_self]
 intro i hi
 have hin:=hon i (List.mem_range.1 hi)
 have hm:=at_mem (bdB.fit hb) hin
 unfold lettersS at h
 rw [List.filter_eq_nil_iff] at h
 have:=h _ hm
 unfold Bd.let_
 rw [cell_in hin]
 simp at this
 simp [this]
theorem touch_same {b:Bd} (hb:bdB b=true) {q:Pl} (hv:validI b q=true):touchB b q=touchI b q:=by
 obtain⟨hon,hw,h2,h12⟩:=validI_facts hv
 unfold touchB touchI
 by_cases h:lettersS b=[]
 ·rw [if_pos h,h,if_pos (by rfl),empty_new hb hon h]
  rw [Bool.eq_iff_iff,List.any_eq_true]
  simp only [Bool.and_eq_true,decide_eq_true_eq]
  unfold flatP Pl.tr sqL Pl.sr Pl.sc
  constructor
  ·rintro ⟨h3,h4,h5⟩
   cases hd:q.down
   ·simp only [hd,Bool.false_eq_true,if_false] at h3 h4 h5 ⊢
    refine⟨_,List.mem_map.2 ⟨(b.size/2-q.col).toNat,List.mem_range.2 (by omega),rfl⟩,?_⟩
    rw [beq_iff_eq,Prod.mk.injEq]
    omega
   ·simp only [hd,if_true] at h3 h4 h5 ⊢
    refine⟨_,List.mem_map.2 ⟨(b.size/2-q.row).toNat,List.mem_range.2 (by omega),rfl⟩,?_⟩
    rw [beq_iff_eq,Prod.mk.injEq]
    omega
  ·rintro ⟨x,hx,he⟩
   obtain⟨i,hi,rfl⟩:=List.mem_map.1 hx
   have hi:=List.mem_range.1 hi
   rw [beq_iff_eq,Prod.mk.injEq] at he
   cases hd:q.down<;>simp only [hd,Bool.false_eq_true,if_false,if_true] at he ⊢ <;>omega
 ·have h':(lettersS b).isEmpty =false:=by rw [Bool.eq_false_iff];intro e;exact h (List.isEmpty_iff.1 e)
  rw [if_neg h,h',if_neg (by decide),fresh_new hb hon,formed_wds hb hon hw]
theorem legal_same {b:Bd} (hb:bdB b=true) (lex:List Str) {rack:Str} (hr:rackB rack=true) (q:Pl):legalC b lex rack q=codeI b lex rack q:=by
 unfold legalC codeI
 rw [okB_validI hb]
 cases hv:validI b q
 ·rfl
 ·obtain⟨hon,hw,h2,h12⟩:=validI_facts hv
  rw [placed_new hb hon,take_less hr (placedI_lett hw),touch_same hb hv]
  unfold doubleB wrongL wrongS
  rw [fresh_new hb hon,formed_wds hb hon hw,words_same hb hon hw]
end
end Ax
end Go.Proofs.YtpmakcfjdkaegaaGreatDoor
