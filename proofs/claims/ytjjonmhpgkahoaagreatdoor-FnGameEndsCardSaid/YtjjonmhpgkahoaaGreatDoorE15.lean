/-
  Words that a play forms, of the spec package; Boards after plays and scores, of the spec package.
  Conditions: none.
-/
import Derived.Test.YtjjonmhpgkahoaaGreatDoorE14
set_option linter.unusedSimpArgs false
set_option linter.unusedVariables false
namespace Go.Proofs.YtjjonmhpgkahoaaGreatDoor
namespace Ax
set_option maxRecDepth 100000
def keepL (l:List (List UInt8)):List (List UInt8):=l.filter fun s=>decide (1<s.length)
def formedL (b:Bd) (q:Pl):List (List UInt8):=q.word::keepL ((freshL b q).map (crossAt b q))
def formK (b:Bd) (q:Pl) (k:Int):List (List UInt8):=q.word::keepL (((frI b q).take k.toNat).map fun i=>crossAt b q i.toNat)
theorem crI'_eq (b:Bd) (row col l:Int):crI' b row col l=crossS b row.toNat col (u8 l):=by
 unfold crI' crK crossS upI
 rw [Int.toNat_natCast,show ((16:Int)-((upTo b col row.toNat:Nat):Int)).toNat =16-upTo b col row.toNat from by omega]
theorem form_len (b:Bd) (q:Pl) (k:Int):(formK b q k).length ≤q.word.length+1:=by
 have h1:=frI_len b q
 have h2:=List.length_filter_le (fun s:List UInt8=>decide (1<s.length)) (((frI b q).take k.toNat).map fun i=>crossAt b q i.toNat)
 rw [List.length_map,List.length_take] at h2
 unfold formK keepL
 rw [List.length_cons]
 omega
theorem form_step {b:Bd} {q:Pl} {k:Int} (h0:0≤k) (h:k<(frI b q).length):formK b q (k+1)=formK b q k++(if 1<(crossAt b q ((frI b q).getD k.toNat 0).toNat).length then [crossAt b q ((frI b q).getD k.toNat 0).toNat] else []):=by
 unfold formK keepL
 rw [tk h0 h 0,List.map_append,List.filter_append,List.cons_append]
 congr 2
 simp only [List.map_cons,List.map_nil,List.filter_cons,List.filter_nil,decide_eq_true_eq]
theorem form_end {b:Bd} {q:Pl} {k:Int} (h:((frI b q).length : Int)≤k):formK b q k=formedL b q:=by
 unfold formK formedL
 rw [tk_all h]
 unfold frI
 rw [List.map_map]
 rfl
theorem cross_q {b:Bd} {q:Pl} {i:Int} (h:0≤i):crI' b q.row (q.col+i) (std.byte q.word i)=crossAt b q i.toNat:=by
 rw [crI'_eq,u8_byte]
 unfold crossAt
 rw [show ((i.toNat:Nat):Int)=i from by omega]
def sp_s_l12Formed (p:Pr):FSpec:=fsp (ac (aP aBd) (a1 (aA aPl))) (fun (b,q)=>OnR b q) (fun (b,q)=>.osl 0) (fun (b,q)=>[(0,.own [.s] (formedL b q) 9)])
theorem ok_s_l12Formed:FOk Tryz.prog 271 (sp_s_l12Formed std):=by
 refine FOk.go (c:=cx std [(217,sp_s_l12Fresh std),(275,sp_s_l12Cross std)] [] 0) (cx_ok (.cons ok_s_l12Fresh (.cons ok_s_l12Cross .nil)) .nil) mixed Tryz.func271 rfl rfl rfl (by kernel_rfl) ?_
 rintro ⟨b,q⟩ hp
 dsimp only at hp
 refine⟨rfl,?_⟩
 unfold sp_s_l12Fresh sp_s_l12Cross
 obtain⟨H,hH⟩ : ∃H:Hd (Int×List (List UInt8)),H=⟨fun (k,L)=>0≤k∧k≤(frI b q).length ∧L=formK b q k,fun (k,L)=>((frI b q).length - k).toNat,(· < ·)⟩:=⟨_,rfl⟩
 have hl : ∀m n,H.lt m n→m<n:=by subst hH;exact fun _ _ h=>h
 generalize hP:std=p,hB0:formedL=B0,hB1:frI=B1,hB2:crI'=B2,hB3:upI=B3
 cbv
 repeat' first
  | (refine fun (_:Unit)=>?_;cbv)
  | (refine Or.inr ⟨16,[],[.s 7 (.i .i64),.o 1 [.s]],[.s 5],[],H,rfl,hl,?_,fun ((k,L):Int×List (List UInt8)) hk=>?_⟩<;>cbv)
  | (refine aI2 (fun h=>?_) (fun h=>?_)<;>cbv)
  | (refine aI2 ?_ ?_)
 all_goals subst hP hB0 hB1 hB2 hB3 hH
 all_goals clear hl
 all_goals try dsimp only at hk
 all_goals try dsimp only
 all_goals have f1:=hp.len
 all_goals have f2:=hp.col
 all_goals have f3:=frI_len b q
 all_goals try exact fin
 ·exact⟨Int.le_refl 0,Int.natCast_nonneg _,rfl⟩
 all_goals obtain⟨q0,q1,rfl⟩:=hk
 all_goals have h2:=form_len b q k
 all_goals try (have h1:k<(frI b q).length :=lt_of ‹_›)
 all_goals try (have h3:=frI_bd q0 h1)
 all_goals try (have h4:=cross_q (b:=b) (q:=q) h3.1)
 all_goals try (have g1:k+1≤((frI b q).length : Int):=by omega)
 ·exact in64 (by show _≤q.col+(frI b q).getD k.toNat 0∧q.col+(frI b q).getD k.toNat 0≤_;omega)
 ·exact h3
 ·have h5:=hp.at h3.1 h3.2
  exact⟨hp.fit,h5.inn⟩
 ·simp [std] at *;lia
 ·refine⟨by show 0≤k+1;omega,g1,?_⟩
  have h6:std.ltI 1 (std.lenS (crI' b q.row (q.col+(frI b q).getD k.toNat 0) (std.byte q.word ((frI b q).getD k.toNat 0))))=true:=by assumption
  rw [h4] at h6
  show formK b q k++[crI' b q.row (q.col+(frI b q).getD k.toNat 0) (std.byte q.word ((frI b q).getD k.toNat 0))]=formK b q (k+1)
  rw [form_step q0 h1,h4,if_pos (by have h7:=lt_of h6;simp only [sd_lenS] at h7;omega)]
 ·refine⟨by show 0≤k+1;omega,g1,?_⟩
  have h6:std.ltI 1 (std.lenS (crI' b q.row (q.col+(frI b q).getD k.toNat 0) (std.byte q.word ((frI b q).getD k.toNat 0))))=false:=by assumption
  rw [h4] at h6
  show formK b q k=formK b q (k+1)
  rw [form_step q0 h1,if_neg (by have h7:=ge_of h6;simp only [sd_lenS] at h7;omega),List.append_nil]
 ·rw [form_end (ge_of ‹_›)]
theorem cross_len (b:Bd) (q:Pl) (i:Nat):(crossAt b q i).length ≤16:=by
 have : ∀(f r:Nat) (row:Nat) (c:Int) (l:UInt8),(crossGo b row c l f r).length ≤f:=by
  intro f
  induction f with
  | zero=>intro r row c l;exact Nat.le_refl 0
  | succ f ih=>
    intro r row c l
    unfold crossGo
    split
    ·rw [List.length_cons];have:=ih (r+1) row c l;omega
    ·split
     ·rw [List.length_cons];have:=ih (r+1) row c l;omega
     ·exact Nat.zero_le _
 unfold crossAt crossS
 exact Nat.le_trans (this _ _ _ _ _) (Nat.sub_le _ _)
theorem formed_len {b:Bd} {q:Pl} (h:q.word.length≤15) : ∀w∈formedL b q,w.length≤16:=by
 intro w hw
 rcases List.mem_cons.1 hw with rfl | hw
 ·omega
 ·obtain⟨i, -,rfl⟩:=List.mem_map.1 (List.mem_filter.1 hw).1
  exact cross_len b q i
theorem formed_at {b:Bd} {q:Pl} (h:q.word.length≤15) (k:Int):((formedL b q).getD k.toNat []).length ≤16:=by
 rw [List.getD_eq_getElem?_getD]
 cases hk:(formedL b q)[k.toNat]? with
 | none=>simp
 | some w=>exact formed_len h w (List.mem_of_getElem? hk)
theorem formed_n (b:Bd) (q:Pl):(formedL b q).length ≤q.word.length+1:=by
 have h1:=form_len b q (frI b q).length
 rwa [form_end (Int.le_refl _)] at h1
def wordsL (b:Bd) (q:Pl):List (List UInt8):=(formedL (flatB b q) (flatP q)).map lowS
structure PlP (b:Bd) (q:Pl):Prop where
 fit:b.Fit
 on:OnR (flatB b q) (flatP q)
def sp_s_l12Words (p:Pr):FSpec:=fsp (ac (aP aBd) (a1 (aA aPl))) (fun (b,q)=>PlP b q) (fun (b,q)=>.osl 0) (fun (b,q)=>[(0,.own [.s] (wordsL b q) 9)])
theorem ok_s_l12Words:FOk Tryz.prog 225 (sp_s_l12Words std):=by
 refine FOk.go (c:=cx std [(125,sp_s_l12Flat std),(271,sp_s_l12Formed std),(198,sp_s_l03Small std)] [] 0) (cx_ok (.cons ok_s_l12Flat (.cons ok_s_l12Formed (.cons ok_s_l03Small .nil))) .nil) mixed Tryz.func225 rfl rfl rfl (by kernel_rfl) ?_
 rintro ⟨b,q⟩ hp
 dsimp only at hp
 refine⟨rfl,?_⟩
 unfold sp_s_l12Flat sp_s_l12Formed sp_s_l03Small
 obtain⟨H,hH⟩ : ∃H:Hd (Int×List (List UInt8)),H=⟨fun (k,L)=>0≤k∧k≤(formedL (flatB b q) (flatP q)).length ∧L=((formedL (flatB b q) (flatP q)).take k.toNat).map lowS,fun (k,L)=>((formedL (flatB b q) (flatP q)).length - k).toNat,(· < ·)⟩:=⟨_,rfl⟩
 have hl : ∀m n,H.lt m n→m<n:=by subst hH;exact fun _ _ h=>h
 generalize hP:std=p,hB0:wordsL=B0,hB1:formedL=B1,hB2:lowS=B2,hB3:flatB=B3,hB4:flatP=B4
 cbv
 repeat' first
  | (refine fun (_:Unit)=>?_;cbv)
  | (refine Or.inr ⟨19,[],[.s 9 (.i .i64),.o 4 [.s]],[.s 8],[],H,rfl,hl,?_,fun ((k,L):Int×List (List UInt8)) hk=>?_⟩<;>cbv)
  | (refine aI2 (fun h=>?_) (fun h=>?_)<;>cbv)
  | (refine aI2 ?_ ?_)
 all_goals subst hP hB0 hB1 hB2 hB3 hB4 hH
 all_goals clear hl
 all_goals try dsimp only at hk
 all_goals try dsimp only
 all_goals have f1:=hp.on.len
 all_goals have f2:=formed_n (flatB b q) (flatP q)
 all_goals try exact fin
 all_goals obtain⟨q0,q1,rfl⟩:=hk
 all_goals try (have h1:k<(formedL (flatB b q) (flatP q)).length :=lt_of ‹_›)
 ·exact ltM_of (Nat.le_trans (formed_at f1 k) (by decide))
 ·show ((((formedL (flatB b q) (flatP q)).take k.toNat).map lowS).length : Int)+1≤274877906944
  rw [List.length_map,List.length_take]
  omega
 ·have g1:k+1≤((formedL (flatB b q) (flatP q)).length : Int):=by omega
  refine⟨by show 0≤k+1;omega,g1,?_⟩
  show (((formedL (flatB b q) (flatP q)).take k.toNat).map lowS)++[lowS ((formedL (flatB b q) (flatP q)).getD k.toNat [])]=((formedL (flatB b q) (flatP q)).take (k+1).toNat).map lowS
  rw [tk q0 h1 [],List.map_append];rfl
 ·rw [tk_all (ge_of ‹_›)];rfl
def wrongL (b:Bd) (ws:List (List UInt8)) (q:Pl):List (List UInt8):=(wordsL b q).filter fun s=>!hasB ws s
structure WrP (b:Bd) (ws:List (List UInt8)) (q:Pl):Prop where
 pl:PlP b q
 ws:WsP ws
theorem words_n (b:Bd) (q:Pl):(wordsL b q).length ≤(flatP q).word.length + 1:=by
 unfold wordsL
 rw [List.length_map]
 exact formed_n _ _
theorem filt_step {L:List (List UInt8)} {f:List UInt8→Bool} {k:Int} (h0:0≤k) (h:k<L.length):(L.take (k+1).toNat).filter f=(L.take k.toNat).filter f++(if f (L.getD k.toNat []) then [L.getD k.toNat []] else []):=by
 rw [tk h0 h [],List.filter_append]
 congr 1
 simp only [List.filter_cons,List.filter_nil]
def sp_s_l12Wrong (p:Pr):FSpec:=fsp (ac (aP aBd) (ac (aP aLex) (a1 (aA aPl)))) (fun (b,ws,q)=>WrP b ws q) (fun (b,ws,q)=>.osl 0) (fun (b,ws,q)=>[(0,.own [.s] (wrongL b ws q) 9)])
theorem ok_s_l12Wrong:FOk Tryz.prog 215 (sp_s_l12Wrong std):=by
 refine FOk.go (c:=cx std [(225,sp_s_l12Words std),(272,sp_s_l05Has std)] [] 0) (cx_ok (.cons ok_s_l12Words (.cons ok_s_l05Has .nil)) .nil) mixed Tryz.func215 rfl rfl rfl (by kernel_rfl) ?_
 rintro ⟨b,ws,q⟩ hp
 dsimp only at hp
 refine⟨rfl,?_⟩
 unfold sp_s_l12Words sp_s_l05Has
 obtain⟨H,hH⟩ : ∃H:Hd (Int×List (List UInt8)),H=⟨fun (k,L)=>0≤k∧k≤(wordsL b q).length ∧L=((wordsL b q).take k.toNat).filter (fun s=>!hasB ws s),fun (k,L)=>((wordsL b q).length - k).toNat,(· < ·)⟩:=⟨_,rfl⟩
 have hl : ∀m n,H.lt m n→m<n:=by subst hH;exact fun _ _ h=>h
 generalize hP:std=p,hB0:wrongL=B0,hB1:wordsL=B1,hB2:hasB=B2
 cbv
 repeat' first
  | (refine fun (_:Unit)=>?_;cbv)
  | (refine Or.inr ⟨14,[],[.s 9 (.i .i64),.o 2 [.s]],[.s 8],[],H,rfl,hl,?_,fun ((k,L):Int×List (List UInt8)) hk=>?_⟩<;>cbv)
  | (refine aI2 (fun h=>?_) (fun h=>?_)<;>cbv)
  | (refine aI2 ?_ ?_)
 all_goals subst hP hB0 hB1 hB2 hH
 all_goals clear hl
 all_goals try dsimp only at hk
 all_goals try dsimp only
 all_goals have f1:=hp.pl.on.len
 all_goals have f2:=words_n b q
 all_goals try exact fin
 all_goals obtain⟨q0,q1,rfl⟩:=hk
 all_goals have h2:=List.length_filter_le (fun s:List UInt8=>!hasB ws s) ((wordsL b q).take k.toNat)
 all_goals rw [List.length_take] at h2
 all_goals try (have h1:k<(wordsL b q).length :=lt_of ‹_›)
 all_goals try (have g1:k+1≤((wordsL b q).length : Int):=by omega)
 ·simp [std] at *;lia
 ·refine⟨by show 0≤k+1;omega,g1,?_⟩
  have h6:hasB ws ((wordsL b q).getD k.toNat [])=false:=by assumption
  show _++[(wordsL b q).getD k.toNat []]=((wordsL b q).take (k+1).toNat).filter fun s=>!hasB ws s
  rw [filt_step q0 h1,h6];rfl
 ·refine⟨by show 0≤k+1;omega,g1,?_⟩
  have h6:hasB ws ((wordsL b q).getD k.toNat [])=true:=by assumption
  show _=((wordsL b q).take (k+1).toNat).filter fun s=>!hasB ws s
  rw [filt_step q0 h1,h6];simp
 ·rw [tk_all (ge_of ‹_›)];rfl
def touchB (b:Bd) (q:Pl):Bool:=
 if lettersS b=[] then (decide ((flatP q).row =b.size/2)&&(decide ((flatP q).col ≤b.size/2)&&decide (b.size/2<(flatP q).col + q.word.length)))
 else decide ((freshL (flatB b q) (flatP q)).length < q.word.length)||decide (1<(formedL (flatB b q) (flatP q)).length)
def doubleB (b:Bd) (q:Pl):Bool:=q.down&&(decide ((freshL (flatB b q) (flatP q)).length =1)&&decide (1<(formedL (flatB b q) (flatP q)).length))
def legalC (b:Bd) (ws:List (List UInt8)) (rack:List UInt8) (q:Pl):Int:=
 if okB b q then if takeB rack (tilesS (placedS (flatB b q) (flatP q))) then if touchB b q then if doubleB b q then 4 else if 0<(wrongL b ws q).length then 9 else 0 else 6 else 3 else 2
theorem fit_bdP {b:Bd} (hf:b.Fit):BdP b:=by
 have h1:=sq_bd (n:=b.size) (by simp [inR,hf.lo,hf.hi])
 have h2:=hf.prem
 have h3:=hf.cells
 exact⟨by omega,by omega⟩
section
variable {b:Bd} {q:Pl}
theorem to_half (hf:b.Fit):std.quo b.size 2=b.size/2:=quo_nn (by have:=hf.lo;omega)
theorem to_e (h:std.eqS (lettersS b) []=true):lettersS b=[]:=by simpa using h
theorem to_n (h:std.eqS (lettersS b) []=false) : ¬lettersS b=[]:=by simpa using h
theorem to_no1 (hf:b.Fit) (h:std.eqS (lettersS b) []=true) (h1:std.eqI (flatP q).row (std.quo b.size 2)=false):touchB b q=false:=by
 rw [to_half hf] at h1
 unfold touchB
 rw [if_pos (to_e h)]
 have h1 : ¬(flatP q).row =b.size/2:=by simpa using h1
 simp [h1]
theorem to_no2 (hf:b.Fit) (h:std.eqS (lettersS b) []=true) (h1:std.leI (flatP q).col (std.quo b.size 2)=false):touchB b q=false:=by
 rw [to_half hf] at h1
 unfold touchB
 rw [if_pos (to_e h)]
 have h1 : ¬(flatP q).col ≤b.size/2:=by simpa using h1
 simp [h1]
theorem to_yes (hf:b.Fit) (h:std.eqS (lettersS b) []=true) (h1:std.eqI (flatP q).row (std.quo b.size 2)=true) (h2:std.leI (flatP q).col (std.quo b.size 2)=true):std.ltI (std.quo b.size 2) (std.add (flatP q).col (std.lenS (flatP q).word))=touchB b q:=by
 rw [to_half hf] at h1 h2 ⊢
 unfold touchB
 rw [if_pos (to_e h)]
 have h1:(flatP q).row =b.size/2:=by simpa using h1
 have h2:(flatP q).col ≤b.size/2:=by simpa using h2
 simp [h1,h2,flatP_word]
theorem fr_n (b:Bd) (q:Pl):(frI b q).length =(freshL b q).length :=by unfold frI;rw [List.length_map]
theorem to_any (h:std.eqS (lettersS b) []=false):touchB b q=(std.ltI (std.len (frI (flatB b q) (flatP q))) (std.lenS (flatP q).word)||std.ltI 1 (std.len (formedL (flatB b q) (flatP q)))):=by
 unfold touchB
 rw [if_neg (to_n h),flatP_word]
 simp only [sd_ltI,sd_len,sd_lenS,fr_n]
 congr 1
 ·simp
 ·simp [←Int.ofNat_lt]
theorem do_any:doubleB b q=(q.down&&(std.eqI (std.len (frI (flatB b q) (flatP q))) 1&&std.ltI 1 (std.len (formedL (flatB b q) (flatP q))))):=by
 unfold doubleB
 simp only [sd_ltI,sd_len,sd_eqI,fr_n]
 congr 2
 ·rw [Bool.eq_iff_iff,beq_iff_eq,decide_eq_true_eq];omega
 ·simp [←Int.ofNat_lt]
theorem do_f (h:q.down=false):doubleB b q=false:=by unfold doubleB;rw [h];rfl
theorem do_t (h:q.down=true) (h1:std.eqI (std.len (frI (flatB b q) (flatP q))) 1=true):std.ltI 1 (std.len (formedL (flatB b q) (flatP q)))=doubleB b q:=by rw [do_any,h,h1];rfl
theorem do_t0 (h:q.down=true) (h1:std.eqI (std.len (frI (flatB b q) (flatP q))) 1=false):false=doubleB b q:=by rw [do_any,h,h1];rfl
end
def sp_s_l12Touches (p:Pr):FSpec:=fsp (ac (aP aBd) (a1 (aA aPl))) (fun (b,q)=>PlP b q) (fun (b,q)=>.b (touchB b q))
theorem ok_s_l12Touches:FOk Tryz.prog 213 (sp_s_l12Touches std):=by
 refine FOk.go (c:=cx std [(125,sp_s_l12Flat std),(271,sp_s_l12Formed std),(217,sp_s_l12Fresh std),(173,sp_s_l11Letters std)] [] 0) (cx_ok (.cons ok_s_l12Flat (.cons ok_s_l12Formed (.cons ok_s_l12Fresh (.cons ok_s_l11Letters .nil)))) .nil) mixed Tryz.func213 rfl rfl rfl (by kernel_rfl) ?_
 rintro ⟨b,q⟩ hp
 dsimp only at hp
 refine⟨rfl,?_⟩
 unfold sp_s_l12Flat sp_s_l12Formed sp_s_l12Fresh sp_s_l11Letters
 generalize hP:std=p,hB0:touchB=B0,hB1:formedL=B1,hB2:flatB=B2,hB3:flatP=B3,hB4:frI=B4,hB5:lettersS=B5
 cbv
 repeat' first
  | (refine fun (_:Unit)=>?_;cbv)
  | (refine aI2 (fun h=>?_) (fun h=>?_)<;>cbv)
  | (refine aI2 ?_ ?_)
  | (refine Or.inl (fun (_:Unit)=>?_);cbv)
 all_goals subst hP hB0 hB1 hB2 hB3 hB4 hB5
 all_goals have f1:=hp.fit.lo
 all_goals have f2:=hp.fit.hi
 all_goals have f3:=hp.on.col
 all_goals have f4:=hp.on.len
 all_goals try exact fin
 ·exact fit_bdP hp.fit
 ·exact to_yes hp.fit ‹_› ‹_› ‹_›
 ·exact to_no2 hp.fit ‹_› ‹_›
 ·exact to_no1 hp.fit ‹_› ‹_›
 ·rw [to_any (b:=b) (q:=q) ‹_›,show std.ltI (std.len (frI (flatB b q) (flatP q))) (std.lenS (flatP q).word)=false by assumption];rfl
 ·rw [to_any (b:=b) (q:=q) ‹_›,show std.ltI (std.len (frI (flatB b q) (flatP q))) (std.lenS (flatP q).word)=true by assumption];rfl
def sp_s_l12Double (p:Pr):FSpec:=fsp (ac (aP aBd) (a1 (aA aPl))) (fun (b,q)=>PlP b q) (fun (b,q)=>.b (doubleB b q))
theorem ok_s_l12Double:FOk Tryz.prog 214 (sp_s_l12Double std):=by
 refine FOk.go (c:=cx std [(125,sp_s_l12Flat std),(271,sp_s_l12Formed std),(217,sp_s_l12Fresh std)] [] 0) (cx_ok (.cons ok_s_l12Flat (.cons ok_s_l12Formed (.cons ok_s_l12Fresh .nil))) .nil) mixed Tryz.func214 rfl rfl rfl (by kernel_rfl) ?_
 rintro ⟨b,q⟩ hp
 dsimp only at hp
 refine⟨rfl,?_⟩
 unfold sp_s_l12Flat sp_s_l12Formed sp_s_l12Fresh
 generalize hP:std=p,hB0:doubleB=B0,hB1:formedL=B1,hB2:flatB=B2,hB3:flatP=B3,hB4:frI=B4
 cbv
 repeat' first
  | (refine fun (_:Unit)=>?_;cbv)
  | (refine aI2 (fun h=>?_) (fun h=>?_)<;>cbv)
  | (refine aI2 ?_ ?_)
  | (refine Or.inl (fun (_:Unit)=>?_);cbv)
 all_goals subst hP hB0 hB1 hB2 hB3 hB4
 all_goals try exact fin
 ·exact do_f ‹_›
 ·exact do_t ‹_› ‹_›
 ·exact (do_t0 ‹_› ‹_›).symm
structure LeP (b:Bd) (ws:List (List UInt8)) (rack:List UInt8) (q:Pl):Prop where
 bd:BdP b
 ws:WsP ws
 rk:rack.length≤274877906944
 wd:q.word.length≤274877906944
theorem okB_on {b:Bd} {q:Pl} (h:okB b q=true):PlP b q:=by
 unfold okB at h
 rw [Bool.and_eq_true,Bool.and_eq_true] at h
 obtain⟨h1,h2,h3⟩:=h
 have hf:=bdB.fit h1
 have h4:=word_len h2
 unfold fitsB at h3
 simp only [Bool.and_eq_true,decide_eq_true_eq] at h3
 exact⟨hf,flat_fit' hf q,by rw [flatP_word];omega,h3.1,h3.2.1⟩
section
variable {b:Bd} {ws:List (List UInt8)} {rack:List UInt8} {q:Pl}
theorem placedS_len (b:Bd) (q:Pl):(placedS b q).length ≤q.word.length:=by
 have:=frI_len b q
 unfold placedS
 rw [List.length_map]
 rwa [fr_n] at this
theorem tilesS_len (s:List UInt8):(tilesS s).length =s.length:=by
 unfold tilesS
 rw [isort_length,List.length_map]
theorem le_2 (h:okB b q=false):2=legalC b ws rack q:=by unfold legalC;rw [h];rfl
theorem le_3 (h:okB b q=true) (h1:takeB rack (tilesS (placedS (flatB b q) (flatP q)))=false):3=legalC b ws rack q:=by unfold legalC;rw [h,h1];rfl
theorem le_6 (h:okB b q=true) (h1:takeB rack (tilesS (placedS (flatB b q) (flatP q)))=true) (h2:touchB b q=false):6=legalC b ws rack q:=by unfold legalC;rw [h,h1,h2];rfl
theorem le_4 (h:okB b q=true) (h1:takeB rack (tilesS (placedS (flatB b q) (flatP q)))=true) (h2:touchB b q=true) (h3:doubleB b q=true):4=legalC b ws rack q:=by unfold legalC;rw [h,h1,h2,h3];rfl
theorem le_9 (h:okB b q=true) (h1:takeB rack (tilesS (placedS (flatB b q) (flatP q)))=true) (h2:touchB b q=true) (h3:doubleB b q=false) (h4:std.ltI 0 (std.len (wrongL b ws q))=true):9=legalC b ws rack q:=by
 have h5:=lt_of h4
 unfold legalC;rw [h,h1,h2,h3,if_pos rfl,if_pos rfl,if_pos rfl,if_neg (by decide),if_pos (by simp only [sd_len] at h5;omega)]
theorem le_0 (h:okB b q=true) (h1:takeB rack (tilesS (placedS (flatB b q) (flatP q)))=true) (h2:touchB b q=true) (h3:doubleB b q=false) (h4:std.ltI 0 (std.len (wrongL b ws q))=false):0=legalC b ws rack q:=by
 have h5:=ge_of h4
 unfold legalC;rw [h,h1,h2,h3,if_pos rfl,if_pos rfl,if_pos rfl,if_neg (by decide),if_neg (by simp only [sd_len] at h5;omega)]
end
def sp_s_l12Legal (p:Pr):FSpec:=fsp (ac (aP aBd) (ac (aP aLex) (ac aS (a1 (aA aPl))))) (fun (b,ws,rack,q)=>LeP b ws rack q) (fun (b,ws,rack,q)=>.i .i64 (legalC b ws rack q))
theorem ok_s_l12Legal:FOk Tryz.prog 122 (sp_s_l12Legal std):=by
 refine FOk.go (c:=cx std [(212,sp_s_l12Ok std),(125,sp_s_l12Flat std),(126,sp_s_l03Take std),(127,sp_s_l03Tiles std),(128,sp_s_l12Placed std),(213,sp_s_l12Touches std),(214,sp_s_l12Double std),(215,sp_s_l12Wrong std)] [] 0) (cx_ok (.cons ok_s_l12Ok (.cons ok_s_l12Flat (.cons ok_s_l03Take (.cons ok_s_l03Tiles (.cons ok_s_l12Placed (.cons ok_s_l12Touches (.cons ok_s_l12Double (.cons ok_s_l12Wrong .nil)))))))) .nil) mixed Tryz.func122 rfl rfl rfl (by kernel_rfl) ?_
 rintro ⟨b,ws,rack,q⟩ hp
 dsimp only at hp
 refine⟨rfl,?_⟩
 unfold sp_s_l12Ok sp_s_l12Flat sp_s_l03Take sp_s_l03Tiles sp_s_l12Placed sp_s_l12Touches sp_s_l12Double sp_s_l12Wrong
 generalize hP:std=p,hB0:legalC=B0,hB1:okB=B1,hB2:takeB=B2,hB3:takeS=B3,hB4:tilesS=B4,hB5:placedS=B5,hB6:touchB=B6,hB7:doubleB=B7,hB8:wrongL=B8,hB9:flatB=B9,hB10:flatP=B10
 cbv
 repeat' first
  | (refine fun (_:Unit)=>?_;cbv)
  | (refine aI2 (fun h=>?_) (fun h=>?_)<;>cbv)
  | (refine aI2 ?_ ?_)
  | (refine Or.inl (fun (_:Unit)=>?_);cbv)
 all_goals subst hP hB0 hB1 hB2 hB3 hB4 hB5 hB6 hB7 hB8 hB9 hB10
 all_goals try exact fin
 ·exact⟨hp.bd,hp.wd⟩
 ·exact le_2 ‹_›
 all_goals have h1:okB b q=true:=by assumption
 all_goals have h2:=okB_on h1
 all_goals have h3:=placedS_len (flatB b q) (flatP q)
 all_goals have h4:=tilesS_len (placedS (flatB b q) (flatP q))
 all_goals have h5:=h2.on.len
 ·exact h2.fit
 ·exact h2.on
 ·exact ltM_of (Nat.le_trans h3 (Nat.le_trans h5 (by decide)))
 ·exact ltM_of hp.rk
 ·exact ltM_of (Nat.le_trans (Nat.le_of_eq h4) (Nat.le_trans h3 (Nat.le_trans h5 (by decide))))
 ·exact le_3 h1 ‹_›
 all_goals have h6:takeB rack (tilesS (placedS (flatB b q) (flatP q)))=true:=by assumption
 ·exact h2
 ·exact le_6 h1 h6 ‹_›
 ·exact h2
 ·exact le_4 h1 h6 ‹_› ‹_›
 ·exact⟨h2,hp.ws⟩
 ·exact le_9 h1 h6 ‹_› ‹_› ‹_›
 ·exact le_0 h1 h6 ‹_› ‹_› ‹_›
end Ax
namespace Ax
set_option maxRecDepth 100000
theorem lay_len (f:Bd) (p:Pl) (k:Nat):(layTo f p k).length =f.cells.length:=by
 unfold layTo
 generalize List.range k=l
 suffices h : ∀(l:List Nat) (s:List UInt8),(l.foldl (fun s i=>s.set ((p.row*f.size+p.col).toNat + i) (p.word.getD i 0)) s).length =s.length from h l _
 intro l
 induction l with
 | nil=>intro s;rfl
 | cons x r ih=>intro s;rw [List.foldl_cons,ih,List.length_set]
theorem lay_step {f:Bd} {p:Pl} {k:Int} (h0:0≤k) (h1:0≤p.row*f.size+p.col):layTo f p (k+1).toNat =(layTo f p k.toNat).set (p.row*f.size+p.col+k).toNat (p.word.getD k.toNat 0):=by
 have e:(k+1).toNat =k.toNat+1:=by omega
 have e2:(p.row*f.size+p.col+k).toNat =(p.row*f.size+p.col).toNat + k.toNat:=by omega
 rw [e,e2]
 unfold layTo
 rw [List.range_succ,List.foldl_append]
 rfl
theorem at_ix {b:Bd} {q:Pl} (h:OnR b q):0≤q.row*b.size∧q.row*b.size≤225∧0≤q.row*b.size+q.col∧q.row*b.size+q.col+q.word.length≤b.cells.length∧(b.cells.length:Int)≤225:=by
 obtain⟨⟨a1,a2⟩,a3,a4⟩:=inB_iff.1 h.inn
 have h2:=sq_bd (n:=b.size) (by simp [inR,h.fit.lo,h.fit.hi])
 have h3:=h.out
 have h4:=h.fit.cells
 have h5:=Int.mul_nonneg a1 (show 0≤b.size by omega)
 have h6:=Int.mul_le_mul_of_nonneg_right (show q.row≤b.size-1 by omega) (show 0≤b.size by omega)
 have h7:(b.size-1)*b.size=b.size*b.size-b.size:=by rw [Int.sub_mul,Int.one_mul]
 omega
theorem made_y {b:Bd} {q:Pl} (h:q.down=true):madeS b q=⟨(flatB b q).size,turnI (flatB b q).size (flatB b q).prem,turnI (flatB b q).size (layTo (flatB b q) (flatP q) (flatP q).word.length)⟩:=by unfold madeS;rw [if_pos h];rfl
theorem made_n {b:Bd} {q:Pl} (h:q.down=false):madeS b q=⟨(flatB b q).size,(flatB b q).prem,layTo (flatB b q) (flatP q) (flatP q).word.length⟩:=by unfold madeS;rw [if_neg (by rw [h];exact Bool.false_ne_true)];rfl
def sp_s_l12Make (p:Pr):FSpec:=fsp (ac (aP aBd) (a1 (aA aPl))) (fun (b,q)=>PlP b q) (fun (b,q)=>.agg [.i .i64 (madeS b q).size,.s (madeS b q).prem,.s (madeS b q).cells])
theorem ok_s_l12Make:FOk Tryz.prog 130 (sp_s_l12Make std):=by
 refine FOk.go (c:=cx std [(125,sp_s_l12Flat std),(195,sp_s_l11Transpose std)] [] 0) (cx_ok (.cons ok_s_l12Flat (.cons ok_s_l11Transpose .nil)) .nil) mixed Tryz.func130 rfl rfl rfl (by kernel_rfl) ?_
 rintro ⟨b,q⟩ hp
 dsimp only at hp
 refine⟨rfl,?_⟩
 unfold sp_s_l12Flat sp_s_l11Transpose
 obtain⟨H,hH⟩ : ∃H:Hd (Int×List Int),H=⟨fun (k,L)=>0≤k∧k≤(flatP q).word.length ∧L=toBl (layTo (flatB b q) (flatP q) k.toNat),fun (k,L)=>((flatP q).word.length - k).toNat,(· < ·)⟩:=⟨_,rfl⟩
 have hl : ∀m n,H.lt m n→m<n:=by subst hH;exact fun _ _ h=>h
 generalize hP:std=p,hB0:madeS=B0,hB1:layTo=B1,hB2:turnI=B2,hB3:flatB=B3,hB4:flatP=B4
 cbv
 repeat' first
  | (refine fun (_:Unit)=>?_;cbv)
  | (refine Or.inr ⟨19,[],[.s 8 (.i .i64),.o 4 [.i .u8]],[],[],H,rfl,hl,?_,fun ((k,L):Int×List Int) hk=>?_⟩<;>cbv)
  | (refine aI2 (fun h=>?_) (fun h=>?_)<;>cbv)
  | (refine aI2 ?_ ?_)
 all_goals subst hP hB0 hB1 hB2 hB3 hB4 hH
 all_goals clear hl
 all_goals try dsimp only at hk
 all_goals try dsimp only
 all_goals have f1:=hp.on.len
 all_goals have f2:=at_ix hp.on
 all_goals try exact fin
 ·exact⟨Int.le_refl 0,Int.natCast_nonneg _,rfl⟩
 all_goals obtain⟨q0,q1,rfl⟩:=hk
 all_goals obtain⟨i1,i2,i3,i4,i5⟩:=f2
 all_goals try (have h1:k<(flatP q).word.length :=lt_of ‹_›)
 ·have h2:=lay_len (flatB b q) (flatP q) k.toNat
  show 0≤(flatP q).row * (flatB b q).size + (flatP q).col + k∧(flatP q).row * (flatB b q).size + (flatP q).col + k<((toBl (layTo (flatB b q) (flatP q) k.toNat)).length : Int)
  rw [toB_len]
  omega
 ·have h2:=lay_len (flatB b q) (flatP q) k.toNat
  show 0≤(flatP q).row * (flatB b q).size + (flatP q).col + k∧(flatP q).row * (flatB b q).size + (flatP q).col + k<((toBl (layTo (flatB b q) (flatP q) k.toNat)).length : Int)
  rw [toB_len]
  omega
 ·have g1:k+1≤((flatP q).word.length : Int):=by omega
  refine⟨by show 0≤k+1;omega,g1,?_⟩
  show (toBl (layTo (flatB b q) (flatP q) k.toNat)).set ((flatP q).row * (flatB b q).size + (flatP q).col + k).toNat (((flatP q).word.getD k.toNat 0).toNat : Int)=toBl (layTo (flatB b q) (flatP q) (k+1).toNat)
  rw [toB_set,lay_step q0 i3]
 all_goals have e:k=((flatP q).word.length : Int):=Int.le_antisymm q1 (ge_of (b:=((flatP q).word.length : Int)) ‹_›)
 all_goals try rw [made_y (show q.down=true by assumption)]
 all_goals try rw [made_n (show q.down=false by assumption)]
 ·have h2:=hp.on.fit
  refine⟨h2.lo,h2.hi,h2.prem,?_⟩
  show (((toSl (toBl (layTo (flatB b q) (flatP q) k.toNat))).length : Nat):Int)=(flatB b q).size * (flatB b q).size
  rw [toS_toB,lay_len,h2.cells]
 ·show turnI (flatB b q).size (toSl (toBl (layTo (flatB b q) (flatP q) k.toNat)))=turnI (flatB b q).size (layTo (flatB b q) (flatP q) (flatP q).word.length)
  rw [toS_toB,e,Int.toNat_natCast]
 ·show toSl (toBl (layTo (flatB b q) (flatP q) k.toNat))=layTo (flatB b q) (flatP q) (flatP q).word.length
  rw [toS_toB,e,Int.toNat_natCast]
def prmI (b:Bd) (r c:Int):Int:=(b.prm r c).toNat
theorem prm_bd {b:Bd} {r c:Int} (h:AtP b r c):(0≤r*b.size∧r*b.size≤225)∧(0≤r*b.size+c∧r*b.size+c<b.prem.length∧(b.prem.length:Int)≤225):=by
 have h1:=atP_bd h
 have h2:=h.fit.cells
 have h3:=h.fit.prem
 omega
def sp_s_l13Premium (p:Pr):FSpec:=fsp (ac (aP aBd) (ac aI (a1 aI))) (fun (b,r,c)=>AtP b r c) (fun (b,r,c)=>.i .u8 (prmI b r c))
theorem ok_s_l13Premium:FOk Tryz.prog 308 (sp_s_l13Premium std):=by
 refine FOk.go (c:=cx std [] [] 0) (cx_ok .nil .nil) mixed Tryz.func308 rfl rfl rfl (by kernel_rfl) ?_
 rintro ⟨b,r,c⟩ hp
 dsimp only at hp
 refine⟨rfl,?_⟩
 generalize hP:std=p,hB0:prmI=B0
 cbv
 repeat' first
  | (refine fun (_:Unit)=>?_;cbv)
  | (refine aI2 (fun h=>?_) (fun h=>?_)<;>cbv)
  | (refine aI2 ?_ ?_)
  | (refine Or.inl (fun (_:Unit)=>?_);cbv)
 all_goals subst hP hB0
 all_goals have f1:=prm_bd hp
 all_goals try exact fin
theorem by_e {c:UInt8} (n:Nat) (hn:n<256):std.eqI (c.toNat:Int) n=(c==UInt8.ofNat n):=by
 rw [sd_eqI,Bool.eq_iff_iff,beq_iff_eq,beq_iff_eq]
 constructor
 ·intro h;rw [←UInt8.ofNat_toNat (x:=c),show c.toNat=n from by omega]
 ·intro h;rw [h,UInt8.toNat_ofNat',Nat.mod_eq_of_lt hn]
def letterV (t:TS) (b:Bd) (r c:Int) (l:UInt8):Int:=ltF (b.prm r c)*valT t l
def factorV (b:Bd) (r c:Int):Int:=wdF (b.prm r c)
section
variable {t:TS} {b:Bd} {r c:Int} {l:UInt8}
theorem lv_2 (h:std.eqI (prmI b r c) 50=true):2*valT t l=letterV t b r c l:=by
 replace h:=(by_e 50 (by decide)).symm.trans h
 unfold letterV ltF;rw [if_pos (show (b.prm r c==50)=true from h)]
theorem lv_3 (h0:std.eqI (prmI b r c) 50=false) (h:std.eqI (prmI b r c) 51=true):3*valT t l=letterV t b r c l:=by
 replace h:=(by_e 51 (by decide)).symm.trans h;replace h0:=(by_e 50 (by decide)).symm.trans h0
 unfold letterV ltF;rw [if_neg (by rw [show (b.prm r c==50)=false from h0];exact Bool.false_ne_true),if_pos (show (b.prm r c==51)=true from h)]
theorem lv_1 (h0:std.eqI (prmI b r c) 50=false) (h:std.eqI (prmI b r c) 51=false):valT t l=letterV t b r c l:=by
 replace h:=(by_e 51 (by decide)).symm.trans h;replace h0:=(by_e 50 (by decide)).symm.trans h0
 unfold letterV ltF;rw [if_neg (by rw [show (b.prm r c==50)=false from h0];exact Bool.false_ne_true),if_neg (by rw [show (b.prm r c==51)=false from h];exact Bool.false_ne_true),Int.one_mul]
theorem fv_2 (h:std.eqI (prmI b r c) 100=true):2=factorV b r c:=by
 replace h:=(by_e 100 (by decide)).symm.trans h
 unfold factorV wdF;rw [if_pos (show (b.prm r c==100)=true from h)]
theorem fv_3 (h0:std.eqI (prmI b r c) 100=false) (h:std.eqI (prmI b r c) 116=true):3=factorV b r c:=by
 replace h:=(by_e 116 (by decide)).symm.trans h;replace h0:=(by_e 100 (by decide)).symm.trans h0
 unfold factorV wdF;rw [if_neg (by rw [show (b.prm r c==100)=false from h0];exact Bool.false_ne_true),if_pos (show (b.prm r c==116)=true from h)]
theorem fv_1 (h0:std.eqI (prmI b r c) 100=false) (h:std.eqI (prmI b r c) 116=false):1=factorV b r c:=by
 replace h:=(by_e 116 (by decide)).symm.trans h;replace h0:=(by_e 100 (by decide)).symm.trans h0
 unfold factorV wdF;rw [if_neg (by rw [show (b.prm r c==100)=false from h0];exact Bool.false_ne_true),if_neg (by rw [show (b.prm r c==116)=false from h];exact Bool.false_ne_true)]
theorem lv_bd (h:TsOk t):0≤letterV t b r c l∧letterV t b r c l≤60:=by
 have h1:=h.lo l
 have h2:=h.hi l
 unfold letterV ltF
 split
 ·omega
 ·split<;>omega
theorem fv_bd:1≤factorV b r c∧factorV b r c≤3:=by
 unfold factorV wdF
 split
 ·omega
 ·split<;>omega
end
structure LtP (t:TS) (b:Bd) (r c l:Int):Prop where
 l:std.inK .u8 l
 ts:TsOk t
 at':AtP b r c
def sp_s_l13Letter (p:Pr):FSpec:=fsp (ac (aP aTs) (ac (aP aBd) (ac aI (ac aI (a1 aC))))) (fun (t,b,r,c,l)=>LtP t b r c l) (fun (t,b,r,c,l)=>.i .i64 (letterV t b r c (u8 l)))
theorem ok_s_l13Letter:FOk Tryz.prog 276 (sp_s_l13Letter std):=by
 refine FOk.go (c:=cx std [(253,sp_s_l02Value std),(308,sp_s_l13Premium std)] [] 0) (cx_ok (.cons ok_s_l02Value (.cons ok_s_l13Premium .nil)) .nil) mixed Tryz.func276 rfl rfl rfl (by kernel_rfl) ?_
 rintro ⟨t,b,r,c,l⟩ hp
 dsimp only at hp
 refine⟨rfl,?_⟩
 unfold sp_s_l02Value sp_s_l13Premium
 generalize hP:std=p,hB0:letterV=B0,hB1:prmI=B1,hB2:valT=B2,hB3:u8=B3
 cbv
 repeat' first
  | (refine fun (_:Unit)=>?_;cbv)
  | (refine aI2 (fun h=>?_) (fun h=>?_)<;>cbv)
  | (refine aI2 ?_ ?_)
  | (refine Or.inl (fun (_:Unit)=>?_);cbv)
 all_goals subst hP hB0 hB1 hB2 hB3
 all_goals have f1:=hp.ts.lo (u8 l)
 all_goals have f2:=hp.ts.hi (u8 l)
 all_goals try exact fin
 ·exact hp.at'
 ·exact lv_2 ‹_›
 ·exact lv_3 ‹_› ‹_›
 ·exact lv_1 ‹_› ‹_›
def sp_s_l13Factor (p:Pr):FSpec:=fsp (ac (aP aBd) (ac aI (a1 aI))) (fun (b,r,c)=>AtP b r c) (fun (b,r,c)=>.i .i64 (factorV b r c))
theorem ok_s_l13Factor:FOk Tryz.prog 277 (sp_s_l13Factor std):=by
 refine FOk.go (c:=cx std [(308,sp_s_l13Premium std)] [] 0) (cx_ok (.cons ok_s_l13Premium .nil) .nil) mixed Tryz.func277 rfl rfl rfl (by kernel_rfl) ?_
 rintro ⟨b,r,c⟩ hp
 dsimp only at hp
 refine⟨rfl,?_⟩
 unfold sp_s_l13Premium
 generalize hP:std=p,hB0:prmI=B0,hB1:factorV=B1
 cbv
 repeat' first
  | (refine fun (_:Unit)=>?_;cbv)
  | (refine aI2 (fun h=>?_) (fun h=>?_)<;>cbv)
  | (refine aI2 ?_ ?_)
  | (refine Or.inl (fun (_:Unit)=>?_);cbv)
 all_goals subst hP hB0 hB1
 all_goals try exact fin
 ·exact fv_2 ‹_›
 ·exact fv_3 ‹_› ‹_›
 ·exact fv_1 ‹_› ‹_›
theorem ls_len (t:TS) (b:Bd) (q:Pl):(lsS t b q).length =q.word.length:=by unfold lsS;rw [List.length_map,List.length_range]
theorem ls_at {t:TS} {b:Bd} {q:Pl} {k:Int} (h0:0≤k) (h:k<q.word.length):(lsS t b q).getD k.toNat 0=if atI b q.row (q.col+k)=46 then letterV t b q.row (q.col+k) (q.word.getD k.toNat 0) else valT t (q.word.getD k.toNat 0):=by
 unfold lsS
 rw [List.getD_eq_getElem?_getD,List.getElem?_map,List.getElem?_range (by omega)]
 show (if b.at_ q.row (q.col+((k.toNat:Nat):Int))==46 then _ else _)=_
 rw [show ((k.toNat:Nat):Int)=k from by omega]
 have e:(b.at_ q.row (q.col+k)==46)=decide (atI b q.row (q.col+k)=46):=((by_e 46 (by decide)).symm.trans (Bool.eq_iff_iff.2 (by rw [sd_eqI,beq_iff_eq,decide_eq_true_eq];rfl)))
 rw [e]
 simp only [decide_eq_true_eq]
 rfl
structure LsP (t:TS) (b:Bd) (q:Pl):Prop where
 ts:TsOk t
 on:OnR b q
def sp_s_l13Letters (p:Pr):FSpec:=fsp (ac (aP aTs) (ac (aP aBd) (a1 (aA aPl)))) (fun (t,b,q)=>LsP t b q) (fun (t,b,q)=>.osl 0) (fun (t,b,q)=>[(0,.own [.i .i64] (lsS t b q) 2)])
theorem ok_s_l13Letters:FOk Tryz.prog 273 (sp_s_l13Letters std):=by
 refine FOk.go (c:=cx std [(197,sp_s_l11At std),(276,sp_s_l13Letter std),(253,sp_s_l02Value std)] [] 0) (cx_ok (.cons ok_s_l11At (.cons ok_s_l13Letter (.cons ok_s_l02Value .nil))) .nil) mixed Tryz.func273 rfl rfl rfl (by kernel_rfl) ?_
 rintro ⟨t,b,q⟩ hp
 dsimp only at hp
 refine⟨rfl,?_⟩
 unfold sp_s_l11At sp_s_l13Letter sp_s_l02Value
 obtain⟨H,hH⟩ : ∃H:Hd (Int×List Int),H=⟨fun (k,L)=>0≤k∧k≤q.word.length∧L=(lsS t b q).take k.toNat,fun (k,L)=>(q.word.length-k).toNat,(· < ·)⟩:=⟨_,rfl⟩
 have hl : ∀m n,H.lt m n→m<n:=by subst hH;exact fun _ _ h=>h
 generalize hP:std=p,hB0:lsS=B0,hB1:valT=B1,hB2:letterV=B2,hB3:atI=B3,hB4:u8=B4
 cbv
 repeat' first
  | (refine fun (_:Unit)=>?_;cbv)
  | (refine Or.inr ⟨10,[],[.s 8 (.i .i64),.o 1 [.i .i64]],[.s 7],[],H,rfl,hl,?_,fun ((k,L):Int×List Int) hk=>?_⟩<;>cbv)
  | (refine aI2 (fun h=>?_) (fun h=>?_)<;>cbv)
  | (refine aI2 ?_ ?_)
 all_goals subst hP hB0 hB1 hB2 hB3 hB4 hH
 all_goals clear hl
 all_goals try dsimp only at hk
 all_goals try dsimp only
 all_goals have f1:=hp.on.len
 all_goals have f2:=hp.on.col
 all_goals have f3:=ls_len t b q
 all_goals try exact fin
 all_goals obtain⟨q0,q1,rfl⟩:=hk
 all_goals try (have h1:k<q.word.length:=lt_of ‹_›)
 all_goals try (have g1:k+1≤(q.word.length:Int):=by omega)
 all_goals try (have h2:=ls_at (t:=t) (b:=b) q0 h1)
 ·exact hp.on.at q0 h1
 ·exact⟨byte_in,hp.ts,hp.on.at q0 h1⟩
 ·show (((lsS t b q).take k.toNat).length : Int)+1≤_
  rw [List.length_take];omega
 ·refine⟨by show 0≤k+1;omega,g1,?_⟩
  have h3:atI b q.row (q.col+k)=46:=by have h4:std.eqI (atI b q.row (q.col+k)) 46=true:=by assumption
                                       simpa using h4
  rw [if_pos h3] at h2
  show (lsS t b q).take k.toNat++[letterV t b q.row (q.col+k) (u8 (std.byte q.word k))]=(lsS t b q).take (k+1).toNat
  rw [tk q0 (by rw [f3];exact h1) 0,h2,u8_byte]
 ·show (((lsS t b q).take k.toNat).length : Int)+1≤_
  rw [List.length_take];omega
 ·refine⟨by show 0≤k+1;omega,g1,?_⟩
  have h3 : ¬atI b q.row (q.col+k)=46:=by have h4:std.eqI (atI b q.row (q.col+k)) 46=false:=by assumption
                                          simpa using h4
  rw [if_neg h3] at h2
  show (lsS t b q).take k.toNat++[valT t (u8 (std.byte q.word k))]=(lsS t b q).take (k+1).toNat
  rw [tk q0 (by rw [f3];exact h1) 0,h2,u8_byte]
 ·rw [tk_all (by rw [f3];exact ge_of ‹_›)]
def mainK (b:Bd) (q:Pl) (k:Int):Int:=((frI b q).take k.toNat).foldl (fun a i=>a*factorV b q.row (q.col+i)) 1
theorem fac_fold (b:Bd) (r c:Int) (l:List Int) : ∀a:Int,1≤a→1≤l.foldl (fun a i=>a*factorV b r (c+i)) a∧l.foldl (fun a i=>a*factorV b r (c+i)) a≤a*3 ^ l.length:=by
 induction l with
 | nil=>intro a h;exact⟨h,by simp⟩
 | cons x l ih=>
   intro a h
   obtain⟨h1,h2⟩:=fv_bd (b:=b) (r:=r) (c:=c+x)
   have h3:a*1≤a*factorV b r (c+x):=Int.mul_le_mul_of_nonneg_left h1 (by omega)
   have h4:a*factorV b r (c+x)≤a*3:=Int.mul_le_mul_of_nonneg_left h2 (by omega)
   obtain⟨h5,h6⟩:=ih (a*factorV b r (c+x)) (by omega)
   refine⟨h5,Int.le_trans h6 ?_⟩
   rw [List.length_cons,Int.pow_succ,Int.mul_comm (3 ^ l.length) 3,←Int.mul_assoc]
   exact Int.mul_le_mul_of_nonneg_right h4 (Int.pow_nonneg (by decide))
theorem mainK_bd {b:Bd} {q:Pl} (h:q.word.length≤15) (k:Int):1≤mainK b q k∧mainK b q k≤14348907:=by
 obtain⟨h1,h2⟩:=fac_fold b q.row q.col ((frI b q).take k.toNat) 1 (by decide)
 have h3:=frI_len b q
 have h4:((frI b q).take k.toNat).length ≤15:=by rw [List.length_take];omega
 refine⟨h1,Int.le_trans h2 ?_⟩
 rw [Int.one_mul]
 have h5:(3:Nat) ^ ((frI b q).take k.toNat).length ≤3 ^ 15:=Nat.pow_le_pow_right (by decide) h4
 have h6:((3 ^ ((frI b q).take k.toNat).length : Nat):Int)≤((3 ^ 15:Nat):Int):=Int.ofNat_le.2 h5
 rw [Int.natCast_pow] at h6
 exact h6
theorem mainK_step {b:Bd} {q:Pl} {k:Int} (h0:0≤k) (h:k<(frI b q).length):mainK b q (k+1)=mainK b q k*factorV b q.row (q.col+(frI b q).getD k.toNat 0):=by
 unfold mainK
 rw [tk h0 h 0,List.foldl_append];rfl
theorem mainK_end {b:Bd} {q:Pl} {k:Int} (h:((frI b q).length : Int)≤k):mainK b q k=mainF b q:=by
 unfold mainK mainF
 rw [tk_all h]
 unfold frI
 rw [List.foldl_map];rfl
def sp_s_l13Main (p:Pr):FSpec:=fsp (ac (aP aBd) (a1 (aA aPl))) (fun (b,q)=>OnR b q) (fun (b,q)=>.i .i64 (mainF b q))
theorem ok_s_l13Main:FOk Tryz.prog 274 (sp_s_l13Main std):=by
 refine FOk.go (c:=cx std [(217,sp_s_l12Fresh std),(277,sp_s_l13Factor std)] [] 0) (cx_ok (.cons ok_s_l12Fresh (.cons ok_s_l13Factor .nil)) .nil) mixed Tryz.func274 rfl rfl rfl (by kernel_rfl) ?_
 rintro ⟨b,q⟩ hp
 dsimp only at hp
 refine⟨rfl,?_⟩
 unfold sp_s_l12Fresh sp_s_l13Factor
 obtain⟨H,hH⟩ : ∃H:Hd (Int×Int),H=⟨fun (m,k)=>0≤k∧k≤(frI b q).length ∧m=mainK b q k,fun (m,k)=>((frI b q).length - k).toNat,(· < ·)⟩:=⟨_,rfl⟩
 have hl : ∀m n,H.lt m n→m<n:=by subst hH;exact fun _ _ h=>h
 generalize hP:std=p,hB0:mainF=B0,hB1:factorV=B1,hB2:frI=B2
 cbv
 repeat' first
  | (refine fun (_:Unit)=>?_;cbv)
  | (refine Or.inr ⟨11,[],[.s 6 (.i .i64),.s 7 (.i .i64)],[],[],H,rfl,hl,?_,fun ((m,k):Int×Int) hk=>?_⟩<;>cbv)
  | (refine aI2 (fun h=>?_) (fun h=>?_)<;>cbv)
  | (refine aI2 ?_ ?_)
 all_goals subst hP hB0 hB1 hB2 hH
 all_goals clear hl
 all_goals try dsimp only at hk
 all_goals try dsimp only
 all_goals have f1:=hp.len
 all_goals have f2:=hp.col
 all_goals have f3:=frI_len b q
 all_goals try exact fin
 ·exact⟨Int.le_refl 0,Int.natCast_nonneg _,rfl⟩
 all_goals obtain⟨q0,q1,rfl⟩:=hk
 all_goals try (have h1:k<(frI b q).length :=lt_of ‹_›)
 all_goals try (have h2:=frI_bd q0 h1)
 all_goals try (have g1:k+1≤((frI b q).length : Int):=by omega)
 all_goals have h3:=mainK_bd (b:=b) f1 k
 ·exact in64 (by show _≤q.col+(frI b q).getD k.toNat 0∧q.col+(frI b q).getD k.toNat 0≤_;omega)
 ·exact hp.at h2.1 h2.2
 ·have h4:=mainK_bd (b:=b) f1 (k+1)
  rw [mainK_step q0 h1] at h4
  exact in64 (by show _≤mainK b q k*factorV b q.row (q.col+(frI b q).getD k.toNat 0)∧mainK b q k*factorV b q.row (q.col+(frI b q).getD k.toNat 0)≤_;omega)
 ·refine⟨by show 0≤k+1;omega,g1,?_⟩
  exact (mainK_step q0 h1).symm
 ·exact mainK_end (ge_of ‹_›)
end Ax
end Go.Proofs.YtjjonmhpgkahoaaGreatDoor
