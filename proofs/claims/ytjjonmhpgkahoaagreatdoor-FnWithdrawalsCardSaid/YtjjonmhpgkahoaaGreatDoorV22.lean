/-
  Standard boards: walked.
  Conditions: none.
-/
import Derived.Test.YtjjonmhpgkahoaaGreatDoorV21
import Derived.Test.YtjjonmhpgkahoaaGreatDoorV15
import Derived.Test.YtjjonmhpgkahoaaGreatDoorV20
set_option linter.unusedSimpArgs false
set_option linter.unusedVariables false
namespace Go.Proofs.YtjjonmhpgkahoaaGreatDoor
namespace Ax
set_option maxRecDepth 100000
set_option maxHeartbeats 2000000
def sp_s_l00Max (p:Pr):FSpec:=fsp (ac aI (a1 aI)) (fun (a,b)=>True) (fun (a,b)=>.i .i64 (maxI a b))
theorem ok_s_l00Max:FOk Tryz.prog 200 (sp_s_l00Max std):=by
 refine FOk.go (c:=cx std [] [] 0) (cx_ok .nil .nil) mixed Tryz.func200 rfl rfl rfl (by kernel_rfl) ?_
 rintro ⟨a,b⟩ hp
 dsimp only at hp
 refine⟨rfl,?_⟩
 generalize hP:std=p,hB0:maxI=B0
 cbv
 repeat' first|refine fun (_:Unit)=>?_;cbv|refine aI2 (fun h=>?_) (fun h=>?_)<;>cbv|refine aI2 ?_ ?_|refine Or.inl (fun (_:Unit)=>?_);cbv
 all_goals subst hP hB0
 all_goals try exact fin
 ·exact (if_pos (lt_of h)).symm
 ·exact (if_neg (Int.not_lt.2 (ge_of h))).symm
def sp_l00MinD (p:Pr):FSpec:=fsp (ac aI (a1 aI)) (fun (a,b)=>True) (fun (a,b)=>.i .i64 (minI a b))
theorem ok_l00MinD:FOk Tryz.prog 286 (sp_l00MinD std):=by
 refine FOk.go (c:=cx std [] [] 0) (cx_ok .nil .nil) mixed Tryz.func286 rfl rfl rfl (by kernel_rfl) ?_
 rintro ⟨a,b⟩ hp
 dsimp only at hp
 refine⟨rfl,?_⟩
 generalize hP:std=p,hB0:minI=B0
 cbv
 repeat' first|refine fun (_:Unit)=>?_;cbv|refine aI2 (fun h=>?_) (fun h=>?_)<;>cbv|refine aI2 ?_ ?_|refine Or.inl (fun (_:Unit)=>?_);cbv
 all_goals subst hP hB0
 all_goals try exact fin
 ·exact (if_pos (lt_of h)).symm
 ·exact (if_neg (Int.not_lt.2 (ge_of h))).symm
structure SbP (n r c:Int):Prop where
 lo:0≤n
 hi:n≤100
 r:0≤r∧r<n
 c:0≤c∧c<n
def stdI (n r c:Int):Int:=((stdV n r c).toNat : Int)
section
variable {n r c:Int}
theorem min_b {a b:Int} (h:0≤a∧a≤100) (h2:0≤b∧b≤100):0≤minI a b∧minI a b≤100:=by unfold minI;split<;>omega
theorem max_b {a b:Int} (h:0≤a∧a≤100) (h2:0≤b∧b≤100):0≤maxI a b∧maxI a b≤100:=by unfold maxI;split<;>omega
theorem SbP.a (h:SbP n r c):(0≤stdA n r c∧stdA n r c≤100)∧(0≤stdB n r c∧stdB n r c≤100):=by
 have h0:=h.lo;have h1:=h.hi;have h2:=h.r;have h3:=h.c
 have e1:0≤minI r (n-1-r)∧minI r (n-1-r)≤100:=min_b (by omega) (by omega)
 have e2:0≤minI c (n-1-c)∧minI c (n-1-c)≤100:=min_b (by omega) (by omega)
 exact⟨min_b e1 e2,max_b e1 e2⟩
theorem of_t {a b:Int} (h:std.eqI a b=true):a=b:=beq_iff_eq.1 h
theorem of_f {a b:Int} (h:std.eqI a b=false) : ¬a=b:=fun e=>by rw [show std.eqI a b=true from beq_iff_eq.2 e] at h;cases h
theorem SbP.q (h:SbP n r c):std.quo (std.sub n 1) 2=(n-1)/2:=quo_nn (by have:=h.r;show 0≤n-1;omega)
theorem SbP.m (h:SbP n r c) (k:Int):std.rem (std.add (stdA n r c) (stdB n r c)) k=(stdA n r c+stdB n r c)%k:=rem_nn (by have:=h.a;show 0≤stdA n r c+stdB n r c;omega)
theorem sv_t (h1:stdA n r c=0) (h2:stdB n r c=0∨stdB n r c=(n-1)/2):116=stdI n r c:=by
 unfold stdI stdV;rw [if_pos ⟨h1,h2⟩];rfl
theorem sv_d (h1 : ¬(stdA n r c=0∧(stdB n r c=0∨stdB n r c=(n-1)/2))) (h2:stdA n r c=stdB n r c):100=stdI n r c:=by
 unfold stdI stdV;rw [if_neg h1,if_pos h2];rfl
theorem sv_3 (h1 : ¬(stdA n r c=0∧(stdB n r c=0∨stdB n r c=(n-1)/2))) (h2 : ¬stdA n r c=stdB n r c) (h3:(stdA n r c+stdB n r c)%6=4):51=stdI n r c:=by
 unfold stdI stdV;rw [if_neg h1,if_neg h2,if_pos h3];rfl
theorem sv_2 (h1 : ¬(stdA n r c=0∧(stdB n r c=0∨stdB n r c=(n-1)/2))) (h2 : ¬stdA n r c=stdB n r c) (h3 : ¬(stdA n r c+stdB n r c)%6=4) (h4:(stdA n r c+stdB n r c)%4=3):50=stdI n r c:=by
 unfold stdI stdV;rw [if_neg h1,if_neg h2,if_neg h3,if_pos h4];rfl
theorem sv_n (h1 : ¬(stdA n r c=0∧(stdB n r c=0∨stdB n r c=(n-1)/2))) (h2 : ¬stdA n r c=stdB n r c) (h3 : ¬(stdA n r c+stdB n r c)%6=4) (h4 : ¬(stdA n r c+stdB n r c)%4=3):46=stdI n r c:=by
 unfold stdI stdV;rw [if_neg h1,if_neg h2,if_neg h3,if_neg h4];rfl
end
def sp_s_l11Standard (p:Pr):FSpec:=fsp (ac aI (ac aI (a1 aI))) (fun (n,r,c)=>SbP n r c) (fun (n,r,c)=>.i .u8 (stdI n r c))
theorem ok_s_l11Standard:FOk Tryz.prog 232 (sp_s_l11Standard std):=by
 refine FOk.go (c:=cx std [(200,sp_s_l00Max std),(286,sp_l00MinD std)] [] 0) (cx_ok (.cons ok_s_l00Max (.cons ok_l00MinD .nil)) .nil) mixed Tryz.func232 rfl rfl rfl (by kernel_rfl) ?_
 rintro ⟨n,r,c⟩ hp
 dsimp only at hp
 refine⟨rfl,?_⟩
 unfold sp_s_l00Max sp_l00MinD
 generalize hP:std=p,hB0:stdI=B0,hB1:minI=B1,hB2:maxI=B2
 cbv
 repeat' first|refine fun (_:Unit)=>?_;cbv|refine aI2 (fun h=>?_) (fun h=>?_)<;>cbv|refine aI2 ?_ ?_|refine Or.inl (fun (_:Unit)=>?_);cbv
 all_goals subst hP hB0 hB1 hB2
 all_goals try exact fin
 all_goals have g0:=hp.lo
 all_goals have g1:=hp.hi
 all_goals have g2:=hp.r
 all_goals have g3:=hp.c
 all_goals have g4:=hp.a
 all_goals try (have a1:stdA n r c=0:=of_t ‹_›)
 all_goals try (have a0 : ¬stdA n r c=0:=of_f ‹_›)
 all_goals try (have b1:stdB n r c=0:=of_t ‹_›)
 all_goals try (have b0 : ¬stdB n r c=0:=of_f ‹_›)
 all_goals try (have d1:stdB n r c=(n-1)/2:=by rw [←hp.q];exact of_t ‹_›)
 all_goals try (have d0 : ¬stdB n r c=(n-1)/2:=by rw [←hp.q];exact of_f ‹_›)
 all_goals try (have q1:stdA n r c=stdB n r c:=of_t ‹_›)
 all_goals try (have q0 : ¬stdA n r c=stdB n r c:=of_f ‹_›)
 all_goals try (have s1:(stdA n r c+stdB n r c)%6=4:=by rw [←hp.m];exact of_t ‹_›)
 all_goals try (have s0 : ¬(stdA n r c+stdB n r c)%6=4:=by rw [←hp.m];exact of_f ‹_›)
 all_goals try (have t1:(stdA n r c+stdB n r c)%4=3:=by rw [←hp.m];exact of_t ‹_›)
 all_goals try (have t0 : ¬(stdA n r c+stdB n r c)%4=3:=by rw [←hp.m];exact of_f ‹_›)
 all_goals first
  | exact sv_t a1 (.inl b1)
  | exact sv_t a1 (.inr d1)
  | exact sv_d (fun h=>a0 h.1) q1
  | exact sv_d (fun h=>h.2.elim b0 d0) q1
  | exact sv_3 (fun h=>a0 h.1) q0 s1
  | exact sv_3 (fun h=>h.2.elim b0 d0) q0 s1
  | exact sv_2 (fun h=>a0 h.1) q0 s0 t1
  | exact sv_2 (fun h=>h.2.elim b0 d0) q0 s0 t1
  | exact sv_n (fun h=>a0 h.1) q0 s0 t0
  | exact sv_n (fun h=>h.2.elim b0 d0) q0 s0 t0
  | exact in64 (by show _≤n-1∧n-1≤_;omega)
  | exact in64 (by show _≤n-1-r∧n-1-r≤_;omega)
  | exact in64 (by show _≤n-1-c∧n-1-c≤_;omega)
  | exact in64 (by show _≤stdA n r c+stdB n r c∧stdA n r c+stdB n r c≤_;omega)
  | (have h7:std.inK .i64 ((n-1)/2):=in64 (by omega)
     rw [←hp.q] at h7;exact h7)
  | skip
structure SdP (n:Int):Prop where
 n:n=5∨n=7∨n=9
def rowR (n r c:Int):List UInt8:=(List.range c.toNat).map fun k:Nat=>stdV n r k
def rowsR (n r:Int):List UInt8:=((List.range r.toNat).map fun k:Nat=>rowR n k n).flatten
section
variable {n r c:Int}
theorem rowR_s (h:0≤c):rowR n r (c+1)=rowR n r c++[stdV n r c]:=by
 unfold rowR
 rw [show (c+1).toNat =c.toNat+1 by omega,List.range_succ,List.map_append]
 simp [show ((c.toNat:Nat):Int)=c by omega]
theorem rowsR_s (h:0≤r):rowsR n (r+1)=rowsR n r++rowR n r n:=by
 unfold rowsR
 rw [show (r+1).toNat =r.toNat+1 by omega,List.range_succ,List.map_append,List.flatten_append]
 simp [show ((r.toNat:Nat):Int)=r by omega]
theorem rowsR_n:rowsR n n=stdP n:=rfl
theorem rowR_len:(rowR n r c).length =c.toNat:=by unfold rowR;simp
theorem rowsR_len:(rowsR n r).length =r.toNat*n.toNat:=by
 unfold rowsR
 generalize r.toNat=k
 induction k with
 | zero=>simp
 | succ k ih=>rw [List.range_succ,List.map_append,List.flatten_append,List.length_append,ih,Nat.succ_mul];simp [rowR_len]
theorem SdP.b (h:SdP n):5≤n∧n≤9:=by rcases h.n with e | e | e<;>omega
theorem sd1 (h:SdP n) (h2:inR n 5 15=false):False:=by
 rcases h.n with rfl | rfl | rfl<;>exact absurd h2 (by decide)
end
def sp_s_StandardBoard (p:Pr):FSpec:=fsp (a1 aI) (fun n=>SdP n) (fun n=>.tup [.agg (bdK (stdBd n)),.i .i64 0])
theorem ok_s_StandardBoard:FOk Tryz.prog 154 (sp_s_StandardBoard std):=by
 refine FOk.go (c:=cx std [(231,sp_s_l11Size std),(158,sp_s_l02Repeat std),(232,sp_s_l11Standard std)] [] 0) (cx_ok (.cons ok_s_l11Size (.cons ok_s_l02Repeat (.cons ok_s_l11Standard .nil))) .nil) mixed Tryz.func154 rfl rfl rfl (by kernel_rfl) ?_
 rintro n hp
 refine⟨rfl,?_⟩
 unfold sp_s_l11Size sp_s_l02Repeat sp_s_l11Standard
 obtain⟨H,hH⟩ : ∃H:Hd (Int×List Int),H=⟨fun (r,L)=>0≤r∧r≤n∧L=toBl (rowsR n r),fun (r,L)=>(n-r).toNat,(· < ·)⟩:=⟨_,rfl⟩
 have hl:=hdl hH
 obtain⟨H2,hH2⟩ : ∃H:(Int×List Int)→Hd (Int×List Int),H=fun (r,L)=>⟨fun (c,L2)=>0≤c∧c≤n∧L2=toBl (rowsR n r++rowR n r c),fun (c,L2)=>(n-c).toNat,(· < ·)⟩:=⟨_,rfl⟩
 have hl2 : ∀x m n,(H2 x).lt m n→m<n:=by subst hH2;exact fun _ _ _ h=>h
 generalize hP:std=p,hB0:stdP=B0,hB1:stdI=B1,hB2:inR=B2,hB3:rowR=B3,hB4:rowsR=B4,hB5:stdBd=B5,hB6:repC=B6,hB7:u8=B7
 cbv
 repeat' first|refine fun (_:Unit)=>?_;cbv|refine Or.inr ⟨12,[],[.s 5 (.i .i64),.o 1 [.i .u8]],[.s 4],[],H,rfl,hl,?_,fun ((r,L):Int×List Int) hk=>?_⟩<;>cbv|refine Or.inr ⟨17,[],[.s 6 (.i .i64),.o 1 [.i .u8]],[.s 4],[],H2 (r,L),rfl,hl2 _,?_,fun ((c,L2):Int×List Int) hk2=>?_⟩<;>cbv|refine aI2 (fun h=>?_) (fun h=>?_)<;>cbv|refine aI2 ?_ ?_
 all_goals subst hP hB0 hB1 hB2 hB3 hB4 hB5 hB6 hB7 hH hH2
 all_goals clear hl
 all_goals try dsimp only at hk
 all_goals clear hl2
 all_goals try dsimp only at hk2
 all_goals try dsimp only
 all_goals try (exfalso;exact sd1 hp ‹_›)
 all_goals try exact fin
 ·exact⟨Int.le_refl 0,by have:=hp.b;omega,rfl⟩
 all_goals obtain⟨g0,g1⟩:=hp.b
 all_goals try (obtain⟨q0,q1,q2⟩:=hk)
 all_goals try (have hr:r<n:=lt_of ‹_›)
 ·exact⟨Int.le_refl 0,by omega,by rw [q2];simp [rowR]⟩
 all_goals try (obtain⟨k0,k1,k2⟩:=hk2)
 all_goals try (have hc:c<n:=lt_of ‹_›)
 ·exact⟨by omega,by omega,⟨q0,hr⟩,⟨k0,hc⟩⟩
 ·have h7:L2.length≤200:=by
   rw [k2,toB_len,List.length_append,rowsR_len,rowR_len]
   have h8:r.toNat≤9:=by omega
   have h9:n.toNat≤9:=by omega
   have:=Nat.mul_le_mul h8 h9
   omega
  show (L2.length:Int)+1≤274877906944
  omega
 ·exact in64 (by show _≤c+1∧c+1≤_;omega)
 ·refine⟨by show 0≤c+1;omega,by show c+1≤n;omega,?_⟩
  show L2++[((stdV n r c).toNat : Int)]=toBl (rowsR n r++rowR n r (c+1))
  rw [k2,toB_snoc,rowR_s k0,List.append_assoc]
 ·exact in64 (by show _≤r+1∧r+1≤_;omega)
 ·have hc:n≤c:=ge_of ‹_›
  have hce:c=n:=by omega
  refine⟨by show 0≤r+1;omega,by show r+1≤n;omega,?_⟩
  show L2=toBl (rowsR n (r+1))
  rw [k2,rowsR_s q0,hce]
 ·have h7:n*n≤81:=by rcases hp.n with e | e | e<;>rw [e]<;>decide
  have h8:0≤n*n:=by rcases hp.n with e | e | e<;>rw [e]<;>decide
  exact in64 (by show _≤n*n∧n*n≤_;omega)
 ·have h7:n*n≤81:=by rcases hp.n with e | e | e<;>rw [e]<;>decide
  show n*n≤200
  omega
 ·have hr:n≤r:=ge_of ‹_›
  show toSl L=stdP n
  rw [q2,toS_toB,show r=n by omega,rowsR_n]
section
variable {b:Bd} {q:Pl} {i:Nat}
theorem words_same (hb:bdB b=true) (hon:OnQ b q) (hw:lettB q.word=true):wordsL b q=wordsI b q:=by
 unfold wordsL wordsI formedL crossW crossP sqL
 rw [fresh_new hb hon,flatP_word,List.map_cons]
 congr 1
 have hlt : ∀x∈newL b q,x<q.word.length:=fun x hx=>List.mem_range.1 (List.mem_filter.1 hx).1
 generalize newL b q=N at hlt
 unfold keepL
 induction N with
 | nil=>rfl
 | cons x N ih=>
   have ih:=ih fun y hy=>hlt y (List.mem_cons_of_mem _ hy)
   have hx:=cross_seq hb hon (hlt x (List.mem_cons_self ..)) hw
   have hlen:(crossAt (flatB b q) (flatP q) x).length =(seqL (madeB b q) (!q.down) (q.sr x) (q.sc x)).length :=by rw [hx];simp [sqW]
   simp only [List.map_cons,List.filter_cons,hlen]
   by_cases h2:2≤(seqL (madeB b q) (!q.down) (q.sr x) (q.sc x)).length
   ·rw [if_pos (by simp;omega),if_pos (by simpa using h2),List.map_cons,List.map_cons,ih,hx]
   ·rw [if_neg (by simp;omega),if_neg (by simpa using h2),ih]
theorem formed_wds {b:Bd} {q:Pl} (hb:bdB b=true) (hon:OnQ b q) (hw:lettB q.word=true):(formedL (flatB b q) (flatP q)).length =(wordsI b q).length :=by
 rw [←words_same hb hon hw,wordsL,List.length_map]
theorem empty_new {b:Bd} (hb:bdB b=true) {q:Pl} (hon:OnQ b q) (h:lettersS b=[]):newL b q=List.range q.word.length:=by
 unfold newL newTo
 rw [List.filter_eq_self]
 intro i hi
 have hin:=hon i (List.mem_range.1 hi)
 have hm:=at_mem (bdB.fit hb) hin
 unfold lettersS at h
 rw [List.filter_eq_nil_iff] at h
 have:=h _ hm
 unfold Bd.let_
 rw [cell_in hin]
 simp at this
 simp [this]
theorem touch_same {b:Bd} (hb:bdB b=true) {q:Pl} (hv:validI b q=true):touchB b q=touchI b q:=by
 obtain⟨hon,hw,h2,h12⟩:=validI_facts hv
 unfold touchB touchI
 by_cases h:lettersS b=[]
 ·rw [if_pos h,h,if_pos (by rfl),empty_new hb hon h]
  rw [Bool.eq_iff_iff,List.any_eq_true]
  simp only [Bool.and_eq_true,decide_eq_true_eq]
  unfold flatP Pl.tr sqL Pl.sr Pl.sc
  constructor
  ·rintro ⟨h3,h4,h5⟩
   cases hd:q.down
   ·simp only [hd,Bool.false_eq_true,if_false] at h3 h4 h5 ⊢
    refine⟨_,List.mem_map.2 ⟨(b.size/2-q.col).toNat,List.mem_range.2 (by omega),rfl⟩,?_⟩
    rw [beq_iff_eq,Prod.mk.injEq]
    omega
   ·simp only [hd,if_true] at h3 h4 h5 ⊢
    refine⟨_,List.mem_map.2 ⟨(b.size/2-q.row).toNat,List.mem_range.2 (by omega),rfl⟩,?_⟩
    rw [beq_iff_eq,Prod.mk.injEq]
    omega
  ·rintro ⟨x,hx,he⟩
   obtain⟨i,hi,rfl⟩:=List.mem_map.1 hx
   have hi:=List.mem_range.1 hi
   rw [beq_iff_eq,Prod.mk.injEq] at he
   cases hd:q.down<;>simp only [hd,Bool.false_eq_true,if_false,if_true] at he ⊢ <;>omega
 ·have h':(lettersS b).isEmpty =false:=by rw [Bool.eq_false_iff];intro e;exact h (List.isEmpty_iff.1 e)
  rw [if_neg h,h',if_neg (by decide),fresh_new hb hon,formed_wds hb hon hw]
theorem legal_same {b:Bd} (hb:bdB b=true) (lex:List Str) {rack:Str} (hr:rackB rack=true) (q:Pl):legalC b lex rack q=codeI b lex rack q:=by
 unfold legalC codeI
 rw [okB_validI hb]
 cases hv:validI b q
 ·rfl
 ·obtain⟨hon,hw,h2,h12⟩:=validI_facts hv
  rw [placed_new hb hon,take_less hr (placedI_lett hw),touch_same hb hv]
  unfold doubleB wrongL wrongS
  rw [fresh_new hb hon,formed_wds hb hon hw,words_same hb hon hw]
end
section
variable {g:Gm} {q:Pl} {n:Int}
theorem sg (h:std.eqI (actC g n) 0=true):gameB g=true:=by
 have h:=eqI_t h
 unfold actC at h
 by_cases h1:gameB g=true
 ·exact h1
 ·rw [if_neg h1] at h;exact absurd h (by decide)
theorem sg_bd (h:gameB g=true):bdB g.bd=true∧rackB (g.rk g.player)=true:=by
 unfold gameB shapeB twoB sideB at h
 simp only [Bool.and_eq_true,decide_eq_true_eq] at h
 exact⟨h.1.2.1,rk_valid h.2.2.1.1.1 h.2.2.1.2.1 h.2.1.2.2.2.1⟩
theorem sg_code (h:std.eqI (actC g n) 0=true):legalC g.bd g.lex (g.rk g.player) q=codeI g.bd g.lex (g.rk g.player) q:=
 legal_same (sg_bd (sg h)).1 _ (sg_bd (sg h)).2 q
theorem sg_score (h:std.eqI (actC g n) 0=true) (hv:validI g.bd q=true):scoreV g.ts g.bd q=scoreI g.ts g.bd q:=by
 unfold scoreV
 exact score_same (sg_bd (sg h)).1 hv
theorem se1 (hc:turnC g q n=0) (h:std.eqI (actC g n) 0=false):False:=by
 have h1:=eqI_f h
 unfold turnC at hc
 rw [if_neg h1] at hc
 exact h1 hc
theorem se2 (hc:turnC g q n=0) (h:std.eqI (actC g n) 0=true) (h2:waitsB g=true):False:=by
 have h1:=eqI_t h
 unfold turnC at hc
 rw [if_pos h1,if_pos h2] at hc
 exact absurd hc (by decide)
theorem se3 (hc:turnC g q n=0) (h:std.eqI (actC g n) 0=true) (h2:waitsB g=false) (h3:std.eqI (legalC g.bd g.lex (g.rk g.player) q) 0=false) (h4:std.eqI (legalC g.bd g.lex (g.rk g.player) q) 9=false∨std.eqI g.rule 0=true):False:=by
 have h1:=eqI_t h
 have h3:=eqI_f h3
 rw [sg_code h] at h3 h4
 unfold turnC at hc
 rw [if_pos h1,if_neg (by rw [h2];simp),if_pos ⟨h3,h4.imp eqI_f eqI_t⟩] at hc
 exact h3 hc
theorem se_val (h:std.eqI (actC g n) 0=true) (h3:std.eqI (legalC g.bd g.lex (g.rk g.player) q) 0=true∨std.eqI (legalC g.bd g.lex (g.rk g.player) q) 9=true):validI g.bd q=true∧withoutB (g.rk g.player) (tilesP (placedI g.bd q))=true:=by
 rw [sg_code h] at h3
 exact codeI_no2 (h3.imp eqI_t eqI_t)
end
structure StP' (g:Gm) (q:Pl):Prop where
 gm:GmL g
 wd:q.word.length≤1073741824
 own:GmP g
section
variable {g:Gm} {q:Pl} {n:Int}
structure GmS' (g:Gm):Prop where
 bd:bdB g.bd=true
 ts:tsB g.ts=true
 lex:lexB g.lex=true
 bag:bagB g.bag=true
 rk : ∀k:Int,rackB (g.rk k)=true
 sc : ∀k:Int, -100000≤g.sc k∧g.sc k≤100000
 clk : ∀k:Int, -36000≤g.clk k∧g.clk k≤36000
theorem gm_s' (h:gameB g=true):GmS' g:=by
 unfold gameB shapeB setupB twoB sideB at h
 simp only [Bool.and_eq_true,decide_eq_true_eq] at h
 have hp:=in_bd h.2.1.2.2.2.1
 have hg : ∀k:Int,g.rk k=g.racks.getD 0 []∨g.rk k=g.racks.getD 1 []∨g.rk k=[]:=fun k=>by
  unfold Gm.rk
  rcases (show k.toNat=0∨k.toNat=1∨2≤k.toNat by omega) with e | e | e
  ·rw [e];exact .inl rfl
  ·rw [e];exact .inr (.inl rfl)
  ·exact .inr (.inr (by rw [List.getD_eq_getElem?_getD,List.getElem?_eq_none (by have:=h.2.1.1;omega)];rfl))
 have hr : ∀k:Int,rackB (g.rk k)=true:=fun k=>by
  rcases hg k with e | e | e<;>rw [e]
  ·exact h.2.2.1.1.1
  ·exact h.2.2.1.2.1
  ·rfl
 have s0:=in_bd h.2.2.1.1.2.1
 have s1:=in_bd h.2.2.1.2.2.1
 have k0:=in_bd h.2.2.1.1.2.2
 have k1:=in_bd h.2.2.1.2.2.2
 refine⟨h.1.2.1,h.1.1.1,h.1.1.2.1,h.1.2.2.2.2,hr,fun k=>?_,fun k=>?_⟩
 ·unfold Gm.sc
  rcases (show k.toNat=0∨k.toNat=1∨2≤k.toNat by omega) with e | e | e
  ·rw [e];exact s0
  ·rw [e];exact s1
  ·rw [List.getD_eq_getElem?_getD,List.getElem?_eq_none (by have:=h.2.1.2.1;omega)];decide
 ·unfold Gm.clk
  rcases (show k.toNat=0∨k.toNat=1∨2≤k.toNat by omega) with e | e | e
  ·rw [e];exact k0
  ·rw [e];exact k1
  ·rw [List.getD_eq_getElem?_getD,List.getElem?_eq_none (by have:=h.2.1.2.2.1;omega)];decide
structure SyG (g:Gm) (n:Int):Prop where
 fa:SaF g
 r2:g.racks.length=2
 ok:GmS' g
 c : -36000≤g.clk g.player-n
 nb:0≤n∧n≤36000
 s : -50000≤g.sc g.player∧g.sc g.player≤50000
theorem syg (h:std.eqI (actC g n) 0=true):SyG g n:=by
 have h:=eqI_t h
 unfold actC at h
 by_cases h1:gameB g=true
 ·rw [if_pos h1] at h
  by_cases h2:g.over=true
  ·rw [if_pos h2] at h;exact absurd h (by decide)
  ·rw [if_neg h2] at h
   by_cases h3:(inR n 0 36000&&decide (-36000≤g.clk g.player-n))=true
   ·rw [if_pos h3] at h
    by_cases h4:(inR (g.sc 0) (-50000) 50000&&inR (g.sc 1) (-50000) 50000)=true
    ·rw [Bool.and_eq_true] at h3 h4
     have hf:=sa_facts h1
     have hp:=hf.ply
     refine⟨hf,?_,gm_s' h1,of_decide_eq_true h3.2,in_bd h3.1,?_⟩
     ·unfold gameB twoB at h1
      simp only [Bool.and_eq_true,decide_eq_true_eq] at h1
      exact h1.2.1.1
     ·rcases (show g.player=0∨g.player=1 by omega) with e | e<;>rw [e]
      ·exact in_bd h4.1
      ·exact in_bd h4.2
    ·rw [if_neg h4] at h;exact absurd h (by decide)
   ·rw [if_neg h3] at h;exact absurd h (by decide)
 ·rw [if_neg h1] at h;exact absurd h (by decide)
structure SyC (g:Gm) (q:Pl):Prop where
 pl:PlP g.bd q
 ts:TsOk g.ts
 v:validI g.bd q=true
 w:withoutB (g.rk g.player) (tilesP (placedI g.bd q))=true
 rs:takeS (g.rk g.player) (tilesS (placedS (flatB g.bd q) (flatP q)))=restT g q
 rk:rackB (restT g q)=true
 sc:0≤scoreV g.ts g.bd q∧scoreV g.ts g.bd q≤440800000050
theorem syc (hG:SyG g n) (h:std.eqI (actC g n) 0=true) (h3:std.eqI (legalC g.bd g.lex (g.rk g.player) q) 0=true∨std.eqI (legalC g.bd g.lex (g.rk g.player) q) 9=true):SyC g q:=by
 obtain⟨h1,h2⟩:=se_val h h3
 have hts:=tsB_ok hG.ok.ts
 have hr:=hG.ok.rk g.player
 refine⟨okB_on (by rw [okB_validI hG.ok.bd];exact h1),hts,h1,h2,rest_spec hG.ok.bd hr h1 h2,(restT_ok hG.ok.bd hr h1 h2).2.2,?_⟩
 rw [sg_score h h1]
 exact Go.Proofs.YtjjonmhpgkahoaaGreatDoor.score_bd hts g.bd q (by have:=(validI_facts h1).2.2.2;omega)
theorem sturn_of (hc:turnC g q n=0):std.eqI (actC g n) 0=true∧SyG g n∧SyC g q:=by
 unfold turnC at hc
 by_cases h1:actC g n=0
 ·have h:std.eqI (actC g n) 0=true:=by simpa using h1
  rw [if_pos h1] at hc
  refine⟨h,syg h,syc (syg h) h ?_⟩
  rw [sg_code h]
  by_cases h2:waitsB g=true
  ·rw [if_pos h2] at hc;exact absurd hc (by decide)
  ·rw [if_neg h2] at hc
   by_cases h3:codeI g.bd g.lex (g.rk g.player) q=0
   ·exact .inl (by simpa using h3)
   ·by_cases h4:codeI g.bd g.lex (g.rk g.player) q=9
    ·exact .inr (by simpa using h4)
    ·rw [if_pos ⟨h3,.inl h4⟩] at hc
     exact absurd hc h3
 ·rw [if_neg h1] at hc
  exact absurd hc h1
theorem waits_turn1 (hG:SyG g n):waitsB (turn1 g q n)=(isort (restT g q++g.bag.take (drawN g.bag (restT g q)))).isEmpty :=by
 have hp:=hG.fa.ply
 have hr:=hG.r2
 have e:(turn1 g q n).rk (1-(turn1 g q n).player)=isort (restT g q++g.bag.take (drawN g.bag (restT g q))):=by
  show (g.racks.set g.player.toNat (isort (restT g q++g.bag.take (drawN g.bag (restT g q))))).getD (1-(1-g.player)).toNat []=_
  rw [show (1-(1-g.player)).toNat =g.player.toNat by omega,List.getD_eq_getElem?_getD,List.getElem?_set_self (by omega)];rfl
 unfold waitsB
 rw [e]
 show ((g.bag.drop (drawN g.bag (restT g q))).isEmpty &&_)=_
 cases h:(isort (restT g q++g.bag.take (drawN g.bag (restT g q)))).isEmpty with
 | false=>simp
 | true=>rw [draw_empty h];rfl
theorem sq4 (hc:turnC g q n=0) (h:std.eqI (actC g n) 0=true) (h2:waitsB g=false) (h5:std.ltI 20000 (scoreV g.ts g.bd q)=true∨inR (g.sc g.player+scoreV g.ts g.bd q) (-50000) 50000=false):False:=by
 obtain⟨-,hG,hC⟩:=sturn_of hc
 have e:=sg_score h hC.v
 rw [e] at h5
 have hs:=hG.s
 have hc2:=hC.sc
 rw [e] at hc2
 have h1:=eqI_t h
 unfold turnC at hc
 rw [if_pos h1,if_neg (by rw [h2];simp)] at hc
 split at hc
 ·rename_i h6;exact h6.1 hc
 ·rw [if_pos (h5.imp lt_of fun h6=>by simp only [inR,Bool.and_eq_false_iff,decide_eq_false_iff_not] at h6;omega)] at hc
  exact absurd hc (by decide)
theorem sturn_sc (hc:turnC g q n=0):scoreI g.ts g.bd q≤20000:=by
 unfold turnC at hc
 by_cases h1:actC g n=0
 ·rw [if_pos h1] at hc
  by_cases h2:waitsB g=true
  ·rw [if_pos h2] at hc;exact absurd hc (by decide)
  ·rw [if_neg h2] at hc
   split at hc
   ·rename_i h6;exact absurd hc h6.1
   ·split at hc
    ·exact absurd hc (by decide)
    ·rename_i h7;omega
 ·rw [if_neg h1] at hc
  exact absurd hc h1
theorem setg_bd {α:Type} {L:List α} {i k:Nat} {x d:α} {P:α→Prop} (hx:P x) (h:P (L.getD k d)):P ((L.set i x).getD k d):=by
 rw [List.getD_eq_getElem?_getD,List.getElem?_set]
 rw [List.getD_eq_getElem?_getD] at h
 split
 ·split
  ·exact hx
  ·rename_i e1 e2
   subst e1
   rw [List.getElem?_eq_none (by omega)] at h
   exact h
 ·exact h
theorem set_turn1 (hc:turnC g q n=0):SetP (turn1 g q n):=by
 obtain⟨h,hG,hC⟩:=sturn_of hc
 have hsc:=hG.s
 have hs:=sturn_sc hc
 have hc2:=hC.sc
 rw [sg_score h hC.v] at hc2
 have hz : ∀k:Int, -1000000≤(turn1 g q n).sc k∧(turn1 g q n).sc k≤1000000:=fun k=>
  setg_bd (P:=fun x:Int=> -1000000≤x∧x≤1000000) (L:=g.scores) (i:=g.player.toNat) (k:=k.toNat) (x:=g.sc g.player+scoreI g.ts g.bd q) (d:=0) (by show -1000000≤g.sc g.player+scoreI g.ts g.bd q∧g.sc g.player+scoreI g.ts g.bd q≤1000000;omega) (by have:=hG.ok.sc k;unfold Gm.sc at this;omega)
 refine⟨⟨hC.ts,?_,?_,fun k=>?_,fun k=>?_⟩,?_,fun k=>(hz k).1,fun k=>(hz k).2⟩
 ·show (g.racks.set g.player.toNat _).length =2
  rw [List.length_set];exact hG.r2
 ·show (g.clocks.set g.player.toNat _).length =2
  rw [List.length_set];exact hG.fa.k
 ·refine setg_bd (P:=fun x:List UInt8=>x.length≤7) (L:=g.racks) (i:=g.player.toNat) (k:=k.toNat) (d:=[]) ?_ (rack_len (hG.ok.rk k))
  have h1:=rack_len hC.rk
  rw [isort_length,List.length_append,List.length_take]
  unfold drawN;omega
 ·exact setg_bd (P:=fun x:Int=> -36000≤x) (L:=g.clocks) (i:=g.player.toNat) (k:=k.toNat) (x:=g.clk g.player-n) (d:=0) hG.c (by have:=hG.ok.clk k;unfold Gm.clk at this;omega)
 ·show (g.scores.set g.player.toNat _).length =2
  rw [List.length_set];exact hG.fa.s
end
def canB (g:Gm):Bool:=!g.over&&(!(g.rule==0)&&g.last.kind==1)
def vWords (g:Gm):List (List UInt8):=wordsL g.bef g.last.play
def vWrong (g:Gm):List (List UInt8):=wrongL g.bef g.lex g.last.play
def vUp (g:Gm):Bool:=!(vWrong g).isEmpty
def vPts (g:Gm):Int:=if vUp g then 0-g.last.score else if g.rule=3 then 5*((vWords g).length : Int) else 0
def wBag (g:Gm):List UInt8:=g.last.drawn++g.bag
def wRest (g:Gm):List UInt8:=takeS (g.rk g.last.player) (isort g.last.drawn)
def wTil (g:Gm):List UInt8:=tilesS (placedS (flatB g.bef g.last.play) (flatP g.last.play))
def wRack (g:Gm):List UInt8:=isort (wRest g++wTil g)
def wRks (g:Gm):List (List UInt8):=g.racks.set g.last.player.toNat (wRack g)
def wSc (g:Gm):List Int:=g.scores.set g.last.player.toNat (g.sc g.last.player-g.last.score)
def wd1 (g:Gm):Gm:=⟨g.ts,g.lex,g.bd0,g.secs,g.rule,⟨g.bd.size,g.bd.prem,g.last.before⟩,wBag g,wRks g,wSc g,g.clocks,g.player,g.last.zeros+1,idleL 3 g.last.player,g.over⟩
def wEnd (g:Gm):Bool:=g.last.zeros+1==6
def wSs (g:Gm):List Int:=if wEnd g then setSc (wd1 g) else wSc g
def wOv (g:Gm):Bool:=g.over||wEnd g
def wZe (g:Gm):Int:=g.last.zeros+1
def wdG (g:Gm):Gm:=⟨g.ts,g.lex,g.bd0,g.secs,g.rule,⟨g.bd.size,g.bd.prem,g.last.before⟩,wBag g,wRks g,wSs g,g.clocks,g.player,wZe g,⟨3,g.last.player,⟨0,0,false,[]⟩,[],[],0,0⟩,wOv g⟩
def gmHw (g g':Gm):AH:=[(0,.cells (gmK g' (.osl 1) (.osl 2) (.osl 3) (.osl 7) (.osl 8) (.osl 6)) 41),(1,.own [.i .i64] g.ts.values 2),(2,.own [.i .i64] g.ts.counts 2),(3,.own [.s] g.lex 9),(4,.own [.s] g.racks 9),
 (5,.own [.i .i64] g.scores 2),(6,.own [.i .i64] g.clocks 2),(7,.own [.s] g'.racks 9),(8,.own [.i .i64] g'.scores 2)]
structure WdP (g:Gm):Prop where
 pl:PlP g.bef g.last.play
 r2:g.racks.length=2
 s2:g.scores.length=2
 p:0≤g.last.player∧g.last.player≤1
 rk:(g.rk g.last.player).length ≤7
 dr:g.last.drawn.length≤120
 bag:g.bag.length≤120
 sc : -1000000≤g.sc g.last.player∧g.sc g.last.player≤1000000
 so : -1000000≤g.last.score∧g.last.score≤1000000
 z:0≤g.last.zeros∧g.last.zeros≤5
 set:SetP (wd1 g)
section
variable {g:Gm}
theorem w_rest (h:WdP g):(wRest g).length ≤7:=Nat.le_trans (takeGo_sub _ _).length_le h.rk
theorem w_pl (h:WdP g):(placedS (flatB g.bef g.last.play) (flatP g.last.play)).length ≤15:=Nat.le_trans (placedS_len _ _) h.pl.on.len
theorem w_til (h:WdP g):(wTil g).length ≤15:=Nat.le_trans (Nat.le_of_eq (tilesS_len _)) (w_pl h)
theorem w_ss1 (h:std.eqI (std.add g.last.zeros 1) 6=true):setSc (wd1 g)=wSs g:=(if_pos h).symm
theorem w_ss0 (h:std.eqI (std.add g.last.zeros 1) 6=false):wSc g=wSs g:=(if_neg (by unfold wEnd;rw [show (g.last.zeros+1==6)=false from h];simp)).symm
theorem w_ov1 (h:std.eqI (std.add g.last.zeros 1) 6=true):true=wOv g:=by
 unfold wOv wEnd
 rw [show (g.last.zeros+1==6)=true from h];simp
theorem w_ov0 (h:std.eqI (std.add g.last.zeros 1) 6=false):g.over=wOv g:=by
 unfold wOv wEnd
 rw [show (g.last.zeros+1==6)=false from h];simp
end
theorem takeGo_len : ∀(a b:Str),(takeGo a b).2=[]→(takeGo a b).1.length + b.length=a.length
 | [],b,h=>by
   rw [takeGo] at h ⊢
   simp only at h ⊢
   rw [h];rfl
 | x::a,[],_=>by
   have:=takeGo_len a [] (takeGo_nil a)
   rw [takeGo]
   simp only [List.length_cons,List.length_nil] at this ⊢
   omega
 | x::a,y::b,h=>by
   rw [takeGo] at h ⊢
   by_cases hx:y=x
   ·rw [if_pos hx] at h ⊢
    have:=takeGo_len a b h
    simp only [List.length_cons]
    omega
   ·rw [if_neg hx] at h ⊢
    have:=takeGo_len a (y::b) h
    simp only [List.length_cons] at this ⊢
    omega
theorem takeS_len {a b:Str} (h:takeB a b=true):(takeS a b).length + b.length=a.length:=takeGo_len a b (List.isEmpty_iff.1 h)
def rSc (g:Gm) (k:Int):List Int:=g.scores.set g.last.player.toNat (g.sc g.last.player+k)
def rf1 (g:Gm) (k:Int):Gm:=⟨g.ts,g.lex,g.bd0,g.secs,g.rule,g.bd,g.bag,g.racks,rSc g k,g.clocks,if g.rule=2 then 1-g.player else g.player,if g.rule=2 then g.zeros+1 else g.zeros,if g.rule=2 then idleL 3 g.player else idleL 0 0,g.over⟩
def rfG (g:Gm) (k:Int):Gm:=if waitsB g then { rf1 g k with scores:=setSc (rf1 g k),over:=true } else rf1 g k
def chC (g:Gm) (n:Int):Int:=if actC g n=0 then (if canB g then 0 else 6) else actC g n
def chG (g:Gm) (n:Int):Gm:=if vUp g then wdG (clockG g n) else rfG (clockG g n) (vPts g)
section
variable {g:Gm} {n:Int}
structure ChF (g:Gm) (n:Int):Prop where
 act:std.eqI (actC g n) 0=true
 sy:SyG g n
 can:canB g=true
 ok:playOk g=true
 gm:gameB g=true
theorem chf (h:std.eqI (actC g n) 0=true) (hc:canB g=true):ChF g n:=by
 refine⟨h,syg h,hc,?_,sg h⟩
 have hg:=sg h
 unfold gameB at hg
 simp only [Bool.and_eq_true] at hg
 have hl:=hg.2.2.2.2.1
 unfold canB at hc
 simp only [Bool.and_eq_true,beq_iff_eq] at hc
 have hk:g.last.kind=1:=hc.2.2
 unfold lastOk at hl
 rw [if_neg (by omega),if_neg (by omega),if_pos hk] at hl
 exact hl
structure PkF (g:Gm):Prop where
 pl:g.last.player=1-g.player
 ok:okB g.bef g.last.play=true
 z:0≤g.last.zeros∧g.last.zeros≤5
 gz:g.zeros=0
 dr:bagB g.last.drawn=true
 tk:takeB (g.rk g.last.player) (isort g.last.drawn)=true
 fr:((g.rk g.last.player).length : Int)-g.last.drawn.length+(freshL (flatB g.bef g.last.play) (flatP g.last.play)).length ≤7
 so:g.last.score=scoreS g.ts (flatB g.bef g.last.play) (flatP g.last.play)
 s2:g.last.score≤20000
theorem pkf (h:playOk g=true):PkF g:=by
 unfold playOk at h
 simp only [Bool.and_eq_true,beq_iff_eq,decide_eq_true_eq] at h
 obtain⟨a1,a2,a3,a4,a5,a6,a7,a8,a9,a10,a11,a12⟩:=h
 exact⟨a1,a2,in_bd a3,a4,a5,a6,a9,a11,a12⟩
theorem ch_so (h:ChF g n):0≤g.last.score:=by
 have hk:=pkf h.ok
 have hts:=tsB_ok h.sy.ok.ts
 have hb:bdB g.bef=true:=by have:=hk.ok;unfold okB at this;rw [Bool.and_eq_true] at this;exact this.1
 have hv:validI g.bef g.last.play=true:=by rw [←okB_validI hb];exact hk.ok
 rw [hk.so,score_same hb hv]
 exact (Go.Proofs.YtjjonmhpgkahoaaGreatDoor.score_bd hts g.bef g.last.play (by have:=(validI_facts hv).2.2.2;omega)).1
theorem ch_ply (h:ChF g n):0≤g.last.player∧g.last.player≤1:=by
 have h1:=h.sy.fa.ply
 have h2:=(pkf h.ok).pl
 omega
theorem ch_rack (h:ChF g n):(wRack g).length ≤7:=by
 have hk:=pkf h.ok
 have h1:=takeS_len hk.tk
 rw [isort_length] at h1
 have h2:=hk.fr
 have h3:(wTil g).length =(freshL (flatB g.bef g.last.play) (flatP g.last.play)).length :=by
  unfold wTil
  rw [tilesS_len,placedS,List.length_map]
 unfold wRack
 rw [isort_length,List.length_append,h3]
 have h4:(wRest g).length =(takeS (g.rk g.last.player) (isort g.last.drawn)).length :=rfl
 omega
theorem ch_clk (h:ChF g n) (k:Int) : -36000≤(clockG g n).clk k:=
 setg_bd (P:=fun x:Int=> -36000≤x) (L:=g.clocks) (i:=g.player.toNat) (k:=k.toNat) (x:=g.clk g.player-n) (d:=0) h.sy.c (by have:=h.sy.ok.clk k;unfold Gm.clk at this;omega)
theorem ch_set1 (h:ChF g n):SetP (wd1 (clockG g n)):=by
 have hts:=tsB_ok h.sy.ok.ts
 have hso:=ch_so h
 have hs2:=(pkf h.ok).s2
 have hz : ∀k:Int, -1000000≤(wd1 (clockG g n)).sc k∧(wd1 (clockG g n)).sc k≤1000000:=fun k=>
  setg_bd (P:=fun x:Int=> -1000000≤x∧x≤1000000) (L:=g.scores) (i:=g.last.player.toNat) (k:=k.toNat) (x:=g.sc g.last.player-g.last.score) (d:=0) (by have:=h.sy.ok.sc g.last.player;show -1000000≤g.sc g.last.player-g.last.score∧g.sc g.last.player-g.last.score≤1000000;omega) (by have:=h.sy.ok.sc k;unfold Gm.sc at this;omega)
 refine⟨⟨hts,?_,?_,fun k=>?_,ch_clk h⟩,?_,fun k=>(hz k).1,fun k=>(hz k).2⟩
 ·show (g.racks.set _ _).length =2
  rw [List.length_set];exact h.sy.r2
 ·show (g.clocks.set _ _).length =2
  rw [List.length_set];exact h.sy.fa.k
 ·exact setg_bd (P:=fun x:List UInt8=>x.length≤7) (L:=g.racks) (i:=g.last.player.toNat) (k:=k.toNat) (d:=[]) (show (wRack g).length ≤7 from ch_rack h) (rack_len (h.sy.ok.rk k))
 ·show (g.scores.set _ _).length =2
  rw [List.length_set];exact h.sy.fa.s
theorem ch_wd (h:ChF g n):WdP (clockG g n):=by
 have hk:=pkf h.ok
 have hs:=h.sy.ok.sc g.last.player
 have hso:=ch_so h
 refine⟨okB_on hk.ok,h.sy.r2,h.sy.fa.s,(show 0≤g.last.player∧g.last.player≤1 from ch_ply h),rack_len (h.sy.ok.rk _),bag_len hk.dr,bag_len h.sy.ok.bag,?_,?_,hk.z,ch_set1 h⟩
 ·show -1000000≤g.sc g.last.player∧g.sc g.last.player≤1000000
  omega
 ·have:=hk.s2
  show -1000000≤g.last.score∧g.last.score≤1000000
  omega
end
theorem emp_iz (s:List UInt8):s.isEmpty=std.eqS s []:=by cases s<;>rfl
def idleG (g:Gm) (k n:Int):Gm:=⟨g.ts,g.lex,g.bd0,g.secs,g.rule,g.bd,g.bag,g.racks,g.scores,ckL g n,1-g.player,g.zeros+1,idleL k g.player,g.over⟩
def idleE (g:Gm):Bool:=waitsB g||g.zeros+1==6
def zeroG (g:Gm) (k n:Int):Gm:=if idleE g then settleG (idleG g k n) else idleG g k n
def passR (g:Gm) (n:Int):Gm:=if actC g n=0 then zeroG g 3 n else gm0
def exC (a b t:List UInt8):Int:=if bagB a&&(rackB b&&pileB t) then (if t.isEmpty then 2 else if takeB b t then (if a.length<7 then 6 else 0) else 3) else 1
def exR (a b t:List UInt8):List UInt8:=if exC a b t=0 then isort (takeS b t++a.take t.length) else []
def exB (a b t:List UInt8):List UInt8:=if exC a b t=0 then a.drop t.length++t else []
def xtC (g:Gm) (t:List UInt8) (n:Int):Int:=if pileB t then (if actC g n=0 then exC g.bag (g.rk g.player) t else actC g n) else 1
def xtG (g:Gm) (t:List UInt8):Gm:=⟨g.ts,g.lex,g.bd0,g.secs,g.rule,g.bd,exB g.bag (g.rk g.player) t,g.racks.set g.player.toNat (exR g.bag (g.rk g.player) t),g.scores,g.clocks,g.player,g.zeros,g.last,g.over⟩
def xtR (g:Gm) (t:List UInt8) (n:Int):Gm:=if xtC g t n=0 then zeroG (xtG g t) 2 n else gm0
section
variable {g:Gm} {a b t:List UInt8} {k n:Int}
structure ExF (a b t:List UInt8):Prop where
 ha:bagB a=true
 hb:rackB b=true
 ht:pileB t=true
 ne:t≠[]
 tk:takeB b t=true
 la:7≤a.length∧a.length≤120
 lb:b.length≤7
 lt:t.length≤b.length
 lr:(takeS b t).length + t.length=b.length
theorem ex_f (h:exC a b t=0):ExF a b t:=by
 unfold exC at h
 by_cases h1:(bagB a&&(rackB b&&pileB t))=true
 ·rw [if_pos h1] at h
  simp only [Bool.and_eq_true] at h1
  by_cases h2:t.isEmpty=true
  ·rw [if_pos h2] at h;exact absurd h (by decide)
  ·rw [if_neg h2] at h
   by_cases h3:takeB b t=true
   ·rw [if_pos h3] at h
    by_cases h4:a.length<7
    ·rw [if_pos h4] at h;exact absurd h (by decide)
    ·have h5:=takeS_len h3
     have h6:=rack_len h1.2.1
     exact⟨h1.1,h1.2.1,h1.2.2,by simpa using h2,h3,⟨by omega,bag_len h1.1⟩,h6,by omega,h5⟩
   ·rw [if_neg h3] at h;exact absurd h (by decide)
 ·rw [if_neg h1] at h;exact absurd h (by decide)
theorem exR_eq (h:exC a b t=0):exR a b t=isort (takeS b t++a.take t.length):=if_pos h
theorem exB_eq (h:exC a b t=0):exB a b t=a.drop t.length++t:=if_pos h
theorem exR_len (h:exC a b t=0):(exR a b t).length ≤7:=by
 have hf:=ex_f h
 have:=hf.lb;have:=hf.lr
 rw [exR_eq h,isort_length,List.length_append,List.length_take];omega
theorem exB_len (h:exC a b t=0):(exB a b t).length =a.length:=by
 have hf:=ex_f h
 have:=hf.la;have:=hf.lt;have:=hf.lb
 rw [exB_eq h,List.length_append,List.length_drop];omega
theorem xt_act (h:xtC g t n=0):std.eqI (actC g n) 0=true∧pileB t=true∧exC g.bag (g.rk g.player) t=0:=by
 unfold xtC at h
 by_cases h1:pileB t=true
 ·rw [if_pos h1] at h
  by_cases h2:actC g n=0
  ·rw [if_pos h2] at h
   exact⟨by simpa using h2,h1,h⟩
  ·rw [if_neg h2] at h;exact absurd h h2
 ·rw [if_neg h1] at h;exact absurd h (by decide)
theorem set_idle (hG:SyG g n) {r:List (List UInt8)} {b:List UInt8} (hr:r.length=2) (h7 : ∀k:Int,(r.getD k.toNat []).length ≤7):SetP (idleG ⟨g.ts,g.lex,g.bd0,g.secs,g.rule,g.bd,b,r,g.scores,g.clocks,g.player,g.zeros,g.last,g.over⟩ k n):=by
 have hz : ∀k:Int, -1000000≤g.sc k∧g.sc k≤1000000:=fun k=>by
  have:=hG.ok.sc k
  omega
 refine⟨⟨tsB_ok hG.ok.ts,hr,?_,fun k=>h7 k,fun k=>?_⟩,hG.fa.s,fun k=>(hz k).1,fun k=>(hz k).2⟩
 ·show (g.clocks.set g.player.toNat _).length =2
  rw [List.length_set];exact hG.fa.k
 ·exact setg_bd (P:=fun x:Int=> -36000≤x) (L:=g.clocks) (i:=g.player.toNat) (k:=k.toNat) (x:=g.clk g.player-n) (d:=0) hG.c (by have:=hG.ok.clk k;unfold Gm.clk at this;omega)
theorem rk_set (h:(exR a b t).length ≤7) (hr : ∀k:Int,(g.rk k).length ≤7) (i:Nat) (k:Int):((g.racks.set i (exR a b t)).getD k.toNat []).length ≤7:=
 setg_bd (P:=fun x:List UInt8=>x.length≤7) (L:=g.racks) (i:=i) (k:=k.toNat) (d:=[]) h (hr k)
end
set_option maxHeartbeats 20000000
structure ExP (a b t:List UInt8):Prop where
 la:a.length≤274877906944
 lb:b.length≤274877906944
 lt:t.length≤274877906944
section
variable {a b t:List UInt8} {g:Gm} {k n:Int}
theorem exC_std (a b t:List UInt8):exC a b t=if bagB a&&(rackB b&&pileB t) then (if std.eqS t [] then 2 else if takeB b t then (if std.ltI (std.lenS a) 7 then 6 else 0) else 3) else 1:=by
 unfold exC
 rw [emp_iz]
 have e:(std.ltI (std.lenS a) 7=true)↔a.length<7:=by
  show decide ((a.length:Int)<7)=true↔_
  rw [decide_eq_true_eq];omega
 simp only [e]
theorem exR_no (h:exC a b t≠0) : []=exR a b t:=(if_neg h).symm
theorem exB_no (h:exC a b t≠0) : []=exB a b t:=(if_neg h).symm
theorem zn1 (he:idleE g=false) (h:waitsB g=true):False:=by unfold idleE at he;rw [h] at he;cases he
theorem zn2 (he:idleE g=false) (h:std.eqI (std.add g.zeros 1) 6=true):False:=by
 unfold idleE at he
 rw [show (g.zeros+1==6)=true from h,Bool.or_true] at he;cases he
theorem zy1 (he:idleE g=true) (h1:waitsB g=false) (h2:std.eqI (std.add g.zeros 1) 6=false):False:=by
 unfold idleE at he
 rw [h1,show (g.zeros+1==6)=false from h2] at he;cases he
end
def sp_s_ExchangeTiles (p:Pr):FSpec:=fsp (ac aS (ac aS (a1 aS))) (fun (a,b,t)=>ExP a b t) (fun (a,b,t)=>.tup [.s (exR a b t),.s (exB a b t),.i .i64 (exC a b t)])
theorem ok_s_ExchangeTiles:FOk Tryz.prog 107 (sp_s_ExchangeTiles std):=by
 refine FOk.go (c:=cx std [(73,sp_s_l17Ok std),(185,sp_s_l03Rack std),(106,sp_s_l03Pile std),(126,sp_s_l03Take std),(74,sp_s_l03Sort std)] [] 0) (cx_ok (.cons ok_s_l17Ok (.cons ok_s_l03Rack (.cons ok_s_l03Pile (.cons ok_s_l03Take (.cons ok_s_l03Sort .nil))))) .nil) mixed Tryz.func107 rfl rfl rfl (by kernel_rfl) ?_
 rintro ⟨a,b,t⟩ hp
 dsimp only at hp
 refine⟨rfl,?_⟩
 unfold sp_s_l17Ok sp_s_l03Rack sp_s_l03Pile sp_s_l03Take sp_s_l03Sort
 generalize hP:std=p,hB0:exR=B0,hB1:exB=B1,hB2:exC=B2,hB3:bagB=B3,hB4:rackB=B4,hB5:pileB=B5,hB6:takeS=B6,hB7:takeB=B7,hB8:isort=B8
 cbv
 repeat' first|refine fun (_:Unit)=>?_;cbv|refine aI2 (fun h=>?_) (fun h=>?_)<;>cbv|refine aI2 ?_ ?_|refine Or.inl (fun (_:Unit)=>?_);cbv
 all_goals subst hP hB0 hB1 hB2 hB3 hB4 hB5 hB6 hB7 hB8
 all_goals try exact fin
 all_goals try (have hc:exC a b t=0:=by rw [exC_std];simp only [*]<;>simp)
 all_goals try (have hF:=ex_f hc;have h1:=hF.la;have h2:=hF.lb;have h3:=hF.lt;have h4:=hF.lr)
 all_goals first
  | exact ltM_of hp.la
  | exact ltM_of hp.lb
  | exact ltM_of hp.lt
  | exact exR_no (by rw [exC_std];simp only [*]<;>simp)
  | exact exB_no (by rw [exC_std];simp only [*]<;>simp)
  | (rw [exC_std];simp only [*]<;>simp;done)
  | (show (t.length:Int)≤(a.length:Int);omega)
  | exact (exR_eq hc).symm
  | exact (exB_eq hc).symm
  | exact in64 (by show _≤((takeS b t).length : Int)+((a.take t.length).length : Int)∧((takeS b t).length : Int)+((a.take t.length).length : Int)≤_;rw [List.length_take];omega)
  | exact ltM_of (n:=(takeS b t++a.take t.length).length) (by rw [List.length_append,List.length_take];omega)
  | exact in64 (by show _≤((a.drop t.length).length : Int)+(t.length:Int)∧((a.drop t.length).length : Int)+(t.length:Int)≤_;rw [List.length_drop];omega)
  | skip
def plainB (q:Pl):Bool:=inR q.row 0 14&&(inR q.col 0 14&&wordB q.word)
structure ZrP (g:Gm) (k n:Int):Prop where
 ck:CkP g n
 pl:PlyP g
 z : -10≤g.zeros∧g.zeros≤10
structure ZrN (g:Gm) (k n:Int):Prop where
 b:ZrP g k n
 e:idleE g=false
structure ZrY (g:Gm) (k n:Int):Prop where
 b:ZrP g k n
 e:idleE g=true
 s:SetP (idleG g k n)
def zPl (g:Gm):Int:=1-g.player
def zZr (g:Gm):Int:=g.zeros+1
def zSc (g:Gm) (k n:Int):List Int:=setSc (idleG g k n)
def gmHz (g g':Gm):AH:=[(0,.cells (gmK g' (.osl 1) (.osl 2) (.osl 3) (.osl 4) (.osl 7) (.osl 8)) 41),(1,.own [.i .i64] g.ts.values 2),(2,.own [.i .i64] g.ts.counts 2),(3,.own [.s] g.lex 9),(4,.own [.s] g.racks 9),
 (5,.own [.i .i64] g.scores 2),(6,.own [.i .i64] g.clocks 2),(7,.own [.i .i64] g'.scores 2),(8,.own [.i .i64] g'.clocks 2)]
def sp_s_l18Zero_n (p:Pr):MSpec:=msp (mG (ac aI (a1 aI))) (fun (g,k,n)=>ZrN g k n) (fun (g,k,n)=>.tup []) (fun (g,k,n)=>gmHk g ⟨g.ts,g.lex,g.bd0,g.secs,g.rule,g.bd,g.bag,g.racks,g.scores,ckL g n,zPl g,zZr g,⟨k,g.player,⟨0,0,false,[]⟩,[],[],0,0⟩,g.over⟩)
theorem ok_s_l18Zero_n:MOk Tryz.prog 109 (sp_s_l18Zero_n std):=by
 refine MOk.go (c:=cx std [(121,sp_s_l18Waits std)] [(131,sp_s_l18Clock std),(132,sp_s_l18Settle std)] 7) (cx_ok (.cons ok_s_l18Waits .nil) (.cons ok_s_l18Clock (.cons ok_s_l18Settle .nil))) mixed Tryz.func109 rfl rfl (by kernel_rfl) ?_
 rintro ⟨g,k,n⟩ hp
 dsimp only at hp
 refine⟨rfl,?_⟩
 unfold sp_s_l18Waits sp_s_l18Clock sp_s_l18Settle
 generalize hP:std=p,hB0:ckL=B0,hB1:waitsB=B1,hB2:setSc=B2,hB3:zPl=B3,hB4:zZr=B4,hB5:zSc=B5
 cbv
 repeat' first|refine fun (_:Unit)=>?_;cbv|refine aI2 (fun h=>?_) (fun h=>?_)<;>cbv|refine aI2 ?_ ?_|refine Or.inl (fun (_:Unit)=>?_);cbv
 all_goals subst hP hB0 hB1 hB2 hB3 hB4 hB5
 all_goals try exact fin
 all_goals try (exfalso;exact zn1 hp.e ‹_›)
 all_goals try (exfalso;exact zn2 hp.e ‹_›)
 ·exact hp.b.pl
 ·exact hp.b.ck
 ·exact in64 (by show _≤1-g.player∧1-g.player≤_;rcases hp.b.pl.ply with h | h<;>omega)
 ·exact in64 (by show _≤g.zeros+1∧g.zeros+1≤_;have:=hp.b.z;omega)
def sp_s_l18Zero_y (p:Pr):MSpec:=msp (mG (ac aI (a1 aI))) (fun (g,k,n)=>ZrY g k n) (fun (g,k,n)=>.tup []) (fun (g,k,n)=>gmHz g ⟨g.ts,g.lex,g.bd0,g.secs,g.rule,g.bd,g.bag,g.racks,zSc g k n,ckL g n,zPl g,zZr g,⟨k,g.player,⟨0,0,false,[]⟩,[],[],0,0⟩,true⟩)
theorem ok_s_l18Zero_y:MOk Tryz.prog 109 (sp_s_l18Zero_y std):=by
 refine MOk.go (c:=cx std [(121,sp_s_l18Waits std)] [(131,sp_s_l18Clock std),(132,sp_s_l18Settle std)] 7) (cx_ok (.cons ok_s_l18Waits .nil) (.cons ok_s_l18Clock (.cons ok_s_l18Settle .nil))) mixed Tryz.func109 rfl rfl (by kernel_rfl) ?_
 rintro ⟨g,k,n⟩ hp
 dsimp only at hp
 refine⟨rfl,?_⟩
 unfold sp_s_l18Waits sp_s_l18Clock sp_s_l18Settle
 generalize hP:std=p,hB0:ckL=B0,hB1:waitsB=B1,hB2:setSc=B2,hB3:zPl=B3,hB4:zZr=B4,hB5:zSc=B5
 cbv
 repeat' first|refine fun (_:Unit)=>?_;cbv|refine aI2 (fun h=>?_) (fun h=>?_)<;>cbv|refine aI2 ?_ ?_|refine Or.inl (fun (_:Unit)=>?_);cbv
 all_goals subst hP hB0 hB1 hB2 hB3 hB4 hB5
 all_goals try exact fin
 all_goals try (exfalso;exact zy1 hp.e ‹_› ‹_›)
 all_goals try exact hp.s
 ·exact hp.b.pl
 ·exact hp.b.ck
 ·exact in64 (by show _≤1-g.player∧1-g.player≤_;rcases hp.b.pl.ply with h | h<;>omega)
 ·exact in64 (by show _≤g.zeros+1∧g.zeros+1≤_;have:=hp.b.z;omega)
set_option maxHeartbeats 2000000
section
variable {P:Program} {f:FuncId} {α:Type}
theorem FOk.casesE {A:Args α} {pre1 pre2 pre:α→Prop} {v1 v2 v:α→PV} {e1 e2 e:α→AH} (h1:FOk P f (fsp A pre1 v1 e1)) (h2:FOk P f (fsp A pre2 v2 e2)) (hd : ∀a,pre a→(pre1 a∧v1 a=v a∧e1 a=e a)∨(pre2 a∧v2 a=v a∧e2 a=e a)):FOk P f (fsp A pre v e):=by
 refine⟨h1.fn,fun args out hs hp=>?_⟩
 unfold fsp at hs
 split at hs
 ·rename_i a ha
  cases hs
  rcases hd a (hp _ (List.mem_cons_self ..)) with ⟨g1,g2,g3⟩ | ⟨g1,g2,g3⟩
  ·have:=h1.run args ⟨[pre1 a],v1 a,e1 a⟩ (by unfold fsp;rw [ha]) (fun p hm=>by rw [List.mem_singleton.1 hm];exact g1)
   rw [g2,g3] at this
   intro w e vals hz hl
   refine (this w e vals hz hl).mono ?_
   rintro en w' ⟨u,e',rfl,hP⟩
   exact⟨u,e',rfl,by cases hP;constructor<;>assumption⟩
  ·have:=h2.run args ⟨[pre2 a],v2 a,e2 a⟩ (by unfold fsp;rw [ha]) (fun p hm=>by rw [List.mem_singleton.1 hm];exact g1)
   rw [g2,g3] at this
   intro w e vals hz hl
   refine (this w e vals hz hl).mono ?_
   rintro en w' ⟨u,e',rfl,hP⟩
   exact⟨u,e',rfl,by cases hP;constructor<;>assumption⟩
 ·cases hs
def nilH:List (Nat×Ob)→Bool
 | []=>true
 | (_,.own _ [] _)::r=>nilH r
 | _=>false
theorem nilH_get : ∀{H:AH} {k:Nat} {o:Ob},nilH H=true→H.get k=some o→∃sh t,o=.own sh [] t
 | [],k,o,_,h=>by simp [AH.get] at h
 | (j,x)::r,k,o,hn,h=>by
   unfold nilH at hn
   unfold AH.get at h
   split at hn
   ·rename_i h0;cases h0
   ·rename_i h0
    cases h0
    split at h
    ·cases h;exact⟨_,_,rfl⟩
    ·exact nilH_get hn h
   ·cases hn
theorem FOk.own {A:Args α} {pre:α→Prop} {v v':α→PV} {H:AH} (h:FOk P f (fsp A pre v)) (hH:nilH H=true)
 (hd : ∀a w e u,(∀k,(H.get k).isSome =true→e.on k∧e.adr k=none∧e.len k=0∧e.cap k=0)→R w e (v a) u→R w e (v' a) u):FOk P f (fsp A pre v' fun _=>H):=by
 refine⟨h.fn,fun args out hs hp w e vals hz hl=>?_⟩
 unfold fsp at hs
 split at hs
 ·rename_i a ha
  cases hs
  refine (h.run args ⟨[pre a],v a,[]⟩ (by unfold fsp;rw [ha]) hp w e vals hz hl).mono ?_
  rintro en w' ⟨u,e',rfl,hP⟩
  have hoff : ∀k,¬e'.on k:=fun k hk=>(hP.new k hk).elim (fun h=>h) (fun h=>by have h2:=h.2;simp [AH.get] at h2)
  have hle:e'.Le ⟨fun _=>none,fun _=>0,fun _=>0,e'.fz,fun k=>(H.get k).isSome =true,fun k=>(H.get k).isSome =true⟩:=⟨fun k hk=>(hoff k hk).elim,fun k hk=>(hoff k hk).elim,fun k hk=>(hoff k hk).elim,fun k hk=>(hoff k hk).elim,fun _ h=>h⟩
  have hb : ∀k b,¬Env.blk ⟨fun _=>none,fun _=>0,fun _=>0,e'.fz,fun k=>(H.get k).isSome =true,fun k=>(H.get k).isSome =true⟩ k b:=fun k b ⟨x,hx,_⟩=>by cases hx
  refine⟨u,_,rfl,hd a _ _ _ (fun k hk=>⟨hk,rfl,rfl,rfl⟩) (R_mono (fun _ _=>rfl) hle _ _ hP.val),⟨fun k hk=>hk.elim,fun k hk=>hk.elim,fun k hk=>hk.elim,fun k hk=>hk.elim,fun b hb=>hP.le.fz b hb⟩,
   ⟨fun b hb=>hP.fz.fz b hb,fun k b _ _ hk=>(hb k b hk).elim⟩,fun k o ho=>?_,fun k hk=>.inr ⟨Nat.zero_le _,hk⟩,fun k hk=>.inr ⟨fun h=>h,hk,fun b h=>(hb k b h).elim⟩,fun k hk=>hk.elim,fun k k' b _ _ _ _ hk=>(hb k b hk).elim,⟨hP.chg.os,hP.chg.tape,hP.chg.output,hP.chg.size,fun b hb _=>hP.chg.block b hb fun ⟨k,hk,_⟩=>hk.elim⟩⟩
  obtain⟨sh,t,rfl⟩:=nilH_get hH ho
  exact⟨⟨rfl,.inl ⟨rfl,rfl,rfl⟩⟩,by show (H.get k).isSome =true;rw [ho];rfl,fun _=>by show (H.get k).isSome =true;rw [ho];rfl⟩
 ·cases hs
theorem nil_O {w:World} {e:Env} {k:Nat} {u:Value} (h:e.on k∧e.adr k=none∧e.len k=0∧e.cap k=0) (hr:R w e .esl u):R w e (.osl k) u:=by
 unfold R at *
 exact⟨h.1,by rw [h.2.1,h.2.2.1,h.2.2.2];exact hr⟩
inductive Fol (w:World) (e:Env):List PV→List PV→Prop
 | nil:Fol w e [] []
 | cons {p q:PV} {l r:List PV} (h : ∀u,R w e p u→R w e q u) (t:Fol w e l r):Fol w e (p::l) (q::r)
theorem Rs_fol {w:World} {e:Env} : ∀{l r:List PV},Fol w e l r→∀{vs:List Value},Rs w e l vs→Rs w e r vs
 | _,_,.nil,_,h=>h
 | _,_,.cons h t,vs,hs=>by
   unfold Rs at hs ⊢
   obtain⟨u,us,rfl,h1,h2⟩:=hs
   exact⟨u,us,rfl,h u h1,Rs_fol t h2⟩
theorem agg_fol {w:World} {e:Env} {l r:List PV} (h:Fol w e l r) : ∀u,R w e (.agg l) u→R w e (.agg r) u:=fun u hr=>by
 unfold R at hr ⊢
 obtain⟨vs,rfl,h1⟩:=hr
 exact⟨vs,rfl,Rs_fol h h1⟩
theorem tup_fol {w:World} {e:Env} {l r:List PV} (h:Fol w e l r) : ∀u,R w e (.tup l) u→R w e (.tup r) u:=fun u hr=>by
 unfold R at hr ⊢
 obtain⟨vs,rfl,h1⟩:=hr
 exact⟨vs,rfl,Rs_fol h h1⟩
end
theorem esl_fol {w:World} {e:Env} (h : ∀k,((gmH6 gm0).get k).isSome =true→e.on k∧e.adr k=none∧e.len k=0∧e.cap k=0):Fol w e (gmK gm0 .esl .esl .esl .esl .esl .esl) (gmO6 gm0):=by
 unfold gmO6 gmK
 repeat' first|exact .nil|refine .cons ?_ ?_|exact fun _ h=>h|exact fun _ hr=>nil_O (h _ rfl) hr
end Ax
end Go.Proofs.YtjjonmhpgkahoaaGreatDoor
