/-
  Scores of plays, valid tile sets and setups, of the impl package.
  Conditions: none.
-/
import Derived.Test.YtjjonmhpgkahoaaGreatDoorH24
import Derived.Test.YtjjonmhpgkahoaaGreatDoorH19
import Derived.Test.YtjjonmhpgkahoaaGreatDoorH16
set_option linter.unusedSimpArgs false
set_option linter.unusedVariables false
namespace Go.Proofs.YtjjonmhpgkahoaaGreatDoor
namespace Ax
set_option maxRecDepth 100000
set_option maxHeartbeats 2000000
theorem zh {t:TS} {b:Bd} {q:Pl} (hp:VP b q):(bJ t b q).length ≤13:=by
 rw [←zj (j:=((eo b q).length : Int)) (Int.le_refl _)];exact zB hp
theorem score_bd {t:TS} {b:Bd} {q:Pl} (h:er t) (hp:VP b q):0≤(bJ t b q).sum ∧(bJ t b q).sum ≤134306167760:=by
 have h1:=jv (bJ t b q) (zQ h hp)
 have h2:=zh (t:=t) hp
 omega
theorem sc7 {b:Bd} {q:Pl} (h:std.eqI (std.len (nsI b q)) 7=true):(bC b q).length =7:=by
 have h1:((nsI b q).length : Int)=7:=by simpa using h
 rw [lz] at h1;omega
theorem U9 {b:Bd} {q:Pl} (h:std.eqI (std.len (nsI b q)) 7=false) : ¬(bC b q).length =7:=by
 have h1 : ¬((nsI b q).length : Int)=7:=by simpa using h
 rw [lz] at h1;omega
def kP (p:Pr):aa:=fsp (ac (aA aTs) (ac (aA aBd) (a1 (aA aPl)))) (fun (t,b,q)=>LsQ t b q) (fun (t,b,q)=>.i .i64 (bY t b q))
theorem wH:FOk Tryz.prog 113 (kP std):=by
 refine FOk.go (c:=cx std [(207,ky std),(203,bD std)] [] 0) (ae (.cons vV (.cons eL .nil)) .nil) mixed Tryz.func113 rfl rfl rfl (by kernel_rfl) ?_
 rintro ⟨t,b,q⟩ hp
 dsimp only at hp
 refine⟨rfl,?_⟩
 unfold ky bD
 obtain⟨H,hH⟩ : ∃H:Hd (Int×Int),H=⟨fun (k,m)=>0≤k∧k≤(bJ t b q).length ∧m=((bJ t b q).take k.toNat).sum,fun (k,m)=>((bJ t b q).length - k).toNat,(· < ·)⟩:=⟨_,rfl⟩
 have hl:=hdl hH
 generalize hP:std=p,hB0:bY=B0,hB1:bJ=B1,hB2:nsI=B2
 cbv
 repeat' first|refine fun (_:Unit)=>?_;cbv|refine Or.inr ⟨18,[],[.s 17 (.i .i64),.s 7 (.i .i64)],[],[],H,rfl,hl,?_,fun ((k,m):Int×Int) hk=>?_⟩<;>cbv|refine aI2 (fun h=>?_) (fun h=>?_)<;>cbv|refine aI2 ?_ ?_
 all_goals subst hP hB0 hB1 hB2 hH
 all_goals clear hl
 all_goals try dsimp only at hk
 all_goals try dsimp only
 all_goals try exact fin
 all_goals try simp only [eD,fV,iR] at *
 all_goals obtain⟨q0,q1,rfl⟩:=hk
 all_goals have q1:k≤((bJ t b q).length : Int):=q1
 all_goals have hpb:=score_bd hp.ts hp.vp
 all_goals have hpl:=zh (t:=t) hp.vp
 all_goals try (have hge:((bJ t b q).length : Int)≤k:=ao ‹_›;have hta:(bJ t b q).take k.toNat=bJ t b q:=bZ hge)
 ·have hlt:k<((bJ t b q).length : Int):=ah ‹_›
  have h5:=mZ (zQ hp.ts hp.vp) (by decide) (k:=k+1) (by omega)
  rw [mI q0 hlt] at h5
  exact an (by show _≤((bJ t b q).take k.toNat).sum + (bJ t b q).getD k.toNat 0∧((bJ t b q).take k.toNat).sum + (bJ t b q).getD k.toNat 0≤_;omega)
 ·have hlt:k<((bJ t b q).length : Int):=ah ‹_›
  exact an (by show _≤k+1∧k+1≤_;omega)
 ·have hlt:k<((bJ t b q).length : Int):=ah ‹_›
  exact⟨by show 0≤k+1;omega,by show k+1≤((bJ t b q).length : Int);omega,(mI q0 hlt).symm⟩
 ·rw [hta]
  exact an (by show _≤(bJ t b q).sum + 50∧(bJ t b q).sum + 50≤_;omega)
 ·rw [hta]
  unfold bY
  rw [if_pos (sc7 ‹_›)];rfl
 ·rw [hta]
  unfold bY
  rw [if_neg (U9 ‹_›),Int.add_zero]
theorem MA {t:TS} {k:Int} (hv:t.values.length=t.letters.length) (hc:t.counts.length=t.letters.length) (h0:0≤k) (h:k<t.counts.length):vcB (t.values.drop k.toNat) (t.counts.drop k.toNat)=(inR (t.values.getD k.toNat 0) 0 20&&(inR (t.counts.getD k.toNat 0) 1 20&&vcB (t.values.drop (k+1).toNat) (t.counts.drop (k+1).toNat))):=by
 rw [dc h0 (show k<(t.values.length:Int) by omega) 0,dc h0 h 0,vcB]
theorem Rf {t:TS} {k:Int} (h:(t.counts.length:Int)≤k):vcB (t.values.drop k.toNat) (t.counts.drop k.toNat)=true:=by
 rw [List.drop_of_length_le (show t.counts.length≤k.toNat by omega)]
 cases List.drop k.toNat t.values<;>rfl
theorem UU (t:TS):tsB t=(decide (1≤t.letters.length)&&(yr t.letters&&(decide (t.values.length=t.letters.length)&&(decide (t.counts.length=t.letters.length)&&(inR t.blanks 0 4&&(vcB t.values t.counts&&decide (t.blanks+t.counts.sum≤120))))))):=by
 unfold tsB;rw [P6];rfl
def kk (p:Pr):aa:=fsp (a1 (aA aTs)) (fun t=>TsL t) (fun t=>.b (tsB t))
theorem vE:FOk Tryz.prog 79 (kk std):=by
 refine FOk.go (c:=cx std [(176,o9 std),(83,bw std)] [] 0) (ae (.cons Cu (.cons et .nil)) .nil) mixed Tryz.func79 rfl rfl rfl (by kernel_rfl) ?_
 rintro t hp
 refine⟨rfl,?_⟩
 unfold o9 bw
 obtain⟨H,hH⟩ : ∃H:Hd (Int×Int),H=⟨fun (k,m)=>0≤k∧k≤t.counts.length∧m=t.blanks+(t.counts.take k.toNat).sum ∧0≤m∧m≤4+20*k∧tsB t=(vcB (t.values.drop k.toNat) (t.counts.drop k.toNat)&&decide (t.blanks+t.counts.sum≤120)),fun (k,m)=>(t.counts.length-k).toNat,(· < ·)⟩:=⟨_,rfl⟩
 have hl:=hdl hH
 generalize hP:std=p,hB0:tsB=B0,hB1:yr=B1,hB2:inR=B2
 cbv
 repeat' first|refine fun (_:Unit)=>?_;cbv|refine Or.inr ⟨44,[],[.s 43 (.i .i64),.s 4 (.i .i64)],[],[],H,rfl,hl,?_,fun ((k,m):Int×Int) hk=>?_⟩<;>cbv|refine aI2 (fun h=>?_) (fun h=>?_)<;>cbv|refine aI2 ?_ ?_
 all_goals subst hP hB0 hB1 hB2 hH
 all_goals clear hl
 all_goals try dsimp only at hk
 all_goals try dsimp only
 all_goals try exact fin
 all_goals try simp only [iR] at *
 ·exact aR hp.l
 all_goals have ht:=UU t
 all_goals try (have b0:(1≤t.letters.length)=True:=eq_true (by have:=ao (show std.ltI (std.lenS t.letters) 1=false by assumption);simp at this;omega))
 all_goals try (have b1:yr t.letters=true:=by assumption)
 all_goals try (have b2:=zD (L:=t.values) (s:=t.letters) ‹_›)
 all_goals try (have b3:=zD (L:=t.counts) (s:=t.letters) ‹_›)
 all_goals try (have b4:inR t.blanks 0 4=true:=by assumption)
 ·rw [ht,show inR t.blanks 0 4=false by assumption];simp
 ·have c4:=br b4
  refine⟨Int.le_refl 0,Int.natCast_nonneg _,by simp,c4.1,c4.2,?_⟩
  rw [ht,b1,b4,decide_eq_true b2,decide_eq_true b3]
  simp [b0]
 all_goals try (obtain⟨q0,q1,q2,q3,q4,e⟩:=hk)
 all_goals try (have h1:k<(t.counts.length:Int):=ah ‹_›)
 all_goals try (have st:=MA b2 b3 q0 h1)
 all_goals try (have c2:=mI (L:=t.counts) q0 h1)
 all_goals try (have d1:inR (t.values.getD k.toNat 0) 0 20=true:=by assumption)
 all_goals try (have d2:inR (t.counts.getD k.toNat 0) 1 20=true:=by assumption)
 all_goals try (have d3:=br d2)
 ·rw [e,st,show inR (t.counts.getD k.toNat 0) 1 20=false by assumption];simp
 ·have q1:k≤(t.counts.length:Int):=q1
  have q5:=hp.c
  exact an (by show _≤m+t.counts.getD k.toNat 0∧m+t.counts.getD k.toNat 0≤_;omega)
 ·have q5:=hp.c
  exact an (by show _≤k+1∧k+1≤_;omega)
 ·refine⟨by show 0≤k+1;omega,by show k+1≤(t.counts.length:Int);omega,by show m+t.counts.getD k.toNat 0=t.blanks+(t.counts.take (k+1).toNat).sum;rw [c2];omega,by show 0≤m+t.counts.getD k.toNat 0;omega,by show m+t.counts.getD k.toNat 0≤4+20*(k+1);omega,?_⟩
  rw [e,st,d1,d2];rfl
 ·rw [e,st,show inR (t.values.getD k.toNat 0) 0 20=false by assumption];rfl
 ·have h2:(t.counts.length:Int)≤k:=ao ‹_›
  rw [e,q2,bZ h2,Rf h2];rfl
 ·rw [ht,decide_eq_false (Gb (L:=t.counts) (s:=t.letters) ‹_›)];simp
 ·rw [ht,decide_eq_false (Gb (L:=t.values) (s:=t.letters) ‹_›)];simp
 ·rw [ht,show yr t.letters=false by assumption];simp
 ·have b5 : ¬1≤t.letters.length:=by have:=ah (show std.ltI (std.lenS t.letters) 1=true by assumption);have h3:(t.letters.length:Int)<1:=this;omega
  rw [ht,decide_eq_false b5];rfl
structure SuQ (u:Su):Prop where
 ts:TsL u.ts
 ws:WsL u.lex
 bd:BdP u.bd
theorem suE (u:Su):suB u=(tsB ⟨u.ts.letters,u.ts.values,u.ts.counts,u.ts.blanks⟩&&(lexB u.lex&&(bdB ⟨u.bd.size,u.bd.prem,u.bd.cells⟩&&(ur ⟨u.bd.size,u.bd.prem,u.bd.cells⟩&&(inR u.secs 0 36000&&inR u.rule 0 3))))):=rfl
def ku (p:Pr):aa:=fsp (a1 (aA aSu)) (fun u=>SuQ u) (fun u=>.b (suB u))
theorem vS:FOk Tryz.prog 14 (ku std):=by
 refine FOk.go (c:=cx std [(79,kk std),(80,dO std),(81,de std),(82,jl std),(83,bw std)] [] 0) (ae (.cons vE (.cons lT (.cons kf (.cons uh (.cons et .nil))))) .nil) mixed Tryz.func14 rfl rfl rfl (by kernel_rfl) ?_
 rintro u hp
 refine⟨rfl,?_⟩
 unfold kk dO de jl bw
 generalize hP:std=p,hB0:suB=B0,hB1:tsB=B1,hB2:lexB=B2,hB3:bdB=B3,hB4:ur=B4,hB5:inR=B5
 cbv
 repeat' first|refine fun (_:Unit)=>?_;cbv|refine aI2 (fun h=>?_) (fun h=>?_)<;>cbv|refine aI2 ?_ ?_|refine Or.inl (fun (_:Unit)=>?_);cbv
 all_goals subst hP hB0 hB1 hB2 hB3 hB4 hB5
 all_goals try exact fin
 all_goals first
  | exact hp.bd
  | exact bdB.fit (show bdB u.bd=true by assumption)
  | (rw [suE];simp [*];done)
  | (rw [suE];simp [*] at *;simp [*];done)
def me (g:Gm):Bool:=d6 (ay (((g.bag++g.racks.getD 0 [])++g.racks.getD 1 [])++cb (ag g.bd)))==bW g.ts
theorem sN {s:List UInt8} (h:aM s=true):StP s:=by
 have h1:=(ep h).1
 refine⟨h1,?_⟩
 unfold aM at h
 rw [Bool.and_eq_true,decide_eq_true_eq] at h
 omega
theorem wi {s:List UInt8} (h:bL s=true):StP s:=by
 have h1:=fo h
 refine⟨h1,?_⟩
 unfold bL at h
 rw [Bool.and_eq_true,decide_eq_true_eq] at h
 omega
theorem EE (s:List UInt8):(cb s).length ≤27*s.length:=by
 have h1:=jq (s.map aX)
 rw [List.length_map] at h1
 exact p7 (c:=ay (s.map aX)) (m:=s.length) (fun j=>h1.hi j) 27
structure TfP (g:Gm):Prop where
 ts:TlP g.ts
 bd:bdB g.bd=true
 bag:bL g.bag=true
 rk2:g.racks.length=2
 rk0:aM (g.racks.getD 0 [])=true
 rk1:aM (g.racks.getD 1 [])=true
def gV (p:Pr):aa:=fsp (a1 (aA aGm)) (fun g=>TfP g) (fun g=>.b (me g))
theorem rx:FOk Tryz.prog 85 (gV std):=by
 refine FOk.go (c:=cx std [(90,cX std),(91,il std),(69,jT std),(70,mu std)] [] 0) (ae (.cons jZ (.cons tJ (.cons uU (.cons yZ .nil)))) .nil) mixed Tryz.func85 rfl rfl rfl (by kernel_rfl) ?_
 rintro g hp
 refine⟨rfl,?_⟩
 unfold cX il jT mu
 generalize hP:std=p,hB0:me=B0,hB1:d6=B1,hB2:ay=B2,hB3:cb=B3,hB4:ag=B4,hB5:bW=B5
 cbv
 repeat' first|refine fun (_:Unit)=>?_;cbv|refine aI2 (fun h=>?_) (fun h=>?_)<;>cbv|refine aI2 ?_ ?_|refine Or.inl (fun (_:Unit)=>?_);cbv
 all_goals subst hP hB0 hB1 hB2 hB3 hB4 hB5
 all_goals try exact fin
 all_goals (have hb:=eF hp.bag;have h0:=bP hp.rk0;have h1:=bP hp.rk1;have hr:=hp.rk2;have hll:=ta g.bd (bdB.fit hp.bd);have htl:=EE (ag g.bd))
 ·exact⟨Int.le_refl 0,by show (0:Int)<(g.racks.length:Int);omega⟩
 ·exact an (by show _≤(g.bag.length:Int)+((g.racks.getD 0 []).length : Int)∧(g.bag.length:Int)+((g.racks.getD 0 []).length : Int)≤_;omega)
 ·exact⟨by decide,by show (1:Int)<(g.racks.length:Int);omega⟩
 ·exact an (by
   show _≤((g.bag++g.racks.getD 0 []).length : Int)+((g.racks.getD 1 []).length : Int)∧((g.bag++g.racks.getD 0 []).length : Int)+((g.racks.getD 1 []).length : Int)≤_
   rw [List.length_append];omega)
 ·exact bdB.fit hp.bd
 ·exact⟨xl hp.bd,by show (ag g.bd).length ≤_;omega⟩
 ·exact an (by
   show _≤(((g.bag++g.racks.getD 0 [])++g.racks.getD 1 []).length : Int)+((cb (ag g.bd)).length : Int)∧(((g.bag++g.racks.getD 0 [])++g.racks.getD 1 []).length : Int)+((cb (ag g.bd)).length : Int)≤_
   rw [List.length_append,List.length_append];omega)
 ·refine⟨?_,?_⟩
  ·show (((g.bag++g.racks.getD 0 [])++g.racks.getD 1 [])++cb (ag g.bd)).all aK=true
   rw [List.all_append,List.all_append,List.all_append,(wi hp.bag).ti,(sN hp.rk0).ti,(sN hp.rk1).ti,show (cb (ag g.bd)).all aK=true from gZ _];rfl
  ·show (((g.bag++g.racks.getD 0 [])++g.racks.getD 1 [])++cb (ag g.bd)).length ≤_
   rw [List.length_append,List.length_append,List.length_append];omega
theorem Fu (s:List UInt8):std.eqS s []=s.isEmpty:=by cases s<;>rfl
structure WtP (g:Gm):Prop where
 rk2:g.racks.length=2
 ply:inR g.player 0 1=true
def kg (p:Pr):aa:=fsp (a1 (aA aGm)) (fun g=>WtP g) (fun g=>.b (aT g))
theorem vL:FOk Tryz.prog 102 (kg std):=by
 refine FOk.go (c:=cx std [] [] 0) (ae .nil .nil) mixed Tryz.func102 rfl rfl rfl (by kernel_rfl) ?_
 rintro g hp
 refine⟨rfl,?_⟩
 generalize hP:std=p,hB0:aT=B0,hB1:inR=B1
 cbv
 repeat' first|refine fun (_:Unit)=>?_;cbv|refine aI2 (fun h=>?_) (fun h=>?_)<;>cbv|refine aI2 ?_ ?_|refine Or.inl (fun (_:Unit)=>?_);cbv
 all_goals subst hP hB0 hB1
 all_goals try exact fin
 all_goals (have h0:=br hp.ply;have hr:=hp.rk2)
 ·exact an (by show _≤1-g.player∧1-g.player≤_;omega)
 ·exact⟨by show 0≤1-g.player;omega,by show 1-g.player<(g.racks.length:Int);omega⟩
 ·unfold aT
  rw [show g.bag.isEmpty=true by rw [←Fu];assumption]
  exact Fu _
 ·unfold aT
  rw [show g.bag.isEmpty=false by rw [←Fu];assumption];rfl
structure PfQ (g:Gm):Prop where
 ts:er g.ts
 rk2:g.racks.length=2
 ply:inR g.player 0 1=true
 rk0:aM (g.racks.getD 0 [])=true
 rk1:aM (g.racks.getD 1 [])=true
 bf:BdP g.bef
 wd:(g.last.play.word.length:Int)≤1073741824
 dr:g.last.drawn.length≤274877906944
theorem FC (m n:Int):decide (m≤n)=!(std.ltI n m):=by
 show decide (m≤n)=!(decide (n<m))
 rw [Bool.eq_iff_iff]
 simp
theorem pfE (g:Gm):l4 g=(inR g.last.player 0 1&&(std.eqI g.last.player (std.sub 1 g.player)&&(okI ⟨g.bd.size,g.bd.prem,g.last.before⟩ ⟨g.last.play.row,g.last.play.col,g.last.play.down,g.last.play.word⟩&&(
 std.and (std.eqI (ar ⟨g.bd.size,g.bd.prem,g.last.before⟩ ⟨g.last.play.row,g.last.play.col,g.last.play.down,g.last.play.word⟩).size g.bd.size) (std.and (std.eqS (ar ⟨g.bd.size,g.bd.prem,g.last.before⟩ ⟨g.last.play.row,g.last.play.col,g.last.play.down,g.last.play.word⟩).prem g.bd.prem) (std.eqS (ar ⟨g.bd.size,g.bd.prem,g.last.before⟩ ⟨g.last.play.row,g.last.play.col,g.last.play.down,g.last.play.word⟩).cells g.bd.cells))&&(
 !(std.ltI 7 (std.len (nsI ⟨g.bd.size,g.bd.prem,g.last.before⟩ ⟨g.last.play.row,g.last.play.col,g.last.play.down,g.last.play.word⟩)))&&(bL g.last.drawn&&(
 !(std.ltI (std.len (nsI ⟨g.bd.size,g.bd.prem,g.last.before⟩ ⟨g.last.play.row,g.last.play.col,g.last.play.down,g.last.play.word⟩)) (std.lenS g.last.drawn))&&(
 !(std.ltI 7 (std.add (std.sub (std.lenS (std.get [] g.racks g.last.player)) (std.lenS g.last.drawn)) (std.len (nsI ⟨g.bd.size,g.bd.prem,g.last.before⟩ ⟨g.last.play.row,g.last.play.col,g.last.play.down,g.last.play.word⟩))))&&(
 cL (std.get [] g.racks g.last.player) g.last.drawn&&(std.eqI g.last.score (bY ⟨g.ts.letters,g.ts.values,g.ts.counts,g.ts.blanks⟩ ⟨g.bd.size,g.bd.prem,g.last.before⟩ ⟨g.last.play.row,g.last.play.col,g.last.play.down,g.last.play.word⟩)&&(std.leI g.last.score 20000&&(inR g.last.zeros 0 5&&std.eqI g.zeros 0)))))))))))):=by
 have e1:decide ((bC g.bef g.last.play).length ≤7)=!(std.ltI 7 (std.len (nsI g.bef g.last.play))):=by
  rw [←FC]
  show _=decide (((nsI g.bef g.last.play).length : Int)≤7)
  rw [lz,Bool.eq_iff_iff,decide_eq_true_eq,decide_eq_true_eq];omega
 have e2:decide (g.last.drawn.length≤(bC g.bef g.last.play).length)=!(std.ltI (std.len (nsI g.bef g.last.play)) (std.lenS g.last.drawn)):=by
  rw [←FC]
  show _=decide ((g.last.drawn.length:Int)≤((nsI g.bef g.last.play).length : Int))
  rw [lz,Bool.eq_iff_iff,decide_eq_true_eq,decide_eq_true_eq];omega
 have e3:decide (((g.rk g.last.player).length : Int)-g.last.drawn.length+(bC g.bef g.last.play).length ≤7)=!(std.ltI 7 (std.add (std.sub (std.lenS (std.get [] g.racks g.last.player)) (std.lenS g.last.drawn)) (std.len (nsI g.bef g.last.play)))):=by
  rw [←FC]
  show _=decide (((g.rk g.last.player).length : Int)-g.last.drawn.length+((nsI g.bef g.last.play).length : Int)≤7)
  rw [lz]
 unfold l4
 rw [e1,e2,e3]
 rfl
theorem VP.ok {b:Bd} {q:Pl} (h:okI b q=true):VP b q:=by
 unfold okI at h
 rw [Bool.and_eq_true] at h
 exact VP.of h.1 h.2
def gX (p:Pr):aa:=fsp (a1 (aA aGm)) (fun g=>PfQ g) (fun g=>.b (l4 g))
theorem rm:FOk Tryz.prog 183 (gX std):=by
 refine FOk.go (c:=cx std [(83,bw std),(134,ly std),(119,fJ std),(203,bD std),(68,gr std),(116,iS std),(113,kP std)] [] 0) (ae (.cons et (.cons wX (.cons qd (.cons eL (.cons qO (.cons sK (.cons wH .nil))))))) .nil) mixed Tryz.func183 rfl rfl rfl (by kernel_rfl) ?_
 rintro g hp
 refine⟨rfl,?_⟩
 unfold bw ly fJ bD gr iS kP
 generalize hP:std=p,hB0:l4=B0,hB1:inR=B1,hB2:okI=B2,hB3:ar=B3,hB4:nsI=B4,hB5:npI=B5,hB6:bL=B6,hB7:lL=B7,hB8:cL=B8,hB9:bY=B9
 cbv
 repeat' first|refine fun (_:Unit)=>?_;cbv|refine aI2 (fun h=>?_) (fun h=>?_)<;>cbv|refine aI2 ?_ ?_|refine Or.inl (fun (_:Unit)=>?_);cbv
 all_goals subst hP hB0 hB1 hB2 hB3 hB4 hB5 hB6 hB7 hB8 hB9
 all_goals try exact fin
 all_goals (have h0:=br hp.ply;have hr:=hp.rk2)
 all_goals try (have hl1:=br (show inR g.last.player 0 1=true by assumption);have hrk:=wC hp.rk0 hp.rk1 (show inR g.last.player 0 1=true by assumption);have hrl:=bP hrk)
 all_goals try (have hvp:VP g.bef g.last.play:=VP.ok ‹_›;have hnl:=lz (b:=g.bef) (q:=g.last.play);have hn:=cF g.bef g.last.play g.last.play.word.length;have hn:(bC g.bef g.last.play).length ≤g.last.play.word.length:=hn;have hw:=hvp.hi)
 all_goals try (have hbg:=eF (show bL g.last.drawn=true by assumption))
 all_goals first
  | exact hp.bf
  | exact hp.wd
  | exact hvp
  | exact⟨hp.ts,hvp⟩
  | exact sN hrk
  | exact wi (show bL g.last.drawn=true by assumption)
  | exact aR hp.dr
  | exact⟨hl1.1,by show g.last.player<(g.racks.length:Int);omega⟩
  | (rw [pfE];simp only [*,Bool.not_false,Bool.not_true,Bool.true_and,Bool.false_and,Bool.and_false];done)
  | exact an (by show _≤1-g.player∧1-g.player≤_;omega)
  | exact an (by show _≤((g.rk g.last.player).length : Int)-(g.last.drawn.length:Int)∧((g.rk g.last.player).length : Int)-(g.last.drawn.length:Int)≤_;omega)
  | exact an (by show _≤((g.rk g.last.player).length : Int)-(g.last.drawn.length:Int)+((nsI g.bef g.last.play).length : Int)∧((g.rk g.last.player).length : Int)-(g.last.drawn.length:Int)+((nsI g.bef g.last.play).length : Int)≤_;omega)
  | skip
def gW (p:Pr):aa:=fsp (a1 (aA aGm)) (fun g=>PfQ g) (fun g=>.b (e9 g))
theorem rH:FOk Tryz.prog 86 (gW std):=by
 refine FOk.go (c:=cx std [(83,bw std),(183,gX std)] [] 0) (ae (.cons et (.cons rm .nil)) .nil) mixed Tryz.func86 rfl rfl rfl (by kernel_rfl) ?_
 rintro g hp
 refine⟨rfl,?_⟩
 unfold bw gX
 generalize hP:std=p,hB0:e9=B0,hB1:inR=B1,hB2:l4=B2
 cbv
 repeat' first|refine fun (_:Unit)=>?_;cbv|refine aI2 (fun h=>?_) (fun h=>?_)<;>cbv|refine aI2 ?_ ?_|refine Or.inl (fun (_:Unit)=>?_);cbv
 all_goals subst hP hB0 hB1 hB2
 all_goals try exact fin
 ·have k0:g.last.kind=0:=bV ‹_›
  unfold e9
  rw [if_pos k0];rfl
 ·have k0 : ¬g.last.kind=0:=dI ‹_›
  have k2:g.last.kind=2:=bV ‹_›
  unfold e9
  rw [if_neg k0,if_pos (Or.inl k2),show inR g.last.player 0 1=true by assumption];rfl
 ·have k0 : ¬g.last.kind=0:=dI ‹_›
  have k2:g.last.kind=2:=bV ‹_›
  unfold e9
  rw [if_neg k0,if_pos (Or.inl k2),show inR g.last.player 0 1=false by assumption];rfl
 ·have k0 : ¬g.last.kind=0:=dI ‹_›
  have k2:g.last.kind=3:=bV ‹_›
  unfold e9
  rw [if_neg k0,if_pos (Or.inr k2),show inR g.last.player 0 1=true by assumption];rfl
 ·have k0 : ¬g.last.kind=0:=dI ‹_›
  have k2:g.last.kind=3:=bV ‹_›
  unfold e9
  rw [if_neg k0,if_pos (Or.inr k2),show inR g.last.player 0 1=false by assumption];rfl
 all_goals have k0 : ¬g.last.kind=0:=dI ‹_›
 all_goals have k2 : ¬g.last.kind=2:=dI ‹_›
 all_goals have k3 : ¬g.last.kind=3:=dI ‹_›
 all_goals unfold e9
 all_goals rw [if_neg k0,if_neg (by rintro (h | h);exact k2 h;exact k3 h)]
 ·rw [if_pos (bV ‹_›)]
 ·rw [if_neg (dI ‹_›)]
theorem D4 (g:Gm):az g=(dX g&&(kq g&&((bj g 0&&bj g 1)&&(me g&&(e9 g&&(g.over||decide (g.zeros<6))))))):=by
 unfold az
 cases h1:dX g
 ·rfl
 cases h2:kq g
 ·rfl
 cases h3:bj g 0
 ·rfl
 cases h4:bj g 1
 ·rfl
 unfold dX at h1
 unfold kq at h2
 unfold bj at h3 h4
 simp only [Bool.and_eq_true] at h1 h2 h3 h4
 have e1:me g=(cr g==bW g.ts):=by
  unfold me
  rw [FE h1.2.1 h1.2.2.2.2 h3.1 h4.1]
 rw [e1,Cl h3.1 h4.1 h2.2.2.2.1]
theorem MQ {g:Gm} (h:dX g=false):az g=false:=by rw [D4,h];rfl
theorem RJ {g:Gm} (h:kq g=false):az g=false:=by rw [D4,h];simp
theorem Fc {g:Gm} {k:Int} (h0:0≤k) (h1:k<2) (h:bj g k.toNat=false):az g=false:=by
 have : k=0∨k=1:=by omega
 rcases this with rfl | rfl
 ·have h:bj g 0=false:=h
  rw [D4,h];simp
 ·have h:bj g 1=false:=h
  rw [D4,h];simp
theorem GT {g:Gm} (h1:dX g=true) (h2:kq g=true) (h3:bj g 0=true) (h4:bj g 1=true):az g=(me g&&(e9 g&&(g.over||decide (g.zeros<6)))):=by
 rw [D4,h1,h2,h3,h4];rfl
structure GmQ (g:Gm):Prop where
 su:SuQ (gSu g)
 bd:BdP g.bd
 bag:g.bag.length≤274877906944
 rks : ∀k:Int,(g.racks.getD k.toNat []).length ≤274877906944
 wd:(g.last.play.word.length:Int)≤1073741824
 dr:g.last.drawn.length≤274877906944
 bf:BdP g.bef
theorem QS {g:Gm} (h1:dX g=true) (h2:kq g=true) (h3:bj g 0=true) (h4:bj g 1=true):TfP g:=by
 unfold dX jp at h1
 unfold kq at h2
 unfold bj at h3 h4
 simp only [Bool.and_eq_true,decide_eq_true_eq] at h1 h2 h3 h4
 obtain⟨a1,a2,a3⟩:=vZ h1.1.1
 exact⟨⟨a1,a2,a3⟩,h1.2.1,h1.2.2.2.2,h2.1,h3.1,h4.1⟩
theorem Qz {g:Gm} (hp:GmQ g) (h1:dX g=true) (h2:kq g=true) (h3:bj g 0=true) (h4:bj g 1=true):PfQ g:=by
 unfold dX jp at h1
 unfold kq at h2
 unfold bj at h3 h4
 simp only [Bool.and_eq_true,decide_eq_true_eq] at h1 h2 h3 h4
 exact⟨jm h1.1.1,h2.1,h2.2.2.2.1,h3.1,h4.1,hp.bf,hp.wd,hp.dr⟩
def bO (p:Pr):aa:=fsp (a1 (aA aGm)) (fun g=>GmQ g) (fun g=>.b (az g))
theorem fk:FOk Tryz.prog 16 (bO std):=by
 refine FOk.go (c:=cx std [(14,ku std),(81,de std),(68,gr std),(83,bw std),(84,lB std),(85,gV std),(86,gW std)] [] 0) (ae (.cons vS (.cons kf (.cons qO (.cons et (.cons wL (.cons rx (.cons rH .nil))))))) .nil) mixed Tryz.func16 rfl rfl rfl (by kernel_rfl) ?_
 rintro g hp
 refine⟨rfl,?_⟩
 unfold ku de gr bw lB gV gW
 obtain⟨H,hH⟩ : ∃H:Hd (Int),H=⟨fun k=>0≤k∧k≤2∧(0<k→bj g 0=true)∧(1<k→bj g 1=true),fun k=>(2-k).toNat,(· < ·)⟩:=⟨_,rfl⟩
 have hl:=hdl hH
 generalize hP:std=p,hB0:az=B0,hB1:suB=B1,hB2:bdB=B2,hB3:bL=B3,hB4:inR=B4,hB5:aM=B5,hB6:me=B6,hB7:e9=B7
 cbv
 repeat' first|refine fun (_:Unit)=>?_;cbv|refine Or.inr ⟨66,[],[.s 65 (.i .i64)],[],[],H,rfl,hl,?_,fun (k:Int) hk=>?_⟩<;>cbv|refine aI2 (fun h=>?_) (fun h=>?_)<;>cbv|refine aI2 ?_ ?_
 all_goals subst hP hB0 hB1 hB2 hB3 hB4 hB5 hB6 hB7 hH
 all_goals clear hl
 all_goals try dsimp only at hk
 all_goals try dsimp only
 all_goals try exact fin
 all_goals try (have hs:dX g=true:=by rw [Bx];simp only [*,Bool.not_false,Bool.true_and,Bool.and_true])
 all_goals try (have hr2:g.racks.length=2:=by have:=(MR g.racks).symm.trans (show std.eqI (std.len g.racks) 2=true by assumption);simpa using this)
 all_goals try (obtain⟨q0,q1,q2,q3⟩:=hk)
 all_goals try (have hlt:k<2:=by have h7:k<(g.racks.length:Int):=ah ‹_›;omega)
 all_goals try (have hge:2≤k:=by have h7:(g.racks.length:Int)≤k:=ao ‹_›;omega)
 all_goals try (have hsd0:=q2 (by omega);have hsd1:=q3 (by omega))
 all_goals try (have htw:kq g=true:=by rw [NP];simp only [*,Bool.not_false,Bool.true_and,Bool.and_true])
 all_goals first
  | exact hp.su
  | exact aR hp.bag
  | exact aR (hp.rks k)
  | (refine MQ ?_;rw [Bx];simp only [*,Bool.not_false,Bool.true_and,Bool.false_and];done)
  | (refine RJ ?_;rw [NP];simp only [*,Bool.not_false,Bool.true_and,Bool.false_and,Bool.and_false];done)
  | exact Fc q0 hlt (Hw ‹_›)
  | exact Fc q0 hlt (GE q0 ‹_›)
  | exact Fc q0 hlt (Gx q0 ‹_›)
  | exact Df q0 hlt q2 q3 ‹_› ‹_› ‹_›
  | exact QS hs htw hsd0 hsd1
  | exact Qz hp hs htw hsd0 hsd1
  | (rw [GT hs htw hsd0 hsd1,show g.over=false by assumption,Q9 ‹_›];simp;done)
  | (rw [GT hs htw hsd0 hsd1];show e9 g=_;rw [show me g=true by assumption,show g.over=true by assumption];simp;done)
  | (rw [GT hs htw hsd0 hsd1,show me g=true by assumption,PI ‹_› ‹_›];simp;done)
  | (rw [GT hs htw hsd0 hsd1,show me g=false by assumption];rfl)
  | skip
end Ax
end Go.Proofs.YtjjonmhpgkahoaaGreatDoor
