/-
  Valid games, codes of actions, turns with a play, of the spec package.
  Conditions: none.
-/
import Derived.Test.YtjjonmhpgkahoaaGreatDoorV20
import Derived.Test.YtjjonmhpgkahoaaGreatDoorV09
import Derived.Test.YtjjonmhpgkahoaaGreatDoorV11
import Derived.Test.YtjjonmhpgkahoaaGreatDoorV10
import Derived.Test.YtjjonmhpgkahoaaGreatDoorV12
import Derived.Test.YtjjonmhpgkahoaaGreatDoorV15
set_option linter.unusedSimpArgs false
set_option linter.unusedVariables false
namespace Go.Proofs.YtjjonmhpgkahoaaGreatDoor
namespace Ax
set_option maxRecDepth 100000
set_option maxHeartbeats 2000000
def sp_s_l18LastOk (p:Pr):FSpec:=fsp (a1 (aP aGm)) (fun g=>PkP g) (fun g=>.b (lastOk g))
theorem ok_s_l18LastOk:FOk Tryz.prog 186 (sp_s_l18LastOk std):=by
 refine FOk.go (c:=cx std [(250,sp_s_l18PlayOk std),(89,sp_s_l00In std)] [] 0) (cx_ok (.cons ok_s_l18PlayOk (.cons ok_s_l00In .nil)) .nil) mixed Tryz.func186 rfl rfl rfl (by kernel_rfl) ?_
 rintro g hp
 refine⟨rfl,?_⟩
 unfold sp_s_l18PlayOk sp_s_l00In
 generalize hP:std=p,hB0:lastOk=B0,hB1:playOk=B1,hB2:inR=B2
 cbv
 repeat' first|refine fun (_:Unit)=>?_;cbv|refine aI2 (fun h=>?_) (fun h=>?_)<;>cbv|refine aI2 ?_ ?_|refine Or.inl (fun (_:Unit)=>?_);cbv
 all_goals subst hP hB0 hB1 hB2
 all_goals try exact fin
 all_goals try (have hb:eqLa g.last (idleL g.last.kind g.last.player)=true:=‹_›)
 all_goals try (have hn:eqLa g.last (idleL g.last.kind g.last.player)=false:=‹_›)
 ·have k0:g.last.kind=0:=eqI_t ‹_›
  unfold lastOk
  rw [k0] at hb
  rw [if_pos k0,hb];rfl
 ·have k0:g.last.kind=0:=eqI_t ‹_›
  unfold lastOk
  rw [k0] at hn
  rw [if_pos k0,hn];rfl
 ·have k0 : ¬g.last.kind=0:=eqI_f ‹_›
  have k2:g.last.kind=2:=eqI_t ‹_›
  unfold lastOk
  rw [if_neg k0,if_pos (Or.inl k2),hb];rfl
 ·have k0 : ¬g.last.kind=0:=eqI_f ‹_›
  have k2:g.last.kind=2:=eqI_t ‹_›
  unfold lastOk
  rw [if_neg k0,if_pos (Or.inl k2),hn];rfl
 ·have k0 : ¬g.last.kind=0:=eqI_f ‹_›
  have k2:g.last.kind=3:=eqI_t ‹_›
  unfold lastOk
  rw [if_neg k0,if_pos (Or.inr k2),hb];rfl
 ·have k0 : ¬g.last.kind=0:=eqI_f ‹_›
  have k2:g.last.kind=3:=eqI_t ‹_›
  unfold lastOk
  rw [if_neg k0,if_pos (Or.inr k2),hn];rfl
 all_goals have k0 : ¬g.last.kind=0:=eqI_f ‹_›
 all_goals have k2 : ¬g.last.kind=2:=eqI_f ‹_›
 all_goals have k3 : ¬g.last.kind=3:=eqI_f ‹_›
 all_goals unfold lastOk
 all_goals rw [if_neg k0,if_neg (by rintro (h | h);exact k2 h;exact k3 h)]
 ·rw [if_pos (eqI_t ‹_›)]
 ·rw [if_neg (eqI_f ‹_›)]
structure GmL (g:Gm):Prop where
 su:SuL (gSu g)
 bd:BdP g.bd
 bag:g.bag.length≤274877906944
 rk : ∀k:Int,(g.rk k).length ≤274877906944
 bf:BdP g.bef
 wd:g.last.play.word.length≤274877906944
 dr:g.last.drawn.length≤274877906944
theorem s_shape {g:Gm} (h:shapeB g=false):gameB g=false:=by unfold gameB;rw [h];rfl
theorem s_two {g:Gm} (h:twoB g=false):gameB g=false:=by unfold gameB;rw [h];simp
theorem s_side {g:Gm} {k:Int} (h0:0≤k) (h1:k<2) (h:sideB g k.toNat=false):gameB g=false:=by
 have : k=0∨k=1:=by omega
 rcases this with rfl | rfl
 ·have h:sideB g 0=false:=h
  unfold gameB;rw [h];simp
 ·have h:sideB g 1=false:=h
  unfold gameB;rw [h];simp
theorem s_end {g:Gm} (h1:shapeB g=true) (h2:twoB g=true) (h3:sideB g 0=true) (h4:sideB g 1=true):gameB g=(gameTiles g==allT g.ts&&(lastOk g&&(g.over||decide (g.zeros<6)))):=by
 unfold gameB
 rw [h1,h2,h3,h4];rfl
structure GmS (g:Gm):Prop where
 fit:g.bd.Fit
 ts:tsB g.ts=true
 rk : ∀k:Int,(g.rk k).length ≤7
 r2:g.racks.length=2
 ply:g.player=0∨g.player=1
 bag:g.bag.length≤120
theorem gm_s {g:Gm} (h1:shapeB g=true) (h2:twoB g=true) (h3:sideB g 0=true) (h4:sideB g 1=true):GmS g:=by
 unfold shapeB setupB at h1
 unfold twoB at h2
 unfold sideB at h3 h4
 simp only [Bool.and_eq_true,decide_eq_true_eq] at h1 h2 h3 h4
 have hp:=in_bd h2.2.2.2.1
 refine⟨bdB.fit h1.2.1,h1.1.1,fun k=>?_,h2.1,by omega,bag_len h1.2.2.2.2⟩
 unfold Gm.rk
 rcases (show k.toNat=0∨k.toNat=1∨2≤k.toNat by omega) with h | h | h
 ·rw [h];exact rack_len h3.1
 ·rw [h];exact rack_len h4.1
 ·rw [List.getD_eq_getElem?_getD,List.getElem?_eq_none (by omega)];decide
theorem pkp_of {g:Gm} (hp:GmL g) (h:GmS g):PkP g:=⟨tsB_ok h.ts,h.r2,h.ply,h.rk,hp.bf,hp.wd,hp.dr⟩
def sp_s_l18Ok (p:Pr):FSpec:=fsp (a1 (aP aGm)) (fun g=>GmL g) (fun g=>.b (gameB g))
theorem ok_s_l18Ok:FOk Tryz.prog 88 (sp_s_l18Ok std):=by
 refine FOk.go (c:=cx std [(72,sp_s_l18Setup std),(159,sp_s_l11Ok std),(73,sp_s_l17Ok std),(89,sp_s_l00In std),(185,sp_s_l03Rack std),(173,sp_s_l11Letters std),(127,sp_s_l03Tiles std),(74,sp_s_l03Sort std),(65,sp_s_l02All std),(186,sp_s_l18LastOk std)] [] 0) (cx_ok (.cons ok_s_l18Setup (.cons ok_s_l11Ok (.cons ok_s_l17Ok (.cons ok_s_l00In (.cons ok_s_l03Rack (.cons ok_s_l11Letters (.cons ok_s_l03Tiles (.cons ok_s_l03Sort (.cons ok_s_l02All (.cons ok_s_l18LastOk .nil)))))))))) .nil) mixed Tryz.func88 rfl rfl rfl (by kernel_rfl) ?_
 rintro g hp
 refine⟨rfl,?_⟩
 unfold sp_s_l18Setup sp_s_l11Ok sp_s_l17Ok sp_s_l00In sp_s_l03Rack sp_s_l11Letters sp_s_l03Tiles sp_s_l03Sort sp_s_l02All sp_s_l18LastOk
 obtain⟨H,hH⟩ : ∃H:Hd (Int),H=⟨fun k=>0≤k∧k≤2∧(0<k→sideB g 0=true)∧(1<k→sideB g 1=true),fun k=>(2-k).toNat,(· < ·)⟩:=⟨_,rfl⟩
 have hl:=hdl hH
 generalize hP:std=p,hB0:gameB=B0,hB1:suB=B1,hB2:bdB=B2,hB3:bagB=B3,hB4:rackB=B4,hB5:inR=B5,hB6:lettersS=B6,hB7:tilesS=B7,hB8:isort=B8,hB9:allT=B9,hB10:lastOk=B10
 cbv
 repeat' first|refine fun (_:Unit)=>?_;cbv|refine Or.inr ⟨90,[],[.s 3 (.i .i64)],[],[],H,rfl,hl,?_,fun (k:Int) hk=>?_⟩<;>cbv|refine aI2 (fun h=>?_) (fun h=>?_)<;>cbv|refine aI2 ?_ ?_
 all_goals subst hP hB0 hB1 hB2 hB3 hB4 hB5 hB6 hB7 hB8 hB9 hB10 hH
 all_goals clear hl
 all_goals try dsimp only at hk
 all_goals try dsimp only
 all_goals try exact fin
 all_goals try (have hs:shapeB g=true:=by rw [shapeE];simp only [*,Bool.not_false,Bool.true_and,Bool.and_true])
 all_goals try (have htw:twoB g=true:=by rw [twoE];simp only [*,Bool.not_false,Bool.true_and,Bool.and_true])
 all_goals try (obtain⟨q0,q1,q2,q3⟩:=hk)
 all_goals try (have hlt:k<2:=lt_of ‹_›)
 all_goals try (have hge:2≤k:=ge_of ‹_›)
 all_goals try (have hsd0:=q2 (by omega);have hsd1:=q3 (by omega))
 all_goals try (have hS:=gm_s hs htw hsd0 hsd1;have hl:=lettersS_len g.bd hS.fit;have htl:=tilesS_len (lettersS g.bd);have hr0:=hS.rk 0;have hr1:=hS.rk 1;have hbg:=hS.bag)
 all_goals try (have hlo:lastOk g=true:=‹_›)
 all_goals try (have hlf:lastOk g=false:=‹_›)
 all_goals first
  | exact hp.su
  | exact ltM_of hp.bag
  | exact ltM_of (hp.rk k)
  | exact⟨Int.le_refl 0,by decide,fun h=>absurd h (by decide),fun h=>absurd h (by decide)⟩
  | (refine s_shape ?_;rw [shapeE];simp only [*,Bool.not_false,Bool.true_and,Bool.false_and];done)
  | (refine s_two ?_;rw [twoE];simp only [*,Bool.not_false,Bool.true_and,Bool.false_and,Bool.and_false];done)
  | exact s_side q0 hlt (side_n1 ‹_›)
  | exact s_side q0 hlt (side_n2 q0 ‹_›)
  | exact s_side q0 hlt (side_n3 q0 ‹_›)
  | exact side_suc q0 hlt q2 q3 ‹_› ‹_› ‹_›
  | exact (tsB_all hS.ts).1
  | exact pkp_of hp hS
  | exact ltM_of (n:=(lettersS g.bd).length) (by omega)
  | exact in64 (by show _≤((tilesS (lettersS g.bd)).length : Int)+((g.rk 0).length : Int)∧((tilesS (lettersS g.bd)).length : Int)+((g.rk 0).length : Int)≤_;omega)
  | exact in64 (by show _≤((tilesS (lettersS g.bd)++g.rk 0).length : Int)+((g.rk 1).length : Int)∧((tilesS (lettersS g.bd)++g.rk 0).length : Int)+((g.rk 1).length : Int)≤_;rw [List.length_append];omega)
  | exact in64 (by show _≤(((tilesS (lettersS g.bd)++g.rk 0)++g.rk 1).length : Int)+(g.bag.length:Int)∧(((tilesS (lettersS g.bd)++g.rk 0)++g.rk 1).length : Int)+(g.bag.length:Int)≤_;rw [List.length_append,List.length_append];omega)
  | exact ltM_of (n:=(((tilesS (lettersS g.bd)++g.rk 0)++g.rk 1)++g.bag).length) (by rw [List.length_append,List.length_append,List.length_append];omega)
  | (rw [s_end hs htw hsd0 hsd1,show (gameTiles g==allT g.ts)=false by assumption];rfl)
  | (rw [s_end hs htw hsd0 hsd1,show (gameTiles g==allT g.ts)=true by assumption,hlf];rfl)
  | (rw [s_end hs htw hsd0 hsd1,show (gameTiles g==allT g.ts)=true by assumption,hlo,show g.over=true by assumption];rfl)
  | (rw [s_end hs htw hsd0 hsd1,show (gameTiles g==allT g.ts)=true by assumption,hlo,show g.over=false by assumption];rfl)
  | skip
structure SaF (g:Gm):Prop where
 s:g.scores.length=2
 k:g.clocks.length=2
 ply:0≤g.player∧g.player≤1
 clk : -36000≤g.clk g.player∧g.clk g.player≤36000
theorem sa_facts {g:Gm} (h:gameB g=true):SaF g:=by
 unfold gameB twoB sideB at h
 simp only [Bool.and_eq_true,decide_eq_true_eq] at h
 have hp:=in_bd h.2.1.2.2.2.1
 have k0:=in_bd h.2.2.1.1.2.2
 have k1:=in_bd h.2.2.1.2.2.2
 refine⟨h.2.1.2.1,h.2.1.2.2.1,hp,?_⟩
 unfold Gm.clk
 rcases (show g.player.toNat=0∨g.player.toNat=1 by omega) with e | e<;>rw [e]
 ·exact k0
 ·exact k1
theorem sa_over {g:Gm} {n:Int} (h:gameB g=true) (ho:g.over=true):actC g n=10:=by
 unfold actC;rw [if_pos h,if_pos ho]
theorem sa_2a {g:Gm} {n:Int} (h:gameB g=true) (ho:g.over=false) (hn:inR n 0 36000=false):actC g n=2:=by
 unfold actC;rw [if_pos h,if_neg (by rw [ho];simp),hn,if_neg (by simp)]
theorem sa_2b {g:Gm} {n:Int} (h:gameB g=true) (ho:g.over=false) (hn:std.ltI (g.clk g.player-n) (-36000)=true):actC g n=2:=by
 have h1:=lt_of hn
 unfold actC;rw [if_pos h,if_neg (by rw [ho];simp),decide_eq_false (by omega),Bool.and_false,if_neg (by simp)]
theorem sa_go {g:Gm} {n:Int} (h:gameB g=true) (ho:g.over=false) (hi:inR n 0 36000=true) (hn:std.ltI (g.clk g.player-n) (-36000)=false):actC g n=if inR (g.sc 0) (-50000) 50000&&inR (g.sc 1) (-50000) 50000 then 0 else 5:=by
 have h1:=ge_of hn
 unfold actC;rw [if_pos h,if_neg (by rw [ho];simp),hi,decide_eq_true (by omega)];rfl
def sp_s_l18Begin (p:Pr):FSpec:=fsp (ac (aP aGm) (a1 aI)) (fun (g,n)=>GmL g) (fun (g,n)=>.i .i64 (actC g n))
theorem ok_s_l18Begin:FOk Tryz.prog 105 (sp_s_l18Begin std):=by
 refine FOk.go (c:=cx std [(88,sp_s_l18Ok std),(89,sp_s_l00In std),(124,sp_s_l18Points std)] [] 0) (cx_ok (.cons ok_s_l18Ok (.cons ok_s_l00In (.cons ok_s_l18Points .nil))) .nil) mixed Tryz.func105 rfl rfl rfl (by kernel_rfl) ?_
 rintro ⟨g,n⟩ hp
 dsimp only at hp
 refine⟨rfl,?_⟩
 unfold sp_s_l18Ok sp_s_l00In sp_s_l18Points
 generalize hP:std=p,hB0:actC=B0,hB1:gameB=B1,hB2:inR=B2
 cbv
 repeat' first|refine fun (_:Unit)=>?_;cbv|refine aI2 (fun h=>?_) (fun h=>?_)<;>cbv|refine aI2 ?_ ?_|refine Or.inl (fun (_:Unit)=>?_);cbv
 all_goals subst hP hB0 hB1 hB2
 all_goals try exact fin
 all_goals try (have hf:=sa_facts (show gameB g=true by assumption);have hpl:=hf.ply;have hck:=hf.clk;have hkl:=hf.k;have hsl:=hf.s)
 all_goals try (have hn:=in_bd (show inR n 0 36000=true by assumption))
 all_goals first
  | exact⟨hpl.1,by show g.player<(g.clocks.length:Int);omega⟩
  | exact⟨by decide,by show (0:Int)<(g.scores.length:Int);omega⟩
  | exact⟨by decide,by show (1:Int)<(g.scores.length:Int);omega⟩
  | exact in64 (by show _≤g.clk g.player-n∧g.clk g.player-n≤_;omega)
  | (unfold actC;rw [if_neg (by rw [show gameB g=false by assumption];simp)];done)
  | (rw [sa_over ‹_› ‹_›];done)
  | (rw [sa_2b ‹_› ‹_› ‹_›];done)
  | (rw [sa_2a ‹_› ‹_› ‹_›];done)
  | (rw [sa_go ‹_› ‹_› ‹_› ‹_›,show inR (g.sc 0) (-50000) 50000=true by assumption,show inR (g.sc 1) (-50000) 50000=true by assumption];rfl)
  | (rw [sa_go ‹_› ‹_› ‹_› ‹_›,show inR (g.sc 0) (-50000) 50000=false by assumption];rfl)
  | (rw [sa_go ‹_› ‹_› ‹_› ‹_›,show inR (g.sc 1) (-50000) 50000=false by assumption,Bool.and_false];rfl)
  | exact hp
  | skip
section
variable {P:Program} {g:FuncId} {α β:Type}
end
structure Src where
 code:List Int
 pos:Int
 seed:Int
def srK (σ:Src):List PV:=[.rsl [.i .u8] σ.code,.i .i64 σ.pos,.i .u64 σ.seed]
def srH (σ:Src):AH:=[(0,.cells (srK σ) 159)]
def srOf:AH→Option Src
 | [(0,.cells [.rsl [.i .u8] c,.i .i64 a,.i .u64 s] 159)]=>some ⟨c,a,s⟩
 | _=>none
theorem srOf_ok {H:AH} {σ:Src} (h:srOf H=some σ):H=srH σ:=by
 unfold srOf at h
 split at h
 ·cases h;rfl
 ·cases h
def mS {β:Type} (B:Args β):MArgs (Src×β):=⟨fun H l=>match l with
 | .ptr 0 0::r=>both' (srOf H) (B.rd r)
 | _=>none,fun a=>srH a.1,fun a=>.ptr 0 0::B.enc a.2,fun H l a h=>by
   split at h
   ·obtain⟨h1,h2⟩:=both'_ok h
    exact⟨srOf_ok h1,by rw [B.ok _ _ h2]⟩
   ·cases h⟩
structure SrOk (n:Int) (σ:Src):Prop where
 lo:0≤σ.pos
 hi:σ.pos≤n
 len:(σ.code.length:Int)≤1048576
 b : ∀x∈σ.code,0≤x∧x≤255
def nrB (σ:Src):Int:=if σ.pos<σ.code.length then σ.code.getD σ.pos.toNat 0 else 0
def nrS (σ:Src):Src:=⟨σ.code,σ.pos+1,stdU.add (stdU.add (stdU.mul σ.seed 6364136223846793005) (nrB σ)) 1442695040888963407⟩
def nrV (σ:Src):Int:=if σ.pos<σ.code.length then σ.code.getD σ.pos.toNat 0 else stdU.msk (stdU.shr (nrS σ).seed 40) 255
theorem code_b {n:Int} {σ:Src} (h:SrOk n σ) (k:Nat):0≤σ.code.getD k 0∧σ.code.getD k 0≤255:=by
 rw [List.getD_eq_getElem?_getD]
 cases hk:σ.code[k]? with
 | none=>exact⟨by decide,by decide⟩
 | some x=>exact h.b x (List.mem_of_getElem? hk)
theorem nr_bd {n:Int} {σ:Src} (h:SrOk n σ):0≤nrV σ∧nrV σ≤255:=by
 unfold nrV
 split
 ·exact code_b h _
 ·exact msk_bd (by decide) (by decide)
theorem nr_ok {n:Int} {σ:Src} (h:SrOk n σ):SrOk (n+1) (nrS σ):=⟨by have:=h.lo;show 0≤σ.pos+1;omega,by have:=h.hi;show σ.pos+1≤n+1;omega,h.len,h.b⟩
theorem SrOk.le {n m:Int} {σ:Src} (h:SrOk n σ) (hm:n≤m):SrOk m σ:=⟨h.lo,Int.le_trans h.hi hm,h.len,h.b⟩
def pkV (σ:Src) (n:Int):Int:=if n≤1 then 0 else if 200<n then (nrV σ*256+nrV (nrS σ)).tmod n else (nrV σ).tmod n
def pkS (σ:Src) (n:Int):Src:=if n≤1 then σ else if 200<n then nrS (nrS σ) else nrS σ
theorem pk_bd {m:Int} {σ:Src} (h:SrOk m σ) {n:Int} : 0≤pkV σ n∧(1≤n→pkV σ n<n)∧(n≤1→pkV σ n=0):=by
 have h1:=nr_bd h
 have h2:=nr_bd (nr_ok h)
 unfold pkV
 by_cases h3:n≤1
 ·rw [if_pos h3];exact⟨Int.le_refl 0,fun h=>by omega,fun _=>rfl⟩
 ·rw [if_neg h3]
  split
  ·rw [Int.tmod_eq_emod_of_nonneg (by omega)]
   exact⟨Int.emod_nonneg _ (by omega),fun _=>Int.emod_lt_of_pos _ (by omega),fun h=>absurd h h3⟩
  ·rw [Int.tmod_eq_emod_of_nonneg (by omega)]
   exact⟨Int.emod_nonneg _ (by omega),fun _=>Int.emod_lt_of_pos _ (by omega),fun h=>absurd h h3⟩
theorem pk_ok {m:Int} {σ:Src} (h:SrOk m σ) (n:Int):SrOk (m+2) (pkS σ n):=by
 unfold pkS
 split
 ·exact h.le (by omega)
 ·split
  ·exact (nr_ok (nr_ok h)).le (by omega)
  ·exact (nr_ok h).le (by omega)
theorem inu {x:Int} (h:0≤x∧x≤255):std.inK .u64 x:=⟨h.1,Int.le_trans h.2 (by decide)⟩
theorem in8 {x:Int} (h:0≤x∧x≤255):std.inK .i64 x:=in64 ⟨Int.le_trans (by decide) h.1,Int.le_trans h.2 (by decide)⟩
theorem nrB_t {σ:Src} (h:std.ltI σ.pos (std.len σ.code)=true):nrB σ=σ.code.getD σ.pos.toNat 0:=if_pos (lt_of h)
theorem nrB_f {σ:Src} (h:std.ltI σ.pos (std.len σ.code)=false):nrB σ=0:=if_neg (by have h1:(σ.code.length:Int)≤σ.pos:=ge_of h;omega)
theorem nrV_t {σ:Src} (h:std.ltI σ.pos (std.len σ.code)=true):nrV σ=σ.code.getD σ.pos.toNat 0:=if_pos (lt_of h)
theorem nrV_f {σ:Src} (h:std.ltI σ.pos (std.len σ.code)=false):nrV σ=stdU.msk (stdU.shr (nrS σ).seed 40) 255:=if_neg (by have h1:(σ.code.length:Int)≤σ.pos:=ge_of h;omega)
theorem pos_64 {σ:Src} (hp:SrOk 1000000000000 σ):std.inK .i64 (σ.pos+1):=in64 (by have:=hp.lo;have:=hp.hi;omega)
def sp_s_xl00Src_next (p:Pr):MSpec:=msp (mS a0) (fun (σ,_)=>SrOk 1000000000000 σ) (fun (σ,_)=>.i .i64 (nrV σ)) (fun (σ,_)=>srH (nrS σ))
theorem ok_s_xl00Src_next:MOk Tryz.prog 157 (sp_s_xl00Src_next std):=by
 refine MOk.go (c:=cxN std [] [] [] 1 (if true then some stdU else none) []) (cxN_ok .nil .nil .nil) mixed Tryz.func157 rfl rfl (by kernel_rfl) ?_
 rintro ⟨σ,_⟩ hp
 dsimp only at hp
 refine⟨rfl,?_⟩
 generalize hP:std=p,hB0:nrV=B0,hB1:nrS=B1,hB2:stdU=B2
 cbv
 repeat' first|refine fun (_:Unit)=>?_;cbv|refine fun (y:Nd _) hy=>?_;cbv|refine aI2 (fun h=>?_) (fun h=>?_)<;>cbv|refine aI2 ?_ ?_|refine Or.inl (fun (_:Unit)=>?_);cbv
 all_goals subst hP hB0 hB1 hB2
 all_goals try exact fin
 ·exact⟨hp.lo,lt_of h⟩
 ·exact in8 (code_b hp σ.pos.toNat)
 ·exact pos_64 hp
 ·exact inu (code_b hp σ.pos.toNat)
 ·show _=stdU.add (stdU.add (stdU.mul σ.seed 6364136223846793005) (nrB σ)) 1442695040888963407
  rw [nrB_t ‹_›];rfl
 ·rw [nrV_t ‹_›];rfl
 ·exact pos_64 hp
 ·exact inu ⟨by decide,by decide⟩
 ·exact in8 (msk_bd (b:=255) (by decide) (by decide))
 ·show _=stdU.add (stdU.add (stdU.mul σ.seed 6364136223846793005) (nrB σ)) 1442695040888963407
  rw [nrB_f ‹_›]
 ·rw [nrV_f ‹_›]
  show _=stdU.msk (stdU.shr (stdU.add (stdU.add (stdU.mul σ.seed 6364136223846793005) (nrB σ)) 1442695040888963407) 40) 255
  rw [nrB_f ‹_›]
theorem pk_a {σ:Src} {n:Int} (h:std.leI n 1=true):pkS σ n=σ∧pkV σ n=0:=by
 have h1:n≤1:=by simpa [std] using h
 exact⟨if_pos h1,if_pos h1⟩
theorem pk_b {σ:Src} {n:Int} (h:std.leI n 1=false) (k:std.ltI 200 n=true):pkS σ n=nrS (nrS σ)∧pkV σ n=(nrV σ*256+nrV (nrS σ)).tmod n:=by
 have h1 : ¬n≤1:=by simpa [std] using h
 have h2:200<n:=lt_of k
 exact⟨(if_neg h1).trans (if_pos h2),(if_neg h1).trans (if_pos h2)⟩
theorem pk_c {σ:Src} {n:Int} (h:std.leI n 1=false) (k:std.ltI 200 n=false):pkS σ n=nrS σ∧pkV σ n=(nrV σ).tmod n:=by
 have h1 : ¬n≤1:=by simpa [std] using h
 have h2 : ¬200<n:=Int.not_lt.2 (ge_of k)
 exact⟨(if_neg h1).trans (if_neg h2),(if_neg h1).trans (if_neg h2)⟩
theorem nr256 {m:Int} {σ:Src} (h:SrOk m σ):std.inK .i64 (nrV σ*256):=in64 (by have:=nr_bd h;omega)
theorem nr2 {m:Int} {σ:Src} (h:SrOk m σ):std.inK .i64 (nrV σ*256+nrV (nrS σ)):=in64 (by have:=nr_bd h;have:=nr_bd (nr_ok h);omega)
def sp_s_xl00Src_pick (p:Pr):MSpec:=msp (mS (a1 aI)) (fun (σ,n)=>SrOk 999999999000 σ) (fun (σ,n)=>.i .i64 (pkV σ n)) (fun (σ,n)=>srH (pkS σ n))
theorem ok_s_xl00Src_pick:MOk Tryz.prog 64 (sp_s_xl00Src_pick std):=by
 refine MOk.go (c:=cx std [] [(157,sp_s_xl00Src_next std)] 1) (cx_ok .nil (.cons ok_s_xl00Src_next .nil)) mixed Tryz.func64 rfl rfl (by kernel_rfl) ?_
 rintro ⟨σ,n⟩ hp
 dsimp only at hp
 refine⟨rfl,?_⟩
 unfold sp_s_xl00Src_next
 generalize hP:std=p,hB0:pkV=B0,hB1:pkS=B1,hB2:nrV=B2,hB3:nrS=B3
 cbv
 repeat' first|refine fun (_:Unit)=>?_;cbv|refine aI2 (fun h=>?_) (fun h=>?_)<;>cbv|refine aI2 ?_ ?_|refine Or.inl (fun (_:Unit)=>?_);cbv
 all_goals subst hP hB0 hB1 hB2 hB3
 all_goals try exact fin
 ·rw [(pk_a h).1]
 ·rw [(pk_a h).1]
 ·rw [(pk_a h).1]
 ·rw [(pk_a h).2]
 ·exact hp.le (by decide)
 ·exact nr256 hp
 ·exact (nr_ok hp).le (by decide)
 ·exact nr2 hp
 ·rw [(pk_b ‹_› ‹_›).1]
 ·rw [(pk_b ‹_› ‹_›).1]
 ·rw [(pk_b ‹_› ‹_›).1]
 ·rw [(pk_b ‹_› ‹_›).2];rfl
 ·rw [(pk_c ‹_› ‹_›).1]
 ·rw [(pk_c ‹_› ‹_›).1]
 ·rw [(pk_c ‹_› ‹_›).1]
 ·rw [(pk_c ‹_› ‹_›).2];rfl
def sp_s_xl00Src_one (p:Pr):MSpec:=msp (mS (a1 aI)) (fun (σ,n)=>SrOk 999999999000 σ) (fun (σ,n)=>.b (std.eqI (pkV σ n) 0)) (fun (σ,n)=>srH (pkS σ n))
theorem ok_s_xl00Src_one:MOk Tryz.prog 96 (sp_s_xl00Src_one std):=by
 refine MOk.go (c:=cx std [] [(64,sp_s_xl00Src_pick std)] 1) (cx_ok .nil (.cons ok_s_xl00Src_pick .nil)) mixed Tryz.func96 rfl rfl (by kernel_rfl) ?_
 rintro ⟨σ,n⟩ hp
 dsimp only at hp
 refine⟨rfl,?_⟩
 unfold sp_s_xl00Src_pick
 generalize hP:std=p,hB0:pkV=B0,hB1:pkS=B1
 cbv
 repeat' first|refine fun (_:Unit)=>?_;cbv|refine aI2 (fun h=>?_) (fun h=>?_)<;>cbv|refine aI2 ?_ ?_|refine Or.inl (fun (_:Unit)=>?_);cbv
 all_goals subst hP hB0 hB1
 all_goals try exact fin
def amV (σ:Src) (l:List Int):Int:=l.getD (pkV σ l.length).toNat 0
def txV (σ:Src) (l:List (List UInt8)):List UInt8:=l.getD (pkV σ l.length).toNat []
def splitA (c:UInt8) (cur:List UInt8):List UInt8→List (List UInt8)
 | []=>[cur]
 | x::r=>if x=c then cur::splitA c [] r else splitA c (cur++[x]) r
def splitS (c:UInt8) (s:List UInt8):List (List UInt8):=splitA c [] s
def numG (n:Int):List UInt8→Int
 | []=>n
 | x::r=>numG (10*n+((x.toNat:Int)-48)) r
def numV (s:List UInt8):Int:=numG 0 s
def digG:Nat→Nat→List UInt8
 | 0,_=>[]
 | k+1,n=>if n=0 then [] else digG k (n/10)++[UInt8.ofNat (48+n%10)]
def decS (n:Int):List UInt8:=if n=0 then [48] else digG 20 n.toNat
def wordT (t:TS) (w:List UInt8):TS:=match splitS 120 w with
 | [c::v,d]=>if c=63∧v=[] then { t with blanks:=numV d } else { t with letters:=t.letters++[c],values:=t.values++[numV v],counts:=t.counts++[numV d] }
 | _=>t
def smallS:List UInt8:=[97,49,120,51,32,101,49,120,51,32,110,50,120,50,32,114,50,120,50,32,115,49,120,50,32,116,50,120,50,32,63,120,49]
def smallT:TS:=⟨[97,101,110,114,115,116],[1,1,2,2,1,2],[3,3,2,2,2,2],1⟩
theorem small_ok:tsB smallT=true:=by decide +kernel
@[reducible] def someW:List (List UInt8):=
 [97,110]::
 [97,116]::
 [97,116,101]::
 [101,97,114]::
 [101,97,114,110]::
 [101,97,114,115]::
 [101,97,115,116]::
 [101,97,116]::
 [101,97,116,101,110]::
 [101,97,116,115]::
 [101,110]::
 [97,110,116]::
 [97,110,116,115]::
 [97,114,101]::
 [97,114,101,110,97]::
 [97,114,116]::
 [97,114,116,115]::
 [97,115]::
 [101,114]::
 [101,115]::
 [105,110]::
 [105,115]::
 [110,97]::
 [110,101]::
 [110,101,97,114]::
 [110,101,97,116]::
 [110,101,115,116]::
 [110,101,115,116,115]::
 [110,101,116]::
 [114,97,116]::
 [114,97,116,101]::
 [114,97,116,101,115]::
 [114,101]::
 [114,101,115,116]::
 [115,97,116]::
 [115,101,97]::
 [115,101,97,116]::
 [115,101,116]::
 [116,97]::
 [116,97,114]::
 [116,97,114,115]::
 [116,97,114,116]::
 [116,101,97]::
 [116,101,97,114]::
 [116,101,97,115]::
 [116,101,110]::
 [116,101,114,110]::
 [116,101,115,116]::
 [116,101,115,116,115]::
 [116,114,101,101,115]::
 [98,97,110,97,110,97]::
 [98,101,101]::
 [98,101,101,110]::
 [98,101,101,115]::
 [115,116,97,114]::
 [115,116,97,114,101]::
 [115,116,97,114,116]::
 [116,114,101,101]::
 [115,116,97,114,115]::
 [116,114,101,97,116,115]::[]
def cutW (l:List (List UInt8)) (t:List UInt8):Nat→Nat
 | 0=>0
 | k+1=>if Op.bytesLess t (l.getD k []) then cutW l t k else k+1
def insW (l:List (List UInt8)) (t:List UInt8):List (List UInt8):=
 if 0<cutW l t l.length∧l.getD (cutW l t l.length-1) []=t then l else l.take (cutW l t l.length)++[t]++l.drop (cutW l t l.length)
def makeW (l:List (List UInt8)):List (List UInt8):=l.foldl insW []
def allW:List (List UInt8):=makeW someW
theorem all_lex:lexB allW=true:=by decide +kernel
def minI (a b:Int):Int:=if a<b then a else b
def maxI (a b:Int):Int:=if a>b then a else b
def stdA (n r c:Int):Int:=minI (minI r (n-1-r)) (minI c (n-1-c))
def stdB (n r c:Int):Int:=maxI (minI r (n-1-r)) (minI c (n-1-c))
def stdV (n r c:Int):UInt8:=
 if stdA n r c=0∧(stdB n r c=0∨stdB n r c=(n-1)/2) then 116 else if stdA n r c=stdB n r c then 100 else if (stdA n r c+stdB n r c)%6=4 then 51 else if (stdA n r c+stdB n r c)%4=3 then 50 else 46
def stdP (n:Int):List UInt8:=((List.range n.toNat).map fun r:Nat=>(List.range n.toNat).map fun c:Nat=>stdV n r c).flatten
def stdBd (n:Int):Bd:=⟨n,stdP n,List.replicate (n*n).toNat 46⟩
theorem std_ok5:bdB (stdBd 5)=true∧lettersS (stdBd 5)=[]:=by decide +kernel
theorem std_ok7:bdB (stdBd 7)=true∧lettersS (stdBd 7)=[]:=by decide +kernel
theorem std_ok9:bdB (stdBd 9)=true∧lettersS (stdBd 9)=[]:=by decide +kernel
def aenT:TS:=⟨[97,101,110,115,116],[1,1,2,1,2],[4,5,3,4,4],2⟩
def aerT:TS:=⟨[97,101,110,114,115,116],[1,1,2,2,1,2],[4,6,4,4,5,5],2⟩
theorem aen_ok:tsB aenT=true:=by decide +kernel
theorem aer_ok:tsB aerT=true:=by decide +kernel
theorem aen_len:(allT aenT).length =22:=by decide +kernel
theorem aer_len:(allT aerT).length =30:=by decide +kernel
theorem small_len:(allT smallT).length =15:=by decide +kernel
def waysL:List UInt8→List UInt8→List (List UInt8)
 | _,[]=>[[]]
 | p,c::r=>(if takeB p [63] then (waysL (takeS p [63]) r).map (fun x=>(c-97+65)::x) else [])++(if takeB p [c] then (waysL (takeS p [c]) r).map (fun x=>c::x) else [])
theorem take1 (c:UInt8) : ∀a:List UInt8,takeGo a [c]=if c∈a then (a.erase c,[]) else (a,[c])
 | []=>rfl
 | x::a=>by
   by_cases h:c=x
   ·subst h
    rw [take_eq,if_pos (List.mem_cons_self ..),List.erase_cons_head]
    have:=takeGo_nil a
    refine Prod.ext ?_ this
    show (takeGo a []).1=a
    induction a with
    | nil=>rfl
    | cons y a ih=>rw [take_nil];show y::(takeGo a []).1=y::a;rw [ih (takeGo_nil a)]
   ·rw [take_ne h,take1 c a]
    by_cases h2:c∈a
    ·rw [if_pos h2,if_pos (List.mem_cons_of_mem _ h2),List.erase_cons_tail (by simpa using Ne.symm h)]
    ·rw [if_neg h2,if_neg (by simp [h,h2])]
theorem takeB1 (a:List UInt8) (c:UInt8):takeB a [c]=decide (c∈a):=by
 unfold takeB
 rw [take1]
 split<;>rename_i h
 ·rw [decide_eq_true h];rfl
 ·rw [decide_eq_false h];rfl
theorem takeS1 (a:List UInt8) (c:UInt8):takeS a [c]=a.erase c:=by
 unfold takeS
 rw [take1]
 split<;>rename_i h
 ·rfl
 ·rw [List.erase_of_not_mem h]
def needL:List UInt8→List UInt8→Nat
 | _,[]=>0
 | l,c::r=>if takeB l [c] then needL (takeS l [c]) r else needL l r+1
def blnN (s:List UInt8):Nat:=s.count 63
def mkB (p w:List UInt8):Bool:=decide (needL p w≤blnN p)
theorem need_blank : ∀(r p:List UInt8),(63:UInt8) ∉ r→needL (p.erase 63) r=needL p r
 | [],_,_=>rfl
 | c::r,p,h=>by
   have hc:c≠63:=fun e=>h (e ▸ List.mem_cons_self ..)
   have hr:(63:UInt8) ∉ r:=fun e=>h (List.mem_cons_of_mem _ e)
   have hm:(c∈p.erase 63)=(c∈p):=by rw [eq_iff_iff];exact List.mem_erase_of_ne hc
   rw [needL,needL,takeB1,takeB1,takeS1,takeS1]
   by_cases h2:c∈p
   ·rw [decide_eq_true h2,decide_eq_true (hm ▸ h2),if_pos rfl,if_pos rfl,List.erase_comm,need_blank r _ hr]
   ·rw [decide_eq_false h2,decide_eq_false (hm ▸ h2),if_neg (by decide),if_neg (by decide),need_blank r _ hr]
theorem ways_some : ∀(r p:List UInt8),(63:UInt8) ∉ r→needL p r≤blnN p→waysL p r≠[]
 | [],_,_,_=>by rw [waysL];exact List.cons_ne_nil _ _
 | c::r,p,h,hn=>by
   have hc:c≠63:=fun e=>h (e ▸ List.mem_cons_self ..)
   have hr:(63:UInt8) ∉ r:=fun e=>h (List.mem_cons_of_mem _ e)
   rw [needL,takeB1,takeS1] at hn
   rw [waysL,takeB1,takeS1,takeB1,takeS1]
   by_cases h2:c∈p
   ·rw [decide_eq_true h2,if_pos rfl] at hn
    have h3:blnN (p.erase c)=blnN p:=by unfold blnN;exact List.count_erase_of_ne (Ne.symm hc)
    have ih:=ways_some r (p.erase c) hr (by rw [h3];exact hn)
    rw [decide_eq_true h2]
    intro e
    have e2:=(List.append_eq_nil_iff.1 e).2
    simp only [if_true,List.map_eq_nil_iff] at e2
    exact ih e2
   ·rw [decide_eq_false h2,if_neg (by decide)] at hn
    have h4:(63:UInt8)∈p:=by
     refine List.count_pos_iff.1 ?_
     unfold blnN at hn
     omega
    have h3:blnN (p.erase 63)=blnN p-1:=by unfold blnN;rw [List.count_erase_self]
    have ih:=ways_some r (p.erase 63) hr (by rw [h3,need_blank r p hr];omega)
    rw [decide_eq_true h4]
    intro e
    have e2:=(List.append_eq_nil_iff.1 e).1
    simp only [if_true,List.map_eq_nil_iff] at e2
    exact ih e2
theorem ways_len : ∀(r p:List UInt8),(waysL p r).length ≤2 ^ r.length
 | [],_=>by rw [waysL];exact Nat.le_refl _
 | c::r,p=>by
   have h1:=ways_len r (takeS p [63])
   have h2:=ways_len r (takeS p [c])
   rw [waysL,List.length_append,List.length_cons,Nat.pow_succ]
   have e1:(if takeB p [63] then (waysL (takeS p [63]) r).map (fun x=>(c-97+65)::x) else []).length ≤2 ^ r.length:=by
    split
    ·rw [List.length_map];exact h1
    ·exact Nat.zero_le _
   have e2:(if takeB p [c] then (waysL (takeS p [c]) r).map (fun x=>c::x) else []).length ≤2 ^ r.length:=by
    split
    ·rw [List.length_map];exact h2
    ·exact Nat.zero_le _
   omega
theorem ways_each : ∀(r p:List UInt8),∀x∈waysL p r,x.length=r.length
 | [],p,x,h=>by rw [waysL] at h;rw [List.mem_singleton.1 h]
 | c::r,p,x,h=>by
   rw [waysL,List.mem_append] at h
   rcases h with h | h
   all_goals
    split at h
    ·obtain⟨y,hy,rfl⟩:=List.mem_map.1 h
     rw [List.length_cons,List.length_cons,ways_each r _ y hy]
    ·cases h
def fromW (ws:List (List UInt8)) (p:List UInt8):List (List UInt8):=ws.filter (mkB p)
theorem from_can {ws:List (List UInt8)} {p x:List UInt8} (h:x∈fromW ws p):x∈ws∧needL p x≤blnN p:=by
 obtain⟨h1,h2⟩:=List.mem_filter.1 h
 exact⟨h1,of_decide_eq_true h2⟩
def cntI (s:List UInt8) (c:UInt8):Int:=(s.count c:Nat)
theorem cnt_step {s:List UInt8} {c:UInt8} {k:Int} (h0:0≤k) (h:k<s.length):cntI (s.drop k.toNat) c=(if s.getD k.toNat 0=c then 1 else 0)+cntI (s.drop (k+1).toNat) c:=by
 unfold cntI
 rw [dc h0 h 0,List.count_cons]
 by_cases e:s.getD k.toNat 0=c
 ·rw [if_pos e,if_pos (by simpa using e)];omega
 ·rw [if_neg e,if_neg (by simpa using e)];omega
theorem cnt_end {s:List UInt8} {c:UInt8} {k:Int} (h:(s.length:Int)≤k):cntI (s.drop k.toNat) c=0:=by
 unfold cntI
 rw [dn h];rfl
theorem byte_t {s:List UInt8} {k n:Int} (h:std.eqI (std.byte s k) n=true) (hn:0≤n∧n≤255):s.getD k.toNat 0=UInt8.ofNat n.toNat:=by
 have h1:((s.getD k.toNat 0).toNat : Int)=n:=beq_iff_eq.1 h
 have h2:=(s.getD k.toNat 0).toNat_lt
 refine UInt8.toNat_inj.1 ?_
 rw [UInt8.toNat_ofNat']
 omega
theorem byte_f {s:List UInt8} {k n:Int} (h:std.eqI (std.byte s k) n=false) (hn:0≤n∧n≤255) : ¬s.getD k.toNat 0=UInt8.ofNat n.toNat:=by
 intro e
 have h1 : ¬((s.getD k.toNat 0).toNat : Int)=n:=fun e=>by rw [show std.eqI (std.byte s k) n=true from beq_iff_eq.2 e] at h;cases h
 rw [e,UInt8.toNat_ofNat'] at h1
 omega
def sp_s_l17Count (p:Pr):FSpec:=fsp (ac aS (a1 aC)) (fun (s,n)=>p.ltM (p.lenS s)∧p.inK .u8 n) (fun (s,n)=>.i .i64 (cntI s (u8 n)))
theorem ok_s_l17Count:FOk Tryz.prog 279 (sp_s_l17Count std):=by
 refine FOk.go (c:=cx std [] [] 0) (cx_ok .nil .nil) mixed Tryz.func279 rfl rfl rfl (by kernel_rfl) ?_
 rintro ⟨s,n⟩ hp
 dsimp only at hp
 refine⟨rfl,?_⟩
 obtain⟨H,hH⟩ : ∃H:Hd (Int×Int),H=⟨fun (m,k)=>0≤k∧k≤s.length∧0≤m∧m≤k∧cntI s (u8 n)=m+cntI (s.drop k.toNat) (u8 n),fun (m,k)=>(s.length-k).toNat,(· < ·)⟩:=⟨_,rfl⟩
 have hl:=hdl hH
 generalize hP:std=p,hB0:cntI=B0,hB1:u8=B1
 cbv
 repeat' first|refine fun (_:Unit)=>?_;cbv|refine Or.inr ⟨7,[],[.s 5 (.i .i64),.s 6 (.i .i64)],[],[],H,rfl,hl,?_,fun ((m,k):Int×Int) hk=>?_⟩<;>cbv|refine aI2 (fun h=>?_) (fun h=>?_)<;>cbv|refine aI2 ?_ ?_
 all_goals subst hP hB0 hB1 hH
 all_goals clear hl
 all_goals try dsimp only at hk
 all_goals try dsimp only
 all_goals try exact fin
 all_goals obtain⟨q0,q1,q2,q3,q4⟩:=hk
 all_goals have hn:0≤n∧n≤255:=hp.2
 all_goals have hu:u8 n=UInt8.ofNat n.toNat:=rfl
 all_goals try (have hlt:k<(s.length:Int):=lt_of ‹_›)
 ·have e:=byte_t h hn
  refine⟨by show 0≤k+1;omega,by show k+1≤(s.length:Int);omega,by show 0≤m+1;omega,by show m+1≤k+1;omega,?_⟩
  show _=m+1+cntI (s.drop (k+1).toNat) (u8 n)
  rw [q4,cnt_step q0 hlt,if_pos (by rw [hu];exact e)];omega
 ·have e:=byte_f h hn
  refine⟨by show 0≤k+1;omega,by show k+1≤(s.length:Int);omega,q2,by show m≤k+1;omega,?_⟩
  show _=m+cntI (s.drop (k+1).toNat) (u8 n)
  rw [q4,cnt_step q0 hlt,if_neg (by rw [hu];exact e)];omega
 ·rw [q4,cnt_end (ge_of h)];omega
def blnI (s:List UInt8):Int:=(blnN s:Nat)
theorem bln_c (s:List UInt8):blnI s=cntI s 63:=rfl
def sp_s_l03Blanks (p:Pr):FSpec:=fsp (a1 aS) (fun s=>p.ltM (p.lenS s)) (fun s=>.i .i64 (blnI s))
theorem ok_s_l03Blanks:FOk Tryz.prog 300 (sp_s_l03Blanks std):=by
 refine FOk.go (c:=cx std [] [] 0) (cx_ok .nil .nil) mixed Tryz.func300 rfl rfl rfl (by kernel_rfl) ?_
 rintro s hp
 refine⟨rfl,?_⟩
 obtain⟨H,hH⟩ : ∃H:Hd (Int×Int),H=⟨fun (m,k)=>0≤k∧k≤s.length∧0≤m∧m≤k∧blnI s=m+blnI (s.drop k.toNat),fun (m,k)=>(s.length-k).toNat,(· < ·)⟩:=⟨_,rfl⟩
 have hl:=hdl hH
 generalize hP:std=p,hB0:blnI=B0
 cbv
 repeat' first|refine fun (_:Unit)=>?_;cbv|refine Or.inr ⟨5,[],[.s 3 (.i .i64),.s 4 (.i .i64)],[],[],H,rfl,hl,?_,fun ((m,k):Int×Int) hk=>?_⟩<;>cbv|refine aI2 (fun h=>?_) (fun h=>?_)<;>cbv|refine aI2 ?_ ?_
 all_goals subst hP hB0 hH
 all_goals clear hl
 all_goals try dsimp only at hk
 all_goals try dsimp only
 all_goals try exact fin
 all_goals obtain⟨q0,q1,q2,q3,q4⟩:=hk
 all_goals simp only [bln_c] at q4 ⊢
 all_goals try (have hlt:k<(s.length:Int):=lt_of ‹_›)
 ·have e:=byte_t h (by decide)
  refine⟨by show 0≤k+1;omega,by show k+1≤(s.length:Int);omega,by show 0≤m+1;omega,by show m+1≤k+1;omega,?_⟩
  show _=m+1+cntI (s.drop (k+1).toNat) 63
  rw [q4,cnt_step q0 hlt,if_pos (show s.getD k.toNat 0=63 from e)];omega
 ·have e:=byte_f h (by decide)
  refine⟨by show 0≤k+1;omega,by show k+1≤(s.length:Int);omega,q2,by show m≤k+1;omega,?_⟩
  show _=m+cntI (s.drop (k+1).toNat) 63
  rw [q4,cnt_step q0 hlt,if_neg (show ¬s.getD k.toNat 0=63 from e)];omega
 ·rw [q4,cnt_end (ge_of h)];omega
def needI (p w:List UInt8):Int:=(needL p w:Nat)
theorem one_c {q:List UInt8} {k:Int} (h0:0≤k) (h:k<q.length):std.drp (std.tak q (std.add k 1)) k=[q.getD k.toNat 0]:=by
 show (q.take (k+1).toNat).drop k.toNat=_
 rw [tk h0 h 0,List.drop_append_of_le_length (by rw [List.length_take];omega),List.drop_of_length_le (by rw [List.length_take];omega)];rfl
theorem need_step {l q:List UInt8} {k:Int} (h0:0≤k) (h:k<q.length):needI l (q.drop k.toNat)=if takeB l [q.getD k.toNat 0] then needI (takeS l [q.getD k.toNat 0]) (q.drop (k+1).toNat) else 1+needI l (q.drop (k+1).toNat):=by
 unfold needI
 rw [dc h0 h 0,needL]
 split<;>omega
theorem takeS_le (l:List UInt8) (c:UInt8):(takeS l [c]).length ≤l.length:=by
 rw [takeS1];exact List.length_erase_le
def sp_s_l03Need (p:Pr):FSpec:=fsp (ac aS (a1 aS)) (fun (s,q)=>p.ltM (p.lenS s)∧p.ltM (p.lenS q)) (fun (s,q)=>.i .i64 (needI s q))
theorem ok_s_l03Need:FOk Tryz.prog 299 (sp_s_l03Need std):=by
 refine FOk.go (c:=cx std [(126,sp_s_l03Take std)] [] 0) (cx_ok (.cons ok_s_l03Take .nil) .nil) mixed Tryz.func299 rfl rfl rfl (by kernel_rfl) ?_
 rintro ⟨s,q⟩ hp
 dsimp only at hp
 refine⟨rfl,?_⟩
 unfold sp_s_l03Take
 obtain⟨H,hH⟩ : ∃H:Hd (List UInt8×Int×Int),H=⟨fun (l,m,k)=>0≤k∧k≤q.length∧0≤m∧m≤k∧l.length≤s.length∧needI s q=m+needI l (q.drop k.toNat),fun (l,m,k)=>(q.length-k).toNat,(· < ·)⟩:=⟨_,rfl⟩
 have hl:=hdl hH
 generalize hP:std=p,hB0:needI=B0,hB1:takeS=B1,hB2:takeB=B2
 cbv
 repeat' first|refine fun (_:Unit)=>?_;cbv|refine Or.inr ⟨11,[],[.s 5 .s,.s 6 (.i .i64),.s 7 (.i .i64)],[],[],H,rfl,hl,?_,fun ((l,m,k):List UInt8×Int×Int) hk=>?_⟩<;>cbv|refine aI2 (fun h=>?_) (fun h=>?_)<;>cbv|refine aI2 ?_ ?_
 all_goals subst hP hB0 hB1 hB2 hH
 all_goals clear hl
 all_goals try dsimp only at hk
 all_goals try dsimp only
 all_goals try exact fin
 all_goals obtain⟨q0,q1,q2,q3,q4,q5⟩:=hk
 all_goals try (have hlt:k<(q.length:Int):=lt_of ‹_›)
 ·rw [one_c q0 hlt] at h ⊢
  refine⟨by show 0≤k+1;omega,by show k+1≤(q.length:Int);omega,q2,by show m≤k+1;omega,Nat.le_trans (takeS_le _ _) q4,?_⟩
  show _=m+needI _ (q.drop (k+1).toNat)
  rw [q5,need_step q0 hlt,if_pos h]
 ·rw [one_c q0 hlt] at h
  refine⟨by show 0≤k+1;omega,by show k+1≤(q.length:Int);omega,by show 0≤m+1;omega,by show m+1≤k+1;omega,q4,?_⟩
  show _=m+1+needI _ (q.drop (k+1).toNat)
  rw [q5,need_step q0 hlt,if_neg (by rw [h];decide)];omega
 ·rw [q5,dn (ge_of h)]
  show m=m+((needL l []:Nat):Int)
  rw [needL];omega
def sp_s_l03Can (p:Pr):FSpec:=fsp (ac aS (a1 aS)) (fun (s,q)=>p.ltM (p.lenS s)∧p.ltM (p.lenS q)) (fun (s,q)=>.b (mkB s q))
theorem ok_s_l03Can:FOk Tryz.prog 255 (sp_s_l03Can std):=by
 refine FOk.go (c:=cx std [(299,sp_s_l03Need std),(300,sp_s_l03Blanks std)] [] 0) (cx_ok (.cons ok_s_l03Need (.cons ok_s_l03Blanks .nil)) .nil) mixed Tryz.func255 rfl rfl rfl (by kernel_rfl) ?_
 rintro ⟨s,q⟩ hp
 dsimp only at hp
 refine⟨rfl,?_⟩
 unfold sp_s_l03Need sp_s_l03Blanks
 generalize hP:std=p,hB0:mkB=B0,hB1:needI=B1,hB2:blnI=B2
 cbv
 repeat' first|refine fun (_:Unit)=>?_;cbv|refine aI2 (fun h=>?_) (fun h=>?_)<;>cbv|refine aI2 ?_ ?_|refine Or.inl (fun (_:Unit)=>?_);cbv
 all_goals subst hP hB0 hB1 hB2
 all_goals try exact fin
 ·show decide (needI s q≤blnI s)=decide (needL s q≤blnN s)
  unfold needI blnI
  rw [Bool.eq_iff_iff,decide_eq_true_eq,decide_eq_true_eq];omega
structure DfP (ws:List (List UInt8)) (q:List UInt8):Prop where
 w:WsP ws
 n:(q.length:Int)≤1048576
 lx:lexB ws=true
 pl:pileB q=true
section
variable {ws l:List (List UInt8)} {q t:List UInt8} {k:Int}
theorem df1 (h:DfP ws q) (h2:lexB ws=false):False:=by rw [h.lx] at h2;cases h2
theorem df2 (h:DfP ws q) (h2:pileB q=false):False:=by rw [h.pl] at h2;cases h2
theorem from_step (h0:0≤k) (h:k<ws.length):(ws.take (k+1).toNat).filter (mkB q)=(ws.take k.toNat).filter (mkB q)++if mkB q (ws.getD k.toNat []) then [ws.getD k.toNat []] else []:=by
 rw [tk h0 h [],List.filter_append]
 congr 1
 rw [List.filter_cons]
 split<;>rfl
theorem from_le2:((ws.take k.toNat).filter (mkB q)).length ≤k.toNat:=Nat.le_trans (List.length_filter_le _ _) (by rw [List.length_take];omega)
theorem cut_go (h0:0<k) (h:Op.bytesLess t (l.getD (k-1).toNat [])=true):cutW l t k.toNat=cutW l t (k-1).toNat :=by
 obtain⟨n,rfl⟩ : ∃n:Nat,k=(n:Int)+1:=⟨(k-1).toNat,by omega⟩
 rw [show ((n:Int)+1-1).toNat =n by omega] at h ⊢
 rw [show ((n:Int)+1).toNat =n+1 by omega,cutW,if_pos h]
theorem cut_st (h0:0<k) (h:Op.bytesLess t (l.getD (k-1).toNat [])=false):cutW l t k.toNat=k.toNat:=by
 obtain⟨n,rfl⟩ : ∃n:Nat,k=(n:Int)+1:=⟨(k-1).toNat,by omega⟩
 rw [show ((n:Int)+1-1).toNat =n by omega] at h
 rw [show ((n:Int)+1).toNat =n+1 by omega,cutW,if_neg (by rw [h];decide)]
theorem ins_n (e:cutW l t l.length=k.toNat) (h:0<k→¬l.getD (k-1).toNat []=t):l.take k.toNat++[t]++l.drop k.toNat=insW l t:=by
 unfold insW
 rw [e,if_neg]
 rintro ⟨h1,h2⟩
 rw [show k.toNat-1=(k-1).toNat by omega] at h2
 exact h (by omega) h2
end
def sp_s_WordsFrom (p:Pr):FSpec:=fsp (ac (aA aLex) (a1 aS)) (fun (ws,q)=>DfP ws q) (fun (ws,q)=>.tup [.osl 0,.i .i64 0]) (fun (ws,q)=>[(0,.own [.s] (fromW ws q) 9)])
theorem ok_s_WordsFrom:FOk Tryz.prog 199 (sp_s_WordsFrom std):=by
 refine FOk.go (c:=cx std [(172,sp_s_l05Ok std),(106,sp_s_l03Pile std),(255,sp_s_l03Can std)] [] 0) (cx_ok (.cons ok_s_l05Ok (.cons ok_s_l03Pile (.cons ok_s_l03Can .nil))) .nil) mixed Tryz.func199 rfl rfl rfl (by kernel_rfl) ?_
 rintro ⟨ws,q⟩ hp
 dsimp only at hp
 refine⟨rfl,?_⟩
 unfold sp_s_l05Ok sp_s_l03Pile sp_s_l03Can
 obtain⟨H,hH⟩ : ∃H:Hd (Int×List (List UInt8)),H=⟨fun (k,L)=>0≤k∧k≤ws.length∧L=(ws.take k.toNat).filter (mkB q),fun (k,L)=>(ws.length-k).toNat,(· < ·)⟩:=⟨_,rfl⟩
 have hl:=hdl hH
 generalize hP:std=p,hB0:fromW=B0,hB1:lexB=B1,hB2:pileB=B2,hB3:mkB=B3
 cbv
 repeat' first|refine fun (_:Unit)=>?_;cbv|refine Or.inr ⟨14,[],[.s 7 (.i .i64),.o 1 [.s]],[.s 6],[],H,rfl,hl,?_,fun ((k,L):Int×List (List UInt8)) hk=>?_⟩<;>cbv|refine aI2 (fun h=>?_) (fun h=>?_)<;>cbv|refine aI2 ?_ ?_
 all_goals subst hP hB0 hB1 hB2 hB3 hH
 all_goals clear hl
 all_goals try dsimp only at hk
 all_goals try dsimp only
 all_goals try (exfalso;exact df1 hp ‹_›)
 all_goals try (exfalso;exact df2 hp ‹_›)
 all_goals try exact fin
 all_goals have hw:=hp.w
 all_goals have hn:=hw.len
 all_goals have hq:(q.length:Int)≤274877906944:=(by have:=hp.n;omega)
 ·exact hq
 all_goals obtain⟨q0,q1,q2⟩:=hk
 ·exact hq
 all_goals try (have hlt:k<(ws.length:Int):=lt_of ‹_›)
 ·show ((ws.getD k.toNat []).length : Int)≤274877906944
  have:=hw.all k.toNat;omega
 ·have h1:L.length≤k.toNat:=by rw [q2];exact from_le2
  show (L.length:Int)+1≤274877906944
  omega
 ·exact in64 (by show _≤k+1∧k+1≤_;omega)
 ·refine⟨by show 0≤k+1;omega,by show k+1≤(ws.length:Int);omega,?_⟩
  show L++[ws.getD k.toNat []]=(ws.take (k+1).toNat).filter (mkB q)
  rw [from_step q0 hlt,if_pos (show mkB q (ws.getD k.toNat [])=true from h),q2]
 ·exact in64 (by show _≤k+1∧k+1≤_;omega)
 ·refine⟨by show 0≤k+1;omega,by show k+1≤(ws.length:Int);omega,?_⟩
  show L=(ws.take (k+1).toNat).filter (mkB q)
  rw [from_step q0 hlt,if_neg (by rw [show mkB q (ws.getD k.toNat [])=false from h];decide),q2,List.append_nil]
 ·refine congrArg (fun z=>Ob.own [.s] z 9) ?_
  rw [q2,tk_all (ge_of ‹_›)];rfl
def newB (l:List (List UInt8)) (t:List UInt8):Bool:=!(decide (0<cutW l t l.length)&&(l.getD (cutW l t l.length-1) []==t))
structure InP (l:List (List UInt8)) (t:List UInt8):Prop where
 w:WsP l
 m:l.length≤1000
 n:(t.length:Int)≤274877906944
 f:newB l t=true
theorem in1 {l:List (List UInt8)} {t:List UInt8} {k:Int} (hp:InP l t) (q2:cutW l t l.length=cutW l t k.toNat) (h0:std.ltI 0 k=true) (hs:Op.bytesLess t (l.getD (k-1).toNat [])=false) (h:std.eqS (l.getD (k-1).toNat []) t=true):False:=by
 have h0:0<k:=lt_of h0
 have hc:=q2.trans (cut_st h0 hs)
 have h1:=hp.f
 unfold newB at h1
 rw [hc,show k.toNat-1=(k-1).toNat by omega,decide_eq_true (by omega),show (l.getD (k-1).toNat []==t)=true from h] at h1
 cases h1
theorem ltM_z (l:List (List UInt8)) (h:(l.length:Int)≤274877906944):std.ltM (std.add (std.len ([]:List (List UInt8))) (std.len l)):=by
 have e:std.add (std.len ([]:List (List UInt8))) (std.len l)=(l.length:Int):=by show ((0:Nat):Int)+(l.length:Int)=_;omega
 rw [e];exact h
theorem ltM_o (l:List (List UInt8)) (t:List UInt8) (h:l.length≤1000):std.ltM (std.add (std.len (std.snoc [] l)) (std.len [t])):=by
 have e:std.add (std.len (std.snoc [] l)) (std.len [t])=(l.length:Int)+1:=rfl
 rw [e]
 show (l.length:Int)+1≤274877906944
 omega
def sp_s_l03Insert (p:Pr):FSpec:=fsp (ac aW (a1 aS)) (fun (l,t)=>InP l t) (fun (l,t)=>.osl 0) (fun (l,t)=>[(0,.own [.s] (insW l t) 9)])
theorem ok_s_l03Insert:FOk Tryz.prog 287 (sp_s_l03Insert std):=by
 refine FOk.go (c:=cx std [] [] 0) (cx_ok .nil .nil) mixed Tryz.func287 rfl rfl rfl (by kernel_rfl) ?_
 rintro ⟨l,t⟩ hp
 dsimp only at hp
 refine⟨rfl,?_⟩
 obtain⟨H,hH⟩ : ∃H:Hd (Int),H=⟨fun k=>0≤k∧k≤l.length∧cutW l t l.length=cutW l t k.toNat,fun k=>k.toNat,(· < ·)⟩:=⟨_,rfl⟩
 have hl:=hdl hH
 generalize hP:std=p,hB0:insW=B0,hB1:cutW=B1
 cbv
 repeat' first|refine fun (_:Unit)=>?_;cbv|refine Or.inr ⟨9,[],[.s 5 (.i .i64)],[],[],H,rfl,hl,?_,fun (k:Int) hk=>?_⟩<;>cbv|refine aI2 (fun h=>?_) (fun h=>?_)<;>cbv|refine aI2 ?_ ?_
 all_goals subst hP hB0 hB1 hH
 all_goals clear hl
 all_goals try dsimp only at hk
 all_goals try dsimp only
 all_goals try (exfalso;exact in1 hp hk.2.2 ‹_› ‹_› ‹_›)
 all_goals try exact fin
 all_goals have hn:=hp.m
 all_goals obtain⟨q0,q1,q2⟩:=hk
 all_goals have q1:k≤(l.length:Int):=q1
 all_goals have hm:std.inK .i64 (k-1):=in64 (by omega)
 ·exact hm
 ·exact hm
 all_goals have ht:((l.take k.toNat).length : Int)≤274877906944:=(by rw [List.length_take];omega)
 ·have h0:0<k:=lt_of ‹_›
  refine⟨by show 0≤k-1;omega,by show k-1≤(l.length:Int);omega,?_⟩
  show _=cutW l t (k-1).toNat
  rw [q2,cut_go h0 h]
 ·exact hm
 all_goals try (have h0:0<k:=lt_of ‹_›)
 all_goals try (have hs:Op.bytesLess t (l.getD (k-1).toNat [])=false:=‹_›)
 all_goals try (have hc:=q2.trans (cut_st h0 hs))
 all_goals try (have h0 : ¬0<k:=(by have h3:k≤0:=ge_of ‹_›;omega))
 all_goals try (have hc:cutW l t l.length=k.toNat:=(by rw [q2,show k.toNat=0 by omega];rfl))
 ·exact ltM_z (l.take k.toNat) ht
 ·exact ltM_o (l.take k.toNat) t (by rw [List.length_take];omega)
 ·show ((([]++l.take k.toNat)++[t]).length : Int)+((l.drop k.toNat).length : Int)≤274877906944
  rw [List.nil_append,List.length_append,List.length_take,List.length_drop,List.length_singleton];omega
 ·exact congrArg (fun z=>Ob.own [.s] z 9) (ins_n hc fun _ e=>beq_eq_false_iff_ne.1 h e)
 ·show ((([]++l.take k.toNat)++[t]).length : Int)+((l.drop k.toNat).length : Int)≤274877906944
  rw [List.nil_append,List.length_append,List.length_take,List.length_drop,List.length_singleton];omega
 ·exact congrArg (fun z=>Ob.own [.s] z 9) (ins_n hc fun h3=>absurd h3 h0)
def sp_s_l05Some (p:Pr):FSpec:=fsp a0 (fun _=>True) (fun _=>.osl 0) (fun _=>[(0,.own [.s] someW 9)])
theorem ok_s_l05Some:FOk Tryz.prog 234 (sp_s_l05Some std):=by
 refine FOk.go (c:=cx std [] [] 0) (cx_ok .nil .nil) mixed Tryz.func234 rfl rfl rfl (by kernel_rfl) ?_
 rintro _ hp
 refine⟨rfl,?_⟩
 generalize hP:std=p
 cbv
 repeat' first|refine fun (_:Unit)=>?_;cbv|refine aI2 (fun h=>?_) (fun h=>?_)<;>cbv|refine aI2 ?_ ?_|refine Or.inl (fun (_:Unit)=>?_);cbv
 all_goals subst hP
 all_goals try exact fin
theorem make_step {l:List (List UInt8)} {k:Int} (h0:0≤k) (h:k<l.length):makeW (l.take (k+1).toNat)=insW (makeW (l.take k.toNat)) (l.getD k.toNat []):=by
 unfold makeW
 rw [tk h0 h [],List.foldl_append];rfl
theorem ins_len (l:List (List UInt8)) (t:List UInt8):(insW l t).length ≤l.length+1:=by
 unfold insW
 split
 ·omega
 ·rw [List.length_append,List.length_append,List.length_take,List.length_drop,List.length_singleton];omega
theorem ins_mem {l:List (List UInt8)} {t x:List UInt8} (h:x∈insW l t):x∈l∨x=t:=by
 unfold insW at h
 split at h
 ·exact .inl h
 ·rcases List.mem_append.1 h with h | h
  ·rcases List.mem_append.1 h with h | h
   ·exact .inl (List.mem_of_mem_take h)
   ·exact .inr (List.mem_singleton.1 h)
  ·exact .inl (List.mem_of_mem_drop h)
theorem fold_len : ∀(m l:List (List UInt8)),(m.foldl insW l).length ≤l.length+m.length
 | [],l=>Nat.le_refl _
 | t::m,l=>by
   have h1:=fold_len m (insW l t)
   have h2:=ins_len l t
   rw [List.foldl_cons,List.length_cons];omega
theorem fold_mem : ∀(m l:List (List UInt8)) (x:List UInt8),x∈m.foldl insW l→x∈l∨x∈m
 | [],l,x,h=>.inl h
 | t::m,l,x,h=>by
   rcases fold_mem m (insW l t) x h with h | h
   ·rcases ins_mem h with h | h
    ·exact .inl h
    ·exact .inr (h ▸ List.mem_cons_self ..)
   ·exact .inr (List.mem_cons_of_mem _ h)
theorem make_wsp {l:List (List UInt8)} (h:WsP l) (n:Nat):WsP (makeW (l.take n)):=by
 refine⟨?_,fun k=>?_⟩
 ·have h1:=fold_len (l.take n) []
  have h2:=h.len
  rw [List.length_take] at h1
  unfold makeW
  have h3:([]:List (List UInt8)).length =0:=rfl
  omega
 ·rw [List.getD_eq_getElem?_getD]
  cases hk:(makeW (l.take n))[k]? with
  | none=>exact Nat.zero_le _
  | some x=>
    rcases fold_mem _ _ _ (List.mem_of_getElem? hk) with h1 | h1
    ·cases h1
    ·have h2:=List.mem_of_mem_take h1
     obtain⟨j,hj⟩:=List.getElem?_of_mem h2
     have:=h.all j
     rw [List.getD_eq_getElem?_getD,hj] at this
     exact this
theorem make_len (l:List (List UInt8)) (n:Nat):(makeW (l.take n)).length ≤l.length:=by
 have h1:=fold_len (l.take n) []
 rw [List.length_take] at h1
 have h3:([]:List (List UInt8)).length =0:=rfl
 unfold makeW
 omega
structure MkP (l:List (List UInt8)):Prop where
 w:WsP l
 m:l.length≤1000
 f : ∀k:Int,0≤k→k<l.length→newB (makeW (l.take k.toNat)) (l.getD k.toNat [])=true
def sp_s_l05Make (p:Pr):FSpec:=fsp (a1 aW) (fun l=>MkP l) (fun l=>.osl 0) (fun l=>[(0,.own [.s] (makeW l) 9)])
theorem ok_s_l05Make:FOk Tryz.prog 233 (sp_s_l05Make std):=by
 refine FOk.go (c:=cx std [(287,sp_s_l03Insert std)] [] 0) (cx_ok (.cons ok_s_l03Insert .nil) .nil) mixed Tryz.func233 rfl rfl rfl (by kernel_rfl) ?_
 rintro l hp
 refine⟨rfl,?_⟩
 unfold sp_s_l03Insert
 obtain⟨H,hH⟩ : ∃H:Hd (Int×List (List UInt8)),H=⟨fun (k,L)=>0≤k∧k≤l.length∧L=makeW (l.take k.toNat),fun (k,L)=>(l.length-k).toNat,(· < ·)⟩:=⟨_,rfl⟩
 have hl:=hdl hH
 generalize hP:std=p,hB0:makeW=B0,hB1:insW=B1,hB2:newB=B2
 cbv
 repeat' first|refine fun (_:Unit)=>?_;cbv|refine Or.inr ⟨6,[],[.s 4 (.i .i64),.o 0 [.s]],[.s 3],[],H,rfl,hl,?_,fun ((k,L):Int×List (List UInt8)) hk=>?_⟩<;>cbv|refine aI2 (fun h=>?_) (fun h=>?_)<;>cbv|refine aI2 ?_ ?_
 all_goals subst hP hB0 hB1 hB2 hH
 all_goals clear hl
 all_goals try dsimp only at hk
 all_goals try dsimp only
 all_goals try exact fin
 ·exact⟨Int.le_refl 0,Int.natCast_nonneg _,rfl⟩
 all_goals obtain⟨q0,q1,q2⟩:=hk
 all_goals have q1:k≤(l.length:Int):=q1
 all_goals have hn:=hp.w.len
 all_goals try (have hlt:k<(l.length:Int):=lt_of ‹_›)
 ·refine⟨by rw [q2];exact make_wsp hp.w _,by rw [q2];exact Nat.le_trans (make_len _ _) hp.m,?_,by rw [q2];exact hp.f k q0 hlt⟩
  have:=hp.w.all k.toNat
  show ((l.getD k.toNat []).length : Int)≤_;omega
 ·exact in64 (by show _≤k+1∧k+1≤_;omega)
 ·refine⟨by show 0≤k+1;omega,by show k+1≤(l.length:Int);omega,?_⟩
  show insW L (l.getD k.toNat [])=makeW (l.take (k+1).toNat)
  rw [make_step q0 hlt,q2]
 ·refine congrArg (fun z=>Ob.own [.s] z 9) ?_
  rw [q2,tk_all (ge_of h)]
theorem some_new:(List.range 60).all (fun k=>newB (makeW (someW.take k)) (someW.getD k []))=true:=by decide +kernel
theorem some_w:someW.all (fun x=>decide (x.length≤12))=true:=by decide +kernel
theorem some_n:someW.length=60:=by decide +kernel
theorem some_mk:MkP someW:=by
 refine⟨⟨by rw [some_n];decide,fun k=>?_⟩,by rw [some_n];decide,fun k h0 h=>?_⟩
 ·rw [List.getD_eq_getElem?_getD]
  cases hk:someW[k]? with
  | none=>exact Nat.zero_le _
  | some x=>
    have h2:x.length≤12:=of_decide_eq_true (List.all_eq_true.1 some_w x (List.mem_of_getElem? hk))
    exact Nat.le_trans h2 (by decide)
 ·rw [some_n] at h
  exact List.all_eq_true.1 some_new k.toNat (List.mem_range.2 (by omega))
def sp_s_l12All (p:Pr):FSpec:=fsp a0 (fun _=>True) (fun _=>.agg [.osl 0]) (fun _=>[(0,.own [.s] allW 9)])
theorem ok_s_l12All:FOk Tryz.prog 155 (sp_s_l12All std):=by
 refine FOk.go (c:=cx std [(234,sp_s_l05Some std),(233,sp_s_l05Make std)] [] 0) (cx_ok (.cons ok_s_l05Some (.cons ok_s_l05Make .nil)) .nil) mixed Tryz.func155 rfl rfl rfl (by kernel_rfl) ?_
 rintro _ hp
 refine⟨rfl,?_⟩
 unfold sp_s_l05Some sp_s_l05Make
 generalize hP:std=p,hB0:allW=B0,hB1:someW=B1,hB2:makeW=B2
 cbv
 repeat' first|refine fun (_:Unit)=>?_;cbv|refine aI2 (fun h=>?_) (fun h=>?_)<;>cbv|refine aI2 ?_ ?_|refine Or.inl (fun (_:Unit)=>?_);cbv
 all_goals subst hP hB0 hB1 hB2
 all_goals try exact fin
 ·exact some_mk
def sp_s_l01Dec (p:Pr):FSpec:=fsp (a1 aI) (fun n=>n=1∨n=2∨n=3) (fun n=>.s (decS n))
theorem ok_s_l01Dec:FOk Tryz.prog 149 (sp_s_l01Dec std):=by
 refine FOk.go (c:=cx std [] [] 0) (cx_ok .nil .nil) mixed Tryz.func149 rfl rfl rfl (by kernel_rfl) ?_
 rintro n hp
 rcases hp with rfl | rfl | rfl
 all_goals
  refine⟨rfl,?_⟩
  cbv
  repeat' first|refine fun (_:Unit)=>?_;cbv|(refine aI2 (fun h=>?_) (fun h=>?_)<;>first | exact absurd h (by decide) | cbv)|refine aI2 ?_ ?_|refine Or.inl (fun (_:Unit)=>?_);cbv
 all_goals try exact Int.NonNeg.mk _
 all_goals try exact fin
def digC (n:Int):Bool:=decide (48≤n)&&decide (n≤57)
def sp_s_l01Digit (p:Pr):FSpec:=fsp (a1 aC) (fun n=>True) (fun n=>.b (digC n))
theorem ok_s_l01Digit:FOk Tryz.prog 330 (sp_s_l01Digit std):=by
 refine FOk.go (c:=cx std [] [] 0) (cx_ok .nil .nil) mixed Tryz.func330 rfl rfl rfl (by kernel_rfl) ?_
 rintro n hp
 refine⟨rfl,?_⟩
 generalize hP:std=p,hB0:digC=B0
 cbv
 repeat' first|refine fun (_:Unit)=>?_;cbv|refine aI2 (fun h=>?_) (fun h=>?_)<;>cbv|refine aI2 ?_ ?_|refine Or.inl (fun (_:Unit)=>?_);cbv
 all_goals subst hP hB0
 all_goals try exact fin
 ·have h1:decide (48≤n)=true:=h
  unfold digC
  rw [h1,Bool.true_and];rfl
 ·have h1:decide (48≤n)=false:=h
  unfold digC
  rw [h1,Bool.false_and]
def sp_s_l01Number (p:Pr):FSpec:=fsp (a1 aS) (fun s=>s=[49]∨s=[50]∨s=[51]) (fun s=>.tup [.i .i64 (numV s),.bt])
theorem ok_s_l01Number:FOk Tryz.prog 314 (sp_s_l01Number std):=by
 refine FOk.go (c:=cx std [(330,sp_s_l01Digit std),(149,sp_s_l01Dec std)] [] 0) (cx_ok (.cons ok_s_l01Digit (.cons ok_s_l01Dec .nil)) .nil) mixed Tryz.func314 rfl rfl rfl (by kernel_rfl) ?_
 rintro s hp
 rcases hp with rfl | rfl | rfl
 all_goals
  refine⟨rfl,?_⟩
  unfold sp_s_l01Digit sp_s_l01Dec
  cbv
  repeat' first|refine fun (_:Unit)=>?_;cbv|(refine aI2 (fun h=>?_) (fun h=>?_)<;>first | exact absurd h (by decide) | cbv)|refine aI2 ?_ ?_|refine Or.inl (fun (_:Unit)=>?_);cbv
 all_goals try exact Int.NonNeg.mk _
 all_goals try exact fin
section
variable {s:List UInt8} {c:UInt8} {f k:Int} {L:List (List UInt8)}
theorem spl_y (h0:0≤k) (h:k<s.length) (hc:s.getD k.toNat 0=c) (e:splitS c s=L++splitA c ((s.take k.toNat).drop f.toNat) (s.drop k.toNat)):splitS c s=(L++[(s.take k.toNat).drop f.toNat])++splitA c ((s.take (k+1).toNat).drop (k+1).toNat) (s.drop (k+1).toNat):=by
 rw [e,dc h0 h 0,splitA,if_pos hc,List.append_assoc,List.drop_of_length_le (l:=s.take (k+1).toNat) (by rw [List.length_take];omega)];rfl
theorem spl_n (h0:0≤k) (h:k<s.length) (hf:f≤k) (hf0:0≤f) (hc : ¬s.getD k.toNat 0=c) (e:splitS c s=L++splitA c ((s.take k.toNat).drop f.toNat) (s.drop k.toNat)):splitS c s=L++splitA c ((s.take (k+1).toNat).drop f.toNat) (s.drop (k+1).toNat):=by
 rw [e,dc h0 h 0,splitA,if_neg hc,tk h0 h 0,List.drop_append_of_le_length (by rw [List.length_take];omega)]
theorem spl_e (h:(s.length:Int)≤k) (e:splitS c s=L++splitA c ((s.take k.toNat).drop f.toNat) (s.drop k.toNat)):L++[s.drop f.toNat]=splitS c s:=by
 rw [e,dn h,tk_all h];rfl
end
def sp_s_l01Split (p:Pr):FSpec:=fsp (ac aS (a1 aC)) (fun (s,c)=>p.leP (p.lenS s) 1048576∧p.inK .u8 c) (fun (s,c)=>.osl 0) (fun (s,c)=>[(0,.own [.s] (splitS (u8 c) s) 9)])
theorem ok_s_l01Split:FOk Tryz.prog 283 (sp_s_l01Split std):=by
 refine FOk.go (c:=cx std [] [] 0) (cx_ok .nil .nil) mixed Tryz.func283 rfl rfl rfl (by kernel_rfl) ?_
 rintro ⟨s,c⟩ hp
 dsimp only at hp
 refine⟨rfl,?_⟩
 obtain⟨H,hH⟩ : ∃H:Hd (Int×Int×List (List UInt8)),H=⟨fun (f,k,L)=>0≤f∧f≤k∧k≤s.length∧L.length≤k∧splitS (u8 c) s=L++splitA (u8 c) ((s.take k.toNat).drop f.toNat) (s.drop k.toNat),fun (f,k,L)=>(s.length-k).toNat,(· < ·)⟩:=⟨_,rfl⟩
 have hl:=hdl hH
 generalize hP:std=p,hB0:splitS=B0,hB1:u8=B1
 cbv
 repeat' first|refine fun (_:Unit)=>?_;cbv|refine Or.inr ⟨9,[],[.s 6 (.i .i64),.s 7 (.i .i64),.o 0 [.s]],[.s 5],[],H,rfl,hl,?_,fun ((f,k,L):Int×Int×List (List UInt8)) hk=>?_⟩<;>cbv|refine aI2 (fun h=>?_) (fun h=>?_)<;>cbv|refine aI2 ?_ ?_
 all_goals subst hP hB0 hB1 hH
 all_goals clear hl
 all_goals try dsimp only at hk
 all_goals try dsimp only
 all_goals try exact fin
 ·exact⟨Int.le_refl 0,Int.le_refl 0,Int.natCast_nonneg _,Int.le_refl 0,rfl⟩
 all_goals obtain⟨q0,q1,q2,q3,q4⟩:=hk
 all_goals have hn:0≤c∧c≤255:=hp.2
 all_goals have hu:u8 c=UInt8.ofNat c.toNat:=rfl
 all_goals have h0:0≤k:=Int.le_trans q0 q1
 all_goals try (have hlt:k<(s.length:Int):=lt_of ‹_›)
 ·refine⟨by show 0≤k+1;omega,Int.le_refl _,by show k+1≤(s.length:Int);omega,?_,spl_y h0 hlt (by rw [hu];exact byte_t h hn) q4⟩
  have h3:(L.length:Int)≤k:=q3
  show ((L++[_]).length : Int)≤k+1
  rw [List.length_append,List.length_singleton];omega
 ·exact⟨q0,by show f≤k+1;omega,by show k+1≤(s.length:Int);omega,by have h3:(L.length:Int)≤k:=q3;show (L.length:Int)≤k+1;omega,spl_n h0 hlt q1 q0 (by rw [hu];exact byte_f h hn) q4⟩
 ·exact congrArg (fun z=>Ob.own [.s] z 9) (spl_e (ge_of h) q4)
def mT0:MArgs (List UInt8):=⟨fun H l=>match H,l with
 | [(0,.cells [.s [],.esl,.esl,.i .i64 0] t)],[.ptr 0 0,.s w]=>if t=26 then some w else none
 | _,_=>none,fun _=>[(0,.cells [.s [],.esl,.esl,.i .i64 0] 26)],fun w=>[.ptr 0 0,.s w],fun H l a h=>by
   split at h
   ·split at h
    ·rename_i ht
     cases h
     rw [ht]
     exact⟨rfl,rfl⟩
    ·cases h
   ·cases h⟩
def hT:Nat×Ob→Option (List UInt8×Int)
 | (0,.cells [.s a,.osl 1,.osl 2,.i .i64 d] t)=>if t=26 then some (a,d) else none
 | _=>none
theorem hT_ok {x:Nat×Ob} {a:List UInt8} {d:Int} (h:hT x=some (a,d)):x=(0,.cells [.s a,.osl 1,.osl 2,.i .i64 d] 26):=by
 unfold hT at h
 split at h
 ·split at h
  ·rename_i ht
   cases h
   rw [ht]
  ·cases h
 ·cases h
def mTw (b:List UInt8→Bool):MArgs (TS×List UInt8):=⟨fun H l=>match H,l with
 | [x0,x1,x2],[.ptr 0 0,.s w]=>match hT x0,hN x1,hN x2 with
   | some (a,d),some (1,v),some (2,c)=>if b w then some (⟨a,v,c,d⟩,w) else none
   | _,_,_=>none
 | _,_=>none,fun a=>[(0,.cells (tsK a.1 (.osl 1) (.osl 2)) 26),(1,.own [.i .i64] a.1.values 2),(2,.own [.i .i64] a.1.counts 2)],fun a=>[.ptr 0 0,.s a.2],fun H l a h=>by
   split at h
   ·split at h
    ·rename_i h0 h1 h2
     split at h
     ·cases h
      exact⟨by rw [hT_ok h0,hN_ok h1,hN_ok h2];rfl,rfl⟩
     ·cases h
    ·cases h
   ·cases h⟩
def blkW (w:List UInt8):Bool:=match w with
 | 63::_=>true
 | _=>false
def sp_l02Word_0 (p:Pr):MSpec:=msp mT0 (fun w=>w=[97,49,120,51]) (fun w=>.b true) (fun w=>[(0,.cells (tsK ⟨[97],[1],[3],0⟩ (.osl 1) (.osl 2)) 26),(1,.own [.i .i64] [1] 2),(2,.own [.i .i64] [3] 2)])
theorem ok_l02Word_0:MOk Tryz.prog 284 (sp_l02Word_0 std):=by
 refine MOk.go (c:=cx std [(283,sp_s_l01Split std),(314,sp_s_l01Number std)] [] 1) (cx_ok (.cons ok_s_l01Split (.cons ok_s_l01Number .nil)) .nil) mixed Tryz.func284 rfl rfl (by kernel_rfl) ?_
 rintro w hp
 subst hp
 all_goals
  refine⟨rfl,?_⟩
  unfold sp_s_l01Split sp_s_l01Number
  cbv
  repeat' first|refine fun (_:Unit)=>?_;cbv|(refine aI2 (fun h=>?_) (fun h=>?_)<;>first | exact absurd h (by decide) | cbv)|refine aI2 ?_ ?_|refine Or.inl (fun (_:Unit)=>?_);cbv
 all_goals try exact Int.NonNeg.mk _
 all_goals try exact fin
def sp_l02Word_a (p:Pr):MSpec:=msp (mTw fun w=>!blkW w) (fun (t,w)=>(t=⟨[97],[1],[3],0⟩∧w=[101,49,120,51])∨(t=⟨[97,101],[1,1],[3,3],0⟩∧w=[110,50,120,50])∨(t=⟨[97,101,110],[1,1,2],[3,3,2],0⟩∧w=[114,50,120,50])∨(t=⟨[97,101,110,114],[1,1,2,2],[3,3,2,2],0⟩∧w=[115,49,120,50])∨(t=⟨[97,101,110,114,115],[1,1,2,2,1],[3,3,2,2,2],0⟩∧w=[116,50,120,50])) (fun (t,w)=>.b true) (fun (t,w)=>[(0,.cells (tsK (wordT t w) (.osl 3) (.osl 4)) 26),(3,.own [.i .i64] (wordT t w).values 2),(4,.own [.i .i64] (wordT t w).counts 2),(1,.gone),(2,.gone)])
theorem ok_l02Word_a:MOk Tryz.prog 284 (sp_l02Word_a std):=by
 refine MOk.go (c:=cx std [(283,sp_s_l01Split std),(314,sp_s_l01Number std)] [] 3) (cx_ok (.cons ok_s_l01Split (.cons ok_s_l01Number .nil)) .nil) mixed Tryz.func284 rfl rfl (by kernel_rfl) ?_
 rintro ⟨t,w⟩ hp
 dsimp only at hp
 rcases hp with ⟨rfl,rfl⟩ | ⟨rfl,rfl⟩ | ⟨rfl,rfl⟩ | ⟨rfl,rfl⟩ | ⟨rfl,rfl⟩
 all_goals
  refine⟨rfl,?_⟩
  unfold sp_s_l01Split sp_s_l01Number
  cbv
  repeat' first|refine fun (_:Unit)=>?_;cbv|(refine aI2 (fun h=>?_) (fun h=>?_)<;>first | exact absurd h (by decide) | cbv)|refine aI2 ?_ ?_|refine Or.inl (fun (_:Unit)=>?_);cbv
 all_goals try exact Int.NonNeg.mk _
 all_goals try exact fin
def sp_l02Word_b (p:Pr):MSpec:=msp (mTw blkW) (fun (t,w)=>t=⟨[97,101,110,114,115,116],[1,1,2,2,1,2],[3,3,2,2,2,2],0⟩∧w=[63,120,49]) (fun (t,w)=>.b true) (fun (t,w)=>[(0,.cells (tsK (wordT t w) (.osl 1) (.osl 2)) 26),(1,.own [.i .i64] t.values 2),(2,.own [.i .i64] t.counts 2)])
theorem ok_l02Word_b:MOk Tryz.prog 284 (sp_l02Word_b std):=by
 refine MOk.go (c:=cx std [(283,sp_s_l01Split std),(314,sp_s_l01Number std)] [] 3) (cx_ok (.cons ok_s_l01Split (.cons ok_s_l01Number .nil)) .nil) mixed Tryz.func284 rfl rfl (by kernel_rfl) ?_
 rintro ⟨t,w⟩ hp
 dsimp only at hp
 obtain⟨rfl,rfl⟩:=hp
 all_goals
  refine⟨rfl,?_⟩
  unfold sp_s_l01Split sp_s_l01Number
  cbv
  repeat' first|refine fun (_:Unit)=>?_;cbv|(refine aI2 (fun h=>?_) (fun h=>?_)<;>first | exact absurd h (by decide) | cbv)|refine aI2 ?_ ?_|refine Or.inl (fun (_:Unit)=>?_);cbv
 all_goals try exact Int.NonNeg.mk _
 all_goals try exact fin
def sp_s_l02Word (p:Pr):MSpec:=(sp_l02Word_0 p).or ((sp_l02Word_a p).or (sp_l02Word_b p))
theorem ok_s_l02Word:MOk Tryz.prog 284 (sp_s_l02Word std):=ok_l02Word_0.or (ok_l02Word_a.or ok_l02Word_b)
def sp_s_l02Text (p:Pr):FSpec:=fsp (a1 (aP aTs)) (fun t=>t=⟨[97,101,110,114,115,116],[1,1,2,2,1,2],[3,3,2,2,2,2],1⟩) (fun t=>.s smallS)
theorem ok_s_l02Text:FOk Tryz.prog 285 (sp_s_l02Text std):=by
 refine FOk.go (c:=cx std [(149,sp_s_l01Dec std)] [] 0) (cx_ok (.cons ok_s_l01Dec .nil) .nil) mixed Tryz.func285 rfl rfl rfl (by kernel_rfl) ?_
 rintro t hp
 subst hp
 all_goals
  refine⟨rfl,?_⟩
  unfold sp_s_l01Dec
  cbv
  repeat' first|refine fun (_:Unit)=>?_;cbv|(refine aI2 (fun h=>?_) (fun h=>?_)<;>first | exact absurd h (by decide) | cbv)|refine aI2 ?_ ?_|refine Or.inl (fun (_:Unit)=>?_);cbv
 all_goals try exact Int.NonNeg.mk _
 all_goals try exact fin
theorem sm_no (h:tsB smallT=false):False:=by rw [small_ok] at h;cases h
def sp_s_l02Read (p:Pr):FSpec:=fsp (a1 aS) (fun s=>s=smallS) (fun s=>.tup [.agg (tsK ⟨[97,101,110,114,115,116],[1,1,2,2,1,2],[3,3,2,2,2,2],1⟩ (.osl 0) (.osl 1)),.bt]) (fun s=>[(0,.own [.i .i64] [1,1,2,2,1,2] 2),(1,.own [.i .i64] [3,3,2,2,2,2] 2)])
theorem ok_s_l02Read:FOk Tryz.prog 229 (sp_s_l02Read std):=by
 refine FOk.go (c:=cx std [(283,sp_s_l01Split std),(171,sp_s_l02Ok std),(285,sp_s_l02Text std)] [(284,sp_s_l02Word std)] 0) (cx_ok (.cons ok_s_l01Split (.cons ok_s_l02Ok (.cons ok_s_l02Text .nil))) (.cons ok_s_l02Word .nil)) mixed Tryz.func229 rfl rfl rfl (by kernel_rfl) ?_
 rintro s hp
 subst hp
 all_goals
  refine⟨rfl,?_⟩
  unfold sp_s_l01Split sp_s_l02Word sp_s_l02Ok sp_s_l02Text
  generalize hB0:tsB=B0
  cbv
  repeat' first|refine fun (_:Unit)=>?_;cbv|(refine aI2 (fun h=>?_) (fun h=>?_)<;>first | exact absurd h (by decide) | cbv)|refine aI2 ?_ ?_|refine Or.inl (fun (_:Unit)=>?_);cbv
 all_goals subst hB0
 all_goals try (exfalso;exact sm_no ‹_›)
 all_goals try exact Int.NonNeg.mk _
 all_goals try exact fin
 ·exact⟨by decide,by decide,by decide⟩
def smallN:List UInt8:=[115,109,97,108,108]
def sp_s_l02Standard (p:Pr):FSpec:=fsp (a1 aS) (fun s=>s=smallN) (fun s=>.s smallS)
theorem ok_s_l02Standard:FOk Tryz.prog 230 (sp_s_l02Standard std):=by
 refine FOk.go (c:=cx std [] [] 0) (cx_ok .nil .nil) mixed Tryz.func230 rfl rfl rfl (by kernel_rfl) ?_
 rintro s hp
 subst hp
 all_goals
  refine⟨rfl,?_⟩
  cbv
  repeat' first|refine fun (_:Unit)=>?_;cbv|(refine aI2 (fun h=>?_) (fun h=>?_)<;>first | exact absurd h (by decide) | cbv)|refine aI2 ?_ ?_|refine Or.inl (fun (_:Unit)=>?_);cbv
 all_goals try exact Int.NonNeg.mk _
 all_goals try exact fin
def sp_s_StandardTiles (p:Pr):FSpec:=fsp (a1 aS) (fun s=>s=smallN) (fun s=>.tup [.agg (tsK ⟨[97,101,110,114,115,116],[1,1,2,2,1,2],[3,3,2,2,2,2],1⟩ (.osl 0) (.osl 1)),.i .i64 0]) (fun s=>[(0,.own [.i .i64] [1,1,2,2,1,2] 2),(1,.own [.i .i64] [3,3,2,2,2,2] 2)])
theorem ok_s_StandardTiles:FOk Tryz.prog 153 (sp_s_StandardTiles std):=by
 refine FOk.go (c:=cx std [(230,sp_s_l02Standard std),(229,sp_s_l02Read std)] [] 0) (cx_ok (.cons ok_s_l02Standard (.cons ok_s_l02Read .nil)) .nil) mixed Tryz.func153 rfl rfl rfl (by kernel_rfl) ?_
 rintro s hp
 subst hp
 all_goals
  refine⟨rfl,?_⟩
  unfold sp_s_l02Standard sp_s_l02Read
  cbv
  repeat' first|refine fun (_:Unit)=>?_;cbv|(refine aI2 (fun h=>?_) (fun h=>?_)<;>first | exact absurd h (by decide) | cbv)|refine aI2 ?_ ?_|refine Or.inl (fun (_:Unit)=>?_);cbv
 all_goals try exact Int.NonNeg.mk _
 all_goals try exact fin
end Ax
end Go.Proofs.YtjjonmhpgkahoaaGreatDoor
