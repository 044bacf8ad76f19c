/-
  Facts of valid tile sets and of valid games.
  Conditions: none.
-/
import Derived.Test.YtjjonmhpgkahoaaGreatDoorH15
set_option linter.unusedSimpArgs false
set_option linter.unusedVariables false
namespace Go.Proofs.YtjjonmhpgkahoaaGreatDoor
namespace Ax
set_option maxRecDepth 100000
set_option maxHeartbeats 2000000
theorem A9 : ∀(vs cs:List Int),vs.length=cs.length→vcB vs cs=true→(∀c∈cs,1≤c∧c≤20)∧∀v∈vs,0≤v∧v≤20
 | [],[],_,_=>⟨fun _ h=>(by cases h),fun _ h=>(by cases h)⟩
 | [],_::_,h,_=>by simp at h
 | _::_,[],h,_=>by simp at h
 | v::vs,c::cs,h,hb=>by
   rw [vcB] at hb
   simp only [Bool.and_eq_true,inR,decide_eq_true_eq] at hb
   obtain⟨h1,h2⟩:=A9 vs cs (by simpa using h) hb.2.2
   refine⟨fun x hx=>?_,fun x hx=>?_⟩
   ·rcases List.mem_cons.1 hx with e | hx
    ·subst e;exact hb.2.1
    ·exact h1 x hx
   ·rcases List.mem_cons.1 hx with e | hx
    ·subst e;exact hb.1
    ·exact h2 x hx
theorem jm {t:TS} (h:tsB t=true):er t:=by
 unfold tsB at h
 simp only [Bool.and_eq_true,decide_eq_true_eq] at h
 obtain⟨h1,h2,h3,h4,h5,h6,h7⟩:=h
 have hb:=A9 t.values t.counts (by omega) h6
 have key : ∀c,0≤cI t c∧cI t c≤20:=fun c=>by
  unfold cI
  split
  ·rename_i hk
   have hk':jP t.letters c<t.values.length:=by omega
   rw [List.getD_eq_getElem?_getD,List.getElem?_eq_getElem hk']
   exact hb.2 _ (List.getElem_mem hk')
  ·omega
 exact⟨y6 h2,h3,h4,fun c=>(key c).1,fun c=>(key c).2⟩
theorem vZ {t:TS} (h:tsB t=true):MM t∧0≤t.blanks∧∀k:Nat,0≤t.counts.getD k 0:=by
 have ho:=jm h
 unfold tsB at h
 simp only [Bool.and_eq_true,decide_eq_true_eq] at h
 obtain⟨h1,h2,h3,h4,h5,h6,h7⟩:=h
 have hb:=(A9 t.values t.counts (by omega) h6).1
 have hk : ∀k:Nat,0≤t.counts.getD k 0∧t.counts.getD k 0≤20:=fun k=>by
  rw [List.getD_eq_getElem?_getD]
  rcases Nat.lt_or_ge k t.counts.length with h | h
  ·rw [List.getElem?_eq_getElem h]
   have:=hb _ (List.getElem_mem h)
   show 0≤t.counts[k]∧t.counts[k]≤20
   omega
  ·rw [List.getElem?_eq_none h];decide
 have h5:=br h5
 exact⟨⟨ho,h5.2,fun k=>(hk k).2⟩,h5.1,fun k=>(hk k).1⟩
theorem bV {a b:Int} (h:std.eqI a b=true):a=b:=by simpa using h
theorem dI {a b:Int} (h:std.eqI a b=false) : ¬a=b:=by simpa using h
theorem MR {α:Type} (L:List α):std.eqI (std.len L) 2=decide (L.length=2):=by
 show decide ((L.length:Int)=2)=_
 rw [Bool.eq_iff_iff,decide_eq_true_eq,decide_eq_true_eq];omega
theorem Bx (g:Gm):dX g=(suB ⟨⟨g.ts.letters,g.ts.values,g.ts.counts,g.ts.blanks⟩,g.lex,⟨g.bd0.size,g.bd0.prem,g.bd0.cells⟩,g.secs,g.rule⟩&&(bdB ⟨g.bd.size,g.bd.prem,g.bd.cells⟩&&(std.eqI g.bd.size g.bd0.size&&(std.eqS g.bd.prem g.bd0.prem&&bL g.bag)))):=rfl
theorem NP (g:Gm):kq g=(std.eqI (std.len g.racks) 2&&(std.eqI (std.len g.scores) 2&&(std.eqI (std.len g.clocks) 2&&(inR g.player 0 1&&inR g.zeros 0 6)))):=by
 rw [MR,MR,MR];rfl
theorem Q9 {z:Int} (h:std.eqI z 6=true):decide (z<6)=false:=by
 have : z=6:=by simpa using h
 subst this;rfl
theorem PI {z:Int} (h0:inR z 0 6=true) (h:std.eqI z 6=false):decide (z<6)=true:=by
 have h1 : ¬z=6:=by simpa using h
 have h2:=br h0
 rw [decide_eq_true_eq];omega
theorem Hw {g:Gm} {k:Int} (h:aM (g.racks.getD k.toNat [])=false):bj g k.toNat=false:=by unfold bj;rw [h];rfl
theorem GE {g:Gm} {k:Int} (_:0≤k) (h:inR (g.scores.getD k.toNat 0) (-100000) 100000=false):bj g k.toNat=false:=by unfold bj;rw [h];simp
theorem Gx {g:Gm} {k:Int} (_:0≤k) (h:inR (g.clocks.getD k.toNat 0) (-36000) 36000=false):bj g k.toNat=false:=by unfold bj;rw [h];simp
theorem Df {g:Gm} {k:Int} (h0:0≤k) (h1:k<2) (q2:0<k→bj g 0=true) (_:1<k→bj g 1=true) (a:aM (g.racks.getD k.toNat [])=true) (b:inR (g.scores.getD k.toNat 0) (-100000) 100000=true) (c:inR (g.clocks.getD k.toNat 0) (-36000) 36000=true) :
 0≤k+1∧k+1≤2∧(0<k+1→bj g 0=true)∧(1<k+1→bj g 1=true):=by
 have hs:bj g k.toNat=true:=by unfold bj;rw [a,b,c];rfl
 have : k=0∨k=1:=by omega
 rcases this with rfl | rfl
 ·exact⟨by omega,by omega,fun _=>hs,fun h=>absurd h (by decide)⟩
 ·exact⟨by omega,by omega,fun _=>q2 (by omega),fun _=>hs⟩
theorem bP {s:List UInt8} (h:aM s=true):s.length≤7:=by
 unfold aM at h
 rw [Bool.and_eq_true,decide_eq_true_eq] at h
 exact h.2
theorem ta (b:Bd) (h:b.Fit):(ag b).length ≤225:=by
 have h1:=List.length_filter_le (fun c:UInt8=>!(c==46)) b.cells
 have h2:=h.cells;have h3:=h.hi;have h4:=h.lo
 have h5:b.size*b.size≤15*b.size:=Int.mul_le_mul_of_nonneg_right h3 (by omega)
 unfold ag;omega
def kZ (p:Pr):aa:=fsp (a1 (aP aGm)) (fun g=>PkP g) (fun g=>.b (c9 g))
theorem yi:FOk Tryz.prog 186 (kZ std):=by
 refine FOk.go (c:=cx std [(250,lE std),(89,ba std)] [] 0) (ae (.cons xY (.cons dm .nil)) .nil) mixed Tryz.func186 rfl rfl rfl (by kernel_rfl) ?_
 rintro g hp
 refine⟨rfl,?_⟩
 unfold lE ba
 generalize hP:std=p,hB0:c9=B0,hB1:eg=B1,hB2:inR=B2
 cbv
 repeat' first|refine fun (_:Unit)=>?_;cbv|refine aI2 (fun h=>?_) (fun h=>?_)<;>cbv|refine aI2 ?_ ?_|refine Or.inl (fun (_:Unit)=>?_);cbv
 all_goals subst hP hB0 hB1 hB2
 all_goals try exact fin
 all_goals try (have hb:xw g.last (dA g.last.kind g.last.player)=true:=‹_›)
 all_goals try (have hn:xw g.last (dA g.last.kind g.last.player)=false:=‹_›)
 ·have k0:g.last.kind=0:=bV ‹_›
  unfold c9
  rw [k0] at hb
  rw [if_pos k0,hb];rfl
 ·have k0:g.last.kind=0:=bV ‹_›
  unfold c9
  rw [k0] at hn
  rw [if_pos k0,hn];rfl
 ·have k0 : ¬g.last.kind=0:=dI ‹_›
  have k2:g.last.kind=2:=bV ‹_›
  unfold c9
  rw [if_neg k0,if_pos (Or.inl k2),hb];rfl
 ·have k0 : ¬g.last.kind=0:=dI ‹_›
  have k2:g.last.kind=2:=bV ‹_›
  unfold c9
  rw [if_neg k0,if_pos (Or.inl k2),hn];rfl
 ·have k0 : ¬g.last.kind=0:=dI ‹_›
  have k2:g.last.kind=3:=bV ‹_›
  unfold c9
  rw [if_neg k0,if_pos (Or.inr k2),hb];rfl
 ·have k0 : ¬g.last.kind=0:=dI ‹_›
  have k2:g.last.kind=3:=bV ‹_›
  unfold c9
  rw [if_neg k0,if_pos (Or.inr k2),hn];rfl
 all_goals have k0 : ¬g.last.kind=0:=dI ‹_›
 all_goals have k2 : ¬g.last.kind=2:=dI ‹_›
 all_goals have k3 : ¬g.last.kind=3:=dI ‹_›
 all_goals unfold c9
 all_goals rw [if_neg k0,if_neg (by rintro (h | h);exact k2 h;exact k3 h)]
 ·rw [if_pos (bV ‹_›)]
 ·rw [if_neg (dI ‹_›)]
structure GmL (g:Gm):Prop where
 su:SuL (gSu g)
 bd:BdP g.bd
 bag:g.bag.length≤274877906944
 rk : ∀k:Int,(g.rk k).length ≤274877906944
 bf:BdP g.bef
 wd:g.last.play.word.length≤274877906944
 dr:g.last.drawn.length≤274877906944
theorem Mv {g:Gm} (h:dX g=false):az g=false:=by unfold az;rw [h];rfl
theorem SG {g:Gm} (h:kq g=false):az g=false:=by unfold az;rw [h];simp
theorem Fk {g:Gm} {k:Int} (h0:0≤k) (h1:k<2) (h:bj g k.toNat=false):az g=false:=by
 have : k=0∨k=1:=by omega
 rcases this with rfl | rfl
 ·have h:bj g 0=false:=h
  unfold az;rw [h];simp
 ·have h:bj g 1=false:=h
  unfold az;rw [h];simp
theorem Ge {g:Gm} (h1:dX g=true) (h2:kq g=true) (h3:bj g 0=true) (h4:bj g 1=true):az g=(cr g==bW g.ts&&(c9 g&&(g.over||decide (g.zeros<6)))):=by
 unfold az
 rw [h1,h2,h3,h4];rfl
structure GmS (g:Gm):Prop where
 fit:g.bd.Fit
 ts:tsB g.ts=true
 rk : ∀k:Int,(g.rk k).length ≤7
 r2:g.racks.length=2
 ply:g.player=0∨g.player=1
 bag:g.bag.length≤120
theorem Vb {g:Gm} (h1:dX g=true) (h2:kq g=true) (h3:bj g 0=true) (h4:bj g 1=true):GmS g:=by
 unfold dX jp at h1
 unfold kq at h2
 unfold bj at h3 h4
 simp only [Bool.and_eq_true,decide_eq_true_eq] at h1 h2 h3 h4
 have hp:=br h2.2.2.2.1
 refine⟨bdB.fit h1.2.1,h1.1.1,fun k=>?_,h2.1,by omega,eF h1.2.2.2.2⟩
 unfold Gm.rk
 rcases (show k.toNat=0∨k.toNat=1∨2≤k.toNat by omega) with h | h | h
 ·rw [h];exact bP h3.1
 ·rw [h];exact bP h4.1
 ·rw [List.getD_eq_getElem?_getD,List.getElem?_eq_none (by omega)];decide
theorem P9 {g:Gm} (hp:GmL g) (h:GmS g):PkP g:=⟨jm h.ts,h.r2,h.ply,h.rk,hp.bf,hp.wd,hp.dr⟩
def dl (p:Pr):aa:=fsp (a1 (aP aGm)) (fun g=>GmL g) (fun g=>.b (az g))
theorem lD:FOk Tryz.prog 88 (dl std):=by
 refine FOk.go (c:=cx std [(72,dW std),(159,gY std),(73,du std),(89,ba std),(185,iO std),(173,bn std),(127,bG std),(74,aQ std),(65,dP std),(186,kZ std)] [] 0) (ae (.cons ml (.cons rB (.cons lC (.cons dm (.cons tx (.cons dF (.cons eQ (.cons cT (.cons lY (.cons yi .nil)))))))))) .nil) mixed Tryz.func88 rfl rfl rfl (by kernel_rfl) ?_
 rintro g hp
 refine⟨rfl,?_⟩
 unfold dW gY du ba iO bn bG aQ dP kZ
 obtain⟨H,hH⟩ : ∃H:Hd (Int),H=⟨fun k=>0≤k∧k≤2∧(0<k→bj g 0=true)∧(1<k→bj g 1=true),fun k=>(2-k).toNat,(· < ·)⟩:=⟨_,rfl⟩
 have hl:=hdl hH
 generalize hP:std=p,hB0:az=B0,hB1:suB=B1,hB2:bdB=B2,hB3:bL=B3,hB4:aM=B4,hB5:inR=B5,hB6:ag=B6,hB7:av=B7,hB8:au=B8,hB9:bW=B9,hB10:c9=B10
 cbv
 repeat' first|refine fun (_:Unit)=>?_;cbv|refine Or.inr ⟨90,[],[.s 3 (.i .i64)],[],[],H,rfl,hl,?_,fun (k:Int) hk=>?_⟩<;>cbv|refine aI2 (fun h=>?_) (fun h=>?_)<;>cbv|refine aI2 ?_ ?_
 all_goals subst hP hB0 hB1 hB2 hB3 hB4 hB5 hB6 hB7 hB8 hB9 hB10 hH
 all_goals clear hl
 all_goals try dsimp only at hk
 all_goals try dsimp only
 all_goals try exact fin
 all_goals try (have hs:dX g=true:=by rw [Bx];simp only [*,Bool.not_false,Bool.true_and,Bool.and_true])
 all_goals try (have htw:kq g=true:=by rw [NP];simp only [*,Bool.not_false,Bool.true_and,Bool.and_true])
 all_goals try (obtain⟨q0,q1,q2,q3⟩:=hk)
 all_goals try (have hlt:k<2:=ah ‹_›)
 all_goals try (have hge:2≤k:=ao ‹_›)
 all_goals try (have hsd0:=q2 (by omega);have hsd1:=q3 (by omega))
 all_goals try (have hS:=Vb hs htw hsd0 hsd1;have hl:=ta g.bd hS.fit;have htl:=gM (ag g.bd);have hr0:=hS.rk 0;have hr1:=hS.rk 1;have hbg:=hS.bag)
 all_goals try (have hlo:c9 g=true:=‹_›)
 all_goals try (have hlf:c9 g=false:=‹_›)
 all_goals first
  | exact hp.su
  | exact aR hp.bag
  | exact aR (hp.rk k)
  | exact⟨Int.le_refl 0,by decide,fun h=>absurd h (by decide),fun h=>absurd h (by decide)⟩
  | (refine Mv ?_;rw [Bx];simp only [*,Bool.not_false,Bool.true_and,Bool.false_and];done)
  | (refine SG ?_;rw [NP];simp only [*,Bool.not_false,Bool.true_and,Bool.false_and,Bool.and_false];done)
  | exact Fk q0 hlt (Hw ‹_›)
  | exact Fk q0 hlt (GE q0 ‹_›)
  | exact Fk q0 hlt (Gx q0 ‹_›)
  | exact Df q0 hlt q2 q3 ‹_› ‹_› ‹_›
  | exact (vZ hS.ts).1
  | exact P9 hp hS
  | exact aR (n:=(ag g.bd).length) (by omega)
  | exact an (by show _≤((av (ag g.bd)).length : Int)+((g.rk 0).length : Int)∧((av (ag g.bd)).length : Int)+((g.rk 0).length : Int)≤_;omega)
  | exact an (by show _≤((av (ag g.bd)++g.rk 0).length : Int)+((g.rk 1).length : Int)∧((av (ag g.bd)++g.rk 0).length : Int)+((g.rk 1).length : Int)≤_;rw [List.length_append];omega)
  | exact an (by show _≤(((av (ag g.bd)++g.rk 0)++g.rk 1).length : Int)+(g.bag.length:Int)∧(((av (ag g.bd)++g.rk 0)++g.rk 1).length : Int)+(g.bag.length:Int)≤_;rw [List.length_append,List.length_append];omega)
  | exact aR (n:=(((av (ag g.bd)++g.rk 0)++g.rk 1)++g.bag).length) (by rw [List.length_append,List.length_append,List.length_append];omega)
  | (rw [Ge hs htw hsd0 hsd1,show (cr g==bW g.ts)=false by assumption];rfl)
  | (rw [Ge hs htw hsd0 hsd1,show (cr g==bW g.ts)=true by assumption,hlf];rfl)
  | (rw [Ge hs htw hsd0 hsd1,show (cr g==bW g.ts)=true by assumption,hlo,show g.over=true by assumption];rfl)
  | (rw [Ge hs htw hsd0 hsd1,show (cr g==bW g.ts)=true by assumption,hlo,show g.over=false by assumption];rfl)
  | skip
structure SaF (g:Gm):Prop where
 s:g.scores.length=2
 k:g.clocks.length=2
 ply:0≤g.player∧g.player≤1
 clk : -36000≤g.clk g.player∧g.clk g.player≤36000
theorem Ee {g:Gm} (h:az g=true):SaF g:=by
 unfold az kq bj at h
 simp only [Bool.and_eq_true,decide_eq_true_eq] at h
 have hp:=br h.2.1.2.2.2.1
 have k0:=br h.2.2.1.1.2.2
 have k1:=br h.2.2.1.2.2.2
 refine⟨h.2.1.2.1,h.2.1.2.2.1,hp,?_⟩
 unfold Gm.clk
 rcases (show g.player.toNat=0∨g.player.toNat=1 by omega) with e | e<;>rw [e]
 ·exact k0
 ·exact k1
theorem MI {g:Gm} {n:Int} (h:az g=true) (ho:g.over=true):aO g n=10:=by
 unfold aO;rw [if_pos h,if_pos ho]
theorem Sv {g:Gm} {n:Int} (h:az g=true) (ho:g.over=false) (hn:inR n 0 36000=false):aO g n=2:=by
 unfold aO;rw [if_pos h,if_neg (by rw [ho];simp),hn,if_neg (by simp)]
theorem RO {g:Gm} {n:Int} (h:az g=true) (ho:g.over=false) (hn:std.ltI (g.clk g.player-n) (-36000)=true):aO g n=2:=by
 have h1:=ah hn
 unfold aO;rw [if_pos h,if_neg (by rw [ho];simp),decide_eq_false (by omega),Bool.and_false,if_neg (by simp)]
theorem Lq {g:Gm} {n:Int} (h:az g=true) (ho:g.over=false) (hi:inR n 0 36000=true) (hn:std.ltI (g.clk g.player-n) (-36000)=false):aO g n=if inR (g.sc 0) (-50000) 50000&&inR (g.sc 1) (-50000) 50000 then 0 else 5:=by
 have h1:=ao hn
 unfold aO;rw [if_pos h,if_neg (by rw [ho];simp),hi,decide_eq_true (by omega)];rfl
def aG (p:Pr):aa:=fsp (ac (aP aGm) (a1 aI)) (fun (g,n)=>GmL g) (fun (g,n)=>.i .i64 (aO g n))
theorem cy:FOk Tryz.prog 105 (aG std):=by
 refine FOk.go (c:=cx std [(88,dl std),(89,ba std),(124,dp std)] [] 0) (ae (.cons lD (.cons dm (.cons kN .nil))) .nil) mixed Tryz.func105 rfl rfl rfl (by kernel_rfl) ?_
 rintro ⟨g,n⟩ hp
 dsimp only at hp
 refine⟨rfl,?_⟩
 unfold dl ba dp
 generalize hP:std=p,hB0:aO=B0,hB1:az=B1,hB2:inR=B2
 cbv
 repeat' first|refine fun (_:Unit)=>?_;cbv|refine aI2 (fun h=>?_) (fun h=>?_)<;>cbv|refine aI2 ?_ ?_|refine Or.inl (fun (_:Unit)=>?_);cbv
 all_goals subst hP hB0 hB1 hB2
 all_goals try exact fin
 all_goals try (have hf:=Ee (show az g=true by assumption);have hpl:=hf.ply;have hck:=hf.clk;have hkl:=hf.k;have hsl:=hf.s)
 all_goals try (have hn:=br (show inR n 0 36000=true by assumption))
 all_goals first
  | exact⟨hpl.1,by show g.player<(g.clocks.length:Int);omega⟩
  | exact⟨by decide,by show (0:Int)<(g.scores.length:Int);omega⟩
  | exact⟨by decide,by show (1:Int)<(g.scores.length:Int);omega⟩
  | exact an (by show _≤g.clk g.player-n∧g.clk g.player-n≤_;omega)
  | (unfold aO;rw [if_neg (by rw [show az g=false by assumption];simp)];done)
  | (rw [MI ‹_› ‹_›];done)
  | (rw [RO ‹_› ‹_› ‹_›];done)
  | (rw [Sv ‹_› ‹_› ‹_›];done)
  | (rw [Lq ‹_› ‹_› ‹_› ‹_›,show inR (g.sc 0) (-50000) 50000=true by assumption,show inR (g.sc 1) (-50000) 50000=true by assumption];rfl)
  | (rw [Lq ‹_› ‹_› ‹_› ‹_›,show inR (g.sc 0) (-50000) 50000=false by assumption];rfl)
  | (rw [Lq ‹_› ‹_› ‹_› ‹_›,show inR (g.sc 1) (-50000) 50000=false by assumption,Bool.and_false];rfl)
  | exact hp
  | skip
section
variable {b:Bd} {q:Pl} {i:Nat}
theorem nN (hb:bdB b=true) (hon:OnQ b q) (hw:ei q.word=true):c7 b q=dC b q:=by
 unfold c7 dC bN E6 cY sqL
 rw [eR hb hon,da,List.map_cons]
 congr 1
 have hlt : ∀x∈bC b q,x<q.word.length:=fun x hx=>List.mem_range.1 (List.mem_filter.1 hx).1
 generalize bC b q=N at hlt
 unfold DK
 induction N with
 | nil=>rfl
 | cons x N ih=>
   have ih:=ih fun y hy=>hlt y (List.mem_cons_of_mem _ hy)
   have hx:=uD hb hon (hlt x (List.mem_cons_self ..)) hw
   have hlen:(bq (af b q) (ab q) x).length =(fY (ar b q) (!q.down) (q.sr x) (q.sc x)).length :=by rw [hx];simp [sqW]
   simp only [List.map_cons,List.filter_cons,hlen]
   by_cases h2:2≤(fY (ar b q) (!q.down) (q.sr x) (q.sc x)).length
   ·rw [if_pos (by simp;omega),if_pos (by simpa using h2),List.map_cons,List.map_cons,ih,hx]
   ·rw [if_neg (by simp;omega),if_neg (by simpa using h2),ih]
theorem xv {b:Bd} {q:Pl} (hb:bdB b=true) (hon:OnQ b q) (hw:ei q.word=true):(bN (af b q) (ab q)).length =(dC b q).length :=by
 rw [←nN hb hon hw,c7,List.length_map]
theorem Ix {b:Bd} (hb:bdB b=true) {q:Pl} (hon:OnQ b q) (h:ag b=[]):bC b q=List.range q.word.length:=by
 unfold bC jS
 rw [List.filter_eq_self]
 intro i hi
 have hin:=hon i (List.mem_range.1 hi)
 have hm:=at_mem (bdB.fit hb) hin
 unfold ag at h
 rw [List.filter_eq_nil_iff] at h
 have:=h _ hm
 unfold Bd.let_
 rw [jK hin]
 simp at this
 simp [this]
theorem Fr {b:Bd} (hb:bdB b=true) {q:Pl} (hv:bs b q=true):eU b q=EP b q:=by
 obtain⟨hon,hw,h2,h12⟩:=be hv
 unfold eU EP
 by_cases h:ag b=[]
 ·rw [if_pos h,h,if_pos (by rfl),Ix hb hon h]
  rw [Bool.eq_iff_iff,List.any_eq_true]
  simp only [Bool.and_eq_true,decide_eq_true_eq]
  unfold ab Pl.tr sqL Pl.sr Pl.sc
  constructor
  ·rintro ⟨h3,h4,h5⟩
   cases hd:q.down
   ·simp only [hd,Bool.false_eq_true,if_false] at h3 h4 h5 ⊢
    refine⟨_,List.mem_map.2 ⟨(b.size/2-q.col).toNat,List.mem_range.2 (by omega),rfl⟩,?_⟩
    rw [beq_iff_eq,Prod.mk.injEq]
    omega
   ·simp only [hd,if_true] at h3 h4 h5 ⊢
    refine⟨_,List.mem_map.2 ⟨(b.size/2-q.row).toNat,List.mem_range.2 (by omega),rfl⟩,?_⟩
    rw [beq_iff_eq,Prod.mk.injEq]
    omega
  ·rintro ⟨x,hx,he⟩
   obtain⟨i,hi,rfl⟩:=List.mem_map.1 hx
   have hi:=List.mem_range.1 hi
   rw [beq_iff_eq,Prod.mk.injEq] at he
   cases hd:q.down<;>simp only [hd,Bool.false_eq_true,if_false,if_true] at he ⊢ <;>omega
 ·have h':(ag b).isEmpty =false:=by rw [Bool.eq_false_iff];intro e;exact h (List.isEmpty_iff.1 e)
  rw [if_neg h,h',if_neg (by decide),eR hb hon,xv hb hon hw]
theorem FI {b:Bd} (hb:bdB b=true) (lex:List Str) {rack:Str} (hr:aM rack=true) (q:Pl):bK b lex rack q=pD b lex rack q:=by
 unfold bK pD
 rw [d5 hb]
 cases hv:bs b q
 ·rfl
 ·obtain⟨hon,hw,h2,h12⟩:=be hv
  rw [jG hb hon,pZ hr (eE hw),Fr hb hv]
  unfold eZ kn bM
  rw [eR hb hon,xv hb hon hw,nN hb hon hw]
end
section
variable {g:Gm} {q:Pl} {n:Int}
theorem sg (h:std.eqI (aO g n) 0=true):az g=true:=by
 have h:=bV h
 unfold aO at h
 by_cases h1:az g=true
 ·exact h1
 ·rw [if_neg h1] at h;exact absurd h (by decide)
theorem Lc (h:az g=true):bdB g.bd=true∧aM (g.rk g.player)=true:=by
 unfold az dX kq bj at h
 simp only [Bool.and_eq_true,decide_eq_true_eq] at h
 exact⟨h.1.2.1,wC h.2.2.1.1.1 h.2.2.1.2.1 h.2.1.2.2.2.1⟩
theorem rT (h:std.eqI (aO g n) 0=true):bK g.bd g.lex (g.rk g.player) q=pD g.bd g.lex (g.rk g.player) q:=
 FI (Lc (sg h)).1 _ (Lc (sg h)).2 q
theorem mJ (h:std.eqI (aO g n) 0=true) (hv:bs g.bd q=true):cG g.ts g.bd q=bY g.ts g.bd q:=by
 unfold cG
 exact fy (Lc (sg h)).1 hv
theorem se1 (hc:bz g q n=0) (h:std.eqI (aO g n) 0=false):False:=by
 have h1:=dI h
 unfold bz at hc
 rw [if_neg h1] at hc
 exact h1 hc
theorem se2 (hc:bz g q n=0) (h:std.eqI (aO g n) 0=true) (h2:aT g=true):False:=by
 have h1:=bV h
 unfold bz at hc
 rw [if_pos h1,if_pos h2] at hc
 exact absurd hc (by decide)
theorem se3 (hc:bz g q n=0) (h:std.eqI (aO g n) 0=true) (h2:aT g=false) (h3:std.eqI (bK g.bd g.lex (g.rk g.player) q) 0=false) (h4:std.eqI (bK g.bd g.lex (g.rk g.player) q) 9=false∨std.eqI g.rule 0=true):False:=by
 have h1:=bV h
 have h3:=dI h3
 rw [rT h] at h3 h4
 unfold bz at hc
 rw [if_pos h1,if_neg (by rw [h2];simp),if_pos ⟨h3,h4.imp dI bV⟩] at hc
 exact h3 hc
theorem J2 (h:std.eqI (aO g n) 0=true) (h3:std.eqI (bK g.bd g.lex (g.rk g.player) q) 0=true∨std.eqI (bK g.bd g.lex (g.rk g.player) q) 9=true):bs g.bd q=true∧cL (g.rk g.player) (cb (aD g.bd q))=true:=by
 rw [rT h] at h3
 exact IB (h3.imp bV bV)
end
structure ER (g:Gm) (q:Pl):Prop where
 gm:GmL g
 wd:q.word.length≤1073741824
 own:GmP g
section
variable {g:Gm} {q:Pl} {n:Int}
structure SH (g:Gm):Prop where
 bd:bdB g.bd=true
 ts:tsB g.ts=true
 lex:lexB g.lex=true
 bag:bL g.bag=true
 rk : ∀k:Int,aM (g.rk k)=true
 sc : ∀k:Int, -100000≤g.sc k∧g.sc k≤100000
 clk : ∀k:Int, -36000≤g.clk k∧g.clk k≤36000
theorem Sn (h:az g=true):SH g:=by
 unfold az dX jp kq bj at h
 simp only [Bool.and_eq_true,decide_eq_true_eq] at h
 have hp:=br h.2.1.2.2.2.1
 have hg : ∀k:Int,g.rk k=g.racks.getD 0 []∨g.rk k=g.racks.getD 1 []∨g.rk k=[]:=fun k=>by
  unfold Gm.rk
  rcases (show k.toNat=0∨k.toNat=1∨2≤k.toNat by omega) with e | e | e
  ·rw [e];exact .inl rfl
  ·rw [e];exact .inr (.inl rfl)
  ·exact .inr (.inr (by rw [List.getD_eq_getElem?_getD,List.getElem?_eq_none (by have:=h.2.1.1;omega)];rfl))
 have hr : ∀k:Int,aM (g.rk k)=true:=fun k=>by
  rcases hg k with e | e | e<;>rw [e]
  ·exact h.2.2.1.1.1
  ·exact h.2.2.1.2.1
  ·rfl
 have s0:=br h.2.2.1.1.2.1
 have s1:=br h.2.2.1.2.2.1
 have k0:=br h.2.2.1.1.2.2
 have k1:=br h.2.2.1.2.2.2
 refine⟨h.1.2.1,h.1.1.1,h.1.1.2.1,h.1.2.2.2.2,hr,fun k=>?_,fun k=>?_⟩
 ·unfold Gm.sc
  rcases (show k.toNat=0∨k.toNat=1∨2≤k.toNat by omega) with e | e | e
  ·rw [e];exact s0
  ·rw [e];exact s1
  ·rw [List.getD_eq_getElem?_getD,List.getElem?_eq_none (by have:=h.2.1.2.1;omega)];decide
 ·unfold Gm.clk
  rcases (show k.toNat=0∨k.toNat=1∨2≤k.toNat by omega) with e | e | e
  ·rw [e];exact k0
  ·rw [e];exact k1
  ·rw [List.getD_eq_getElem?_getD,List.getElem?_eq_none (by have:=h.2.1.2.2.1;omega)];decide
structure SyG (g:Gm) (n:Int):Prop where
 fa:SaF g
 r2:g.racks.length=2
 ok:SH g
 c : -36000≤g.clk g.player-n
 nb:0≤n∧n≤36000
 s : -50000≤g.sc g.player∧g.sc g.player≤50000
theorem syg (h:std.eqI (aO g n) 0=true):SyG g n:=by
 have h:=bV h
 unfold aO at h
 by_cases h1:az g=true
 ·rw [if_pos h1] at h
  by_cases h2:g.over=true
  ·rw [if_pos h2] at h;exact absurd h (by decide)
  ·rw [if_neg h2] at h
   by_cases h3:(inR n 0 36000&&decide (-36000≤g.clk g.player-n))=true
   ·rw [if_pos h3] at h
    by_cases h4:(inR (g.sc 0) (-50000) 50000&&inR (g.sc 1) (-50000) 50000)=true
    ·rw [Bool.and_eq_true] at h3 h4
     have hf:=Ee h1
     have hp:=hf.ply
     refine⟨hf,?_,Sn h1,of_decide_eq_true h3.2,br h3.1,?_⟩
     ·unfold az kq at h1
      simp only [Bool.and_eq_true,decide_eq_true_eq] at h1
      exact h1.2.1.1
     ·rcases (show g.player=0∨g.player=1 by omega) with e | e<;>rw [e]
      ·exact br h4.1
      ·exact br h4.2
    ·rw [if_neg h4] at h;exact absurd h (by decide)
   ·rw [if_neg h3] at h;exact absurd h (by decide)
 ·rw [if_neg h1] at h;exact absurd h (by decide)
structure SyC (g:Gm) (q:Pl):Prop where
 pl:PlP g.bd q
 ts:er g.ts
 v:bs g.bd q=true
 w:cL (g.rk g.player) (cb (aD g.bd q))=true
 rs:bR (g.rk g.player) (av (bB (af g.bd q) (ab q)))=bi g q
 rk:aM (bi g q)=true
 sc:0≤cG g.ts g.bd q∧cG g.ts g.bd q≤440800000050
theorem syc (hG:SyG g n) (h:std.eqI (aO g n) 0=true) (h3:std.eqI (bK g.bd g.lex (g.rk g.player) q) 0=true∨std.eqI (bK g.bd g.lex (g.rk g.player) q) 9=true):SyC g q:=by
 obtain⟨h1,h2⟩:=J2 h h3
 have hts:=jm hG.ok.ts
 have hr:=hG.ok.rk g.player
 refine⟨my (by rw [d5 hG.ok.bd];exact h1),hts,h1,h2,qf hG.ok.bd hr h1 h2,(xx hG.ok.bd hr h1 h2).2.2,?_⟩
 rw [mJ h h1]
 exact Go.Proofs.YtjjonmhpgkahoaaGreatDoor.score_bd hts g.bd q (by have:=(be h1).2.2.2;omega)
theorem lK (hc:bz g q n=0):std.eqI (aO g n) 0=true∧SyG g n∧SyC g q:=by
 unfold bz at hc
 by_cases h1:aO g n=0
 ·have h:std.eqI (aO g n) 0=true:=by simpa using h1
  rw [if_pos h1] at hc
  refine⟨h,syg h,syc (syg h) h ?_⟩
  rw [rT h]
  by_cases h2:aT g=true
  ·rw [if_pos h2] at hc;exact absurd hc (by decide)
  ·rw [if_neg h2] at hc
   by_cases h3:pD g.bd g.lex (g.rk g.player) q=0
   ·exact .inl (by simpa using h3)
   ·by_cases h4:pD g.bd g.lex (g.rk g.player) q=9
    ·exact .inr (by simpa using h4)
    ·rw [if_pos ⟨h3,.inl h4⟩] at hc
     exact absurd hc h3
 ·rw [if_neg h1] at hc
  exact absurd hc h1
theorem DL (hG:SyG g n):aT (gy g q n)=(au (bi g q++g.bag.take (bQ g.bag (bi g q)))).isEmpty :=by
 have hp:=hG.fa.ply
 have hr:=hG.r2
 have e:(gy g q n).rk (1-(gy g q n).player)=au (bi g q++g.bag.take (bQ g.bag (bi g q))):=by
  show (g.racks.set g.player.toNat (au (bi g q++g.bag.take (bQ g.bag (bi g q))))).getD (1-(1-g.player)).toNat []=_
  rw [show (1-(1-g.player)).toNat =g.player.toNat by omega,List.getD_eq_getElem?_getD,List.getElem?_set_self (by omega)];rfl
 unfold aT
 rw [e]
 show ((g.bag.drop (bQ g.bag (bi g q))).isEmpty &&_)=_
 cases h:(au (bi g q++g.bag.take (bQ g.bag (bi g q)))).isEmpty with
 | false=>simp
 | true=>rw [Ek h];rfl
theorem sq4 (hc:bz g q n=0) (h:std.eqI (aO g n) 0=true) (h2:aT g=false) (h5:std.ltI 20000 (cG g.ts g.bd q)=true∨inR (g.sc g.player+cG g.ts g.bd q) (-50000) 50000=false):False:=by
 obtain⟨-,hG,hC⟩:=lK hc
 have e:=mJ h hC.v
 rw [e] at h5
 have hs:=hG.s
 have hc2:=hC.sc
 rw [e] at hc2
 have h1:=bV h
 unfold bz at hc
 rw [if_pos h1,if_neg (by rw [h2];simp)] at hc
 split at hc
 ·rename_i h6;exact h6.1 hc
 ·rw [if_pos (h5.imp ah fun h6=>by simp only [inR,Bool.and_eq_false_iff,decide_eq_false_iff_not] at h6;omega)] at hc
  exact absurd hc (by decide)
theorem Lu (hc:bz g q n=0):bY g.ts g.bd q≤20000:=by
 unfold bz at hc
 by_cases h1:aO g n=0
 ·rw [if_pos h1] at hc
  by_cases h2:aT g=true
  ·rw [if_pos h2] at hc;exact absurd hc (by decide)
  ·rw [if_neg h2] at hc
   split at hc
   ·rename_i h6;exact absurd hc h6.1
   ·split at hc
    ·exact absurd hc (by decide)
    ·rename_i h7;omega
 ·rw [if_neg h1] at hc
  exact absurd hc h1
theorem jI {α:Type} {L:List α} {i k:Nat} {x d:α} {P:α→Prop} (hx:P x) (h:P (L.getD k d)):P ((L.set i x).getD k d):=by
 rw [List.getD_eq_getElem?_getD,List.getElem?_set]
 rw [List.getD_eq_getElem?_getD] at h
 split
 ·split
  ·exact hx
  ·rename_i e1 e2
   subst e1
   rw [List.getElem?_eq_none (by omega)] at h
   exact h
 ·exact h
theorem IC (hc:bz g q n=0):rZ (gy g q n):=by
 obtain⟨h,hG,hC⟩:=lK hc
 have hsc:=hG.s
 have hs:=Lu hc
 have hc2:=hC.sc
 rw [mJ h hC.v] at hc2
 have hz : ∀k:Int, -1000000≤(gy g q n).sc k∧(gy g q n).sc k≤1000000:=fun k=>
  jI (P:=fun x:Int=> -1000000≤x∧x≤1000000) (L:=g.scores) (i:=g.player.toNat) (k:=k.toNat) (x:=g.sc g.player+bY g.ts g.bd q) (d:=0) (by show -1000000≤g.sc g.player+bY g.ts g.bd q∧g.sc g.player+bY g.ts g.bd q≤1000000;omega) (by have:=hG.ok.sc k;unfold Gm.sc at this;omega)
 refine⟨⟨hC.ts,?_,?_,fun k=>?_,fun k=>?_⟩,?_,fun k=>(hz k).1,fun k=>(hz k).2⟩
 ·show (g.racks.set g.player.toNat _).length =2
  rw [List.length_set];exact hG.r2
 ·show (g.clocks.set g.player.toNat _).length =2
  rw [List.length_set];exact hG.fa.k
 ·refine jI (P:=fun x:List UInt8=>x.length≤7) (L:=g.racks) (i:=g.player.toNat) (k:=k.toNat) (d:=[]) ?_ (bP (hG.ok.rk k))
  have h1:=bP hC.rk
  rw [ax,List.length_append,List.length_take]
  unfold bQ;omega
 ·exact jI (P:=fun x:Int=> -36000≤x) (L:=g.clocks) (i:=g.player.toNat) (k:=k.toNat) (x:=g.clk g.player-n) (d:=0) hG.c (by have:=hG.ok.clk k;unfold Gm.clk at this;omega)
 ·show (g.scores.set g.player.toNat _).length =2
  rw [List.length_set];exact hG.fa.s
end
def eN (g:Gm):Bool:=!g.over&&(!(g.rule==0)&&g.last.kind==1)
def cZ (g:Gm):List (List UInt8):=c7 g.bef g.last.play
def cC (g:Gm):List (List UInt8):=kn g.bef g.lex g.last.play
def vUp (g:Gm):Bool:=!(cC g).isEmpty
def dV (g:Gm):Int:=if vUp g then 0-g.last.score else if g.rule=3 then 5*((cZ g).length : Int) else 0
def oA (g:Gm):List UInt8:=g.last.drawn++g.bag
def qT (g:Gm):List UInt8:=bR (g.rk g.last.player) (au g.last.drawn)
def rj (g:Gm):List UInt8:=av (bB (af g.bef g.last.play) (ab g.last.play))
def qP (g:Gm):List UInt8:=au (qT g++rj g)
def pg (g:Gm):List (List UInt8):=g.racks.set g.last.player.toNat (qP g)
def wSc (g:Gm):List Int:=g.scores.set g.last.player.toNat (g.sc g.last.player-g.last.score)
def wd1 (g:Gm):Gm:=⟨g.ts,g.lex,g.bd0,g.secs,g.rule,⟨g.bd.size,g.bd.prem,g.last.before⟩,oA g,pg g,wSc g,g.clocks,g.player,g.last.zeros+1,dA 3 g.last.player,g.over⟩
def Ca (g:Gm):Bool:=g.last.zeros+1==6
def wSs (g:Gm):List Int:=if Ca g then fN (wd1 g) else wSc g
def wOv (g:Gm):Bool:=g.over||Ca g
def wZe (g:Gm):Int:=g.last.zeros+1
def wdG (g:Gm):Gm:=⟨g.ts,g.lex,g.bd0,g.secs,g.rule,⟨g.bd.size,g.bd.prem,g.last.before⟩,oA g,pg g,wSs g,g.clocks,g.player,wZe g,⟨3,g.last.player,⟨0,0,false,[]⟩,[],[],0,0⟩,wOv g⟩
def Uz (g g':Gm):AH:=[(0,.cells (gmK g' (.osl 1) (.osl 2) (.osl 3) (.osl 7) (.osl 8) (.osl 6)) 41),(1,.own [.i .i64] g.ts.values 2),(2,.own [.i .i64] g.ts.counts 2),(3,.own [.s] g.lex 9),(4,.own [.s] g.racks 9),
 (5,.own [.i .i64] g.scores 2),(6,.own [.i .i64] g.clocks 2),(7,.own [.s] g'.racks 9),(8,.own [.i .i64] g'.scores 2)]
structure VdP (g:Gm):Prop where
 pl:PlP g.bef g.last.play
 ws:WsP g.lex
 sc : -1000000≤g.last.score∧g.last.score≤1000000
structure WdP (g:Gm):Prop where
 pl:PlP g.bef g.last.play
 r2:g.racks.length=2
 s2:g.scores.length=2
 p:0≤g.last.player∧g.last.player≤1
 rk:(g.rk g.last.player).length ≤7
 dr:g.last.drawn.length≤120
 bag:g.bag.length≤120
 sc : -1000000≤g.sc g.last.player∧g.sc g.last.player≤1000000
 so : -1000000≤g.last.score∧g.last.score≤1000000
 z:0≤g.last.zeros∧g.last.zeros≤5
 set:rZ (wd1 g)
section
variable {g:Gm}
theorem QJ (h:WdP g):(qT g).length ≤7:=Nat.le_trans (eH _ _).length_le h.rk
theorem Tk (h:WdP g):(bB (af g.bef g.last.play) (ab g.last.play)).length ≤15:=Nat.le_trans (lU _ _) h.pl.on.len
theorem Te (h:WdP g):(rj g).length ≤15:=Nat.le_trans (Nat.le_of_eq (gM _)) (Tk h)
theorem EG:std.ltI 0 (std.len (cC g))=vUp g:=by
 unfold vUp
 show decide ((0:Int)<((cC g).length : Int))=_
 cases cC g with
 | nil=>rfl
 | cons x r=>simp
theorem S5 (h:std.ltI 0 (std.len (cC g))=true):0-g.last.score=dV g:=by
 rw [EG] at h
 rw [dV,if_pos h]
theorem Ro (h:std.ltI 0 (std.len (cC g))=false) (h2:std.eqI g.rule 3=true):5*((cZ g).length : Int)=dV g:=by
 rw [EG] at h
 rw [dV,h,if_neg (by simp),if_pos (beq_iff_eq.1 h2)]
theorem VI (h:std.ltI 0 (std.len (cC g))=false) (h2:std.eqI g.rule 3=false):0=dV g:=by
 rw [EG] at h
 rw [dV,h,if_neg (by simp),if_neg (beq_eq_false_iff_ne.1 h2)]
theorem RM (h:std.eqI (std.add g.last.zeros 1) 6=true):fN (wd1 g)=wSs g:=(if_pos h).symm
theorem Tx (h:std.eqI (std.add g.last.zeros 1) 6=false):wSc g=wSs g:=(if_neg (by unfold Ca;rw [show (g.last.zeros+1==6)=false from h];simp)).symm
theorem TU (h:std.eqI (std.add g.last.zeros 1) 6=true):true=wOv g:=by
 unfold wOv Ca
 rw [show (g.last.zeros+1==6)=true from h];simp
theorem T7 (h:std.eqI (std.add g.last.zeros 1) 6=false):g.over=wOv g:=by
 unfold wOv Ca
 rw [show (g.last.zeros+1==6)=false from h];simp
end
theorem oc : ∀(a b:Str),(bb a b).2=[]→(bb a b).1.length + b.length=a.length
 | [],b,h=>by
   rw [bb] at h ⊢
   simp only at h ⊢
   rw [h];rfl
 | x::a,[],_=>by
   have:=oc a [] (kW a)
   rw [bb]
   simp only [List.length_cons,List.length_nil] at this ⊢
   omega
 | x::a,y::b,h=>by
   rw [bb] at h ⊢
   by_cases hx:y=x
   ·rw [if_pos hx] at h ⊢
    have:=oc a b h
    simp only [List.length_cons]
    omega
   ·rw [if_neg hx] at h ⊢
    have:=oc a (y::b) h
    simp only [List.length_cons] at this ⊢
    omega
theorem pV {a b:Str} (h:takeB a b=true):(bR a b).length + b.length=a.length:=oc a b (List.isEmpty_iff.1 h)
def rSc (g:Gm) (k:Int):List Int:=g.scores.set g.last.player.toNat (g.sc g.last.player+k)
def rf1 (g:Gm) (k:Int):Gm:=⟨g.ts,g.lex,g.bd0,g.secs,g.rule,g.bd,g.bag,g.racks,rSc g k,g.clocks,if g.rule=2 then 1-g.player else g.player,if g.rule=2 then g.zeros+1 else g.zeros,if g.rule=2 then dA 3 g.player else dA 0 0,g.over⟩
def rfG (g:Gm) (k:Int):Gm:=if aT g then { rf1 g k with scores:=fN (rf1 g k),over:=true } else rf1 g k
def chC (g:Gm) (n:Int):Int:=if aO g n=0 then (if eN g then 0 else 6) else aO g n
def chG (g:Gm) (n:Int):Gm:=if vUp g then wdG (bp g n) else rfG (bp g n) (dV g)
section
variable {g:Gm} {n:Int}
structure ChF (g:Gm) (n:Int):Prop where
 act:std.eqI (aO g n) 0=true
 sy:SyG g n
 can:eN g=true
 ok:eg g=true
 gm:az g=true
theorem chf (h:std.eqI (aO g n) 0=true) (hc:eN g=true):ChF g n:=by
 refine⟨h,syg h,hc,?_,sg h⟩
 have hg:=sg h
 unfold az at hg
 simp only [Bool.and_eq_true] at hg
 have hl:=hg.2.2.2.2.1
 unfold eN at hc
 simp only [Bool.and_eq_true,beq_iff_eq] at hc
 have hk:g.last.kind=1:=hc.2.2
 unfold c9 at hl
 rw [if_neg (by omega),if_neg (by omega),if_pos hk] at hl
 exact hl
structure PkF (g:Gm):Prop where
 pl:g.last.player=1-g.player
 ok:okB g.bef g.last.play=true
 z:0≤g.last.zeros∧g.last.zeros≤5
 gz:g.zeros=0
 dr:bL g.last.drawn=true
 tk:takeB (g.rk g.last.player) (au g.last.drawn)=true
 fr:((g.rk g.last.player).length : Int)-g.last.drawn.length+(dv (af g.bef g.last.play) (ab g.last.play)).length ≤7
 so:g.last.score=lj g.ts (af g.bef g.last.play) (ab g.last.play)
 s2:g.last.score≤20000
theorem pkf (h:eg g=true):PkF g:=by
 unfold eg at h
 simp only [Bool.and_eq_true,beq_iff_eq,decide_eq_true_eq] at h
 obtain⟨a1,a2,a3,a4,a5,a6,a7,a8,a9,a10,a11,a12⟩:=h
 exact⟨a1,a2,br a3,a4,a5,a6,a9,a11,a12⟩
theorem zY (h:ChF g n):0≤g.last.score:=by
 have hk:=pkf h.ok
 have hts:=jm h.sy.ok.ts
 have hb:bdB g.bef=true:=by have:=hk.ok;unfold okB at this;rw [Bool.and_eq_true] at this;exact this.1
 have hv:bs g.bef g.last.play=true:=by rw [←d5 hb];exact hk.ok
 rw [hk.so,fy hb hv]
 exact (Go.Proofs.YtjjonmhpgkahoaaGreatDoor.score_bd hts g.bef g.last.play (by have:=(be hv).2.2.2;omega)).1
theorem RK (h:ChF g n) (hw:WsP g.lex):VdP g:=⟨my (pkf h.ok).ok,hw,by have:=zY h;omega,by have:=(pkf h.ok).s2;omega⟩
theorem Az (h:ChF g n):0≤g.last.player∧g.last.player≤1:=by
 have h1:=h.sy.fa.ply
 have h2:=(pkf h.ok).pl
 omega
theorem L4 (h:ChF g n):(qP g).length ≤7:=by
 have hk:=pkf h.ok
 have h1:=pV hk.tk
 rw [ax] at h1
 have h2:=hk.fr
 have h3:(rj g).length =(dv (af g.bef g.last.play) (ab g.last.play)).length :=by
  unfold rj
  rw [gM,bB,List.length_map]
 unfold qP
 rw [ax,List.length_append,h3]
 have h4:(qT g).length =(bR (g.rk g.last.player) (au g.last.drawn)).length :=rfl
 omega
theorem Kp (h:ChF g n) (k:Int) : -36000≤(bp g n).clk k:=
 jI (P:=fun x:Int=> -36000≤x) (L:=g.clocks) (i:=g.player.toNat) (k:=k.toNat) (x:=g.clk g.player-n) (d:=0) h.sy.c (by have:=h.sy.ok.clk k;unfold Gm.clk at this;omega)
theorem FS (h:ChF g n):rZ (wd1 (bp g n)):=by
 have hts:=jm h.sy.ok.ts
 have hso:=zY h
 have hs2:=(pkf h.ok).s2
 have hz : ∀k:Int, -1000000≤(wd1 (bp g n)).sc k∧(wd1 (bp g n)).sc k≤1000000:=fun k=>
  jI (P:=fun x:Int=> -1000000≤x∧x≤1000000) (L:=g.scores) (i:=g.last.player.toNat) (k:=k.toNat) (x:=g.sc g.last.player-g.last.score) (d:=0) (by have:=h.sy.ok.sc g.last.player;show -1000000≤g.sc g.last.player-g.last.score∧g.sc g.last.player-g.last.score≤1000000;omega) (by have:=h.sy.ok.sc k;unfold Gm.sc at this;omega)
 refine⟨⟨hts,?_,?_,fun k=>?_,Kp h⟩,?_,fun k=>(hz k).1,fun k=>(hz k).2⟩
 ·show (g.racks.set _ _).length =2
  rw [List.length_set];exact h.sy.r2
 ·show (g.clocks.set _ _).length =2
  rw [List.length_set];exact h.sy.fa.k
 ·exact jI (P:=fun x:List UInt8=>x.length≤7) (L:=g.racks) (i:=g.last.player.toNat) (k:=k.toNat) (d:=[]) (show (qP g).length ≤7 from L4 h) (bP (h.sy.ok.rk k))
 ·show (g.scores.set _ _).length =2
  rw [List.length_set];exact h.sy.fa.s
theorem Sj (h:ChF g n):WdP (bp g n):=by
 have hk:=pkf h.ok
 have hs:=h.sy.ok.sc g.last.player
 have hso:=zY h
 refine⟨my hk.ok,h.sy.r2,h.sy.fa.s,(show 0≤g.last.player∧g.last.player≤1 from Az h),bP (h.sy.ok.rk _),eF hk.dr,eF h.sy.ok.bag,?_,?_,hk.z,FS h⟩
 ·show -1000000≤g.sc g.last.player∧g.sc g.last.player≤1000000
  omega
 ·have:=hk.s2
  show -1000000≤g.last.score∧g.last.score≤1000000
  omega
theorem EM (h:ChF g n) : -20000≤dV g∧dV g≤100:=by
 have h1:=zY h
 have h2:=(pkf h.ok).s2
 have h3:=pU g.bef g.last.play
 have h4:=(my (pkf h.ok).ok).on.len
 have h5:(cZ g).length ≤(ab g.last.play).word.length + 1:=h3
 unfold dV
 split
 ·omega
 ·split<;>omega
theorem Gd (h:ChF g n):rZ (rf1 (bp g n) (dV g)):=by
 have hts:=jm h.sy.ok.ts
 have hp:=EM h
 have hz : ∀k:Int, -1000000≤(rf1 (bp g n) (dV g)).sc k∧(rf1 (bp g n) (dV g)).sc k≤1000000:=fun k=>
  jI (P:=fun x:Int=> -1000000≤x∧x≤1000000) (L:=g.scores) (i:=g.last.player.toNat) (k:=k.toNat) (x:=g.sc g.last.player+dV g) (d:=0) (by have:=h.sy.ok.sc g.last.player;show -1000000≤g.sc g.last.player+dV g∧g.sc g.last.player+dV g≤1000000;omega) (by have:=h.sy.ok.sc k;unfold Gm.sc at this;omega)
 refine⟨⟨hts,h.sy.r2,?_,fun k=>bP (h.sy.ok.rk k),Kp h⟩,?_,fun k=>(hz k).1,fun k=>(hz k).2⟩
 ·show (g.clocks.set _ _).length =2
  rw [List.length_set];exact h.sy.fa.k
 ·show (g.scores.set _ _).length =2
  rw [List.length_set];exact h.sy.fa.s
end
theorem Ru (s:List UInt8):s.isEmpty=std.eqS s []:=by cases s<;>rfl
def om (g:Gm) (k n:Int):Gm:=⟨g.ts,g.lex,g.bd0,g.secs,g.rule,g.bd,g.bag,g.racks,g.scores,ckL g n,1-g.player,g.zeros+1,dA k g.player,g.over⟩
def ja (g:Gm):Bool:=aT g||g.zeros+1==6
def l5 (g:Gm) (k n:Int):Gm:=if ja g then eX (om g k n) else om g k n
def eM (g:Gm) (n:Int):Gm:=if aO g n=0 then l5 g 3 n else gm0
def exC (a b t:List UInt8):Int:=if bL a&&(aM b&&cu t) then (if t.isEmpty then 2 else if takeB b t then (if a.length<7 then 6 else 0) else 3) else 1
def exR (a b t:List UInt8):List UInt8:=if exC a b t=0 then au (bR b t++a.take t.length) else []
def exB (a b t:List UInt8):List UInt8:=if exC a b t=0 then a.drop t.length++t else []
def xtC (g:Gm) (t:List UInt8) (n:Int):Int:=if cu t then (if aO g n=0 then exC g.bag (g.rk g.player) t else aO g n) else 1
def xtG (g:Gm) (t:List UInt8):Gm:=⟨g.ts,g.lex,g.bd0,g.secs,g.rule,g.bd,exB g.bag (g.rk g.player) t,g.racks.set g.player.toNat (exR g.bag (g.rk g.player) t),g.scores,g.clocks,g.player,g.zeros,g.last,g.over⟩
def xtR (g:Gm) (t:List UInt8) (n:Int):Gm:=if xtC g t n=0 then l5 (xtG g t) 2 n else gm0
section
variable {g:Gm} {a b t:List UInt8} {k n:Int}
structure ExF (a b t:List UInt8):Prop where
 ha:bL a=true
 hb:aM b=true
 ht:cu t=true
 ne:t≠[]
 tk:takeB b t=true
 la:7≤a.length∧a.length≤120
 lb:b.length≤7
 lt:t.length≤b.length
 lr:(bR b t).length + t.length=b.length
theorem J8 (h:exC a b t=0):ExF a b t:=by
 unfold exC at h
 by_cases h1:(bL a&&(aM b&&cu t))=true
 ·rw [if_pos h1] at h
  simp only [Bool.and_eq_true] at h1
  by_cases h2:t.isEmpty=true
  ·rw [if_pos h2] at h;exact absurd h (by decide)
  ·rw [if_neg h2] at h
   by_cases h3:takeB b t=true
   ·rw [if_pos h3] at h
    by_cases h4:a.length<7
    ·rw [if_pos h4] at h;exact absurd h (by decide)
    ·have h5:=pV h3
     have h6:=bP h1.2.1
     exact⟨h1.1,h1.2.1,h1.2.2,by simpa using h2,h3,⟨by omega,eF h1.1⟩,h6,by omega,h5⟩
   ·rw [if_neg h3] at h;exact absurd h (by decide)
 ·rw [if_neg h1] at h;exact absurd h (by decide)
theorem tW (h:exC a b t=0):exR a b t=au (bR b t++a.take t.length):=if_pos h
theorem BY (h:exC a b t=0):exB a b t=a.drop t.length++t:=if_pos h
theorem Bb (h:exC a b t=0):(exR a b t).length ≤7:=by
 have hf:=J8 h
 have:=hf.lb;have:=hf.lr
 rw [tW h,ax,List.length_append,List.length_take];omega
theorem BE (h:exC a b t=0):(exB a b t).length =a.length:=by
 have hf:=J8 h
 have:=hf.la;have:=hf.lt;have:=hf.lb
 rw [BY h,List.length_append,List.length_drop];omega
theorem rM (h:xtC g t n=0):std.eqI (aO g n) 0=true∧cu t=true∧exC g.bag (g.rk g.player) t=0:=by
 unfold xtC at h
 by_cases h1:cu t=true
 ·rw [if_pos h1] at h
  by_cases h2:aO g n=0
  ·rw [if_pos h2] at h
   exact⟨by simpa using h2,h1,h⟩
  ·rw [if_neg h2] at h;exact absurd h h2
 ·rw [if_neg h1] at h;exact absurd h (by decide)
theorem Dd (hG:SyG g n) {r:List (List UInt8)} {b:List UInt8} (hr:r.length=2) (h7 : ∀k:Int,(r.getD k.toNat []).length ≤7):rZ (om ⟨g.ts,g.lex,g.bd0,g.secs,g.rule,g.bd,b,r,g.scores,g.clocks,g.player,g.zeros,g.last,g.over⟩ k n):=by
 have hz : ∀k:Int, -1000000≤g.sc k∧g.sc k≤1000000:=fun k=>by
  have:=hG.ok.sc k
  omega
 refine⟨⟨jm hG.ok.ts,hr,?_,fun k=>h7 k,fun k=>?_⟩,hG.fa.s,fun k=>(hz k).1,fun k=>(hz k).2⟩
 ·show (g.clocks.set g.player.toNat _).length =2
  rw [List.length_set];exact hG.fa.k
 ·exact jI (P:=fun x:Int=> -36000≤x) (L:=g.clocks) (i:=g.player.toNat) (k:=k.toNat) (x:=g.clk g.player-n) (d:=0) hG.c (by have:=hG.ok.clk k;unfold Gm.clk at this;omega)
theorem P3 (h:(exR a b t).length ≤7) (hr : ∀k:Int,(g.rk k).length ≤7) (i:Nat) (k:Int):((g.racks.set i (exR a b t)).getD k.toNat []).length ≤7:=
 jI (P:=fun x:List UInt8=>x.length≤7) (L:=g.racks) (i:=i) (k:=k.toNat) (d:=[]) h (hr k)
end
set_option maxHeartbeats 20000000
structure ExP (a b t:List UInt8):Prop where
 la:a.length≤274877906944
 lb:b.length≤274877906944
 lt:t.length≤274877906944
section
variable {a b t:List UInt8} {g:Gm} {k n:Int}
theorem wh (a b t:List UInt8):exC a b t=if bL a&&(aM b&&cu t) then (if std.eqS t [] then 2 else if takeB b t then (if std.ltI (std.lenS a) 7 then 6 else 0) else 3) else 1:=by
 unfold exC
 rw [Ru]
 have e:(std.ltI (std.lenS a) 7=true)↔a.length<7:=by
  show decide ((a.length:Int)<7)=true↔_
  rw [decide_eq_true_eq];omega
 simp only [e]
theorem PO (h:exC a b t≠0) : []=exR a b t:=(if_neg h).symm
theorem Qf (h:exC a b t≠0) : []=exB a b t:=(if_neg h).symm
theorem zn1 (he:ja g=false) (h:aT g=true):False:=by unfold ja at he;rw [h] at he;cases he
theorem zn2 (he:ja g=false) (h:std.eqI (std.add g.zeros 1) 6=true):False:=by
 unfold ja at he
 rw [show (g.zeros+1==6)=true from h,Bool.or_true] at he;cases he
theorem zy1 (he:ja g=true) (h1:aT g=false) (h2:std.eqI (std.add g.zeros 1) 6=false):False:=by
 unfold ja at he
 rw [h1,show (g.zeros+1==6)=false from h2] at he;cases he
end
def co (p:Pr):aa:=fsp (ac aS (ac aS (a1 aS))) (fun (a,b,t)=>ExP a b t) (fun (a,b,t)=>.tup [.s (exR a b t),.s (exB a b t),.i .i64 (exC a b t)])
theorem gL:FOk Tryz.prog 107 (co std):=by
 refine FOk.go (c:=cx std [(73,du std),(185,iO std),(106,bU std),(126,bo std),(74,aQ std)] [] 0) (ae (.cons lC (.cons tx (.cons fI (.cons dR (.cons cT .nil))))) .nil) mixed Tryz.func107 rfl rfl rfl (by kernel_rfl) ?_
 rintro ⟨a,b,t⟩ hp
 dsimp only at hp
 refine⟨rfl,?_⟩
 unfold du iO bU bo aQ
 generalize hP:std=p,hB0:exR=B0,hB1:exB=B1,hB2:exC=B2,hB3:bL=B3,hB4:aM=B4,hB5:cu=B5,hB6:bR=B6,hB7:takeB=B7,hB8:au=B8
 cbv
 repeat' first|refine fun (_:Unit)=>?_;cbv|refine aI2 (fun h=>?_) (fun h=>?_)<;>cbv|refine aI2 ?_ ?_|refine Or.inl (fun (_:Unit)=>?_);cbv
 all_goals subst hP hB0 hB1 hB2 hB3 hB4 hB5 hB6 hB7 hB8
 all_goals try exact fin
 all_goals try (have hc:exC a b t=0:=by rw [wh];simp only [*]<;>simp)
 all_goals try (have hF:=J8 hc;have h1:=hF.la;have h2:=hF.lb;have h3:=hF.lt;have h4:=hF.lr)
 all_goals first
  | exact aR hp.la
  | exact aR hp.lb
  | exact aR hp.lt
  | exact PO (by rw [wh];simp only [*]<;>simp)
  | exact Qf (by rw [wh];simp only [*]<;>simp)
  | (rw [wh];simp only [*]<;>simp;done)
  | (show (t.length:Int)≤(a.length:Int);omega)
  | exact (tW hc).symm
  | exact (BY hc).symm
  | exact an (by show _≤((bR b t).length : Int)+((a.take t.length).length : Int)∧((bR b t).length : Int)+((a.take t.length).length : Int)≤_;rw [List.length_take];omega)
  | exact aR (n:=(bR b t++a.take t.length).length) (by rw [List.length_append,List.length_take];omega)
  | exact an (by show _≤((a.drop t.length).length : Int)+(t.length:Int)∧((a.drop t.length).length : Int)+(t.length:Int)≤_;rw [List.length_drop];omega)
  | skip
def P7 (q:Pl):Bool:=inR q.row 0 14&&(inR q.col 0 14&&eJ q.word)
structure ZrP (g:Gm) (k n:Int):Prop where
 ck:CkP g n
 pl:Rq g
 z : -10≤g.zeros∧g.zeros≤10
structure ZrN (g:Gm) (k n:Int):Prop where
 b:ZrP g k n
 e:ja g=false
structure ZrY (g:Gm) (k n:Int):Prop where
 b:ZrP g k n
 e:ja g=true
 s:rZ (om g k n)
def zPl (g:Gm):Int:=1-g.player
def zZr (g:Gm):Int:=g.zeros+1
def zSc (g:Gm) (k n:Int):List Int:=fN (om g k n)
def Vi (g g':Gm):AH:=[(0,.cells (gmK g' (.osl 1) (.osl 2) (.osl 3) (.osl 4) (.osl 7) (.osl 8)) 41),(1,.own [.i .i64] g.ts.values 2),(2,.own [.i .i64] g.ts.counts 2),(3,.own [.s] g.lex 9),(4,.own [.s] g.racks 9),
 (5,.own [.i .i64] g.scores 2),(6,.own [.i .i64] g.clocks 2),(7,.own [.i .i64] g'.scores 2),(8,.own [.i .i64] g'.clocks 2)]
def cA (p:Pr):bX:=msp (mG (ac aI (a1 aI))) (fun (g,k,n)=>ZrN g k n) (fun (g,k,n)=>.tup []) (fun (g,k,n)=>SM g ⟨g.ts,g.lex,g.bd0,g.secs,g.rule,g.bd,g.bag,g.racks,g.scores,ckL g n,zPl g,zZr g,⟨k,g.player,⟨0,0,false,[]⟩,[],[],0,0⟩,g.over⟩)
theorem ip:MOk Tryz.prog 109 (cA std):=by
 refine MOk.go (c:=cx std [(121,bH std)] [(131,bF std),(132,bc std)] 7) (ae (.cons eP .nil) (.cons eT (.cons dy .nil))) mixed Tryz.func109 rfl rfl (by kernel_rfl) ?_
 rintro ⟨g,k,n⟩ hp
 dsimp only at hp
 refine⟨rfl,?_⟩
 unfold bH bF bc
 generalize hP:std=p,hB0:ckL=B0,hB1:aT=B1,hB2:fN=B2,hB3:zPl=B3,hB4:zZr=B4,hB5:zSc=B5
 cbv
 repeat' first|refine fun (_:Unit)=>?_;cbv|refine aI2 (fun h=>?_) (fun h=>?_)<;>cbv|refine aI2 ?_ ?_|refine Or.inl (fun (_:Unit)=>?_);cbv
 all_goals subst hP hB0 hB1 hB2 hB3 hB4 hB5
 all_goals try exact fin
 all_goals try (exfalso;exact zn1 hp.e ‹_›)
 all_goals try (exfalso;exact zn2 hp.e ‹_›)
 ·exact hp.b.pl
 ·exact hp.b.ck
 ·exact an (by show _≤1-g.player∧1-g.player≤_;rcases hp.b.pl.ply with h | h<;>omega)
 ·exact an (by show _≤g.zeros+1∧g.zeros+1≤_;have:=hp.b.z;omega)
def ff (p:Pr):bX:=msp (mG (ac aI (a1 aI))) (fun (g,k,n)=>ZrY g k n) (fun (g,k,n)=>.tup []) (fun (g,k,n)=>Vi g ⟨g.ts,g.lex,g.bd0,g.secs,g.rule,g.bd,g.bag,g.racks,zSc g k n,ckL g n,zPl g,zZr g,⟨k,g.player,⟨0,0,false,[]⟩,[],[],0,0⟩,true⟩)
theorem oX:MOk Tryz.prog 109 (ff std):=by
 refine MOk.go (c:=cx std [(121,bH std)] [(131,bF std),(132,bc std)] 7) (ae (.cons eP .nil) (.cons eT (.cons dy .nil))) mixed Tryz.func109 rfl rfl (by kernel_rfl) ?_
 rintro ⟨g,k,n⟩ hp
 dsimp only at hp
 refine⟨rfl,?_⟩
 unfold bH bF bc
 generalize hP:std=p,hB0:ckL=B0,hB1:aT=B1,hB2:fN=B2,hB3:zPl=B3,hB4:zZr=B4,hB5:zSc=B5
 cbv
 repeat' first|refine fun (_:Unit)=>?_;cbv|refine aI2 (fun h=>?_) (fun h=>?_)<;>cbv|refine aI2 ?_ ?_|refine Or.inl (fun (_:Unit)=>?_);cbv
 all_goals subst hP hB0 hB1 hB2 hB3 hB4 hB5
 all_goals try exact fin
 all_goals try (exfalso;exact zy1 hp.e ‹_› ‹_›)
 all_goals try exact hp.s
 ·exact hp.b.pl
 ·exact hp.b.ck
 ·exact an (by show _≤1-g.player∧1-g.player≤_;rcases hp.b.pl.ply with h | h<;>omega)
 ·exact an (by show _≤g.zeros+1∧g.zeros+1≤_;have:=hp.b.z;omega)
set_option maxHeartbeats 4000000
def cw (p:Pr):aa:=fsp (a1 (aP aGm)) (fun g=>True) (fun g=>.b (eN g))
theorem ig:FOk Tryz.prog 142 (cw std):=by
 refine FOk.go (c:=cx std [] [] 0) (ae .nil .nil) mixed Tryz.func142 rfl rfl rfl (by kernel_rfl) ?_
 rintro g hp
 refine⟨rfl,?_⟩
 generalize hP:std=p,hB0:eN=B0
 cbv
 repeat' first|refine fun (_:Unit)=>?_;cbv|refine aI2 (fun h=>?_) (fun h=>?_)<;>cbv|refine aI2 ?_ ?_|refine Or.inl (fun (_:Unit)=>?_);cbv
 all_goals subst hP hB0
 all_goals try exact fin
 ·have e1:g.over=false:=by assumption
  have e2:(g.rule==0)=false:=h
  unfold eN;rw [e1,e2];rfl
 ·have e2:(g.rule==0)=true:=h
  unfold eN;rw [e2];simp
 ·unfold eN;rw [show g.over=true from h];rfl
def cn (p:Pr):aa:=fsp (a1 (aP aGm)) (fun g=>VdP g) (fun g=>.agg [.osl 0,.osl 1,.b (vUp g),.i .i64 (dV g)]) (fun g=>[(0,.own [.s] (cZ g) 9),(1,.own [.s] (cC g) 9)])
theorem gE:FOk Tryz.prog 143 (cn std):=by
 refine FOk.go (c:=cx std [(224,dY std),(225,gg std),(215,f0 std)] [] 0) (ae (.cons mo (.cons qN (.cons qU .nil))) .nil) mixed Tryz.func143 rfl rfl rfl (by kernel_rfl) ?_
 rintro g hp
 refine⟨rfl,?_⟩
 unfold dY gg f0
 generalize hP:std=p,hB0:vUp=B0,hB1:dV=B1,hB2:cZ=B2,hB3:cC=B3,hB4:c7=B4,hB5:kn=B5
 cbv
 repeat' first|refine fun (_:Unit)=>?_;cbv|refine aI2 (fun h=>?_) (fun h=>?_)<;>cbv|refine aI2 ?_ ?_|refine Or.inl (fun (_:Unit)=>?_);cbv
 all_goals subst hP hB0 hB1 hB2 hB3 hB4 hB5
 all_goals try exact fin
 all_goals have hw:=pU g.bef g.last.play
 all_goals have ho:=hp.pl.on.len
 all_goals have hs:=hp.sc
 ·exact hp.pl
 ·exact⟨hp.pl,hp.ws⟩
 ·exact an (by show _≤0-g.last.score∧0-g.last.score≤_;omega)
 ·exact EG
 ·exact S5 ‹_›
 ·exact an (by show _≤5*((c7 g.bef g.last.play).length : Int)∧5*((c7 g.bef g.last.play).length : Int)≤_;omega)
 ·exact EG
 ·exact Ro ‹_› ‹_›
 ·exact EG
 ·exact VI ‹_› ‹_›
def ee (p:Pr):bX:=msp (mG a0) (fun (g,_u)=>WdP g) (fun (g,_u)=>.tup []) (fun (g,_u)=>Uz g ⟨g.ts,g.lex,g.bd0,g.secs,g.rule,⟨g.bd.size,g.bd.prem,g.last.before⟩,oA g,pg g,wSs g,g.clocks,g.player,wZe g,⟨3,g.last.player,⟨0,0,false,[]⟩,[],[],0,0⟩,wOv g⟩)
theorem m4:MOk Tryz.prog 137 (ee std):=by
 refine MOk.go (c:=cx std [(224,dY std),(125,aJ std),(126,bo std),(74,aQ std),(127,bG std),(128,cD std),(194,dJ std)] [(132,bc std)] 7) (ae (.cons mo (.cons cB (.cons dR (.cons cT (.cons eQ (.cons iW (.cons l9 .nil))))))) (.cons dy .nil)) mixed Tryz.func137 rfl rfl (by kernel_rfl) ?_
 rintro ⟨g,_u⟩ hp
 dsimp only at hp
 refine⟨rfl,?_⟩
 unfold dY aJ bo aQ bG cD dJ bc
 generalize hP:std=p,hB0:oA=B0,hB1:pg=B1,hB2:wSs=B2,hB3:wZe=B3,hB4:wOv=B4,hB5:au=B5,hB6:bR=B6,hB7:takeB=B7,hB8:av=B8,hB9:bB=B9,hB10:af=B10,hB11:ab=B11,hB12:fN=B12
 cbv
 repeat' first|refine fun (_:Unit)=>?_;cbv|refine aI2 (fun h=>?_) (fun h=>?_)<;>cbv|refine aI2 ?_ ?_|refine Or.inl (fun (_:Unit)=>?_);cbv
 all_goals subst hP hB0 hB1 hB2 hB3 hB4 hB5 hB6 hB7 hB8 hB9 hB10 hB11 hB12
 all_goals try exact fin
 all_goals (have h1:=QJ hp;have h2:=Tk hp;have h3:=Te hp;have h4:=hp.p;have h5:=hp.r2;have h6:=hp.s2;have h7:=hp.dr;have h8:=hp.bag;have h9:=hp.sc;have b1:=hp.so;have b2:=hp.z)
 all_goals first
  | exact hp.pl.fit
  | exact hp.pl.on
  | exact⟨h4.1,by show g.last.player<(g.racks.length:Int);omega⟩
  | exact⟨h4.1,by show g.last.player<(g.scores.length:Int);omega⟩
  | exact aR (Nat.le_trans h7 (by decide))
  | exact aR (Nat.le_trans hp.rk (by decide))
  | exact aR (Nat.le_trans h2 (by decide))
  | exact aR (n:=(au g.last.drawn).length) (by rw [ax];omega)
  | exact aR (n:=g.scores.length) (by omega)
  | exact aR (n:=(qT g++rj g).length) (by rw [List.length_append];omega)
  | (show (0:Int)+(g.racks.length:Int)≤274877906944;omega)
  | exact an (by show _≤(g.last.drawn.length:Int)+(g.bag.length:Int)∧(g.last.drawn.length:Int)+(g.bag.length:Int)≤_;omega)
  | exact an (by show _≤((qT g).length : Int)+((rj g).length : Int)∧((qT g).length : Int)+((rj g).length : Int)≤_;omega)
  | exact an (by show _≤g.sc g.last.player-g.last.score∧g.sc g.last.player-g.last.score≤_;omega)
  | exact an (by show _≤g.last.zeros+1∧g.last.zeros+1≤_;omega)
  | exact hp.set
  | exact TU ‹_›
  | exact T7 ‹_›
  | exact congrArg (fun L=>Ob.own [.i .i64] L 2) (RM ‹_›)
  | exact congrArg (fun L=>Ob.own [.i .i64] L 2) (Tx ‹_›)
  | rfl
  | skip
end Ax
end Go.Proofs.YtjjonmhpgkahoaaGreatDoor
