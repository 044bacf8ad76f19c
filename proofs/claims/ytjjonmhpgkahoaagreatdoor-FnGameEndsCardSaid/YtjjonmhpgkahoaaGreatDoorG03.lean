/-
  Who wins, what a clock costs, what is unseen: walked; The plain walker: a loop's head, reckoned slot by slot; If nobody plays, a game ends, with the changes that were told before.
  Conditions: none.
-/
import Derived.Test.YtjjonmhpgkahoaaGreatDoorE45
import Derived.Test.YtjjonmhpgkahoaaGreatDoorE44
import Derived.Test.YtjjonmhpgkahoaaGreatDoorG02
import Derived.Test.YtjjonmhpgkahoaaGreatDoorE10
import Derived.Test.YtjjonmhpgkahoaaGreatDoorE34
set_option linter.unusedSimpArgs false
set_option linter.unusedVariables false
namespace Go.Proofs.YtjjonmhpgkahoaaGreatDoor
namespace Ax
set_option maxRecDepth 100000
set_option maxHeartbeats 2000000
def wnC (g:Gm):Int:=if gameB g=true then (if g.over=true then 0 else 6) else 1
def wnV (g:Gm):Int:=if gameB g=true then (if g.over=true then (if g.sc 0=g.sc 1 then -1 else if g.sc 0<g.sc 1 then 1 else 0) else 0) else 0
theorem sc_ix {g:Gm} (h:gameB g=true) {k:Int} (h0:0≤k) (h1:k<2):std.inL k (std.len g.scores):=⟨h0,by show k<(g.scores.length:Int);rw [(gv_of h).sl];exact h1⟩
theorem wn_i {g:Gm} (h:gameB g=false):wnV g=0∧wnC g=1:=⟨if_neg (by rw [h];decide),if_neg (by rw [h];decide)⟩
theorem wn_s {g:Gm} (h:gameB g=true) (k:g.over=false):wnV g=0∧wnC g=6:=⟨(if_pos h).trans (if_neg (by rw [k];decide)),(if_pos h).trans (if_neg (by rw [k];decide))⟩
theorem wn_y {g:Gm} (h:gameB g=true) (k:g.over=true):wnV g=(if g.sc 0=g.sc 1 then -1 else if g.sc 0<g.sc 1 then 1 else 0)∧wnC g=0:=⟨(if_pos h).trans (if_pos k),(if_pos h).trans (if_pos k)⟩
def sp_i_WinnerOf (p:Pr):FSpec:=fsp (a1 (aA aGm)) (fun g=>GmQ g) (fun g=>.tup [.i .i64 (wnV g),.i .i64 (wnC g)])
theorem ok_i_WinnerOf:FOk Tryz.prog 27 (sp_i_WinnerOf std):=by
 refine FOk.go (c:=cx std [(16,sp_i_ValidGame std)] [] 0) (cx_ok (.cons ok_i_ValidGame .nil) .nil) mixed Tryz.func27 rfl rfl rfl (by kernel_rfl) ?_
 rintro g hp
 refine⟨rfl,?_⟩
 unfold sp_i_ValidGame
 generalize hP:std=p,hB0:wnV=B0,hB1:wnC=B1,hB2:gameB=B2
 cbv
 repeat' first
  | (refine fun (_:Unit)=>?_;cbv)
  | (refine aI2 (fun h=>?_) (fun h=>?_)<;>cbv)
  | (refine aI2 ?_ ?_)
  | (refine Or.inl (fun (_:Unit)=>?_);cbv)
 all_goals subst hP hB0 hB1 hB2
 all_goals try exact fin
 all_goals first
  | exact sc_ix ‹_› (by decide) (by decide)
  | exact (wn_i (g:=g) ‹_›).1.symm
  | exact (wn_i (g:=g) ‹_›).2.symm
  | exact (wn_s (g:=g) ‹_› ‹_›).1.symm
  | exact (wn_s (g:=g) ‹_› ‹_›).2.symm
  | exact (wn_y (g:=g) ‹_› ‹_›).2.symm
  | skip
 all_goals rw [(wn_y (g:=g) ‹_› ‹_›).1]
 all_goals simp_all [Gm.sc]
 all_goals omega
def sp_s_WinnerOf (p:Pr):FSpec:=fsp (a1 (aA aGm)) (fun g=>GmL g) (fun g=>.tup [.i .i64 (wnV g),.i .i64 (wnC g)])
theorem ok_s_WinnerOf:FOk Tryz.prog 28 (sp_s_WinnerOf std):=by
 refine FOk.go (c:=cx std [(88,sp_s_l18Ok std)] [] 0) (cx_ok (.cons ok_s_l18Ok .nil) .nil) mixed Tryz.func28 rfl rfl rfl (by kernel_rfl) ?_
 rintro g hp
 refine⟨rfl,?_⟩
 unfold sp_s_l18Ok
 generalize hP:std=p,hB0:wnV=B0,hB1:wnC=B1,hB2:gameB=B2
 cbv
 repeat' first
  | (refine fun (_:Unit)=>?_;cbv)
  | (refine aI2 (fun h=>?_) (fun h=>?_)<;>cbv)
  | (refine aI2 ?_ ?_)
  | (refine Or.inl (fun (_:Unit)=>?_);cbv)
 all_goals subst hP hB0 hB1 hB2
 all_goals try exact fin
 all_goals first
  | exact sc_ix ‹_› (by decide) (by decide)
  | exact (wn_i (g:=g) ‹_›).1.symm
  | exact (wn_i (g:=g) ‹_›).2.symm
  | exact (wn_s (g:=g) ‹_› ‹_›).1.symm
  | exact (wn_s (g:=g) ‹_› ‹_›).2.symm
  | exact (wn_y (g:=g) ‹_› ‹_›).2.symm
  | skip
 all_goals rw [(wn_y (g:=g) ‹_› ‹_›).1]
 all_goals simp_all [Gm.sc]
 all_goals omega
def tpC (n:Int):Int:=if inR n (-36000) 36000=true then 0 else 2
def tpV (n:Int):Int:=if inR n (-36000) 36000=true then pen n else 0
theorem tp_f {n:Int} (h:inR n (-36000) 36000=false):tpV n=0∧tpC n=2:=⟨if_neg (by rw [h];decide),if_neg (by rw [h];decide)⟩
theorem tp_t {n:Int} (h:inR n (-36000) 36000=true):tpV n=pen n∧tpC n=0:=⟨if_pos h,if_pos h⟩
def sp_i_TimePenalty (p:Pr):FSpec:=fsp (a1 aI) (fun n=>True) (fun n=>.tup [.i .i64 (tpV n),.i .i64 (tpC n)])
theorem ok_i_TimePenalty:FOk Tryz.prog 30 (sp_i_TimePenalty std):=by
 refine FOk.go (c:=cx std [(83,sp_i_within std),(97,sp_i_penalty std)] [] 0) (cx_ok (.cons ok_i_within (.cons ok_i_penalty .nil)) .nil) mixed Tryz.func30 rfl rfl rfl (by kernel_rfl) ?_
 rintro n hp
 refine⟨rfl,?_⟩
 unfold sp_i_within sp_i_penalty
 generalize hP:std=p,hB0:tpV=B0,hB1:tpC=B1,hB2:pen=B2,hB3:inR=B3
 cbv
 repeat' first
  | (refine fun (_:Unit)=>?_;cbv)
  | (refine aI2 (fun h=>?_) (fun h=>?_)<;>cbv)
  | (refine aI2 ?_ ?_)
  | (refine Or.inl (fun (_:Unit)=>?_);cbv)
 all_goals subst hP hB0 hB1 hB2 hB3
 all_goals try exact fin
 all_goals first
  | exact (tp_f ‹_›).1.symm
  | exact (tp_f ‹_›).2.symm
  | exact (tp_t ‹_›).1.symm
  | exact (tp_t ‹_›).2.symm
  | exact (in_bd ‹_›).1
  | skip
def sp_s_TimePenalty (p:Pr):FSpec:=fsp (a1 aI) (fun n=>True) (fun n=>.tup [.i .i64 (tpV n),.i .i64 (tpC n)])
theorem ok_s_TimePenalty:FOk Tryz.prog 31 (sp_s_TimePenalty std):=by
 refine FOk.go (c:=cx std [(89,sp_s_l00In std),(98,sp_s_l18Penalty std)] [] 0) (cx_ok (.cons ok_s_l00In (.cons ok_s_l18Penalty .nil)) .nil) mixed Tryz.func31 rfl rfl rfl (by kernel_rfl) ?_
 rintro n hp
 refine⟨rfl,?_⟩
 unfold sp_s_l00In sp_s_l18Penalty
 generalize hP:std=p,hB0:tpV=B0,hB1:tpC=B1,hB2:pen=B2,hB3:inR=B3
 cbv
 repeat' first
  | (refine fun (_:Unit)=>?_;cbv)
  | (refine aI2 (fun h=>?_) (fun h=>?_)<;>cbv)
  | (refine aI2 ?_ ?_)
  | (refine Or.inl (fun (_:Unit)=>?_);cbv)
 all_goals subst hP hB0 hB1 hB2 hB3
 all_goals try exact fin
 all_goals first
  | exact (tp_f ‹_›).1.symm
  | exact (tp_f ‹_›).2.symm
  | exact (tp_t ‹_›).1.symm
  | exact (tp_t ‹_›).2.symm
  | exact (in_bd ‹_›).1
  | skip
def rI:NRes Int:=⟨fun _ l=>match l with
 | [.i .i64 n]=>some n
 | _=>none,fun _=>[],fun a=>.i .i64 a⟩
def sp_s_DrawTimePenalty (_:Pr):NSpec:=nsp (mN (a1 aY)) (fun code=>CdP code) (fun code=>rI) (fun code n=>True)
theorem ok_s_DrawTimePenalty:NOk Tryz.prog 29 (sp_s_DrawTimePenalty std):=by
 refine NOk.go (c:=cxN std [(61,sp_s_l00From std)] [(96,sp_s_xl00Src_one std),(64,sp_s_xl00Src_pick std),(66,sp_amongO std)] [] 0 (if false then some stdU else none) []) (cxN_ok (.cons ok_s_l00From .nil) (.cons ok_s_xl00Src_one (.cons ok_s_xl00Src_pick (.cons ok_amongO .nil))) .nil) mixed Tryz.func29 rfl rfl (by kernel_rfl) ?_
 rintro code hp
 refine⟨rfl,?_⟩
 unfold sp_s_l00From sp_s_xl00Src_one sp_s_xl00Src_pick sp_amongO
 generalize hP:std=p,hB0:pkV=B0,hB1:pkS=B1,hB2:amV=B2
 cbv
 repeat' first
  | (refine fun (_:Unit)=>?_;cbv)
  | (refine aI2 (fun h=>?_) (fun h=>?_)<;>cbv)
  | (refine aI2 ?_ ?_)
  | (refine Or.inl (fun (_:Unit)=>?_);cbv)
 all_goals subst hP hB0 hB1 hB2
 all_goals try exact fin
 all_goals try exact Int.NonNeg.mk _
 ·exact hp.s (by decide)
 ·exact (pk_ok (hp.s (Int.le_refl 0)) 4).le (by decide)
 ·exact (pk_ok (hp.s (Int.le_refl 0)) 4).le (by decide)
 ·have h9:=pk_bd (pk_ok (hp.s (Int.le_refl 0)) 4) (n:=600)
  have h8:pkV (pkS ⟨code,0,0⟩ 4) 600<600:=h9.2.1 (by decide)
  have h7:0≤pkV (pkS ⟨code,0,0⟩ 4) 600:=h9.1
  exact in64 (by show _≤pkV (pkS ⟨code,0,0⟩ 4) 600-500∧pkV (pkS ⟨code,0,0⟩ 4) 600-500≤_;omega)
end Ax
namespace Ax
def asF (sl:List (Nat×PV)) (ds al vt mv:List Nat):Nat→List PV→List PV
 | _,[]=>[]
 | t,p::r=>(match lookT t sl with
   | .dead =>(match p with
     | .dead =>.dead
     | p=>if !vt.contains t&&(al.contains t||(!ds.contains t&&p.ids.all fun k=>!mv.contains k)) then p else .dead)
   | v=>v)::asF sl ds al vt mv (t+1) r
theorem lookT_app (t:Nat) : ∀(a b:List (Nat×PV)),lookT t (a++b)=if (a.map (·.1)).contains t then lookT t a else lookT t b
 | [],b=>rfl
 | (k,v)::r,b=>by
   show (if k==t then v else lookT t (r++b))=if ((k,v)::r |>.map (·.1)).contains t then (if k==t then v else lookT t r) else lookT t b
   rw [List.map_cons,List.contains_cons,lookT_app t r b]
   by_cases h:k=t
   ·subst h;simp
   ·have h1:(k==t)=false:=beq_eq_false_iff_ne.2 h
    have h2:(t==k)=false:=beq_eq_false_iff_ne.2 fun e=>h e.symm
    rw [h1]
    show _=if (t==k||(r.map (·.1)).contains t)=true then _ else _
    rw [h2,Bool.false_or];rfl
theorem lookT_no (t:Nat) : ∀(a:List (Nat×PV)),(a.map (·.1)).contains t=false→lookT t a=.dead
 | [],_=>rfl
 | (k,v)::r,h=>by
   rw [List.map_cons,List.contains_cons,Bool.or_eq_false_iff] at h
   show (if k==t then v else lookT t r)=.dead
   have h2:(k==t)=false:=beq_eq_false_iff_ne.2 fun e=>beq_eq_false_iff_ne.1 h.1 e.symm
   rw [h2];exact lookT_no t r h.2
theorem kept_lt (ds al vt mv:List Nat) : ∀(r:List PV) (t u:Nat),u<t→lookT u (kept ds al vt mv t r)=.dead :=by
 intro r
 induction r with
 | nil=>intros;unfold kept;rfl
 | cons p r ih=>
   intro t u h
   have hne:(t==u)=false:=beq_eq_false_iff_ne.2 (by omega)
   have h1:=ih (t+1) u (by omega)
   cases p<;>unfold kept<;>(try dsimp only)<;>first
    | exact h1
    | (split
       ·show (if t==u then _ else _)=_
        rw [hne];exact h1
       ·exact h1)
theorem kept_ne (ds al vt mv:List Nat) (p:PV) (r:List PV) (t u:Nat) (h:t<u):lookT u (kept ds al vt mv t (p::r))=lookT u (kept ds al vt mv (t+1) r):=by
 have hne:(t==u)=false:=beq_eq_false_iff_ne.2 (by omega)
 cases p<;>conv=>lhs;unfold kept
 all_goals try dsimp only
 all_goals first
  | rfl
  | (split
     ·show (if t==u then _ else _)=_
      rw [hne];rfl
     ·rfl)
theorem kept_hd (ds al vt mv:List Nat) (p:PV) (r:List PV) (t:Nat):lookT t (kept ds al vt mv t (p::r))=(match p with
 | .dead =>.dead
 | p=>if !vt.contains t&&(al.contains t||(!ds.contains t&&p.ids.all fun k=>!mv.contains k)) then p else .dead):=by
 have h1:=kept_lt ds al vt mv r (t+1) t (Nat.lt_succ_self t)
 cases p<;>unfold kept<;>(try dsimp only)<;>first
  | exact h1
  | (split
     ·show (if t==t then _ else _)=_
      rw [beq_self_eq_true];rfl
     ·exact h1)
theorem asF_eq (sl:List (Nat×PV)) (ds al mv:List Nat) : ∀(r:List PV) (t:Nat),(List.range' t r.length).map (fun u=>lookT u (sl++kept ds al (sl.map (·.1)) mv t r))=asF sl ds al (sl.map (·.1)) mv t r:=by
 intro r
 induction r with
 | nil=>intro t;rfl
 | cons p r ih=>
   intro t
   rw [List.length_cons,List.range'_succ,List.map_cons]
   unfold asF
   refine congr (congrArg List.cons ?_) ?_
   ·rw [lookT_app]
    cases hs:(sl.map (·.1)).contains t with
    | true=>
      rw [if_pos rfl]
      generalize lookT t sl=v
      cases v<;>first | rfl | (cases p<;>simp)
    | false=>
      rw [if_neg (by decide),lookT_no t sl hs,kept_hd,hs]
   ·rw [←ih (t+1)]
    refine List.map_congr_left fun u hu=>?_
    have hu2:t<u:=by
     rw [List.mem_range'] at hu
     obtain⟨i,_,rfl⟩:=hu
     omega
    rw [lookT_app,lookT_app,kept_ne _ _ _ _ _ _ _ _ hu2]
theorem hd_as (st:AS) (ds:List Nat) (al:List Pt) (dr:List Nat) (vl:List (LV×PV)):(hd st ds al dr vl).as st.tm.length=⟨asF (slots vl) ds (ptS al) ((slots vl).map (·.1)) (al.map fun p=>rid (p.at st)) 0 st.tm,keptH st.h dr vl st.nx,st.nx⟩:=by
 unfold hd LI.as
 dsimp only
 rw [List.range_eq_range',asF_eq]
end Ax
namespace Ax
set_option maxRecDepth 100000
set_option maxHeartbeats 2000000
structure PsJ (g x:Gm) (k:Int):Prop where
 v:gameB x=true
 lo:0≤k
 st:k=0→x=g
 no:x.over=false→x.zeros=g.zeros+k∧x.scores=g.scores∧x.racks=g.racks∧x.clocks=g.clocks∧x.ts=g.ts
 ye:x.over=true→x.scores=[g.sc 0+chg g 0,g.sc 1+chg g 1]
 sc:1≤k→(-50000≤g.sc 0∧g.sc 0≤50000)∧(-50000≤g.sc 1∧g.sc 1≤50000)
section
variable {g x:Gm} {k:Int}
theorem ps_0 (h:gameB g=true) (ho:g.over=false):PsJ g g 0:=
 ⟨h,Int.le_refl 0,fun _=>rfl,fun _=>⟨by omega,rfl,rfl,rfl,rfl⟩,fun h2=>(by rw [ho] at h2;cases h2),fun h2=>absurd h2 (by decide)⟩
theorem ck_0 (h:GV x):ckL x 0=x.clocks:=by
 unfold ckL
 obtain⟨a,b,hk⟩:=two_l h.kl
 have hp:=in_bd h.pl
 unfold Gm.clk
 rw [hk]
 rcases (show x.player=0∨x.player=1 by omega) with e | e<;>rw [e]
 ·show [a-0,b]=[a,b];rw [Int.sub_zero]
 ·show [a,b-0]=[a,b];rw [Int.sub_zero]
theorem ps_act (h:PsJ g x k) (ho:x.over=false):actC x 0=0∨(actC x 0=5∧k=0):=by
 have hv:=gv_of h.v
 have hp:=in_bd hv.pl
 have k0:=hv.s0;have k1:=hv.s1
 unfold sideB at k0 k1
 simp only [Bool.and_eq_true] at k0 k1
 have hck : -36000≤x.clk x.player:=by
  rcases (show x.player=0∨x.player=1 by omega) with e | e<;>rw [e]
  ·exact (in_bd k0.2.2).1
  ·exact (in_bd k1.2.2).1
 have e:actC x 0=if (inR (x.sc 0) (-50000) 50000&&inR (x.sc 1) (-50000) 50000)=true then 0 else 5:=by
  unfold actC
  rw [if_pos h.v,if_neg (by rw [ho];decide),if_pos (by rw [Bool.and_eq_true];exact⟨by decide,decide_eq_true (by omega)⟩)]
 rw [e]
 split
 ·exact .inl rfl
 ·rename_i h2
  refine .inr ⟨rfl,?_⟩
  by_cases hk:1≤k
  ·obtain⟨q0,q1⟩:=h.sc hk
   have e2:=(h.no ho).2.1
   exfalso
   apply h2
   rw [Bool.and_eq_true]
   unfold Gm.sc at *
   rw [e2]
   exact⟨in_mk q0,in_mk q1⟩
  ·have:=h.lo;omega
theorem ps_step (h:PsJ g x k) (ho:x.over=false) (hc:actC x 0=0):PsJ g (passR x 0) (k+1):=by
 have hf:=act_f hc
 have hv:=pass_ok hc
 have hk:=ck_0 hf.v
 obtain⟨n1,n2,n3,n4,n5⟩:=h.no ho
 have hlo:=h.lo
 have hsc:(-50000≤g.sc 0∧g.sc 0≤50000)∧(-50000≤g.sc 1∧g.sc 1≤50000):=by
  have s0:=hf.s0;have s1:=hf.s1
  unfold Gm.sc at *
  rw [n2] at s0 s1
  exact⟨s0,s1⟩
 have hov:(idleG x 3 0).over =false:=ho
 have e:passR x 0=zeroG x 3 0:=by unfold passR;rw [if_pos hc]
 rw [e] at hv ⊢
 refine⟨hv,by omega,fun h2=>absurd h2 (by omega),fun h2=>?_,fun h2=>?_,fun _=>hsc⟩
 ·unfold zeroG at h2 ⊢
  split at h2
  ·cases h2
  ·rename_i h3
   rw [if_neg h3]
   exact⟨by show x.zeros+1=g.zeros+(k+1);omega,n2,n3,by show ckL x 0=g.clocks;rw [hk];exact n4,n5⟩
 ·unfold zeroG at h2 ⊢
  split at h2
  ·rename_i h3
   rw [if_pos h3]
   show [x.sc 0+chg (idleG x 3 0) 0,x.sc 1+chg (idleG x 3 0) 1]=[g.sc 0+chg g 0,g.sc 1+chg g 1]
   have c : ∀i,chg (idleG x 3 0) i=chg g i:=fun i=>by
    unfold chg Gm.rk Gm.clk
    show -(sumT x.ts (x.racks.getD i.toNat []))-pen ((ckL x 0).getD i.toNat 0)+(if (x.racks.getD i.toNat []).isEmpty then sumT x.ts (x.racks.getD (1-i).toNat []) else 0)=_
    rw [hk,n3,n4,n5]
   rw [c 0,c 1]
   unfold Gm.sc
   rw [n2]
  ·rw [hov] at h2;cases h2
theorem ps_end (hg:gameB g=true) (h:PsJ g x k) (hk:6≤k):x.over=true:=by
 cases ho:x.over with
 | true=>rfl
 | false=>
   have h1:=(h.no ho).1
   have h2:=in_bd (gv_of hg).ze
   have h3:=(gv_of h.v).ov
   rw [ho] at h3
   rcases h3 with h3 | h3
   ·cases h3
   ·omega
end
section
variable {g:Gm} {p:Int}
end
end Ax
end Go.Proofs.YtjjonmhpgkahoaaGreatDoor
