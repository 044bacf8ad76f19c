/-
  The law of plays taken back.
  Conditions: none.
-/
import Derived.Test.YtjjonmhpgkahoaaGreatDoorV35
import Derived.Test.YtjjonmhpgkahoaaGreatDoorV39
set_option linter.unusedSimpArgs false
set_option linter.unusedVariables false
namespace Go.Proofs.YtjjonmhpgkahoaaGreatDoor
namespace Ax
set_option maxRecDepth 100000
set_option maxHeartbeats 20000000
section
variable {g:Gm}
theorem wdg_b (h:GmB 1048576 g) (hv:gameB (wdG g)=true):GmB 1048576 (wdG g):=by
 have v:=gv_of hv
 have hf:=bdB.fit v.bd
 have f1:=hf.lo;have f2:=hf.hi;have f4:=hf.cells
 have f5:(wdG g).bd.size * (wdG g).bd.size ≤225:=(Int.mul_le_mul f2 f2 (by omega) (by decide):(wdG g).bd.size * (wdG g).bd.size ≤15*15)
 have h1:=bag_len v.bag
 have h2:=v.rl
 have h3:=v.sl
 have r0:=rack_len (rk_p v (p:=0) (by decide) (by decide))
 have r1:=rack_len (rk_p v (p:=1) (by decide) (by decide))
 refine⟨h.ts,h.lx,h.b0,⟨h.bd.p,by omega⟩,by omega,⟨by omega,fun k=>?_⟩,by omega,h.ck,(by decide:((0:Nat):Int)≤1048576),(by decide:((0:Nat):Int)≤1048576),(by decide:((0:Nat):Int)≤1048576)⟩
 show ((((wdG g).racks.getD k.toNat []).length : Nat):Int)≤1048576
 have r0:((wdG g).racks.getD 0 []).length ≤7:=r0
 have r1:((wdG g).racks.getD 1 []).length ≤7:=r1
 generalize (wdG g).racks =R at h2 r0 r1 ⊢
 generalize k.toNat=j
 match R,h2 with
 | [a,b],_=>
   match j with
   | 0=>have : a.length≤7:=r0
        show ((a.length:Nat):Int)≤_
        omega
   | 1=>have : b.length≤7:=r1
        show ((b.length:Nat):Int)≤_
        omega
   | _+2=>exact (by decide:((0:Nat):Int)≤1048576)
theorem wdc_ok (hc:wdC g=0):gameB (wdG g)=true:=by
 have hA:=act_f (wc_of hc).1
 have h1:=(wc_chf hc).ok
 exact wd_ok hA.v hA.ov h1 ⟨⟨by have:=hA.s0.1;omega,by have:=hA.s0.2;omega⟩,⟨by have:=hA.s1.1;omega,by have:=hA.s1.2;omega⟩⟩
theorem wr_ok (hc:std.eqI (wdC g) 0=true):gameB (wdR g)=true:=by
 have hc:wdC g=0:=by simpa using hc
 unfold wdR
 rw [if_pos hc]
 exact wdc_ok hc
theorem wr_b (h:GmB 1048576 g) (hc:wdC g=0):GmB 1048576 (wdR g):=by
 unfold wdR
 rw [if_pos hc]
 exact wdg_b h (wdc_ok hc)
theorem wr_n (h:GmB 1048576 g):GmN (wdR g):=by
 by_cases hc:wdC g=0
 ·exact (wr_b h hc).n (by decide)
 ·unfold wdR
  rw [if_neg hc]
  exact gm0_n
theorem wr_q (h:GmB 1048576 g) (hc:std.eqI (wdC g) 0=true):GmQ (wdR g):=(wr_b h (by simpa using hc)).gq
theorem pr2 {α β:Type} {a:α} {b:β} {p:α×β} (h:(a,b)=p):a=p.1∧b=p.2:=by subst h;exact⟨rfl,rfl⟩
end
theorem ffW {a b:List (List UInt8)} (h:qeW a b=false) (e:a=b):False:=by subst e;simp [qeW_r] at h
theorem ffO {o:Bool} {z n:Int} (h:std.eqB o (std.eqI z 6)=false) (ho:o=(n+1==6)) (hz:z=n+1):False:=by
 subst ho;subst hz
 simp at h
section
variable {g:Gm} {q:Pl} {n:Int}
theorem un_of (hb:BeB g) (hc:std.eqI (turnC g q n) 0=true) (ho:(turnR g q n).over =false):wdC (turnR g q n)=0∧Undo g (wdR (turnR g q n)):=tn_undo (c_0 hc) (be_full hb (pt_v hc).b) ho
theorem un_rk (hb:BeB g) (hc:std.eqI (turnC g q n) 0=true) (ho:(turnR g q n).over =false):std.leP (std.len (wdR (turnR g q n)).racks) 1073741824:=by
 have h:=(un_of hb hc ho).2.rk
 have h2:=(pt_v hc).rl
 show (((wdR (turnR g q n)).racks.length : Nat):Int)≤1073741824
 rw [h];omega
theorem un_sc (hb:BeB g) (hc:std.eqI (turnC g q n) 0=true) (ho:(turnR g q n).over =false) (ho2:(wdR (turnR g q n)).over =false):std.leP (std.len (wdR (turnR g q n)).scores) 1073741824∧qeN (wdR (turnR g q n)).scores g.scores=true:=by
 have h:=(un_of hb hc ho).2.sc ho2
 have h2:=(pt_v hc).sl
 refine⟨?_,by rw [h];exact qeN_r _⟩
 show (((wdR (turnR g q n)).scores.length : Nat):Int)≤1073741824
 rw [h];omega
theorem un_ze (hc:std.eqI (turnC g q n) 0=true):std.inK .i64 (std.add g.zeros 1):=by
 have h:=in_bd (pt_v hc).ze
 exact in64 (by show _≤g.zeros+1∧g.zeros+1≤_;omega)
end
def sp_l_FnWithdrawals (p:Pr):FSpec:=fsp (a1 aY) (fun code=>CbP code) (fun code=>.b true)
theorem ok_l_FnWithdrawals:FOk Tryz.prog 7 (sp_l_FnWithdrawals std):=by
 refine FOk.go (c:={ cxN std [(9,sp_l_f6big std),(13,sp_s_SameGame std),(16,sp_i_ValidGame std),(38,sp_l_f6same std),(32,sp_l_f6ints std)] [] [(45,sp_s_DrawWithdrawPlay std),(46,sp_i_WithdrawPlayN std),(47,sp_s_WithdrawPlayN std),(39,sp_s_DrawPlayTurn std),(40,sp_i_PlayTurnN std)] 0 (if false then some stdU else none) [] with K:=fun i=>([[],[],[],[18,19],[20,21,22,23],[25,26,27,28,29],[30,31,33,34,35,36,37,38,39,40,41,42,43,44,45,46],[],[48,49,50,51,52,53],[54,55,56,57,58,59,60,61],[62,63,64,65,66],[],[68,69,70,71,72],[73,74,75,76,77,78,79,80,81,82,83,84,85,86,87,88,89,90,91,92,93,94,95,96,97,98,99,100,101,102,103,104,105,106,107,108,109,110,111],[],[113,114,115,116,117,118,119,120,121,122,123,124,125,126,127,128,129]]:List (List Nat)).getD i [] }) (CxOk.k (cxN_ok (.cons ok_l_f6big (.cons ok_s_SameGame (.cons ok_i_ValidGame (.cons ok_l_f6same (.cons ok_l_f6ints .nil))))) .nil (.cons ok_s_DrawWithdrawPlay (.cons ok_i_WithdrawPlayN (.cons ok_s_WithdrawPlayN (.cons ok_s_DrawPlayTurn (.cons ok_i_PlayTurnN .nil)))))) _) mixed Tryz.func7 rfl rfl rfl (by kernel_rfl) ?_
 rintro code hp
 refine⟨rfl,?_⟩
 unfold sp_l_f6big sp_s_DrawWithdrawPlay sp_i_WithdrawPlayN sp_s_WithdrawPlayN sp_s_SameGame sp_i_ValidGame sp_s_DrawPlayTurn sp_i_PlayTurnN sp_l_f6same sp_l_f6ints
 generalize hP:std=p,hB0:bigB=B0,hB1:gameB=B1,hB2:turnR=B2,hB3:turnS'=B3,hB4:turnC=B4,hB5:wdR=B5,hB6:wdC=B6,hB7:qeN=B7,hB8:qeW=B8,hB9:le15=B9
 cbv
 repeat' first|refine fun (_:Unit)=>?_;cbv|refine fun (y:Nd _) hy=>?_;cbv|refine aI2 (fun h=>?_) (fun h=>?_)<;>cbv|refine aI2 ?_ ?_|refine Or.inl (fun (_:Unit)=>?_);cbv
 all_goals subst hP hB0 hB1 hB2 hB3 hB4 hB5 hB6 hB7 hB8 hB9
 all_goals try exact fin
 all_goals try exact hp.d ‹_›
 all_goals try (rename Nd (Gm×Int)=>y1;rcases y1 with ⟨⟨ga,ca⟩⟩)
 all_goals try (rename Nd (Gm×Int)=>y1;rcases y1 with ⟨⟨gb,cb⟩⟩)
 all_goals try (rename Nd (Gm×Int)=>y1;rcases y1 with ⟨⟨gc,cc⟩⟩)
 all_goals try (rename Nd (Gm×(Int×Int))=>y1;rcases y1 with ⟨⟨gd,⟨sd,cd⟩⟩⟩)
 all_goals try (rename Nd (Gm×(Pl×Int))=>y1;rcases y1 with ⟨⟨g,⟨q,n⟩⟩⟩)
 all_goals try (rename Nd Gm=>y1;rcases y1 with ⟨h0⟩)
 all_goals try dsimp only at *
 all_goals (try simp only [eta_ts,eta_bd,eta_la,eta_pl,eta_gmz] at *)
 all_goals try (rename (Prod.mk (α:=Gm) (β:=Int×Int) _ _=_)=>hh;obtain⟨rfl,rfl,rfl⟩:=pr3 hh;clear hh)
 all_goals try (rename (Prod.mk (α:=Gm) (β:=Int) _ _=_)=>hh;obtain⟨rfl,rfl⟩:=pr2 hh;clear hh)
 all_goals try (rename (Prod.mk (α:=Gm) (β:=Int) _ _=_)=>hh;obtain⟨rfl,rfl⟩:=pr2 hh;clear hh)
 all_goals try (rename (Prod.mk (α:=Gm) (β:=Int) _ _=_)=>hh;obtain⟨rfl,rfl⟩:=pr2 hh;clear hh)
 all_goals try dsimp only at *
 all_goals (try simp only [eta_ts,eta_bd,eta_la,eta_pl,eta_gmz] at *)
 all_goals rename BeB _=>hb
 all_goals try first
  | exact⟨hb.b.gq,hb.b.gc⟩
  | exact⟨hb.gl,hb.gp⟩
  | exact wr_n hb.b
  | exact eqI_r _
  | rfl
  | exact wr_q hb.b ‹_›
  | exact (ffV ‹_› (wr_ok ‹_›)).elim
  | exact (ffI ‹_› rfl).elim
 all_goals rename BeB _∧le15 _=>h1
 all_goals try exact be_pt h1.1 h1.2
 all_goals have hc0:std.eqI (turnC g q n) 0=true:=by assumption
 all_goals try exact⟨(tr_b h1.1 h1.2 (c_0 hc0)).gq,(tr_b h1.1 h1.2 (c_0 hc0)).gc⟩
 all_goals have ho:(turnR g q n).over =false:=by assumption
 all_goals have U:=un_of h1.1 hc0 ho
 all_goals try first
  | exact un_rk h1.1 hc0 ho
  | exact pt_64 hc0
  | exact un_ze hc0
  | exact (un_sc h1.1 hc0 ho ‹_›).1
  | exact (un_sc h1.1 hc0 ho ‹_›).2
  | exact (ffI ‹_› U.1).elim
  | exact (ffI ‹_› U.2.ze).elim
  | exact (ffI ‹_› U.2.pl).elim
  | exact (ffS ‹_› U.2.bag).elim
  | exact (ffW ‹_› U.2.rk).elim
  | exact (ffD ‹_› U.2.bd).elim
  | exact (ffO ‹_› U.2.ov U.2.ze).elim
end Ax
end Go.Proofs.YtjjonmhpgkahoaaGreatDoor
