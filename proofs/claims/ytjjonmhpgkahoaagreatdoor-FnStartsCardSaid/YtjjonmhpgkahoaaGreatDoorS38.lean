/-
  The law of beginnings: all tiles.
  Conditions: none.
-/
import Derived.Test.YtjjonmhpgkahoaaGreatDoorS35
import Derived.Test.YtjjonmhpgkahoaaGreatDoorS37
import Derived.Test.YtjjonmhpgkahoaaGreatDoorS29
set_option linter.unusedSimpArgs false
set_option linter.unusedVariables false
namespace Go.Proofs.YtjjonmhpgkahoaaGreatDoor
namespace Ax
set_option maxRecDepth 100000
set_option maxHeartbeats 20000000
def sp_i_StartGameN (_:Pr):NSpec:=nsp (mN (ac (aA aSu) (a1 aS))) (fun (u,b)=>SiL u b) (fun _=>rGI) (fun (u,b) x=>x=(bgnR u b,bgnC u b))
theorem ok_i_StartGameN:NOk Tryz.prog 11 (sp_i_StartGameN std):=NOk.ofF (B:=rGI) (f:=fun a:Su×List UInt8=>(bgnR a.1 a.2,bgnC a.1 a.2)) ok_i_StartGameF (fun _=>rfl) (fun _=>rfl)
def sp_s_StartGameN (_:Pr):NSpec:=nsp (mN (ac (aA aSu) (a1 aS))) (fun (u,b)=>SgL u b) (fun _=>rGI) (fun (u,b) x=>x=(bgnR u b,bgnC u b))
theorem ok_s_StartGameN:NOk Tryz.prog 12 (sp_s_StartGameN std):=NOk.ofF (B:=rGI) (f:=fun a:Su×List UInt8=>(bgnR a.1 a.2,bgnC a.1 a.2)) ok_s_StartGameF (fun _=>rfl) (fun _=>rfl)
def sp_i_UnseenByN (_:Pr):NSpec:=nsp (mN (ac (aA aGm) (a1 aI))) (fun (g,p)=>GmQ g) (fun _=>rSC) (fun (g,p) x=>x=(usV g p,usC g p))
theorem ok_i_UnseenByN:NOk Tryz.prog 18 (sp_i_UnseenByN std):=NOk.ofF (B:=rSC) (f:=fun a:Gm×Int=>(usV a.1 a.2,usC a.1 a.2)) ok_i_UnseenBy (fun _=>rfl) (fun _=>rfl)
def sp_s_UnseenByN (_:Pr):NSpec:=nsp (mN (ac (aA aGm) (a1 aI))) (fun (g,p)=>GmL g) (fun _=>rSC) (fun (g,p) x=>x=(usV g p,usC g p))
theorem ok_s_UnseenByN:NOk Tryz.prog 19 (sp_s_UnseenByN std):=NOk.ofF (B:=rSC) (f:=fun a:Gm×Int=>(usV a.1 a.2,usC a.1 a.2)) ok_s_UnseenBy (fun _=>rfl) (fun _=>rfl)
def sp_i_TilesOnN (_:Pr):NSpec:=nsp (mN (a1 (aA aBd))) (fun b=>TonP b) (fun _=>rSC) (fun b x=>x=(tilesS (lettersS b),0))
theorem ok_i_TilesOnN:NOk Tryz.prog 21 (sp_i_TilesOnN std):=NOk.ofF (B:=rSC) (f:=fun b=>(tilesS (lettersS b),0)) ok_i_TilesOn (fun _=>rfl) (fun _=>rfl)
def sp_i_AddTilesN (_:Pr):NSpec:=nsp (mN (ac aS (a1 aS))) (fun (a,b)=>AddP a b) (fun _=>rSC) (fun (a,b) x=>x=(isort (a++b),0))
theorem ok_i_AddTilesN:NOk Tryz.prog 22 (sp_i_AddTilesN std):=NOk.ofF (B:=rSC) (f:=fun a:List UInt8×List UInt8=>(isort (a.1++a.2),0)) ok_i_AddTiles (fun _=>rfl) (fun _=>rfl)
def sp_i_AllTilesN (_:Pr):NSpec:=nsp (mN (a1 (aA aTs))) (fun t=>tsB t=true) (fun _=>rSC) (fun t x=>x=(allT t,0))
theorem ok_i_AllTilesN:NOk Tryz.prog 23 (sp_i_AllTilesN std):=NOk.ofF (B:=rSC) (f:=fun t=>(allT t,0)) ok_i_AllTiles (fun _=>rfl) (fun _=>rfl)
section
variable {u:Su} {b:List UInt8} {g:Gm} {p:Int}
theorem StB.sq (h:StB u b):SuQ u:=⟨ts_l h.su.ts (by decide),⟨by have:=h.su.lx.l;omega,fun k=>by have:=h.su.lx.w k;omega⟩,bd_p h.su.bd (by decide)⟩
theorem StB.sl (h:StB u b):SuL u:=⟨ts_l h.su.ts (by decide),⟨by have:=h.su.lx.l;omega,fun k=>by have:=h.su.lx.w (k:Int);rw [Int.toNat_natCast] at this;omega⟩,bd_p h.su.bd (by decide)⟩
theorem StB.si (h:StB u b):SiL u b:=⟨h.sq,⟨⟨by have:=h.su.ts.v;omega,by have:=h.su.ts.c;omega⟩,by have:=h.su.lx.l;omega⟩,by have:=h.n;omega⟩
theorem StB.sg (h:StB u b):SgL u b:=⟨h.sl,⟨by have:=h.su.ts.v;omega,by have:=h.su.ts.c;omega,by have:=h.su.lx.l;omega⟩,by have:=h.n;omega⟩
theorem StB.gb (h:StB u b) (hc:bgnC u b=0):GmB 1048576 (bgnR u b):=by
 unfold bgnR
 rw [if_pos hc]
 exact bgn_b h.su (by have:=h.n;omega)
theorem StB.gn (h:StB u b):GmN (bgnR u b):=by
 by_cases hc:bgnC u b=0
 ·exact (h.gb hc).n (by decide)
 ·unfold bgnR
  rw [if_neg hc]
  exact gm0_n
theorem eq_s (a:Int):std.eqI a a=true:=by simp
theorem eq_b (a:Bool):std.eqB a a=true:=by simp
theorem eq_t (a:List UInt8):std.eqS a a=true:=by simp
theorem st_c (h:std.eqI (bgnC u b) 0=true):bgnC u b=0:=by simpa using h
theorem bgn_v (hc:bgnC u b=0):gameB (bgnR u b)=true:=by
 unfold bgnR
 rw [if_pos hc]
 exact bgn_ok hc
theorem us_0 (h:std.eqI (usC g p) 0=true):gameB g=true∧(0≤p∧p≤1)∧usV g p=isort (g.bag++g.rk (1-p)):=by
 have h1:usC g p=0:=by simpa using h
 cases hv:gameB g with
 | false=>rw [(us_i hv p).2] at h1;cases h1
 | true=>
   cases hi:inR p 0 1 with
   | false=>rw [(us_r hv hi).2] at h1;cases h1
   | true=>exact⟨rfl,in_bd hi,(us_y hv hi).1⟩
theorem tiles_n (h:gameB g=true):(tilesS (lettersS g.bd)).length + (g.rk 0).length + (g.rk 1).length + g.bag.length≤120∧tsB g.ts=true:=by
 have hv:=gv_of h
 have ht:=hv.ti
 unfold gameTiles at ht
 have ht:=congrArg List.length ht
 rw [isort_length] at ht
 have hts:tsB g.ts=true:=by
  have hs:=hv.su
  unfold setupB at hs
  rw [Bool.and_eq_true] at hs
  exact hs.1
 have h2:=allT_120 hts
 simp only [List.length_append] at ht
 refine⟨?_,hts⟩
 show (tilesS (lettersS g.bd)).length + (g.racks.getD 0 []).length + (g.racks.getD 1 []).length + g.bag.length≤120
 omega
theorem add_1 (h:std.eqI (usC g p) 0=true):AddP (tilesS (lettersS g.bd)) (std.get [] g.racks p):=by
 have hu:=us_0 h
 have q:=unseen_ok (gv_of hu.1) hu.2.1
 exact⟨q.2.1,q.2.2.1,q.2.2.2.1⟩
theorem add_2 (h:std.eqI (usC g p) 0=true):AddP (isort (tilesS (lettersS g.bd)++std.get [] g.racks p)) (usV g p):=by
 have hu:=us_0 h
 have q:=unseen_ok (gv_of hu.1) hu.2.1
 rw [hu.2.2]
 exact⟨q.2.2.2.2.1,q.2.2.2.2.2.1,q.2.2.2.2.2.2⟩
theorem add_3 (h:std.eqI (usC g p) 0=true):TonP g.bd:=by
 have hu:=us_0 h
 exact⟨(gv_of hu.1).bd,(unseen_ok (gv_of hu.1) hu.2.1).1⟩
theorem add_4 (h:std.eqI (usC g p) 0=true):std.inL p (std.len g.racks):=by
 have hu:=us_0 h
 have hr:=(gv_of hu.1).rl
 exact⟨hu.2.1.1,by show p<(g.racks.length:Int);omega⟩
theorem add_5 (h:std.eqI (usC g p) 0=true):tsB g.ts=true:=(tiles_n (us_0 h).1).2
theorem add_6 (h:std.eqI (usC g p) 0=true):std.eqS (isort (isort (tilesS (lettersS g.bd)++std.get [] g.racks p)++usV g p)) (allT g.ts)=true:=by
 have hu:=us_0 h
 rw [hu.2.2,show isort (isort (tilesS (lettersS g.bd)++std.get [] g.racks p)++isort (g.bag++g.rk (1-p)))=allT g.ts from unseen_all (gv_of hu.1) hu.2.1]
 exact eq_t _
end
def sp_l_FnStarts (p:Pr):FSpec:=fsp (a1 aY) (fun code=>CbP code) (fun code=>.b true)
theorem ok_l_FnStarts:FOk Tryz.prog 3 (sp_l_FnStarts std):=by
 refine FOk.go (c:={ cxN std [(9,sp_l_f6big std),(13,sp_s_SameGame std),(14,sp_i_ValidSetup std),(15,sp_s_ValidSetup std),(16,sp_i_ValidGame std),(20,sp_s_ValidGame std)] [] [(10,sp_s_DrawStartGame std),(17,sp_s_DrawUnseenBy std),(11,sp_i_StartGameN std),(12,sp_s_StartGameN std),(18,sp_i_UnseenByN std),(19,sp_s_UnseenByN std),(21,sp_i_TilesOnN std),(22,sp_i_AddTilesN std),(23,sp_i_AllTilesN std)] 0 (if false then some stdU else none) [] with K:=fun i=>([[],[23],[],[25,26,27,28,29],[30,31,32,33,34,35],[36,37,38,39,40,41],[42,43,44,45,46,47,48,49,50,51,52,53,54,55,56,57,58,59,60,61,62,63,64,65],[],[67,68,69,70,71],[72,73,74,75,76,77],[78,79,80,81,82,83],[84,85,86,87,88,89,90,91,92,93,94,95,96,97],[],[99],[],[101,102,103,104,105,106],[107,108,109,110,111,112,113,114,115,116],[117,118,119,120,121,122],[123,124,125,126,127,128,129],[130,131,132,133,134,135,136,137,138,139,140,141,142,143,144,145,146,147,148]]:List (List Nat)).getD i [] }) (CxOk.k (cxN_ok (.cons ok_l_f6big (.cons ok_s_SameGame (.cons ok_i_ValidSetup (.cons ok_s_ValidSetup (.cons ok_i_ValidGame (.cons ok_s_ValidGame .nil)))))) .nil (.cons ok_s_DrawStartGame (.cons ok_s_DrawUnseenBy (.cons ok_i_StartGameN (.cons ok_s_StartGameN (.cons ok_i_UnseenByN (.cons ok_s_UnseenByN (.cons ok_i_TilesOnN (.cons ok_i_AddTilesN (.cons ok_i_AllTilesN .nil)))))))))) _) mixed Tryz.func3 rfl rfl rfl (by kernel_rfl) ?_
 rintro code hp
 refine⟨rfl,?_⟩
 unfold sp_l_f6big sp_s_DrawStartGame sp_s_DrawUnseenBy sp_i_StartGameN sp_s_StartGameN sp_s_SameGame sp_i_ValidSetup sp_s_ValidSetup sp_i_ValidGame sp_s_ValidGame sp_i_UnseenByN sp_s_UnseenByN sp_i_TilesOnN sp_i_AddTilesN sp_i_AllTilesN
 generalize hP:std=p,hB0:bigB=B0,hB1:gameB=B1,hB2:bgnR=B2,hB3:bgnC=B3,hB4:usV=B4,hB5:usC=B5,hB6:suB=B6,hB7:isort=B7,hB8:lettersS=B8,hB9:tilesS=B9,hB10:allT=B10,hB11:tsB=B11
 cbv
 repeat' first
  | (refine fun (_:Unit)=>?_;cbv)
  | (refine fun (y:Nd _) hy=>?_;cbv)
  | (refine aI2 (fun h=>?_) (fun h=>?_)<;>cbv)
  | (refine aI2 ?_ ?_)
  | (refine Or.inl (fun (_:Unit)=>?_);cbv)
 all_goals subst hP hB0 hB1 hB2 hB3 hB4 hB5 hB6 hB7 hB8 hB9 hB10 hB11
 all_goals try exact fin
 ·exact hp.d ‹_›
 all_goals try (rename Nd (Su×List UInt8)=>ya;rcases ya with ⟨⟨u,b⟩⟩)
 all_goals try (rename Nd (List UInt8×Int)=>ya;rcases ya with ⟨⟨t6,d6⟩⟩)
 all_goals try (rename Nd (List UInt8×Int)=>ya;rcases ya with ⟨⟨t5,d5⟩⟩)
 all_goals try (rename Nd (List UInt8×Int)=>ya;rcases ya with ⟨⟨t4,d4⟩⟩)
 all_goals try (rename Nd (List UInt8×Int)=>ya;rcases ya with ⟨⟨t3,d3⟩⟩)
 all_goals try (rename Nd (List UInt8×Int)=>ya;rcases ya with ⟨⟨t2,d2⟩⟩)
 all_goals try (rename Nd (List UInt8×Int)=>ya;rcases ya with ⟨⟨t1,d1⟩⟩)
 all_goals try (rename Nd (Gm×Int)=>ya;rcases ya with ⟨⟨gC,nC⟩⟩)
 all_goals try (rename Nd (Gm×Int)=>ya;rcases ya with ⟨⟨gB,nB⟩⟩)
 all_goals try (rename Nd (Gm×Int)=>ya;rcases ya with ⟨⟨gA,nA⟩⟩)
 all_goals try dsimp only at *
 all_goals try (rename (Prod.mk (α:=List UInt8) (β:=Int) _ _=_)=>hh;obtain⟨rfl,rfl⟩:=pr_eq hh;clear hh)
 all_goals try (rename (Prod.mk (α:=List UInt8) (β:=Int) _ _=_)=>hh;obtain⟨rfl,rfl⟩:=pr_eq hh;clear hh)
 all_goals try (rename (Prod.mk (α:=List UInt8) (β:=Int) _ _=_)=>hh;obtain⟨rfl,rfl⟩:=pr_eq hh;clear hh)
 all_goals try (rename (Prod.mk (α:=List UInt8) (β:=Int) _ _=_)=>hh;obtain⟨rfl,rfl⟩:=pr_eq hh;clear hh)
 all_goals try (rename (Prod.mk (α:=List UInt8) (β:=Int) _ _=_)=>hh;obtain⟨rfl,rfl⟩:=pr_eq hh;clear hh)
 all_goals try (rename (Prod.mk (α:=List UInt8) (β:=Int) _ _=_)=>hh;obtain⟨rfl,rfl⟩:=pr_eq hh;clear hh)
 all_goals try (rename (Prod.mk (α:=Gm) (β:=Int) _ _=_)=>hh;obtain⟨rfl,rfl⟩:=pr_eq hh;clear hh)
 all_goals try (rename (Prod.mk (α:=Gm) (β:=Int) _ _=_)=>hh;obtain⟨rfl,rfl⟩:=pr_eq hh;clear hh)
 all_goals try dsimp only at *
 all_goals (try simp only [eta_ts,eta_bd,eta_la,eta_pl,eta_suw,eta_gmz] at *)
 all_goals try (rename StB _ _=>hs)
 all_goals try (rename BeB _=>hb)
 all_goals first
  | exact hp.d ‹_›
  | exact hs.si
  | exact hs.sg
  | exact hs.sq
  | exact hs.sl
  | exact hs.gn
  | exact hb.b.gq
  | exact hb.gl
  | exact (hs.gb (st_c ‹_›)).gq
  | exact (bgn_v (st_c ‹_›)).symm.trans ‹_›
  | exact (eq_s _).symm.trans ‹_›
  | exact (eq_b _).symm.trans ‹_›
  | exact (eq_t _).symm.trans ‹_›
  | skip
 all_goals first
  | exact add_1 ‹_›
  | exact add_2 ‹_›
  | exact add_3 ‹_›
  | exact add_4 ‹_›
  | exact add_5 ‹_›
  | exact add_6 ‹_›
  | exact (add_6 ‹_›).symm.trans ‹_›
  | skip
end Ax
end Go.Proofs.YtjjonmhpgkahoaaGreatDoor
