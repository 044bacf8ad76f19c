/-
  Plays drawn for a game in a box whose rows nobody changes: walked.
  Conditions: none.
-/
import Derived.Test.YtjjonmhpgkahoaaGreatDoorV31
set_option linter.unusedSimpArgs false
set_option linter.unusedVariables false
namespace Go.Proofs.YtjjonmhpgkahoaaGreatDoor
namespace Ax
set_option maxRecDepth 100000
set_option maxHeartbeats 4000000
def hGq:Nat×Ob→Option Gm
 | (1,.cells l t)=>if Nat.beq t 41 then gmOf l else none
 | _=>none
theorem hGq_ok {x:Nat×Ob} {g:Gm} (h:hGq x=some g):x=(1,.cells (gmR g) 41):=by
 unfold hGq at h
 split at h
 ·split at h
  ·rename_i ht
   rw [gmOf_eq h,Nat.eq_of_beq_eq_true ht]
  ·cases h
 ·cases h
def sgqRd (H:AH) (l:List PV):Option (Src×Gm):=match H,l with
 | [x0,y],[.ptr 0 0,.ptr 1 0]=>both' (srT x0) (hGq y)
 | _,_=>none
def mSGq:MArgs (Src×Gm):=⟨sgqRd,fun a=>[(0,.cells (srK a.1) 159),(1,.cells (gmR a.2) 41)],fun _=>[.ptr 0 0,.ptr 1 0],fun H l a h=>by
 unfold sgqRd at h
 split at h
 ·obtain⟨h1,h2⟩:=both'_ok h
  rw [srT_ok h1,hGq_ok h2]
  exact⟨rfl,rfl⟩
 ·cases h⟩
def rPlQ (g:Gm):NRes (Src×(Pl×Bool)):=⟨fun H l=>match l with
 | [.agg c,.b b]=>both' (srHd H) (both' (plOf c) (some b))
 | _=>none,fun a=>[(0,.cells (srK a.1) 159),(1,.cells (gmR g) 41)],fun a=>.tup [.agg (plK a.2.1),.b a.2.2]⟩
def sp_l18FindQ (_:Pr):NSpec:=nsp mSGq (fun (σ,g)=>SrOk 999999990000 σ∧FdP g) (fun (σ,g)=>rPlQ g) (fun (σ,g) (τ,q,b)=>far 700 σ τ∧le12 q.word)
theorem ok_l18FindQ:NOk Tryz.prog 111 (sp_l18FindQ std):=by
 refine NOk.goE (c:=cxN std [(199,sp_s_WordsFrom std),(173,sp_s_l11Letters std),(200,sp_s_l00Max std),(201,sp_s_l03Ways_c std),(122,sp_s_l12Legal std)] [(96,sp_s_xl00Src_one std),(64,sp_s_xl00Src_pick std)] [] 2 (if false then some stdU else none) []) (cxN_ok (.cons ok_s_WordsFrom (.cons ok_s_l11Letters (.cons ok_s_l00Max (.cons ok_s_l03Ways_c (.cons ok_s_l12Legal .nil))))) (.cons ok_s_xl00Src_one (.cons ok_s_xl00Src_pick .nil)) .nil) mixed Tryz.func111 rfl rfl (by kernel_rfl) ?_
 rintro ⟨σ,g⟩ hp
 dsimp only at hp
 refine⟨rfl,?_⟩
 unfold sp_s_WordsFrom sp_s_l11Letters sp_s_l00Max sp_s_l03Ways_c sp_s_l12Legal sp_s_xl00Src_one sp_s_xl00Src_pick
 unfold sp_s_l03Ways
 obtain⟨H,hH⟩ : ∃H:Hd (Int×Int×Int),H=⟨fun (k,a,z)=>0≤k∧k≤30∧far (20*k) σ ⟨σ.code,a,z⟩,fun (k,a,z)=>(30-k).toNat,(· < ·)⟩:=⟨_,rfl⟩
 have hl:=hdl hH
 generalize hP:std=p,hB0:pkS=B0,hB1:pkV=B1,hB2:fromW=B2,hB3:lettersS=B3,hB4:maxI=B4,hB5:waysL=B5,hB6:legalC=B6,hB7:far=B7,hB8:ltL=B8,hB9:le12=B9
 cbv
 repeat' first|refine fun (_:Unit)=>?_;cbv|refine Or.inr ⟨26,[],[.s 7 (.i .i64),.c 0 1 (.i .i64),.c 0 2 (.i .u64)],[],[],H,rfl,hl,?_,fun ((k,a,z):Int×Int×Int) hk=>?_⟩<;>cbv|refine aI2 (fun h=>?_) (fun h=>?_)<;>cbv|refine aI2 ?_ ?_
 all_goals subst hP hB0 hB1 hB2 hB3 hB4 hB5 hB6 hB7 hB8 hB9 hH
 all_goals clear hl
 all_goals try dsimp only at hk
 all_goals try dsimp only
 all_goals try exact fin
 all_goals (try simp only [eta_sr,eta_bd,eta_pl,eta_ts,eta_la] at *)
 ·exact hp.2.pl
 ·exact⟨Int.le_refl 0,by decide,(far_0 σ).le (by decide)⟩
 all_goals obtain⟨k0,k1,hf⟩:=hk
 all_goals have hs:SrOk 999999990600 ⟨σ.code,a,z⟩:=(hf.s _ hp.1).le (by omega)
 all_goals have hcd:(Src.mk σ.code a z).code =σ.code:=rfl
 all_goals generalize Src.mk σ.code a z=υ at *
 all_goals try (have hlt:k<30:=lt_of ‹_›)
 all_goals try (have hn:1≤((fromW g.lex (rkG g)).length : Int):=len_f ‹_›)
 all_goals have x3:=pk_ok (pk_ok (pk_ok hs 2) g.bd.size) g.bd.size
 all_goals have x4:=pk_ok (pk_ok (pk_ok (pk_ok hs 2) g.bd.size) g.bd.size) 3
 all_goals try (have w3:=hp.2.wd (pk_bd x3).1 ((pk_bd x3).2.1 hn))
 all_goals try (have w4:=hp.2.wd (pk_bd x4).1 ((pk_bd x4).2.1 hn))
 ·exact hs.le (by decide)
 ·exact hp.2.df
 ·exact (pk_ok hs _).le (by decide)
 ·exact (pk_ok (pk_ok hs _) _).le (by decide)
 ·exact hp.2.bd
 ·exact qz hp.2.sz
 ·exact (pk_ok (pk_ok (pk_ok hs _) _) _).le (by decide)
 ·exact qz2 hp.2.sz x3
 ·exact ((((hf.pk _).pk _).pk _).pk _).le (by omega)
 ·exact Nat.zero_le _
 ·exact (pk_ok (pk_ok (pk_ok (pk_ok hs _) _) _) _).le (by decide)
 ·exact pk_inL x4 hn
 ·exact pk_inL x4 hn
 ·exact Nat.lt_succ_of_le w4.l
 ·exact w4.y
 ·exact (pk_ok (pk_ok (pk_ok (pk_ok (pk_ok hs _) _) _) _) _).le (by decide)
 ·exact pk_inL (pk_ok x4 _) (len_1 w4.s)
 ·exact pk_inL (pk_ok x4 _) (len_1 w4.s)
 ·exact le_of hp.2 (w4.w _)
 ·exact (pk_ok (pk_ok (pk_ok (pk_ok (pk_ok (pk_ok hs _) _) _) _) _) _).le (by decide)
 ·exact (((((((hf.pk _).pk _).pk _).pk _).pk _).pk _).pk _).le (by omega)
 ·exact w4.w _
 ·exact congrArg (PV.rsl [.i .u8]) (by simp only [pk_code,hcd])
 ·exact inv_of k0 hlt ((((((((hf.pk _).pk _).pk _).pk _).pk _).pk _).nr).le (by omega)) ((pk_code _ _).trans ((pk_code _ _).trans ((pk_code _ _).trans ((pk_code _ _).trans ((pk_code _ _).trans ((pk_code _ _).trans hcd))))))
 ·exact congrArg (PV.rsl [.i .u8]) (by simp only [pk_code,hcd])
 ·exact inv_of k0 hlt (X:=_) (((((((hf.pk _).pk _).pk _).pk _).pk _).pk _).le (by omega)) (by simp only [pk_code,hcd])
 ·exact congrArg (PV.rsl [.i .u8]) (by simp only [pk_code,hcd])
 ·exact inv_of k0 hlt (X:=_) (((((((hf.pk _).pk _).pk _).pk _).pk _).pk _).le (by omega)) (by simp only [pk_code,hcd])
 ·exact ((((((hf.pk _).pk _).pk _).pk _).pk _).pk _).le (by omega)
 ·exact w4.w _
 ·exact le_of hp.2 (w4.w _)
 ·exact (pk_ok (pk_ok (pk_ok (pk_ok (pk_ok (pk_ok hs _) _) _) _) _) _).le (by decide)
 ·exact (((((((hf.pk _).pk _).pk _).pk _).pk _).pk _).pk _).le (by omega)
 ·exact w4.w _
 ·exact congrArg (PV.rsl [.i .u8]) (by simp only [pk_code,hcd])
 ·exact inv_of k0 hlt ((((((((hf.pk _).pk _).pk _).pk _).pk _).pk _).nr).le (by omega)) ((pk_code _ _).trans ((pk_code _ _).trans ((pk_code _ _).trans ((pk_code _ _).trans ((pk_code _ _).trans ((pk_code _ _).trans hcd))))))
 ·exact congrArg (PV.rsl [.i .u8]) (by simp only [pk_code,hcd])
 ·exact inv_of k0 hlt (X:=_) (((((((hf.pk _).pk _).pk _).pk _).pk _).pk _).le (by omega)) (by simp only [pk_code,hcd])
 ·exact congrArg (PV.rsl [.i .u8]) (by simp only [pk_code,hcd])
 ·exact inv_of k0 hlt (X:=_) (((((((hf.pk _).pk _).pk _).pk _).pk _).pk _).le (by omega)) (by simp only [pk_code,hcd])
 ·exact ((((((hf.pk _).pk _).pk _).pk _).pk _).pk _).le (by omega)
 ·exact w4.w _
 ·exact (((hf.pk _).pk _).pk _).le (by omega)
 ·exact Nat.zero_le _
 ·exact (pk_ok (pk_ok (pk_ok hs _) _) _).le (by decide)
 ·exact pk_inL x3 hn
 ·exact pk_inL x3 hn
 ·exact Nat.lt_succ_of_le w3.l
 ·exact w3.y
 ·exact (pk_ok (pk_ok (pk_ok (pk_ok hs _) _) _) _).le (by decide)
 ·exact pk_inL (pk_ok x3 _) (len_1 w3.s)
 ·exact pk_inL (pk_ok x3 _) (len_1 w3.s)
 ·exact le_of hp.2 (w3.w _)
 ·exact (pk_ok (pk_ok (pk_ok (pk_ok (pk_ok hs _) _) _) _) _).le (by decide)
 ·exact ((((((hf.pk _).pk _).pk _).pk _).pk _).pk _).le (by omega)
 ·exact w3.w _
 ·exact congrArg (PV.rsl [.i .u8]) (by simp only [pk_code,hcd])
 ·exact inv_of k0 hlt (((((((hf.pk _).pk _).pk _).pk _).pk _).nr).le (by omega)) ((pk_code _ _).trans ((pk_code _ _).trans ((pk_code _ _).trans ((pk_code _ _).trans ((pk_code _ _).trans hcd)))))
 ·exact congrArg (PV.rsl [.i .u8]) (by simp only [pk_code,hcd])
 ·exact inv_of k0 hlt (X:=_) ((((((hf.pk _).pk _).pk _).pk _).pk _).le (by omega)) (by simp only [pk_code,hcd])
 ·exact congrArg (PV.rsl [.i .u8]) (by simp only [pk_code,hcd])
 ·exact inv_of k0 hlt (X:=_) ((((((hf.pk _).pk _).pk _).pk _).pk _).le (by omega)) (by simp only [pk_code,hcd])
 ·exact (((((hf.pk _).pk _).pk _).pk _).pk _).le (by omega)
 ·exact w3.w _
 ·exact le_of hp.2 (w3.w _)
 ·exact (pk_ok (pk_ok (pk_ok (pk_ok (pk_ok hs _) _) _) _) _).le (by decide)
 ·exact ((((((hf.pk _).pk _).pk _).pk _).pk _).pk _).le (by omega)
 ·exact w3.w _
 ·exact congrArg (PV.rsl [.i .u8]) (by simp only [pk_code,hcd])
 ·exact inv_of k0 hlt (((((((hf.pk _).pk _).pk _).pk _).pk _).nr).le (by omega)) ((pk_code _ _).trans ((pk_code _ _).trans ((pk_code _ _).trans ((pk_code _ _).trans ((pk_code _ _).trans hcd)))))
 ·exact congrArg (PV.rsl [.i .u8]) (by simp only [pk_code,hcd])
 ·exact inv_of k0 hlt (X:=_) ((((((hf.pk _).pk _).pk _).pk _).pk _).le (by omega)) (by simp only [pk_code,hcd])
 ·exact congrArg (PV.rsl [.i .u8]) (by simp only [pk_code,hcd])
 ·exact inv_of k0 hlt (X:=_) ((((((hf.pk _).pk _).pk _).pk _).pk _).le (by omega)) (by simp only [pk_code,hcd])
 ·exact (((((hf.pk _).pk _).pk _).pk _).pk _).le (by omega)
 ·exact w3.w _
 ·exact hf.le (by omega)
 ·exact Nat.zero_le _
end Ax
end Go.Proofs.YtjjonmhpgkahoaaGreatDoor
