/-
  Plays drawn for a game in a box whose rows nobody changes: walked.
  Conditions: none.
-/
import Derived.Test.YtjjonmhpgkahoaaGreatDoorH33
import Derived.Test.YtjjonmhpgkahoaaGreatDoorH19
import Derived.Test.YtjjonmhpgkahoaaGreatDoorH31
set_option linter.unusedSimpArgs false
set_option linter.unusedVariables false
namespace Go.Proofs.YtjjonmhpgkahoaaGreatDoor
namespace Ax
set_option maxRecDepth 100000
set_option maxHeartbeats 4000000
def hGq:Nat×Ob→Option Gm
 | (1,.cells l t)=>if Nat.beq t 41 then Dp l else none
 | _=>none
theorem Qh {x:Nat×Ob} {g:Gm} (h:hGq x=some g):x=(1,.cells (gmR g) 41):=by
 unfold hGq at h
 split at h
 ·split at h
  ·rename_i ht
   rw [FL h,Nat.eq_of_beq_eq_true ht]
  ·cases h
 ·cases h
def Pp (H:AH) (l:List PV):Option (Src×Gm):=match H,l with
 | [x0,y],[.ptr 0 0,.ptr 1 0]=>hZ (srT x0) (hGq y)
 | _,_=>none
def Vj:je (Src×Gm):=⟨Pp,fun a=>[(0,.cells (srK a.1) 159),(1,.cells (gmR a.2) 41)],fun _=>[.ptr 0 0,.ptr 1 0],fun H l a h=>by
 unfold Pp at h
 split at h
 ·obtain⟨h1,h2⟩:=mU h
  rw [xA h1,Qh h2]
  exact⟨rfl,rfl⟩
 ·cases h⟩
def Vz (g:Gm):qw (Src×(Pl×Bool)):=⟨fun H l=>match l with
 | [.agg c,.b b]=>hZ (NS H) (hZ (KQ c) (some b))
 | _=>none,fun a=>[(0,.cells (srK a.1) 159),(1,.cells (gmR g) 41)],fun a=>.tup [.agg (plK a.2.1),.b a.2.2]⟩
def pq (_:Pr):d7:=nsp Vj (fun (σ,g)=>db 999999990000 σ∧FdP g) (fun (σ,g)=>Vz g) (fun (σ,g) (τ,q,b)=>far 700 σ τ∧wK q.word)
theorem Cr:NOk Tryz.prog 111 (pq std):=by
 refine NOk.goE (c:=cxN std [(199,fv std),(173,bn std),(200,fg std),(201,fp std),(122,cW std)] [(96,aF std),(64,aj std)] [] 2 (if false then some dU else none) []) (jk (.cons ph (.cons dF (.cons o4 (.cons pn (.cons jN .nil))))) (.cons ct (.cons aL .nil)) .nil) mixed Tryz.func111 rfl rfl (by kernel_rfl) ?_
 rintro ⟨σ,g⟩ hp
 dsimp only at hp
 refine⟨rfl,?_⟩
 unfold fv bn fg fp cW aF aj
 unfold fG
 obtain⟨H,hH⟩ : ∃H:Hd (Int×Int×Int),H=⟨fun (k,a,z)=>0≤k∧k≤30∧far (20*k) σ ⟨σ.code,a,z⟩,fun (k,a,z)=>(30-k).toNat,(· < ·)⟩:=⟨_,rfl⟩
 have hl:=hdl hH
 generalize hP:std=p,hB0:pkS=B0,hB1:pkV=B1,hB2:qI=B2,hB3:ag=B3,hB4:By=B4,hB5:dS=B5,hB6:bK=B6,hB7:far=B7,hB8:ltL=B8,hB9:wK=B9
 cbv
 repeat' first|refine fun (_:Unit)=>?_;cbv|refine Or.inr ⟨26,[],[.s 7 (.i .i64),.c 0 1 (.i .i64),.c 0 2 (.i .u64)],[],[],H,rfl,hl,?_,fun ((k,a,z):Int×Int×Int) hk=>?_⟩<;>cbv|refine aI2 (fun h=>?_) (fun h=>?_)<;>cbv|refine aI2 ?_ ?_
 all_goals subst hP hB0 hB1 hB2 hB3 hB4 hB5 hB6 hB7 hB8 hB9 hH
 all_goals clear hl
 all_goals try dsimp only at hk
 all_goals try dsimp only
 all_goals try exact fin
 all_goals (try simp only [mA,eD,fV,iR,oD] at *)
 ·exact hp.2.pl
 ·exact⟨Int.le_refl 0,by decide,(OD σ).le (by decide)⟩
 all_goals obtain⟨k0,k1,hf⟩:=hk
 all_goals have hs:db 999999990600 ⟨σ.code,a,z⟩:=(hf.s _ hp.1).le (by omega)
 all_goals have hcd:(Src.mk σ.code a z).code =σ.code:=rfl
 all_goals generalize Src.mk σ.code a z=υ at *
 all_goals try (have hlt:k<30:=ah ‹_›)
 all_goals try (have hn:1≤((qI g.lex (rkG g)).length : Int):=Pd ‹_›)
 all_goals have x3:=ai (ai (ai hs 2) g.bd.size) g.bd.size
 all_goals have x4:=ai (ai (ai (ai hs 2) g.bd.size) g.bd.size) 3
 all_goals try (have w3:=hp.2.wd (ew x3).1 ((ew x3).2.1 hn))
 all_goals try (have w4:=hp.2.wd (ew x4).1 ((ew x4).2.1 hn))
 ·exact hs.le (by decide)
 ·exact hp.2.df
 ·exact (ai hs _).le (by decide)
 ·exact (ai (ai hs _) _).le (by decide)
 ·exact hp.2.bd
 ·exact qz hp.2.sz
 ·exact (ai (ai (ai hs _) _) _).le (by decide)
 ·exact qz2 hp.2.sz x3
 ·exact ((((hf.pk _).pk _).pk _).pk _).le (by omega)
 ·exact Nat.zero_le _
 ·exact (ai (ai (ai (ai hs _) _) _) _).le (by decide)
 ·exact fX x4 hn
 ·exact fX x4 hn
 ·exact Nat.lt_succ_of_le w4.l
 ·exact w4.y
 ·exact (ai (ai (ai (ai (ai hs _) _) _) _) _).le (by decide)
 ·exact fX (ai x4 _) (uK w4.s)
 ·exact fX (ai x4 _) (uK w4.s)
 ·exact uN hp.2 (w4.w _)
 ·exact (ai (ai (ai (ai (ai (ai hs _) _) _) _) _) _).le (by decide)
 ·exact (((((((hf.pk _).pk _).pk _).pk _).pk _).pk _).pk _).le (by omega)
 ·exact w4.w _
 ·exact congrArg (PV.rsl [.i .u8]) (by simp only [ak,hcd])
 ·exact di k0 hlt ((((((((hf.pk _).pk _).pk _).pk _).pk _).pk _).nr).le (by omega)) ((ak _ _).trans ((ak _ _).trans ((ak _ _).trans ((ak _ _).trans ((ak _ _).trans ((ak _ _).trans hcd))))))
 ·exact congrArg (PV.rsl [.i .u8]) (by simp only [ak,hcd])
 ·exact di k0 hlt (X:=_) (((((((hf.pk _).pk _).pk _).pk _).pk _).pk _).le (by omega)) (by simp only [ak,hcd])
 ·exact congrArg (PV.rsl [.i .u8]) (by simp only [ak,hcd])
 ·exact di k0 hlt (X:=_) (((((((hf.pk _).pk _).pk _).pk _).pk _).pk _).le (by omega)) (by simp only [ak,hcd])
 ·exact ((((((hf.pk _).pk _).pk _).pk _).pk _).pk _).le (by omega)
 ·exact w4.w _
 ·exact uN hp.2 (w4.w _)
 ·exact (ai (ai (ai (ai (ai (ai hs _) _) _) _) _) _).le (by decide)
 ·exact (((((((hf.pk _).pk _).pk _).pk _).pk _).pk _).pk _).le (by omega)
 ·exact w4.w _
 ·exact congrArg (PV.rsl [.i .u8]) (by simp only [ak,hcd])
 ·exact di k0 hlt ((((((((hf.pk _).pk _).pk _).pk _).pk _).pk _).nr).le (by omega)) ((ak _ _).trans ((ak _ _).trans ((ak _ _).trans ((ak _ _).trans ((ak _ _).trans ((ak _ _).trans hcd))))))
 ·exact congrArg (PV.rsl [.i .u8]) (by simp only [ak,hcd])
 ·exact di k0 hlt (X:=_) (((((((hf.pk _).pk _).pk _).pk _).pk _).pk _).le (by omega)) (by simp only [ak,hcd])
 ·exact congrArg (PV.rsl [.i .u8]) (by simp only [ak,hcd])
 ·exact di k0 hlt (X:=_) (((((((hf.pk _).pk _).pk _).pk _).pk _).pk _).le (by omega)) (by simp only [ak,hcd])
 ·exact ((((((hf.pk _).pk _).pk _).pk _).pk _).pk _).le (by omega)
 ·exact w4.w _
 ·exact (((hf.pk _).pk _).pk _).le (by omega)
 ·exact Nat.zero_le _
 ·exact (ai (ai (ai hs _) _) _).le (by decide)
 ·exact fX x3 hn
 ·exact fX x3 hn
 ·exact Nat.lt_succ_of_le w3.l
 ·exact w3.y
 ·exact (ai (ai (ai (ai hs _) _) _) _).le (by decide)
 ·exact fX (ai x3 _) (uK w3.s)
 ·exact fX (ai x3 _) (uK w3.s)
 ·exact uN hp.2 (w3.w _)
 ·exact (ai (ai (ai (ai (ai hs _) _) _) _) _).le (by decide)
 ·exact ((((((hf.pk _).pk _).pk _).pk _).pk _).pk _).le (by omega)
 ·exact w3.w _
 ·exact congrArg (PV.rsl [.i .u8]) (by simp only [ak,hcd])
 ·exact di k0 hlt (((((((hf.pk _).pk _).pk _).pk _).pk _).nr).le (by omega)) ((ak _ _).trans ((ak _ _).trans ((ak _ _).trans ((ak _ _).trans ((ak _ _).trans hcd)))))
 ·exact congrArg (PV.rsl [.i .u8]) (by simp only [ak,hcd])
 ·exact di k0 hlt (X:=_) ((((((hf.pk _).pk _).pk _).pk _).pk _).le (by omega)) (by simp only [ak,hcd])
 ·exact congrArg (PV.rsl [.i .u8]) (by simp only [ak,hcd])
 ·exact di k0 hlt (X:=_) ((((((hf.pk _).pk _).pk _).pk _).pk _).le (by omega)) (by simp only [ak,hcd])
 ·exact (((((hf.pk _).pk _).pk _).pk _).pk _).le (by omega)
 ·exact w3.w _
 ·exact uN hp.2 (w3.w _)
 ·exact (ai (ai (ai (ai (ai hs _) _) _) _) _).le (by decide)
 ·exact ((((((hf.pk _).pk _).pk _).pk _).pk _).pk _).le (by omega)
 ·exact w3.w _
 ·exact congrArg (PV.rsl [.i .u8]) (by simp only [ak,hcd])
 ·exact di k0 hlt (((((((hf.pk _).pk _).pk _).pk _).pk _).nr).le (by omega)) ((ak _ _).trans ((ak _ _).trans ((ak _ _).trans ((ak _ _).trans ((ak _ _).trans hcd)))))
 ·exact congrArg (PV.rsl [.i .u8]) (by simp only [ak,hcd])
 ·exact di k0 hlt (X:=_) ((((((hf.pk _).pk _).pk _).pk _).pk _).le (by omega)) (by simp only [ak,hcd])
 ·exact congrArg (PV.rsl [.i .u8]) (by simp only [ak,hcd])
 ·exact di k0 hlt (X:=_) ((((((hf.pk _).pk _).pk _).pk _).pk _).le (by omega)) (by simp only [ak,hcd])
 ·exact (((((hf.pk _).pk _).pk _).pk _).pk _).le (by omega)
 ·exact w3.w _
 ·exact hf.le (by omega)
 ·exact Nat.zero_le _
set_option maxHeartbeats 20000000
section
variable {a b t:List UInt8} {g:Gm} {k n:Int}
end
section
variable {g:Gm} {k n:Int} {t:List UInt8}
end
set_option maxHeartbeats 2000000
end Ax
end Go.Proofs.YtjjonmhpgkahoaaGreatDoor
