/-
  Plays drawn: walked.
  Conditions: none.
-/
import Derived.Test.YtjjonmhpgkahoaaGreatDoorH32
import Derived.Test.YtjjonmhpgkahoaaGreatDoorH17
import Derived.Test.YtjjonmhpgkahoaaGreatDoorH30
set_option linter.unusedSimpArgs false
set_option linter.unusedVariables false
namespace Go.Proofs.YtjjonmhpgkahoaaGreatDoor
namespace Ax
set_option maxRecDepth 100000
set_option maxHeartbeats 4000000
def Kj (g:Gm) (k:Nat):AH:=[(k,.own [.i .i64] g.ts.values 2),(k+1,.own [.i .i64] g.ts.counts 2),(k+2,.own [.s] g.lex 9),(k+3,.own [.s] g.racks 9),(k+4,.own [.i .i64] g.scores 2),(k+5,.own [.i .i64] g.clocks 2)]
def NS:AH→Option Src
 | x::_=>srT x
 | _=>none
def hG1:Nat×Ob→Option (Gm×List PV)
 | (1,.cells l t)=>if Nat.beq t 41 then gmO l else none
 | _=>none
theorem Rd {x:Nat×Ob} {g:Gm} {y:List PV} (h:hG1 x=some (g,y)) : ∃v c lx rk sc ck,y=[v,c,lx,rk,sc,ck]∧x=(1,.cells (gmK g v c lx rk sc ck) 41):=by
 unfold hG1 at h
 split at h
 ·split at h
  ·rename_i ht
   obtain⟨v,c,lx,rk,sc,ck,h1,h2⟩:=Br h
   exact⟨v,c,lx,rk,sc,ck,h1,by rw [h2,Nat.eq_of_beq_eq_true ht]⟩
  ·cases h
 ·cases h
def O4 (H:AH) (l:List PV):Option (Src×Gm):=match H,l with
 | [x0,y,x1,x2,x3,x4,x5,x6],[.ptr 0 0,.ptr 1 0]=>match srT x0,hG1 y,hN x1,hN x2,hW x3,hW x4,hN x5,hN x6 with
   | some σ,some (g,[.osl 2,.osl 3,.osl 4,.osl 5,.osl 6,.osl 7]),some (2,v),some (3,w),some (4,lx),some (5,rk),some (6,sc),some (7,ck)=>some (σ,Gq g v w lx rk sc ck)
   | _,_,_,_,_,_,_,_=>none
 | _,_=>none
def UC:je (Src×Gm):=⟨O4,fun a=>(0,.cells (srK a.1) 159)::(1,.cells (gmK a.2 (.osl 2) (.osl 3) (.osl 4) (.osl 5) (.osl 6) (.osl 7)) 41)::Kj a.2 2,fun _=>[.ptr 0 0,.ptr 1 0],fun H l a h=>by
 unfold O4 at h
 split at h
 ·split at h
  ·rename_i h0 h7 h1 h2 h3 h4 h5 h6
   obtain⟨v,c,lx,rk,sc,ck,hx,rfl⟩:=Rd h7
   cases hx
   cases h
   rw [xA h0,kT h1,kT h2,yc h3,yc h4,kT h5,kT h6]
   exact⟨rfl,rfl⟩
  ·cases h
 ·cases h⟩
def rPl (g:Gm):qw (Src×(Pl×Bool)):=⟨fun H l=>match l with
 | [.agg c,.b b]=>hZ (NS H) (hZ (KQ c) (some b))
 | _=>none,fun a=>(0,.cells (srK a.1) 159)::(1,.cells (gmK g (.osl 2) (.osl 3) (.osl 4) (.osl 5) (.osl 6) (.osl 7)) 41)::Kj g 2,fun a=>.tup [.agg (plK a.2.1),.b a.2.2]⟩
structure FdP (g:Gm):Prop where
 lx:g.lex=qB
 pl:0≤g.player∧g.player<g.racks.length
 rk:aM (g.racks.getD g.player.toNat [])=true
 bd:BdP g.bd
 sz:1≤g.bd.size∧g.bd.size≤100
def rkG (g:Gm):List UInt8:=g.racks.getD g.player.toNat []
theorem far.le {a b:Int} {σ τ:Src} (h:far a σ τ) (k:a≤b):far b σ τ:=⟨h.c,fun m h1=>(h.s m h1).le (by omega)⟩
theorem OD (σ:Src):far 0 σ σ:=⟨rfl,fun m h=>h.le (by omega)⟩
theorem far.pk {a:Int} {σ τ:Src} (h:far a σ τ) (n:Int):far (a+2) σ (pkS τ n):=uf h (wI τ n) (Int.le_refl _)
theorem far.nr {a:Int} {σ τ:Src} (h:far a σ τ):far (a+1) σ (nrS τ):=⟨h.c,fun m h1=>by
 have h2:=xQ (h.s m h1)
 rwa [Int.add_assoc] at h2⟩
theorem Cz {X:Src} {c:List Int} (h:X.code=c):(⟨c,X.pos,X.seed⟩:Src)=X:=by rw [←h]
theorem Oj:qB.all (fun w=>w.all fun c=>decide (97≤c.toNat)&&decide (c.toNat≤122))=true:=by decide +kernel
theorem FV:WsP qB:=by
 refine⟨by rw [OB];decide,fun k=>?_⟩
 rw [List.getD_eq_getElem?_getD]
 cases hk:qB[k]? with
 | none=>exact Nat.zero_le _
 | some x=>
   have h2:x.length≤12:=of_decide_eq_true (List.all_eq_true.1 tX x (List.mem_of_getElem? hk))
   exact Nat.le_trans h2 (by decide)
theorem FdP.n {g:Gm} (h:FdP g):(rkG g).length ≤7:=by
 have h1:=h.rk
 unfold aM at h1
 rw [Bool.and_eq_true] at h1
 exact of_decide_eq_true h1.2
theorem FdP.df {g:Gm} (h:FdP g):DfP g.lex (rkG g):=by
 have h1:=h.rk
 have h2:=h.n
 unfold aM at h1
 rw [Bool.and_eq_true] at h1
 exact⟨by rw [h.lx];exact FV,by omega,by rw [h.lx];exact G5,h1.1⟩
structure Od (q w:List UInt8):Prop where
 l:w.length≤12
 y:WyP q w
 s:dS q w≠[]
theorem FdP.mem {g:Gm} (h:FdP g) {w:List UInt8} (hm:w∈qI g.lex (rkG g)):Od (rkG g) w:=by
 obtain⟨h1,h2⟩:=IZ hm
 rw [h.lx] at h1
 have h3:w.length≤12:=of_decide_eq_true (List.all_eq_true.1 tX w h1)
 have h4 : ∀c∈w,97≤c.toNat∧c.toNat≤122:=fun c hc=>by
  have:=List.all_eq_true.1 (List.all_eq_true.1 Oj w h1) c hc
  rw [Bool.and_eq_true,decide_eq_true_eq,decide_eq_true_eq] at this
  exact this
 have h5:=h.n
 exact⟨h3,⟨h3,by omega,h4⟩,uH w _ (fun hc=>by have:=(h4 63 hc).1;exact absurd this (by decide)) h2⟩
theorem FdP.wd {g:Gm} (h:FdP g) {i:Int} (h0:0≤i) (hi:i<(qI g.lex (rkG g)).length):Od (rkG g) ((qI g.lex (rkG g)).getD i.toNat []):=h.mem (by
 rw [List.getD_eq_getElem?_getD,List.getElem?_eq_getElem (by omega)]
 exact List.getElem_mem (by omega))
theorem Od.w {q w:List UInt8} (h:Od q w) (j:Nat):((dS q w).getD j []).length ≤12:=FG h.l j
theorem fX {m n:Int} {σ:Src} (h:db m σ) (hn:1≤n):std.inL (pkV σ n) n:=⟨(ew h).1,(ew h).2.1 hn⟩
theorem uK {α:Type} {l:List α} (h:l≠[]):1≤(l.length:Int):=by have:=List.length_pos_iff.2 h;omega
theorem Pd {α:Type} {l:List α} (h:std.eqI (std.len l) 0=false):1≤(l.length:Int):=by
 have h1 : ¬(l.length:Int)=0:=E2 h
 have:=Int.natCast_nonneg l.length
 omega
def wK (w:List UInt8):Prop:=w.length≤12
theorem qz {n:Int} (h:1≤n∧n≤100):std.inK .i64 (std.quo n 2):=by rw [yg (by omega)];exact an (by omega)
theorem qz2 {n m:Int} {σ:Src} (h:1≤n∧n≤100) (hs:db m σ):std.inK .i64 (std.sub (std.quo n 2) (pkV σ 3)):=by
 have h1:=ew hs (n:=3)
 have h2:=h1.2.1 (by decide)
 rw [yg (by omega)]
 exact an (by show _≤n/2-pkV σ 3∧n/2-pkV σ 3≤_;omega)
theorem uN {g:Gm} (h:FdP g) {q:Pl} (hw:wK q.word):LeP g.bd g.lex (rkG g) q:=⟨h.bd,by rw [h.lx];exact FV,by have:=h.n;omega,Nat.le_trans hw (by decide)⟩
theorem di {k:Int} {σ X:Src} (k0:0≤k) (h:k<30) (hX:far (20*k+20) σ X) (hc:X.code=σ.code):0≤k+1∧k+1≤30∧far (20*(k+1)) σ ⟨σ.code,X.pos,X.seed⟩:=
 ⟨by omega,by omega,by rw [Cz hc];exact hX.le (by omega)⟩
def nq (_:Pr):d7:=nsp UC (fun (σ,g)=>db 999999990000 σ∧FdP g) (fun (σ,g)=>rPl g) (fun (σ,g) (τ,q,b)=>far 700 σ τ∧wK q.word)
theorem AM:NOk Tryz.prog 111 (nq std):=by
 refine NOk.goE (c:=cxN std [(199,fv std),(173,bn std),(200,fg std),(201,fp std),(122,cW std)] [(96,aF std),(64,aj std)] [] 8 (if false then some dU else none) []) (jk (.cons ph (.cons dF (.cons o4 (.cons pn (.cons jN .nil))))) (.cons ct (.cons aL .nil)) .nil) mixed Tryz.func111 rfl rfl (by kernel_rfl) ?_
 rintro ⟨σ,g⟩ hp
 dsimp only at hp
 refine⟨rfl,?_⟩
 unfold fv bn fg fp cW aF aj
 unfold fG
 obtain⟨H,hH⟩ : ∃H:Hd (Int×Int×Int),H=⟨fun (k,a,z)=>0≤k∧k≤30∧far (20*k) σ ⟨σ.code,a,z⟩,fun (k,a,z)=>(30-k).toNat,(· < ·)⟩:=⟨_,rfl⟩
 have hl:=hdl hH
 generalize hP:std=p,hB0:pkS=B0,hB1:pkV=B1,hB2:qI=B2,hB3:ag=B3,hB4:By=B4,hB5:dS=B5,hB6:bK=B6,hB7:far=B7,hB8:ltL=B8,hB9:wK=B9
 cbv
 repeat' first|refine fun (_:Unit)=>?_;cbv|refine Or.inr ⟨26,[],[.s 7 (.i .i64),.c 0 1 (.i .i64),.c 0 2 (.i .u64)],[],[],H,rfl,hl,?_,fun ((k,a,z):Int×Int×Int) hk=>?_⟩<;>cbv|refine aI2 (fun h=>?_) (fun h=>?_)<;>cbv|refine aI2 ?_ ?_
 all_goals subst hP hB0 hB1 hB2 hB3 hB4 hB5 hB6 hB7 hB8 hB9 hH
 all_goals clear hl
 all_goals try dsimp only at hk
 all_goals try dsimp only
 all_goals try exact fin
 all_goals (try simp only [mA,eD,fV,iR,oD] at *)
 ·exact hp.2.pl
 ·exact hp.2.pl
 ·exact⟨Int.le_refl 0,by decide,(OD σ).le (by decide)⟩
 all_goals obtain⟨k0,k1,hf⟩:=hk
 all_goals have hs:db 999999990600 ⟨σ.code,a,z⟩:=(hf.s _ hp.1).le (by omega)
 all_goals have hcd:(Src.mk σ.code a z).code =σ.code:=rfl
 all_goals generalize Src.mk σ.code a z=υ at *
 all_goals try (have hlt:k<30:=ah ‹_›)
 all_goals try (have hn:1≤((qI g.lex (rkG g)).length : Int):=Pd ‹_›)
 all_goals have x3:=ai (ai (ai hs 2) g.bd.size) g.bd.size
 all_goals have x4:=ai (ai (ai (ai hs 2) g.bd.size) g.bd.size) 3
 all_goals try (have w3:=hp.2.wd (ew x3).1 ((ew x3).2.1 hn))
 all_goals try (have w4:=hp.2.wd (ew x4).1 ((ew x4).2.1 hn))
 ·exact hs.le (by decide)
 ·exact hp.2.df
 ·exact (ai hs _).le (by decide)
 ·exact (ai (ai hs _) _).le (by decide)
 ·exact hp.2.bd
 ·exact qz hp.2.sz
 ·exact (ai (ai (ai hs _) _) _).le (by decide)
 ·exact qz2 hp.2.sz x3
 ·exact ((((hf.pk _).pk _).pk _).pk _).le (by omega)
 ·exact Nat.zero_le _
 ·exact (ai (ai (ai (ai hs _) _) _) _).le (by decide)
 ·exact fX x4 hn
 ·exact fX x4 hn
 ·exact Nat.lt_succ_of_le w4.l
 ·exact w4.y
 ·exact (ai (ai (ai (ai (ai hs _) _) _) _) _).le (by decide)
 ·exact fX (ai x4 _) (uK w4.s)
 ·exact fX (ai x4 _) (uK w4.s)
 ·exact uN hp.2 (w4.w _)
 ·exact (ai (ai (ai (ai (ai (ai hs _) _) _) _) _) _).le (by decide)
 ·exact (((((((hf.pk _).pk _).pk _).pk _).pk _).pk _).pk _).le (by omega)
 ·exact w4.w _
 ·exact congrArg (PV.rsl [.i .u8]) (by simp only [ak,hcd])
 ·exact di k0 hlt ((((((((hf.pk _).pk _).pk _).pk _).pk _).pk _).nr).le (by omega)) ((ak _ _).trans ((ak _ _).trans ((ak _ _).trans ((ak _ _).trans ((ak _ _).trans ((ak _ _).trans hcd))))))
 ·exact congrArg (PV.rsl [.i .u8]) (by simp only [ak,hcd])
 ·exact di k0 hlt (X:=_) (((((((hf.pk _).pk _).pk _).pk _).pk _).pk _).le (by omega)) (by simp only [ak,hcd])
 ·exact congrArg (PV.rsl [.i .u8]) (by simp only [ak,hcd])
 ·exact di k0 hlt (X:=_) (((((((hf.pk _).pk _).pk _).pk _).pk _).pk _).le (by omega)) (by simp only [ak,hcd])
 ·exact ((((((hf.pk _).pk _).pk _).pk _).pk _).pk _).le (by omega)
 ·exact w4.w _
 ·exact uN hp.2 (w4.w _)
 ·exact (ai (ai (ai (ai (ai (ai hs _) _) _) _) _) _).le (by decide)
 ·exact (((((((hf.pk _).pk _).pk _).pk _).pk _).pk _).pk _).le (by omega)
 ·exact w4.w _
 ·exact congrArg (PV.rsl [.i .u8]) (by simp only [ak,hcd])
 ·exact di k0 hlt ((((((((hf.pk _).pk _).pk _).pk _).pk _).pk _).nr).le (by omega)) ((ak _ _).trans ((ak _ _).trans ((ak _ _).trans ((ak _ _).trans ((ak _ _).trans ((ak _ _).trans hcd))))))
 ·exact congrArg (PV.rsl [.i .u8]) (by simp only [ak,hcd])
 ·exact di k0 hlt (X:=_) (((((((hf.pk _).pk _).pk _).pk _).pk _).pk _).le (by omega)) (by simp only [ak,hcd])
 ·exact congrArg (PV.rsl [.i .u8]) (by simp only [ak,hcd])
 ·exact di k0 hlt (X:=_) (((((((hf.pk _).pk _).pk _).pk _).pk _).pk _).le (by omega)) (by simp only [ak,hcd])
 ·exact ((((((hf.pk _).pk _).pk _).pk _).pk _).pk _).le (by omega)
 ·exact w4.w _
 ·exact (((hf.pk _).pk _).pk _).le (by omega)
 ·exact Nat.zero_le _
 ·exact (ai (ai (ai hs _) _) _).le (by decide)
 ·exact fX x3 hn
 ·exact fX x3 hn
 ·exact Nat.lt_succ_of_le w3.l
 ·exact w3.y
 ·exact (ai (ai (ai (ai hs _) _) _) _).le (by decide)
 ·exact fX (ai x3 _) (uK w3.s)
 ·exact fX (ai x3 _) (uK w3.s)
 ·exact uN hp.2 (w3.w _)
 ·exact (ai (ai (ai (ai (ai hs _) _) _) _) _).le (by decide)
 ·exact ((((((hf.pk _).pk _).pk _).pk _).pk _).pk _).le (by omega)
 ·exact w3.w _
 ·exact congrArg (PV.rsl [.i .u8]) (by simp only [ak,hcd])
 ·exact di k0 hlt (((((((hf.pk _).pk _).pk _).pk _).pk _).nr).le (by omega)) ((ak _ _).trans ((ak _ _).trans ((ak _ _).trans ((ak _ _).trans ((ak _ _).trans hcd)))))
 ·exact congrArg (PV.rsl [.i .u8]) (by simp only [ak,hcd])
 ·exact di k0 hlt (X:=_) ((((((hf.pk _).pk _).pk _).pk _).pk _).le (by omega)) (by simp only [ak,hcd])
 ·exact congrArg (PV.rsl [.i .u8]) (by simp only [ak,hcd])
 ·exact di k0 hlt (X:=_) ((((((hf.pk _).pk _).pk _).pk _).pk _).le (by omega)) (by simp only [ak,hcd])
 ·exact (((((hf.pk _).pk _).pk _).pk _).pk _).le (by omega)
 ·exact w3.w _
 ·exact uN hp.2 (w3.w _)
 ·exact (ai (ai (ai (ai (ai hs _) _) _) _) _).le (by decide)
 ·exact ((((((hf.pk _).pk _).pk _).pk _).pk _).pk _).le (by omega)
 ·exact w3.w _
 ·exact congrArg (PV.rsl [.i .u8]) (by simp only [ak,hcd])
 ·exact di k0 hlt (((((((hf.pk _).pk _).pk _).pk _).pk _).nr).le (by omega)) ((ak _ _).trans ((ak _ _).trans ((ak _ _).trans ((ak _ _).trans ((ak _ _).trans hcd)))))
 ·exact congrArg (PV.rsl [.i .u8]) (by simp only [ak,hcd])
 ·exact di k0 hlt (X:=_) ((((((hf.pk _).pk _).pk _).pk _).pk _).le (by omega)) (by simp only [ak,hcd])
 ·exact congrArg (PV.rsl [.i .u8]) (by simp only [ak,hcd])
 ·exact di k0 hlt (X:=_) ((((((hf.pk _).pk _).pk _).pk _).pk _).le (by omega)) (by simp only [ak,hcd])
 ·exact (((((hf.pk _).pk _).pk _).pk _).pk _).le (by omega)
 ·exact w3.w _
 ·exact hf.le (by omega)
 ·exact Nat.zero_le _
end Ax
end Go.Proofs.YtjjonmhpgkahoaaGreatDoor
