/-
  Plays drawn: walked.
  Conditions: none.
-/
import Derived.Test.YtjjonmhpgkahoaaGreatDoorS30
set_option linter.unusedSimpArgs false
set_option linter.unusedVariables false
namespace Go.Proofs.YtjjonmhpgkahoaaGreatDoor
namespace Ax
set_option maxRecDepth 100000
set_option maxHeartbeats 4000000
def gmH7 (g:Gm) (k:Nat):AH:=[(k,.own [.i .i64] g.ts.values 2),(k+1,.own [.i .i64] g.ts.counts 2),(k+2,.own [.s] g.lex 9),(k+3,.own [.s] g.racks 9),(k+4,.own [.i .i64] g.scores 2),(k+5,.own [.i .i64] g.clocks 2)]
def srHd:AH→Option Src
 | x::_=>srT x
 | _=>none
def hG1:Nat×Ob→Option (Gm×List PV)
 | (1,.cells l t)=>if Nat.beq t 41 then gmO l else none
 | _=>none
theorem hG1_ok {x:Nat×Ob} {g:Gm} {y:List PV} (h:hG1 x=some (g,y)) : ∃v c lx rk sc ck,y=[v,c,lx,rk,sc,ck]∧x=(1,.cells (gmK g v c lx rk sc ck) 41):=by
 unfold hG1 at h
 split at h
 ·split at h
  ·rename_i ht
   obtain⟨v,c,lx,rk,sc,ck,h1,h2⟩:=gmO_eq h
   exact⟨v,c,lx,rk,sc,ck,h1,by rw [h2,Nat.eq_of_beq_eq_true ht]⟩
  ·cases h
 ·cases h
def sgpRd (H:AH) (l:List PV):Option (Src×Gm):=match H,l with
 | [x0,y,x1,x2,x3,x4,x5,x6],[.ptr 0 0,.ptr 1 0]=>match srT x0,hG1 y,hN x1,hN x2,hW x3,hW x4,hN x5,hN x6 with
   | some σ,some (g,[.osl 2,.osl 3,.osl 4,.osl 5,.osl 6,.osl 7]),some (2,v),some (3,w),some (4,lx),some (5,rk),some (6,sc),some (7,ck)=>some (σ,fillG g v w lx rk sc ck)
   | _,_,_,_,_,_,_,_=>none
 | _,_=>none
def mSGp:MArgs (Src×Gm):=⟨sgpRd,fun a=>(0,.cells (srK a.1) 159)::(1,.cells (gmK a.2 (.osl 2) (.osl 3) (.osl 4) (.osl 5) (.osl 6) (.osl 7)) 41)::gmH7 a.2 2,fun _=>[.ptr 0 0,.ptr 1 0],fun H l a h=>by
 unfold sgpRd at h
 split at h
 ·split at h
  ·rename_i h0 h7 h1 h2 h3 h4 h5 h6
   obtain⟨v,c,lx,rk,sc,ck,hx,rfl⟩:=hG1_ok h7
   cases hx
   cases h
   rw [srT_ok h0,hN_ok h1,hN_ok h2,hW_ok h3,hW_ok h4,hN_ok h5,hN_ok h6]
   exact⟨rfl,rfl⟩
  ·cases h
 ·cases h⟩
def rPl (g:Gm):NRes (Src×(Pl×Bool)):=⟨fun H l=>match l with
 | [.agg c,.b b]=>both' (srHd H) (both' (plOf c) (some b))
 | _=>none,fun a=>(0,.cells (srK a.1) 159)::(1,.cells (gmK g (.osl 2) (.osl 3) (.osl 4) (.osl 5) (.osl 6) (.osl 7)) 41)::gmH7 g 2,fun a=>.tup [.agg (plK a.2.1),.b a.2.2]⟩
structure FdP (g:Gm):Prop where
 lx:g.lex=allW
 pl:0≤g.player∧g.player<g.racks.length
 rk:rackB (g.racks.getD g.player.toNat [])=true
 bd:BdP g.bd
 sz:1≤g.bd.size∧g.bd.size≤100
def rkG (g:Gm):List UInt8:=g.racks.getD g.player.toNat []
theorem far.le {a b:Int} {σ τ:Src} (h:far a σ τ) (k:a≤b):far b σ τ:=⟨h.c,fun m h1=>(h.s m h1).le (by omega)⟩
theorem far_0 (σ:Src):far 0 σ σ:=⟨rfl,fun m h=>h.le (by omega)⟩
theorem far.pk {a:Int} {σ τ:Src} (h:far a σ τ) (n:Int):far (a+2) σ (pkS τ n):=far_tr h (far_pk τ n) (Int.le_refl _)
theorem far.nr {a:Int} {σ τ:Src} (h:far a σ τ):far (a+1) σ (nrS τ):=⟨h.c,fun m h1=>by
 have h2:=nr_ok (h.s m h1)
 rwa [Int.add_assoc] at h2⟩
theorem sr_eq {X:Src} {c:List Int} (h:X.code=c):(⟨c,X.pos,X.seed⟩:Src)=X:=by rw [←h]
theorem all_let:allW.all (fun w=>w.all fun c=>decide (97≤c.toNat)&&decide (c.toNat≤122))=true:=by decide +kernel
theorem all_wsp:WsP allW:=by
 refine⟨by rw [all_n];decide,fun k=>?_⟩
 rw [List.getD_eq_getElem?_getD]
 cases hk:allW[k]? with
 | none=>exact Nat.zero_le _
 | some x=>
   have h2:x.length≤12:=of_decide_eq_true (List.all_eq_true.1 all_short x (List.mem_of_getElem? hk))
   exact Nat.le_trans h2 (by decide)
theorem FdP.n {g:Gm} (h:FdP g):(rkG g).length ≤7:=by
 have h1:=h.rk
 unfold rackB at h1
 rw [Bool.and_eq_true] at h1
 exact of_decide_eq_true h1.2
theorem FdP.df {g:Gm} (h:FdP g):DfP g.lex (rkG g):=by
 have h1:=h.rk
 have h2:=h.n
 unfold rackB at h1
 rw [Bool.and_eq_true] at h1
 exact⟨by rw [h.lx];exact all_wsp,by omega,by rw [h.lx];exact all_lex,h1.1⟩
structure WrdP (q w:List UInt8):Prop where
 l:w.length≤12
 y:WyP q w
 s:waysL q w≠[]
theorem FdP.mem {g:Gm} (h:FdP g) {w:List UInt8} (hm:w∈fromW g.lex (rkG g)):WrdP (rkG g) w:=by
 obtain⟨h1,h2⟩:=from_can hm
 rw [h.lx] at h1
 have h3:w.length≤12:=of_decide_eq_true (List.all_eq_true.1 all_short w h1)
 have h4 : ∀c∈w,97≤c.toNat∧c.toNat≤122:=fun c hc=>by
  have:=List.all_eq_true.1 (List.all_eq_true.1 all_let w h1) c hc
  rw [Bool.and_eq_true,decide_eq_true_eq,decide_eq_true_eq] at this
  exact this
 have h5:=h.n
 exact⟨h3,⟨h3,by omega,h4⟩,ways_some w _ (fun hc=>by have:=(h4 63 hc).1;exact absurd this (by decide)) h2⟩
theorem FdP.wd {g:Gm} (h:FdP g) {i:Int} (h0:0≤i) (hi:i<(fromW g.lex (rkG g)).length):WrdP (rkG g) ((fromW g.lex (rkG g)).getD i.toNat []):=h.mem (by
 rw [List.getD_eq_getElem?_getD,List.getElem?_eq_getElem (by omega)]
 exact List.getElem_mem (by omega))
theorem WrdP.w {q w:List UInt8} (h:WrdP q w) (j:Nat):((waysL q w).getD j []).length ≤12:=ways_e h.l j
theorem pk_inL {m n:Int} {σ:Src} (h:SrOk m σ) (hn:1≤n):std.inL (pkV σ n) n:=⟨(pk_bd h).1,(pk_bd h).2.1 hn⟩
theorem len_1 {α:Type} {l:List α} (h:l≠[]):1≤(l.length:Int):=by have:=List.length_pos_iff.2 h;omega
theorem len_f {α:Type} {l:List α} (h:std.eqI (std.len l) 0=false):1≤(l.length:Int):=by
 have h1 : ¬(l.length:Int)=0:=of_f h
 have:=Int.natCast_nonneg l.length
 omega
def le12 (w:List UInt8):Prop:=w.length≤12
theorem qz {n:Int} (h:1≤n∧n≤100):std.inK .i64 (std.quo n 2):=by rw [quo_nn (by omega)];exact in64 (by omega)
theorem qz2 {n m:Int} {σ:Src} (h:1≤n∧n≤100) (hs:SrOk m σ):std.inK .i64 (std.sub (std.quo n 2) (pkV σ 3)):=by
 have h1:=pk_bd hs (n:=3)
 have h2:=h1.2.1 (by decide)
 rw [quo_nn (by omega)]
 exact in64 (by show _≤n/2-pkV σ 3∧n/2-pkV σ 3≤_;omega)
theorem le_of {g:Gm} (h:FdP g) {q:Pl} (hw:le12 q.word):LeP g.bd g.lex (rkG g) q:=⟨h.bd,by rw [h.lx];exact all_wsp,by have:=h.n;omega,Nat.le_trans hw (by decide)⟩
theorem inv_of {k:Int} {σ X:Src} (k0:0≤k) (h:k<30) (hX:far (20*k+20) σ X) (hc:X.code=σ.code):0≤k+1∧k+1≤30∧far (20*(k+1)) σ ⟨σ.code,X.pos,X.seed⟩:=
 ⟨by omega,by omega,by rw [sr_eq hc];exact hX.le (by omega)⟩
def sp_s_l18Find (_:Pr):NSpec:=nsp mSGp (fun (σ,g)=>SrOk 999999990000 σ∧FdP g) (fun (σ,g)=>rPl g) (fun (σ,g) (τ,q,b)=>far 700 σ τ∧le12 q.word)
theorem ok_s_l18Find:NOk Tryz.prog 111 (sp_s_l18Find std):=by
 refine NOk.goE (c:=cxN std [(199,sp_s_WordsFrom std),(173,sp_s_l11Letters std),(200,sp_s_l00Max std),(201,sp_s_l03Ways_c std),(122,sp_s_l12Legal std)] [(96,sp_s_xl00Src_one std),(64,sp_s_xl00Src_pick std)] [] 8 (if false then some stdU else none) []) (cxN_ok (.cons ok_s_WordsFrom (.cons ok_s_l11Letters (.cons ok_s_l00Max (.cons ok_s_l03Ways_c (.cons ok_s_l12Legal .nil))))) (.cons ok_s_xl00Src_one (.cons ok_s_xl00Src_pick .nil)) .nil) mixed Tryz.func111 rfl rfl (by kernel_rfl) ?_
 rintro ⟨σ,g⟩ hp
 dsimp only at hp
 refine⟨rfl,?_⟩
 unfold sp_s_WordsFrom sp_s_l11Letters sp_s_l00Max sp_s_l03Ways_c sp_s_l12Legal sp_s_xl00Src_one sp_s_xl00Src_pick
 unfold sp_s_l03Ways
 obtain⟨H,hH⟩ : ∃H:Hd (Int×Int×Int),H=⟨fun (k,a,z)=>0≤k∧k≤30∧far (20*k) σ ⟨σ.code,a,z⟩,fun (k,a,z)=>(30-k).toNat,(· < ·)⟩:=⟨_,rfl⟩
 have hl : ∀m n,H.lt m n→m<n:=by subst hH;exact fun _ _ h=>h
 generalize hP:std=p,hB0:pkS=B0,hB1:pkV=B1,hB2:fromW=B2,hB3:lettersS=B3,hB4:maxI=B4,hB5:waysL=B5,hB6:legalC=B6,hB7:far=B7,hB8:ltL=B8,hB9:le12=B9
 cbv
 repeat' first
  | (refine fun (_:Unit)=>?_;cbv)
  | (refine Or.inr ⟨26,[],[.s 7 (.i .i64),.c 0 1 (.i .i64),.c 0 2 (.i .u64)],[],[],H,rfl,hl,?_,fun ((k,a,z):Int×Int×Int) hk=>?_⟩<;>cbv)
  | (refine aI2 (fun h=>?_) (fun h=>?_)<;>cbv)
  | (refine aI2 ?_ ?_)
 all_goals subst hP hB0 hB1 hB2 hB3 hB4 hB5 hB6 hB7 hB8 hB9 hH
 all_goals clear hl
 all_goals try dsimp only at hk
 all_goals try dsimp only
 all_goals try exact fin
 all_goals (try simp only [eta_sr,eta_bd,eta_pl,eta_ts,eta_la] at *)
 ·exact hp.2.pl
 ·exact hp.2.pl
 ·exact⟨Int.le_refl 0,by decide,(far_0 σ).le (by decide)⟩
 all_goals obtain⟨k0,k1,hf⟩:=hk
 all_goals have hs:SrOk 999999990600 ⟨σ.code,a,z⟩:=(hf.s _ hp.1).le (by omega)
 all_goals have hcd:(Src.mk σ.code a z).code =σ.code:=rfl
 all_goals generalize Src.mk σ.code a z=υ at *
 all_goals try (have hlt:k<30:=lt_of ‹_›)
 all_goals try (have hn:1≤((fromW g.lex (rkG g)).length : Int):=len_f ‹_›)
 all_goals have x3:=pk_ok (pk_ok (pk_ok hs 2) g.bd.size) g.bd.size
 all_goals have x4:=pk_ok (pk_ok (pk_ok (pk_ok hs 2) g.bd.size) g.bd.size) 3
 all_goals try (have w3:=hp.2.wd (pk_bd x3).1 ((pk_bd x3).2.1 hn))
 all_goals try (have w4:=hp.2.wd (pk_bd x4).1 ((pk_bd x4).2.1 hn))
 ·exact hs.le (by decide)
 ·exact hp.2.df
 ·exact (pk_ok hs _).le (by decide)
 ·exact (pk_ok (pk_ok hs _) _).le (by decide)
 ·exact hp.2.bd
 ·exact qz hp.2.sz
 ·exact (pk_ok (pk_ok (pk_ok hs _) _) _).le (by decide)
 ·exact qz2 hp.2.sz x3
 ·exact ((((hf.pk _).pk _).pk _).pk _).le (by omega)
 ·exact Nat.zero_le _
 ·exact (pk_ok (pk_ok (pk_ok (pk_ok hs _) _) _) _).le (by decide)
 ·exact pk_inL x4 hn
 ·exact pk_inL x4 hn
 ·exact Nat.lt_succ_of_le w4.l
 ·exact w4.y
 ·exact (pk_ok (pk_ok (pk_ok (pk_ok (pk_ok hs _) _) _) _) _).le (by decide)
 ·exact pk_inL (pk_ok x4 _) (len_1 w4.s)
 ·exact pk_inL (pk_ok x4 _) (len_1 w4.s)
 ·exact le_of hp.2 (w4.w _)
 ·exact (pk_ok (pk_ok (pk_ok (pk_ok (pk_ok (pk_ok hs _) _) _) _) _) _).le (by decide)
 ·exact (((((((hf.pk _).pk _).pk _).pk _).pk _).pk _).pk _).le (by omega)
 ·exact w4.w _
 ·exact congrArg (PV.rsl [.i .u8]) (by simp only [pk_code,hcd])
 ·exact inv_of k0 hlt ((((((((hf.pk _).pk _).pk _).pk _).pk _).pk _).nr).le (by omega)) ((pk_code _ _).trans ((pk_code _ _).trans ((pk_code _ _).trans ((pk_code _ _).trans ((pk_code _ _).trans ((pk_code _ _).trans hcd))))))
 ·exact congrArg (PV.rsl [.i .u8]) (by simp only [pk_code,hcd])
 ·exact inv_of k0 hlt (X:=_) (((((((hf.pk _).pk _).pk _).pk _).pk _).pk _).le (by omega)) (by simp only [pk_code,hcd])
 ·exact congrArg (PV.rsl [.i .u8]) (by simp only [pk_code,hcd])
 ·exact inv_of k0 hlt (X:=_) (((((((hf.pk _).pk _).pk _).pk _).pk _).pk _).le (by omega)) (by simp only [pk_code,hcd])
 ·exact ((((((hf.pk _).pk _).pk _).pk _).pk _).pk _).le (by omega)
 ·exact w4.w _
 ·exact le_of hp.2 (w4.w _)
 ·exact (pk_ok (pk_ok (pk_ok (pk_ok (pk_ok (pk_ok hs _) _) _) _) _) _).le (by decide)
 ·exact (((((((hf.pk _).pk _).pk _).pk _).pk _).pk _).pk _).le (by omega)
 ·exact w4.w _
 ·exact congrArg (PV.rsl [.i .u8]) (by simp only [pk_code,hcd])
 ·exact inv_of k0 hlt ((((((((hf.pk _).pk _).pk _).pk _).pk _).pk _).nr).le (by omega)) ((pk_code _ _).trans ((pk_code _ _).trans ((pk_code _ _).trans ((pk_code _ _).trans ((pk_code _ _).trans ((pk_code _ _).trans hcd))))))
 ·exact congrArg (PV.rsl [.i .u8]) (by simp only [pk_code,hcd])
 ·exact inv_of k0 hlt (X:=_) (((((((hf.pk _).pk _).pk _).pk _).pk _).pk _).le (by omega)) (by simp only [pk_code,hcd])
 ·exact congrArg (PV.rsl [.i .u8]) (by simp only [pk_code,hcd])
 ·exact inv_of k0 hlt (X:=_) (((((((hf.pk _).pk _).pk _).pk _).pk _).pk _).le (by omega)) (by simp only [pk_code,hcd])
 ·exact ((((((hf.pk _).pk _).pk _).pk _).pk _).pk _).le (by omega)
 ·exact w4.w _
 ·exact (((hf.pk _).pk _).pk _).le (by omega)
 ·exact Nat.zero_le _
 ·exact (pk_ok (pk_ok (pk_ok hs _) _) _).le (by decide)
 ·exact pk_inL x3 hn
 ·exact pk_inL x3 hn
 ·exact Nat.lt_succ_of_le w3.l
 ·exact w3.y
 ·exact (pk_ok (pk_ok (pk_ok (pk_ok hs _) _) _) _).le (by decide)
 ·exact pk_inL (pk_ok x3 _) (len_1 w3.s)
 ·exact pk_inL (pk_ok x3 _) (len_1 w3.s)
 ·exact le_of hp.2 (w3.w _)
 ·exact (pk_ok (pk_ok (pk_ok (pk_ok (pk_ok hs _) _) _) _) _).le (by decide)
 ·exact ((((((hf.pk _).pk _).pk _).pk _).pk _).pk _).le (by omega)
 ·exact w3.w _
 ·exact congrArg (PV.rsl [.i .u8]) (by simp only [pk_code,hcd])
 ·exact inv_of k0 hlt (((((((hf.pk _).pk _).pk _).pk _).pk _).nr).le (by omega)) ((pk_code _ _).trans ((pk_code _ _).trans ((pk_code _ _).trans ((pk_code _ _).trans ((pk_code _ _).trans hcd)))))
 ·exact congrArg (PV.rsl [.i .u8]) (by simp only [pk_code,hcd])
 ·exact inv_of k0 hlt (X:=_) ((((((hf.pk _).pk _).pk _).pk _).pk _).le (by omega)) (by simp only [pk_code,hcd])
 ·exact congrArg (PV.rsl [.i .u8]) (by simp only [pk_code,hcd])
 ·exact inv_of k0 hlt (X:=_) ((((((hf.pk _).pk _).pk _).pk _).pk _).le (by omega)) (by simp only [pk_code,hcd])
 ·exact (((((hf.pk _).pk _).pk _).pk _).pk _).le (by omega)
 ·exact w3.w _
 ·exact le_of hp.2 (w3.w _)
 ·exact (pk_ok (pk_ok (pk_ok (pk_ok (pk_ok hs _) _) _) _) _).le (by decide)
 ·exact ((((((hf.pk _).pk _).pk _).pk _).pk _).pk _).le (by omega)
 ·exact w3.w _
 ·exact congrArg (PV.rsl [.i .u8]) (by simp only [pk_code,hcd])
 ·exact inv_of k0 hlt (((((((hf.pk _).pk _).pk _).pk _).pk _).nr).le (by omega)) ((pk_code _ _).trans ((pk_code _ _).trans ((pk_code _ _).trans ((pk_code _ _).trans ((pk_code _ _).trans hcd)))))
 ·exact congrArg (PV.rsl [.i .u8]) (by simp only [pk_code,hcd])
 ·exact inv_of k0 hlt (X:=_) ((((((hf.pk _).pk _).pk _).pk _).pk _).le (by omega)) (by simp only [pk_code,hcd])
 ·exact congrArg (PV.rsl [.i .u8]) (by simp only [pk_code,hcd])
 ·exact inv_of k0 hlt (X:=_) ((((((hf.pk _).pk _).pk _).pk _).pk _).le (by omega)) (by simp only [pk_code,hcd])
 ·exact (((((hf.pk _).pk _).pk _).pk _).pk _).le (by omega)
 ·exact w3.w _
 ·exact hf.le (by omega)
 ·exact Nat.zero_le _
end Ax
end Go.Proofs.YtjjonmhpgkahoaaGreatDoor
