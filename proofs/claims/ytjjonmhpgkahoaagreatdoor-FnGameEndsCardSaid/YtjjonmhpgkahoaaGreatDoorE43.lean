/-
  What the laws of turns are asked: walked; What the laws of turns are asked: walked; What the laws of quiet turns are handed: walked.
  Conditions: none.
-/
import Derived.Test.YtjjonmhpgkahoaaGreatDoorE42
set_option linter.unusedSimpArgs false
set_option linter.unusedVariables false
namespace Go.Proofs.YtjjonmhpgkahoaaGreatDoor
namespace Ax
set_option maxRecDepth 100000
set_option maxHeartbeats 20000000
def secV (σ:Src):Int:=if pkV σ 12=0 then amV (pkS σ 12) [-1,0,36000,36001] else pkV (pkS σ 12) 120
def secS (σ:Src):Src:=if pkV σ 12=0 then pkS (pkS σ 12) 4 else pkS (pkS σ 12) 120
theorem sec_t {σ:Src} (h:std.eqI (pkV σ 12) 0=true):secV σ=amV (pkS σ 12) [-1,0,36000,36001]∧secS σ=pkS (pkS σ 12) 4:=by
 have h1:pkV σ 12=0:=by simpa using h
 exact⟨if_pos h1,if_pos h1⟩
theorem sec_f {σ:Src} (h:std.eqI (pkV σ 12) 0=false):secV σ=pkV (pkS σ 12) 120∧secS σ=pkS (pkS σ 12) 120:=by
 have h1 : ¬pkV σ 12=0:=by simpa using h
 exact⟨if_neg h1,if_neg h1⟩
def sp_s_l18Seconds (p:Pr):MSpec:=msp (mS a0) (fun (σ,_u)=>SrOk 999999900000 σ) (fun (σ,_u)=>.i .i64 (secV σ)) (fun (σ,_u)=>srH (secS σ))
theorem ok_s_l18Seconds:MOk Tryz.prog 93 (sp_s_l18Seconds std):=by
 refine MOk.go (c:=cx std [] [(96,sp_s_xl00Src_one std),(64,sp_s_xl00Src_pick std),(66,sp_amongO std)] 1) (cx_ok .nil (.cons ok_s_xl00Src_one (.cons ok_s_xl00Src_pick (.cons ok_amongO .nil)))) mixed Tryz.func93 rfl rfl (by kernel_rfl) ?_
 rintro ⟨σ,_u⟩ hp
 dsimp only at hp
 refine⟨rfl,?_⟩
 unfold sp_s_xl00Src_one sp_s_xl00Src_pick sp_amongO
 generalize hP:std=p,hB0:pkS=B0,hB1:pkV=B1,hB2:amV=B2,hB3:secV=B3,hB4:secS=B4
 cbv
 repeat' first
  | (refine fun (_:Unit)=>?_;cbv)
  | (refine aI2 (fun h=>?_) (fun h=>?_)<;>cbv)
  | (refine aI2 ?_ ?_)
  | (refine Or.inl (fun (_:Unit)=>?_);cbv)
 all_goals subst hP hB0 hB1 hB2 hB3 hB4
 all_goals try exact fin
 all_goals (try simp only [eta_sr] at *)
 all_goals try exact Int.NonNeg.mk _
 all_goals first
  | exact hp.le (by decide)
  | exact (pk_ok hp 12).le (by decide)
  | exact (sec_t ‹_›).1.symm
  | (rw [(sec_t ‹_›).2];exact rfl)
  | (rw [(sec_f ‹_›).1])
  | (rw [(sec_f ‹_›).2])
  | skip
def shS (s:List UInt8):Prop:=s.length≤200
theorem tx_1 {m:Int} {σ:Src} (h:SrOk m σ):(txV σ [[97],[101],[101],[110],[114],[115],[116],[98],[63]]).length =1:=by
 have h1:=tx_in (l:=[[97],[101],[101],[110],[114],[115],[116],[98],[63]]) h (by decide)
 simp only [List.mem_cons,List.not_mem_nil,or_false] at h1
 rcases h1 with e | e | e | e | e | e | e | e | e<;>rw [e]<;>rfl
def tilP (n:Int):Prop:=0≤n∧n≤100
def sp_s_l03Draw (_:Pr):NSpec:=nsp (mS (a1 aI)) (fun (σ,n)=>SrOk 999999900000 σ∧tilP n) (fun (σ,n)=>rS aS) (fun (σ,n) (τ,b)=>far 300 σ τ∧shS b)
theorem ok_s_l03Draw:NOk Tryz.prog 192 (sp_s_l03Draw std):=by
 refine NOk.go (c:=cxN std [(74,sp_s_l03Sort std)] [(64,sp_s_xl00Src_pick std),(193,sp_textO std)] [] 1 (if false then some stdU else none) []) (cxN_ok (.cons ok_s_l03Sort .nil) (.cons ok_s_xl00Src_pick (.cons ok_textO .nil)) .nil) mixed Tryz.func192 rfl rfl (by kernel_rfl) ?_
 rintro ⟨σ,n⟩ hp
 dsimp only at hp
 refine⟨rfl,?_⟩
 unfold sp_s_l03Sort sp_s_xl00Src_pick sp_textO
 obtain⟨H,hH⟩ : ∃H:Hd (List UInt8×Int×Int×Int),H=⟨fun (b,k,a,z)=>0≤k∧k≤100∧b.length+k≤100∧far (210-2*k) σ ⟨σ.code,a,z⟩,fun (b,k,a,z)=>k.toNat,(· < ·)⟩:=⟨_,rfl⟩
 have hl : ∀m n,H.lt m n→m<n:=by subst hH;exact fun _ _ h=>h
 generalize hP:std=p,hB0:pkS=B0,hB1:pkV=B1,hB2:txV=B2,hB3:far=B3,hB4:isort=B4,hB5:shS=B5
 cbv
 repeat' first
  | (refine fun (_:Unit)=>?_;cbv)
  | (refine Or.inr ⟨11,[],[.s 5 .s,.s 6 (.i .i64),.c 0 1 (.i .i64),.c 0 2 (.i .u64)],[],[],H,rfl,hl,?_,fun ((b,k,a,z):List UInt8×Int×Int×Int) hk=>?_⟩<;>cbv)
  | (refine aI2 (fun h=>?_) (fun h=>?_)<;>cbv)
  | (refine aI2 ?_ ?_)
 all_goals subst hP hB0 hB1 hB2 hB3 hB4 hB5 hH
 all_goals clear hl
 all_goals try dsimp only at hk
 all_goals try dsimp only
 all_goals try exact fin
 all_goals (try simp only [eta_sr] at *)
 all_goals try exact Int.NonNeg.mk _
 all_goals have hn:0≤n∧n≤100:=hp.2
 ·exact in64 (by show _≤n+1∧n+1≤_;omega)
 ·exact hp.1.le (by decide)
 ·have h3:=pk_bd hp.1 (n:=n+1)
  have h4:=h3.2.1 (by omega)
  refine⟨h3.1,by show pkV σ (n+1)≤100;omega,by show (0:Int)+pkV σ (n+1)≤100;omega,far_ix (X:=pkS σ (n+1)) ((far_pk σ _).le (by show (2:Int)≤210-2*pkV σ (n+1);omega))⟩
 all_goals obtain⟨k0,k1,k2,k3⟩:=hk
 all_goals have k2:((List.length (α:=UInt8) b:Nat):Int)+k≤100:=k2
 all_goals have hc:(pkS σ (std.add n 1)).code =σ.code:=pk_code _ _
 all_goals have hs:SrOk 999999900300 ⟨(pkS σ (std.add n 1)).code,a,z⟩:=(by rw [hc];exact (k3.s _ hp.1).le (by omega))
 ·exact hs.le (by decide)
 ·have h9:=tx_1 hs
  exact in64 (by show _≤(b.length:Int)+((txV _ _).length : Int)∧(b.length:Int)+((txV _ _).length : Int)≤_;rw [h9];omega)
 ·have h9:=tx_1 hs
  have hl:0<k:=lt_of ‹_›
  have hF:far (210-2*k+2) σ (pkS ⟨(pkS σ (std.add n 1)).code,a,z⟩ 9):=by rw [hc];exact k3.pk 9
  refine⟨by show 0≤k-1;omega,by show k-1≤100;omega,?_,far_ix (hF.le (by show _≤210-2*(k-1);omega))⟩
  show (((b++txV _ _).length : Nat):Int)+(k-1)≤100
  rw [List.length_append,h9]
  omega
 ·show far 300 σ ⟨(pkS σ (std.add n 1)).code,a,z⟩
  rw [hc]
  exact k3.le (by omega)
 ·show (isort b).length ≤200
  rw [isort_length];omega
end Ax
namespace Ax
set_option maxRecDepth 100000
set_option maxHeartbeats 20000000
theorem tx_4 {m:Int} {σ:Src} (h:SrOk m σ):(txV σ [[97],[63],[65],[49]]).length =1:=by
 have h1:=tx_in (l:=[[97],[63],[65],[49]]) h (by decide)
 simp only [List.mem_cons,List.not_mem_nil,or_false] at h1
 rcases h1 with e | e | e | e<;>rw [e]<;>rfl
def shT (s:List UInt8):Prop:=s.length≤201
def sp_s_l03Bent (_:Pr):NSpec:=nsp (mS (a1 aI)) (fun (σ,n)=>SrOk 999999800000 σ∧tilP n) (fun (σ,n)=>rS aS) (fun (σ,n) (τ,b)=>far 400 σ τ∧shT b)
theorem ok_s_l03Bent:NOk Tryz.prog 103 (sp_s_l03Bent std):=by
 refine NOk.go (c:=cxN std [(158,sp_s_l02Repeat std)] [(64,sp_s_xl00Src_pick std),(193,sp_textO std)] [(192,sp_s_l03Draw std)] 1 (if false then some stdU else none) []) (cxN_ok (.cons ok_s_l02Repeat .nil) (.cons ok_s_xl00Src_pick (.cons ok_textO .nil)) (.cons ok_s_l03Draw .nil)) mixed Tryz.func103 rfl rfl (by kernel_rfl) ?_
 rintro ⟨σ,n⟩ hp
 dsimp only at hp
 refine⟨rfl,?_⟩
 unfold sp_s_l02Repeat sp_s_xl00Src_pick sp_textO sp_s_l03Draw
 generalize hP:std=p,hB0:pkS=B0,hB1:pkV=B1,hB2:txV=B2,hB3:far=B3,hB4:repC=B4,hB5:u8=B5,hB6:shS=B6,hB7:shT=B7,hB8:tilP=B8
 cbv
 repeat' first
  | (refine fun (_:Unit)=>?_;cbv)
  | (refine fun (y:Nd _) hy=>?_;cbv)
  | (refine aI2 (fun h=>?_) (fun h=>?_)<;>cbv)
  | (refine aI2 ?_ ?_)
  | (refine Or.inl (fun (_:Unit)=>?_);cbv)
 all_goals subst hP hB0 hB1 hB2 hB3 hB4 hB5 hB6 hB7 hB8
 all_goals try exact fin
 all_goals (try simp only [eta_sr] at *)
 ·exact hp.1.le (by decide)
 all_goals have hy:far 300 σ y.x.1∧shS y.x.2:=hy
 all_goals have h1:SrOk (999999800000+300) y.x.1:=hy.1.s _ hp.1
 all_goals have h2:far (300+2) σ (pkS y.x.1 20):=hy.1.pk 20
 all_goals have h4:SrOk (999999800000+300+2) (pkS y.x.1 20):=pk_ok h1 20
 all_goals have h5:y.x.2.length≤200:=hy.2
 all_goals try exact Int.NonNeg.mk _
 ·exact h1.le (by decide)
 ·exact h4.le (by decide)
 ·have h9:=tx_4 h4
  exact in64 (by show _≤(y.x.2.length:Int)+((txV _ _).length : Int)∧(y.x.2.length:Int)+((txV _ _).length : Int)≤_;rw [h9];omega)
 ·exact (h2.pk _).le (by decide)
 ·have h9:=tx_4 h4
  show (y.x.2++txV _ _).length ≤201
  rw [List.length_append,h9];omega
 all_goals try exact h4.le (by decide)
 all_goals have h7:=pk_bd h4 (n:=2)
 all_goals have h8:=h7.2.1 (by decide)
 ·exact in64 (by show _≤120+pkV (pkS y.x.1 20) 2∧120+pkV (pkS y.x.1 20) 2≤_;omega)
 ·show 120+pkV (pkS y.x.1 20) 2≤200
  omega
 ·exact (h2.pk _).le (by decide)
 ·show (repC (120+pkV (pkS y.x.1 20) 2) (u8 101)).length ≤201
  unfold repC
  simp only [List.length_replicate]
  omega
 ·exact h2.le (by decide)
 all_goals try exact (Nat.le_trans h5 (by decide):y.x.2.length≤201)
end Ax
namespace Ax
set_option maxRecDepth 100000
set_option maxHeartbeats 20000000
def aY:Arg (List Int):=⟨fun | .rsl [.i .u8] n=>some n | _=>none,.rsl [.i .u8],fun x a h=>by split at h<;>cases h;rfl⟩
structure CdP (l:List Int):Prop where
 b : ∀x∈l,0≤x∧x≤255
 n:(l.length:Int)≤1048576
theorem CdP.s {l:List Int} {n:Int} (h:CdP l) (hn:0≤n):SrOk n ⟨l,0,0⟩:=⟨Int.le_refl 0,hn,h.n,h.b⟩
theorem BeB.gl {g:Gm} (h:BeB g):GmL g:=(h.b.s (q:=⟨0,0,false,[]⟩) (by decide) (by decide)).gm
theorem BeB.gp {g:Gm} (h:BeB g):GmP g:=(h.b.s (q:=⟨0,0,false,[]⟩) (by decide) (by decide)).own
def sp_s_l00From (p:Pr):FSpec:=fsp (a1 aY) (fun code=>True) (fun code=>.ptr 0 0) (fun code=>srH ⟨code,0,0⟩)
theorem ok_s_l00From:FOk Tryz.prog 61 (sp_s_l00From std):=by
 refine FOk.go (c:=cx std [] [] 0) (cx_ok .nil .nil) mixed Tryz.func61 rfl rfl rfl (by kernel_rfl) ?_
 rintro code hp
 refine⟨rfl,?_⟩
 generalize hP:std=p
 cbv
 repeat' first
  | (refine fun (_:Unit)=>?_;cbv)
  | (refine aI2 (fun h=>?_) (fun h=>?_)<;>cbv)
  | (refine aI2 ?_ ?_)
  | (refine Or.inl (fun (_:Unit)=>?_);cbv)
 all_goals subst hP
 all_goals try exact fin
def rEx:NRes (Gm×(List UInt8×Int)):=⟨fun _ l=>match l with
 | [.agg c,.s t,.i .i64 n]=>both' (gmOf c) (some (t,n))
 | _=>none,fun _=>[],fun a=>.tup [.agg (gmR a.1),.s a.2.1,.i .i64 a.2.2]⟩
def sp_s_DrawExchangeTurn (_:Pr):NSpec:=nsp (mN (a1 aY)) (fun code=>CdP code) (fun code=>rEx) (fun code (x,t,n)=>BeB x∧shT t)
theorem ok_s_DrawExchangeTurn:NOk Tryz.prog 34 (sp_s_DrawExchangeTurn std):=by
 refine NOk.go (c:=cxN std [(61,sp_s_l00From std),(88,sp_s_l18Ok std)] [(96,sp_s_xl00Src_one std),(64,sp_s_xl00Src_pick std),(93,sp_s_l18Seconds std)] [(87,sp_s_l18Bent std),(103,sp_s_l03Bent std)] 0 (if false then some stdU else none) []) (cxN_ok (.cons ok_s_l00From (.cons ok_s_l18Ok .nil)) (.cons ok_s_xl00Src_one (.cons ok_s_xl00Src_pick (.cons ok_s_l18Seconds .nil))) (.cons ok_s_l18Bent (.cons ok_s_l03Bent .nil))) mixed Tryz.func34 rfl rfl (by kernel_rfl) ?_
 rintro code hp
 refine⟨rfl,?_⟩
 unfold sp_s_l00From sp_s_l18Ok sp_s_l18Bent sp_s_l03Bent sp_s_xl00Src_one sp_s_xl00Src_pick sp_s_l18Seconds
 generalize hP:std=p,hB0:far=B0,hB1:pkV=B1,hB2:pkS=B2,hB3:gameB=B3,hB4:shT=B4,hB5:secV=B5,hB6:secS=B6,hB7:tilP=B7
 cbv
 repeat' first
  | (refine fun (_:Unit)=>?_;cbv)
  | (refine fun (y:Nd _) hy=>?_;cbv)
  | (refine aI2 (fun h=>?_) (fun h=>?_)<;>cbv)
  | (refine aI2 ?_ ?_)
  | (refine Or.inl (fun (_:Unit)=>?_);cbv)
 all_goals subst hP hB0 hB1 hB2 hB3 hB4 hB5 hB6 hB7
 all_goals try exact fin
 ·exact hp.s (by decide)
 ·exact (hy.1.s 0 (hp.s (Int.le_refl 0))).le (by decide)
 ·exact⟨by decide,by decide⟩
 all_goals rename Nd (Src×Gm)=>y0
 all_goals rename far 9100 _ _∧BeB _=>hy0
 all_goals have hy0:far 9100 ⟨code,0,0⟩ y0.x.1∧BeB y0.x.2:=hy0
 all_goals have hy:far 400 y0.x.1 y.x.1∧shT y.x.2:=hy
 all_goals have s0:=hy0.1.s 0 (hp.s (Int.le_refl 0))
 all_goals have s1:=hy.1.s _ s0
 all_goals try exact hy0.2
 all_goals try exact s1.le (by decide)
 all_goals try exact (pk_ok s1 2).le (by decide)
 all_goals try exact (pk_ok (pk_ok s1 2) _).le (by decide)
 ·exact hy0.2.gl
 all_goals have hv:=gv_of (g:=y0.x.2) ‹_›
 all_goals have hp1:=in_bd hv.pl
 all_goals have hr:(y0.x.2.rk y0.x.2.player).length ≤7:=rack_len (rk_at hv y0.x.2.player.toNat (by omega))
 ·exact⟨hp1.1,by show y0.x.2.player<(y0.x.2.racks.length:Int);rw [hv.rl];omega⟩
 ·exact in64 (by show _≤((y0.x.2.rk y0.x.2.player).length : Int)+1∧((y0.x.2.rk y0.x.2.player).length : Int)+1≤_;omega)
 all_goals have h9:=pk_bd (pk_ok s1 2) (n:=((y0.x.2.rk y0.x.2.player).length : Int)+1)
 ·exact h9.1
 ·exact Int.le_of_lt_add_one (h9.2.1 (by omega))
 ·show (List.take _ (y0.x.2.rk y0.x.2.player)).length ≤201
  rw [List.length_take];omega
end Ax
end Go.Proofs.YtjjonmhpgkahoaaGreatDoor
