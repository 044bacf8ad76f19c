/-
  Games drawn: walked.
  Conditions: none.
-/
import Derived.Test.YtjjonmhpgkahoaaGreatDoorE40
import Derived.Test.YtjjonmhpgkahoaaGreatDoorE35
import Derived.Test.YtjjonmhpgkahoaaGreatDoorE26
set_option linter.unusedSimpArgs false
set_option linter.unusedVariables false
namespace Go.Proofs.YtjjonmhpgkahoaaGreatDoor
namespace Ax
set_option maxRecDepth 100000
set_option maxHeartbeats 20000000
structure DrB (g:Gm):Prop where
 b:GmB 1048576 g
 rl:g.racks.length=2
 sl:g.scores.length=2
 kl:g.clocks.length=2
 lx:g.lex=allW
 f:FullR g
 bg:g.bag.length≤120
 pl:0≤g.player∧g.player≤1
 ls:0≤g.last.score∧g.last.score≤20000
 ft:g.bd.Fit
theorem lsc_bd {g:Gm} (hv:GV g):0≤g.last.score∧g.last.score≤20000:=by
 have hl:=hv.la
 have idle : ∀{k p:Int},eqLa g.last (idleL k p)=true→0≤g.last.score∧g.last.score≤20000:=fun h=>by
  unfold eqLa idleL at h
  simp only [Bool.and_eq_true,beq_iff_eq] at h
  have h6:g.last.score=0:=h.2.2.2.2.2.1
  omega
 unfold lastOk at hl
 split at hl
 ·rw [Bool.and_eq_true] at hl
  exact idle hl.1
 ·split at hl
  ·rw [Bool.and_eq_true] at hl
   exact idle hl.1
  ·split at hl
   ·have hk:=pkf hl
    have hts:TsOk g.ts:=by
     have hs:=hv.su
     unfold setupB at hs
     rw [Bool.and_eq_true] at hs
     exact tsB_ok hs.1
    have hb:bdB g.bef=true:=by have:=hk.ok;unfold okB at this;rw [Bool.and_eq_true] at this;exact this.1
    have hv:validI g.bef g.last.play=true:=by rw [←okB_validI hb];exact hk.ok
    refine⟨?_,hk.s2⟩
    rw [hk.so,score_same hb hv]
    exact (Go.Proofs.YtjjonmhpgkahoaaGreatDoor.score_bd hts g.bef g.last.play (by have:=(validI_facts hv).2.2.2;omega)).1
   ·cases hl
theorem DrG.drB {g:Gm} (h:DrG g):DrB g:=by
 have hv:=gv_of h.v
 have hb:=hv.bag
 unfold bagB at hb
 rw [Bool.and_eq_true] at hb
 exact⟨h.b,hv.rl,hv.sl,hv.kl,h.lx,h.f,of_decide_eq_true hb.2,in_bd hv.pl,lsc_bd hv,bdB.fit hv.bd⟩
theorem fewT_b {g:Gm} (h:FwQ g):TsB 1048576 (fewT g):=by
 obtain⟨h1,h2,h3⟩:=fewK_n g g.ts.letters.length
 have h4:=h.tl
 unfold fewT
 exact⟨by omega,by omega,by omega⟩
theorem DrG.few {g:Gm} (h:DrG g) {l:La} (hl:l=g.last∨l=⟨0,0,⟨0,0,false,[]⟩,[],[],0,0⟩):DrB { g with ts:=fewT { g with bag:=[] },bag:=[],last:=l }:=by
 have hv:=gv_of h.v
 have hw:(l.play.word.length:Int)≤1048576∧(l.before.length:Int)≤1048576∧(l.drawn.length:Int)≤1048576:=by
  rcases hl with rfl | rfl
  ·exact⟨h.b.wd,h.b.bf,h.b.dr⟩
  ·exact⟨by decide,by decide,by decide⟩
 have hs:0≤l.score∧l.score≤20000:=by
  rcases hl with e | e
  ·rw [e];exact lsc_bd hv
  ·rw [e];exact (⟨by decide,by decide⟩:(0:Int)≤0∧(0:Int)≤20000)
 exact⟨⟨fewT_b (h.fw []),h.b.lx,h.b.b0,h.b.bd,by show (([]:List UInt8).length : Int)≤_;decide,h.b.rk,h.b.sc,h.b.ck,hw.1,hw.2.1,hw.2.2⟩,hv.rl,hv.sl,hv.kl,h.lx,.inl rfl,by show ([]:List UInt8).length ≤120;decide,in_bd hv.pl,hs,bdB.fit hv.bd⟩
theorem DrSu.sg {u:Su} (h:DrSu u) (x:Int):SgL u (shufL (allT u.ts) x):=by
 have hb:=h.b
 have h1:=hb.ts
 have h2:=hb.lx
 have h3:=h.all.2.2.2
 refine⟨⟨ts_l h1 (by decide),⟨?_,fun k=>?_⟩,bd_p hb.bd (by decide)⟩,⟨?_,?_,?_⟩,by rw [shufL_len];omega⟩
 ·have:=h2.l;omega
 ·have:=h2.w (k:Int)
  rw [Int.toNat_natCast] at this
  omega
 ·have:=h1.v;omega
 ·have:=h1.c;omega
 ·have:=h2.l;omega
theorem DrSu.drg {u:Su} (h:DrSu u) {x:Int} (hx:0≤x):DrG (bgnR u (shufL (allT u.ts) x)):=by
 have hc:=h.bgn hx
 have h3:=h.all.2.2.2
 unfold bgnR
 rw [if_pos hc]
 exact⟨bgn_ok hc,full_bgn hc,bgn_b h.b (by rw [shufL_len];omega),h.lex⟩
theorem far_ix {n:Int} {σ X:Src} (h:far n σ X):far n σ ⟨σ.code,X.pos,X.seed⟩:=by rw [sr_eq h.c];exact h
section
variable {σ Y Z:Src} {G:Gm} {a z k:Int}
theorem dw_c (hY:far 20 σ Y):(pkS (pkS Y 60000) 8).code =σ.code:=by simp only [pk_code];exact hY.c
theorem dw_in (hY:far 20 σ Y) (hp:SrOk 999999900000 σ) (hd:DrG G):0≤pkV (pkS Y 60000) 8∧pkV (pkS Y 60000) 8≤7∧far (8900-1000*pkV (pkS Y 60000) 8) σ ⟨σ.code,(pkS (pkS Y 60000) 8).pos,(pkS (pkS Y 60000) 8).seed⟩∧DrG G:=by
 have h3:=pk_bd (pk_ok (hY.s _ hp) 60000) (n:=8)
 have h4:=h3.2.1 (by decide)
 exact⟨h3.1,by omega,far_ix (X:=pkS (pkS Y 60000) 8) (((hY.pk 60000).pk 8).le (by omega)),hd⟩
theorem dw_far (hY:far 20 σ Y) (h:far (8900-1000*k) σ ⟨σ.code,a,z⟩) (k0:0≤k):far 9000 σ (pkS ⟨(pkS (pkS Y 60000) 8).code,a,z⟩ 6):=by
 rw [dw_c hY]
 exact (h.pk 6).le (by omega)
theorem dw_ok {m:Int} (hY:far 20 σ Y) (hp:SrOk 999999900000 σ) (h:far (8900-1000*k) σ ⟨σ.code,a,z⟩) (k0:0≤k) (hm:999999910000≤m):SrOk m ⟨(pkS (pkS Y 60000) 8).code,a,z⟩:=by
 rw [dw_c hY]
 exact (h.s _ hp).le (by omega)
theorem dw_st (hY:far 20 σ Y) (h:far (8900-1000*k) σ ⟨σ.code,a,z⟩) (h2:far 1000 ⟨(pkS (pkS Y 60000) 8).code,a,z⟩ Z) (hd:DrG G) (k0:0<k) (k7:k≤7):0≤k-1∧k-1≤7∧far (8900-1000*(k-1)) σ ⟨σ.code,Z.pos,Z.seed⟩∧DrG G:=by
 rw [dw_c hY] at h2
 exact⟨by omega,by omega,far_ix (far_tr h h2 (by omega)),hd⟩
end
def rGs:NRes (Src×Gm):=⟨fun H l=>match l with
 | [.agg c]=>both' (srHd H) (gmOf c)
 | _=>none,fun a=>(0,.cells (srK a.1) 159)::gmH7 a.2 1,fun a=>.agg (gmK a.2 (.osl 1) (.osl 2) (.osl 3) (.osl 4) (.osl 5) (.osl 6))⟩
@[reducible] def drV:List LV:=LV.s 6 (.i .i64)::LV.c 0 1 (.i .i64)::LV.c 0 2 (.i .u64)::LV.c 9 0 .s ::LV.c 9 3 (.i .i64)::LV.c 9 5 (.i .i64)::LV.c 9 6 .s ::LV.c 9 7 .s ::LV.c 9 8 (.i .i64)::LV.c 9 9 (.i .i64)::LV.c 9 10 (.i .i64)::LV.c 9 11 .s ::LV.c 9 12 .s ::LV.c 9 13 .s ::LV.c 9 17 (.i .i64)::LV.c 9 18 (.i .i64)::LV.c 9 19 (.i .i64)::LV.c 9 20 (.i .i64)::LV.c 9 21 (.i .i64)::LV.c 9 22 (.i .i64)::LV.c 9 23 .b ::LV.c 9 24 .s ::LV.c 9 25 .s ::LV.c 9 26 .s ::LV.c 9 27 (.i .i64)::LV.c 9 28 (.i .i64)::LV.c 9 29 .b ::LV.o 3 [.i .i64]::LV.o 4 [.i .i64]::LV.o 5 [.s]::LV.o 6 [.s]::LV.o 7 [.i .i64]::LV.o 8 [.i .i64]::[]
def sp_s_l18Draw (_:Pr):NSpec:=nsp (mS a0) (fun (σ,_u)=>SrOk 999999900000 σ) (fun (σ,_u)=>rGs) (fun (σ,_u) (τ,x)=>far 9000 σ τ∧DrB x)
theorem ok_s_l18Draw:NOk Tryz.prog 184 (sp_s_l18Draw std):=by
 refine NOk.goEK 2 [0,1] (c:=cxN std [(12,sp_s_StartGame std),(223,sp_s_l18Fewer std)] [(63,sp_l18SeedM std),(96,sp_s_xl00Src_one std),(64,sp_s_xl00Src_pick std)] [(62,sp_s_l18DrawSetup std),(249,sp_s_l18Step std)] 1 (if false then some stdU else none) []) (cxN_ok (.cons ok_s_StartGame (.cons ok_s_l18Fewer .nil)) (.cons ok_l18SeedM (.cons ok_s_xl00Src_one (.cons ok_s_xl00Src_pick .nil))) (.cons ok_s_l18DrawSetup (.cons ok_s_l18Step .nil))) mixed Tryz.func184 rfl rfl (by kernel_rfl) ?_
 rintro ⟨σ,_u⟩ hp
 dsimp only at hp
 refine⟨rfl,?_⟩
 unfold sp_s_StartGame sp_s_l18Fewer sp_l18SeedM sp_s_xl00Src_one sp_s_xl00Src_pick sp_s_l18DrawSetup sp_s_l18Step
 obtain⟨H,hH⟩ : ∃H:Hd (Int×Int×Int×List UInt8×Int×Int×List UInt8×List UInt8×Int×Int×Int×List UInt8×List UInt8×List UInt8×Int×Int×Int×Int×Int×Int×Bool×List UInt8×List UInt8×List UInt8×Int×Int×Bool×List Int×List Int×List (List UInt8)×List (List UInt8)×List Int×List Int),H=⟨fun (k,a,z,x0,x3,x5,x6,x7,x8,x9,x10,x11,x12,x13,x17,x18,x19,x20,x21,x22,x23,x24,x25,x26,x27,x28,x29,x1,x2,x4,x14,x15,x16)=>0≤k∧k≤7∧far (8900-1000*k) σ ⟨σ.code,a,z⟩∧DrG ⟨⟨x0,x1,x2,x3⟩,x4,⟨x5,x6,x7⟩,x8,x9,⟨x10,x11,x12⟩,x13,x14,x15,x16,x17,x18,⟨x19,x20,⟨x21,x22,x23,x24⟩,x25,x26,x27,x28⟩,x29⟩,fun (k,a,z,x0,x3,x5,x6,x7,x8,x9,x10,x11,x12,x13,x17,x18,x19,x20,x21,x22,x23,x24,x25,x26,x27,x28,x29,x1,x2,x4,x14,x15,x16)=>k.toNat,(· < ·)⟩:=⟨_,rfl⟩
 have hl : ∀m n,H.lt m n→m<n:=by subst hH;exact fun _ _ h=>h
 generalize hP:std=p,hB0:pkS=B0,hB1:pkV=B1,hB2:far=B2,hB3:fewT=B3,hB4:sdB=B4,hB5:bgnR=B5,hB6:bgnC=B6
 cbv
 repeat' first
  | (refine fun (_:Unit)=>?_;cbv)
  | (refine Or.inr ⟨19,[],drV,[.c 9 1,.c 9 2,.c 9 4,.c 9 14,.c 9 15,.c 9 16],[],H,rfl,hl,?_,fun ((k,a,z,x0,x3,x5,x6,x7,x8,x9,x10,x11,x12,x13,x17,x18,x19,x20,x21,x22,x23,x24,x25,x26,x27,x28,x29,x1,x2,x4,x14,x15,x16):Int×Int×Int×List UInt8×Int×Int×List UInt8×List UInt8×Int×Int×Int×List UInt8×List UInt8×List UInt8×Int×Int×Int×Int×Int×Int×Bool×List UInt8×List UInt8×List UInt8×Int×Int×Bool×List Int×List Int×List (List UInt8)×List (List UInt8)×List Int×List Int) hk=>?_⟩<;>cbv)
  | (refine fun (y:Nd _) hy=>?_;cbv)
  | (refine aI2 (fun h=>?_) (fun h=>?_)<;>cbv)
  | (refine aI2 ?_ ?_)
 all_goals subst hP hB0 hB1 hB2 hB3 hB4 hB5 hB6 hH
 all_goals clear hl
 all_goals try dsimp only at hk
 all_goals try dsimp only
 all_goals try exact fin
 ·exact hp.le (by decide)
 ·exact (hy.1.s _ hp).le (by decide)
 ·exact hy.2.sg _
 ·exact (pk_ok (hy.1.s _ hp) 60000).le (by decide)
 ·exact dw_in (Y:=y.x.1) hy.1 hp (hy.2.drg (pk_bd (hy.1.s _ hp)).1)
 ·exact dw_ok (Y:=y.x.1) hy.1 hp hk.2.2.1 hk.1 (by decide)
 ·exact congrArg (PV.rsl [.i .u8]) hy.1.c
 ·rename Nd (Src×Su)=>y0
  rename far 20 σ _∧_=>hy0
  exact dw_st (Y:=y0.x.1) (Z:=y.x.1) hy0.1 hk.2.2.1 hy.1 hy.2 (lt_of ‹_›) hk.2.1
 ·exact dw_ok (Y:=y.x.1) hy.1 hp hk.2.2.1 hk.1 (by decide)
 ·exact hk.2.2.2.fw []
 all_goals first
  | exact dw_far (Y:=y.x.1) hy.1 hk.2.2.1 hk.1
  | exact hk.2.2.2.few (.inr rfl)
  | exact hk.2.2.2.few (.inl rfl)
  | exact hk.2.2.2.drB
  | skip
end Ax
end Go.Proofs.YtjjonmhpgkahoaaGreatDoor
