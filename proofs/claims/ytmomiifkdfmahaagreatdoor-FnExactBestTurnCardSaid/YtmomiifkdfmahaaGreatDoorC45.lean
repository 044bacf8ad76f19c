/-
  What a record leads to, of the impl package.
  Conditions: as each part below says.
-/
import Derived.Test.YtmomiifkdfmahaaGreatDoorC44
set_option linter.unusedSimpArgs false
set_option linter.unusedVariables false
namespace Go.Proofs.YtmomiifkdfmahaaGreatDoor
namespace Ax
set_option maxRecDepth 100000
set_option maxHeartbeats 20000000
def scE (x:El shG):List Int:=x.2.2.2.2.2.2.2.2.2.2.2.2.2.2.2.1
def runZ:Gm→List (El shAc)→Gm
 | g,[]=>g
 | g,x::l=>if doC g (acE x)=0 then runZ (doG g (acE x)) l else g
section
variable {g x:Gm} {a:Ac} {u:Su} {r:Rcd} {k:Int} {S:List (List Int)} {P:List Int}
theorem actC_1 {n:Int} (h:gameB g=false):actC g n=1:=by unfold actC;rw [h];rfl
theorem daC_eq (h:actB a=true):daC g a=doC g a:=by
 unfold daC
 cases hg:gameB g with
 | true=>rw [h];rfl
 | false=>
   have h1 : ∀n,actC g n=1:=fun n=>actC_1 hg
   rw [Bool.false_and,if_neg (by decide)]
   unfold doC turnC xtC chC
   simp only [h1]
   split
   ·rfl
   ·split
    ·split<;>rfl
    ·split<;>rfl
theorem da_0 (h:daC g a=0):daR g a=doG g a∧daP g a=doP g a:=by
 unfold daC at h
 unfold daR daP
 split at h
 ·rename_i hc
  rw [if_pos hc,if_pos hc];exact⟨rfl,rfl⟩
 ·cases h
theorem runZ_cons (x:Gm) (y:El shAc) (l:List (El shAc)):runZ x (y::l)=if doC x (acE y)=0 then runZ (doG x (acE y)) l else x:=by rw [runZ]
structure RpJ (g:Gm) (r:Rcd) (k:Int) (S:List (List Int)) (P:List Int) (x:Gm):Prop where
 j : ∃L,RunJ g r k L P x∧S=L.map scE
 z:runZ x (r.acts.drop k.toNat)=runZ g r.acts
def rpS (g:Gm) (r:Rcd):List (List Int):=(ruL g r).map scE
def rpZ (g:Gm) (r:Rcd):Gm:=runZ g r.acts
def rpI (g:Gm) (r:Rcd):Int:=if ruC g r=0 then -1 else ((ruL g r).length : Int)
theorem rp_0 (h:RunL g r):RpJ g r 0 [] [] g:=⟨⟨[],run_0 h,rfl⟩,rfl⟩
theorem RpJ.lo (h:RpJ g r k S P x):0≤k:=by obtain⟨L,hj, -⟩:=h.j;exact hj.lo
theorem RpJ.l (h:RpJ g r k S P x):(S.length:Int)=k∧(P.length:Int)=k:=by
 obtain⟨L,hj,rfl⟩:=h.j
 rw [List.length_map]
 exact hj.l
structure RpE (g:Gm) (r:Rcd) (S:List (List Int)) (P:List Int) (x:Gm) (I C:Int):Prop where
 s:S=rpS g r
 p:P=ruP g r
 z:x=rpZ g r
 i:I=rpI g r
 c:C=ruC g r
theorem rp_no (hk:RpJ g r k S P x) (hlt:k<r.acts.length) (ha:actB (acN r k)=true) (hc:daC x (acN r k)≠0):RpE g r S P x k (daC x (acN r k)):=by
 obtain⟨L,hj,rfl⟩:=hk.j
 rw [daC_eq ha] at hc ⊢
 obtain⟨e1,e2,e3⟩:=run_no hj hlt hc
 have hz:=hk.z
 have hc1 : ¬doC x (acE (r.acts.getD k.toNat (dE shAc)))=0:=hc
 rw [dc hj.lo hlt (dE shAc),runZ_cons,if_neg hc1] at hz
 refine⟨by rw [e1];rfl,e2,hz,?_,e3⟩
 unfold rpI
 rw [if_neg (by rw [←e3];exact hc),←e1]
 exact hj.l.1.symm
theorem rp_yes (hk:RpJ g r k S P x) (hlt:k<r.acts.length) (ha:actB (acN r k)=true) (hc:daC x (acN r k)=0) (hr:RcL r):RpJ g r (k+1) (S++[(daR x (acN r k)).scores]) (P++[daP x (acN r k)]) (daR x (acN r k)):=by
 obtain⟨L,hj,rfl⟩:=hk.j
 rw [(da_0 hc).1,(da_0 hc).2]
 rw [daC_eq ha] at hc
 refine⟨⟨L++[gE (doG x (acN r k))],run_yes hj hlt hc hr,?_⟩,?_⟩
 ·rw [List.map_append];rfl
 ·have hz:=hk.z
  have hc1:doC x (acE (r.acts.getD k.toNat (dE shAc)))=0:=hc
  rw [dc hj.lo hlt (dE shAc),runZ_cons,if_pos hc1] at hz
  exact hz
theorem rp_end (hk:RpJ g r k S P x) (hge:(r.acts.length:Int)≤k):RpE g r S P x (-1) 0:=by
 obtain⟨L,hj,rfl⟩:=hk.j
 obtain⟨e1,e2,e3⟩:=run_end hj hge
 have hz:=hk.z
 rw [dn hge] at hz
 refine⟨by rw [e1];rfl,e2,hz,?_,e3⟩
 unfold rpI
 rw [if_pos e3.symm]
theorem rp_do (hk:RpJ g r k S P x) (hr:RcL r):DiP x (acN r k):=by
 obtain⟨L,hj, -⟩:=hk.j
 have h1:=hr.a k
 have hs:=hj.b.q (q:=⟨0,0,false,[]⟩) (by decide) (by decide)
 exact⟨hs.gm,hs.cp,by have:=h1.w;omega,by have:=h1.t;omega⟩
theorem rc_acts (h:rcB r=true) (h0:0≤k) (hlt:k<r.acts.length):actB (acN r k)=true:=by
 unfold rcB at h
 rw [Bool.and_eq_true] at h
 have h1:=h.1
 unfold rcA at h1
 rw [List.all_eq_true] at h1
 have hl:k.toNat<r.acts.length:=by omega
 have:=h1 (r.acts.getD k.toNat (dE shAc)) (by rw [List.getD_eq_getElem?_getD,List.getElem?_eq_getElem hl];exact List.getElem_mem hl)
 exact this
theorem RpL.sq (h:RpL u r):SuQ u:=by
 have h1:=h.su.ts
 have h2:=h.su.lx
 exact⟨ts_l h1 (by decide),⟨by have:=h2.l;omega,fun k=>by have:=h2.w k;omega⟩,bd_p h.su.bd (by decide)⟩
theorem RpL.sc (h:RpL u r):SuC u:=⟨⟨by have:=h.su.ts.v;omega,by have:=h.su.ts.c;omega⟩,by have:=h.su.lx.l;omega⟩
theorem RpL.rq (h:RpL u r):RcQ r:=⟨h.rc.n,fun k=>⟨by have:=(h.rc.a k).w;omega,by have:=(h.rc.a k).t;omega⟩⟩
structure RyP (u:Su) (r:Rcd):Prop where
 q:RpL u r
 c:bgC u r=0
structure RnP (u:Su) (r:Rcd):Prop where
 q:RpL u r
 c:bgC u r≠0
theorem ry_f (h:RyP u r):suB u=true∧rcB r=true∧bgnC u (shufL (allT u.ts) r.seed)=0:=by
 have hc:=h.c
 unfold bgC at hc
 split at hc
 ·rename_i h1
  rw [Bool.and_eq_true] at h1
  exact⟨h1.1,h1.2,hc⟩
 ·cases hc
theorem ry1 (h:RyP u r) (h2:suB u=false):False:=by rw [(ry_f h).1] at h2;cases h2
theorem ry2 (h:RyP u r) (h2:rcB r=false):False:=by rw [(ry_f h).2.1] at h2;cases h2
theorem ry_b (h:RyP u r):sbS u.ts r.seed=shufL (allT u.ts) r.seed:=by
 have h1:=(ry_f h).2.1
 unfold rcB rcT at h1
 simp only [Bool.and_eq_true] at h1
 exact (sb_0 (su_ts (ry_f h).1) h1.2.1).2
theorem ry3 (h:RyP u r) (h2:std.eqI (bgnC u (sbS u.ts r.seed)) 0=false):False:=by
 rw [ry_b h,(ry_f h).2.2] at h2;cases h2
theorem ry_g (h:RyP u r):bgnR u (sbS u.ts r.seed)=bgG u r:=by
 rw [ry_b h];exact if_pos (ry_f h).2.2
end
def sp_cloneNF (p:Pr):FSpec:=fsp (a1 aN) (fun l=>p.leP (p.len l) 1073741824) (fun l=>.rsl [.i .i64] l)
theorem ok_cloneNF:FOk Tryz.prog 50 (sp_cloneNF std):=FOk.frz ok_cloneN fun l=>⟨by simp [deep,deeps,AH.get],by simp [PV.idIn,idInL]⟩
def rpK (g:Gm) (s p:PV) (i c:Int):List PV:=gmR g++[s,p,.i .i64 i,.i .i64 c]
@[reducible] def rpV:List LV:=LV.s 48 (.i .i64)::LV.c 4 0 .s ::LV.c 4 1 (.r [.i .i64])::LV.c 4 2 (.r [.i .i64])::LV.c 4 3 (.i .i64)::LV.c 4 4 (.r [.s])::LV.c 4 5 (.i .i64)::LV.c 4 6 .s ::LV.c 4 7 .s ::LV.c 4 8 (.i .i64)::LV.c 4 9 (.i .i64)::LV.c 4 10 (.i .i64)::LV.c 4 11 .s ::LV.c 4 12 .s ::LV.c 4 13 .s ::LV.c 4 14 (.r [.s])::LV.c 4 15 (.r [.i .i64])::LV.c 4 16 (.r [.i .i64])::LV.c 4 17 (.i .i64)::LV.c 4 18 (.i .i64)::LV.c 4 19 (.i .i64)::LV.c 4 20 (.i .i64)::LV.c 4 21 (.i .i64)::LV.c 4 22 (.i .i64)::LV.c 4 23 .b ::LV.c 4 24 .s ::LV.c 4 25 .s ::LV.c 4 26 .s ::LV.c 4 27 (.i .i64)::LV.c 4 28 (.i .i64)::LV.c 4 29 .b ::LV.o 5 [.r [.i .i64]]::LV.o 6 [.i .i64]::[]
def sp_i_replayed_o (p:Pr):FSpec:=fsp (ac (aA aSu) (a1 (aA aRcd))) (fun (u,r)=>RyP u r) (fun (u,r)=>.tup [.agg (rpK (rpZ (bgG u r) r) (.osl 0) (.osl 1) (rpI (bgG u r) r) (ruC (bgG u r) r)),.i .i64 0]) (fun (u,r)=>[(0,.own [.r [.i .i64]] (rpS (bgG u r) r) 22),(1,.own [.i .i64] (ruP (bgG u r) r) 2)])
theorem ok_i_replayed_o:FOk Tryz.prog 25 (sp_i_replayed_o std):=by
 refine FOk.go (c:=cx std [(45,sp_i_ValidSetup std),(46,sp_i_ValidRecord std),(47,sp_i_ShuffleBag std),(48,sp_i_StartGameF std),(49,sp_i_DoActionF std),(50,sp_cloneNF std)] [] 0) (cx_ok (.cons ok_i_ValidSetup (.cons ok_i_ValidRecord (.cons ok_i_ShuffleBag (.cons ok_i_StartGameF (.cons ok_i_DoActionF (.cons ok_cloneNF .nil)))))) .nil) mixed Tryz.func25 rfl rfl rfl (by kernel_rfl) ?_
 rintro ⟨u,r⟩ hp
 dsimp only at hp
 refine⟨rfl,?_⟩
 unfold sp_i_ValidSetup sp_i_ValidRecord sp_i_ShuffleBag sp_i_StartGameF sp_i_DoActionF sp_cloneNF
 obtain⟨H,hH⟩ : ∃H:Hd (Int×List UInt8×List Int×List Int×Int×List (List UInt8)×Int×List UInt8×List UInt8×Int×Int×Int×List UInt8×List UInt8×List UInt8×List (List UInt8)×List Int×List Int×Int×Int×Int×Int×Int×Int×Bool×List UInt8×List UInt8×List UInt8×Int×Int×Bool×List (List Int)×List Int),H=⟨fun (k,x0,x1,x2,x3,x4,x5,x6,x7,x8,x9,x10,x11,x12,x13,x14,x15,x16,x17,x18,x19,x20,x21,x22,x23,x24,x25,x26,x27,x28,x29,S,P)=>RpJ (bgG u r) r k S P ⟨⟨x0,x1,x2,x3⟩,x4,⟨x5,x6,x7⟩,x8,x9,⟨x10,x11,x12⟩,x13,x14,x15,x16,x17,x18,⟨x19,x20,⟨x21,x22,x23,x24⟩,x25,x26,x27,x28⟩,x29⟩,fun (k,x0,x1,x2,x3,x4,x5,x6,x7,x8,x9,x10,x11,x12,x13,x14,x15,x16,x17,x18,x19,x20,x21,x22,x23,x24,x25,x26,x27,x28,x29,S,P)=>(r.acts.length-k).toNat,(· < ·)⟩:=⟨_,rfl⟩
 have hl : ∀m n,H.lt m n→m<n:=by subst hH;exact fun _ _ h=>h
 generalize hP:std=p
 generalize hB0:suB=B0
 generalize hB1:rcB=B1
 generalize hB2:sbS=B2
 generalize hB3:sbC=B3
 generalize hB4:bgnR=B4
 generalize hB5:bgnC=B5
 generalize hB6:bgG=B6
 generalize hB7:rpZ=B7
 generalize hB8:rpS=B8
 generalize hB9:ruP=B9
 generalize hB10:rpI=B10
 generalize hB11:ruC=B11
 generalize hB12:daR=B12
 generalize hB13:daP=B13
 generalize hB14:daC=B14
 cbv
 repeat' first
  | (refine fun (_:Unit)=>?_;cbv)
  | (refine Or.inr ⟨49,[(.c 4 30,[.r [.i .i64]],22),(.c 4 31,[.i .i64],2)],rpV,[.c 4 30,.c 4 31],[],H,rfl,hl,?_,fun ((k,x0,x1,x2,x3,x4,x5,x6,x7,x8,x9,x10,x11,x12,x13,x14,x15,x16,x17,x18,x19,x20,x21,x22,x23,x24,x25,x26,x27,x28,x29,S,P):Int×List UInt8×List Int×List Int×Int×List (List UInt8)×Int×List UInt8×List UInt8×Int×Int×Int×List UInt8×List UInt8×List UInt8×List (List UInt8)×List Int×List Int×Int×Int×Int×Int×Int×Int×Bool×List UInt8×List UInt8×List UInt8×Int×Int×Bool×List (List Int)×List Int) hk=>?_⟩<;>cbv)
  | (refine And.intro (fun h=>?_) (fun h=>?_)<;>cbv)
  | (refine And.intro ?_ ?_)
 all_goals subst hP hB0 hB1 hB2 hB3 hB4 hB5 hB6 hB7 hB8 hB9 hB10 hB11 hB12 hB13 hB14 hH
 all_goals clear hl
 all_goals try dsimp only at hk
 all_goals try dsimp only
 all_goals try (exfalso;exact ry1 hp (by assumption))
 all_goals try (exfalso;exact ry2 hp (by assumption))
 all_goals try (exfalso;exact ry3 hp (by assumption))
 all_goals try exact fin
 ·exact hp.q.sq
 ·exact hp.q.rq
 ·exact hp.q.sq.ts
 ·exact (⟨hp.q.sq,hp.q.sc,by rw [ry_b hp];exact Nat.le_trans (bag_bd (ry_f hp).1 _) (by decide)⟩:SiL u (sbS u.ts r.seed))
 ·show RpJ (bgG u r) r 0 [] [] (bgnR u (sbS u.ts r.seed))
  rw [ry_g hp]
  exact rp_0 (bg_eq hp.c ▸ run_l hp.q hp.c)
 all_goals have hr:=hp.q.rc
 all_goals have hn:=hr.n
 all_goals have q0:=hk.lo
 all_goals try (have hlt:k<(r.acts.length:Int):=lt_of (by assumption))
 all_goals try (have hge:(r.acts.length:Int)≤k:=ge_of (by assumption))
 all_goals try (have ha:=rc_acts (k:=k) (ry_f hp).2.1 q0 hlt)
 all_goals try (have hE:=rp_no hk hlt ha (eqI_f (by assumption)))
 all_goals try (have hE:=rp_end hk hge)
 ·exact⟨q0,hlt⟩
 ·exact rp_do hk hr
 ·exact congrArg (fun z=>Ob.own [.r [.i .i64]] z 22) hE.s
 ·exact congrArg (fun z=>Ob.own [.i .i64] z 2) hE.p
 ·exact congrArg (fun g:Gm=>g.ts.letters) hE.z
 ·exact congrArg (fun g:Gm=>PV.rsl [.i .i64] g.ts.values) hE.z
 ·exact congrArg (fun g:Gm=>PV.rsl [.i .i64] g.ts.counts) hE.z
 ·exact congrArg (fun g:Gm=>g.ts.blanks) hE.z
 ·exact congrArg (fun g:Gm=>PV.rsl [.s] g.lex) hE.z
 ·exact congrArg (fun g:Gm=>g.bd0.size) hE.z
 ·exact congrArg (fun g:Gm=>g.bd0.prem) hE.z
 ·exact congrArg (fun g:Gm=>g.bd0.cells) hE.z
 ·exact congrArg (fun g:Gm=>g.secs) hE.z
 ·exact congrArg (fun g:Gm=>g.rule) hE.z
 ·exact congrArg (fun g:Gm=>g.bd.size) hE.z
 ·exact congrArg (fun g:Gm=>g.bd.prem) hE.z
 ·exact congrArg (fun g:Gm=>g.bd.cells) hE.z
 ·exact congrArg (fun g:Gm=>g.bag) hE.z
 ·exact congrArg (fun g:Gm=>PV.rsl [.s] g.racks) hE.z
 ·exact congrArg (fun g:Gm=>PV.rsl [.i .i64] g.scores) hE.z
 ·exact congrArg (fun g:Gm=>PV.rsl [.i .i64] g.clocks) hE.z
 ·exact congrArg (fun g:Gm=>g.player) hE.z
 ·exact congrArg (fun g:Gm=>g.zeros) hE.z
 ·exact congrArg (fun g:Gm=>g.last.kind) hE.z
 ·exact congrArg (fun g:Gm=>g.last.player) hE.z
 ·exact congrArg (fun g:Gm=>g.last.play.row) hE.z
 ·exact congrArg (fun g:Gm=>g.last.play.col) hE.z
 ·exact congrArg (fun g:Gm=>g.last.play.down) hE.z
 ·exact congrArg (fun g:Gm=>g.last.play.word) hE.z
 ·exact congrArg (fun g:Gm=>g.last.before) hE.z
 ·exact congrArg (fun g:Gm=>g.last.drawn) hE.z
 ·exact congrArg (fun g:Gm=>g.last.score) hE.z
 ·exact congrArg (fun g:Gm=>g.last.zeros) hE.z
 ·exact congrArg (fun g:Gm=>g.over) hE.z
 ·exact hE.i
 ·exact hE.c
 ·obtain⟨L,hj, -⟩:=(rp_yes hk hlt ha (eqI_t (by assumption)) hr).j
  exact Int.le_trans hj.b.sc (by decide)
 ·show (S.length:Int)+1≤274877906944
  have:=hk.l;omega
 ·show (P.length:Int)+1≤274877906944
  have:=hk.l;omega
 ·exact in64 (by show _≤k+1∧k+1≤_;omega)
 ·exact rp_yes hk hlt ha (eqI_t (by assumption)) hr
 ·exact congrArg (fun z=>Ob.own [.r [.i .i64]] z 22) hE.s
 ·exact congrArg (fun z=>Ob.own [.i .i64] z 2) hE.p
 ·exact congrArg (fun g:Gm=>g.ts.letters) hE.z
 ·exact congrArg (fun g:Gm=>PV.rsl [.i .i64] g.ts.values) hE.z
 ·exact congrArg (fun g:Gm=>PV.rsl [.i .i64] g.ts.counts) hE.z
 ·exact congrArg (fun g:Gm=>g.ts.blanks) hE.z
 ·exact congrArg (fun g:Gm=>PV.rsl [.s] g.lex) hE.z
 ·exact congrArg (fun g:Gm=>g.bd0.size) hE.z
 ·exact congrArg (fun g:Gm=>g.bd0.prem) hE.z
 ·exact congrArg (fun g:Gm=>g.bd0.cells) hE.z
 ·exact congrArg (fun g:Gm=>g.secs) hE.z
 ·exact congrArg (fun g:Gm=>g.rule) hE.z
 ·exact congrArg (fun g:Gm=>g.bd.size) hE.z
 ·exact congrArg (fun g:Gm=>g.bd.prem) hE.z
 ·exact congrArg (fun g:Gm=>g.bd.cells) hE.z
 ·exact congrArg (fun g:Gm=>g.bag) hE.z
 ·exact congrArg (fun g:Gm=>PV.rsl [.s] g.racks) hE.z
 ·exact congrArg (fun g:Gm=>PV.rsl [.i .i64] g.scores) hE.z
 ·exact congrArg (fun g:Gm=>PV.rsl [.i .i64] g.clocks) hE.z
 ·exact congrArg (fun g:Gm=>g.player) hE.z
 ·exact congrArg (fun g:Gm=>g.zeros) hE.z
 ·exact congrArg (fun g:Gm=>g.last.kind) hE.z
 ·exact congrArg (fun g:Gm=>g.last.player) hE.z
 ·exact congrArg (fun g:Gm=>g.last.play.row) hE.z
 ·exact congrArg (fun g:Gm=>g.last.play.col) hE.z
 ·exact congrArg (fun g:Gm=>g.last.play.down) hE.z
 ·exact congrArg (fun g:Gm=>g.last.play.word) hE.z
 ·exact congrArg (fun g:Gm=>g.last.before) hE.z
 ·exact congrArg (fun g:Gm=>g.last.drawn) hE.z
 ·exact congrArg (fun g:Gm=>g.last.score) hE.z
 ·exact congrArg (fun g:Gm=>g.last.zeros) hE.z
 ·exact congrArg (fun g:Gm=>g.over) hE.z
 ·exact hE.i
 ·exact hE.c
def sp_i_replayed_y (p:Pr):FSpec:=fsp (ac (aA aSu) (a1 (aA aRcd))) (fun (u,r)=>RyP u r) (fun (u,r)=>.tup [.agg (rpK (rpZ (bgG u r) r) (.rsl [.r [.i .i64]] (rpS (bgG u r) r)) (.rsl [.i .i64] (ruP (bgG u r) r)) (rpI (bgG u r) r) (ruC (bgG u r) r)),.i .i64 0])
theorem ok_i_replayed_y:FOk Tryz.prog 25 (sp_i_replayed_y std):=FOk.frz ok_i_replayed_o fun ⟨u,r⟩=>⟨by simp [deep,deeps,AH.get,rpK,gmR,gmK],by simp [PV.idIn,idInL,rpK,gmR,gmK]⟩
end Ax
end Go.Proofs.YtmomiifkdfmahaaGreatDoor
