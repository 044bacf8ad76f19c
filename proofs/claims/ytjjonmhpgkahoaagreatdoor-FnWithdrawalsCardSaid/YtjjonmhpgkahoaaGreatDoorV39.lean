/-
  What passes and exchanges answer, of the impl package.
  Conditions: none.
-/
import Derived.Test.YtjjonmhpgkahoaaGreatDoorV38
import Derived.Test.YtjjonmhpgkahoaaGreatDoorV22
import Derived.Test.YtjjonmhpgkahoaaGreatDoorV35
import Derived.Test.YtjjonmhpgkahoaaGreatDoorV37
import Derived.Test.YtjjonmhpgkahoaaGreatDoorV29
import Derived.Test.YtjjonmhpgkahoaaGreatDoorV27
import Derived.Test.YtjjonmhpgkahoaaGreatDoorV36
import Derived.Test.YtjjonmhpgkahoaaGreatDoorV30
set_option linter.unusedSimpArgs false
set_option linter.unusedVariables false
namespace Go.Proofs.YtjjonmhpgkahoaaGreatDoor
namespace Ax
set_option maxRecDepth 100000
set_option maxHeartbeats 2000000
set_option maxHeartbeats 20000000
def rGII:NRes (Gm×(Int×Int)):=⟨fun _ l=>match l with
 | [.agg c,.i .i64 n,.i .i64 m]=>both' (gmOf c) (some (n,m))
 | _=>none,fun _=>[],fun a=>.tup [.agg (gmR a.1),.i .i64 a.2.1,.i .i64 a.2.2]⟩
def sp_i_PlayTurnF (p:Pr):FSpec:=fsp (ac (aA aGm) (ac (aA aPl) (a1 aI))) (fun (g,q,n)=>PtP g q) (fun (g,q,n)=>.tup [.agg (gmR (turnR g q n)),.i .i64 (turnS' g q n),.i .i64 (turnC g q n)])
theorem ok_i_PlayTurnF:FOk Tryz.prog 40 (sp_i_PlayTurnF std):=FOk.frz ok_PlayTurn fun ⟨g,q,n⟩=>⟨by simp [deep,deeps,AH.get,gmH6,gmO6,gmK,gmR],by simp [PV.idIn,idInL,gmK,gmR]⟩
def sp_s_PlayTurnF (p:Pr):FSpec:=fsp (ac (aA aGm) (ac (aA aPl) (a1 aI))) (fun (g,q,n)=>StP' g q) (fun (g,q,n)=>.tup [.agg (gmR (turnR g q n)),.i .i64 (turnS' g q n),.i .i64 (turnC g q n)])
theorem ok_s_PlayTurnF:FOk Tryz.prog 41 (sp_s_PlayTurnF std):=FOk.frz ok_s_PlayTurn fun ⟨g,q,n⟩=>⟨by simp [deep,deeps,AH.get,gmH6,gmO6,gmK,gmR],by simp [PV.idIn,idInL,gmK,gmR]⟩
def sp_i_PlayTurnN (_:Pr):NSpec:=nsp (mN (ac (aA aGm) (ac (aA aPl) (a1 aI)))) (fun (g,q,n)=>PtP g q) (fun _=>rGII) (fun (g,q,n) x=>x=(turnR g q n,turnS' g q n,turnC g q n))
theorem ok_i_PlayTurnN:NOk Tryz.prog 40 (sp_i_PlayTurnN std):=NOk.ofF (B:=rGII) (f:=fun a:Gm×(Pl×Int)=>(turnR a.1 a.2.1 a.2.2,turnS' a.1 a.2.1 a.2.2,turnC a.1 a.2.1 a.2.2)) ok_i_PlayTurnF (fun _=>rfl) (fun _=>rfl)
section
variable {g:Gm} {q:Pl} {n:Int}
end
theorem pr3 {α β γ:Type} {a:α} {b:β} {c:γ} {p:α×(β×γ)} (h:(a,(b,c))=p):a=p.1∧b=p.2.1∧c=p.2.2:=by subst h;exact⟨rfl,rfl,rfl⟩
theorem be_pt {g:Gm} {q:Pl} (h:BeB g) (hw:le15 q.word):PtP g q:=h.b.q (by decide) (by have : q.word.length≤15:=hw;omega)
theorem be_st {g:Gm} {q:Pl} (h:BeB g) (hw:le15 q.word):StP' g q:=h.b.s (by decide) (by have : q.word.length≤15:=hw;omega)
theorem tr_b {g:Gm} {q:Pl} {n:Int} (h:BeB g) (hw:le15 q.word) (hc:turnC g q n=0):GmB 1048576 (turnR g q n):=by
 unfold turnR
 rw [if_pos hc]
 have : q.word.length≤15:=hw
 exact turnG_b h.b hc (by omega)
theorem eqI_r (a:Int):std.eqI a a=true:=by simp
section
variable {g:Gm} {q:Pl} {n:Int}
theorem c_0 (h:std.eqI (turnC g q n) 0=true):turnC g q n=0:=by simpa using h
theorem pt_v (h:std.eqI (turnC g q n) 0=true):GV g:=(trn_f (c_0 h)).a.v
theorem pt_p (h:std.eqI (turnC g q n) 0=true):0≤g.player∧g.player≤1:=in_bd (pt_v h).pl
theorem pt_64 (h:std.eqI (turnC g q n) 0=true):std.inK .i64 (std.sub 1 g.player):=by
 have hp:=pt_p h
 exact in64 (by show _≤1-g.player∧1-g.player≤_;omega)
theorem ffI {a b:Int} (h:std.eqI a b=false) (e:a=b):False:=by subst e;simp at h
theorem ffS {a b:List UInt8} (h:std.eqS a b=false) (e:a=b):False:=by subst e;simp at h
theorem ffD {x y:Bd} (h:std.and (std.eqI x.size y.size) (std.and (std.eqS x.prem y.prem) (std.eqS x.cells y.cells))=false) (e:x=y):False:=by subst e;simp at h
theorem ffV {b:Bool} (h:b=false) (e:b=true):False:=by subst h;cases e
end
@[reducible] def drW:List LV:=LV.s 4 (.i .i64)::LV.c 0 1 (.i .i64)::LV.c 0 2 (.i .u64)::LV.c 2 0 .s ::LV.c 2 1 (.r [.i .i64])::LV.c 2 2 (.r [.i .i64])::LV.c 2 3 (.i .i64)::LV.c 2 4 (.r [.s])::LV.c 2 5 (.i .i64)::LV.c 2 6 .s ::LV.c 2 7 .s ::LV.c 2 8 (.i .i64)::LV.c 2 9 (.i .i64)::LV.c 2 10 (.i .i64)::LV.c 2 11 .s ::LV.c 2 12 .s ::LV.c 2 13 .s ::LV.c 2 14 (.r [.s])::LV.c 2 15 (.r [.i .i64])::LV.c 2 16 (.r [.i .i64])::LV.c 2 17 (.i .i64)::LV.c 2 18 (.i .i64)::LV.c 2 19 (.i .i64)::LV.c 2 20 (.i .i64)::LV.c 2 21 (.i .i64)::LV.c 2 22 (.i .i64)::LV.c 2 23 .b ::LV.c 2 24 .s ::LV.c 2 25 .s ::LV.c 2 26 .s ::LV.c 2 27 (.i .i64)::LV.c 2 28 (.i .i64)::LV.c 2 29 .b ::[]
theorem be_rule {g:Gm} (h:BeB g) (hv:gameB g=true) (r:Int):BeB { g with rule:=r }:=⟨⟨h.b.ts,h.b.lx,h.b.b0,h.b.bd,h.b.bag,h.b.rk,h.b.sc,h.b.ck,h.b.wd,h.b.bf,h.b.dr⟩,h.lx,h.ft,.inl (show FullR g from be_full h hv)⟩
theorem be_zeros {g:Gm} (h:BeB g) (hv:gameB g=true) (r:Int):BeB { g with last:={ g.last with zeros:=r } }:=⟨⟨h.b.ts,h.b.lx,h.b.b0,h.b.bd,h.b.bag,h.b.rk,h.b.sc,h.b.ck,h.b.wd,h.b.bf,h.b.dr⟩,h.lx,h.ft,.inl (show FullR g from be_full h hv)⟩
theorem fd_rule {g:Gm} (h:FdP g) (r:Int):FdP { g with rule:=r }:=⟨h.lx,h.pl,h.rk,h.bd,h.sz⟩
theorem be_turn {g:Gm} {q:Pl} {n:Int} (h:BeB g) (hw:le15 q.word) (hc:turnC g q n=0):BeB (turnR g q n):=by
 have hf:=be_full h (trn_f hc).a.v.b
 exact⟨tr_b h hw hc,(turn_lex hc).trans h.lx,bdB.fit (gv_of (turn_ok hc hf)).bd,.inl (full_turn hc hf)⟩
theorem f4_of {m:Int} {σ S3:Src} (f3:far (9804+1000*m) σ S3) (hc3:S3.code=σ.code):far (9100+1000*(m+1)) σ ⟨σ.code,(pkS S3 50).pos,(pkS S3 50).seed⟩:=by
 rw [sr_eq ((pk_code S3 50).trans hc3)]
 exact (f3.pk 50).le (by omega)
theorem pk_in1 {m:Int} {σ:Src} (h:SrOk m σ):std.inK .i64 (std.add 1 (pkV σ 3)):=by
 have h9:=pk_bd h (n:=3)
 have h10:=h9.2.1 (by decide)
 exact in64 (by show _≤1+pkV σ 3∧1+pkV σ 3≤_;omega)
theorem le12_15 {l:List UInt8} (h:le12 l):le15 l:=Nat.le_trans h (by decide)
def sp_s_l19Draw (_:Pr):NSpec:=nsp (mS a0) (fun (σ,_u)=>SrOk 999999790000 σ) (fun (σ,_u)=>rS (aA aGm)) (fun (σ,_u) (τ,x)=>far 15000 σ τ∧BeB x)
theorem ok_s_l19Draw:NOk Tryz.prog 222 (sp_s_l19Draw std):=by
 refine NOk.go (c:=cxN std [(88,sp_s_l18Ok std),(142,sp_s_l19Can std),(41,sp_s_PlayTurnF std)] [(96,sp_s_xl00Src_one std),(64,sp_s_xl00Src_pick std)] [(87,sp_s_l18Bent std),(111,sp_l18FindQ std)] 1 (if false then some stdU else none) []) (cxN_ok (.cons ok_s_l18Ok (.cons ok_s_l19Can (.cons ok_s_PlayTurnF .nil))) (.cons ok_s_xl00Src_one (.cons ok_s_xl00Src_pick .nil)) (.cons ok_s_l18Bent (.cons ok_l18FindQ .nil))) mixed Tryz.func222 rfl rfl (by kernel_rfl) ?_
 rintro ⟨σ,_u⟩ hp
 dsimp only at hp
 refine⟨rfl,?_⟩
 unfold sp_s_l18Ok sp_s_l19Can sp_s_xl00Src_one sp_s_xl00Src_pick sp_s_l18Bent sp_l18FindQ sp_s_PlayTurnF
 obtain⟨H,hH⟩ : ∃H:Hd (Int×Int×Int×List UInt8×List Int×List Int×Int×List (List UInt8)×Int×List UInt8×List UInt8×Int×Int×Int×List UInt8×List UInt8×List UInt8×List (List UInt8)×List Int×List Int×Int×Int×Int×Int×Int×Int×Bool×List UInt8×List UInt8×List UInt8×Int×Int×Bool),H=⟨fun (k,a,z,x0,x1,x2,x3,x4,x5,x6,x7,x8,x9,x10,x11,x12,x13,x14,x15,x16,x17,x18,x19,x20,x21,x22,x23,x24,x25,x26,x27,x28,x29)=>0≤k∧k≤4∧far (9100+1000*k) σ ⟨σ.code,a,z⟩∧BeB ⟨⟨x0,x1,x2,x3⟩,x4,⟨x5,x6,x7⟩,x8,x9,⟨x10,x11,x12⟩,x13,x14,x15,x16,x17,x18,⟨x19,x20,⟨x21,x22,x23,x24⟩,x25,x26,x27,x28⟩,x29⟩,fun (k,a,z,x0,x1,x2,x3,x4,x5,x6,x7,x8,x9,x10,x11,x12,x13,x14,x15,x16,x17,x18,x19,x20,x21,x22,x23,x24,x25,x26,x27,x28,x29)=>(4-k).toNat,(· < ·)⟩:=⟨_,rfl⟩
 have hl:=hdl hH
 generalize hP:std=p,hB0:pkS=B0,hB1:pkV=B1,hB2:far=B2,hB3:gameB=B3,hB4:canB=B4,hB5:turnR=B5,hB6:turnS'=B6,hB7:turnC=B7,hB8:le12=B8
 cbv
 repeat' first|refine fun (_:Unit)=>?_;cbv|refine Or.inr ⟨12,[],drW,[],[],H,rfl,hl,?_,fun ((k,a,z,x0,x1,x2,x3,x4,x5,x6,x7,x8,x9,x10,x11,x12,x13,x14,x15,x16,x17,x18,x19,x20,x21,x22,x23,x24,x25,x26,x27,x28,x29):Int×Int×Int×List UInt8×List Int×List Int×Int×List (List UInt8)×Int×List UInt8×List UInt8×Int×Int×Int×List UInt8×List UInt8×List UInt8×List (List UInt8)×List Int×List Int×Int×Int×Int×Int×Int×Int×Bool×List UInt8×List UInt8×List UInt8×Int×Int×Bool) hk=>?_⟩<;>cbv|refine fun (y:Nd _) hy=>?_;cbv|refine aI2 (fun h=>?_) (fun h=>?_)<;>cbv|refine aI2 ?_ ?_
 all_goals subst hP hB0 hB1 hB2 hB3 hB4 hB5 hB6 hB7 hB8 hH
 all_goals clear hl
 all_goals try dsimp only at hk
 all_goals try dsimp only
 all_goals try exact fin
 ·exact hp.le (by decide)
 all_goals try (rename Nd (Src×(Pl×Bool))=>yb;rcases yb with ⟨⟨⟨c2,p2,z2⟩,⟨q2,b2⟩⟩⟩)
 all_goals try (rename Nd (Src×Gm)=>ya;rcases ya with ⟨⟨⟨c1,p1,z1⟩,g1⟩⟩)
 all_goals try dsimp only at *
 all_goals rename far 9100 _ _∧BeB _=>h1
 all_goals (have e1:c1=σ.code:=h1.1.c;subst e1)
 ·exact⟨Int.le_refl 0,by decide,h1.1.le (by decide),h1.2⟩
 all_goals obtain⟨k0,k1,hf,hb⟩:=hk
 all_goals have hc:(Src.mk σ.code a z).code =σ.code:=rfl
 all_goals have s0:SrOk 999999803100 ⟨σ.code,a,z⟩:=(hf.s _ hp).le (by omega)
 all_goals generalize Src.mk σ.code a z=S0 at *
 all_goals (try simp only [eta_sr] at *)
 all_goals try first
  | exact s0.le (by decide)
  | exact (pk_ok s0 6).le (by decide)
  | exact (pk_ok s0 5).le (by decide)
  | exact (pk_ok (pk_ok s0 6) 3).le (by decide)
  | exact hb.gl
  | exact hb
  | exact hf.le (by omega)
  | exact (hf.pk 6).le (by omega)
  | exact (hf.pk 5).le (by omega)
 all_goals have hR:=be_rule hb ‹_›
 all_goals try first
  | exact hR _
  | exact be_zeros hb ‹_› _
  | exact fd_rule (be_fd hb ‹_›) _
  | exact pk_in1 (pk_ok s0 6)
 all_goals rename far 700 _ _∧le12 _=>h2
 all_goals (have e2:c2=σ.code:=h2.1.c.trans ((pk_code _ _).trans ((pk_code _ _).trans hc));subst e2)
 all_goals have s3:SrOk 999999803804 ⟨σ.code,p2,z2⟩:=(h2.1.s _ (pk_ok (pk_ok s0 6) 3)).le (by decide)
 all_goals have f3:far (9804+1000*k) σ ⟨σ.code,p2,z2⟩:=far_tr ((hf.pk 6).pk 3) h2.1 (by omega)
 all_goals have hc3:(Src.mk σ.code p2 z2).code =σ.code:=rfl
 all_goals generalize Src.mk σ.code p2 z2=S3 at *
 all_goals (try simp only [eta_sr] at *)
 all_goals try first
  | exact s3.le (by decide)
  | exact f3.le (by omega)
  | exact be_st (hR _) (le12_15 h2.2)
  | (show PV.rsl [.i .u8] (pkS S3 50).code =PV.rsl [.i .u8] σ.code;rw [pk_code,hc3])
 all_goals have hk4:k<4:=lt_of ‹_›
 all_goals have f4:far (9100+1000*(k+1)) σ ⟨σ.code,(pkS S3 50).pos,(pkS S3 50).seed⟩:=f4_of f3 hc3
 all_goals first
  | exact⟨by show 0≤k+1;omega,by show k+1≤4;omega,f4,be_turn (hR _) (le12_15 h2.2) (c_0 ‹_›)⟩
  | exact⟨by show 0≤k+1;omega,by show k+1≤4;omega,f4,hR _⟩
  | skip
theorem su_bd {u:Su} (h:DrSu u):bdB u.bd=true∧u.bd.cells.length≤81∧(u.bd.size=5∨u.bd.size=7∨u.bd.size=9):=by
 rcases h.bd with e | e | e<;>rw [e]
 ·exact⟨std_ok5.1,by rw [std_l5.2];decide,.inl rfl⟩
 ·exact⟨std_ok7.1,by rw [std_l7.2];decide,.inr (.inl rfl)⟩
 ·exact⟨std_ok9.1,by rw [std_l9.2];decide,.inr (.inr rfl)⟩
theorem su_q {u:Su} (h:DrSu u):std.inK .i64 (std.quo u.bd.size 2)∧std.inK .i64 (std.sub (std.quo u.bd.size 2) 1):=by
 rcases (su_bd h).2.2 with e | e | e<;>rw [e]
 ·exact⟨in64 (n:=(5:Int).tdiv 2) (by decide),in64 (n:=(5:Int).tdiv 2-1) (by decide)⟩
 ·exact⟨in64 (n:=(7:Int).tdiv 2) (by decide),in64 (n:=(7:Int).tdiv 2-1) (by decide)⟩
 ·exact⟨in64 (n:=(9:Int).tdiv 2) (by decide),in64 (n:=(9:Int).tdiv 2-1) (by decide)⟩
theorem tx3 (σ:Src):(txV σ [[116,101,110],[115,101,116],[97,101,115]]).length ≤3:=by
 unfold txV
 generalize (pkV σ _).toNat =k
 match k with
 | 0=>exact Nat.le_refl _
 | 1=>exact Nat.le_refl _
 | 2=>exact Nat.le_refl _
 | _+3=>exact Nat.zero_le _
def eG (u:Su) (r:Int) (w:List UInt8) (p:Int):Gm:=⟨⟨[97,101,110,115,116],[1,1,2,1,2],[1,1,1,1,1],0⟩,u.lex,u.bd,u.secs,r,u.bd,[],[isort w,[97,101,116]],[p,12],[5,7],0,0,⟨0,0,⟨0,0,false,[]⟩,[],[],0,0⟩,false⟩
theorem eg_fw {u:Su} {r p:Int} {w:List UInt8} (h:DrSu u) (hw:w.length≤3):FwQ (eG u r w p):=by
 have hb:=su_bd h
 refine⟨fit_bq (bdB.fit hb.1),?_,rfl,?_,(by decide:(3:Nat)≤7),(by decide:(5:Nat)≤27),rfl⟩
 ·show u.bd.cells.length≤400
  omega
 ·show (isort w).length ≤7
  rw [isort_length];omega
theorem eg_be {u:Su} {r p:Int} {w:List UInt8} (h:DrSu u) (hw:w.length≤3):BeB { eG u r w p with ts:=fewT (eG u r w p) }:=by
 have hb:=su_bd h
 have hs:=h.b
 refine⟨⟨fewT_b (eg_fw h hw),hs.lx,hs.bd,hs.bd,(by decide:((0:Nat):Int)≤1048576),⟨(by decide:((2:Nat):Int)≤1048576),fun k=>?_⟩,(by decide:((2:Nat):Int)≤1048576),(by decide:((2:Nat):Int)≤1048576),(by decide:((0:Nat):Int)≤1048576),(by decide:((0:Nat):Int)≤1048576),(by decide:((0:Nat):Int)≤1048576)⟩,h.lex,bdB.fit hb.1,.inl (.inl rfl)⟩
 show (((([isort w,[97,101,116]]:List (List UInt8)).getD k.toNat []).length : Nat):Int)≤1048576
 generalize k.toNat=j
 match j with
 | 0=>
   show (((isort w).length : Nat):Int)≤1048576
   rw [isort_length];omega
 | 1=>exact (by decide:((3:Nat):Int)≤1048576)
 | _+2=>exact (by decide:((0:Nat):Int)≤1048576)
def sp_s_l19Ends (_:Pr):NSpec:=nsp (mS a0) (fun (σ,_u)=>SrOk 999999780000 σ) (fun (σ,_u)=>rS (aA aGm)) (fun (σ,_u) (τ,x)=>far 15100 σ τ∧BeB x)
theorem ok_s_l19Ends:NOk Tryz.prog 135 (sp_s_l19Ends std):=by
 refine NOk.go (c:=cxN std [(74,sp_s_l03Sort std),(223,sp_s_l18Fewer std),(41,sp_s_PlayTurn std)] [(96,sp_s_xl00Src_one std),(64,sp_s_xl00Src_pick std),(193,sp_textO std)] [(62,sp_s_l18DrawSetup std),(222,sp_s_l19Draw std)] 1 (if false then some stdU else none) []) (cxN_ok (.cons ok_s_l03Sort (.cons ok_s_l18Fewer (.cons ok_s_PlayTurn .nil))) (.cons ok_s_xl00Src_one (.cons ok_s_xl00Src_pick (.cons ok_textO .nil))) (.cons ok_s_l18DrawSetup (.cons ok_s_l19Draw .nil))) mixed Tryz.func135 rfl rfl (by kernel_rfl) ?_
 rintro ⟨σ,_u⟩ hp
 dsimp only at hp
 refine⟨rfl,?_⟩
 unfold sp_s_l03Sort sp_s_l18Fewer sp_s_xl00Src_one sp_s_xl00Src_pick sp_textO sp_s_l18DrawSetup sp_s_l19Draw sp_s_PlayTurn
 generalize hP:std=p,hB0:pkS=B0,hB1:pkV=B1,hB2:txV=B2,hB3:far=B3,hB4:turnR=B4,hB5:turnS'=B5,hB6:turnC=B6,hB7:fewT=B7,hB8:isort=B8
 cbv
 repeat' first|refine fun (_:Unit)=>?_;cbv|refine fun (y:Nd _) hy=>?_;cbv|refine aI2 (fun h=>?_) (fun h=>?_)<;>cbv|refine aI2 ?_ ?_|refine Or.inl (fun (_:Unit)=>?_);cbv
 all_goals subst hP hB0 hB1 hB2 hB3 hB4 hB5 hB6 hB7 hB8
 all_goals try exact fin
 all_goals have s5:=pk_ok hp 5
 ·exact hp.le (by decide)
 all_goals try (rename Nd (Src×Gm)=>ya;rcases ya with ⟨⟨σ1,g1⟩⟩)
 all_goals try (rename Nd (Src×Su)=>yb;rcases yb with ⟨⟨σ2,u⟩⟩)
 all_goals try dsimp only at *
 all_goals (try simp only [eta_sr,eta_ts,eta_bd,eta_la,eta_pl,eta_gmz] at *)
 all_goals try exact s5.le (by decide)
 all_goals try (rename far 15000 _ _∧BeB _=>h1;first | exact far_tr (far_pk σ 5) h1.1 (by decide) | exact h1.2)
 all_goals rename far 20 _ _∧DrSu _=>h1
 all_goals have s2:=h1.1.s _ s5
 all_goals have f2:far 22 σ σ2:=far_tr (far_pk σ 5) h1.1 (by decide)
 all_goals have x3 : ∀τ:Src,le15 (txV τ [[116,101,110],[115,101,116],[97,101,115]]):=fun τ=>Nat.le_trans (tx3 τ) (by decide)
 all_goals try first
  | exact s2.le (by decide)
  | exact (pk_ok s2 3).le (by decide)
  | exact (pk_ok (pk_ok s2 3) _).le (by decide)
  | exact pk_in1 s2
  | exact Int.NonNeg.mk _
  | exact (su_q h1.2).1
  | exact (su_q h1.2).2
  | exact eg_fw h1.2 (tx3 _)
  | exact be_st (eg_be h1.2 (tx3 _)) (x3 _)
  | exact eg_be h1.2 (tx3 _)
  | exact (((f2.pk 3).pk _).pk 90).le (by decide)
  | exact be_turn (eg_be h1.2 (tx3 _)) (x3 _) (c_0 ‹_›)
 ·exact Int.le_trans (Int.ofNat_le.2 (tx3 _)) (by decide)
def rG1:NRes Gm:=⟨fun _ l=>match l with
 | [.agg c]=>gmOf c
 | _=>none,fun _=>[],fun a=>.agg (gmR a)⟩
def sp_s_DrawWithdrawPlay (_:Pr):NSpec:=nsp (mN (a1 aY)) (fun code=>CdP code) (fun code=>rG1) (fun code x=>BeB x)
theorem ok_s_DrawWithdrawPlay:NOk Tryz.prog 45 (sp_s_DrawWithdrawPlay std):=by
 refine NOk.go (c:=cxN std [(61,sp_s_l00From std)] [] [(135,sp_s_l19Ends std)] 0 (if false then some stdU else none) []) (cxN_ok (.cons ok_s_l00From .nil) .nil (.cons ok_s_l19Ends .nil)) mixed Tryz.func45 rfl rfl (by kernel_rfl) ?_
 rintro code hp
 refine⟨rfl,?_⟩
 unfold sp_s_l00From sp_s_l19Ends
 generalize hP:std=p,hB0:far=B0
 cbv
 repeat' first|refine fun (_:Unit)=>?_;cbv|refine fun (y:Nd _) hy=>?_;cbv|refine aI2 (fun h=>?_) (fun h=>?_)<;>cbv|refine aI2 ?_ ?_|refine Or.inl (fun (_:Unit)=>?_);cbv
 all_goals subst hP hB0
 all_goals try exact fin
 ·exact hp.s (by decide)
 ·exact hy.2
end Ax
end Go.Proofs.YtjjonmhpgkahoaaGreatDoor
