/-
  Games drawn whose last play can be challenged: walked.
  Conditions: none.
-/
import Derived.Test.YtjjonmhpgkahoaaGreatDoorH43
import Derived.Test.YtjjonmhpgkahoaaGreatDoorH42
import Derived.Test.YtjjonmhpgkahoaaGreatDoorH45
import Derived.Test.YtjjonmhpgkahoaaGreatDoorH16
import Derived.Test.YtjjonmhpgkahoaaGreatDoorH32
import Derived.Test.YtjjonmhpgkahoaaGreatDoorH37
set_option linter.unusedSimpArgs false
set_option linter.unusedVariables false
namespace Go.Proofs.YtjjonmhpgkahoaaGreatDoor
namespace Ax
set_option maxRecDepth 100000
set_option maxHeartbeats 20000000
@[reducible] def drW:List LV:=LV.s 4 (.i .i64)::LV.c 0 1 (.i .i64)::LV.c 0 2 (.i .u64)::LV.c 2 0 .s ::LV.c 2 1 (.r [.i .i64])::LV.c 2 2 (.r [.i .i64])::LV.c 2 3 (.i .i64)::LV.c 2 4 (.r [.s])::LV.c 2 5 (.i .i64)::LV.c 2 6 .s ::LV.c 2 7 .s ::LV.c 2 8 (.i .i64)::LV.c 2 9 (.i .i64)::LV.c 2 10 (.i .i64)::LV.c 2 11 .s ::LV.c 2 12 .s ::LV.c 2 13 .s ::LV.c 2 14 (.r [.s])::LV.c 2 15 (.r [.i .i64])::LV.c 2 16 (.r [.i .i64])::LV.c 2 17 (.i .i64)::LV.c 2 18 (.i .i64)::LV.c 2 19 (.i .i64)::LV.c 2 20 (.i .i64)::LV.c 2 21 (.i .i64)::LV.c 2 22 (.i .i64)::LV.c 2 23 .b ::LV.c 2 24 .s ::LV.c 2 25 .s ::LV.c 2 26 .s ::LV.c 2 27 (.i .i64)::LV.c 2 28 (.i .i64)::LV.c 2 29 .b ::[]
theorem MP {g:Gm} (h:BeB g) (hv:az g=true) (r:Int):BeB { g with rule:=r }:=⟨⟨h.b.ts,h.b.lx,h.b.b0,h.b.bd,h.b.bag,h.b.rk,h.b.sc,h.b.ck,h.b.wd,h.b.bf,h.b.dr⟩,h.lx,h.ft,.inl (show iU g from wb h hv)⟩
theorem Ke {g:Gm} (h:BeB g) (hv:az g=true) (r:Int):BeB { g with last:={ g.last with zeros:=r } }:=⟨⟨h.b.ts,h.b.lx,h.b.b0,h.b.bd,h.b.bag,h.b.rk,h.b.sc,h.b.ck,h.b.wd,h.b.bf,h.b.dr⟩,h.lx,h.ft,.inl (show iU g from wb h hv)⟩
theorem MZ {g:Gm} (h:FdP g) (r:Int):FdP { g with rule:=r }:=⟨h.lx,h.pl,h.rk,h.bd,h.sz⟩
theorem Gi {g:Gm} {q:Pl} {n:Int} (h:BeB g) (hw:Iw q.word) (hc:bz g q n=0):BeB (ey g q n):=by
 have hf:=wb h (K4 hc).a.v.b
 exact⟨Ut h hw hc,(CN hc).trans h.lx,bdB.fit (oJ (GQ hc hf)).bd,.inl (zL hc hf)⟩
theorem RW {m:Int} {σ S3:Src} (f3:far (9804+1000*m) σ S3) (hc3:S3.code=σ.code):far (9100+1000*(m+1)) σ ⟨σ.code,(pkS S3 50).pos,(pkS S3 50).seed⟩:=by
 rw [Cz ((ak S3 50).trans hc3)]
 exact (f3.pk 50).le (by omega)
theorem Ld {m:Int} {σ:Src} (h:db m σ):std.inK .i64 (std.add 1 (pkV σ 3)):=by
 have h9:=ew h (n:=3)
 have h10:=h9.2.1 (by decide)
 exact an (by show _≤1+pkV σ 3∧1+pkV σ 3≤_;omega)
theorem Gs {l:List UInt8} (h:wK l):Iw l:=Nat.le_trans h (by decide)
def nI (_:Pr):d7:=nsp (mS a0) (fun (σ,_u)=>db 999999790000 σ) (fun (σ,_u)=>rS (aA aGm)) (fun (σ,_u) (τ,x)=>far 15000 σ τ∧BeB x)
theorem Ao:NOk Tryz.prog 222 (nI std):=by
 refine NOk.go (c:=cxN std [(88,dl std),(142,cw std),(41,lJ std)] [(96,aF std),(64,aj std)] [(87,nW std),(111,pq std)] 1 (if false then some dU else none) []) (jk (.cons lD (.cons ig (.cons xB .nil))) (.cons ct (.cons aL .nil)) (.cons Bs (.cons Cr .nil))) mixed Tryz.func222 rfl rfl (by kernel_rfl) ?_
 rintro ⟨σ,_u⟩ hp
 dsimp only at hp
 refine⟨rfl,?_⟩
 unfold dl cw aF aj nW pq lJ
 obtain⟨H,hH⟩ : ∃H:Hd (Int×Int×Int×List UInt8×List Int×List Int×Int×List (List UInt8)×Int×List UInt8×List UInt8×Int×Int×Int×List UInt8×List UInt8×List UInt8×List (List UInt8)×List Int×List Int×Int×Int×Int×Int×Int×Int×Bool×List UInt8×List UInt8×List UInt8×Int×Int×Bool),H=⟨fun (k,a,z,x0,x1,x2,x3,x4,x5,x6,x7,x8,x9,x10,x11,x12,x13,x14,x15,x16,x17,x18,x19,x20,x21,x22,x23,x24,x25,x26,x27,x28,x29)=>0≤k∧k≤4∧far (9100+1000*k) σ ⟨σ.code,a,z⟩∧BeB ⟨⟨x0,x1,x2,x3⟩,x4,⟨x5,x6,x7⟩,x8,x9,⟨x10,x11,x12⟩,x13,x14,x15,x16,x17,x18,⟨x19,x20,⟨x21,x22,x23,x24⟩,x25,x26,x27,x28⟩,x29⟩,fun (k,a,z,x0,x1,x2,x3,x4,x5,x6,x7,x8,x9,x10,x11,x12,x13,x14,x15,x16,x17,x18,x19,x20,x21,x22,x23,x24,x25,x26,x27,x28,x29)=>(4-k).toNat,(· < ·)⟩:=⟨_,rfl⟩
 have hl:=hdl hH
 generalize hP:std=p,hB0:pkS=B0,hB1:pkV=B1,hB2:far=B2,hB3:az=B3,hB4:eN=B4,hB5:ey=B5,hB6:mg=B6,hB7:bz=B7,hB8:wK=B8
 cbv
 repeat' first|refine fun (_:Unit)=>?_;cbv|refine Or.inr ⟨12,[],drW,[],[],H,rfl,hl,?_,fun ((k,a,z,x0,x1,x2,x3,x4,x5,x6,x7,x8,x9,x10,x11,x12,x13,x14,x15,x16,x17,x18,x19,x20,x21,x22,x23,x24,x25,x26,x27,x28,x29):Int×Int×Int×List UInt8×List Int×List Int×Int×List (List UInt8)×Int×List UInt8×List UInt8×Int×Int×Int×List UInt8×List UInt8×List UInt8×List (List UInt8)×List Int×List Int×Int×Int×Int×Int×Int×Int×Bool×List UInt8×List UInt8×List UInt8×Int×Int×Bool) hk=>?_⟩<;>cbv|refine fun (y:Nd _) hy=>?_;cbv|refine aI2 (fun h=>?_) (fun h=>?_)<;>cbv|refine aI2 ?_ ?_
 all_goals subst hP hB0 hB1 hB2 hB3 hB4 hB5 hB6 hB7 hB8 hH
 all_goals clear hl
 all_goals try dsimp only at hk
 all_goals try dsimp only
 all_goals try exact fin
 ·exact hp.le (by decide)
 all_goals try (rename Nd (Src×(Pl×Bool))=>yb;rcases yb with ⟨⟨⟨c2,p2,z2⟩,⟨q2,b2⟩⟩⟩)
 all_goals try (rename Nd (Src×Gm)=>ya;rcases ya with ⟨⟨⟨c1,p1,z1⟩,g1⟩⟩)
 all_goals try dsimp only at *
 all_goals rename far 9100 _ _∧BeB _=>h1
 all_goals (have e1:c1=σ.code:=h1.1.c;subst e1)
 ·exact⟨Int.le_refl 0,by decide,h1.1.le (by decide),h1.2⟩
 all_goals obtain⟨k0,k1,hf,hb⟩:=hk
 all_goals have hc:(Src.mk σ.code a z).code =σ.code:=rfl
 all_goals have s0:db 999999803100 ⟨σ.code,a,z⟩:=(hf.s _ hp).le (by omega)
 all_goals generalize Src.mk σ.code a z=S0 at *
 all_goals (try simp only [mA] at *)
 all_goals try first
  | exact s0.le (by decide)
  | exact (ai s0 6).le (by decide)
  | exact (ai s0 5).le (by decide)
  | exact (ai (ai s0 6) 3).le (by decide)
  | exact hb.gl
  | exact hb
  | exact hf.le (by omega)
  | exact (hf.pk 6).le (by omega)
  | exact (hf.pk 5).le (by omega)
 all_goals have hR:=MP hb ‹_›
 all_goals try first
  | exact hR _
  | exact Ke hb ‹_› _
  | exact MZ (Tz hb ‹_›) _
  | exact Ld (ai s0 6)
 all_goals rename far 700 _ _∧wK _=>h2
 all_goals (have e2:c2=σ.code:=h2.1.c.trans ((ak _ _).trans ((ak _ _).trans hc));subst e2)
 all_goals have s3:db 999999803804 ⟨σ.code,p2,z2⟩:=(h2.1.s _ (ai (ai s0 6) 3)).le (by decide)
 all_goals have f3:far (9804+1000*k) σ ⟨σ.code,p2,z2⟩:=uf ((hf.pk 6).pk 3) h2.1 (by omega)
 all_goals have hc3:(Src.mk σ.code p2 z2).code =σ.code:=rfl
 all_goals generalize Src.mk σ.code p2 z2=S3 at *
 all_goals (try simp only [mA] at *)
 all_goals try first
  | exact s3.le (by decide)
  | exact f3.le (by omega)
  | exact OQ (hR _) (Gs h2.2)
  | (show PV.rsl [.i .u8] (pkS S3 50).code =PV.rsl [.i .u8] σ.code;rw [ak,hc3])
 all_goals have hk4:k<4:=ah ‹_›
 all_goals have f4:far (9100+1000*(k+1)) σ ⟨σ.code,(pkS S3 50).pos,(pkS S3 50).seed⟩:=RW f3 hc3
 all_goals first
  | exact⟨by show 0≤k+1;omega,by show k+1≤4;omega,f4,Gi (hR _) (Gs h2.2) (c_0 ‹_›)⟩
  | exact⟨by show 0≤k+1;omega,by show k+1≤4;omega,f4,hR _⟩
  | skip
theorem JE {u:Su} (h:mW u):bdB u.bd=true∧u.bd.cells.length≤81∧(u.bd.size=5∨u.bd.size=7∨u.bd.size=9):=by
 rcases h.bd with e | e | e<;>rw [e]
 ·exact⟨G6.1,by rw [E9.2];decide,.inl rfl⟩
 ·exact⟨Ht.1,by rw [En.2];decide,.inr (.inl rfl)⟩
 ·exact⟨Hx.1,by rw [Fp.2];decide,.inr (.inr rfl)⟩
theorem SX {u:Su} (h:mW u):std.inK .i64 (std.quo u.bd.size 2)∧std.inK .i64 (std.sub (std.quo u.bd.size 2) 1):=by
 rcases (JE h).2.2 with e | e | e<;>rw [e]
 ·exact⟨an (n:=(5:Int).tdiv 2) (by decide),an (n:=(5:Int).tdiv 2-1) (by decide)⟩
 ·exact⟨an (n:=(7:Int).tdiv 2) (by decide),an (n:=(7:Int).tdiv 2-1) (by decide)⟩
 ·exact⟨an (n:=(9:Int).tdiv 2) (by decide),an (n:=(9:Int).tdiv 2-1) (by decide)⟩
theorem tx3 (σ:Src):(txV σ [[116,101,110],[115,101,116],[97,101,115]]).length ≤3:=by
 unfold txV
 generalize (pkV σ _).toNat =k
 match k with
 | 0=>exact Nat.le_refl _
 | 1=>exact Nat.le_refl _
 | 2=>exact Nat.le_refl _
 | _+3=>exact Nat.zero_le _
def eG (u:Su) (r:Int) (w:List UInt8) (p:Int):Gm:=⟨⟨[97,101,110,115,116],[1,1,2,1,2],[1,1,1,1,1],0⟩,u.lex,u.bd,u.secs,r,u.bd,[],[au w,[97,101,116]],[p,12],[5,7],0,0,⟨0,0,⟨0,0,false,[]⟩,[],[],0,0⟩,false⟩
theorem Ph {u:Su} {r p:Int} {w:List UInt8} (h:mW u) (hw:w.length≤3):FwQ (eG u r w p):=by
 have hb:=JE h
 refine⟨Ql (bdB.fit hb.1),?_,rfl,?_,(by decide:(3:Nat)≤7),(by decide:(5:Nat)≤27),rfl⟩
 ·show u.bd.cells.length≤400
  omega
 ·show (au w).length ≤7
  rw [ax];omega
theorem LS {u:Su} {r p:Int} {w:List UInt8} (h:mW u) (hw:w.length≤3):BeB { eG u r w p with ts:=sF (eG u r w p) }:=by
 have hb:=JE h
 have hs:=h.b
 refine⟨⟨Jn (Ph h hw),hs.lx,hs.bd,hs.bd,(by decide:((0:Nat):Int)≤1048576),⟨(by decide:((2:Nat):Int)≤1048576),fun k=>?_⟩,(by decide:((2:Nat):Int)≤1048576),(by decide:((2:Nat):Int)≤1048576),(by decide:((0:Nat):Int)≤1048576),(by decide:((0:Nat):Int)≤1048576),(by decide:((0:Nat):Int)≤1048576)⟩,h.lex,bdB.fit hb.1,.inl (.inl rfl)⟩
 show (((([au w,[97,101,116]]:List (List UInt8)).getD k.toNat []).length : Nat):Int)≤1048576
 generalize k.toNat=j
 match j with
 | 0=>
   show (((au w).length : Nat):Int)≤1048576
   rw [ax];omega
 | 1=>exact (by decide:((3:Nat):Int)≤1048576)
 | _+2=>exact (by decide:((0:Nat):Int)≤1048576)
def n7 (_:Pr):d7:=nsp (mS a0) (fun (σ,_u)=>db 999999780000 σ) (fun (σ,_u)=>rS (aA aGm)) (fun (σ,_u) (τ,x)=>far 15100 σ τ∧BeB x)
theorem BU:NOk Tryz.prog 135 (n7 std):=by
 refine NOk.go (c:=cxN std [(74,aQ std),(223,gu std),(41,gb std)] [(96,aF std),(64,aj std),(193,pa std)] [(62,dM std),(222,nI std)] 1 (if false then some dU else none) []) (jk (.cons cT (.cons qM (.cons mr .nil))) (.cons ct (.cons aL (.cons DQ .nil))) (.cons l7 (.cons Ao .nil))) mixed Tryz.func135 rfl rfl (by kernel_rfl) ?_
 rintro ⟨σ,_u⟩ hp
 dsimp only at hp
 refine⟨rfl,?_⟩
 unfold aQ gu aF aj pa dM nI gb
 generalize hP:std=p,hB0:pkS=B0,hB1:pkV=B1,hB2:txV=B2,hB3:far=B3,hB4:ey=B4,hB5:mg=B5,hB6:bz=B6,hB7:sF=B7,hB8:au=B8
 cbv
 repeat' first|refine fun (_:Unit)=>?_;cbv|refine fun (y:Nd _) hy=>?_;cbv|refine aI2 (fun h=>?_) (fun h=>?_)<;>cbv|refine aI2 ?_ ?_|refine Or.inl (fun (_:Unit)=>?_);cbv
 all_goals subst hP hB0 hB1 hB2 hB3 hB4 hB5 hB6 hB7 hB8
 all_goals try exact fin
 all_goals have s5:=ai hp 5
 ·exact hp.le (by decide)
 all_goals try (rename Nd (Src×Gm)=>ya;rcases ya with ⟨⟨σ1,g1⟩⟩)
 all_goals try (rename Nd (Src×Su)=>yb;rcases yb with ⟨⟨σ2,u⟩⟩)
 all_goals try dsimp only at *
 all_goals (try simp only [mA,iR,eD,oD,fV,BS] at *)
 all_goals try exact s5.le (by decide)
 all_goals try (rename far 15000 _ _∧BeB _=>h1;first | exact uf (wI σ 5) h1.1 (by decide) | exact h1.2)
 all_goals rename far 20 _ _∧mW _=>h1
 all_goals have s2:=h1.1.s _ s5
 all_goals have f2:far 22 σ σ2:=uf (wI σ 5) h1.1 (by decide)
 all_goals have x3 : ∀τ:Src,Iw (txV τ [[116,101,110],[115,101,116],[97,101,115]]):=fun τ=>Nat.le_trans (tx3 τ) (by decide)
 all_goals try first
  | exact s2.le (by decide)
  | exact (ai s2 3).le (by decide)
  | exact (ai (ai s2 3) _).le (by decide)
  | exact Ld s2
  | exact Int.NonNeg.mk _
  | exact (SX h1.2).1
  | exact (SX h1.2).2
  | exact Ph h1.2 (tx3 _)
  | exact OQ (LS h1.2 (tx3 _)) (x3 _)
  | exact LS h1.2 (tx3 _)
  | exact (((f2.pk 3).pk _).pk 90).le (by decide)
  | exact Gi (LS h1.2 (tx3 _)) (x3 _) (c_0 ‹_›)
 ·exact Int.le_trans (Int.ofNat_le.2 (tx3 _)) (by decide)
def eB (_:Pr):d7:=nsp (mN (a1 aY)) (fun code=>CdP code) (fun code=>rGI) (fun code (x,n)=>BeB x)
theorem nl:NOk Tryz.prog 48 (eB std):=by
 refine NOk.go (c:=cxN std [(61,im std)] [(93,ke std)] [(135,n7 std)] 0 (if false then some dU else none) []) (jk (.cons tz .nil) (.cons vo .nil) (.cons BU .nil)) mixed Tryz.func48 rfl rfl (by kernel_rfl) ?_
 rintro code hp
 refine⟨rfl,?_⟩
 unfold im n7 ke
 generalize hP:std=p,hB0:far=B0,hB1:Ja=B1,hB2:J7=B2
 cbv
 repeat' first|refine fun (_:Unit)=>?_;cbv|refine fun (y:Nd _) hy=>?_;cbv|refine aI2 (fun h=>?_) (fun h=>?_)<;>cbv|refine aI2 ?_ ?_|refine Or.inl (fun (_:Unit)=>?_);cbv
 all_goals subst hP hB0 hB1 hB2
 all_goals try exact fin
 ·exact hp.s (by decide)
 ·exact (hy.1.s 0 (hp.s (Int.le_refl 0))).le (by decide)
 ·exact hy.2
end Ax
end Go.Proofs.YtjjonmhpgkahoaaGreatDoor
