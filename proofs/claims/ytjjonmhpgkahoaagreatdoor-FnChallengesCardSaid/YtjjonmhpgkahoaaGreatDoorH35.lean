/-
  The tiles of a game without a bag: walked.
  Conditions: none.
-/
import Derived.Test.YtjjonmhpgkahoaaGreatDoorH34
import Derived.Test.YtjjonmhpgkahoaaGreatDoorH30
import Derived.Test.YtjjonmhpgkahoaaGreatDoorH32
import Derived.Test.YtjjonmhpgkahoaaGreatDoorH16
import Derived.Test.YtjjonmhpgkahoaaGreatDoorH09
set_option linter.unusedSimpArgs false
set_option linter.unusedVariables false
namespace Go.Proofs.YtjjonmhpgkahoaaGreatDoor
namespace Ax
set_option maxRecDepth 100000
set_option maxHeartbeats 20000000
def mi (g:Gm):List UInt8:=av (ag g.bd)++g.racks.getD 0 []++g.racks.getD 1 []
def iw (g:Gm):Nat→TS
 | 0=>⟨[],[],[],gJ (mi g) 63⟩
 | k+1=>if 0<gJ (mi g) (g.ts.letters.getD k 0) then ⟨(iw g k).letters ++[g.ts.letters.getD k 0],(iw g k).values ++[g.ts.values.getD k 0],(iw g k).counts ++[gJ (mi g) (g.ts.letters.getD k 0)],(iw g k).blanks⟩ else iw g k
def sF (g:Gm):TS:=iw g g.ts.letters.length
structure FwQ (g:Gm):Prop where
 bd:BdP g.bd
 cl:g.bd.cells.length≤400
 rl:g.racks.length=2
 r0:(g.racks.getD 0 []).length ≤7
 r1:(g.racks.getD 1 []).length ≤7
 tl:g.ts.letters.length≤27
 tv:g.ts.values.length=g.ts.letters.length
theorem DrG.fw {g:Gm} (h:DrG g) (x:List UInt8):FwQ { g with bag:=x }:=by
 have hv:=oJ h.v
 have hz:=bdB.fit hv.bd
 have h0:=hv.s0
 have h1:=hv.s1
 unfold bj at h0 h1
 simp only [Bool.and_eq_true] at h0 h1
 have hr : ∀q,aM q=true→q.length≤7:=fun q hq=>by
  unfold aM at hq
  rw [Bool.and_eq_true] at hq
  exact of_decide_eq_true hq.2
 have hc:=hz.cells
 have hm:g.bd.size*g.bd.size≤15*15:=Int.mul_le_mul hz.hi hz.hi (by have:=hz.lo;omega) (by decide)
 have ht:er g.ts:=by
  have hs:=hv.su
  unfold jp at hs
  rw [Bool.and_eq_true] at hs
  exact jm hs.1
 refine⟨Fd h.b.bd (by decide),?_,hv.rl,hr _ h0.1,hr _ h1.1,?_,?_⟩
 ·show g.bd.cells.length≤400
  omega
 ·show g.ts.letters.length≤27
  have:=ht.len;omega
 ·exact ht.vals
theorem DO (b:Bd):(ag b).length ≤b.cells.length:=List.length_filter_le _ _
theorem HH (s:List UInt8):(av s).length ≤s.length:=Nat.le_of_eq (gM s)
theorem Ll {g:Gm} (b1:(ag g.bd).length ≤g.bd.cells.length) (b2:(av (ag g.bd)).length ≤(ag g.bd).length) (b3:g.bd.cells.length≤400) (b4:(g.racks.getD 0 []).length ≤7) (b5:(g.racks.getD 1 []).length ≤7):std.ltM (std.lenS (mi g)):=by
 show ((mi g).length : Int)≤274877906944
 unfold mi
 rw [List.length_append,List.length_append]
 omega
theorem EO (g:Gm) : ∀k,(iw g k).letters.length ≤k∧(iw g k).values.length ≤k∧(iw g k).counts.length ≤k
 | 0=>⟨Nat.le_refl 0,Nat.le_refl 0,Nat.le_refl 0⟩
 | k+1=>by
   obtain⟨h1,h2,h3⟩:=EO g k
   rw [iw]
   split
   ·refine⟨?_,?_,?_⟩
    ·show ((iw g k).letters ++[_]).length ≤k+1
     rw [List.length_append,List.length_singleton];omega
    ·show ((iw g k).values ++[_]).length ≤k+1
     rw [List.length_append,List.length_singleton];omega
    ·show ((iw g k).counts ++[_]).length ≤k+1
     rw [List.length_append,List.length_singleton];omega
   ·exact⟨by omega,by omega,by omega⟩
theorem GY (s:List UInt8) (k:Int):u8 (std.byte s k)=s.getD k.toNat 0:=by
 show UInt8.ofNat (((s.getD k.toNat 0).toNat : Int)).toNat =_
 rw [Int.toNat_natCast]
 exact UInt8.ofNat_toNat
def gu (p:Pr):aa:=fsp (a1 (aP aGm)) (fun g=>FwQ g) (fun g=>.agg (tsK (sF g) (.osl 0) (.osl 1))) (fun g=>[(0,.own [.i .i64] (sF g).values 2),(1,.own [.i .i64] (sF g).counts 2)])
theorem qM:FOk Tryz.prog 223 (gu std):=by
 refine FOk.go (c:=cx std [(173,bn std),(127,bG std),(279,mD std)] [] 0) (ae (.cons dF (.cons eQ (.cons yT .nil))) .nil) mixed Tryz.func223 rfl rfl rfl (by kernel_rfl) ?_
 rintro g hp
 refine⟨rfl,?_⟩
 unfold bn bG mD
 obtain⟨H,hH⟩ : ∃H:Hd (Int×List UInt8×List Int×List Int),H=⟨fun (k,a,v,c)=>0≤k∧k≤g.ts.letters.length∧(iw g k.toNat)=⟨a,v,c,gJ (mi g) 63⟩,fun (k,a,v,c)=>(g.ts.letters.length-k).toNat,(· < ·)⟩:=⟨_,rfl⟩
 have hl:=hdl hH
 generalize hP:std=p,hB0:sF=B0,hB1:gJ=B1,hB2:ag=B2,hB3:av=B3,hB4:u8=B4
 cbv
 repeat' first|refine fun (_:Unit)=>?_;cbv|refine Or.inr ⟨29,[(.c 1 1,[.i .i64],2),(.c 1 2,[.i .i64],2)],[.s 5 (.i .i64),.c 1 0 .s,.o 2 [.i .i64],.o 3 [.i .i64]],[.c 1 1,.c 1 2],[],H,rfl,hl,?_,fun ((k,a,v,c):Int×List UInt8×List Int×List Int) hk=>?_⟩<;>cbv|refine aI2 (fun h=>?_) (fun h=>?_)<;>cbv|refine aI2 ?_ ?_
 all_goals subst hP hB0 hB1 hB2 hB3 hB4 hH
 all_goals clear hl
 all_goals try dsimp only at hk
 all_goals try dsimp only
 all_goals try exact fin
 all_goals try simp only [eD]
 all_goals have b1:=DO g.bd
 all_goals have b2:=HH (ag g.bd)
 all_goals have b3:=hp.cl
 all_goals have b4:=hp.r0
 all_goals have b5:=hp.r1
 all_goals have b6:=hp.tl
 all_goals have b7:=hp.tv
 all_goals have b8:=hp.rl
 ·show ((ag g.bd).length : Int)≤274877906944
  omega
 ·exact (⟨by decide,by rw [b8];decide⟩:(0:Int)≤0∧(0:Int)<(g.racks.length:Int))
 ·exact an (by show _≤((av (ag g.bd)).length : Int)+((g.racks.getD 0 []).length : Int)∧((av (ag g.bd)).length : Int)+((g.racks.getD 0 []).length : Int)≤_;omega)
 ·exact (⟨by decide,by rw [b8];decide⟩:(0:Int)≤1∧(1:Int)<(g.racks.length:Int))
 ·exact an (by show _≤((av (ag g.bd)++g.racks.getD 0 []).length : Int)+((g.racks.getD 1 []).length : Int)∧((av (ag g.bd)++g.racks.getD 0 []).length : Int)+((g.racks.getD 1 []).length : Int)≤_;rw [List.length_append];omega)
 ·exact Ll b1 b2 b3 b4 b5
 ·exact⟨Int.le_refl 0,Int.natCast_nonneg _,rfl⟩
 all_goals obtain⟨q0,q1,q2⟩:=hk
 all_goals have q1:k≤(g.ts.letters.length:Int):=q1
 all_goals try (have hlt:k<(g.ts.letters.length:Int):=ah ‹_›)
 all_goals have hn:a.length≤k.toNat∧v.length≤k.toNat∧c.length≤k.toNat:=(by have h:=EO g k.toNat;rw [q2] at h;exact h)
 ·exact Ll b1 b2 b3 b4 b5
 ·exact an (by show _≤k+1∧k+1≤_;omega)
 ·show std.inK .i64 ((a.length:Int)+((std.drp (std.tak g.ts.letters (std.add k 1)) k).length : Int))
  rw [Hn q0 hlt]
  exact an (by show _≤(a.length:Int)+1∧(a.length:Int)+1≤_;have:=hn.1;omega)
 ·exact (⟨q0,by rw [b7];exact hlt⟩:0≤k∧k<(g.ts.values.length:Int))
 ·show (v.length:Int)+1≤274877906944
  have:=hn.2.1;omega
 ·show (c.length:Int)+1≤274877906944
  have:=hn.2.2;omega
 ·exact an (by show _≤k+1∧k+1≤_;omega)
 ·have hb:=GY g.ts.letters k
  have hg:0<gJ (mi g) (g.ts.letters.getD k.toNat 0):=by
   have h9:std.ltI 0 (gJ (mi g) (u8 (std.byte g.ts.letters k)))=true:=by assumption
   rw [hb] at h9
   exact ah h9
  refine⟨by show 0≤k+1;omega,by show k+1≤(g.ts.letters.length:Int);omega,?_⟩
  show iw g (k+1).toNat =⟨a++std.drp (std.tak g.ts.letters (std.add k 1)) k,v++[g.ts.values.getD k.toNat 0],c++[gJ (mi g) (u8 (std.byte g.ts.letters k))],gJ (mi g) 63⟩
  rw [Hn q0 hlt,hb,show (k+1).toNat =k.toNat+1 by omega,iw,if_pos hg,q2]
 ·exact an (by show _≤k+1∧k+1≤_;omega)
 ·have hb:=GY g.ts.letters k
  have hg : ¬0<gJ (mi g) (g.ts.letters.getD k.toNat 0):=by
   have h9:std.ltI 0 (gJ (mi g) (u8 (std.byte g.ts.letters k)))=false:=by assumption
   rw [hb] at h9
   exact Int.not_lt.2 (ao h9)
  refine⟨by show 0≤k+1;omega,by show k+1≤(g.ts.letters.length:Int);omega,?_⟩
  show iw g (k+1).toNat =⟨a,v,c,gJ (mi g) 63⟩
  rw [show (k+1).toNat =k.toNat+1 by omega,iw,if_neg hg,q2]
 all_goals have hge:(g.ts.letters.length:Int)≤k:=ao ‹_›
 all_goals have e:sF g=⟨a,v,c,gJ (mi g) 63⟩:=(by rw [←q2];unfold sF;rw [show k.toNat=g.ts.letters.length by omega])
 ·rw [e]
 ·rw [e]
 ·rw [e]
 ·rw [e];rfl
def pN (p:Pr):bX:=msp (mS (a1 (aP aSu))) (fun (σ,u)=>db 999999990000 σ∧mW u) (fun (σ,u)=>.s (sdB σ u)) (fun (σ,u)=>[(0,.cells (srK (pkS σ 60000)) 159)])
theorem Cs:MOk Tryz.prog 63 (pN std):=by
 refine MOk.go (c:=cx std [(65,dP std),(156,kp std)] [(64,aj std)] 1) (ae (.cons lY (.cons vn .nil)) (.cons aL .nil)) mixed Tryz.func63 rfl rfl (by kernel_rfl) ?_
 rintro ⟨σ,u⟩ hp
 dsimp only at hp
 refine⟨rfl,?_⟩
 unfold dP kp aj
 generalize hP:std=p,hB0:pkS=B0,hB1:pkV=B1,hB2:jg=B2,hB3:bW=B3,hB4:sdB=B4
 cbv
 repeat' first|refine fun (_:Unit)=>?_;cbv|refine aI2 (fun h=>?_) (fun h=>?_)<;>cbv|refine aI2 ?_ ?_|refine Or.inl (fun (_:Unit)=>?_);cbv
 all_goals subst hP hB0 hB1 hB2 hB3 hB4
 all_goals try exact fin
 all_goals (try simp only [mA,iR] at *)
 ·exact Et hp.2.ok
 ·exact hp.1.le (by decide)
 ·have h5:=ew hp.1 (n:=60000)
  have h6:=h5.2.1 (by decide)
  exact⟨Nat.le_trans hp.2.all.2.2.2 (by decide),h5.1,by omega⟩
 all_goals skip
structure DrB (g:Gm):Prop where
 b:GmB 1048576 g
 rl:g.racks.length=2
 sl:g.scores.length=2
 kl:g.clocks.length=2
 lx:g.lex=qB
 f:iU g
 bg:g.bag.length≤120
 pl:0≤g.player∧g.player≤1
 ls:0≤g.last.score∧g.last.score≤20000
 ft:g.bd.Fit
 tl:(bW g.ts).length ≤(av (ag g.bd)).length + (g.racks.getD 0 []).length + (g.racks.getD 1 []).length + g.bag.length
theorem FT (g:Gm) (hn:g.ts.letters.Nodup) : ∀k,k≤g.ts.letters.length→(iw g k).letters.length =(iw g k).counts.length ∧(lN (iw g k).letters (iw g k).counts).length =(mi g).countP (fun x=>(g.ts.letters.take k).contains x)∧(iw g k).blanks =gJ (mi g) 63
 | 0,_=>⟨rfl,by simp [iw,lN],rfl⟩
 | k+1,h=>by
   obtain⟨h1,h2,h3⟩:=FT g hn k (by omega)
   rw [Nf hn (show k<g.ts.letters.length by omega),iw]
   split
   ·refine⟨?_,?_,h3⟩
    ·show ((iw g k).letters ++[_]).length =((iw g k).counts ++[_]).length
     rw [List.length_append,List.length_append,h1];rfl
    ·show (lN ((iw g k).letters ++[_]) ((iw g k).counts ++[_])).length =_
     rw [G1 _ _ _ _ h1,List.length_append,h2,List.length_replicate]
     unfold gJ
     rw [Int.toNat_natCast]
   ·rename_i hc
    have h0:(mi g).count (g.ts.letters.getD k 0)=0:=by unfold gJ at hc;omega
    exact⟨h1,by rw [h2,h0];rfl,h3⟩
theorem MN {g:Gm} (h:eV none g.ts.letters=true):(bW (sF g)).length ≤(mi g).length :=by
 obtain⟨h1,h2⟩:=Kk _ _ h
 obtain⟨-,h4,h5⟩:=FT g h2 _ (Nat.le_refl _)
 have h63:(63:UInt8) ∉ g.ts.letters:=fun hm=>absurd (h1 _ hm).1 (by decide)
 have h6:=TF (A:=mi g) h63
 unfold sF bW
 rw [List.length_append,List.length_replicate,h4,h5,List.take_length]
 unfold gJ
 rw [Int.toNat_natCast];omega
theorem IP {g:Gm} (hv:GV g):0≤g.last.score∧g.last.score≤20000:=by
 have hl:=hv.la
 have idle : ∀{k p:Int},xw g.last (dA k p)=true→0≤g.last.score∧g.last.score≤20000:=fun h=>by
  unfold xw dA at h
  simp only [Bool.and_eq_true,beq_iff_eq] at h
  have h6:g.last.score=0:=h.2.2.2.2.2.1
  omega
 unfold c9 at hl
 split at hl
 ·rw [Bool.and_eq_true] at hl
  exact idle hl.1
 ·split at hl
  ·rw [Bool.and_eq_true] at hl
   exact idle hl.1
  ·split at hl
   ·have hk:=pkf hl
    have hts:er g.ts:=by
     have hs:=hv.su
     unfold jp at hs
     rw [Bool.and_eq_true] at hs
     exact jm hs.1
    have hb:bdB g.bef=true:=by have:=hk.ok;unfold okB at this;rw [Bool.and_eq_true] at this;exact this.1
    have hv:bs g.bef g.last.play=true:=by rw [←d5 hb];exact hk.ok
    refine⟨?_,hk.s2⟩
    rw [hk.so,fy hb hv]
    exact (Go.Proofs.YtjjonmhpgkahoaaGreatDoor.score_bd hts g.bef g.last.play (by have:=(be hv).2.2.2;omega)).1
   ·cases hl
theorem Pz {g:Gm} (hv:GV g):(bW g.ts).length ≤(av (ag g.bd)).length + (g.racks.getD 0 []).length + (g.racks.getD 1 []).length + g.bag.length:=by
 have ht:=hv.ti
 unfold cr at ht
 have ht:=congrArg List.length ht
 rw [ax] at ht
 simp only [List.length_append] at ht
 omega
theorem DrG.drB {g:Gm} (h:DrG g):DrB g:=by
 have hv:=oJ h.v
 have hb:=hv.bag
 unfold bL at hb
 rw [Bool.and_eq_true] at hb
 exact⟨h.b,hv.rl,hv.sl,hv.kl,h.lx,h.f,of_decide_eq_true hb.2,br hv.pl,IP hv,bdB.fit hv.bd,Pz hv⟩
theorem Jn {g:Gm} (h:FwQ g):TsB 1048576 (sF g):=by
 obtain⟨h1,h2,h3⟩:=EO g g.ts.letters.length
 have h4:=h.tl
 unfold sF
 exact⟨by omega,by omega,by omega⟩
theorem DrG.few {g:Gm} (h:DrG g) {l:La} (hl:l=g.last∨l=⟨0,0,⟨0,0,false,[]⟩,[],[],0,0⟩):DrB { g with ts:=sF { g with bag:=[] },bag:=[],last:=l }:=by
 have hv:=oJ h.v
 have hw:(l.play.word.length:Int)≤1048576∧(l.before.length:Int)≤1048576∧(l.drawn.length:Int)≤1048576:=by
  rcases hl with rfl | rfl
  ·exact⟨h.b.wd,h.b.bf,h.b.dr⟩
  ·exact⟨by decide,by decide,by decide⟩
 have hs:0≤l.score∧l.score≤20000:=by
  rcases hl with e | e
  ·rw [e];exact IP hv
  ·rw [e];exact (⟨by decide,by decide⟩:(0:Int)≤0∧(0:Int)≤20000)
 refine⟨⟨Jn (h.fw []),h.b.lx,h.b.b0,h.b.bd,by show (([]:List UInt8).length : Int)≤_;decide,h.b.rk,h.b.sc,h.b.ck,hw.1,hw.2.1,hw.2.2⟩,hv.rl,hv.sl,hv.kl,h.lx,.inl rfl,by show ([]:List UInt8).length ≤120;decide,br hv.pl,hs,bdB.fit hv.bd,?_⟩
 have hsm:eV none g.ts.letters=true:=by
  have h8:=hv.su
  unfold jp tsB at h8
  simp only [Bool.and_eq_true] at h8
  exact h8.1.2.1
 have h9:=MN (g:={ g with bag:=[] }) hsm
 unfold mi at h9
 rw [List.length_append,List.length_append] at h9
 exact h9
theorem mW.sg {u:Su} (h:mW u) (x:Int):SgL u (jg (bW u.ts) x):=by
 have hb:=h.b
 have h1:=hb.ts
 have h2:=hb.lx
 have h3:=h.all.2.2.2
 refine⟨⟨Qk h1 (by decide),⟨?_,fun k=>?_⟩,Fd hb.bd (by decide)⟩,⟨?_,?_,?_⟩,by rw [qg];omega⟩
 ·have:=h2.l;omega
 ·have:=h2.w (k:Int)
  rw [Int.toNat_natCast] at this
  omega
 ·have:=h1.v;omega
 ·have:=h1.c;omega
 ·have:=h2.l;omega
theorem mW.drg {u:Su} (h:mW u) {x:Int} (hx:0≤x):DrG (vz u (jg (bW u.ts) x)):=by
 have hc:=h.bgn hx
 have h3:=h.all.2.2.2
 unfold vz
 rw [if_pos hc]
 exact⟨QA hc,Jm hc,RN h.b (by rw [qg];omega),h.lex⟩
theorem EJ {n:Int} {σ X:Src} (h:far n σ X):far n σ ⟨σ.code,X.pos,X.seed⟩:=by rw [Cz h.c];exact h
section
variable {σ Y Z:Src} {G:Gm} {a z k:Int}
theorem PS (hY:far 20 σ Y):(pkS (pkS Y 60000) 8).code =σ.code:=by simp only [ak];exact hY.c
theorem T1 (hY:far 20 σ Y) (hp:db 999999900000 σ) (hd:DrG G):0≤pkV (pkS Y 60000) 8∧pkV (pkS Y 60000) 8≤7∧far (8900-1000*pkV (pkS Y 60000) 8) σ ⟨σ.code,(pkS (pkS Y 60000) 8).pos,(pkS (pkS Y 60000) 8).seed⟩∧DrG G:=by
 have h3:=ew (ai (hY.s _ hp) 60000) (n:=8)
 have h4:=h3.2.1 (by decide)
 exact⟨h3.1,by omega,EJ (X:=pkS (pkS Y 60000) 8) (((hY.pk 60000).pk 8).le (by omega)),hd⟩
theorem Ra (hY:far 20 σ Y) (h:far (8900-1000*k) σ ⟨σ.code,a,z⟩) (k0:0≤k):far 9000 σ (pkS ⟨(pkS (pkS Y 60000) 8).code,a,z⟩ 6):=by
 rw [PS hY]
 exact (h.pk 6).le (by omega)
theorem Ps {m:Int} (hY:far 20 σ Y) (hp:db 999999900000 σ) (h:far (8900-1000*k) σ ⟨σ.code,a,z⟩) (k0:0≤k) (hm:999999910000≤m):db m ⟨(pkS (pkS Y 60000) 8).code,a,z⟩:=by
 rw [PS hY]
 exact (h.s _ hp).le (by omega)
theorem TO (hY:far 20 σ Y) (h:far (8900-1000*k) σ ⟨σ.code,a,z⟩) (h2:far 1000 ⟨(pkS (pkS Y 60000) 8).code,a,z⟩ Z) (hd:DrG G) (k0:0<k) (k7:k≤7):0≤k-1∧k-1≤7∧far (8900-1000*(k-1)) σ ⟨σ.code,Z.pos,Z.seed⟩∧DrG G:=by
 rw [PS hY] at h2
 exact⟨by omega,by omega,EJ (uf h h2 (by omega)),hd⟩
end
def rGs:qw (Src×Gm):=⟨fun H l=>match l with
 | [.agg c]=>hZ (NS H) (Dp c)
 | _=>none,fun a=>(0,.cells (srK a.1) 159)::Kj a.2 1,fun a=>.agg (gmK a.2 (.osl 1) (.osl 2) (.osl 3) (.osl 4) (.osl 5) (.osl 6))⟩
@[reducible] def drV:List LV:=LV.s 6 (.i .i64)::LV.c 0 1 (.i .i64)::LV.c 0 2 (.i .u64)::LV.c 9 0 .s ::LV.c 9 3 (.i .i64)::LV.c 9 5 (.i .i64)::LV.c 9 6 .s ::LV.c 9 7 .s ::LV.c 9 8 (.i .i64)::LV.c 9 9 (.i .i64)::LV.c 9 10 (.i .i64)::LV.c 9 11 .s ::LV.c 9 12 .s ::LV.c 9 13 .s ::LV.c 9 17 (.i .i64)::LV.c 9 18 (.i .i64)::LV.c 9 19 (.i .i64)::LV.c 9 20 (.i .i64)::LV.c 9 21 (.i .i64)::LV.c 9 22 (.i .i64)::LV.c 9 23 .b ::LV.c 9 24 .s ::LV.c 9 25 .s ::LV.c 9 26 .s ::LV.c 9 27 (.i .i64)::LV.c 9 28 (.i .i64)::LV.c 9 29 .b ::LV.o 3 [.i .i64]::LV.o 4 [.i .i64]::LV.o 5 [.s]::LV.o 6 [.s]::LV.o 7 [.i .i64]::LV.o 8 [.i .i64]::[]
def ny (_:Pr):d7:=nsp (mS a0) (fun (σ,_u)=>db 999999900000 σ) (fun (σ,_u)=>rGs) (fun (σ,_u) (τ,x)=>far 9000 σ τ∧DrB x)
theorem BK:NOk Tryz.prog 184 (ny std):=by
 refine NOk.goEK 2 [0,1] (c:=cxN std [(12,ld std),(223,gu std)] [(63,pN std),(96,aF std),(64,aj std)] [(62,dM std),(249,nU std)] 1 (if false then some dU else none) []) (jk (.cons xK (.cons qM .nil)) (.cons Cs (.cons ct (.cons aL .nil))) (.cons l7 (.cons Bn .nil))) mixed Tryz.func184 rfl rfl (by kernel_rfl) ?_
 rintro ⟨σ,_u⟩ hp
 dsimp only at hp
 refine⟨rfl,?_⟩
 unfold ld gu pN aF aj dM nU
 obtain⟨H,hH⟩ : ∃H:Hd (Int×Int×Int×List UInt8×Int×Int×List UInt8×List UInt8×Int×Int×Int×List UInt8×List UInt8×List UInt8×Int×Int×Int×Int×Int×Int×Bool×List UInt8×List UInt8×List UInt8×Int×Int×Bool×List Int×List Int×List (List UInt8)×List (List UInt8)×List Int×List Int),H=⟨fun (k,a,z,x0,x3,x5,x6,x7,x8,x9,x10,x11,x12,x13,x17,x18,x19,x20,x21,x22,x23,x24,x25,x26,x27,x28,x29,x1,x2,x4,x14,x15,x16)=>0≤k∧k≤7∧far (8900-1000*k) σ ⟨σ.code,a,z⟩∧DrG ⟨⟨x0,x1,x2,x3⟩,x4,⟨x5,x6,x7⟩,x8,x9,⟨x10,x11,x12⟩,x13,x14,x15,x16,x17,x18,⟨x19,x20,⟨x21,x22,x23,x24⟩,x25,x26,x27,x28⟩,x29⟩,fun (k,a,z,x0,x3,x5,x6,x7,x8,x9,x10,x11,x12,x13,x17,x18,x19,x20,x21,x22,x23,x24,x25,x26,x27,x28,x29,x1,x2,x4,x14,x15,x16)=>k.toNat,(· < ·)⟩:=⟨_,rfl⟩
 have hl:=hdl hH
 generalize hP:std=p,hB0:pkS=B0,hB1:pkV=B1,hB2:far=B2,hB3:sF=B3,hB4:sdB=B4,hB5:vz=B5,hB6:jD=B6
 cbv
 repeat' first|refine fun (_:Unit)=>?_;cbv|refine Or.inr ⟨19,[],drV,[.c 9 1,.c 9 2,.c 9 4,.c 9 14,.c 9 15,.c 9 16],[],H,rfl,hl,?_,fun ((k,a,z,x0,x3,x5,x6,x7,x8,x9,x10,x11,x12,x13,x17,x18,x19,x20,x21,x22,x23,x24,x25,x26,x27,x28,x29,x1,x2,x4,x14,x15,x16):Int×Int×Int×List UInt8×Int×Int×List UInt8×List UInt8×Int×Int×Int×List UInt8×List UInt8×List UInt8×Int×Int×Int×Int×Int×Int×Bool×List UInt8×List UInt8×List UInt8×Int×Int×Bool×List Int×List Int×List (List UInt8)×List (List UInt8)×List Int×List Int) hk=>?_⟩<;>cbv|refine fun (y:Nd _) hy=>?_;cbv|refine aI2 (fun h=>?_) (fun h=>?_)<;>cbv|refine aI2 ?_ ?_
 all_goals subst hP hB0 hB1 hB2 hB3 hB4 hB5 hB6 hH
 all_goals clear hl
 all_goals try dsimp only at hk
 all_goals try dsimp only
 all_goals try exact fin
 ·exact hp.le (by decide)
 ·exact (hy.1.s _ hp).le (by decide)
 ·exact hy.2.sg _
 ·exact (ai (hy.1.s _ hp) 60000).le (by decide)
 ·exact T1 (Y:=y.x.1) hy.1 hp (hy.2.drg (ew (hy.1.s _ hp)).1)
 ·exact Ps (Y:=y.x.1) hy.1 hp hk.2.2.1 hk.1 (by decide)
 ·exact congrArg (PV.rsl [.i .u8]) hy.1.c
 ·rename Nd (Src×Su)=>y0
  rename far 20 σ _∧_=>hy0
  exact TO (Y:=y0.x.1) (Z:=y.x.1) hy0.1 hk.2.2.1 hy.1 hy.2 (ah ‹_›) hk.2.1
 ·exact Ps (Y:=y.x.1) hy.1 hp hk.2.2.1 hk.1 (by decide)
 ·exact hk.2.2.2.fw []
 all_goals first
  | exact Ra (Y:=y.x.1) hy.1 hk.2.2.1 hk.1
  | exact hk.2.2.2.few (.inr rfl)
  | exact hk.2.2.2.few (.inl rfl)
  | exact hk.2.2.2.drB
  | skip
structure BeB (g:Gm):Prop where
 b:GmB 1048576 g
 lx:g.lex=qB
 ft:g.bd.Fit
 f:iU g∨az g=false
theorem Q6 {g:Gm} (h:(bW g.ts).length ≤(av (ag g.bd)).length + (g.racks.getD 0 []).length + (g.racks.getD 1 []).length + g.bag.length):az { g with bag:=g.bag++[101] }=false:=by
 cases hv:az { g with bag:=g.bag++[101] } with
 | false=>rfl
 | true=>
   have ht:=(oJ hv).ti
   unfold cr at ht
   have ht:=congrArg List.length ht
   rw [ax] at ht
   simp only [List.length_append,List.length_singleton] at ht
   have ht:(av (ag g.bd)).length + (g.racks.getD 0 []).length + (g.racks.getD 1 []).length + (g.bag.length+1)=(bW g.ts).length :=ht
   omega
theorem To {g:Gm} {l:List (List UInt8)} (h:g.racks=l.take 1):az g=false:=by
 cases hv:az g with
 | false=>rfl
 | true=>
   have h1:=(oJ hv).rl
   rw [h,List.length_take] at h1
   omega
theorem Qj {σ Y:Src} {n:Int} (h:far 9000 σ Y):far 9100 σ (pkS (pkS Y 40) n):=((h.pk 40).pk n).le (by omega)
theorem zg {σ Y:Src} {l:List Int} (h:far 9000 σ Y):far 9100 σ (pkS (pkS Y 40) l.length):=((h.pk 40).pk _).le (by omega)
theorem P8 {n:Int} {l:List (List UInt8)} (h:WsB n l) (k:Nat):WsB n (l.take k):=by
 refine⟨?_,fun j=>?_⟩
 ·have:=h.l
  rw [List.length_take];omega
 ·have h1:=h.w j
  rw [List.getD_eq_getElem?_getD,List.getElem?_take]
  split
  ·rw [List.getD_eq_getElem?_getD] at h1;exact h1
  ·have h2:=h.l
   show (([]:List UInt8).length : Int)≤n
   have : (([]:List UInt8).length : Int)=0:=rfl
   omega
def nW (_:Pr):d7:=nsp (mS a0) (fun (σ,_u)=>db 999999800000 σ) (fun (σ,_u)=>rS (aA aGm)) (fun (σ,_u) (τ,x)=>far 9100 σ τ∧BeB x)
theorem Bs:NOk Tryz.prog 87 (nW std):=by
 refine NOk.go (c:=cxN std [] [(64,aj std),(66,jy std)] [(184,ny std)] 1 (if false then some dU else none) []) (jk .nil (.cons aL (.cons tU .nil)) (.cons BK .nil)) mixed Tryz.func87 rfl rfl (by kernel_rfl) ?_
 rintro ⟨σ,_u⟩ hp
 dsimp only at hp
 refine⟨rfl,?_⟩
 unfold aj jy ny
 generalize hP:std=p,hB0:pkS=B0,hB1:pkV=B1,hB2:amV=B2,hB3:far=B3
 cbv
 repeat' first|refine fun (_:Unit)=>?_;cbv|refine fun (y:Nd _) hy=>?_;cbv|refine aI2 (fun h=>?_) (fun h=>?_)<;>cbv|refine aI2 ?_ ?_|refine Or.inl (fun (_:Unit)=>?_);cbv
 all_goals subst hP hB0 hB1 hB2 hB3
 all_goals try exact fin
 all_goals try exact Int.NonNeg.mk _
 ·exact hp.le (by decide)
 all_goals have hy:far 9000 σ y.x.1∧DrB y.x.2:=hy
 all_goals have h1:db (999999800000+9000) y.x.1:=hy.1.s _ hp
 all_goals have h2:far (9000+2) σ (pkS y.x.1 40):=hy.1.pk 40
 all_goals have h3:DrB y.x.2:=hy.2
 ·exact h1.le (by decide)
 ·exact an (by show _≤1-y.x.2.player∧1-y.x.2.player≤_;have h9:0≤y.x.2.player∧y.x.2.player≤1:=h3.pl;omega)
 all_goals try exact (ai h1 40).le (by decide)
 all_goals try exact h2.le (by decide)
 all_goals try exact (⟨by decide,by rw [h3.sl];decide⟩:(0:Int)≤0∧(0:Int)<(y.x.2.scores.length:Int))
 all_goals try exact (⟨by decide,by rw [h3.kl];decide⟩:(0:Int)≤1∧(1:Int)<(y.x.2.clocks.length:Int))
 ·exact zg (Y:=y.x.1) (l:=[-1,1-y.x.2.player,2]) hy.1
 ·exact⟨⟨h3.b.ts,h3.b.lx,h3.b.b0,h3.b.bd,h3.b.bag,h3.b.rk,h3.b.sc,h3.b.ck,h3.b.wd,h3.b.bf,h3.b.dr⟩,h3.lx,h3.ft,.inl h3.f⟩
 ·exact zg (Y:=y.x.1) (l:=[100000,100001,50000, -50001]) hy.1
 ·refine⟨⟨h3.b.ts,h3.b.lx,h3.b.b0,h3.b.bd,h3.b.bag,h3.b.rk,?_,h3.b.ck,h3.b.wd,h3.b.bf,h3.b.dr⟩,h3.lx,h3.ft,.inl h3.f⟩
  show ((y.x.2.scores.set 0 _).length : Int)≤_
  rw [List.length_set];exact h3.b.sc
 ·exact zg (Y:=y.x.1) (l:=[-36000, -36001,36001, -1]) hy.1
 ·refine⟨⟨h3.b.ts,h3.b.lx,h3.b.b0,h3.b.bd,h3.b.bag,h3.b.rk,h3.b.sc,?_,h3.b.wd,h3.b.bf,h3.b.dr⟩,h3.lx,h3.ft,.inl h3.f⟩
  show ((y.x.2.clocks.set 1 _).length : Int)≤_
  rw [List.length_set];exact h3.b.ck
 ·exact zg (Y:=y.x.1) (l:=[-1,5,6,1]) hy.1
 all_goals try exact⟨⟨h3.b.ts,h3.b.lx,h3.b.b0,h3.b.bd,h3.b.bag,h3.b.rk,h3.b.sc,h3.b.ck,h3.b.wd,h3.b.bf,h3.b.dr⟩,h3.lx,h3.ft,.inl h3.f⟩
 ·exact an (by show _≤(y.x.2.bag.length:Int)+1∧(y.x.2.bag.length:Int)+1≤_;have:=h3.bg;omega)
 ·refine⟨⟨h3.b.ts,h3.b.lx,h3.b.b0,h3.b.bd,?_,h3.b.rk,h3.b.sc,h3.b.ck,h3.b.wd,h3.b.bf,h3.b.dr⟩,h3.lx,h3.ft,.inr (Q6 h3.tl)⟩
  show ((y.x.2.bag++[101]).length : Int)≤_
  have:=h3.bg
  rw [List.length_append,List.length_singleton];omega
 ·have h9:=h3.rl
  show (1:Int)≤(y.x.2.racks.length:Int)
  omega
 ·refine⟨⟨h3.b.ts,h3.b.lx,h3.b.b0,h3.b.bd,h3.b.bag,?_,h3.b.sc,h3.b.ck,h3.b.wd,h3.b.bf,h3.b.dr⟩,h3.lx,h3.ft,.inr (To rfl)⟩
  exact P8 h3.b.rk 1
 ·have h9:=ew (ai h1 40) (n:=6)
  have h10:=h9.2.1 (by decide)
  exact an (by show _≤pkV (pkS y.x.1 40) 6-1∧pkV (pkS y.x.1 40) 6-1≤_;omega)
 ·exact Qj (Y:=y.x.1) (n:=6) hy.1
 ·exact zg (Y:=y.x.1) (l:=[-1,4,0,3]) hy.1
 ·exact an (by show _≤y.x.2.last.score+1∧y.x.2.last.score+1≤_;have:=h3.ls;omega)
 ·exact zg (Y:=y.x.1) (l:=[-1,36000,36001]) hy.1
 ·exact⟨⟨h3.b.ts,h3.b.lx,h3.b.b0,⟨h3.b.bd.c,h3.b.bd.c⟩,h3.b.bag,h3.b.rk,h3.b.sc,h3.b.ck,h3.b.wd,h3.b.bf,h3.b.dr⟩,h3.lx,⟨h3.ft.lo,h3.ft.hi,h3.ft.cells,h3.ft.cells⟩,.inl h3.f⟩
 ·exact⟨⟨h3.b.ts,h3.b.lx,h3.b.bd,h3.b.bd,h3.b.bag,h3.b.rk,h3.b.sc,h3.b.ck,h3.b.wd,h3.b.bf,h3.b.dr⟩,h3.lx,h3.ft,.inl h3.f⟩
end Ax
end Go.Proofs.YtjjonmhpgkahoaaGreatDoor
