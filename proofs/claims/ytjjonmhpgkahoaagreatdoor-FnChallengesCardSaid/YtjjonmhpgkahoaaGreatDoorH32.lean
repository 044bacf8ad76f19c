/-
  Valid games stay valid: passes and exchanges.
  Conditions: none.
-/
import Derived.Test.YtjjonmhpgkahoaaGreatDoorH31
import Derived.Test.YtjjonmhpgkahoaaGreatDoorH19
import Derived.Test.YtjjonmhpgkahoaaGreatDoorH30
import Derived.Test.YtjjonmhpgkahoaaGreatDoorH26
import Derived.Test.YtjjonmhpgkahoaaGreatDoorH27
set_option linter.unusedSimpArgs false
set_option linter.unusedVariables false
namespace Go.Proofs.YtjjonmhpgkahoaaGreatDoor
namespace Ax
set_option maxRecDepth 100000
set_option maxHeartbeats 2000000
structure GV (g:Gm):Prop where
 su:jp g=true
 bd:bdB g.bd=true
 sz:g.bd.size=g.bd0.size
 pm:g.bd.prem=g.bd0.prem
 bag:bL g.bag=true
 rl:g.racks.length=2
 sl:g.scores.length=2
 kl:g.clocks.length=2
 pl:inR g.player 0 1=true
 ze:inR g.zeros 0 6=true
 s0:bj g 0=true
 s1:bj g 1=true
 ti:cr g=bW g.ts
 la:c9 g=true
 ov:g.over=true∨g.zeros<6
theorem oJ {g:Gm} (h:az g=true):GV g:=by
 unfold az dX kq at h
 simp only [Bool.and_eq_true,Bool.or_eq_true,decide_eq_true_eq,beq_iff_eq] at h
 obtain⟨⟨a,b,c,d,e⟩,⟨f,h,i,j,k⟩,⟨l,m⟩,n,o,p⟩:=h
 exact⟨a,b,c,d,e,f,h,i,j,k,l,m,n,o,p⟩
theorem GV.b {g:Gm} (h:GV g):az g=true:=by
 unfold az dX kq
 simp only [Bool.and_eq_true,Bool.or_eq_true,decide_eq_true_eq,beq_iff_eq]
 exact⟨⟨h.su,h.bd,h.sz,h.pm,h.bag⟩,⟨h.rl,h.sl,h.kl,h.pl,h.ze⟩,⟨h.s0,h.s1⟩,h.ti,h.la,h.ov⟩
theorem kC {a b c:Int} (h:b≤a∧a≤c):inR a b c=true:=by simpa [inR] using h
theorem xC {α:Type} {l:List α} (h:l.length=2) : ∃a b,l=[a,b]:=by
 match l,h with
 | [a,b],_=>exact⟨a,b,rfl⟩
structure GN (g:Gm):Prop where
 su:jp g=true
 bd:bdB g.bd=true
 sz:g.bd.size=g.bd0.size
 pm:g.bd.prem=g.bd0.prem
 bag:bL g.bag=true
 rl:g.racks.length=2
 sl:g.scores.length=2
 kl:g.clocks.length=2
 pl:inR g.player 0 1=true
 r0:aM (g.racks.getD 0 [])=true
 r1:aM (g.racks.getD 1 [])=true
 c0 : -90000≤g.scores.getD 0 0∧g.scores.getD 0 0≤90000
 c1 : -90000≤g.scores.getD 1 0∧g.scores.getD 1 0≤90000
 k0:inR (g.clocks.getD 0 0) (-36000) 36000=true
 k1:inR (g.clocks.getD 1 0) (-36000) 36000=true
 ti:cr g=bW g.ts
 la:c9 g=true
 ze:inR g.zeros 0 6=true
theorem GN.v {g:Gm} (h:GN g) (ho:g.over=true∨g.zeros<6):az g=true:=by
 refine GV.b ⟨h.su,h.bd,h.sz,h.pm,h.bag,h.rl,h.sl,h.kl,h.pl,h.ze,?_,?_,h.ti,h.la,ho⟩
 ·unfold bj
  rw [h.r0,h.k0,kC (by have:=h.c0;omega)];rfl
 ·unfold bj
  rw [h.r1,h.k1,kC (by have:=h.c1;omega)];rfl
theorem GN.e {g:Gm} (h:GN g):Es g:=by
 obtain⟨a,b,hr⟩:=xC h.rl
 obtain⟨x,y,hk⟩:=xC h.kl
 have h0:=h.r0;have h1:=h.r1;have h2:=br h.k0;have h3:=br h.k1
 have hts:tsB g.ts=true:=by
  have:=h.su
  unfold jp at this
  simp only [Bool.and_eq_true] at this
  exact this.1
 refine⟨jm hts,h.rl,h.kl,fun k=>?_,fun k=>?_⟩
 ·unfold Gm.rk
  rw [hr] at h0 h1 ⊢
  rcases hk':k.toNat with _ | _ | n
  ·exact bP h0
  ·exact bP h1
  ·exact Nat.zero_le _
 ·unfold Gm.clk
  rw [hk] at h2 h3 ⊢
  rcases hk':k.toNat with _ | _ | n
  ·exact h2.1
  ·exact h3.1
  ·show (-36000:Int)≤0;decide
theorem GN.settle {g:Gm} (h:GN g):az (eX g)=true:=by
 have b0:=EW h.e 0
 have b1:=EW h.e 1
 have h0:=h.c0;have h1:=h.c1
 refine GV.b ⟨h.su,h.bd,h.sz,h.pm,h.bag,h.rl,rfl,h.kl,h.pl,h.ze,?_,?_,h.ti,h.la,.inl rfl⟩
 ·unfold bj
  rw [show (eX g).racks.getD 0 []=g.racks.getD 0 [] from rfl,show (eX g).clocks.getD 0 0=g.clocks.getD 0 0 from rfl,h.r0,h.k0,kC (a:=(eX g).scores.getD 0 0) (by
   show -100000≤g.sc 0+chg g 0∧g.sc 0+chg g 0≤100000
   have : g.sc 0=g.scores.getD 0 0:=rfl
   omega)];rfl
 ·unfold bj
  rw [show (eX g).racks.getD 1 []=g.racks.getD 1 [] from rfl,show (eX g).clocks.getD 1 0=g.clocks.getD 1 0 from rfl,h.r1,h.k1,kC (a:=(eX g).scores.getD 1 0) (by
   show -100000≤g.sc 1+chg g 1∧g.sc 1+chg g 1≤100000
   have : g.sc 1=g.scores.getD 1 0:=rfl
   omega)];rfl
structure H0 (g:Gm) (n:Int):Prop where
 v:GV g
 ov:g.over=false
 nb:0≤n∧n≤36000
 ck : -36000≤g.clk g.player-n
 s0 : -50000≤g.sc 0∧g.sc 0≤50000
 s1 : -50000≤g.sc 1∧g.sc 1≤50000
theorem xi {g:Gm} {n:Int} (h:aO g n=0):H0 g n:=by
 unfold aO at h
 split at h
 ·rename_i h1
  split at h
  ·cases h
  ·rename_i h2
   split at h
   ·rename_i h3
    split at h
    ·rename_i h4
     rw [Bool.and_eq_true] at h3 h4
     exact⟨oJ h1,by simpa using h2,br h3.1,of_decide_eq_true h3.2,br h4.1,br h4.2⟩
    ·cases h
   ·cases h
 ·cases h
theorem KE {g:Gm} {n:Int} (h:H0 g n):(ckL g n).length =2∧inR ((ckL g n).getD 0 0) (-36000) 36000=true∧inR ((ckL g n).getD 1 0) (-36000) 36000=true:=by
 obtain⟨x,y,hk⟩:=xC h.v.kl
 have hp:=br h.v.pl
 have h0:=h.v.s0;have h1:=h.v.s1
 unfold bj at h0 h1
 simp only [Bool.and_eq_true] at h0 h1
 have c:=h.ck
 have n0:=h.nb
 unfold ckL
 have q0:=br h0.2.2;have q1:=br h1.2.2
 unfold Gm.clk at c ⊢
 rw [hk] at c q0 q1 ⊢
 rcases (show g.player=0∨g.player=1 by omega) with e | e<;>rw [e] at c ⊢
 ·have c : -36000≤x-n:=c
  have q0 : -36000≤x∧x≤36000:=q0
  exact⟨rfl,kC (by show -36000≤x-n∧x-n≤36000;omega),(by have:=h1.2.2;rw [hk] at this;exact this)⟩
 ·have c : -36000≤y-n:=c
  have q1 : -36000≤y∧y≤36000:=q1
  exact⟨rfl,(by have:=h0.2.2;rw [hk] at this;exact this),kC (by show -36000≤y-n∧y-n≤36000;omega)⟩
theorem Bk {k p:Int} (hk:k=2∨k=3) (hp:inR p 0 1=true) (g:Gm) (h:g.last=dA k p):c9 g=true:=by
 unfold c9
 rw [h]
 have h0 : ¬(dA k p).kind =0:=by show ¬k=0;omega
 have h1:(dA k p).kind =2∨(dA k p).kind =3:=hk
 rw [if_neg h0,if_pos h1]
 show (xw (dA k p) (dA k p)&&inR p 0 1)=true
 rw [hp,Bool.and_true]
 simp [xw,N8]
theorem NZ {g:Gm} {n k:Int} (h:H0 g n) (hk:k=2∨k=3) {r:List (List UInt8)} {b:List UInt8} (hb:bL b=true) (rl:r.length=2) (r0:aM (r.getD 0 [])=true) (r1:aM (r.getD 1 [])=true)
 (ti:au (((av (ag g.bd)++r.getD 0 [])++r.getD 1 [])++b)=bW g.ts):GN (om ⟨g.ts,g.lex,g.bd0,g.secs,g.rule,g.bd,b,r,g.scores,g.clocks,g.player,g.zeros,g.last,g.over⟩ k n):=by
 obtain⟨q1,q2,q3⟩:=KE h
 have hp:=br h.v.pl
 have hz:=br h.v.ze
 have ho:=h.v.ov.resolve_left (by rw [h.ov];decide)
 exact⟨h.v.su,h.v.bd,h.v.sz,h.v.pm,hb,rl,h.v.sl,q1,kC (by show 0≤1-g.player∧1-g.player≤1;omega),r0,r1,(by have:=h.s0;show -90000≤g.sc 0∧g.sc 0≤90000;omega),(by have:=h.s1;show -90000≤g.sc 1∧g.sc 1≤90000;omega),q2,q3,ti,
  Bk hk h.v.pl _ rfl,kC (by show 0≤g.zeros+1∧g.zeros+1≤6;omega)⟩
theorem FJ {g:Gm} {n k:Int} (h:H0 g n) (hk:k=2∨k=3) {r:List (List UInt8)} {b:List UInt8} (hb:bL b=true) (rl:r.length=2) (r0:aM (r.getD 0 [])=true) (r1:aM (r.getD 1 [])=true)
 (ti:au (((av (ag g.bd)++r.getD 0 [])++r.getD 1 [])++b)=bW g.ts):az (l5 ⟨g.ts,g.lex,g.bd0,g.secs,g.rule,g.bd,b,r,g.scores,g.clocks,g.player,g.zeros,g.last,g.over⟩ k n)=true:=by
 have hg:=NZ h hk hb rl r0 r1 ti
 have hz:=br h.v.ze
 have ho:=h.v.ov.resolve_left (by rw [h.ov];decide)
 unfold l5
 split
 ·exact hg.settle
 ·rename_i he
  refine hg.v (.inr ?_)
  unfold ja at he
  simp only [Bool.or_eq_true,beq_iff_eq,not_or] at he
  have:=he.2
  show g.zeros+1<6
  omega
theorem mm {g:Gm} {k:Nat} (h:bj g k=true):aM (g.racks.getD k [])=true:=by
 unfold bj at h
 rw [Bool.and_eq_true] at h
 exact h.1
theorem NJ {g:Gm} {n:Int} (h:aO g n=0):az (eM g n)=true:=by
 have hf:=xi h
 unfold eM
 rw [if_pos h]
 exact FJ hf (.inr rfl) hf.v.bag hf.v.rl (mm hf.v.s0) (mm hf.v.s1) hf.v.ti
theorem rR {s:List UInt8} (h:s.all aK=true) (h7:s.length≤7):aM (au s)=true:=CK (uG h) (hU s) (by rw [ax];exact h7)
theorem tn {a b:List UInt8} (h:a.all aK=true) (k:b.all aK=true):(a++b).all aK=true:=by rw [List.all_append,h,k];rfl
theorem BH {a:List UInt8} (h:a.all aK=true) (n:Nat):(a.take n).all aK=true:=List.all_eq_true.2 fun x hx=>List.all_eq_true.1 h x (List.mem_of_mem_take hx)
theorem BO {a:List UInt8} (h:a.all aK=true) (n:Nat):(a.drop n).all aK=true:=List.all_eq_true.2 fun x hx=>List.all_eq_true.1 h x (List.mem_of_mem_drop hx)
theorem AP (a:List UInt8) (n:Nat) (c:UInt8):(a.take n).count c+(a.drop n).count c=a.count c:=by rw [←List.count_append,List.take_append_drop]
theorem RC {g:Gm} {t:List UInt8} {n:Int} (h:xtC g t n=0):az (xtR g t n)=true:=by
 obtain⟨h1,h2,h3⟩:=rM h
 have hf:=xi (bV h1)
 have ex:=J8 h3
 unfold xtR
 rw [if_pos h]
 have hta:=(zT ex.ht).1
 have hba:=fo ex.ha
 have hra:=(ep ex.hb).1
 have hr7:aM (exR g.bag (g.rk g.player) t)=true:=by
  rw [tW h3]
  have:=Bb h3
  rw [tW h3,ax] at this
  exact rR (tn (mK hra) (BH hba _)) this
 have hbag:bL (exB g.bag (g.rk g.player) t)=true:=by
  unfold bL
  rw [Bool.and_eq_true,decide_eq_true_eq]
  refine⟨?_,by rw [BE h3];exact ex.la.2⟩
  rw [BY h3]
  exact tn (BO hba _) hta
 have hcnt : ∀c,(exR g.bag (g.rk g.player) t).count c+(exB g.bag (g.rk g.player) t).count c=(g.rk g.player).count c+g.bag.count c:=fun c=>by
  have e1:=fD (g.rk g.player) t (List.isEmpty_iff.1 ex.tk) c
  have e2:=AP g.bag t.length c
  have e3:(bb (g.rk g.player) t).1=bR (g.rk g.player) t:=rfl
  rw [tW h3,BY h3,bx,List.count_append,List.count_append]
  rw [e3] at e1
  omega
 obtain⟨x,y,hr⟩:=xC hf.v.rl
 have hp:=br hf.v.pl
 have ti:=hf.v.ti
 unfold cr at ti
 have r0:=mm hf.v.s0
 have r1:=mm hf.v.s1
 refine FJ hf (.inl rfl) hbag (by rw [List.length_set];exact hf.v.rl) ?_ ?_ ?_
 ·rw [hr] at r0 ⊢
  rcases (show g.player=0∨g.player=1 by omega) with e | e<;>rw [e] at hr7 ⊢
  ·exact hr7
  ·exact r0
 ·rw [hr] at r1 ⊢
  rcases (show g.player=0∨g.player=1 by omega) with e | e<;>rw [e] at hr7 ⊢
  ·exact r1
  ·exact hr7
 ·rw [←ti]
  refine jB fun c=>?_
  have e1:=hcnt c
  simp only [List.count_append]
  rcases (show g.player=0∨g.player=1 by omega) with e | e
  ·have e2:g.rk g.player=g.racks.getD 0 []:=by rw [e];rfl
   rw [e2] at e1
   rw [hr] at e1
   rw [e2,hr,e]
   show (av (ag g.bd)).count c+(exR g.bag x t).count c+y.count c+(exB g.bag x t).count c=(av (ag g.bd)).count c+x.count c+y.count c+g.bag.count c
   have e1:(exR g.bag x t).count c+(exB g.bag x t).count c=x.count c+g.bag.count c:=e1
   omega
  ·have e2:g.rk g.player=g.racks.getD 1 []:=by rw [e];rfl
   rw [e2] at e1
   rw [hr] at e1
   rw [e2,hr,e]
   show (av (ag g.bd)).count c+x.count c+(exR g.bag y t).count c+(exB g.bag y t).count c=(av (ag g.bd)).count c+x.count c+y.count c+g.bag.count c
   have e1:(exR g.bag y t).count c+(exB g.bag y t).count c=y.count c+g.bag.count c:=e1
   omega
theorem QA {u:Su} {b:List UInt8} (h:jD u b=0):az (EY u b)=true:=by
 unfold jD at h
 split at h
 ·rename_i h1
  rw [Bool.and_eq_true] at h1
  obtain⟨hs,hb⟩:=h1
  split at h
  ·rename_i h2
   split at h
   ·cases h
   ·rename_i h3
    have hs':=hs
    unfold suB at hs'
    simp only [Bool.and_eq_true] at hs'
    obtain⟨-, -,q1,q2,q3,q4⟩:=hs'
    have hba:=fo hb
    have hbl:=eF hb
    have hsc:=br q3
    have sd : ∀r:List UInt8,aM r=true→(aM r&&(inR (0:Int) (-100000) 100000&&inR u.secs (-36000) 36000))=true:=fun r hr=>by
     rw [hr,kC (a:=u.secs) (by omega)];decide
    refine GV.b ⟨hs,q1,rfl,rfl,?_,rfl,rfl,rfl,by show inR (0:Int) 0 1=true;decide,by show inR (0:Int) 0 6=true;decide,sd _ ?_,sd _ ?_,?_,?_,.inr (by show (0:Int)<6;decide)⟩
    ·unfold bL
     rw [Bool.and_eq_true,decide_eq_true_eq]
     exact⟨BO hba 14,by show (b.drop 14).length ≤120;rw [List.length_drop];omega⟩
    ·exact rR (BH hba 7) (by rw [List.length_take];omega)
    ·exact rR (BO (BH hba 14) 7) (by rw [List.length_drop,List.length_take];omega)
    ·unfold cr
     rw [show bW (EY u b).ts =bW u.ts from rfl,←h2]
     refine jB fun c=>?_
     have e0:ag u.bd=[]:=List.isEmpty_iff.1 q2
     simp only [List.count_append]
     show (av (ag u.bd)).count c+(au (b.take 7)).count c+(au ((b.take 14).drop 7)).count c+(b.drop 14).count c=b.count c
     rw [e0,bx,bx]
     have e1:=AP b 14 c
     have e2:=AP (b.take 14) 7 c
     rw [List.take_take] at e2
     have e3:(av []).count c=0:=rfl
     rw [show min 7 14=7 from rfl] at e2
     omega
    ·rfl
  ·cases h
 ·cases h
def Ex (c z:UInt8):Nat:=if z=46 then 0 else if aX z=c then 1 else 0
def cntF (c:UInt8) (s:List UInt8):Nat:=((s.filter fun x=>!(x==46)).map aX).count c
theorem zE (b:Bd) (c:UInt8):(av (ag b)).count c=cntF c b.cells:=by unfold av ag cntF;rw [bx]
theorem pW (c a:UInt8) (s:List UInt8):cntF c (a::s)=Ex c a+cntF c s:=by
 unfold cntF Ex
 rw [List.filter_cons]
 by_cases h:a=46
 ·subst h;simp
 ·rw [if_pos (by simpa using h),if_neg h,List.map_cons,List.count_cons]
  by_cases h2:aX a=c
  ·rw [if_pos h2,if_pos (by simpa using h2)];omega
  ·rw [if_neg h2,if_neg (by simpa using h2)];omega
theorem Dk (c x:UInt8) : ∀(s:List UInt8) (i:Nat) (y:UInt8),s[i]? =some y→cntF c (s.set i x)+Ex c y=cntF c s+Ex c x
 | [],_,_,h=>by simp at h
 | a::s,0,y,h=>by
   simp at h;subst h
   rw [List.set_cons_zero,pW,pW];omega
 | a::s,i+1,y,h=>by
   have:=Dk c x s i y (by simpa using h)
   rw [List.set_cons_succ,pW,pW];omega
theorem F1 {p:UInt8→Bool} {x:UInt8} (hx:p x=true) : ∀(s:List UInt8) (i:Nat),s.all p=true→(s.set i x).all p=true
 | [],_,h=>h
 | a::s,0,h=>by
   rw [List.all_cons,Bool.and_eq_true] at h
   rw [List.set_cons_zero,List.all_cons,hx,h.2];rfl
 | a::s,i+1,h=>by
   rw [List.all_cons,Bool.and_eq_true] at h
   rw [List.set_cons_succ,List.all_cons,h.1,F1 hx s i h.2];rfl
section
variable {b:Bd} {q:Pl} {g:Gm} {n:Int}
theorem GB {k:Nat} (hl:ei q.word=true) (hk:k<q.word.length):(aZ (q.word.getD k 0)||kw (q.word.getD k 0))=true:=by
 unfold ei at hl
 rw [List.all_eq_true] at hl
 exact hl _ (by rw [List.getD_eq_getElem?_getD,List.getElem?_eq_getElem hk];exact List.getElem_mem hk)
theorem Mf {x:UInt8} (h:(aZ x||kw x)=true):x≠46∧x≠0:=by
 refine⟨fun e=>?_,fun e=>?_⟩<;>· subst e;revert h;decide
theorem yC (hb:b.cells.all jc=true) (hl:ei q.word=true) : ∀k,k≤q.word.length→(ca b q k).all jc=true
 | 0,_=>hb
 | k+1,h=>by
   rw [kL]
   refine F1 ?_ _ _ (yC hb hl k (by omega))
   have:=GB hl (show k<q.word.length by omega)
   unfold jc
   rw [Bool.or_assoc,this,Bool.or_true]
theorem M3 (hb:bdB b=true) (hl:ei q.word=true):bdB (ar b q)=true:=by
 unfold bdB at hb ⊢
 simp only [Bool.and_eq_true,decide_eq_true_eq] at hb ⊢
 obtain⟨h1,h2,h3,h4⟩:=hb
 have h5:(ca b q q.word.length).length =b.cells.length:=fA b q _
 have hcp:b.cells.length=b.prem.length:=by omega
 refine⟨h1,h2,by show ((ca b q q.word.length).length : Int)=_;rw [h5];exact h3,?_⟩
 rw [kJ _ _ hcp,Bool.and_eq_true] at h4
 show mH (ca b q q.word.length) b.prem=true
 rw [kJ _ _ (by rw [h5];exact hcp),h4.1,yC h4.2 hl _ (Nat.le_refl _)]
 rfl
theorem D3 (hb:bdB b=true) (hv:bs b q=true) (c:UInt8) : ∀k,k≤q.word.length→cntF c (ca b q k)=cntF c b.cells+(((jS b q k).map fun i=>q.word.getD i 0).map aX).count c
 | 0,_=>rfl
 | k+1,h=>by
   have ih:=D3 hb hv c k (by omega)
   obtain⟨hon,hl, -, -⟩:=be hv
   have hf:=bdB.fit hb
   have hin:=hon k (by omega)
   have hin':=hin
   rw [cK] at hin'
   have hm:=fx hf.lo hf.hi hin'.1.1 hin'.1.2 hin'.2.1 hin'.2.2
   have hidx:idxOf b q k<(ca b q k).length :=by rw [fA];have:=hf.cells;unfold idxOf;omega
   have hold:(ca b q k).getD (idxOf b q k) 0=m9 b q k:=by
    rw [rK b q _ k fun i hi e=>?_]
    ·unfold m9
     rw [jK hin];rfl
    ·have:=AJ hf (hon i (by omega)) hin e
     unfold Pl.sr Pl.sc at this
     cases hd:q.down<;>simp only [hd,Bool.false_eq_true,if_false,if_true] at this<;>omega
   have hget:(ca b q k)[idxOf b q k]? =some (m9 b q k):=by
    rw [List.getElem?_eq_getElem hidx,←hold,List.getD_eq_getElem?_getD,List.getElem?_eq_getElem hidx];rfl
   have hs:=Dk c (q.word.getD k 0) _ _ _ hget
   have hw:=Mf (GB hl (show k<q.word.length by omega))
   have hfit:Cc b q k=true:=by
    unfold bs at hv
    simp only [Bool.and_eq_true] at hv
    have:=hv.1.2
    unfold r8 at this
    exact List.all_eq_true.1 this k (List.mem_range.2 (by omega))
   have hone:Ex c (q.word.getD k 0)=[aX (q.word.getD k 0)].count c:=by
    unfold Ex
    rw [if_neg hw.1,List.count_cons,List.count_nil]
    by_cases h2:aX (q.word.getD k 0)=c
    ·rw [if_pos h2,if_pos (by simpa using h2)]
    ·rw [if_neg h2,if_neg (by simpa using h2)]
   rw [kL]
   unfold jS at ih ⊢
   rw [List.range_succ,List.filter_append,List.map_append,List.map_append,List.count_append]
   unfold Cc at hfit
   rw [Bool.or_eq_true,beq_iff_eq,beq_iff_eq] at hfit
   rcases hfit with e | e
   ·have hlet:b.let_ (q.sr k) (q.sc k)=false:=by
     unfold Bd.let_
     rw [show b.cell (q.sr k) (q.sc k)=46 from e];rfl
    have e2 : [k].filter (fun i:Nat=>!b.let_ (q.sr i) (q.sc i))=[k]:=by simp [hlet]
    rw [e2]
    rw [e] at hs
    have e3:Ex c 46=0:=rfl
    rw [e3,hone] at hs
    show _=_+(_ + [aX (q.word.getD k 0)].count c)
    omega
   ·have hlet:b.let_ (q.sr k) (q.sc k)=true:=by
     unfold Bd.let_
     rw [show b.cell (q.sr k) (q.sc k)=q.word.getD k 0 from e,beq_eq_false_iff_ne.2 hw.1,beq_eq_false_iff_ne.2 hw.2]
     rfl
    have e2 : [k].filter (fun i:Nat=>!b.let_ (q.sr i) (q.sc i))=[]:=by simp [hlet]
    rw [e2]
    rw [e] at hs
    show _=_+(_+0)
    omega
theorem yw (hb:bdB b=true) (hv:bs b q=true) (c:UInt8):(av (ag (ar b q))).count c=(av (ag b)).count c+(av (aD b q)).count c:=by
 rw [zE,zE]
 show cntF c (ca b q q.word.length)=_
 rw [D3 hb hv c _ (Nat.le_refl _)]
 congr 1
 unfold av aD bC
 rw [bx]
structure LF (g:Gm) (q:Pl) (n:Int):Prop where
 a:H0 g n
 v:bs g.bd q=true
 w:cL (g.rk g.player) (cb (aD g.bd q))=true
 hi:bY g.ts g.bd q≤20000∧g.sc g.player+bY g.ts g.bd q≤50000
 lo:0≤bY g.ts g.bd q
theorem K4 (hc:bz g q n=0):LF g q n:=by
 obtain⟨h1,h2,h3⟩:=lK hc
 have ha:=xi (bV h1)
 have hlo:=h3.sc.1
 unfold cG at hlo
 have hss:lj g.ts (af g.bd q) (ab q)=bY g.ts g.bd q:=fy ha.v.bd h3.v
 rw [hss] at hlo
 refine⟨ha,h3.v,h3.w,?_,hlo⟩
 unfold bz at hc
 rw [if_pos (bV h1)] at hc
 split at hc
 ·cases hc
 ·split at hc
  ·rename_i h6;exact absurd hc h6.1
  ·split at hc
   ·cases hc
   ·rename_i h7
    rw [not_or] at h7
    omega
theorem O3 {g:Gm} (h:GV g) (i:Nat) (hi:i<2):aM (g.racks.getD i [])=true:=by
 rcases (show i=0∨i=1 by omega) with rfl | rfl
 ·exact mm h.s0
 ·exact mm h.s1
theorem za (h:GV g):aM (g.rk g.player)=true:=by
 have:=br h.pl
 exact O3 h g.player.toNat (by omega)
theorem KT (h:LF g q n) (c:UInt8):(bi g q).count c+(av (aD g.bd q)).count c=(g.rk g.player).count c:=by
 have hr:=za h.a.v
 have hb:=h.a.v.bd
 obtain⟨hon,hl, -, -⟩:=be h.v
 have e1:=qf hb hr h.v h.w
 rw [jG hb hon] at e1
 have e2:takeB (g.rk g.player) (av (aD g.bd q))=true:=by rw [pZ hr (eE hl)];exact h.w
 have e3:=fD (g.rk g.player) (av (aD g.bd q)) (List.isEmpty_iff.1 e2) c
 have e4:(bb (g.rk g.player) (av (aD g.bd q))).1=bR (g.rk g.player) (av (aD g.bd q)):=rfl
 rw [e4,e1] at e3
 exact e3
theorem Dv (h:LF g q n):(bi g q).length + (bC g.bd q).length =(g.rk g.player).length :=by
 have hr:=za h.a.v
 have hb:=h.a.v.bd
 obtain⟨hon,hl, -, -⟩:=be h.v
 have e1:=qf hb hr h.v h.w
 rw [jG hb hon] at e1
 have e2:takeB (g.rk g.player) (av (aD g.bd q))=true:=by rw [pZ hr (eE hl)];exact h.w
 have e3:=pV e2
 rw [e1] at e3
 rw [←e3]
 congr 1
 unfold av aD
 rw [ax,List.length_map,List.length_map]
def iU (g:Gm):Prop:=g.bag=[]∨((g.racks.getD 0 []).length =7∧(g.racks.getD 1 []).length =7)
theorem QN (h:LF g q n) (hf:iU g):(g.bag.take (bQ g.bag (bi g q))).length ≤(bC g.bd q).length ∧(bi g q).length + (g.bag.take (bQ g.bag (bi g q))).length ≤7:=by
 have h1:=Dv h
 have h7:=uy (za h.a.v)
 have hp:=br h.a.v.pl
 rw [List.length_take]
 unfold bQ
 rcases hf with e | ⟨e0,e1⟩
 ·rw [e];simp;omega
 ·have e2:(g.rk g.player).length =7:=by
   unfold Gm.rk
   rcases (show g.player=0∨g.player=1 by omega) with e | e<;>rw [e]
   ·exact e0
   ·exact e1
  omega
theorem BP {r:List (List UInt8)} {i:Nat} {x:List UInt8} (hr:r.length=2) (hi:i<2) {P:List UInt8→Prop} (h0:P (r.getD 0 [])) (h1:P (r.getD 1 [])) (hx:P x):P ((r.set i x).getD 0 [])∧P ((r.set i x).getD 1 []):=by
 obtain⟨a,b,rfl⟩:=xC hr
 rcases (show i=0∨i=1 by omega) with rfl | rfl
 ·exact⟨hx,h1⟩
 ·exact⟨h0,hx⟩
theorem FA {r:List Int} {i:Nat} {x:Int} (hr:r.length=2) (hi:i<2) {P:Int→Prop} (h0:P (r.getD 0 0)) (h1:P (r.getD 1 0)) (hx:P x):P ((r.set i x).getD 0 0)∧P ((r.set i x).getD 1 0):=by
 obtain⟨a,b,rfl⟩:=xC hr
 rcases (show i=0∨i=1 by omega) with rfl | rfl
 ·exact⟨hx,h1⟩
 ·exact⟨h0,hx⟩
theorem SY {r:List (List UInt8)} {i:Nat} {x:List UInt8} (hr:r.length=2) (hi:i<2) (c:UInt8):((r.set i x).getD 0 []).count c+((r.set i x).getD 1 []).count c+(r.getD i []).count c=(r.getD 0 []).count c+(r.getD 1 []).count c+x.count c:=by
 obtain⟨a,b,rfl⟩:=xC hr
 rcases (show i=0∨i=1 by omega) with rfl | rfl
 ·show x.count c+b.count c+a.count c=a.count c+b.count c+x.count c;omega
 ·show a.count c+x.count c+b.count c=a.count c+b.count c+x.count c;omega
theorem LX (h:LF g q n) (hf:iU g):GN (gy g q n):=by
 have hv:=h.a.v
 have hp:=br hv.pl
 have hi:g.player.toNat<2:=by omega
 have hz:=br hv.ze
 have ho:=hv.ov.resolve_left (by rw [h.a.ov];decide)
 obtain⟨hon,hl, -,h12⟩:=be h.v
 obtain⟨q1,q2,q3⟩:=KE h.a
 have hba:=fo hv.bag
 obtain⟨d1,d2⟩:=QN h hf
 have hrs:=(xx hv.bd (za hv) h.v h.w).1
 have hdr:(g.bag.take (bQ g.bag (bi g q))).all aK=true:=BH hba _
 have hnr:aM (au (bi g q++g.bag.take (bQ g.bag (bi g q))))=true:=rR (tn hrs hdr) (by rw [List.length_append];exact d2)
 obtain⟨r0,r1⟩:=BP (i:=g.player.toNat) hv.rl hi (P:=fun r=>aM r=true) (mm hv.s0) (mm hv.s1) hnr
 have hsc:=h.hi;have hlo:=h.lo
 have s0:=h.a.s0;have s1:=h.a.s1
 have hsp : -50000≤g.sc g.player:=by
  rcases (show g.player=0∨g.player=1 by omega) with e | e<;>rw [e]
  ·exact s0.1
  ·exact s1.1
 obtain⟨c0,c1⟩:=FA (i:=g.player.toNat) (x:=g.sc g.player+bY g.ts g.bd q) hv.sl hi (P:=fun x=> -90000≤x∧x≤90000) (by have : g.scores.getD 0 0=g.sc 0:=rfl;omega) (by have : g.scores.getD 1 0=g.sc 1:=rfl;omega) (by omega)
 refine⟨hv.su,M3 hv.bd hl,hv.sz,hv.pm,?_,by show (g.racks.set _ _).length =2;rw [List.length_set];exact hv.rl,by show (g.scores.set _ _).length =2;rw [List.length_set];exact hv.sl,q1,kC (by show 0≤1-g.player∧1-g.player≤1;omega),r0,r1,c0,c1,q2,q3,?_,?_,by show inR (0:Int) 0 6=true;decide⟩
 ·unfold bL
  rw [Bool.and_eq_true,decide_eq_true_eq]
  refine⟨BO hba _,?_⟩
  have:=eF hv.bag
  show (g.bag.drop _).length ≤120
  rw [List.length_drop];omega
 ·have ti:=hv.ti
  unfold cr at ti ⊢
  rw [show bW (gy g q n).ts =bW g.ts from rfl,←ti]
  refine jB fun c=>?_
  simp only [List.count_append]
  have e1:=yw hv.bd h.v c
  have e2:=KT h c
  have e3:=SY (x:=au (bi g q++g.bag.take (bQ g.bag (bi g q)))) hv.rl hi c
  have e4:=AP g.bag (bQ g.bag (bi g q)) c
  rw [bx,List.count_append] at e3
  have e5:g.racks.getD g.player.toNat []=g.rk g.player:=rfl
  rw [e5] at e3
  show (av (ag (ar g.bd q))).count c+((g.racks.set g.player.toNat (au (bi g q++g.bag.take (bQ g.bag (bi g q))))).getD 0 []).count c+((g.racks.set g.player.toNat (au (bi g q++g.bag.take (bQ g.bag (bi g q))))).getD 1 []).count c+(g.bag.drop (bQ g.bag (bi g q))).count c=_
  omega
 ·have hk:c9 (gy g q n)=eg (gy g q n):=rfl
  rw [hk]
  have hbef:(gy g q n).bef =g.bd:=rfl
  have hrk:(gy g q n).rk g.player=au (bi g q++g.bag.take (bQ g.bag (bi g q))):=by
   show (g.racks.set g.player.toNat _).getD g.player.toNat []=_
   rw [List.getD_eq_getElem?_getD,List.getElem?_set_self (by rw [hv.rl];exact hi)];rfl
  unfold eg
  rw [hbef]
  show (g.player==1-(1-g.player)&&(okB g.bd q&&(inR g.zeros 0 5&&((0:Int)==0&&(bL (g.bag.take (bQ g.bag (bi g q)))&&(takeB ((gy g q n).rk g.player) (au (g.bag.take (bQ g.bag (bi g q))))&&(decide ((dv (af g.bd q) (ab q)).length ≤7)&&
   (decide ((g.bag.take (bQ g.bag (bi g q))).length ≤(dv (af g.bd q) (ab q)).length)&&(decide ((((gy g q n).rk g.player).length : Int)-(g.bag.take (bQ g.bag (bi g q))).length + (dv (af g.bd q) (ab q)).length ≤7)&&
   (KZ (fL g.bd q) (ar g.bd q)&&(bY g.ts g.bd q==lj g.ts (af g.bd q) (ab q)&&decide (bY g.ts g.bd q≤20000))))))))))))=true
  rw [hrk,eR hv.bd hon,s8 hv.bd h.v,show lj g.ts (af g.bd q) (ab q)=bY g.ts g.bd q from fy hv.bd h.v,d5 hv.bd,h.v]
  have hrl:=Dv h
  have h7:=uy (za hv)
  have t1:takeB (au (bi g q++g.bag.take (bQ g.bag (bi g q)))) (au (g.bag.take (bQ g.bag (bi g q))))=true:=by
   unfold takeB
   rw [List.isEmpty_iff]
   refine (iy _ _ (hU _) (hU _)).2 fun c=>?_
   rw [bx,bx,List.count_append];omega
  have t2:bL (g.bag.take (bQ g.bag (bi g q)))=true:=by
   unfold bL
   rw [hdr,Bool.true_and,decide_eq_true_eq]
   have:=eF hv.bag
   rw [List.length_take];omega
  rw [t1,t2]
  simp only [Bool.and_eq_true,decide_eq_true_eq,beq_iff_eq,ax,List.length_append]
  refine⟨by omega,trivial,kC (by omega),trivial,trivial,trivial,by omega,d1,by omega,by simp [KZ],trivial,hsc.1⟩
theorem GQ (hc:bz g q n=0) (hf:iU g):az (ey g q n)=true:=by
 have h:=LX (K4 hc) hf
 unfold ey
 rw [if_pos hc]
 unfold uV
 split
 ·exact h.settle
 ·exact h.v (.inr (by show (0:Int)<6;decide))
end
section
variable {g:Gm} {q:Pl} {n k:Int} {t b:List UInt8} {u:Su}
theorem Ah (h:iU g):iU (l5 g k n):=by
 unfold l5
 split
 ·exact h
 ·exact h
theorem HE (hc:aO g n=0) (h:iU g):iU (eM g n):=by
 unfold eM
 rw [if_pos hc]
 exact Ah h
theorem JV (h:exC b t q.word=0):(exR b t q.word).length =t.length:=by
 have hf:=J8 h
 have:=hf.la;have:=hf.lb;have:=hf.lr;have:=hf.lt
 rw [tW h,ax,List.length_append,List.length_take];omega
theorem L8 (hc:xtC g t n=0) (h:iU g):iU (xtR g t n):=by
 obtain⟨h1,h2,h3⟩:=rM hc
 have hf:=xi (bV h1)
 have hp:=br hf.v.pl
 unfold xtR
 rw [if_pos hc]
 refine Ah ?_
 have e1:=BE h3
 have e2:(exR g.bag (g.rk g.player) t).length =(g.rk g.player).length :=JV (q:=⟨0,0,false,t⟩) h3
 rcases h with h | ⟨r0,r1⟩
 ·refine .inl (List.length_eq_zero_iff.1 ?_)
  show (exB g.bag (g.rk g.player) t).length =0
  rw [e1,h];rfl
 ·refine .inr ?_
  have e3:(g.rk g.player).length =7:=by
   unfold Gm.rk
   rcases (show g.player=0∨g.player=1 by omega) with e | e<;>rw [e]
   ·exact r0
   ·exact r1
  exact BP (i:=g.player.toNat) hf.v.rl (by omega) (P:=fun r=>r.length=7) r0 r1 (by rw [e2,e3])
theorem zL (hc:bz g q n=0) (h:iU g):iU (ey g q n):=by
 have ht:=K4 hc
 have hp:=br ht.a.v.pl
 have h1:iU (gy g q n):=by
  rcases h with h | ⟨r0,r1⟩
  ·refine .inl ?_
   show g.bag.drop _=[]
   rw [h,List.drop_nil]
  ·by_cases hd:g.bag.length≤bQ g.bag (bi g q)
   ·refine .inl ?_
    show g.bag.drop _=[]
    exact List.drop_eq_nil_of_le hd
   ·refine .inr ?_
    have h7:=(xx ht.a.v.bd (za ht.a.v) ht.v ht.w).2.1
    refine BP (i:=g.player.toNat) ht.a.v.rl (by omega) (P:=fun r=>r.length=7) r0 r1 ?_
    rw [ax,List.length_append,List.length_take]
    unfold bQ at hd ⊢
    omega
 unfold ey
 rw [if_pos hc]
 unfold uV
 split
 ·exact h1
 ·exact h1
theorem Jm (h:jD u b=0):iU (EY u b):=by
 unfold jD at h
 split at h
 ·split at h
  ·split at h
   ·cases h
   ·rename_i h3
    refine .inr ⟨?_,?_⟩
    ·show (au (b.take 7)).length =7
     rw [ax,List.length_take];omega
    ·show (au ((b.take 14).drop 7)).length =7
     rw [ax,List.length_drop,List.length_take];omega
  ·cases h
 ·cases h
end
theorem Dx : ∀(l:List UInt8) (c:List Int),(∀x∈c,0≤x)→((lN l c).length : Int)≤c.sum
 | [],c,h=>by
   have : 0≤c.sum:=by
    induction c with
    | nil=>exact Int.le_refl 0
    | cons x c ih=>
      have h1:=h x (List.mem_cons_self ..)
      have h2:=ih fun y hy=>h y (List.mem_cons_of_mem _ hy)
      rw [List.sum_cons];omega
   simpa [lN] using this
 | _::_,[],_=>by simp [lN]
 | a::l,x::c,h=>by
   have h1:=h x (List.mem_cons_self ..)
   have h2:=Dx l c fun y hy=>h y (List.mem_cons_of_mem _ hy)
   rw [lN,List.length_append,List.length_replicate,List.sum_cons]
   omega
theorem LH {t:TS} (h:tsB t=true):(bW t).length ≤120:=by
 obtain⟨h1,h2,h3⟩:=vZ h
 have h4 : ∀x∈t.counts,0≤x:=fun x hx=>by
  obtain⟨k,hk⟩:=List.mem_iff_getElem?.1 hx
  have:=h3 k
  rw [List.getD_eq_getElem?_getD,hk] at this
  exact this
 have h5:=Dx t.letters t.counts h4
 unfold tsB at h
 simp only [Bool.and_eq_true,decide_eq_true_eq] at h
 have h6:=h.2.2.2.2.2.2
 unfold bW
 rw [List.length_append,List.length_replicate]
 omega
structure PlF (g:Gm):Prop where
 p:g.last.player=1-g.player
 ok:okB g.bef g.last.play=true
 z:0≤g.last.zeros∧g.last.zeros≤5
 z0:g.zeros=0
 dr:bL g.last.drawn=true
 tk:takeB (g.rk g.last.player) (au g.last.drawn)=true
 f7:(dv (af g.bef g.last.play) (ab g.last.play)).length ≤7
 r7:((g.rk g.last.player).length : Int)-g.last.drawn.length+(dv (af g.bef g.last.play) (ab g.last.play)).length ≤7
 bd:fL g.bef g.last.play=g.bd
 sc:g.last.score=lj g.ts (af g.bef g.last.play) (ab g.last.play)
 hi:g.last.score≤20000
theorem plf {g:Gm} (h:eg g=true):PlF g:=by
 unfold eg at h
 simp only [Bool.and_eq_true,decide_eq_true_eq,beq_iff_eq] at h
 obtain⟨h1,h2,h3,h4,h5,h6,h7, -,h8,h9,h10,h11⟩:=h
 refine⟨h1,h2,br h3,h4,h5,h6,h7,h8,?_,h10,h11⟩
 unfold KZ at h9
 simp only [Bool.and_eq_true,beq_iff_eq] at h9
 obtain⟨e1,e2,e3⟩:=h9
 revert e1 e2 e3
 generalize fL g.bef g.last.play=X
 generalize g.bd=Y
 cases X;cases Y
 rintro rfl rfl rfl
 rfl
section
variable {g:Gm} {n:Int}
theorem PX (h:GV g) {p:Int} (h0:0≤p) (h1:p≤1):aM (g.rk p)=true:=O3 h p.toNat (by omega)
structure ScN (g:Gm):Prop where
 s0 : -60000≤g.sc 0∧g.sc 0≤60000
 s1 : -60000≤g.sc 1∧g.sc 1≤60000
theorem ScN.at (h:ScN g) {p:Int} (h0:0≤p) (h1:p≤1) : -60000≤g.sc p∧g.sc p≤60000:=by
 rcases (show p=0∨p=1 by omega) with e | e<;>rw [e]
 ·exact h.s0
 ·exact h.s1
theorem T8 (h:GV g) (hp:eg g=true) (hs:ScN g):GN (wd1 g):=by
 have hf:=plf hp
 have hpl:=br h.pl
 have hlp:0≤g.last.player∧g.last.player≤1:=by have:=hf.p;omega
 have hi:g.last.player.toNat<2:=by omega
 have hrk:=PX h hlp.1 hlp.2
 have hok:=hf.ok
 have hbb:bdB g.bef=true:=by unfold okB at hok;rw [Bool.and_eq_true] at hok;exact hok.1
 have hv:bs g.bef g.last.play=true:=by rw [←d5 hbb];exact hok
 obtain⟨hon,hl, -,h12⟩:=be hv
 have hpn:=jG hbb hon
 have hmb:ar g.bef g.last.play=g.bd:=by rw [←s8 hbb hv];exact hf.bd
 have htl:tsB g.ts=true:=by
  have:=h.su
  unfold jp at this
  simp only [Bool.and_eq_true] at this
  exact this.1
 have hsc0:0≤g.last.score:=by
  rw [hf.sc,fy hbb hv]
  exact (Go.Proofs.YtjjonmhpgkahoaaGreatDoor.score_bd (jm htl) g.bef g.last.play (by omega)).1
 have htil:rj g=av (aD g.bef g.last.play):=by unfold rj;rw [hpn]
 have hda:=fo hf.dr
 have hba:=fo h.bag
 have hra:=(ep hrk).1
 have hta:(rj g).all aK=true:=by
  rw [htil]
  unfold av
  refine uG ?_
  rw [List.all_eq_true]
  intro x hx
  obtain⟨y,hy,rfl⟩:=List.mem_map.1 hx
  have h1:=eE (b:=g.bef) (q:=g.last.play) hl
  unfold ei at h1
  have h2:=List.all_eq_true.1 h1 y hy
  unfold aX
  split
  ·rfl
  ·rename_i h3
   rw [Bool.or_eq_true] at h2
   unfold aK
   rw [h2.resolve_right h3,Bool.or_true]
 have hwl:(rj g).length =(dv (af g.bef g.last.play) (ab g.last.play)).length :=by
  rw [htil,eR hbb hon]
  unfold av aD
  rw [ax,List.length_map,List.length_map]
 have hrl:(qT g).length + g.last.drawn.length=(g.rk g.last.player).length :=by
  have:=pV hf.tk
  rw [ax] at this
  exact this
 have hnr:aM (qP g)=true:=by
  unfold qP
  refine rR (tn (mK hra) hta) ?_
  rw [List.length_append,hwl]
  have:=hf.r7
  omega
 have hrc : ∀c,(qT g).count c+g.last.drawn.count c=(g.rk g.last.player).count c:=fun c=>by
  have:=fD (g.rk g.last.player) (au g.last.drawn) (List.isEmpty_iff.1 hf.tk) c
  rw [bx] at this
  exact this
 have hcnt : ∀c,((((av (ag g.bef)++(pg g).getD 0 [])++(pg g).getD 1 [])++oA g)).count c=((((av (ag g.bd)++g.racks.getD 0 [])++g.racks.getD 1 [])++g.bag)).count c:=fun c=>by
  simp only [List.count_append]
  have e1:=yw hbb hv c
  rw [hmb] at e1
  have e2:=SY (i:=g.last.player.toNat) (x:=qP g) h.rl hi c
  have e3:=hrc c
  have e4:g.racks.getD g.last.player.toNat []=g.rk g.last.player:=rfl
  rw [e4] at e2
  have e5:(qP g).count c=(qT g).count c+(rj g).count c:=by unfold qP;rw [bx,List.count_append]
  rw [htil] at e5
  have e6:(oA g).count c=g.last.drawn.count c+g.bag.count c:=by unfold oA;rw [List.count_append]
  unfold pg
  omega
 have hti:au (((av (ag g.bef)++(pg g).getD 0 [])++(pg g).getD 1 [])++oA g)=bW g.ts:=by
  have ti:=h.ti
  unfold cr at ti
  rw [←ti]
  exact jB hcnt
 have hb120:(oA g).length ≤120:=by
  have h1:=LH htl
  rw [←hti,ax] at h1
  simp only [List.length_append] at h1
  omega
 obtain⟨r0,r1⟩:=BP (i:=g.last.player.toNat) h.rl hi (P:=fun r=>aM r=true) (mm h.s0) (mm h.s1) hnr
 have hsp:=hs.at hlp.1 hlp.2
 have hhi:=hf.hi
 obtain⟨c0,c1⟩:=FA (i:=g.last.player.toNat) (x:=g.sc g.last.player-g.last.score) h.sl hi (P:=fun x=> -90000≤x∧x≤90000) (by have : g.scores.getD 0 0=g.sc 0:=rfl;have:=hs.s0;omega) (by have : g.scores.getD 1 0=g.sc 1:=rfl;have:=hs.s1;omega) (by omega)
 have k0:=h.s0;have k1:=h.s1
 unfold bj at k0 k1
 simp only [Bool.and_eq_true] at k0 k1
 refine⟨h.su,hbb,h.sz,h.pm,?_,by show (g.racks.set _ _).length =2;rw [List.length_set];exact h.rl,by show (g.scores.set _ _).length =2;rw [List.length_set];exact h.sl,h.kl,h.pl,r0,r1,c0,c1,k0.2.2,k1.2.2,hti,Bk (.inr rfl) (kC hlp) _ rfl,kC (by have:=hf.z;show 0≤g.last.zeros+1∧g.last.zeros+1≤6;omega)⟩
 show bL (oA g)=true
 unfold bL
 rw [Bool.and_eq_true,decide_eq_true_eq]
 exact⟨tn hda hba,hb120⟩
theorem TQ (h:GV g) (ho:g.over=false) (hp:eg g=true) (hs:ScN g):az (wdG g)=true:=by
 have hg:=T8 h hp hs
 by_cases he:Ca g=true
 ·have e:wdG g=eX (wd1 g):=by
   unfold wdG eX wSs wOv wZe
   rw [he,Bool.or_true];rfl
  rw [e];exact hg.settle
 ·have e:wdG g=wd1 g:=by
   unfold wdG wSs wOv wZe wd1
   rw [if_neg he]
   simp only [Bool.not_eq_true] at he
   rw [he,Bool.or_false];rfl
  rw [e]
  refine hg.v (.inr ?_)
  have:=(plf hp).z
  unfold Ca at he
  simp only [beq_iff_eq] at he
  show g.last.zeros+1<6
  omega
theorem Kb (h:H0 g n):GV (bp g n):=by
 obtain⟨q1,q2,q3⟩:=KE h
 have hv:=h.v
 have k0:=hv.s0;have k1:=hv.s1
 unfold bj at k0 k1
 simp only [Bool.and_eq_true] at k0 k1
 refine⟨hv.su,hv.bd,hv.sz,hv.pm,hv.bag,hv.rl,hv.sl,q1,hv.pl,hv.ze,?_,?_,hv.ti,hv.la,hv.ov⟩
 ·show (aM (g.racks.getD 0 [])&&(inR (g.scores.getD 0 0) (-100000) 100000&&inR ((ckL g n).getD 0 0) (-36000) 36000))=true
  rw [k0.1,k0.2.1,q2];rfl
 ·show (aM (g.racks.getD 1 [])&&(inR (g.scores.getD 1 0) (-100000) 100000&&inR ((ckL g n).getD 1 0) (-36000) 36000))=true
  rw [k1.1,k1.2.1,q3];rfl
theorem TW {k:Int} (h:GV g) (ho:g.over=false) (hp:eg g=true) (hs:ScN g) (hk:0≤k∧k≤20000):az (rfG g k)=true:=by
 have hf:=plf hp
 have hpl:=br h.pl
 have hlp:0≤g.last.player∧g.last.player≤1:=by have:=hf.p;omega
 have hi:g.last.player.toNat<2:=by omega
 have hsp:=hs.at hlp.1 hlp.2
 obtain⟨c0,c1⟩:=FA (i:=g.last.player.toNat) (x:=g.sc g.last.player+k) h.sl hi (P:=fun x=> -90000≤x∧x≤90000) (by have : g.scores.getD 0 0=g.sc 0:=rfl;have:=hs.s0;omega) (by have : g.scores.getD 1 0=g.sc 1:=rfl;have:=hs.s1;omega) (by omega)
 have k0:=h.s0;have k1:=h.s1
 unfold bj at k0 k1
 simp only [Bool.and_eq_true] at k0 k1
 have hz0:=hf.z0
 have hg:GN (rf1 g k):=by
  refine⟨h.su,h.bd,h.sz,h.pm,h.bag,h.rl,by show (g.scores.set _ _).length =2;rw [List.length_set];exact h.sl,h.kl,?_,k0.1,k1.1,c0,c1,k0.2.2,k1.2.2,h.ti,?_,?_⟩
  ·show inR (if g.rule=2 then 1-g.player else g.player) 0 1=true
   split
   ·exact kC (by omega)
   ·exact h.pl
  ·by_cases h2:g.rule=2
   ·exact Bk (k:=3) (.inr rfl) h.pl _ (by show (if g.rule=2 then dA 3 g.player else dA 0 0)=_;rw [if_pos h2])
   ·have e:(rf1 g k).last =dA 0 0:=by show (if g.rule=2 then dA 3 g.player else dA 0 0)=_;rw [if_neg h2]
    unfold c9
    rw [e]
    rfl
  ·show inR (if g.rule=2 then g.zeros+1 else g.zeros) 0 6=true
   rw [hz0]
   split<;>decide
 unfold rfG
 split
 ·exact hg.settle
 ·refine hg.v (.inr ?_)
  show (if g.rule=2 then g.zeros+1 else g.zeros)<6
  rw [hz0]
  split<;>decide
theorem Lz (hc:chC g n=0):az (chR g n)=true:=by
 unfold chC at hc
 split at hc
 ·rename_i h1
  split at hc
  ·rename_i h2
   have ha:=xi h1
   have hp:=(chf (by simpa using h1) h2).ok
   have hv:=Kb ha
   have hp':eg (bp g n)=true:=hp
   have hs:ScN (bp g n):=⟨by have:=ha.s0;show -60000≤g.sc 0∧g.sc 0≤60000;omega,by have:=ha.s1;show -60000≤g.sc 1∧g.sc 1≤60000;omega⟩
   have e:chR g n=chG g n:=by
    unfold chR chC
    rw [if_pos h1,if_pos h2,if_pos rfl]
   rw [e]
   unfold chG
   split
   ·exact TQ hv ha.ov hp' hs
   ·rename_i hu
    refine TW hv ha.ov hp' hs ?_
    unfold dV
    rw [if_neg hu]
    have h3:(cZ g).length ≤(ab g.last.play).word.length + 1:=pU g.bef g.last.play
    have h4:=(my (plf hp).ok).on.len
    split<;>omega
  ·cases hc
 ·rename_i h1
  exact absurd hc h1
end
theorem z0:((([]:List UInt8).length : Nat):Int)≤1048576:=by decide
section
variable {g:Gm} {n:Int}
theorem OL {i:Nat} {x:List UInt8} (h:WsB 1048576 g.racks) (hx:(x.length:Int)≤1048576):WsB 1048576 (g.racks.set i x):=
 ⟨by rw [List.length_set];exact h.l,fun k=>jI (P:=fun y:List UInt8=>(y.length:Int)≤1048576) (L:=g.racks) (i:=i) (k:=k.toNat) (d:=[]) hx (h.w k)⟩
theorem Ki (h:(g.clocks.length:Int)≤1048576):((ckL g n).length : Int)≤1048576:=by unfold ckL;rw [List.length_set];exact h
theorem FX (g:Gm):((fN g).length : Int)≤1048576:=by show (2:Int)≤_;decide
theorem GR {q:Pl} (h:GmB 1048576 g) (hc:bz g q n=0) (hw:(q.word.length:Int)≤1048576):GmB 1048576 (uV g q n):=by
 obtain⟨ha,hG,hC⟩:=lK hc
 have h7:=bP hC.rk
 have hb:=h.bag
 have e:GmB 1048576 (gy g q n):=by
  refine⟨h.ts,h.lx,h.b0,⟨h.bd.p,?_⟩,?_,OL h.rk ?_,?_,Ki h.ck,hw,h.bd.c,?_⟩
  ·show ((ca g.bd q q.word.length).length : Int)≤_
   rw [fA];exact h.bd.c
  ·show ((g.bag.drop _).length : Int)≤_
   rw [List.length_drop];omega
  ·rw [ax,List.length_append,List.length_take]
   unfold bQ
   omega
  ·show ((g.scores.set _ _).length : Int)≤_
   rw [List.length_set];exact h.sc
  ·show ((g.bag.take _).length : Int)≤_
   rw [List.length_take];omega
 unfold uV
 split
 ·exact⟨e.ts,e.lx,e.b0,e.bd,e.bag,e.rk,FX _,e.ck,e.wd,e.bf,e.dr⟩
 ·exact e
theorem Gg {k:Int} (h:GmB 1048576 g):GmB 1048576 (l5 g k n):=by
 unfold l5
 split
 ·exact⟨h.ts,h.lx,h.b0,h.bd,h.bag,h.rk,FX _,Ki h.ck,z0,z0,z0⟩
 ·exact⟨h.ts,h.lx,h.b0,h.bd,h.bag,h.rk,h.sc,Ki h.ck,z0,z0,z0⟩
theorem Ua {t:List UInt8} (h:GmB 1048576 g) (hc:exC g.bag (g.rk g.player) t=0):GmB 1048576 (xtG g t):=by
 have h1:=BE hc
 have h2:=Bb hc
 have hb:=h.bag
 exact⟨h.ts,h.lx,h.b0,h.bd,by show ((exB g.bag (g.rk g.player) t).length : Int)≤_;omega,OL h.rk (by omega),h.sc,h.ck,h.wd,h.bf,h.dr⟩
end
set_option maxHeartbeats 20000000
structure ShP (s:List UInt8) (x:Int):Prop where
 s:s.length≤1000000
 x:0≤x∧x≤2147483647
theorem S1 {y:Int} (h:0≤y):std.rem (std.add (std.mul y 1103515245) 12345) 2147483648=o6 y:=FF (by show 0≤y*1103515245+12345;omega)
theorem RB {y i:Int} (h:0≤y):std.rem (std.quo (o6 y) 65536) (std.add i 1)=(o6 y/65536)%(i+1):=by
 have:=(AX h).1
 rw [yg this]
 exact FF (by omega)
theorem S8 {y i:Int} (hi:0<i):0≤(o6 y/65536)%(i+1)∧(o6 y/65536)%(i+1)<i+1:=⟨Int.emod_nonneg _ (by omega),Int.emod_lt_of_pos _ (by omega)⟩
theorem O5 {y i n:Int} (y0:0≤y) (hi:0<i) (hn:i<n):std.inL (std.rem (std.quo (std.rem (std.add (std.mul y 1103515245) 12345) 2147483648) 65536) (std.add i 1)) n:=by
 rw [S1 y0,RB y0]
 have h:=S8 (y:=y) hi
 generalize (o6 y/65536)%(i+1)=z at h ⊢
 exact⟨h.1,by omega⟩
def kp (p:Pr):aa:=fsp (ac aS (a1 aI)) (fun (s,x)=>ShP s x) (fun (s,x)=>.s (jg s x))
theorem vn:FOk Tryz.prog 156 (kp std):=by
 refine FOk.go (c:=cx std [] [] 0) (ae .nil .nil) mixed Tryz.func156 rfl rfl rfl (by kernel_rfl) ?_
 rintro ⟨s,x⟩ hp
 dsimp only at hp
 refine⟨rfl,?_⟩
 obtain⟨H,hH⟩ : ∃H:Hd (Int×Int×List Int),H=⟨fun (y,i,L)=>0≤y∧y≤2147483647∧ -1≤i∧i<1000000∧∃X,L=aq X∧(X.length:Int)=s.length∧(0≤i→i<X.length)∧jg s x=ox i.toNat y X,fun (y,i,L)=>(i+1).toNat,(· < ·)⟩:=⟨_,rfl⟩
 have hl:=hdl hH
 generalize hP:std=p,hB0:jg=B0
 cbv
 repeat' first|refine fun (_:Unit)=>?_;cbv|refine Or.inr ⟨16,[],[.s 6 (.i .i64),.s 7 (.i .i64),.o 0 [.i .u8]],[],[],H,rfl,hl,?_,fun ((y,i,L):Int×Int×List Int) hk=>?_⟩<;>cbv|refine aI2 (fun h=>?_) (fun h=>?_)<;>cbv|refine aI2 ?_ ?_
 all_goals subst hP hB0 hH
 all_goals clear hl
 all_goals try dsimp only at hk
 all_goals try dsimp only
 all_goals try exact fin
 ·exact an (by show _≤((aq s).length : Int)-1∧((aq s).length : Int)-1≤_;rw [bu];have:=hp.s;omega)
 ·have h1:=hp.s
  have e:std.sub (std.len (std.toB s)) 1=(s.length:Int)-1:=by show ((aq s).length : Int)-1=_;rw [bu]
  refine⟨hp.x.1,hp.x.2,by show -1≤std.sub (std.len (std.toB s)) 1;rw [e];omega,by show std.sub (std.len (std.toB s)) 1<1000000;rw [e];omega,s,rfl,rfl,fun _=>by show std.sub (std.len (std.toB s)) 1<(s.length:Int);rw [e];omega,?_⟩
  show jg s x=ox (std.sub (std.len (std.toB s)) 1).toNat x s
  rw [e]
  unfold jg
  congr 1
  omega
 all_goals obtain⟨y0,y1,i0,i1,X,rfl,hX,hi,e⟩:=hk
 all_goals try (have hlt:0<i:=ah ‹_›)
 all_goals try (have hiX:=hi (by omega);have hkb:=S8 (y:=y) hlt)
 all_goals try exact (⟨by omega,by show i<((aq X).length : Int);rw [bu];exact hiX⟩:std.inL i (std.len (aq X)))
 all_goals try exact O5 y0 hlt (by show i<((aq X).length : Int);rw [bu];exact hiX)
 all_goals try exact O5 y0 hlt (by show i<(((aq X).set i.toNat _).length : Int);rw [List.length_set,bu];exact hiX)
 ·show 0≤std.rem (std.add (std.mul y 1103515245) 12345) 2147483648∧std.rem (std.add (std.mul y 1103515245) 12345) 2147483648≤2147483647∧ -1≤i-1∧i-1<1000000∧∃Y,std.set (std.set (aq X) i (std.get 0 (aq X) (std.rem (std.quo (std.rem (std.add (std.mul y 1103515245) 12345) 2147483648) 65536) (std.add i 1)))) (std.rem (std.quo (std.rem (std.add (std.mul y 1103515245) 12345) 2147483648) 65536) (std.add i 1)) (std.get 0 (aq X) i)=aq Y∧(Y.length:Int)=s.length∧(0≤i-1→i-1<(Y.length:Int))∧jg s x=ox (i-1).toNat (std.rem (std.add (std.mul y 1103515245) 12345) 2147483648) Y
  rw [S1 y0,RB y0]
  have hm:=AX y0
  refine⟨hm.1,by omega,by omega,by omega,swp X i.toNat ((o6 y/65536)%(i+1)).toNat,?_,by rw [wa];exact hX,fun _=>by rw [wa];exact Int.lt_trans (Int.sub_lt_self i (by decide)) hiX,by rw [e,Ig hlt]⟩
  show ((aq X).set i.toNat ((aq X).getD _ 0)).set _ ((aq X).getD _ 0)=_
  rw [gC,gC,kI,kI];rfl
 ·have : i≤0:=ao h
  rw [e,show i.toNat=0 by omega]
  exact cJ X
structure SgL (u:Su) (b:List UInt8):Prop where
 su:SuL u
 own:QO u
 b:b.length≤274877906944
structure SgY (u:Su) (b:List UInt8):Prop where
 q:SgL u b
 c:jD u b=0
structure SgN (u:Su) (b:List UInt8):Prop where
 q:SgL u b
 c:jD u b≠0
def OH (b:List UInt8):List UInt8:=b.drop 14
def OW (b:List UInt8):List (List UInt8):=[au (b.take 7),au ((b.take 14).drop 7)]
section
variable {u:Su} {b:List UInt8}
structure SgF (u:Su) (b:List UInt8):Prop where
 su:suB u=true
 bg:bL b=true
 so:au b=bW u.ts
 lo:14≤b.length
 hi:b.length≤120
theorem Kw (h:jD u b=0):SgF u b:=by
 unfold jD at h
 by_cases h1:(suB u&&bL b)=true
 ·rw [if_pos h1] at h
  rw [Bool.and_eq_true] at h1
  by_cases h2:au b=bW u.ts
  ·rw [if_pos h2] at h
   by_cases h3:b.length<14
   ·rw [if_pos h3] at h;exact absurd h (by decide)
   ·exact⟨h1.1,h1.2,h2,by omega,eF h1.2⟩
  ·rw [if_neg h2] at h;exact absurd h (by decide)
 ·rw [if_neg h1] at h;exact absurd h (by decide)
theorem sg1 (h:jD u b=0) (h2:suB u=false):False:=by have:=(Kw h).su;rw [h2] at this;cases this
theorem sg2 (h:jD u b=0) (h2:bL b=false):False:=by have:=(Kw h).bg;rw [h2] at this;cases this
theorem sg3 (h:jD u b=0) (h2:std.eqS (au b) (bW u.ts)=false):False:=by
 have:=(Kw h).so
 rw [this] at h2
 exact beq_eq_false_iff_ne.1 h2 rfl
theorem sg4 (h:jD u b=0) (h2:std.ltI (std.lenS b) 14=true):False:=by
 have:=(Kw h).lo
 have h3:(b.length:Int)<14:=ah h2
 omega
theorem D0 (u:Su) (b:List UInt8):jD u b=if suB u&&bL b then (if std.eqS (au b) (bW u.ts) then (if std.ltI (std.lenS b) 14 then 6 else 0) else 2) else 1:=by
 unfold jD
 have e:(std.ltI (std.lenS b) 14=true)↔b.length<14:=by
  show decide ((b.length:Int)<14)=true↔_
  rw [decide_eq_true_eq];omega
 have e2:(std.eqS (au b) (bW u.ts)=true)↔au b=bW u.ts:=beq_iff_eq
 simp only [e,e2]
theorem sg5 (h:jD u b≠0) (h1:suB u=true) (h2:bL b=true) (h3:std.eqS (au b) (bW u.ts)=true) (h4:std.ltI (std.lenS b) 14=false):False:=by
 apply h
 rw [D0,h1,h2,h3,h4];rfl
theorem Et (h:suB u=true):MM u.ts:=by
 unfold suB at h
 rw [Bool.and_eq_true] at h
 exact (vZ h.1).1
end
def uB (p:Pr):aa:=fsp (ac (aA aSu) (a1 aS)) (fun (u,b)=>SgY u b) (fun (u,b)=>.tup [.agg (gmK ⟨u.ts,u.lex,u.bd,u.secs,u.rule,⟨u.bd.size,u.bd.prem,u.bd.cells⟩,OH b,[],[],[],0,0,⟨0,0,⟨0,0,false,[]⟩,[],[],0,0⟩,false⟩ (.osl 0) (.osl 1) (.osl 2) (.osl 3) (.osl 4) (.osl 5)),.i .i64 0]) (fun (u,b)=>[(0,.own [.i .i64] u.ts.values 2),(1,.own [.i .i64] u.ts.counts 2),(2,.own [.s] u.lex 9),(3,.own [.s] (OW b) 9),(4,.own [.i .i64] [0,0] 2),(5,.own [.i .i64] [u.secs,u.secs] 2)])
theorem ue:FOk Tryz.prog 12 (uB std):=by
 refine FOk.go (c:=cx std [(72,dW std),(73,du std),(74,aQ std),(65,dP std),(75,cN std)] [] 0) (ae (.cons ml (.cons lC (.cons cT (.cons lY (.cons jC .nil))))) .nil) mixed Tryz.func12 rfl rfl rfl (by kernel_rfl) ?_
 rintro ⟨u,b⟩ hp
 dsimp only at hp
 refine⟨rfl,?_⟩
 unfold dW du aQ dP cN
 generalize hP:std=p,hB0:suB=B0,hB1:bL=B1,hB2:au=B2,hB3:bW=B3,hB4:OH=B4,hB5:OW=B5
 cbv
 repeat' first|refine fun (_:Unit)=>?_;cbv|refine aI2 (fun h=>?_) (fun h=>?_)<;>cbv|refine aI2 ?_ ?_|refine Or.inl (fun (_:Unit)=>?_);cbv
 all_goals subst hP hB0 hB1 hB2 hB3 hB4 hB5
 all_goals try (exfalso;exact sg1 hp.c ‹_›)
 all_goals try (exfalso;exact sg2 hp.c ‹_›)
 all_goals try (exfalso;exact sg3 hp.c ‹_›)
 all_goals try (exfalso;exact sg4 hp.c ‹_›)
 all_goals try exact fin
 all_goals have hF:=Kw hp.c
 all_goals have h1:=hF.lo
 all_goals have h2:=hF.hi
 all_goals first
  | exact hp.q.su
  | exact hp.q.own
  | exact aR hp.q.b
  | exact Et ‹_›
  | skip
def uF (p:Pr):aa:=fsp (ac (aA aSu) (a1 aS)) (fun (u,b)=>SgN u b) (fun (u,b)=>.tup [.agg (gmK gm0 .esl .esl .esl .esl .esl .esl),.i .i64 (jD u b)])
theorem tN:FOk Tryz.prog 12 (uF std):=by
 refine FOk.go (c:=cx std [(72,dW std),(73,du std),(74,aQ std),(65,dP std),(75,cN std)] [] 0) (ae (.cons ml (.cons lC (.cons cT (.cons lY (.cons jC .nil))))) .nil) mixed Tryz.func12 rfl rfl rfl (by kernel_rfl) ?_
 rintro ⟨u,b⟩ hp
 dsimp only at hp
 refine⟨rfl,?_⟩
 unfold dW du aQ dP cN
 generalize hP:std=p,hB0:suB=B0,hB1:bL=B1,hB2:au=B2,hB3:bW=B3,hB4:jD=B4
 cbv
 repeat' first|refine fun (_:Unit)=>?_;cbv|refine aI2 (fun h=>?_) (fun h=>?_)<;>cbv|refine aI2 ?_ ?_|refine Or.inl (fun (_:Unit)=>?_);cbv
 all_goals subst hP hB0 hB1 hB2 hB3 hB4
 all_goals try (exfalso;exact sg5 hp.c ‹_› ‹_› ‹_› ‹_›)
 all_goals try exact fin
 all_goals first
  | exact hp.q.su
  | exact hp.q.own
  | exact aR hp.q.b
  | exact Et ‹_›
  | (rw [D0];simp only [*]<;>simp;done)
  | skip
section
variable {r:Rcd} {u:Su} {k:Int}
@[simp] theorem Ul (r:Rcd):Rcd.mk r.seed r.acts=r:=rfl
@[simp] theorem Uo (u:Su):Su.mk u.ts u.lex u.bd u.secs u.rule=u:=rfl
end
def ld (p:Pr):aa:=fsp (ac (aA aSu) (a1 aS)) (fun (u,b)=>SgL u b) (fun (u,b)=>.tup [.agg (fe (vz u b)),.i .i64 (jD u b)]) (fun (u,b)=>km (vz u b))
def R0 (p:Pr):aa:=fsp (ac (aA aSu) (a1 aS)) (fun (u,b)=>SgN u b) (fun (u,b)=>.tup [.agg (fe gm0),.i .i64 (jD u b)]) (fun _=>km gm0)
theorem Sf:FOk Tryz.prog 12 (R0 std):=FOk.own tN rfl fun ⟨u,b⟩ w e v h hr=>
 nC (.cons (l8 (tB h)) (.cons (fun _ h=>h) .nil)) v hr
theorem xK:FOk Tryz.prog 12 (ld std):=FOk.casesE ue Sf fun ⟨u,b⟩ hp=>by
 by_cases hc:jD u b=0
 ·have e:EY u b=vz u b:=(if_pos hc).symm
  refine .inl ⟨⟨hp,hc⟩,?_,?_⟩
  ·show _=PV.tup [.agg (fe (vz u b)),.i .i64 (jD u b)]
   rw [hc,←e];rfl
  ·show _=km (vz u b)
   rw [←e];rfl
 ·refine .inr ⟨⟨hp,hc⟩,?_,?_⟩
  ·show _=PV.tup [.agg (fe (vz u b)),.i .i64 (jD u b)]
   unfold vz;rw [if_neg hc]
  ·show _=km (vz u b)
   unfold vz;rw [if_neg hc]
@[reducible] def shG:List aw:=[.s,.r [.i .i64],.r [.i .i64],.i .i64,.r [.s],.i .i64,.s,.s,.i .i64,.i .i64,.i .i64,.s,.s,.s,.r [.s],.r [.i .i64],.r [.i .i64],.i .i64,.i .i64,.i .i64,.i .i64,.i .i64,.i .i64,.b,.s,.s,.s,.i .i64,.i .i64,.b]
section
variable {g x:Gm} {r:Rcd} {k:Int} {L:List (El shG)} {P:List Int}
end
@[reducible] def ruV:List LV:=LV.s 9 (.i .i64)::LV.o 1 shG::LV.o 2 [.i .i64]::LV.c 0 0 .s ::LV.c 0 1 (.r [.i .i64])::LV.c 0 2 (.r [.i .i64])::LV.c 0 3 (.i .i64)::LV.c 0 4 (.r [.s])::LV.c 0 5 (.i .i64)::LV.c 0 6 .s ::LV.c 0 7 .s ::LV.c 0 8 (.i .i64)::LV.c 0 9 (.i .i64)::LV.c 0 10 (.i .i64)::LV.c 0 11 .s ::LV.c 0 12 .s ::LV.c 0 13 .s ::LV.c 0 14 (.r [.s])::LV.c 0 15 (.r [.i .i64])::LV.c 0 16 (.r [.i .i64])::LV.c 0 17 (.i .i64)::LV.c 0 18 (.i .i64)::LV.c 0 19 (.i .i64)::LV.c 0 20 (.i .i64)::LV.c 0 21 (.i .i64)::LV.c 0 22 (.i .i64)::LV.c 0 23 .b ::LV.c 0 24 .s ::LV.c 0 25 .s ::LV.c 0 26 .s ::LV.c 0 27 (.i .i64)::LV.c 0 28 (.i .i64)::LV.c 0 29 .b ::[]
structure SuB (n:Int) (u:Su):Prop where
 ts:TsB n u.ts
 lx:WsB n u.lex
 bd:BdB n u.bd
section
variable {u:Su} {r:Rcd}
theorem RN {b:List UInt8} (h:SuB 1048576 u) (hb:b.length≤1000):GmB 1048576 (EY u b):=by
 refine⟨h.ts,h.lx,h.bd,h.bd,?_,⟨by show ((2:Nat):Int)≤_;decide,fun k=>?_⟩,by show ((2:Nat):Int)≤_;decide,by show ((2:Nat):Int)≤_;decide,z0,z0,z0⟩
 ·show ((b.drop 14).length : Int)≤_
  rw [List.length_drop];omega
 ·have e1:(au (b.take 7)).length ≤1000:=by rw [ax,List.length_take];omega
  have e2:(au ((b.take 14).drop 7)).length ≤1000:=by rw [ax,List.length_drop,List.length_take];omega
  show (([au (b.take 7),au ((b.take 14).drop 7)].getD k.toNat []).length : Int)≤_
  rcases hk:k.toNat with _ | _ | n
  ·show ((au (b.take 7)).length : Int)≤_;omega
  ·show ((au ((b.take 14).drop 7)).length : Int)≤_;omega
  ·exact z0
end
section
variable {u:Su} {r:Rcd}
end
set_option maxHeartbeats 2000000
structure mW (u:Su):Prop where
 ts:u.ts=px∨u.ts=Ew∨u.ts=Fv
 lex:u.lex=qB
 bd:u.bd=fM 5∨u.bd=fM 7∨u.bd=fM 9
 secs:0≤u.secs∧u.secs≤36000
 rule:0≤u.rule∧u.rule≤3
theorem tX:qB.all (fun x=>decide (x.length≤12))=true:=by decide +kernel
theorem OB:qB.length=60:=by decide +kernel
theorem MD:au (bW px)=bW px:=by decide +kernel
theorem RY:au (bW Ew)=bW Ew:=by decide +kernel
theorem S9:au (bW Fv)=bW Fv:=by decide +kernel
theorem Nx:(bW px).all aK=true:=by decide +kernel
theorem TG:(bW Ew).all aK=true:=by decide +kernel
theorem Sb:(bW Fv).all aK=true:=by decide +kernel
theorem E9:(fM 5).prem.length =25∧(fM 5).cells.length =25:=by decide +kernel
theorem En:(fM 7).prem.length =49∧(fM 7).cells.length =49:=by decide +kernel
theorem Fp:(fM 9).prem.length =81∧(fM 9).cells.length =81:=by decide +kernel
section
variable {u:Su} {x:Int}
theorem mW.ok (h:mW u):suB u=true:=by
 unfold suB
 have h1:tsB u.ts=true:=by rcases h.ts with e | e | e<;>rw [e]<;>first | exact DZ | exact Qv | exact PD
 have h2:bdB u.bd=true∧ag u.bd=[]:=by rcases h.bd with e | e | e<;>rw [e]<;>first | exact G6 | exact Ht | exact Hx
 rw [h1,h.lex,G5,h2.1,h2.2,kC h.secs,kC h.rule];rfl
theorem mW.all (h:mW u):au (bW u.ts)=bW u.ts∧(bW u.ts).all aK=true∧14≤(bW u.ts).length ∧(bW u.ts).length ≤30:=by
 rcases h.ts with e | e | e<;>rw [e]
 ·exact⟨MD,Nx,by rw [zs];decide,by rw [zs];decide⟩
 ·exact⟨RY,TG,by rw [GU];decide,by rw [GU];decide⟩
 ·exact⟨S9,Sb,by rw [Gy];decide,by rw [Gy];decide⟩
theorem mW.b (h:mW u):SuB 1048576 u:=by
 refine⟨?_,?_,?_⟩
 ·rcases h.ts with e | e | e<;>rw [e]<;>exact⟨by decide,by decide,by decide⟩
 ·rw [h.lex]
  refine⟨by rw [OB];decide,fun k=>?_⟩
  rw [List.getD_eq_getElem?_getD]
  cases hk:qB[k.toNat]? with
  | none=>exact (by decide:((0:Nat):Int)≤1048576)
  | some y=>
    have h1:=List.all_eq_true.1 tX y (List.mem_of_getElem? hk)
    have h2:y.length≤12:=of_decide_eq_true h1
    show ((y.length:Nat):Int)≤1048576
    omega
 ·rcases h.bd with e | e | e<;>rw [e]
  ·exact⟨by rw [E9.1];decide,by rw [E9.2];decide⟩
  ·exact⟨by rw [En.1];decide,by rw [En.2];decide⟩
  ·exact⟨by rw [Fp.1];decide,by rw [Fp.2];decide⟩
theorem mW.bgn (h:mW u) (hx:0≤x):jD u (jg (bW u.ts) x)=0:=by
 obtain⟨h1,h2,h3,h4⟩:=h.all
 have h5:bL (jg (bW u.ts) x)=true:=by
  unfold bL
  rw [HY hx h2,qg,decide_eq_true (by omega)];rfl
 unfold jD
 rw [if_pos (by rw [h.ok,h5];rfl),if_pos (by rw [←h1];exact jB fun c=>by rw [vg hx,bx]),if_neg (by rw [qg];omega)]
end
def srT:Nat×Ob→Option Src
 | (0,.cells [.rsl [.i .u8] c,.i .i64 a,.i .u64 s] t)=>if t=159 then some ⟨c,a,s⟩ else none
 | _=>none
theorem xA {x:Nat×Ob} {σ:Src} (h:srT x=some σ):x=(0,.cells (srK σ) 159):=by
 unfold srT at h
 split at h
 ·split at h
  ·rename_i ht
   cases h
   rw [ht];rfl
  ·cases h
 ·cases h
def mSN:je (Src×List Int):=⟨fun H l=>match H,l with
 | [x,y],[.ptr 0 0,.osl 1]=>match srT x,hN y with
   | some σ,some (1,L)=>some (σ,L)
   | _,_=>none
 | _,_=>none,fun a=>[(0,.cells (srK a.1) 159),(1,.own [.i .i64] a.2 2)],fun _=>[.ptr 0 0,.osl 1],fun H l a h=>by
   split at h
   ·split at h
    ·rename_i h0 h1
     cases h
     exact⟨by rw [xA h0,kT h1],rfl⟩
    ·cases h
   ·cases h⟩
def mSW:je (Src×List (List UInt8)):=⟨fun H l=>match H,l with
 | [x,y],[.ptr 0 0,.osl 1]=>match srT x,hW y with
   | some σ,some (1,L)=>some (σ,L)
   | _,_=>none
 | _,_=>none,fun a=>[(0,.cells (srK a.1) 159),(1,.own [.s] a.2 9)],fun _=>[.ptr 0 0,.osl 1],fun H l a h=>by
   split at h
   ·split at h
    ·rename_i h0 h1
     cases h
     exact⟨by rw [xA h0,yc h1],rfl⟩
    ·cases h
   ·cases h⟩
def jy (p:Pr):bX:=msp mSN (fun (σ,l)=>db 999999999000 σ∧1≤(l.length:Int)∧(l.length:Int)≤1048576) (fun (σ,l)=>.i .i64 (amV σ l)) (fun (σ,l)=>[(0,.cells (srK (pkS σ l.length)) 159),(1,.own [.i .i64] l 2)])
theorem tU:MOk Tryz.prog 66 (jy std):=by
 refine MOk.go (c:=cx std [] [(64,aj std)] 2) (ae .nil (.cons aL .nil)) mixed Tryz.func66 rfl rfl (by kernel_rfl) ?_
 rintro ⟨σ,l⟩ hp
 dsimp only at hp
 refine⟨rfl,?_⟩
 unfold aj
 generalize hP:std=p,hB0:amV=B0,hB1:pkV=B1,hB2:pkS=B2
 cbv
 repeat' first|refine fun (_:Unit)=>?_;cbv|refine aI2 (fun h=>?_) (fun h=>?_)<;>cbv|refine aI2 ?_ ?_|refine Or.inl (fun (_:Unit)=>?_);cbv
 all_goals subst hP hB0 hB1 hB2
 all_goals try exact fin
 all_goals exact⟨(ew hp.1).1,(ew hp.1).2.1 hp.2.1⟩
def pa (p:Pr):bX:=msp mSW (fun (σ,l)=>db 999999999000 σ∧1≤(l.length:Int)∧(l.length:Int)≤1048576) (fun (σ,l)=>.s (txV σ l)) (fun (σ,l)=>[(0,.cells (srK (pkS σ l.length)) 159),(1,.own [.s] l 9)])
theorem DQ:MOk Tryz.prog 193 (pa std):=by
 refine MOk.go (c:=cx std [] [(64,aj std)] 2) (ae .nil (.cons aL .nil)) mixed Tryz.func193 rfl rfl (by kernel_rfl) ?_
 rintro ⟨σ,l⟩ hp
 dsimp only at hp
 refine⟨rfl,?_⟩
 unfold aj
 generalize hP:std=p,hB0:txV=B0,hB1:pkV=B1,hB2:pkS=B2
 cbv
 repeat' first|refine fun (_:Unit)=>?_;cbv|refine aI2 (fun h=>?_) (fun h=>?_)<;>cbv|refine aI2 ?_ ?_|refine Or.inl (fun (_:Unit)=>?_);cbv
 all_goals subst hP hB0 hB1 hB2
 all_goals try exact fin
 all_goals exact⟨(ew hp.1).1,(ew hp.1).2.1 hp.2.1⟩
@[simp] theorem mA (σ:Src):Src.mk σ.code σ.pos σ.seed=σ:=rfl
def rS {β:Type} (A:Arg β):qw (Src×β):=⟨fun H l=>match l with
 | [x]=>hZ (Nn H) (A.rd x)
 | _=>none,fun a=>srH a.1,fun a=>A.enc a.2⟩
structure far (n:Int) (σ τ:Src):Prop where
 c:τ.code=σ.code
 s : ∀m,db m σ→db (m+n) τ
theorem ak (σ:Src) (n:Int):(pkS σ n).code =σ.code:=by
 unfold pkS
 split
 ·rfl
 ·split<;>rfl
theorem wI (σ:Src) (n:Int):far 2 σ (pkS σ n):=⟨ak σ n,fun _ h=>ai h n⟩
theorem uf {a b c:Int} {σ τ υ:Src} (h:far a σ τ) (k:far b τ υ) (hc:a+b≤c):far c σ υ:=⟨k.c.trans h.c,fun m h1=>(k.s _ (h.s _ h1)).le (by omega)⟩
theorem OU {m:Int} {σ:Src} {l:List Int} (h:db m σ) (hl:1≤(l.length:Int)):amV σ l∈l:=by
 have h1:=ew h (n:=(l.length:Int))
 have h2:=h1.2.1 hl
 have h3:(pkV σ l.length).toNat < l.length:=by omega
 unfold amV
 rw [List.getD_eq_getElem?_getD,List.getElem?_eq_getElem h3]
 exact List.getElem_mem h3
theorem O7 {m:Int} {σ:Src} (h:db m σ):SdP (amV σ [5,7,9]):=⟨by simpa using OU (l:=[5,7,9]) h (by decide)⟩
theorem KI {m n k:Int} {σ τ υ:Src} (h:db m σ) (h2:db n τ) (h3:db k υ) {t:TS} (ht:t=px∨t=Ew∨t=Fv):mW ⟨t,qB,fM (amV σ [5,7,9]),amV τ [0,60,600,1500],pkV υ 4⟩:=by
 refine⟨ht,rfl,?_,?_,?_⟩
 ·rcases (O7 h).n with e | e | e
  ·exact .inl (by show fM _=_;rw [e])
  ·exact .inr (.inl (by show fM _=_;rw [e]))
  ·exact .inr (.inr (by show fM _=_;rw [e]))
 ·have h4:amV τ [0,60,600,1500]=0∨amV τ [0,60,600,1500]=60∨amV τ [0,60,600,1500]=600∨amV τ [0,60,600,1500]=1500:=by simpa using OU (l:=[0,60,600,1500]) h2 (by decide)
  show 0≤amV τ [0,60,600,1500]∧amV τ [0,60,600,1500]≤36000
  omega
 ·have h5:=ew h3 (n:=4)
  have h6:=h5.2.1 (by decide)
  show 0≤pkV υ 4∧pkV υ 4≤3
  omega
theorem U4 (σ:Src) (a b c d:Int):far 20 σ (pkS (pkS (pkS (pkS σ a) b) c) d):=⟨by simp only [ak],fun _ h=>(ai (ai (ai (ai h a) b) c) d).le (by omega)⟩
def dM (_:Pr):d7:=nsp (mS a0) (fun (σ,_u)=>db 999999990000 σ) (fun (σ,_u)=>rS (aA aSu)) (fun (σ,_u) (τ,u)=>far 20 σ τ∧mW u)
theorem l7:NOk Tryz.prog 62 (dM std):=by
 refine NOk.go (c:=cxN std [(153,gT std),(154,gQ std),(155,pu std)] [(64,aj std),(66,jy std)] [] 1 (if false then some dU else none) []) (jk (.cons rE (.cons rr (.cons Dm .nil))) (.cons aL (.cons tU .nil)) .nil) mixed Tryz.func62 rfl rfl (by kernel_rfl) ?_
 rintro ⟨σ,_u⟩ hp
 dsimp only at hp
 refine⟨rfl,?_⟩
 unfold gT gQ pu aj jy
 generalize hP:std=p,hB0:pkS=B0,hB1:pkV=B1,hB2:amV=B2,hB3:fM=B3,hB4:qB=B4
 cbv
 repeat' first|refine fun (_:Unit)=>?_;cbv|refine aI2 (fun h=>?_) (fun h=>?_)<;>cbv|refine aI2 ?_ ?_|refine Or.inl (fun (_:Unit)=>?_);cbv
 all_goals subst hP hB0 hB1 hB2 hB3 hB4
 all_goals try exact fin
 all_goals (try simp only [mA,eD] at *)
 all_goals try exact Int.NonNeg.mk _
 all_goals first
  | exact hp.le (by decide)
  | exact (ai hp _).le (by decide)
  | exact (ai (ai hp _) _).le (by decide)
  | exact (ai (ai (ai hp _) _) _).le (by decide)
  | exact U4 σ _ _ _ _
  | exact O7 (ai hp _)
  | exact KI (ai hp _) (ai (ai hp _) _) (ai (ai (ai hp _) _) _) (.inl rfl)
  | exact KI (ai hp _) (ai (ai hp _) _) (ai (ai (ai hp _) _) _) (.inr (.inl rfl))
  | exact KI (ai hp _) (ai (ai hp _) _) (ai (ai (ai hp _) _) _) (.inr (.inr rfl))
  | skip
def sdB (σ:Src) (u:Su):List UInt8:=jg (bW u.ts) (pkV σ 60000)
end Ax
end Go.Proofs.YtjjonmhpgkahoaaGreatDoor
