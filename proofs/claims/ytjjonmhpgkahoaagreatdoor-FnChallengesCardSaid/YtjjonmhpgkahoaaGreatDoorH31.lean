/-
  Codes of actions, draws, ends, copies, of the impl package.
  Conditions: none.
-/
import Derived.Test.YtjjonmhpgkahoaaGreatDoorH25
import Derived.Test.YtjjonmhpgkahoaaGreatDoorH18
import Derived.Test.YtjjonmhpgkahoaaGreatDoorH16
import Derived.Test.YtjjonmhpgkahoaaGreatDoorH19
import Derived.Test.YtjjonmhpgkahoaaGreatDoorH30
set_option linter.unusedSimpArgs false
set_option linter.unusedVariables false
namespace Go.Proofs.YtjjonmhpgkahoaaGreatDoor
namespace Ax
set_option maxRecDepth 100000
set_option maxHeartbeats 2000000
structure GmF (g:Gm):Prop where
 s:g.scores.length=2
 k:g.clocks.length=2
 r:g.racks.length=2
 ply:inR g.player 0 1=true
 clk : ∀k:Int,0≤k→k<2→inR (g.clk k) (-36000) 36000=true
theorem KC {g:Gm} (h:az g=true):GmF g:=by
 unfold az kq bj at h
 simp only [Bool.and_eq_true,decide_eq_true_eq] at h
 refine⟨h.2.1.2.1,h.2.1.2.2.1,h.2.1.1,h.2.1.2.2.2.1,fun k h0 h1=>?_⟩
 have : k=0∨k=1:=by omega
 rcases this with rfl | rfl
 ·exact h.2.2.1.1.2.2
 ·exact h.2.2.1.2.2.2
theorem I7 {g:Gm} {n:Int} (h:az g=true) (ho:g.over=true):aO g n=10:=by
 unfold aO;rw [if_pos h,if_pos ho]
theorem PP {g:Gm} {n:Int} (h:az g=true) (ho:g.over=false) (hn:inR n 0 36000=false):aO g n=2:=by
 unfold aO;rw [if_pos h,if_neg (by rw [ho];simp),hn,if_neg (by simp)]
theorem PJ {g:Gm} {n:Int} (h:az g=true) (ho:g.over=false) (hn:std.ltI (g.clk g.player-n) (-36000)=true):aO g n=2:=by
 have h1:=ah hn
 unfold aO;rw [if_pos h,if_neg (by rw [ho];simp),decide_eq_false (by omega),Bool.and_false,if_neg (by simp)]
theorem LO {g:Gm} {n:Int} (h:az g=true) (ho:g.over=false) (hi:inR n 0 36000=true) (hn:std.ltI (g.clk g.player-n) (-36000)=false):aO g n=if inR (g.sc 0) (-50000) 50000&&inR (g.sc 1) (-50000) 50000 then 0 else 5:=by
 have h1:=ao hn
 unfold aO;rw [if_pos h,if_neg (by rw [ho];simp),hi,decide_eq_true (by omega)];rfl
theorem Sa {a b:Bool} {k:Int} (h0:0≤k) (h1:k<2) (ha:k=0→a=false) (hb:k=1→b=false):(if (a&&b)=true then (0:Int) else 5)=5:=by
 have : k=0∨k=1:=by omega
 rcases this with h | h
 ·rw [ha h];rfl
 ·rw [hb h,Bool.and_false];rfl
def eI (p:Pr):aa:=fsp (ac (aA aGm) (a1 aI)) (fun (g,n)=>GmQ g) (fun (g,n)=>.i .i64 (aO g n))
theorem ot:FOk Tryz.prog 99 (eI std):=by
 refine FOk.go (c:=cx std [(16,bO std),(83,bw std)] [] 0) (ae (.cons fk (.cons et .nil)) .nil) mixed Tryz.func99 rfl rfl rfl (by kernel_rfl) ?_
 rintro ⟨g,n⟩ hp
 dsimp only at hp
 refine⟨rfl,?_⟩
 unfold bO bw
 obtain⟨H,hH⟩ : ∃H:Hd (Int),H=⟨fun k=>0≤k∧k≤2∧(0<k→inR (g.scores.getD 0 0) (-50000) 50000=true)∧(1<k→inR (g.scores.getD 1 0) (-50000) 50000=true),fun k=>(2-k).toNat,(· < ·)⟩:=⟨_,rfl⟩
 have hl:=hdl hH
 generalize hP:std=p,hB0:aO=B0,hB1:az=B1,hB2:inR=B2
 cbv
 repeat' first|refine fun (_:Unit)=>?_;cbv|refine Or.inr ⟨33,[],[.s 32 (.i .i64)],[],[],H,rfl,hl,?_,fun (k:Int) hk=>?_⟩<;>cbv|refine aI2 (fun h=>?_) (fun h=>?_)<;>cbv|refine aI2 ?_ ?_
 all_goals subst hP hB0 hB1 hB2 hH
 all_goals clear hl
 all_goals try dsimp only at hk
 all_goals try dsimp only
 all_goals try exact fin
 all_goals try (have hf:=KC (show az g=true by assumption))
 all_goals try (have hpl:=br hf.ply)
 all_goals try (have hck:=br (hf.clk g.player hpl.1 (by omega)))
 all_goals try (have hn:=br (show inR n 0 36000=true by assumption))
 all_goals try (obtain⟨q0,q1,q2,q3⟩:=hk)
 all_goals try (have hss:=hf.s)
 all_goals try (have hlt:k<2:=by have h7:k<(g.scores.length:Int):=ah ‹_›;omega)
 all_goals try (have hge:2≤k:=by have h7:(g.scores.length:Int)≤k:=ao ‹_›;omega)
 ·unfold aO;rw [if_neg (by rw [show az g=false by assumption];simp)]
 ·rw [I7 ‹_› ‹_›]
 ·exact⟨hpl.1,by show g.player<(g.clocks.length:Int);have:=hf.k;omega⟩
 ·exact an (by show _≤g.clk g.player-n∧g.clk g.player-n≤_;omega)
 ·rw [PJ ‹_› ‹_› ‹_›]
 ·have hb:inR (g.sc k) (-50000) 50000=false:=by assumption
  rw [LO ‹_› ‹_› ‹_› ‹_›,Sa q0 hlt (fun e=>by rw [←e];exact hb) (fun e=>by rw [←e];exact hb)]
 ·have hb:inR (g.sc k) (-50000) 50000=true:=by assumption
  have : k=0∨k=1:=by omega
  rcases this with rfl | rfl
  ·exact⟨by decide,by decide,fun _=>hb,fun h=>absurd h (by decide)⟩
  ·exact⟨by decide,by decide,fun _=>q2 (by decide),fun _=>hb⟩
 ·show (2-(k+1)).toNat < (2-k).toNat
  omega
 ·have a0:inR (g.sc 0) (-50000) 50000=true:=q2 (by omega)
  have a1:inR (g.sc 1) (-50000) 50000=true:=q3 (by omega)
  rw [LO ‹_› ‹_› ‹_› ‹_›,a0,a1];rfl
 ·rw [PP ‹_› ‹_› ‹_›]
def tdI (a b:List UInt8):Int:=min (7-(b.length:Int)) (a.length:Int)
def nO (p:Pr):aa:=fsp (a1 aI) (fun n=>p.leP (-36000) n) (fun n=>.i .i64 (pen n))
theorem AU:FOk Tryz.prog 97 (nO std):=by
 refine FOk.go (c:=cx std [] [] 0) (ae .nil .nil) mixed Tryz.func97 rfl rfl rfl (by kernel_rfl) ?_
 rintro n hp
 refine⟨rfl,?_⟩
 generalize hP:std=p,hB0:pen=B0
 cbv
 repeat' first|refine fun (_:Unit)=>?_;cbv|refine aI2 (fun h=>?_) (fun h=>?_)<;>cbv|refine aI2 ?_ ?_|refine Or.inl (fun (_:Unit)=>?_);cbv
 all_goals subst hP hB0
 all_goals try exact fin
 ·simp [std] at h;simp [pen,h]
 ·simp [std] at h
  have h1 : ¬0≤n:=by omega
  have h2:(59-n).tdiv 60=(59-n)/60:=Int.tdiv_eq_ediv_of_nonneg (by omega)
  have h3:(0-n+59)=59-n:=by omega
  simp [std,pen,h1]
  first | (rw [←h2];congr 2;omega) | (rw [show -n+59=59-n by omega,h2]) | (rw [h3,h2])
def ek (p:Pr):aa:=fsp (a1 (aA aGm)) (fun g=>Es g) (fun g=>.osl 0) (fun g=>[(0,.own [.i .i64] (fK g) 2)])
theorem na:FOk Tryz.prog 94 (ek std):=by
 refine FOk.go (c:=cx std [(190,iQ std),(97,nO std)] [] 0) (ae (.cons sE (.cons AU .nil)) .nil) mixed Tryz.func94 rfl rfl rfl (by kernel_rfl) ?_
 rintro g hp
 refine⟨rfl,?_⟩
 unfold iQ nO
 obtain⟨H,hH⟩ : ∃H:Hd (Int×List Int),H=⟨fun (k,L)=>0≤k∧k≤2∧L=(fK g).take k.toNat,fun (k,L)=>(2-k).toNat,(· < ·)⟩:=⟨_,rfl⟩
 have hl:=hdl hH
 generalize hP:std=p,hB0:fK=B0,hB1:dB=B1,hB2:pen=B2
 cbv
 repeat' first|refine fun (_:Unit)=>?_;cbv|refine Or.inr ⟨12,[],[.s 11 (.i .i64),.o 1 [.i .i64]],[.s 3],[],H,rfl,hl,?_,fun ((k,L):Int×List Int) hk=>?_⟩<;>cbv|refine aI2 (fun h=>?_) (fun h=>?_)<;>cbv|refine aI2 ?_ ?_
 all_goals subst hP hB0 hB1 hB2 hH
 all_goals clear hl
 all_goals try dsimp only at hk
 all_goals try dsimp only
 all_goals try exact fin
 all_goals obtain⟨q0,q1,rfl⟩:=hk
 all_goals have a1:=zp hp k
 all_goals have a2:=LC hp k
 all_goals have a3:=zp hp (1-k)
 all_goals have a4:=hp.rk
 all_goals have a5:=hp.ck
 all_goals have a6:=hp.len k
 all_goals have a7:=hp.len (1-k)
 all_goals have a8:=hp.clk k
 all_goals try (have h1:k<2:=by have h7:k<(g.racks.length:Int):=ah ‹_›;omega)
 ·exact aR (n:=(g.rk k).length) (by omega)
 ·exact an (by show _≤0-dB g.ts (g.rk k)∧0-dB g.ts (g.rk k)≤_;omega)
 ·exact⟨q0,by show k<(g.clocks.length:Int);omega⟩
 ·exact a8
 ·exact an (by show _≤0-dB g.ts (g.rk k)-pen (g.clk k)∧0-dB g.ts (g.rk k)-pen (g.clk k)≤_;omega)
 ·exact⟨by show 0≤1-k;omega,by show 1-k<(g.racks.length:Int);omega⟩
 ·exact aR (n:=(g.rk (1-k)).length) (by omega)
 ·exact an (by show _≤0-dB g.ts (g.rk k)-pen (g.clk k)+dB g.ts (g.rk (1-k))∧0-dB g.ts (g.rk k)-pen (g.clk k)+dB g.ts (g.rk (1-k))≤_;omega)
 ·show (((fK g).take k.toNat).length : Int)+1≤_
  rw [List.length_take];omega
 ·refine⟨by show 0≤k+1;omega,by show k+1≤2;omega,?_⟩
  show (fK g).take k.toNat++[0-dB g.ts (g.rk k)-pen (g.clk k)+dB g.ts (g.rk (1-k))]=(fK g).take (k+1).toNat
  rw [OC (k:=k) ‹_›,p6 q0 h1]
 ·show (2-(k+1)).toNat < (2-k).toNat
  omega
 ·show (((fK g).take k.toNat).length : Int)+1≤_
  rw [List.length_take];omega
 ·refine⟨by show 0≤k+1;omega,by show k+1≤2;omega,?_⟩
  show (fK g).take k.toNat++[0-dB g.ts (g.rk k)-pen (g.clk k)]=(fK g).take (k+1).toNat
  rw [TB (k:=k) ‹_›,p6 q0 h1]
 ·show (2-(k+1)).toNat < (2-k).toNat
  omega
 ·have h7:(g.racks.length:Int)≤k:=ao ‹_›
  rw [bZ (show ((fK g).length : Int)≤k by show (2:Int)≤k;omega)]
def frR (a b:List UInt8):List UInt8:=if bL a&&aM b then d6 (ay (b++a.take (tdI a b).toNat)) else []
def frB (a b:List UInt8):List UInt8:=if bL a&&aM b then a.drop (tdI a b).toNat else []
structure TcP (t:TS):Prop where
 v:(t.values.length:Int)≤1073741824
 c:(t.counts.length:Int)≤1073741824
def kS (p:Pr):aa:=fsp (a1 (aA aTs)) (fun t=>TcP t) (fun t=>.agg (tsK t (.osl 0) (.osl 1))) (fun t=>[(0,.own [.i .i64] t.values 2),(1,.own [.i .i64] t.counts 2)])
theorem yk:FOk Tryz.prog 169 (kS std):=by
 refine FOk.go (c:=cx std [(209,mT std)] [] 0) (ae (.cons zA .nil) .nil) mixed Tryz.func169 rfl rfl rfl (by kernel_rfl) ?_
 rintro t hp
 refine⟨rfl,?_⟩
 unfold mT
 generalize hP:std=p
 cbv
 repeat' first|refine fun (_:Unit)=>?_;cbv|refine aI2 (fun h=>?_) (fun h=>?_)<;>cbv|refine aI2 ?_ ?_|refine Or.inl (fun (_:Unit)=>?_);cbv
 all_goals subst hP
 all_goals try exact fin
 ·exact hp.v
 ·exact hp.c
def ji (p:Pr):aa:=fsp (a1 (aA wN)) (fun ws=>p.leP (p.len ws) 1073741824) (fun ws=>.agg [.osl 0]) (fun ws=>[(0,.own [.s] ws 9)])
theorem um:FOk Tryz.prog 170 (ji std):=by
 refine FOk.go (c:=cx std [(208,mV std)] [] 0) (ae (.cons Ae .nil) .nil) mixed Tryz.func170 rfl rfl rfl (by kernel_rfl) ?_
 rintro ws hp
 refine⟨rfl,?_⟩
 unfold mV
 generalize hP:std=p
 cbv
 repeat' first|refine fun (_:Unit)=>?_;cbv|refine aI2 (fun h=>?_) (fun h=>?_)<;>cbv|refine aI2 ?_ ?_|refine Or.inl (fun (_:Unit)=>?_);cbv
 all_goals subst hP
 all_goals try exact fin
structure SuC (u:Su):Prop where
 ts:TcP u.ts
 l:(u.lex.length:Int)≤1073741824
def kM (p:Pr):aa:=fsp (a1 (aA aSu)) (fun u=>SuC u) (fun u=>.agg (suK u (.osl 0) (.osl 1) (.osl 2))) (fun u=>[(0,.own [.i .i64] u.ts.values 2),(1,.own [.i .i64] u.ts.counts 2),(2,.own [.s] u.lex 9)])
theorem xh:FOk Tryz.prog 71 (kM std):=by
 refine FOk.go (c:=cx std [(169,kS std),(170,ji std)] [] 0) (ae (.cons yk (.cons um .nil)) .nil) mixed Tryz.func71 rfl rfl rfl (by kernel_rfl) ?_
 rintro u hp
 refine⟨rfl,?_⟩
 unfold kS ji
 generalize hP:std=p
 cbv
 repeat' first|refine fun (_:Unit)=>?_;cbv|refine aI2 (fun h=>?_) (fun h=>?_)<;>cbv|refine aI2 ?_ ?_|refine Or.inl (fun (_:Unit)=>?_);cbv
 all_goals subst hP
 all_goals try exact fin
 ·exact hp.l
structure GcP (g:Gm):Prop where
 su:SuC (gSu g)
 r:(g.racks.length:Int)≤1073741824
 s:(g.scores.length:Int)≤1073741824
 k:(g.clocks.length:Int)≤1073741824
def gh (p:Pr):aa:=fsp (a1 (aA aGm)) (fun g=>GcP g) (fun g=>.ptr 0 0) (fun g=>gmH g)
theorem qR:FOk Tryz.prog 114 (gh std):=by
 refine FOk.go (c:=cx std [(71,kM std),(209,mT std),(208,mV std)] [] 0) (ae (.cons xh (.cons zA (.cons Ae .nil))) .nil) mixed Tryz.func114 rfl rfl rfl (by kernel_rfl) ?_
 rintro g hp
 refine⟨rfl,?_⟩
 unfold kM mT mV
 generalize hP:std=p
 cbv
 repeat' first|refine fun (_:Unit)=>?_;cbv|refine aI2 (fun h=>?_) (fun h=>?_)<;>cbv|refine aI2 ?_ ?_|refine Or.inl (fun (_:Unit)=>?_);cbv
 all_goals subst hP
 all_goals try exact fin
 all_goals first | exact hp.su | exact hp.r | exact hp.s | exact hp.k | skip
def xo (g:Gm) (b:Bool):List Int:=if b then fN g else g.scores
def ovB (g:Gm) (b:Bool):Bool:=g.over||b
def tO (g:Gm) (k:Int):List Int:=[if 0<k then g.sc 0+chg g 0 else g.sc 0,if 1<k then g.sc 1+chg g 1 else g.sc 1]
structure QG (g:Gm) (b:Bool):Prop where
 s:b=true→rZ g
theorem Ko {L:List Int} (h:L.length=2):L=[L.getD 0 0,L.getD 1 0]:=by
 match L,h with
 | [a,b],_=>rfl
theorem PT {g:Gm} (h:g.scores.length=2):g.scores=tO g 0:=Ko h
theorem QI (g:Gm) {k:Int} (h:2≤k):tO g k=fN g:=by
 unfold tO fN
 rw [if_pos (by omega),if_pos (by omega)]
theorem Re (g:Gm) {k:Int} (h0:0≤k) (h1:k<2):(tO g k).set k.toNat ((tO g k).getD k.toNat 0+(fK g).getD k.toNat 0)=tO g (k+1):=by
 have : k=0∨k=1:=by omega
 rcases this with rfl | rfl<;>simp [tO,fK]
theorem PH {g:Gm} (h:rZ g) {k:Int} (h0:0≤k) (h1:k<2) : -9223372036854775808≤(tO g k).getD k.toNat 0+(fK g).getD k.toNat 0∧(tO g k).getD k.toNat 0+(fK g).getD k.toNat 0≤9223372036854775807:=by
 have : k=0∨k=1:=by omega
 have a0:=vY h 0
 have a1:=vY h 1
 rcases this with rfl | rfl
 ·simpa [tO,fK] using a0
 ·simpa [tO,fK] using a1
def dN (p:Pr):bX:=msp (mG (a1 aB)) (fun (g,b)=>QG g b) (fun (g,b)=>.tup []) (fun (g,b)=>gmH { g with scores:=xo g b,over:=ovB g b })
theorem l6:MOk Tryz.prog 101 (dN std):=by
 refine MOk.go (c:=cx std [(94,ek std)] [] 7) (ae (.cons na .nil) .nil) mixed Tryz.func101 rfl rfl (by kernel_rfl) ?_
 rintro ⟨g,b⟩ hp
 dsimp only at hp
 refine⟨rfl,?_⟩
 unfold ek
 obtain⟨H,hH⟩ : ∃H:Hd (Int×List Int),H=⟨fun (k,L)=>0≤k∧k≤2∧L=tO g k,fun (k,L)=>(2-k).toNat,(· < ·)⟩:=⟨_,rfl⟩
 have hl:=hdl hH
 generalize hP:std=p,hB0:fK=B0,hB1:xo=B1,hB2:tO=B2,hB3:ovB=B3
 cbv
 repeat' first|refine fun (_:Unit)=>?_;cbv|refine Or.inr ⟨14,[],[.s 13 (.i .i64),.o 5 [.i .i64]],[],[],H,rfl,hl,?_,fun ((k,L):Int×List Int) hk=>?_⟩<;>cbv|refine aI2 (fun h=>?_) (fun h=>?_)<;>cbv|refine aI2 ?_ ?_
 all_goals subst hP hB0 hB1 hB2 hB3 hH
 all_goals clear hl
 all_goals try dsimp only at hk
 all_goals try dsimp only
 all_goals try exact fin
 ·unfold ovB;rw [show b=false by assumption,Bool.or_false]
 ·unfold xo;rw [show b=false by assumption];rfl
 all_goals (have hs:=hp.s ‹_›)
 ·exact hs.en
 ·exact⟨Int.le_refl 0,by decide,PT hs.len⟩
 all_goals obtain⟨q0,q1,rfl⟩:=hk
 all_goals try (have hlt:k<2:=ah ‹_›)
 ·exact⟨q0,hlt⟩
 ·exact⟨q0,hlt⟩
 ·exact an (PH hs q0 hlt)
 ·exact⟨q0,hlt⟩
 ·exact⟨q0,hlt⟩
 ·exact⟨by show 0≤k+1;omega,by show k+1≤2;omega,Re g q0 hlt⟩
 ·show (2-(k+1)).toNat < (2-k).toNat
  omega
 ·unfold ovB;rw [show b=true by assumption,Bool.or_true]
 ·have hge:(2:Int)≤k:=ao ‹_›
  unfold xo;rw [show b=true by assumption,QI g hge];rfl
structure GcL (g:Gm):Prop where
 v:(g.ts.values.length:Int)≤1073741824
 c:(g.ts.counts.length:Int)≤1073741824
 l:(g.lex.length:Int)≤1073741824
 r:(g.racks.length:Int)≤1073741824
 s:(g.scores.length:Int)≤1073741824
 k:(g.clocks.length:Int)≤1073741824
structure PtP (g:Gm) (q:Pl):Prop where
 gm:GmQ g
 wl:(q.word.length:Int)≤1073741824
 cp:GcL g
def JB (g:Gm) (q:Pl):Int:=bY g.ts g.bd q
def TL (g:Gm) (q:Pl):List UInt8:=frR g.bag (bi g q)
def Vh (g:Gm) (q:Pl):List UInt8:=frB g.bag (bi g q)
def VV (g:Gm) (q:Pl):List UInt8:=g.bag.take (tdI g.bag (bi g q)).toNat
def UE (g:Gm) (q:Pl):List (List UInt8):=g.racks.set g.player.toNat (TL g q)
def Vg (g:Gm) (q:Pl):List Int:=g.scores.set g.player.toNat (g.sc g.player+JB g q)
def Uw (g:Gm) (n:Int):List Int:=g.clocks.set g.player.toNat (g.clk g.player-n)
def Ve (g:Gm) (q:Pl):Bd:=ar g.bd q
def p1 (g:Gm) (q:Pl) (n:Int):Gm:=⟨g.ts,g.lex,g.bd0,g.secs,g.rule,Ve g q,Vh g q,UE g q,Vg g q,Uw g n,1-g.player,0,⟨1,g.player,q,g.bd.cells,VV g q,JB g q,g.zeros⟩,g.over⟩
section
variable {g:Gm} {q:Pl} {n:Int}
theorem AT {ws:List (List UInt8)} (h:lexB ws=true):LxP ws:=by
 unfold lexB at h
 rw [Bool.and_eq_true,decide_eq_true_eq,GI,Bool.and_eq_true] at h
 exact⟨by rw [wy];exact h.1.1,by omega⟩
end
structure TsB (n:Int) (t:TS):Prop where
 l:(t.letters.length:Int)≤n
 v:(t.values.length:Int)≤n
 c:(t.counts.length:Int)≤n
structure BdB (n:Int) (b:Bd):Prop where
 p:(b.prem.length:Int)≤n
 c:(b.cells.length:Int)≤n
structure WsB (n:Int) (ws:List (List UInt8)):Prop where
 l:(ws.length:Int)≤n
 w : ∀k:Int,((ws.getD k.toNat []).length : Int)≤n
structure GmB (n:Int) (g:Gm):Prop where
 ts:TsB n g.ts
 lx:WsB n g.lex
 b0:BdB n g.bd0
 bd:BdB n g.bd
 bag:(g.bag.length:Int)≤n
 rk:WsB n g.racks
 sc:(g.scores.length:Int)≤n
 ck:(g.clocks.length:Int)≤n
 wd:(g.last.play.word.length:Int)≤n
 bf:(g.last.before.length:Int)≤n
 dr:(g.last.drawn.length:Int)≤n
theorem GmB.n {n:Int} {g:Gm} (h:GmB n g) (hn:n≤1048576):GmN g:=by
 have:=h.ts.v;have:=h.ts.c;have:=h.lx.l;have:=h.rk.l;have:=h.sc;have:=h.ck
 exact⟨⟨⟨by show (g.ts.values.length:Int)≤_;omega,by show (g.ts.counts.length:Int)≤_;omega⟩,by show (g.lex.length:Int)≤_;omega⟩,by omega,by omega,by omega⟩
theorem Fd {n:Int} {b:Bd} (h:BdB n b) (hn:n≤1048576):BdP b:=⟨by have:=h.p;omega,by have:=h.c;omega⟩
theorem Qk {n:Int} {t:TS} (h:TsB n t) (hn:n≤1048576):TsL t:=⟨by have:=h.l;omega,by have:=h.v;omega,by have:=h.c;omega⟩
theorem OZ {n:Int} {g:Gm} (h:GmB n g) (hn:n≤1048576):BdP g.bef:=⟨by have:=h.bd.p;show g.bd.prem.length≤_;omega,by have:=h.bf;show g.last.before.length≤_;omega⟩
theorem GmB.q {n:Int} {g:Gm} {q:Pl} (h:GmB n g) (hn:n≤1048576) (hq:(q.word.length:Int)≤n):PtP g q:=by
 have h1:=h.ts;have:=h1.v;have:=h1.c;have:=h.lx.l;have:=h.rk.l;have:=h.sc;have:=h.ck;have:=h.wd;have:=h.bag;have:=h.dr
 exact⟨⟨⟨Qk h.ts hn,⟨by show g.lex.length≤_;omega,fun k=>by have:=h.lx.w k;show (g.lex.getD k.toNat []).length ≤_;omega⟩,Fd h.b0 hn⟩,Fd h.bd hn,by omega,fun k=>by have:=h.rk.w k;omega,by omega,by omega,OZ h hn⟩,by omega,⟨by omega,by omega,by omega,by omega,by omega,by omega⟩⟩
theorem GmB.s {n:Int} {g:Gm} {q:Pl} (h:GmB n g) (hn:n≤1048576) (hq:(q.word.length:Int)≤n):ER g q:=by
 have h1:=h.ts;have:=h1.v;have:=h1.c;have:=h.lx.l;have:=h.rk.l;have:=h.sc;have:=h.ck;have:=h.wd;have:=h.bag;have:=h.dr
 exact⟨⟨⟨Qk h.ts hn,⟨by show g.lex.length≤_;omega,fun k=>by have:=h.lx.w (k:Int);rw [Int.toNat_natCast] at this;show (g.lex.getD k []).length ≤_;omega⟩,Fd h.b0 hn⟩,Fd h.bd hn,by omega,fun k=>by have:=h.rk.w k;show (g.racks.getD k.toNat []).length ≤_;omega,OZ h hn,by omega,by omega⟩,by omega,⟨⟨by show g.ts.values.length≤_;omega,by show g.ts.counts.length≤_;omega,by show g.lex.length≤_;omega⟩,by omega,by omega,by omega⟩⟩
def o6 (x:Int):Int:=(x*1103515245+12345)%2147483648
def swp (L:List UInt8) (i k:Nat):List UInt8:=(L.set i (L.getD k 0)).set k (L.getD i 0)
def ox:Nat→Int→List UInt8→List UInt8
 | 0,_,L=>L
 | i+1,x,L=>ox i (o6 x) (swp L (i+1) ((o6 x/65536)%((i:Int)+2)).toNat)
def jg (s:List UInt8) (x:Int):List UInt8:=ox (s.length-1) x s
theorem wa (L:List UInt8) (i k:Nat):(swp L i k).length =L.length:=by unfold swp;rw [List.length_set,List.length_set]
theorem Ad : ∀(i:Nat) (x:Int) (L:List UInt8),(ox i x L).length =L.length
 | 0,_,_=>rfl
 | i+1,x,L=>by rw [ox,Ad,wa]
theorem AX {x:Int} (h:0≤x):0≤o6 x∧o6 x<2147483648:=by unfold o6;omega
theorem Ig {i x:Int} {L:List UInt8} (h:0<i):ox i.toNat x L=ox (i-1).toNat (o6 x) (swp L i.toNat ((o6 x/65536)%(i+1)).toNat):=by
 obtain⟨j,rfl⟩ : ∃j:Nat,i=(j:Int)+1:=⟨(i-1).toNat,by omega⟩
 rw [show ((j:Int)+1).toNat =j+1 by omega,show ((j:Int)+1-1).toNat =j by omega,ox]
 congr 2
theorem HW (L:List UInt8) {i k:Nat} (hi:i<L.length) (hk:k<L.length) (c:UInt8):(swp L i k).count c=L.count c:=by
 unfold swp
 rw [List.getD_eq_getElem?_getD,List.getElem?_eq_getElem hk,List.getD_eq_getElem?_getD,List.getElem?_eq_getElem hi,Option.getD_some,Option.getD_some]
 rw [List.count_set (by rw [List.length_set];exact hk),List.count_set hi,List.getElem_set]
 have h1 : ∀j (hj:j<L.length),L[j]=c→0<L.count c:=fun j hj e=>List.count_pos_iff.2 (e ▸ List.getElem_mem hj)
 by_cases e:i=k
 ·subst e
  rw [if_pos rfl]
  by_cases h2:L[i]=c
  ·have:=h1 i hi h2
   simp [h2];omega
  ·simp [h2]
 ·rw [if_neg e]
  by_cases h2:L[i]=c<;>by_cases h3:L[k]=c
  ·have:=h1 i hi h2
   simp [h2,h3];omega
  ·have:=h1 i hi h2
   simp [h2,h3];omega
  ·have:=h1 k hk h3
   simp [h2,h3]
  ·simp [h2,h3]
theorem uR : ∀(i:Nat) (x:Int) (L:List UInt8),0≤x→i<L.length∨i=0→∀c,(ox i x L).count c=L.count c
 | 0,_,_,_,_,_=>rfl
 | i+1,x,L,hx,hi,c=>by
   have h1:=AX hx
   have h2:((o6 x/65536)%((i:Int)+2)).toNat < i+2:=by
    have:=Int.emod_nonneg (o6 x/65536) (show (i:Int)+2≠0 by omega)
    have:=Int.emod_lt_of_pos (o6 x/65536) (show 0<(i:Int)+2 by omega)
    omega
   have h3:i+1<L.length:=hi.resolve_right (by omega)
   rw [ox,uR i _ _ h1.1 (.inl (by rw [wa];omega)) c,HW L h3 (by omega)]
theorem vg {s:List UInt8} {x:Int} (h:0≤x) (c:UInt8):(jg s x).count c=s.count c:=by
 unfold jg
 refine uR _ _ _ h ?_ c
 cases s with
 | nil=>exact .inr rfl
 | cons y l=>exact .inl (by simp)
theorem qg (s:List UInt8) (x:Int):(jg s x).length =s.length:=Ad _ _ _
theorem HY {s:List UInt8} {x:Int} (h:0≤x) {p:UInt8→Bool} (hs:s.all p=true):(jg s x).all p=true:=by
 rw [List.all_eq_true] at hs ⊢
 intro c hc
 refine hs c (List.count_pos_iff.1 ?_)
 rw [←vg h c]
 exact List.count_pos_iff.2 hc
def EY (u:Su) (b:List UInt8):Gm:=⟨u.ts,u.lex,u.bd,u.secs,u.rule,u.bd,b.drop 14,[au (b.take 7),au ((b.take 14).drop 7)],[0,0],[u.secs,u.secs],0,0,⟨0,0,⟨0,0,false,[]⟩,[],[],0,0⟩,false⟩
def jD (u:Su) (b:List UInt8):Int:=if suB u&&bL b then (if au b=bW u.ts then (if b.length<14 then 6 else 0) else 2) else 1
def vz (u:Su) (b:List UInt8):Gm:=if jD u b=0 then EY u b else gm0
@[reducible] def M6:List aw:=[.i .i64,.i .i64,.i .i64,.b,.s,.s,.i .i64]
structure Rcd where
 seed:Int
 acts:List (El M6)
def acE (x:El M6):Ac:=⟨x.1,⟨x.2.1,x.2.2.1,x.2.2.2.1,x.2.2.2.2.1⟩,x.2.2.2.2.2.1,x.2.2.2.2.2.2⟩
def rcT (r:Rcd):Bool:=inR r.seed 0 2147483647&&decide (r.acts.length≤200)
def rcA (l:List (El M6)):Bool:=l.all fun x=>VX (acE x)
def rcB (r:Rcd):Bool:=rcA r.acts&&rcT r
def IO:Gm→List (El M6)→List Gm×List Int×Int
 | _,[]=>([],[],0)
 | g,x::l=>if doC g (acE x)=0 then (doG g (acE x)::(IO (doG g (acE x)) l).1,doP g (acE x)::(IO (doG g (acE x)) l).2.1,(IO (doG g (acE x)) l).2.2) else ([],[],doC g (acE x))
def bgC (u:Su) (r:Rcd):Int:=if suB u&&rcB r then jD u (jg (bW u.ts) r.seed) else 1
def bgG (u:Su) (r:Rcd):Gm:=EY u (jg (bW u.ts) r.seed)
def crI (u:Su) (r:Rcd):Int:=if bgC u r=0 then (if (IO (bgG u r) r.acts).2.2=0 then -1 else ((IO (bgG u r) r.acts).1.length : Int)) else 0
end Ax
end Go.Proofs.YtjjonmhpgkahoaaGreatDoor
