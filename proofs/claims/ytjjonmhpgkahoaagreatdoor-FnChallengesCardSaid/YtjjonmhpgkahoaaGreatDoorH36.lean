/-
  The plain walker: a bounded result that is one value after all is told.
  Conditions: none.
-/
import Derived.Test.YtjjonmhpgkahoaaGreatDoorH10
import Derived.Test.YtjjonmhpgkahoaaGreatDoorH16
import Derived.Test.YtjjonmhpgkahoaaGreatDoorH31
import Derived.Test.YtjjonmhpgkahoaaGreatDoorH30
import Derived.Test.YtjjonmhpgkahoaaGreatDoorH23
import Derived.Test.YtjjonmhpgkahoaaGreatDoorH32
set_option linter.unusedSimpArgs false
set_option linter.unusedVariables false
namespace Go.Proofs.YtjjonmhpgkahoaaGreatDoor
namespace Ax
section
variable {P:Program} {g:FuncId} {α β:Type}
end
set_option maxRecDepth 100000
set_option maxHeartbeats 4000000
def kQ (g:Gm):List (List UInt8):=dC g.bef g.last.play
def fB (g:Gm):List (List UInt8):=bM g.lex (dC g.bef g.last.play)
def iUp (g:Gm):Bool:=!(fB g).isEmpty
def oy (g:Gm):Int:=if iUp g then 0-g.last.score else if g.rule=3 then 5*((kQ g).length : Int) else 0
def ou (g:Gm):List UInt8:=lL (g.rk g.last.player) g.last.drawn
def yv (g:Gm):List UInt8:=cb (aD g.bef g.last.play)
def vk (g:Gm):List (List UInt8):=g.racks.set g.last.player.toNat (d6 (ay (ou g++yv g)))
def iw1 (g:Gm):Gm:=⟨g.ts,g.lex,g.bd0,g.secs,g.rule,⟨g.bd.size,g.bd.prem,g.last.before⟩,oA g,vk g,wSc g,g.clocks,g.player,g.last.zeros+1,dA 3 g.last.player,g.over⟩
def iSs (g:Gm):List Int:=xo (iw1 g) (g.last.zeros+1==6)
def iOv (g:Gm):Bool:=ovB (iw1 g) (g.last.zeros+1==6)
def iRf (g:Gm) (k:Int):Gm:={ rf1 g k with scores:=xo (rf1 g k) (aT g),over:=ovB (rf1 g k) (aT g) }
structure VeP (g:Gm):Prop where
 vp:VP g.bef g.last.play
 lx:LxP g.lex
 sc : -1000000≤g.last.score∧g.last.score≤1000000
 ok:Go.Proofs.YtjjonmhpgkahoaaGreatDoor.okB g.bef g.last.play=true
structure WiP (g:Gm):Prop where
 vp:VP g.bef g.last.play
 r2:g.racks.length=2
 s2:g.scores.length=2
 p:0≤g.last.player∧g.last.player≤1
 st:StP (g.rk g.last.player)
 sd:StP g.last.drawn
 rl:(ou g).length ≤7
 sp:StP (ou g++yv g)
 dr:g.last.drawn.length≤120
 bag:g.bag.length≤120
 sc : -1000000≤g.sc g.last.player∧g.sc g.last.player≤1000000
 so : -1000000≤g.last.score∧g.last.score≤1000000
 z:0≤g.last.zeros∧g.last.zeros≤5
 set:QG (iw1 g) (g.last.zeros+1==6)
structure RfP (g:Gm) (k:Int):Prop where
 r2:g.racks.length=2
 s2:g.scores.length=2
 ply:inR g.player 0 1=true
 p:0≤g.last.player∧g.last.player≤1
 sc : -1000000≤g.sc g.last.player∧g.sc g.last.player≤1000000
 kb : -1000000≤k∧k≤1000000
 z:0≤g.zeros∧g.zeros≤100
 set : ∀(p z:Int) (l:La),QG ⟨g.ts,g.lex,g.bd0,g.secs,g.rule,g.bd,g.bag,g.racks,rSc g k,g.clocks,p,z,l,g.over⟩ (aT g)
section
variable {g:Gm} {k:Int}
theorem HI:std.ltI 0 (std.len (fB g))=iUp g:=by
 unfold iUp
 show decide ((0:Int)<((fB g).length : Int))=_
 cases fB g with
 | nil=>rfl
 | cons x r=>simp
theorem SE (h:std.ltI 0 (std.len (fB g))=true):0-g.last.score=oy g:=by
 rw [HI] at h
 rw [oy,if_pos h]
theorem QY (h:std.ltI 0 (std.len (fB g))=false) (h2:std.eqI g.rule 3=true):5*((kQ g).length : Int)=oy g:=by
 rw [HI] at h
 rw [oy,h,if_neg (by simp),if_pos (beq_iff_eq.1 h2)]
theorem U5 (h:std.ltI 0 (std.len (fB g))=false) (h2:std.eqI g.rule 3=false):0=oy g:=by
 rw [HI] at h
 rw [oy,h,if_neg (by simp),if_neg (beq_eq_false_iff_ne.1 h2)]
theorem MO (h:VP g.bef g.last.play) (ho:Go.Proofs.YtjjonmhpgkahoaaGreatDoor.okB g.bef g.last.play=true):(dC g.bef g.last.play).length ≤13:=by
 have h1:OnR (af g.bef g.last.play) (ab g.last.play):=(my ho).on
 rw [←nN h.bd h.on h.lett]
 have h2:=pU g.bef g.last.play
 rw [da] at h2
 have:=h.hi
 omega
def rfJ (g:Gm) (k p z:Int) (l:La):Gm:=⟨g.ts,g.lex,g.bd0,g.secs,g.rule,g.bd,g.bag,g.racks,rSc g k,g.clocks,p,z,l,g.over⟩
theorem V3 (h:std.eqI g.rule 2=true):rf1 g k=rfJ g k (1-g.player) (g.zeros+1) (dA 3 g.player):=by
 have e:g.rule=2:=beq_iff_eq.1 h
 unfold rf1
 rw [if_pos e,if_pos e,if_pos e];rfl
theorem Vw (h:std.eqI g.rule 2=false):rf1 g k=rfJ g k g.player g.zeros (dA 0 0):=by
 have e : ¬g.rule=2:=beq_eq_false_iff_ne.1 h
 unfold rf1
 rw [if_neg e,if_neg e,if_neg e];rfl
theorem IV {p z:Int} {l:La} (e:rf1 g k=rfJ g k p z l):iRf g k={ rfJ g k p z l with scores:=xo (rfJ g k p z l) (aT g),over:=ovB (rfJ g k p z l) (aT g) }:=by
 unfold iRf
 rw [e]
end
def aH (p:Pr):aa:=fsp (a1 (aA aGm)) (fun g=>True) (fun g=>.b (eN g))
theorem cz:FOk Tryz.prog 138 (aH std):=by
 refine FOk.go (c:=cx std [] [] 0) (ae .nil .nil) mixed Tryz.func138 rfl rfl rfl (by kernel_rfl) ?_
 rintro g hp
 refine⟨rfl,?_⟩
 generalize hP:std=p,hB0:eN=B0
 cbv
 repeat' first|refine fun (_:Unit)=>?_;cbv|refine aI2 (fun h=>?_) (fun h=>?_)<;>cbv|refine aI2 ?_ ?_|refine Or.inl (fun (_:Unit)=>?_);cbv
 all_goals subst hP hB0
 all_goals try exact fin
 ·have e1:g.over=false:=by assumption
  have e2:(g.rule==0)=false:=h
  unfold eN;rw [e1,e2];rfl
 ·have e2:(g.rule==0)=true:=h
  unfold eN;rw [e2];simp
 ·unfold eN;rw [show g.over=true from h];rfl
def bI (p:Pr):aa:=fsp (a1 (aA aGm)) (fun g=>VeP g) (fun g=>.agg [.osl 0,.osl 1,.b (iUp g),.i .i64 (oy g)]) (fun g=>[(0,.own [.s] (kQ g) 9),(1,.own [.s] (fB g) 9)])
theorem eY:FOk Tryz.prog 140 (bI std):=by
 refine FOk.go (c:=cx std [(205,gP std),(206,iV std)] [] 0) (ae (.cons kO (.cons tw .nil)) .nil) mixed Tryz.func140 rfl rfl rfl (by kernel_rfl) ?_
 rintro g hp
 refine⟨rfl,?_⟩
 unfold gP iV
 generalize hP:std=p,hB0:iUp=B0,hB1:oy=B1,hB2:kQ=B2,hB3:fB=B3,hB4:dC=B4,hB5:bM=B5
 cbv
 repeat' first|refine fun (_:Unit)=>?_;cbv|refine aI2 (fun h=>?_) (fun h=>?_)<;>cbv|refine aI2 ?_ ?_|refine Or.inl (fun (_:Unit)=>?_);cbv
 all_goals subst hP hB0 hB1 hB2 hB3 hB4 hB5
 all_goals try exact fin
 all_goals have hw:=MO hp.vp hp.ok
 all_goals have hs:=hp.sc
 ·exact hp.vp
 ·exact hp.vp
 ·exact an (by show _≤0-g.last.score∧0-g.last.score≤_;omega)
 ·exact HI
 ·exact SE ‹_›
 ·exact an (by show _≤5*((dC g.bef g.last.play).length : Int)∧5*((dC g.bef g.last.play).length : Int)≤_;omega)
 ·exact HI
 ·exact QY ‹_› ‹_›
 ·exact HI
 ·exact U5 ‹_› ‹_›
def dh (p:Pr):bX:=msp (mG a0) (fun (g,_u)=>WiP g) (fun (g,_u)=>.tup []) (fun (g,_u)=>gmH ⟨g.ts,g.lex,g.bd0,g.secs,g.rule,⟨g.bd.size,g.bd.prem,g.last.before⟩,oA g,vk g,iSs g,g.clocks,g.player,wZe g,⟨3,g.last.player,⟨0,0,false,[]⟩,[],[],0,0⟩,iOv g⟩)
theorem kB:MOk Tryz.prog 136 (dh std):=by
 refine MOk.go (c:=cx std [(116,iS std),(117,jw std),(69,jT std)] [(101,dN std)] 7) (ae (.cons sK (.cons ud (.cons uU .nil))) (.cons l6 .nil)) mixed Tryz.func136 rfl rfl (by kernel_rfl) ?_
 rintro ⟨g,_u⟩ hp
 dsimp only at hp
 refine⟨rfl,?_⟩
 unfold iS jw jT dN
 generalize hP:std=p,hB0:oA=B0,hB1:vk=B1,hB2:iSs=B2,hB3:wZe=B3,hB4:iOv=B4,hB5:lL=B5,hB6:cL=B6,hB7:cb=B7,hB8:aD=B8,hB9:d6=B9,hB10:ay=B10,hB11:xo=B11,hB12:ovB=B12
 cbv
 repeat' first|refine fun (_:Unit)=>?_;cbv|refine aI2 (fun h=>?_) (fun h=>?_)<;>cbv|refine aI2 ?_ ?_|refine Or.inl (fun (_:Unit)=>?_);cbv
 all_goals subst hP hB0 hB1 hB2 hB3 hB4 hB5 hB6 hB7 hB8 hB9 hB10 hB11 hB12
 all_goals try exact fin
 all_goals (have h4:=hp.p;have h5:=hp.r2;have h6:=hp.s2;have h7:=hp.dr;have h8:=hp.bag;have h9:=hp.sc;have b1:=hp.so;have b2:=hp.z;have b3:=hp.rl;have b4:=hp.sp.len;have b5:(yv g).length ≤(ou g++yv g).length :=by rw [List.length_append];omega)
 all_goals first
  | exact⟨h4.1,by show g.last.player<(g.racks.length:Int);omega⟩
  | exact⟨h4.1,by show g.last.player<(g.scores.length:Int);omega⟩
  | exact⟨hp.st,hp.sd⟩
  | exact hp.st
  | exact hp.sd
  | exact hp.vp
  | exact hp.sp
  | exact hp.set
  | exact an (by show _≤((ou g).length : Int)+((yv g).length : Int)∧((ou g).length : Int)+((yv g).length : Int)≤_;omega)
  | exact an (by show _≤(g.last.drawn.length:Int)+(g.bag.length:Int)∧(g.last.drawn.length:Int)+(g.bag.length:Int)≤_;omega)
  | exact an (by show _≤g.sc g.last.player-g.last.score∧g.sc g.last.player-g.last.score≤_;omega)
  | exact an (by show _≤g.last.zeros+1∧g.last.zeros+1≤_;omega)
  | rfl
  | skip
def dL (p:Pr):bX:=msp (mG (a1 aI)) (fun (g,k)=>RfP g k) (fun (g,k)=>.tup []) (fun (g,k)=>gmH ⟨g.ts,g.lex,g.bd0,g.secs,g.rule,g.bd,g.bag,g.racks,(iRf g k).scores,g.clocks,(iRf g k).player,(iRf g k).zeros,⟨(iRf g k).last.kind,(iRf g k).last.player,⟨(iRf g k).last.play.row,(iRf g k).last.play.col,(iRf g k).last.play.down,(iRf g k).last.play.word⟩,(iRf g k).last.before,(iRf g k).last.drawn,(iRf g k).last.score,(iRf g k).last.zeros⟩,(iRf g k).over⟩)
theorem lQ:MOk Tryz.prog 141 (dL std):=by
 refine MOk.go (c:=cx std [(102,kg std)] [(101,dN std)] 7) (ae (.cons vL .nil) (.cons l6 .nil)) mixed Tryz.func141 rfl rfl (by kernel_rfl) ?_
 rintro ⟨g,k⟩ hp
 dsimp only at hp
 refine⟨rfl,?_⟩
 unfold kg dN
 generalize hP:std=p,hB0:aT=B0,hB1:xo=B1,hB2:ovB=B2,hB3:iRf=B3
 cbv
 repeat' first|refine fun (_:Unit)=>?_;cbv|refine aI2 (fun h=>?_) (fun h=>?_)<;>cbv|refine aI2 ?_ ?_|refine Or.inl (fun (_:Unit)=>?_);cbv
 all_goals subst hP hB0 hB1 hB2 hB3
 all_goals try exact fin
 all_goals (have h4:=hp.p;have h5:=hp.r2;have h6:=hp.s2;have h7:=br hp.ply;have h8:=hp.sc;have h9:=hp.kb;have b1:=hp.z)
 all_goals first
  | exact⟨h5,hp.ply⟩
  | exact⟨h4.1,by show g.last.player<(g.scores.length:Int);omega⟩
  | exact an (by show _≤g.sc g.last.player+k∧g.sc g.last.player+k≤_;omega)
  | exact an (by show _≤1-g.player∧1-g.player≤_;omega)
  | exact an (by show _≤g.zeros+1∧g.zeros+1≤_;omega)
  | exact hp.set _ _ _
  | (rw [IV (V3 ‹_›)];rfl)
  | (rw [IV (Vw ‹_›)];rfl)
  | skip
set_option maxHeartbeats 2000000
section
variable {g:Gm} {n:Int}
structure ChV (g:Gm):Prop where
 bd:bdB g.bef=true
 v:bs g.bef g.last.play=true
 vp:VP g.bef g.last.play
theorem y4 (h:ChF g n):ChV g:=by
 have hk:=pkf h.ok
 have hb:bdB g.bef=true:=by have:=hk.ok;unfold Go.Proofs.YtjjonmhpgkahoaaGreatDoor.okB at this;rw [Bool.and_eq_true] at this;exact this.1
 have hv:bs g.bef g.last.play=true:=by rw [←d5 hb];exact hk.ok
 exact⟨hb,hv,VP.of hb hv⟩
theorem F2 (h:ChV g):c7 g.bef g.last.play=dC g.bef g.last.play:=by
 obtain⟨hon,hw,h2,h12⟩:=be h.v
 exact nN h.bd hon hw
theorem Rr (h:ChV g):kQ g=cZ g:=(F2 h).symm
theorem PM (h:ChV g):fB g=cC g:=by
 unfold fB cC kn bM
 rw [F2 h]
theorem K1 (h:ChV g):iUp g=vUp g:=by
 unfold iUp vUp
 rw [PM h]
theorem JH (h:ChV g):oy g=dV g:=by
 unfold oy dV
 rw [K1 h,Rr h]
theorem Pc (h:ChV g):yv g=rj g:=by
 obtain⟨hon,hw,h2,h12⟩:=be h.v
 unfold yv rj
 rw [jG h.bd hon]
 exact rf (eE hw)
theorem AN (h:ChF g n):ou g=qT g:=(zn (h.sy.ok.rk _) (wi (pkf h.ok).dr).ti (pkf h.ok).tk).symm
theorem Th (h:ChF g n):StP (ou g++yv g):=by
 have hv:=y4 h
 have h1:=(QQ hv.vp)
 have h2:(ou g).all aK=true:=by
  rw [AN h]
  exact mK (ep (h.sy.ok.rk g.last.player)).1
 have h3:(ou g).length ≤7:=by rw [AN h];exact Nat.le_trans (eH _ _).length_le (bP (h.sy.ok.rk _))
 have h5:(yv g).length ≤15:=by
  rw [Pc hv]
  unfold rj
  rw [gM]
  exact Nat.le_trans (lU _ _) (my (pkf h.ok).ok).on.len
 refine⟨by rw [List.all_append,h2];exact h1.ti,by rw [List.length_append];omega⟩
theorem OV (h:ChF g n):vk g=pg g:=by
 unfold vk pg qP
 rw [ul (Th h).ti,Pc (y4 h),AN h]
theorem Q2 (h:ChF g n):iw1 (bp g n)=wd1 (bp g n):=by
 have e:vk (bp g n)=pg (bp g n):=(show vk g=pg g from OV h)
 unfold iw1 wd1
 rw [e]
theorem Vx (h:ChF g n):iSs (bp g n)=wSs (bp g n):=by
 unfold iSs wSs xo Ca
 rw [Q2 h];rfl
theorem Vu (h:ChF g n):iOv (bp g n)=wOv (bp g n):=by
 unfold iOv wOv ovB Ca
 rw [Q2 h];rfl
theorem V1 (g:Gm) (k:Int):iRf g k=rfG g k:=by
 unfold iRf rfG xo ovB
 cases aT g with
 | false=>simp
 | true=>simp
theorem TA (h:ChF g n):VeP g:=⟨(y4 h).vp,AT h.sy.ok.lex,by have:=zY h;have:=(pkf h.ok).s2;omega,(pkf h.ok).ok⟩
theorem So (h:ChF g n):WiP (bp g n):=by
 have hk:=pkf h.ok
 have hs:=h.sy.ok.sc g.last.player
 have hso:=zY h
 refine⟨(y4 h).vp,h.sy.r2,h.sy.fa.s,(show 0≤g.last.player∧g.last.player≤1 from Az h),sN (h.sy.ok.rk _),wi hk.dr,?_,(show StP (ou g++yv g) from Th h),eF hk.dr,eF h.sy.ok.bag,?_,?_,hk.z,⟨fun _=>by rw [Q2 h];exact FS h⟩⟩
 ·show (ou g).length ≤7
  rw [AN h]
  exact Nat.le_trans (eH _ _).length_le (bP (h.sy.ok.rk _))
 ·show -1000000≤g.sc g.last.player∧g.sc g.last.player≤1000000
  omega
 ·have:=hk.s2
  show -1000000≤g.last.score∧g.last.score≤1000000
  omega
theorem T6 (h:ChF g n):RfP (bp g n) (oy g):=by
 have hs:=h.sy.ok.sc g.last.player
 have hp:=EM h
 have hgz:=(pkf h.ok).gz
 have hpl:=h.sy.fa.ply
 refine⟨h.sy.r2,h.sy.fa.s,?_,(show 0≤g.last.player∧g.last.player≤1 from Az h),?_,?_,?_,fun p z l=>⟨fun _=>?_⟩⟩
 ·show inR g.player 0 1=true
  unfold inR
  simp only [Bool.and_eq_true,decide_eq_true_eq]
  exact hpl
 ·show -1000000≤g.sc g.last.player∧g.sc g.last.player≤1000000
  omega
 ·rw [JH (y4 h)];omega
 ·show 0≤g.zeros∧g.zeros≤100
  omega
 ·rw [JH (y4 h)]
  have h1:=Gd h
  exact⟨⟨h1.en.ts,h1.en.rk,h1.en.ck,h1.en.len,h1.en.clk⟩,h1.len,h1.lo,h1.hi⟩
end
set_option maxHeartbeats 20000000
structure ChP (g:Gm):Prop where
 gm:GmQ g
 cp:GcL g
structure ChY (g:Gm) (n:Int):Prop where
 b:ChP g
 c:chC g n=0
section
variable {g:Gm} {n:Int}
theorem I1 (h:ChF g n) (hu:iUp g=true):chG g n=⟨g.ts,g.lex,g.bd0,g.secs,g.rule,⟨g.bd.size,g.bd.prem,g.last.before⟩,oA (bp g n),vk (bp g n),iSs (bp g n),ckL g n,g.player,wZe (bp g n),⟨3,g.last.player,⟨0,0,false,[]⟩,[],[],0,0⟩,iOv (bp g n)⟩:=by
 rw [OP (by rw [←K1 (y4 h)];exact hu),Vx h,Vu h,show vk (bp g n)=pg (bp g n) from (show vk g=pg g from OV h)];rfl
theorem Kd (h:ChF g n) (hu:iUp g=false):chG g n=iRf (bp g n) (oy g):=by
 rw [Jd (by rw [←K1 (y4 h)];exact hu),V1,JH (y4 h)]
end
def oN (p:Pr):aa:=fsp (ac (aA aGm) (a1 aI)) (fun (g,n)=>ChY g n) (fun (g,n)=>.tup [.agg (gmK ⟨g.ts,g.lex,g.bd0,g.secs,g.rule,⟨(chG g n).bd.size,(chG g n).bd.prem,(chG g n).bd.cells⟩,(chG g n).bag,(chG g n).racks,(chG g n).scores,(chG g n).clocks,(chG g n).player,(chG g n).zeros,⟨(chG g n).last.kind,(chG g n).last.player,⟨(chG g n).last.play.row,(chG g n).last.play.col,(chG g n).last.play.down,(chG g n).last.play.word⟩,(chG g n).last.before,(chG g n).last.drawn,(chG g n).last.score,(chG g n).last.zeros⟩,(chG g n).over⟩ (.osl 0) (.osl 1) (.osl 2) (.osl 3) (.osl 4) (.osl 5)),.agg [.osl 6,.osl 7,.b (vUp g),.i .i64 (dV g)],.i .i64 0]) (fun (g,n)=>[(0,.own [.i .i64] g.ts.values 2),(1,.own [.i .i64] g.ts.counts 2),(2,.own [.s] g.lex 9),(3,.own [.s] (chG g n).racks 9),(4,.own [.i .i64] (chG g n).scores 2),(5,.own [.i .i64] (chG g n).clocks 2),(6,.own [.s] (cZ g) 9),(7,.own [.s] (cC g) 9)])
theorem oZ:FOk Tryz.prog 49 (oN std):=by
 refine FOk.goD (c:=cx std [(99,eI std),(138,aH std),(140,bI std),(114,gh std)] [(136,dh std),(141,dL std)] 0) (ae (.cons ot (.cons cz (.cons eY (.cons qR .nil)))) (.cons kB (.cons lQ .nil))) mixed Tryz.func49 rfl rfl rfl (by kernel_rfl) Tryz.func139 rfl (by kernel_rfl) rfl rfl ?_
 rintro ⟨g,n⟩ hp
 dsimp only at hp
 refine⟨rfl,?_⟩
 unfold eI aH bI gh dh dL
 generalize hP:std=p,hB0:aO=B0,hB1:eN=B1,hB2:vUp=B2,hB3:dV=B3,hB4:cZ=B4,hB5:cC=B5,hB6:iUp=B6,hB7:oy=B7,hB8:kQ=B8,hB9:fB=B9,hB10:oA=B10,hB11:vk=B11,hB12:iSs=B12,hB13:wZe=B13,hB14:iOv=B14,hB15:iRf=B15,hB16:aT=B16,hB17:ckL=B17,hB18:chG=B18
 cbv
 repeat' first|refine fun (_:Unit)=>?_;cbv|refine aI2 (fun h=>?_) (fun h=>?_)<;>cbv|refine aI2 ?_ ?_|refine Or.inl (fun (_:Unit)=>?_);cbv
 all_goals subst hP hB0 hB1 hB2 hB3 hB4 hB5 hB6 hB7 hB8 hB9 hB10 hB11 hB12 hB13 hB14 hB15 hB16 hB17 hB18
 all_goals try exact fin
 all_goals try (exfalso;exact ce1 hp.c ‹_›)
 all_goals try (exfalso;exact ce2 hp.c ‹_› ‹_›)
 all_goals have hF:=Bf hp.c
 all_goals have hV:=y4 hF
 all_goals (have hpl:=hF.sy.fa.ply;have hk2:=hF.sy.fa.k;have hck:=hF.sy.ok.clk g.player;have hcc:=hF.sy.c;have hn:=hF.sy.nb)
 all_goals first
  | exact hp.b.gm
  | exact⟨⟨⟨hp.b.cp.v,hp.b.cp.c⟩,hp.b.cp.l⟩,hp.b.cp.r,hp.b.cp.s,hp.b.cp.k⟩
  | exact⟨hpl.1,by show g.player<(g.clocks.length:Int);omega⟩
  | exact an (by show _≤g.clk g.player-n∧g.clk g.player-n≤_;omega)
  | exact TA hF
  | exact So hF
  | exact T6 hF
  | exact K1 hV
  | exact JH hV
  | exact congrArg (fun L=>Ob.own [.s] L 9) (Rr hV)
  | exact congrArg (fun L=>Ob.own [.s] L 9) (PM hV)
  | (rw [I1 hF ‹_›];rfl)
  | (rw [I1 hF ‹_›];done)
  | (rw [Kd hF ‹_›];rfl)
  | (rw [Kd hF ‹_›];done)
  | skip
theorem NOk.ofF {P:Program} {g:FuncId} {α β:Type} {A:gi α} {pre:α→Prop} {B:qw β} {f:α→β} {v:α→PV} (h:FOk P g (fsp A pre v)) (hv : ∀a,v a=B.v (f a)) (hB : ∀x,B.eh x=[]):NOk P g (nsp (mN A) pre (fun _=>B) (fun a x=>x=f a)):=by
 refine⟨h.fn,fun H args out hs hp w e vals hz hob hon hlv hbd hdis hl=>?_⟩
 unfold nsp at hs
 split at hs
 ·rename_i a ha
  cases hs
  unfold mN at ha
  dsimp only at ha
  split at ha
  ·have he:({ e with on:=fun _=>False,lv:=fun _=>False } : Env)=e:=by
    have h1:(fun _:Nat=>False)=e.on:=funext fun k=>propext ⟨fun h=>h.elim,fun h=>absurd ((hon k).1 h) (Nat.not_lt_zero k)⟩
    have h2:(fun _:Nat=>False)=e.lv:=funext fun k=>propext ⟨fun h=>h.elim,fun h=>absurd ((hlv k).1 h) (Nat.not_lt_zero k)⟩
    show (⟨e.adr,e.cap,e.len,e.fz,fun _=>False,fun _=>False⟩:Env)=⟨e.adr,e.cap,e.len,e.fz,e.on,e.lv⟩
    rw [←h1,←h2]
   have hS:(fsp A pre v:aa) args=some ⟨[pre a],v a,[]⟩:=by unfold fsp;rw [ha]
   refine (h.run args _ hS (fun q hq=>hp q hq) w e vals hz hl).mono ?_
   rintro en w' ⟨u,e',hu,hP⟩
   rw [he,hv] at hP
   refine⟨f a,rfl,u,e',hu,?_⟩
   show fW w w' e e' 0 ⟨[],B.v (f a),B.eh (f a)⟩ u
   rw [hB]
   exact⟨hP.val,hP.le,hP.fz,hP.eff,hP.new,hP.nlv,hP.klv,hP.dis,hP.chg⟩
  ·cases ha
 ·cases hs
section
variable {g:Gm}
end
section
variable {g:Gm}
end
section
variable {g:Gm}
end
set_option maxHeartbeats 2000000
section
variable {g:Gm} {q:Pl} {n:Int}
end
set_option maxHeartbeats 20000000
structure ChN (g:Gm) (n:Int):Prop where
 b:ChP g
 c:chC g n≠0
def oE (p:Pr):aa:=fsp (ac (aA aGm) (a1 aI)) (fun (g,n)=>ChN g n) (fun (g,n)=>.tup [.agg (gmK gm0 .esl .esl .esl .esl .esl .esl),.agg [.esl,.esl,.b false,.i .i64 0],.i .i64 (chC g n)])
theorem oG:FOk Tryz.prog 49 (oE std):=by
 refine FOk.goD (c:=cx std [(99,eI std),(138,aH std),(140,bI std),(114,gh std)] [(136,dh std),(141,dL std)] 0) (ae (.cons ot (.cons cz (.cons eY (.cons qR .nil)))) (.cons kB (.cons lQ .nil))) mixed Tryz.func49 rfl rfl rfl (by kernel_rfl) Tryz.func139 rfl (by kernel_rfl) rfl rfl ?_
 rintro ⟨g,n⟩ hp
 dsimp only at hp
 refine⟨rfl,?_⟩
 unfold eI aH bI gh dh dL
 generalize hP:std=p,hB0:aO=B0,hB1:eN=B1,hB2:vUp=B2,hB3:dV=B3,hB4:cZ=B4,hB5:cC=B5,hB6:iUp=B6,hB7:oy=B7,hB8:kQ=B8,hB9:fB=B9,hB10:oA=B10,hB11:vk=B11,hB12:iSs=B12,hB13:wZe=B13,hB14:iOv=B14,hB15:iRf=B15,hB16:aT=B16,hB17:ckL=B17,hB18:chC=B18
 cbv
 repeat' first|refine fun (_:Unit)=>?_;cbv|refine aI2 (fun h=>?_) (fun h=>?_)<;>cbv|refine aI2 ?_ ?_|refine Or.inl (fun (_:Unit)=>?_);cbv
 all_goals subst hP hB0 hB1 hB2 hB3 hB4 hB5 hB6 hB7 hB8 hB9 hB10 hB11 hB12 hB13 hB14 hB15 hB16 hB17 hB18
 all_goals try exact fin
 all_goals try (exfalso;exact cn3 hp.c ‹_› ‹_›)
 all_goals first
  | exact hp.b.gm
  | exact cn1 ‹_›
  | exact cn2 ‹_› ‹_›
  | skip
def rF (p:Pr):aa:=fsp (ac (aA aGm) (a1 aI)) (fun (g,n)=>ChP g) (fun (g,n)=>.tup [.agg (fe (chR g n)),.agg [.osl 6,.osl 7,.b (chU g n),.i .i64 (chP g n)],.i .i64 (chC g n)]) (fun (g,n)=>qY (chR g n) (chW g n) (chX g n))
def TH (p:Pr):aa:=fsp (ac (aA aGm) (a1 aI)) (fun (g,n)=>ChN g n) (fun (g,n)=>.tup [.agg (fe gm0),.agg [.osl 6,.osl 7,.b false,.i .i64 0],.i .i64 (chC g n)]) (fun _=>qY gm0 [] [])
theorem TP:FOk Tryz.prog 49 (TH std):=FOk.own oG rfl fun ⟨g,n⟩ w e u h hr=>CO h u hr
theorem rz:FOk Tryz.prog 49 (rF std):=FOk.casesE oZ TP fun ⟨g,n⟩ hp=>by
 by_cases hc:chC g n=0
 ·obtain⟨e1,e2,e3,e4,e5⟩:=C0 g n
  refine .inl ⟨⟨hp,hc⟩,?_,?_⟩
  ·show _=PV.tup [.agg (fe (chR g n)),.agg [.osl 6,.osl 7,.b (chU g n),.i .i64 (chP g n)],.i .i64 (chC g n)]
   unfold chR chU chP
   rw [if_pos hc,if_pos hc,if_pos hc,hc]
   show PV.tup [.agg (gmK ⟨g.ts,g.lex,g.bd0,g.secs,g.rule,(chG g n).bd,(chG g n).bag,(chG g n).racks,(chG g n).scores,(chG g n).clocks,(chG g n).player,(chG g n).zeros,(chG g n).last,(chG g n).over⟩ (.osl 0) (.osl 1) (.osl 2) (.osl 3) (.osl 4) (.osl 5)),_,_]=_
   rw [←e1,←e2,←e3,←e4,←e5];rfl
  ·show _=qY (chR g n) (chW g n) (chX g n)
   unfold chR chW chX
   rw [if_pos hc,if_pos hc,if_pos hc]
   show qY ⟨g.ts,g.lex,g.bd0,g.secs,g.rule,(chG g n).bd,(chG g n).bag,(chG g n).racks,(chG g n).scores,(chG g n).clocks,(chG g n).player,(chG g n).zeros,(chG g n).last,(chG g n).over⟩ _ _=_
   rw [←e1,←e2,←e3,←e4,←e5]
 ·refine .inr ⟨⟨hp,hc⟩,?_,?_⟩
  ·show _=PV.tup [.agg (fe (chR g n)),.agg [.osl 6,.osl 7,.b (chU g n),.i .i64 (chP g n)],.i .i64 (chC g n)]
   unfold chR chU chP
   rw [if_neg hc,if_neg hc,if_neg hc]
  ·show qY gm0 [] []=qY (chR g n) (chW g n) (chX g n)
   unfold chR chW chX
   rw [if_neg hc,if_neg hc,if_neg hc]
end Ax
end Go.Proofs.YtjjonmhpgkahoaaGreatDoor
