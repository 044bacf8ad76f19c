/-
  Factors, letters' scores, parts, scores of plays, of the impl package.
  Conditions: none.
-/
import Derived.Test.YtjjonmhpgkahoaaGreatDoorH22
import Derived.Test.YtjjonmhpgkahoaaGreatDoorH23
set_option linter.unusedSimpArgs false
set_option linter.unusedVariables false
namespace Go.Proofs.YtjjonmhpgkahoaaGreatDoor
namespace Ax
set_option maxRecDepth 100000
set_option maxHeartbeats 2000000
def aR8:Arg (List Int):=⟨fun | .rsl [.i .u8] n=>some n | _=>none,.rsl [.i .u8],fun x a h=>by split at h<;>cases h;rfl⟩
structure WfP (L:List Int):Prop where
 len:L.length≤15
 by' : ∃X,L=aq X
def wfV (L:List Int):Int:=wfL (fZ L)
theorem wT (X:List UInt8):wfV (aq X)=wfL X:=by unfold wfV;rw [cJ]
theorem Ny {X:List UInt8} {k:Int} (h0:0≤k) (h:k<X.length):wfL (X.take (k+1).toNat)=wfL (X.take k.toNat)*wdF (X.getD k.toNat 0):=by
 rw [show (k+1).toNat =k.toNat+1 by omega,Ci (by omega),List.getD_eq_getElem?_getD,List.getElem?_eq_getElem (by omega)];rfl
theorem Px {X:List UInt8} (k:Nat):(aq X).take k=aq (X.take k):=by simp [aq]
theorem R9 {c:UInt8} : wdF c=if (c.toNat:Int)=100 then 2 else if (c.toNat:Int)=116 then 3 else 1:=by
 unfold wdF
 have h1:(c==100)=decide ((c.toNat:Int)=100):=by rw [←l2 (m:=100) rfl];rfl
 have h2:(c==116)=decide ((c.toNat:Int)=116):=by rw [←l2 (m:=116) rfl];rfl
 rw [h1,h2];simp only [decide_eq_true_eq]
def j8 (p:Pr):aa:=fsp (a1 aR8) (fun L=>WfP L) (fun L=>.i .i64 (wfV L))
theorem vC:FOk Tryz.prog 264 (j8 std):=by
 refine FOk.go (c:=cx std [] [] 0) (ae .nil .nil) mixed Tryz.func264 rfl rfl rfl (by kernel_rfl) ?_
 rintro L hp
 refine⟨rfl,?_⟩
 obtain⟨H,hH⟩ : ∃H:Hd (Int×Int),H=⟨fun (k,m)=>0≤k∧k≤L.length∧m=wfV (L.take k.toNat),fun (k,m)=>(L.length-k).toNat,(· < ·)⟩:=⟨_,rfl⟩
 have hl:=hdl hH
 generalize hP:std=p,hB0:wfV=B0
 cbv
 repeat' first|refine fun (_:Unit)=>?_;cbv|refine Or.inr ⟨8,[],[.s 7 (.i .i64),.s 2 (.i .i64)],[],[],H,rfl,hl,?_,fun ((k,m):Int×Int) hk=>?_⟩<;>cbv|refine aI2 (fun h=>?_) (fun h=>?_)<;>cbv|refine aI2 ?_ ?_
 all_goals subst hP hB0 hH
 all_goals clear hl
 all_goals try dsimp only at hk
 all_goals try dsimp only
 all_goals try exact fin
 all_goals obtain⟨hl,X,rfl⟩:=hp
 all_goals have hl:X.length≤15:=by rw [bu] at hl;exact hl
 ·refine⟨Int.le_refl 0,Int.natCast_nonneg _,?_⟩
  show (1:Int)=wfL []
  rfl
 all_goals obtain⟨q0,q1,rfl⟩:=hk
 all_goals have q1:k≤((aq X).length : Int):=q1
 all_goals rw [bu] at q1
 all_goals have hb:=Kl hl k.toNat
 all_goals have em:wfV ((aq X).take k.toNat)=wfL (X.take k.toNat):=by rw [Px,wT]
 all_goals try (have hlt:k<((aq X).length : Int):=ah ‹_›;rw [bu] at hlt;have hs:=Ny q0 hlt)
 all_goals have hw:=R9 (c:=X.getD k.toNat 0)
 all_goals have e1:wfV ((aq X).take (k+1).toNat)=wfL (X.take (k+1).toNat):=by rw [Px,wT]
 all_goals have e2:((aq X).getD k.toNat 0)=((X.getD k.toNat 0).toNat : Int):=gC X k.toNat
 ·exact an (by show _≤wfV ((aq X).take k.toNat)*2∧wfV ((aq X).take k.toNat)*2≤_;omega)
 ·exact an (by show _≤k+1∧k+1≤_;omega)
 ·refine⟨by show 0≤k+1;omega,by show k+1≤((aq X).length : Int);rw [bu];omega,?_⟩
  have h1:(aq X).getD k.toNat 0=100:=by have:=(show std.eqI ((aq X).getD k.toNat 0) 100=true by assumption);simpa using this
  rw [e2] at h1
  rw [if_pos h1] at hw
  show wfV ((aq X).take k.toNat)*2=wfV ((aq X).take (k+1).toNat)
  rw [e1,hs,hw,em]
 ·exact an (by show _≤wfV ((aq X).take k.toNat)*3∧wfV ((aq X).take k.toNat)*3≤_;omega)
 ·exact an (by show _≤k+1∧k+1≤_;omega)
 ·refine⟨by show 0≤k+1;omega,by show k+1≤((aq X).length : Int);rw [bu];omega,?_⟩
  have h1 : ¬(aq X).getD k.toNat 0=100:=by have:=(show std.eqI ((aq X).getD k.toNat 0) 100=false by assumption);simpa using this
  have h2:(aq X).getD k.toNat 0=116:=by have:=(show std.eqI ((aq X).getD k.toNat 0) 116=true by assumption);simpa using this
  rw [e2] at h1 h2
  rw [if_neg h1,if_pos h2] at hw
  show wfV ((aq X).take k.toNat)*3=wfV ((aq X).take (k+1).toNat)
  rw [e1,hs,hw,em]
 ·exact an (by show _≤k+1∧k+1≤_;omega)
 ·refine⟨by show 0≤k+1;omega,by show k+1≤((aq X).length : Int);rw [bu];omega,?_⟩
  have h1 : ¬(aq X).getD k.toNat 0=100:=by have:=(show std.eqI ((aq X).getD k.toNat 0) 100=false by assumption);simpa using this
  have h2 : ¬(aq X).getD k.toNat 0=116:=by have:=(show std.eqI ((aq X).getD k.toNat 0) 116=false by assumption);simpa using this
  rw [e2] at h1 h2
  rw [if_neg h1,if_neg h2] at hw
  show wfV ((aq X).take k.toNat)=wfV ((aq X).take (k+1).toNat)
  rw [e1,hs,hw,em,Int.mul_one]
 ·have hge:((aq X).length : Int)≤k:=ao ‹_›
  show wfV ((aq X).take k.toNat)=wfV (aq X)
  rw [List.take_of_length_le (by omega)]
structure LsQ (t:TS) (b:Bd) (q:Pl):Prop where
 ts:er t
 vp:VP b q
theorem Aq (t:TS) (b:Bd) (q:Pl):(lsI t b q).length =q.word.length:=by unfold lsI;rw [List.length_map,List.length_range]
theorem Rw {t:TS} {b:Bd} {q:Pl} {k:Int} (h0:0≤k) (h:k<q.word.length):(lsI t b q).getD k.toNat 0=if b.let_ (q.sr k) (q.sc k) then cI t (q.word.getD k.toNat 0) else ltF (b.prm (q.sr k) (q.sc k))*cI t (q.word.getD k.toNat 0):=by
 unfold lsI
 rw [List.getD_eq_getElem?_getD,List.getElem?_map,List.getElem?_range (by omega)]
 show (if b.let_ (q.sr ((k.toNat:Nat):Int)) (q.sc ((k.toNat:Nat):Int)) then _ else ltF (b.prm (q.sr ((k.toNat:Nat):Int)) (q.sc ((k.toNat:Nat):Int)))*_)=_
 rw [show ((k.toNat:Nat):Int)=k from by omega]
theorem wj (c:UInt8):u8 (c.toNat:Int)=c:=by simp [u8]
theorem Q3 (t:TS) (s:List UInt8) (b:Bd) (k r c:Int):yn t (std.byte s k) (m3 b r c)=ltF (b.prm r c)*cI t (s.getD k.toNat 0):=by
 unfold yn m3
 rw [jM,wj]
theorem NB (t:TS) (s:List UInt8) (k:Int):yn t (std.byte s k) 46=cI t (s.getD k.toNat 0):=by
 unfold yn
 rw [jM,show u8 46=46 from rfl,show ltF 46=1 from rfl,Int.one_mul]
theorem LR (b:Bd) (r c:Int):std.inK .u8 (m3 b r c):=by
 have:=Pk (b.prm r c)
 exact⟨this.1,by show m3 b r c≤255;unfold m3;omega⟩
theorem Vt {b:Bd} {q:Pl} {k:Int} (hp:VP b q) (h0:0≤k) (h:k<q.word.length):b.inB (q.sr k) (q.sc k)=true:=by
 have:=hp.on k.toNat (by omega)
 rwa [show ((k.toNat:Nat):Int)=k from by omega] at this
def iz (p:Pr):aa:=fsp (ac (aA aTs) (ac (aA aBd) (a1 (aA aPl)))) (fun (t,b,q)=>LsQ t b q) (fun (t,b,q)=>.rsl [.i .i64] (lsI t b q))
def qk (p:Pr):aa:=fsp (ac (aA aTs) (ac (aA aBd) (a1 (aA aPl)))) (fun (t,b,q)=>LsQ t b q) (fun (t,b,q)=>.osl 0) (fun (t,b,q)=>[(0,.own [.i .i64] (lsI t b q) 2)])
theorem qv:FOk Tryz.prog 263 (qk std):=by
 refine FOk.go (c:=cx std [(211,bS std),(258,cQ std),(266,cq std),(267,yj std)] [] 0) (ae (.cons fH (.cons jO (.cons gK (.cons I8 .nil)))) .nil) mixed Tryz.func263 rfl rfl rfl (by kernel_rfl) ?_
 rintro ⟨t,b,q⟩ hp
 dsimp only at hp
 refine⟨rfl,?_⟩
 unfold bS cQ cq yj
 obtain⟨H,hH⟩ : ∃H:Hd (Int×List Int),H=⟨fun (k,L)=>0≤k∧k≤q.word.length∧L=(lsI t b q).take k.toNat,fun (k,L)=>(q.word.length-k).toNat,(· < ·)⟩:=⟨_,rfl⟩
 have hl:=hdl hH
 generalize hP:std=p,hB0:lsI=B0,hB1:srI=B1,hB2:scI=B2,hB3:Bd.let_=B3,hB4:Bd.inB=B4,hB5:m3=B5,hB6:yn=B6
 cbv
 repeat' first|refine fun (_:Unit)=>?_;cbv|refine Or.inr ⟨15,[],[.c 4 0 (.i .i64),.o 3 [.i .i64]],[.s 7],[],H,rfl,hl,?_,fun ((k,L):Int×List Int) hk=>?_⟩<;>cbv|refine aI2 (fun h=>?_) (fun h=>?_)<;>cbv|refine aI2 ?_ ?_
 all_goals subst hP hB0 hB1 hB2 hB3 hB4 hB5 hB6 hH
 all_goals clear hl
 all_goals try dsimp only at hk
 all_goals try dsimp only
 all_goals try exact fin
 all_goals try simp only [eD,fV,iR] at *
 ·exact Ey hp.vp.lett
 all_goals obtain⟨q0,q1,rfl⟩:=hk
 all_goals have q1:k≤(q.word.length:Int):=q1
 all_goals have a1:=hp.vp.r
 all_goals have a2:=hp.vp.c
 all_goals have a3:=hp.vp.hi
 all_goals have hll:=Aq t b q
 all_goals have hl2:((lsI t b q).take k.toNat).length ≤q.word.length:=by rw [List.length_take];omega
 all_goals try (have hlt:k<(q.word.length:Int):=ah ‹_›;have h2:=Rw (t:=t) (b:=b) q0 hlt)
 ·exact ri (by omega) (by omega) (by omega)
 ·exact Vt hp.vp q0 hlt
 ·exact LR b _ _
 ·show (((lsI t b q).take k.toNat).length : Int)+1≤_
  omega
 ·refine⟨by show 0≤k+1;omega,by show k+1≤(q.word.length:Int);omega,?_⟩
  rw [Q3]
  show (lsI t b q).take k.toNat++[ltF (b.prm (q.sr k) (q.sc k))*cI t (q.word.getD k.toNat 0)]=(lsI t b q).take (k+1).toNat
  rw [tk q0 (by rw [hll];exact hlt) 0,h2,if_neg]
  have : b.let_ (srI q k) (scI q k)=false:=by assumption
  rw [show b.let_ (q.sr k) (q.sc k)=false from this];simp
 ·show (((lsI t b q).take k.toNat).length : Int)+1≤_
  omega
 ·refine⟨by show 0≤k+1;omega,by show k+1≤(q.word.length:Int);omega,?_⟩
  rw [NB]
  show (lsI t b q).take k.toNat++[cI t (q.word.getD k.toNat 0)]=(lsI t b q).take (k+1).toNat
  rw [tk q0 (by rw [hll];exact hlt) 0,h2,if_pos]
  have : b.let_ (srI q k) (scI q k)=true:=by assumption
  exact this
 ·rw [bZ (by rw [hll];exact ao ‹_›)]
theorem r6:FOk Tryz.prog 263 (iz std):=FOk.frz qv fun ⟨t,b,q⟩=>⟨by simp [deep,eK,AH.get],by simp [PV.idIn,cP]⟩
theorem Oq (b:Bd) (q:Pl):(i7 b q).length =(nsI b q).length :=by unfold i7;rw [List.length_map,lz]
theorem Nr {b:Bd} {q:Pl} {k:Int} (h0:0≤k) (h:k<(nsI b q).length):aq ((i7 b q).take k.toNat)++[m3 b ((nsI b q).getD k.toNat (0,0)).1 ((nsI b q).getD k.toNat (0,0)).2]=aq ((i7 b q).take (k+1).toNat):=by
 obtain⟨n, -,h2,h3⟩:=JW h0 h
 rw [h2]
 unfold i7
 rw [←List.map_take,←List.map_take,h3]
 simp [aq,m3]
def iP (p:Pr):aa:=fsp (ac (aA aBd) (a1 (aA aPl))) (fun (b,q)=>VP b q) (fun (b,q)=>.rsl [.i .u8] (aq (i7 b q)))
def qq (p:Pr):aa:=fsp (ac (aA aBd) (a1 (aA aPl))) (fun (b,q)=>VP b q) (fun (b,q)=>.osl 0) (fun (b,q)=>[(0,.own [.i .u8] (aq (i7 b q)) 5)])
theorem qr:FOk Tryz.prog 265 (qq std):=by
 refine FOk.go (c:=cx std [(203,bD std),(266,cq std)] [] 0) (ae (.cons eL (.cons gK .nil)) .nil) mixed Tryz.func265 rfl rfl rfl (by kernel_rfl) ?_
 rintro ⟨b,q⟩ hp
 dsimp only at hp
 refine⟨rfl,?_⟩
 unfold bD cq
 obtain⟨H,hH⟩ : ∃H:Hd (Int×List Int),H=⟨fun (k,L)=>0≤k∧k≤(nsI b q).length ∧L=aq ((i7 b q).take k.toNat),fun (k,L)=>((nsI b q).length - k).toNat,(· < ·)⟩:=⟨_,rfl⟩
 have hl:=hdl hH
 generalize hP:std=p,hB0:aq=B0,hB1:i7=B1,hB2:nsI=B2,hB3:m3=B3,hB4:Bd.inB=B4
 cbv
 repeat' first|refine fun (_:Unit)=>?_;cbv|refine Or.inr ⟨20,[],[.s 19 (.i .i64),.o 2 [.i .u8]],[.s 7],[],H,rfl,hl,?_,fun ((k,L):Int×List Int) hk=>?_⟩<;>cbv|refine aI2 (fun h=>?_) (fun h=>?_)<;>cbv|refine aI2 ?_ ?_
 all_goals subst hP hB0 hB1 hB2 hB3 hB4 hH
 all_goals clear hl
 all_goals try dsimp only at hk
 all_goals try dsimp only
 all_goals try exact fin
 all_goals try simp only [eD,fV] at *
 ·exact⟨Int.le_refl 0,Int.natCast_nonneg _,rfl⟩
 all_goals obtain⟨q0,q1,rfl⟩:=hk
 all_goals have q1:k≤((nsI b q).length : Int):=q1
 all_goals have hn:=cF b q q.word.length
 all_goals have hn:(bC b q).length ≤q.word.length:=hn
 all_goals have hnl:=lz (b:=b) (q:=q)
 all_goals have hpl:=Oq b q
 all_goals have a3:=hp.hi
 all_goals try (have hlt:k<((nsI b q).length : Int):=ah ‹_›)
 ·exact OS hp q0 hlt
 ·show ((aq ((i7 b q).take k.toNat)).length : Int)+1≤_
  rw [bu,List.length_take];omega
 ·exact an (by show _≤k+1∧k+1≤_;omega)
 ·exact⟨by show 0≤k+1;omega,by show k+1≤((nsI b q).length : Int);omega,Nr q0 hlt⟩
 ·have hge:((nsI b q).length : Int)≤k:=ao ‹_›
  rw [List.take_of_length_le (by omega)]
theorem tu:FOk Tryz.prog 265 (iP std):=FOk.frz qr fun ⟨b,q⟩=>⟨by simp [deep,eK,AH.get],by simp [PV.idIn,cP]⟩
def pF (t:TS) (b:Bd) (q:Pl) (j:Int):List Int:=((lsI t b q).sum * wfL (i7 b q))::((cY b q (bC b q)).take j.toNat).map (crI t b q)
def cqS (t:TS) (b:Bd) (q:Pl) (j k:Int):Int:=(((cH b q j).take k.toNat).map (sqI t b (ar b q) ((eC b q).getD j.toNat (0,0)))).sum
section
variable {t:TS} {b:Bd} {q:Pl} {j k:Int}
theorem GM:(eC b q).length =(eo b q).length :=by unfold eC eo;rw [List.length_map,List.length_map]
theorem Qi (hp:VP b q) (h0:0≤j) (h:j<(eo b q).length):b.inB ((eC b q).getD j.toNat (0,0)).1 ((eC b q).getD j.toNat (0,0)).2=true:=by
 have h1:j.toNat<(eC b q).length :=by rw [GM];omega
 rw [List.getD_eq_getElem?_getD,List.getElem?_eq_getElem h1]
 obtain⟨x,h2,h3⟩:=List.mem_map.1 (List.getElem_mem h1)
 show b.inB ((eC b q)[j.toNat]).1 ((eC b q)[j.toNat]).2=true
 rw [←h3]
 unfold cY at h2
 obtain⟨s,h4,rfl⟩:=List.mem_map.1 (List.mem_filter.1 h2).1
 unfold sqL at h4
 obtain⟨n,h5,rfl⟩:=List.mem_map.1 h4
 unfold bC jS at h5
 exact hp.on n (List.mem_range.1 (List.mem_filter.1 h5).1)
theorem BX (h:er t) (M:Bd) (a s:Int×Int):0≤sqI t b M a s∧sqI t b M a s≤60:=by
 unfold sqI
 have h1:=h.lo (M.cell s.1 s.2)
 have h2:=h.hi (M.cell s.1 s.2)
 have h3:=Ei (b.prm a.1 a.2)
 split
 ·have h4:=Int.mul_nonneg (show 0≤ltF (b.prm a.1 a.2) by omega) h1
  have h5:=Int.mul_le_mul h3.2 h2 h1 (by decide)
  omega
 ·omega
theorem LN (h:er t) : ∀x∈lsI t b q,0≤x∧x≤60:=by
 intro x hx
 obtain⟨i, -,rfl⟩:=List.mem_map.1 hx
 have h1:=h.lo (q.word.getD i 0)
 have h2:=h.hi (q.word.getD i 0)
 have h3:=Ei (b.prm (q.sr i) (q.sc i))
 split
 ·omega
 ·have h4:=Int.mul_nonneg (show 0≤ltF (b.prm (q.sr i) (q.sc i)) by omega) h1
  have h5:=Int.mul_le_mul h3.2 h2 h1 (by decide)
  omega
theorem NH (h0:0≤k) (h:k<(cH b q j).length):cqS t b q j (k+1)=cqS t b q j k+sqI t b (ar b q) ((eC b q).getD j.toNat (0,0)) ((cH b q j).getD k.toNat (0,0)):=by
 unfold cqS
 rw [tk h0 h (0,0),List.map_append,List.sum_append]
 simp
theorem LT (h:er t) (h0:0≤k):0≤cqS t b q j k∧cqS t b q j k≤60*32:=by
 have h1:=jv (M:=60) (((cH b q j).take k.toNat).map (sqI t b (ar b q) ((eC b q).getD j.toNat (0,0)))) (fun x hx=>by
  obtain⟨s, -,rfl⟩:=List.mem_map.1 hx
  exact BX h _ _ _)
 have h2:(cH b q j).length ≤32:=E0 j.toNat
 rw [List.length_map,List.length_take] at h1
 unfold cqS
 omega
theorem Hm (h0:0≤j) (hj:j<(eo b q).length) (h:((cH b q j).length : Int)≤k):cqS t b q j k*wfL [b.prm ((eC b q).getD j.toNat (0,0)).1 ((eC b q).getD j.toNat (0,0)).2]=crI t b q ((cY b q (bC b q)).getD j.toNat ((0,0),[])):=by
 have h1:j.toNat<(cY b q (bC b q)).length :=by unfold eo at hj;rw [List.length_map] at hj;omega
 unfold cqS crI cH eC eo
 have e1:((cY b q (bC b q)).map (·.1)).getD j.toNat (0,0)=((cY b q (bC b q)).getD j.toNat ((0,0),[])).1:=by
  rw [List.getD_eq_getElem?_getD,List.getElem?_map,List.getElem?_eq_getElem h1,List.getD_eq_getElem?_getD,List.getElem?_eq_getElem h1];rfl
 have e2:((cY b q (bC b q)).map (·.2)).getD j.toNat []=((cY b q (bC b q)).getD j.toNat ((0,0),[])).2:=by
  rw [List.getD_eq_getElem?_getD,List.getElem?_map,List.getElem?_eq_getElem h1,List.getD_eq_getElem?_getD,List.getElem?_eq_getElem h1];rfl
 have e3:(cH b q j).take k.toNat=cH b q j:=List.take_of_length_le (by omega)
 unfold cH eo at e3
 rw [e3,e1,e2]
theorem H6 (h0:0≤j) (h:j<(eo b q).length):pF t b q (j+1)=pF t b q j++[crI t b q ((cY b q (bC b q)).getD j.toNat ((0,0),[]))]:=by
 have h1:j<(cY b q (bC b q)).length :=by unfold eo at h;rw [List.length_map] at h;omega
 unfold pF
 rw [tk h0 h1 ((0,0),[]),List.map_append];rfl
theorem zj (h:((eo b q).length : Int)≤j):pF t b q j=bJ t b q:=by
 unfold pF bJ
 rw [List.take_of_length_le (by unfold eo at h;rw [List.length_map] at h;omega)]
theorem zB (hp:VP b q):(pF t b q j).length ≤13:=by
 have:=wt hp
 unfold eo at this
 rw [List.length_map] at this
 unfold pF
 rw [List.length_cons,List.length_map,List.length_take];omega
theorem DV (hp:VP b q):(i7 b q).length ≤12:=by
 have hn:=cF b q q.word.length
 have hw:=hp.hi
 unfold i7 bC
 rw [List.length_map];omega
theorem FR (h:er t) (hp:VP b q):0≤(lsI t b q).sum * wfL (i7 b q)∧(lsI t b q).sum * wfL (i7 b q)≤720*14348907:=by
 have h1:=jv (lsI t b q) (LN (b:=b) (q:=q) h)
 have h2:=AG (l:=i7 b q) (by have:=DV hp;omega)
 have h3:=Aq t b q
 have h4:=hp.hi
 have h5:=Int.mul_nonneg h1.1 (show 0≤wfL (i7 b q) by omega)
 have h6:(lsI t b q).sum * wfL (i7 b q)≤720*14348907:=Int.mul_le_mul (by omega) h2.2 (by omega) (by omega)
 exact⟨h5,h6⟩
theorem wf1 (c:UInt8):wfL [c]=wdF c:=by simp [wfL]
theorem A3 (h:er t) (x:(Int×Int)×List (Int×Int)) (hx:x.2.length≤32):0≤crI t b q x∧crI t b q x≤5760:=by
 have h1:=jv (M:=60) (x.2.map (sqI t b (ar b q) x.1)) (fun y hy=>by
  obtain⟨s, -,rfl⟩:=List.mem_map.1 hy
  exact BX h _ _ _)
 rw [List.length_map] at h1
 have h2:=IW (b.prm x.1.1 x.1.2)
 unfold crI
 rw [wf1]
 have h3:=Int.mul_nonneg h1.1 (show 0≤wdF (b.prm x.1.1 x.1.2) by omega)
 have h4:(x.2.map (sqI t b (ar b q) x.1)).sum * wdF (b.prm x.1.1 x.1.2)≤1920*3:=Int.mul_le_mul (by omega) h2.2 (by omega) (by omega)
 omega
theorem zQ (h:er t) (hp:VP b q) : ∀x∈bJ t b q,0≤x∧x≤720*14348907:=by
 intro x hx
 rcases List.mem_cons.1 hx with rfl | hx
 ·exact FR h hp
 ·obtain⟨y,h1,rfl⟩:=List.mem_map.1 hx
  have:=A3 (b:=b) (q:=q) h y (oh b q _ y h1)
  omega
theorem J3 {x:UInt8} : std.inK .u8 (x.toNat:Int):=by
 have:=Pk x
 exact⟨this.1,by show (x.toNat:Int)≤255;omega⟩
theorem Hh {s a:Int×Int} {x:Bool} (h:std.and (std.eqI s.1 a.1) (std.eqI s.2 a.2)=x):(s==a)=x:=by
 rw [←h];rfl
theorem Gh {M:Bd} {s a:Int×Int} (h:(s==a)=true):sqI t b M a s=yn t (ii M s.1 s.2) (m3 b a.1 a.2):=by
 unfold sqI yn ii m3
 rw [if_pos h,wj,wj]
theorem Ku {M:Bd} {s a:Int×Int} (h:(s==a)=false):sqI t b M a s=cI t (u8 (ii M s.1 s.2)):=by
 unfold sqI ii
 rw [if_neg (by rw [h];simp),wj]
theorem Ma (b:Bd) (r c:Int):wfV [m3 b r c]=wfL [b.prm r c]:=by
 rw [←wT];rfl
theorem MT (h:er t) (h0:0≤j) (hj:j<(eo b q).length):0≤crI t b q ((cY b q (bC b q)).getD j.toNat ((0,0),[]))∧crI t b q ((cY b q (bC b q)).getD j.toNat ((0,0),[]))≤5760:=by
 have h1:j.toNat<(cY b q (bC b q)).length :=by unfold eo at hj;rw [List.length_map] at hj;omega
 rw [List.getD_eq_getElem?_getD,List.getElem?_eq_getElem h1]
 exact A3 h _ (oh b q _ _ (List.getElem_mem h1))
end
def ky (p:Pr):aa:=fsp (ac (aA aTs) (ac (aA aBd) (a1 (aA aPl)))) (fun (t,b,q)=>LsQ t b q) (fun (t,b,q)=>.rsl [.i .i64] (bJ t b q))
def zZ9 (p:Pr):aa:=fsp (ac (aA aTs) (ac (aA aBd) (a1 (aA aPl)))) (fun (t,b,q)=>LsQ t b q) (fun (t,b,q)=>.osl 0) (fun (t,b,q)=>[(0,.own [.i .i64] (bJ t b q) 2)])
theorem sY:FOk Tryz.prog 207 (zZ9 std):=by
 refine FOk.go (c:=cx std [(263,iz std),(265,iP std),(264,j8 std),(119,fJ std),(261,fC std),(266,cq std),(259,cj std),(267,yj std),(252,iv std)] [] 0) (ae (.cons r6 (.cons tu (.cons vC (.cons qd (.cons oY (.cons gK (.cons gF (.cons I8 (.cons oe .nil))))))))) .nil) mixed Tryz.func207 rfl rfl rfl (by kernel_rfl) ?_
 rintro ⟨t,b,q⟩ hp
 dsimp only at hp
 refine⟨rfl,?_⟩
 unfold iz iP j8 fJ fC cq cj yj iv
 obtain⟨H,hH⟩ : ∃H:Hd (Int×Int),H=⟨fun (k,m)=>0≤k∧k≤(lsI t b q).length ∧m=((lsI t b q).take k.toNat).sum,fun (k,m)=>((lsI t b q).length - k).toNat,(· < ·)⟩:=⟨_,rfl⟩
 have hl:=hdl hH
 obtain⟨H2,hH2⟩ : ∃H:Hd (Int×List Int),H=⟨fun (j,L)=>0≤j∧j≤(eo b q).length ∧L=pF t b q j,fun (j,L)=>((eo b q).length - j).toNat,(· < ·)⟩:=⟨_,rfl⟩
 have hl2 : ∀m n,H2.lt m n→m<n:=by subst hH2;exact fun _ _ h=>h
 obtain⟨H3,hH3⟩ : ∃H:(Int×List Int)→Hd (Int×Int),H=fun (j,L)=>⟨fun (k,m)=>0≤k∧k≤(cH b q j).length ∧m=cqS t b q j k,fun (k,m)=>((cH b q j).length - k).toNat,(· < ·)⟩:=⟨_,rfl⟩
 have hl3 : ∀x m n,(H3 x).lt m n→m<n:=by subst hH3;exact fun _ _ _ h=>h
 generalize hP:std=p,hB0:bJ=B0,hB1:lsI=B1,hB2:i7=B2,hB3:wfV=B3,hB4:eC=B4,hB5:eo=B5,hB6:cH=B6,hB7:ar=B7,hB8:m3=B8,hB9:ii=B9,hB10:yn=B10,hB11:cI=B11,hB12:Bd.inB=B12,hB13:aq=B13,hB14:u8=B14
 cbv
 repeat' first|refine fun (_:Unit)=>?_;cbv|refine Or.inr ⟨26,[],[.s 25 (.i .i64),.s 7 (.i .i64)],[],[],H,rfl,hl,?_,fun ((k,m):Int×Int) hk=>?_⟩<;>cbv|refine Or.inr ⟨52,[],[.s 51 (.i .i64),.o 3 [.i .i64]],[.s 10],[],H2,rfl,hl2,?_,fun ((j,L):Int×List Int) hk2=>?_⟩<;>cbv|refine Or.inr ⟨71,[],[.s 70 (.i .i64),.s 17 (.i .i64)],[],[],H3 (j,L),rfl,hl3 _,?_,fun ((k,m):Int×Int) hk3=>?_⟩<;>cbv|refine aI2 (fun h=>?_) (fun h=>?_)<;>cbv|refine aI2 ?_ ?_
 all_goals subst hP hB0 hB1 hB2 hB3 hB4 hB5 hB6 hB7 hB8 hB9 hB10 hB11 hB12 hB13 hB14 hH hH2 hH3
 all_goals clear hl
 all_goals try dsimp only at hk
 all_goals clear hl2
 all_goals try dsimp only at hk2
 all_goals clear hl3
 all_goals try dsimp only at hk3
 all_goals try dsimp only
 all_goals try exact fin
 all_goals try simp only [eD,fV,iR] at *
 all_goals obtain⟨q0,q1,rfl⟩:=hk
 all_goals have hls:=Aq t b q
 all_goals have hw:=hp.vp.hi
 all_goals have hcl:=wt hp.vp
 all_goals have hc1:=GM (b:=b) (q:=q)
 all_goals have hM:(ar b q).Fit :=xy hp.vp
 all_goals have hts:=hp.ts
 ·have q1:k≤((lsI t b q).length : Int):=q1
  have hlt:k<((lsI t b q).length : Int):=ah ‹_›
  have h5:=mZ (LN (b:=b) (q:=q) hp.ts) (by decide) (k:=k+1) (by omega)
  rw [mI q0 hlt] at h5
  exact an (by show _≤((lsI t b q).take k.toNat).sum + (lsI t b q).getD k.toNat 0∧((lsI t b q).take k.toNat).sum + (lsI t b q).getD k.toNat 0≤_;omega)
 ·have hlt:k<((lsI t b q).length : Int):=ah ‹_›
  exact an (by show _≤k+1∧k+1≤_;omega)
 ·have hlt:k<((lsI t b q).length : Int):=ah ‹_›
  exact⟨by show 0≤k+1;omega,by show k+1≤((lsI t b q).length : Int);omega,(mI q0 hlt).symm⟩
 ·exact⟨by rw [bu];have:=DV hp.vp;omega,_,rfl⟩
 ·have hge:((lsI t b q).length : Int)≤k:=ao ‹_›
  have hm:=FR hp.ts hp.vp
  rw [bZ hge,wT]
  exact an (by show _≤(lsI t b q).sum * wfL (i7 b q)∧(lsI t b q).sum * wfL (i7 b q)≤_;omega)
 ·have hge:((lsI t b q).length : Int)≤k:=ao ‹_›
  rw [bZ hge,wT]
  exact⟨Int.le_refl 0,Int.natCast_nonneg _,rfl⟩
 all_goals obtain⟨p0,p1,rfl⟩:=hk2
 all_goals have p1:j≤((eo b q).length : Int):=p1
 all_goals have hpl:=zB (t:=t) (j:=j) hp.vp
 all_goals have hsl:(cH b q j).length ≤32:=E0 j.toNat
 all_goals try (have hj:j<((eo b q).length : Int):=ah ‹_›;have hin:=Qi hp.vp p0 hj)
 ·exact⟨p0,by show j<((eC b q).length : Int);omega⟩
 ·exact⟨p0,by show j<((eC b q).length : Int);omega⟩
 ·exact hin
 ·exact⟨Int.le_refl 0,Int.natCast_nonneg _,rfl⟩
 all_goals try (obtain⟨r0,r1,rfl⟩:=hk3)
 all_goals try (have r1:k≤((cH b q j).length : Int):=r1)
 all_goals try (have hlt:k<((cH b q j).length : Int):=ah ‹_›)
 all_goals try (have hbd:=LT (b:=b) (q:=q) (j:=j) (k:=k) hts r0)
 all_goals try (have hbd1:=LT (b:=b) (q:=q) (j:=j) (k:=k+1) hts (by omega);have hsu:=NH (t:=t) r0 hlt)
 ·exact⟨r0,hlt⟩
 ·exact⟨p0,by show j<((eC b q).length : Int);omega⟩
 ·exact hM
 ·exact J3
 ·exact LR b _ _
 ·have h1:=Hh (s:=(cH b q j).getD k.toNat (0,0)) (a:=(eC b q).getD j.toNat (0,0)) ‹_›
  have h2:=Gh (t:=t) (b:=b) (M:=ar b q) h1
  rw [hsu,h2] at hbd1
  exact an (by show _≤cqS t b q j k+yn t (ii (ar b q) ((cH b q j).getD k.toNat (0,0)).1 ((cH b q j).getD k.toNat (0,0)).2) (m3 b ((eC b q).getD j.toNat (0,0)).1 ((eC b q).getD j.toNat (0,0)).2)∧cqS t b q j k+yn t (ii (ar b q) ((cH b q j).getD k.toNat (0,0)).1 ((cH b q j).getD k.toNat (0,0)).2) (m3 b ((eC b q).getD j.toNat (0,0)).1 ((eC b q).getD j.toNat (0,0)).2)≤_;omega)
 ·exact an (by show _≤k+1∧k+1≤_;omega)
 ·have h1:=Hh (s:=(cH b q j).getD k.toNat (0,0)) (a:=(eC b q).getD j.toNat (0,0)) ‹_›
  have h2:=Gh (t:=t) (b:=b) (M:=ar b q) h1
  rw [h2] at hsu
  exact⟨by show 0≤k+1;omega,by show k+1≤((cH b q j).length : Int);omega,hsu.symm⟩
 ·show (((cH b q j).length : Int)-(k+1)).toNat < (((cH b q j).length : Int)-k).toNat
  omega
 ·exact hM
 ·exact J3
 ·have h1:=Hh (s:=(cH b q j).getD k.toNat (0,0)) (a:=(eC b q).getD j.toNat (0,0)) ‹_›
  have h2:=Ku (t:=t) (b:=b) (M:=ar b q) h1
  rw [hsu,h2] at hbd1
  exact an (by show _≤cqS t b q j k+cI t (u8 (ii (ar b q) ((cH b q j).getD k.toNat (0,0)).1 ((cH b q j).getD k.toNat (0,0)).2))∧cqS t b q j k+cI t (u8 (ii (ar b q) ((cH b q j).getD k.toNat (0,0)).1 ((cH b q j).getD k.toNat (0,0)).2))≤_;omega)
 ·exact an (by show _≤k+1∧k+1≤_;omega)
 ·have h1:=Hh (s:=(cH b q j).getD k.toNat (0,0)) (a:=(eC b q).getD j.toNat (0,0)) ‹_›
  have h2:=Ku (t:=t) (b:=b) (M:=ar b q) h1
  rw [h2] at hsu
  exact⟨by show 0≤k+1;omega,by show k+1≤((cH b q j).length : Int);omega,hsu.symm⟩
 ·show (((cH b q j).length : Int)-(k+1)).toNat < (((cH b q j).length : Int)-k).toNat
  omega
 ·exact⟨by show 1≤15;omega,[b.prm ((eC b q).getD j.toNat (0,0)).1 ((eC b q).getD j.toNat (0,0)).2],rfl⟩
 all_goals have hq:=Ma b ((eC b q).getD j.toNat (0,0)).1 ((eC b q).getD j.toNat (0,0)).2
 ·have hge:((cH b q j).length : Int)≤k:=ao ‹_›
  have h1:=Hm (t:=t) p0 hj hge
  have h2:=MT (t:=t) hts p0 hj
  exact an (by
   show _≤cqS t b q j k*wfV [m3 b ((eC b q).getD j.toNat (0,0)).1 ((eC b q).getD j.toNat (0,0)).2]∧cqS t b q j k*wfV [m3 b ((eC b q).getD j.toNat (0,0)).1 ((eC b q).getD j.toNat (0,0)).2]≤_
   rw [hq,h1];omega)
 ·show ((pF t b q j).length : Int)+1≤_
  omega
 ·exact an (by show _≤j+1∧j+1≤_;omega)
 ·have hge:((cH b q j).length : Int)≤k:=ao ‹_›
  refine⟨by show 0≤j+1;omega,by show j+1≤((eo b q).length : Int);omega,?_⟩
  show pF t b q j++[cqS t b q j k*wfV [m3 b ((eC b q).getD j.toNat (0,0)).1 ((eC b q).getD j.toNat (0,0)).2]]=pF t b q (j+1)
  rw [H6 p0 hj,hq,Hm p0 hj hge]
 ·rw [zj (ao ‹_›)]
theorem vV:FOk Tryz.prog 207 (ky std):=FOk.frz sY fun ⟨t,b,q⟩=>⟨by simp [deep,eK,AH.get],by simp [PV.idIn,cP]⟩
end Ax
end Go.Proofs.YtjjonmhpgkahoaaGreatDoor
