/-
  The text of the small tile set: walked (its words one by one, at their own letters).
  Conditions: none.
-/
import Derived.Test.YtjjonmhpgkahoaaGreatDoorH26
import Derived.Test.YtjjonmhpgkahoaaGreatDoorH14
set_option linter.unusedSimpArgs false
set_option linter.unusedVariables false
namespace Go.Proofs.YtjjonmhpgkahoaaGreatDoor
namespace Ax
set_option maxRecDepth 100000
set_option maxHeartbeats 2000000
def jQ (p:Pr):aa:=fsp (a1 aI) (fun n=>n=1∨n=2∨n=3) (fun n=>.s (UM n))
theorem uL:FOk Tryz.prog 149 (jQ std):=by
 refine FOk.go (c:=cx std [] [] 0) (ae .nil .nil) mixed Tryz.func149 rfl rfl rfl (by kernel_rfl) ?_
 rintro n hp
 rcases hp with rfl | rfl | rfl
 all_goals
  refine⟨rfl,?_⟩
  cbv
  repeat' first|refine fun (_:Unit)=>?_;cbv|(refine aI2 (fun h=>?_) (fun h=>?_)<;>first | exact absurd h (by decide) | cbv)|refine aI2 ?_ ?_|refine Or.inl (fun (_:Unit)=>?_);cbv
 all_goals try exact Int.NonNeg.mk _
 all_goals try exact fin
def Oa (n:Int):Bool:=decide (48≤n)&&decide (n≤57)
def ma (p:Pr):aa:=fsp (a1 aC) (fun n=>True) (fun n=>.b (Oa n))
theorem yQ:FOk Tryz.prog 330 (ma std):=by
 refine FOk.go (c:=cx std [] [] 0) (ae .nil .nil) mixed Tryz.func330 rfl rfl rfl (by kernel_rfl) ?_
 rintro n hp
 refine⟨rfl,?_⟩
 generalize hP:std=p,hB0:Oa=B0
 cbv
 repeat' first|refine fun (_:Unit)=>?_;cbv|refine aI2 (fun h=>?_) (fun h=>?_)<;>cbv|refine aI2 ?_ ?_|refine Or.inl (fun (_:Unit)=>?_);cbv
 all_goals subst hP hB0
 all_goals try exact fin
 ·have h1:decide (48≤n)=true:=h
  unfold Oa
  rw [h1,Bool.true_and];rfl
 ·have h1:decide (48≤n)=false:=h
  unfold Oa
  rw [h1,Bool.false_and]
def dx (p:Pr):aa:=fsp (a1 aS) (fun s=>s=[49]∨s=[50]∨s=[51]) (fun s=>.tup [.i .i64 (NA s),.bt])
theorem lk:FOk Tryz.prog 314 (dx std):=by
 refine FOk.go (c:=cx std [(330,ma std),(149,jQ std)] [] 0) (ae (.cons yQ (.cons uL .nil)) .nil) mixed Tryz.func314 rfl rfl rfl (by kernel_rfl) ?_
 rintro s hp
 rcases hp with rfl | rfl | rfl
 all_goals
  refine⟨rfl,?_⟩
  unfold ma jQ
  cbv
  repeat' first|refine fun (_:Unit)=>?_;cbv|(refine aI2 (fun h=>?_) (fun h=>?_)<;>first | exact absurd h (by decide) | cbv)|refine aI2 ?_ ?_|refine Or.inl (fun (_:Unit)=>?_);cbv
 all_goals try exact Int.NonNeg.mk _
 all_goals try exact fin
section
variable {s:List UInt8} {c:UInt8} {f k:Int} {L:List (List UInt8)}
theorem Sz (h0:0≤k) (h:k<s.length) (hc:s.getD k.toNat 0=c) (e:mp c s=L++kY c ((s.take k.toNat).drop f.toNat) (s.drop k.toNat)):mp c s=(L++[(s.take k.toNat).drop f.toNat])++kY c ((s.take (k+1).toNat).drop (k+1).toNat) (s.drop (k+1).toNat):=by
 rw [e,dc h0 h 0,kY,if_pos hc,List.append_assoc,List.drop_of_length_le (l:=s.take (k+1).toNat) (by rw [List.length_take];omega)];rfl
theorem Tt (h0:0≤k) (h:k<s.length) (hf:f≤k) (hf0:0≤f) (hc : ¬s.getD k.toNat 0=c) (e:mp c s=L++kY c ((s.take k.toNat).drop f.toNat) (s.drop k.toNat)):mp c s=L++kY c ((s.take (k+1).toNat).drop f.toNat) (s.drop (k+1).toNat):=by
 rw [e,dc h0 h 0,kY,if_neg hc,tk h0 h 0,List.drop_append_of_le_length (by rw [List.length_take];omega)]
theorem SU (h:(s.length:Int)≤k) (e:mp c s=L++kY c ((s.take k.toNat).drop f.toNat) (s.drop k.toNat)):L++[s.drop f.toNat]=mp c s:=by
 rw [e,dn h,bZ h];rfl
end
def cV (p:Pr):aa:=fsp (ac aS (a1 aC)) (fun (s,c)=>p.leP (p.lenS s) 1048576∧p.inK .u8 c) (fun (s,c)=>.osl 0) (fun (s,c)=>[(0,.own [.s] (mp (u8 c) s) 9)])
theorem jJ:FOk Tryz.prog 283 (cV std):=by
 refine FOk.go (c:=cx std [] [] 0) (ae .nil .nil) mixed Tryz.func283 rfl rfl rfl (by kernel_rfl) ?_
 rintro ⟨s,c⟩ hp
 dsimp only at hp
 refine⟨rfl,?_⟩
 obtain⟨H,hH⟩ : ∃H:Hd (Int×Int×List (List UInt8)),H=⟨fun (f,k,L)=>0≤f∧f≤k∧k≤s.length∧L.length≤k∧mp (u8 c) s=L++kY (u8 c) ((s.take k.toNat).drop f.toNat) (s.drop k.toNat),fun (f,k,L)=>(s.length-k).toNat,(· < ·)⟩:=⟨_,rfl⟩
 have hl:=hdl hH
 generalize hP:std=p,hB0:mp=B0,hB1:u8=B1
 cbv
 repeat' first|refine fun (_:Unit)=>?_;cbv|refine Or.inr ⟨9,[],[.s 6 (.i .i64),.s 7 (.i .i64),.o 0 [.s]],[.s 5],[],H,rfl,hl,?_,fun ((f,k,L):Int×Int×List (List UInt8)) hk=>?_⟩<;>cbv|refine aI2 (fun h=>?_) (fun h=>?_)<;>cbv|refine aI2 ?_ ?_
 all_goals subst hP hB0 hB1 hH
 all_goals clear hl
 all_goals try dsimp only at hk
 all_goals try dsimp only
 all_goals try exact fin
 ·exact⟨Int.le_refl 0,Int.le_refl 0,Int.natCast_nonneg _,Int.le_refl 0,rfl⟩
 all_goals obtain⟨q0,q1,q2,q3,q4⟩:=hk
 all_goals have hn:0≤c∧c≤255:=hp.2
 all_goals have hu:u8 c=UInt8.ofNat c.toNat:=rfl
 all_goals have h0:0≤k:=Int.le_trans q0 q1
 all_goals try (have hlt:k<(s.length:Int):=ah ‹_›)
 ·refine⟨by show 0≤k+1;omega,Int.le_refl _,by show k+1≤(s.length:Int);omega,?_,Sz h0 hlt (by rw [hu];exact ES h hn) q4⟩
  have h3:(L.length:Int)≤k:=q3
  show ((L++[_]).length : Int)≤k+1
  rw [List.length_append,List.length_singleton];omega
 ·exact⟨q0,by show f≤k+1;omega,by show k+1≤(s.length:Int);omega,by have h3:(L.length:Int)≤k:=q3;show (L.length:Int)≤k+1;omega,Tt h0 hlt q1 q0 (by rw [hu];exact Fh h hn) q4⟩
 ·exact congrArg (fun z=>Ob.own [.s] z 9) (SU (ao h) q4)
def mT0:je (List UInt8):=⟨fun H l=>match H,l with
 | [(0,.cells [.s [],.esl,.esl,.i .i64 0] t)],[.ptr 0 0,.s w]=>if t=26 then some w else none
 | _,_=>none,fun _=>[(0,.cells [.s [],.esl,.esl,.i .i64 0] 26)],fun w=>[.ptr 0 0,.s w],fun H l a h=>by
   split at h
   ·split at h
    ·rename_i ht
     cases h
     rw [ht]
     exact⟨rfl,rfl⟩
    ·cases h
   ·cases h⟩
def hT:Nat×Ob→Option (List UInt8×Int)
 | (0,.cells [.s a,.osl 1,.osl 2,.i .i64 d] t)=>if t=26 then some (a,d) else none
 | _=>none
theorem SN {x:Nat×Ob} {a:List UInt8} {d:Int} (h:hT x=some (a,d)):x=(0,.cells [.s a,.osl 1,.osl 2,.i .i64 d] 26):=by
 unfold hT at h
 split at h
 ·split at h
  ·rename_i ht
   cases h
   rw [ht]
  ·cases h
 ·cases h
def mTw (b:List UInt8→Bool):je (TS×List UInt8):=⟨fun H l=>match H,l with
 | [x0,x1,x2],[.ptr 0 0,.s w]=>match hT x0,hN x1,hN x2 with
   | some (a,d),some (1,v),some (2,c)=>if b w then some (⟨a,v,c,d⟩,w) else none
   | _,_,_=>none
 | _,_=>none,fun a=>[(0,.cells (tsK a.1 (.osl 1) (.osl 2)) 26),(1,.own [.i .i64] a.1.values 2),(2,.own [.i .i64] a.1.counts 2)],fun a=>[.ptr 0 0,.s a.2],fun H l a h=>by
   split at h
   ·split at h
    ·rename_i h0 h1 h2
     split at h
     ·cases h
      exact⟨by rw [SN h0,kT h1,kT h2];rfl,rfl⟩
     ·cases h
    ·cases h
   ·cases h⟩
def SL (w:List UInt8):Bool:=match w with
 | 63::_=>true
 | _=>false
def tA (p:Pr):bX:=msp mT0 (fun w=>w=[97,49,120,51]) (fun w=>.b true) (fun w=>[(0,.cells (tsK ⟨[97],[1],[3],0⟩ (.osl 1) (.osl 2)) 26),(1,.own [.i .i64] [1] 2),(2,.own [.i .i64] [3] 2)])
theorem AD:MOk Tryz.prog 284 (tA std):=by
 refine MOk.go (c:=cx std [(283,cV std),(314,dx std)] [] 1) (ae (.cons jJ (.cons lk .nil)) .nil) mixed Tryz.func284 rfl rfl (by kernel_rfl) ?_
 rintro w hp
 subst hp
 all_goals
  refine⟨rfl,?_⟩
  unfold cV dx
  cbv
  repeat' first|refine fun (_:Unit)=>?_;cbv|(refine aI2 (fun h=>?_) (fun h=>?_)<;>first | exact absurd h (by decide) | cbv)|refine aI2 ?_ ?_|refine Or.inl (fun (_:Unit)=>?_);cbv
 all_goals try exact Int.NonNeg.mk _
 all_goals try exact fin
def sS (p:Pr):bX:=msp (mTw fun w=>!SL w) (fun (t,w)=>(t=⟨[97],[1],[3],0⟩∧w=[101,49,120,51])∨(t=⟨[97,101],[1,1],[3,3],0⟩∧w=[110,50,120,50])∨(t=⟨[97,101,110],[1,1,2],[3,3,2],0⟩∧w=[114,50,120,50])∨(t=⟨[97,101,110,114],[1,1,2,2],[3,3,2,2],0⟩∧w=[115,49,120,50])∨(t=⟨[97,101,110,114,115],[1,1,2,2,1],[3,3,2,2,2],0⟩∧w=[116,50,120,50])) (fun (t,w)=>.b true) (fun (t,w)=>[(0,.cells (tsK (GH t w) (.osl 3) (.osl 4)) 26),(3,.own [.i .i64] (GH t w).values 2),(4,.own [.i .i64] (GH t w).counts 2),(1,.gone),(2,.gone)])
theorem BZ:MOk Tryz.prog 284 (sS std):=by
 refine MOk.go (c:=cx std [(283,cV std),(314,dx std)] [] 3) (ae (.cons jJ (.cons lk .nil)) .nil) mixed Tryz.func284 rfl rfl (by kernel_rfl) ?_
 rintro ⟨t,w⟩ hp
 dsimp only at hp
 rcases hp with ⟨rfl,rfl⟩ | ⟨rfl,rfl⟩ | ⟨rfl,rfl⟩ | ⟨rfl,rfl⟩ | ⟨rfl,rfl⟩
 all_goals
  refine⟨rfl,?_⟩
  unfold cV dx
  cbv
  repeat' first|refine fun (_:Unit)=>?_;cbv|(refine aI2 (fun h=>?_) (fun h=>?_)<;>first | exact absurd h (by decide) | cbv)|refine aI2 ?_ ?_|refine Or.inl (fun (_:Unit)=>?_);cbv
 all_goals try exact Int.NonNeg.mk _
 all_goals try exact fin
def sV (p:Pr):bX:=msp (mTw SL) (fun (t,w)=>t=⟨[97,101,110,114,115,116],[1,1,2,2,1,2],[3,3,2,2,2,2],0⟩∧w=[63,120,49]) (fun (t,w)=>.b true) (fun (t,w)=>[(0,.cells (tsK (GH t w) (.osl 1) (.osl 2)) 26),(1,.own [.i .i64] t.values 2),(2,.own [.i .i64] t.counts 2)])
theorem BM:MOk Tryz.prog 284 (sV std):=by
 refine MOk.go (c:=cx std [(283,cV std),(314,dx std)] [] 3) (ae (.cons jJ (.cons lk .nil)) .nil) mixed Tryz.func284 rfl rfl (by kernel_rfl) ?_
 rintro ⟨t,w⟩ hp
 dsimp only at hp
 obtain⟨rfl,rfl⟩:=hp
 all_goals
  refine⟨rfl,?_⟩
  unfold cV dx
  cbv
  repeat' first|refine fun (_:Unit)=>?_;cbv|(refine aI2 (fun h=>?_) (fun h=>?_)<;>first | exact absurd h (by decide) | cbv)|refine aI2 ?_ ?_|refine Or.inl (fun (_:Unit)=>?_);cbv
 all_goals try exact Int.NonNeg.mk _
 all_goals try exact fin
def n6 (p:Pr):bX:=(tA p).or ((sS p).or (sV p))
theorem Bp:MOk Tryz.prog 284 (n6 std):=AD.or (BZ.or BM)
def nV (p:Pr):aa:=fsp (a1 (aP aTs)) (fun t=>t=⟨[97,101,110,114,115,116],[1,1,2,2,1,2],[3,3,2,2,2,2],1⟩) (fun t=>.s EL)
theorem BV:FOk Tryz.prog 285 (nV std):=by
 refine FOk.go (c:=cx std [(149,jQ std)] [] 0) (ae (.cons uL .nil) .nil) mixed Tryz.func285 rfl rfl rfl (by kernel_rfl) ?_
 rintro t hp
 subst hp
 all_goals
  refine⟨rfl,?_⟩
  unfold jQ
  cbv
  repeat' first|refine fun (_:Unit)=>?_;cbv|(refine aI2 (fun h=>?_) (fun h=>?_)<;>first | exact absurd h (by decide) | cbv)|refine aI2 ?_ ?_|refine Or.inl (fun (_:Unit)=>?_);cbv
 all_goals try exact Int.NonNeg.mk _
 all_goals try exact fin
theorem R2 (h:tsB px=false):False:=by rw [DZ] at h;cases h
def n4 (p:Pr):aa:=fsp (a1 aS) (fun s=>s=EL) (fun s=>.tup [.agg (tsK ⟨[97,101,110,114,115,116],[1,1,2,2,1,2],[3,3,2,2,2,2],1⟩ (.osl 0) (.osl 1)),.bt]) (fun s=>[(0,.own [.i .i64] [1,1,2,2,1,2] 2),(1,.own [.i .i64] [3,3,2,2,2,2] 2)])
theorem Ar:FOk Tryz.prog 229 (n4 std):=by
 refine FOk.go (c:=cx std [(283,cV std),(171,lH std),(285,nV std)] [(284,n6 std)] 0) (ae (.cons jJ (.cons xg (.cons BV .nil))) (.cons Bp .nil)) mixed Tryz.func229 rfl rfl rfl (by kernel_rfl) ?_
 rintro s hp
 subst hp
 all_goals
  refine⟨rfl,?_⟩
  unfold cV n6 lH nV
  generalize hB0:tsB=B0
  cbv
  repeat' first|refine fun (_:Unit)=>?_;cbv|(refine aI2 (fun h=>?_) (fun h=>?_)<;>first | exact absurd h (by decide) | cbv)|refine aI2 ?_ ?_|refine Or.inl (fun (_:Unit)=>?_);cbv
 all_goals subst hB0
 all_goals try (exfalso;exact R2 ‹_›)
 all_goals try exact Int.NonNeg.mk _
 all_goals try exact fin
 ·exact⟨by decide,by decide,by decide⟩
def KJ:List UInt8:=[115,109,97,108,108]
def jF (p:Pr):aa:=fsp (a1 aS) (fun s=>s=KJ) (fun s=>.s EL)
theorem uz:FOk Tryz.prog 230 (jF std):=by
 refine FOk.go (c:=cx std [] [] 0) (ae .nil .nil) mixed Tryz.func230 rfl rfl rfl (by kernel_rfl) ?_
 rintro s hp
 subst hp
 all_goals
  refine⟨rfl,?_⟩
  cbv
  repeat' first|refine fun (_:Unit)=>?_;cbv|(refine aI2 (fun h=>?_) (fun h=>?_)<;>first | exact absurd h (by decide) | cbv)|refine aI2 ?_ ?_|refine Or.inl (fun (_:Unit)=>?_);cbv
 all_goals try exact Int.NonNeg.mk _
 all_goals try exact fin
def gT (p:Pr):aa:=fsp (a1 aS) (fun s=>s=KJ) (fun s=>.tup [.agg (tsK ⟨[97,101,110,114,115,116],[1,1,2,2,1,2],[3,3,2,2,2,2],1⟩ (.osl 0) (.osl 1)),.i .i64 0]) (fun s=>[(0,.own [.i .i64] [1,1,2,2,1,2] 2),(1,.own [.i .i64] [3,3,2,2,2,2] 2)])
theorem rE:FOk Tryz.prog 153 (gT std):=by
 refine FOk.go (c:=cx std [(230,jF std),(229,n4 std)] [] 0) (ae (.cons uz (.cons Ar .nil)) .nil) mixed Tryz.func153 rfl rfl rfl (by kernel_rfl) ?_
 rintro s hp
 subst hp
 all_goals
  refine⟨rfl,?_⟩
  unfold jF n4
  cbv
  repeat' first|refine fun (_:Unit)=>?_;cbv|(refine aI2 (fun h=>?_) (fun h=>?_)<;>first | exact absurd h (by decide) | cbv)|refine aI2 ?_ ?_|refine Or.inl (fun (_:Unit)=>?_);cbv
 all_goals try exact Int.NonNeg.mk _
 all_goals try exact fin
end Ax
end Go.Proofs.YtjjonmhpgkahoaaGreatDoor
