/-
  Racks, words, lexicons of the spec package.
  Conditions: none.
-/
import Derived.Test.YtjjonmhpgkahoaaGreatDoorH10
set_option linter.unusedSimpArgs false
set_option linter.unusedVariables false
namespace Go.Proofs.YtjjonmhpgkahoaaGreatDoor
namespace Ax
set_option maxRecDepth 100000
def iO (p:Pr):aa:=fsp (a1 aS) (fun s=>p.ltM (p.lenS s)) (fun s=>.b (aM s))
theorem tx:FOk Tryz.prog 185 (iO std):=by
 refine FOk.go (c:=cx std [(106,bU std)] [] 0) (ae (.cons fI .nil) .nil) mixed Tryz.func185 rfl rfl rfl (by kernel_rfl) ?_
 rintro s hp
 refine⟨rfl,?_⟩
 unfold bU
 generalize hP:std=p,hB0:aM=B0,hB1:cu=B1
 cbv
 repeat' first|refine fun (_:Unit)=>?_;cbv|refine aI2 (fun h=>?_) (fun h=>?_)<;>cbv|refine aI2 ?_ ?_|refine Or.inl (fun (_:Unit)=>?_);cbv
 all_goals subst hP hB0 hB1
 all_goals try exact fin
 all_goals (simp [std,aM] at * <;>first | lia | (simp_all;done))
def shf (S:List UInt8) (c:UInt8) (k:Int):List UInt8:=(S++[c]).take (k.toNat+1)++S.drop k.toNat
section
variable {S:List UInt8} {c:UInt8} {k:Int}
theorem Mu (h0:0≤k) (h:k≤S.length):(shf S c k).length =S.length+1:=by unfold shf;simp;omega
theorem Au (h0:1≤k) (h:k≤S.length):(shf S c k).getD (k-1).toNat 0=S.getD (k-1).toNat 0:=by
 have h1:(k-1).toNat < S.length:=by omega
 unfold shf
 rw [List.getD_eq_getElem?_getD,List.getElem?_append_left (by simp;omega),List.getElem?_take,if_pos (by omega),List.getElem?_append_left h1,List.getD_eq_getElem?_getD]
theorem N5 (h0:1≤k) (h:k≤S.length):(shf S c k).set k.toNat (S.getD (k-1).toNat 0)=shf S c (k-1):=by
 have h1:(k-1).toNat < S.length:=by omega
 have h2:k.toNat=(k-1).toNat + 1:=by omega
 apply List.ext_getElem?
 intro i
 unfold shf
 rw [List.getElem?_set,h2]
 by_cases hi:(k-1).toNat + 1=i
 ·subst hi
  rw [if_pos rfl,if_pos (by simp;omega),List.getElem?_append_right (by simp only [List.length_take,List.length_append,List.length_singleton];omega),List.getElem?_drop,List.getD_eq_getElem?_getD]
  simp only [List.length_take,List.length_append,List.length_singleton]
  rw [show (k-1).toNat + ((k-1).toNat + 1-min ((k-1).toNat + 1) (S.length+1))=(k-1).toNat from by omega,List.getElem?_eq_getElem h1]
  rfl
 ·rw [if_neg hi]
  by_cases hlt:i<(k-1).toNat + 1
  ·rw [List.getElem?_append_left (by simp;omega),List.getElem?_append_left (by simp only [List.length_take,List.length_append,List.length_singleton];omega),List.getElem?_take,List.getElem?_take,if_pos (by omega),if_pos hlt]
  ·rw [List.getElem?_append_right (by simp;omega),List.getElem?_append_right (by simp only [List.length_take,List.length_append,List.length_singleton];omega),List.getElem?_drop,List.getElem?_drop]
   simp only [List.length_take,List.length_append,List.length_singleton]
   congr 1
   omega
theorem Gf (h0:0≤k) (h:k≤S.length) (hk:oz S c S.length=k.toNat):(shf S c k).set k.toNat c=tH S c:=by
 unfold tH shf
 rw [hk]
 apply List.ext_getElem?
 intro i
 rw [List.getElem?_set]
 by_cases hi:k.toNat=i
 ·subst hi
  rw [if_pos rfl,if_pos (by simp;omega),List.getElem?_append_right (by simp;omega)]
  simp only [List.length_take]
  rw [show k.toNat-min k.toNat S.length=0 from by omega]
  rfl
 ·rw [if_neg hi]
  by_cases hlt:i<k.toNat
  ·rw [List.getElem?_append_left (by simp;omega),List.getElem?_append_left (by simp;omega),List.getElem?_take,List.getElem?_take,if_pos (by omega),if_pos hlt,List.getElem?_append_left (by omega)]
  ·rw [List.getElem?_append_right (by simp;omega),List.getElem?_append_right (by simp;omega),List.getElem?_drop,show i-(List.take k.toNat S).length =(i-k.toNat-1)+1 from by simp;omega,List.getElem?_cons_succ,List.getElem?_drop]
   simp only [List.length_take,List.length_append,List.length_singleton]
   congr 1
   omega
theorem NU (h:k=S.length):shf S c k=S++[c]:=by subst h;unfold shf;simp [List.take_of_length_le]
theorem z8 (h0:1≤k):oz S c k.toNat=if (c.toNat:Int)<((S.getD (k-1).toNat 0).toNat : Int) then oz S c (k-1).toNat else k.toNat:=by
 obtain⟨n,hn⟩ : ∃n,k.toNat=n+1:=⟨k.toNat-1,by omega⟩
 rw [hn,show (k-1).toNat =n from by omega]
 show (if c.toNat<(S[n]?.getD 0).toNat then oz S c n else n+1)=_
 rw [List.getD_eq_getElem?_getD]
 simp only [Int.ofNat_lt]
end
theorem zt {s:List UInt8} {i:Int} (h0:0≤i) (h:i<s.length):au (s.take (i+1).toNat)=tH (au (s.take i.toNat)) (s.getD i.toNat 0):=by
 rw [tk h0 h 0]
 simp [au,List.foldl_append]
theorem IY {s:List UInt8} {i:Int} (h0:0≤i) (h:i≤s.length):((au (s.take i.toNat)).length : Int)=i:=by rw [ax,List.length_take];omega
def aQ (p:Pr):aa:=fsp (a1 aS) (fun s=>p.ltM (p.lenS s)) (fun s=>.s (au s))
theorem cT:FOk Tryz.prog 74 (aQ std):=by
 refine FOk.go (c:=cx std [] [] 0) (ae .nil .nil) mixed Tryz.func74 rfl rfl rfl (by kernel_rfl) ?_
 rintro s hp
 refine⟨rfl,?_⟩
 obtain⟨H,hH⟩ : ∃H:Hd (Int×List Int),H=⟨fun (i,L)=>0≤i∧i≤s.length∧L=aq (au (s.take i.toNat)),fun (i,L)=>(s.length-i).toNat,(· < ·)⟩:=⟨_,rfl⟩
 have hl:=hdl hH
 obtain⟨H2,hH2⟩ : ∃H:(Int×List Int)→Hd (Int×List Int),H=fun (i,L)=>⟨fun (k,M)=>0≤k∧k≤i∧M=aq (shf (au (s.take i.toNat)) (s.getD i.toNat 0) k)∧oz (au (s.take i.toNat)) (s.getD i.toNat 0) (au (s.take i.toNat)).length =oz (au (s.take i.toNat)) (s.getD i.toNat 0) k.toNat,fun (k,M)=>k.toNat,(· < ·)⟩:=⟨_,rfl⟩
 have hl2 : ∀x m n,(H2 x).lt m n→m<n:=by subst hH2;exact fun _ _ _ h=>h
 generalize hP:std=p,hB0:au=B0
 cbv
 repeat' first|refine fun (_:Unit)=>?_;cbv|refine Or.inr ⟨7,[],[.s 4 (.i .i64),.o 0 [.i .u8]],[.s 3],[],H,rfl,hl,?_,fun ((i,L):Int×List Int) hk=>?_⟩<;>cbv|refine Or.inr ⟨21,[],[.s 5 (.i .i64),.o 2 [.i .u8]],[],[],H2 (i,L),rfl,hl2 _,?_,fun ((k,M):Int×List Int) hk2=>?_⟩<;>cbv|refine aI2 (fun h=>?_) (fun h=>?_)<;>cbv|refine aI2 ?_ ?_
 all_goals subst hP hB0 hH hH2
 all_goals clear hl
 all_goals try dsimp only at hk
 all_goals clear hl2
 all_goals try dsimp only at hk2
 all_goals try dsimp only
 all_goals try exact fin
 all_goals try (have hn:((au (s.take i.toNat)).length : Int)=i:=IY hk.1 hk.2.1)
 all_goals try (have hL:(L.length:Int)=i:=by rw [hk.2.2,bu];exact hn)
 all_goals try (have hM:(M.length:Int)=i+1:=by rw [hk2.2.2.1,bu,Mu hk2.1 (by omega)];omega)
 all_goals try first
  | exact⟨Int.le_refl 0,Int.natCast_nonneg _,rfl⟩
  | (simp [std] at *;lia)
 all_goals simp only [std] at *
 ·refine⟨by omega,by omega,?_,?_⟩
  ·rw [hk.2.2] at hL ⊢
   rw [NU (by rw [bu]),i6]
  ·rw [hk.2.2,bu];rfl
 ·obtain⟨q0,q1,q2,q3⟩:=hk2
  have h1:0<k:=by simpa using ‹decide (0<k)=true›
  subst q2
  rw [gC,Au (k:=k) (by omega) (by omega)] at h
  refine⟨by omega,by omega,by rw [gC,Au (k:=k) (by omega) (by omega),kI,N5 (k:=k) (by omega) (by omega)],?_⟩
  rw [q3,z8 (k:=k) (by omega),if_pos (by simpa using h)]
 ·obtain⟨q0,q1,q2,q3⟩:=hk2
  have h1:0<k:=by simpa using ‹decide (0<k)=true›
  have h2:i<s.length:=by simpa using ‹decide (i<_)=true›
  subst q2
  rw [gC,Au (k:=k) (by omega) (by omega)] at h
  have g2:i+1≤(s.length:Int):=by omega
  refine⟨by omega,g2,?_⟩
  rw [kI,Gf q0 (by omega) (by rw [q3,z8 (k:=k) (by omega),if_neg (by simpa using h)]),zt hk.1 h2]
 ·obtain⟨q0,q1,q2,q3⟩:=hk2
  have h1:k≤0:=by simpa using h
  have h2:i<s.length:=by simpa using ‹decide (i<_)=true›
  subst q2
  have g2:i+1≤(s.length:Int):=by omega
  refine⟨by omega,g2,?_⟩
  rw [kI,Gf q0 (by omega) (by rw [q3,show k.toNat=0 from by omega];rfl),zt hk.1 h2]
 ·rw [hk.2.2,cJ,bZ (by simpa using h)]
theorem F8 {x:UInt8} {a b:List UInt8} : bb (x::a) (x::b)=bb a b:=by rw [bb,if_pos rfl]
theorem GX {x y:UInt8} {a b:List UInt8} (h:y≠x):bb (x::a) (y::b)=(x::(bb a (y::b)).1,(bb a (y::b)).2):=by rw [bb,if_neg h]
theorem take_nil {x:UInt8} {a:List UInt8} : bb (x::a) []=(x::(bb a []).1,(bb a []).2):=by rw [bb,kW]
def bo (p:Pr):aa:=fsp (ac aS (a1 aS)) (fun (a,b)=>p.ltM (p.lenS a)∧p.ltM (p.lenS b)) (fun (a,b)=>.tup [.s (bR a b),.b (takeB a b)])
theorem dR:FOk Tryz.prog 126 (bo std):=by
 refine FOk.go (c:=cx std [] [] 0) (ae .nil .nil) mixed Tryz.func126 rfl rfl rfl (by kernel_rfl) ?_
 rintro ⟨a,b⟩ hp
 dsimp only at hp
 refine⟨rfl,?_⟩
 obtain⟨H,hH⟩ : ∃H:Hd (Int×Int×List Int),H=⟨fun (k,i,L)=>0≤i∧i≤a.length∧0≤k∧k≤b.length∧∃X,L=aq X∧(X.length:Int)≤i∧bb a b=(X++(bb (a.drop i.toNat) (b.drop k.toNat)).1,(bb (a.drop i.toNat) (b.drop k.toNat)).2),fun (k,i,L)=>(a.length-i).toNat,(· < ·)⟩:=⟨_,rfl⟩
 have hl:=hdl hH
 generalize hP:std=p,hB0:bR=B0,hB1:takeB=B1
 cbv
 repeat' first|refine fun (_:Unit)=>?_;cbv|refine Or.inr ⟨10,[],[.s 7 (.i .i64),.s 8 (.i .i64),.o 0 [.i .u8]],[.s 6],[],H,rfl,hl,?_,fun ((k,i,L):Int×Int×List Int) hk=>?_⟩<;>cbv|refine aI2 (fun h=>?_) (fun h=>?_)<;>cbv|refine aI2 ?_ ?_
 all_goals subst hP hB0 hB1 hH
 all_goals clear hl
 all_goals try dsimp only at hk
 all_goals try dsimp only
 all_goals try exact fin
 ·exact⟨Int.le_refl 0,Int.natCast_nonneg _,Int.le_refl 0,Int.natCast_nonneg _,[],rfl,Int.le_refl 0,rfl⟩
 all_goals obtain⟨q0,q1,q2,q3,X,rfl,q5,q4⟩:=hk
 all_goals simp only [std] at *
 all_goals try (simp only [bu] at *;simp at *;lia)
 ·have h1:i<a.length:=by simpa using ‹decide (i<_)=true›
  have h2:k<b.length:=by simpa using ‹decide (k<_)=true›
  have h3:b.getD k.toNat 0=a.getD i.toNat 0:=by rw [beq_iff_eq] at h;exact UInt8.toNat_inj.1 (by lia)
  have g1:i+1≤(a.length:Int):=by lia
  have g2:k+1≤(b.length:Int):=by lia
  have g3:(X.length:Int)≤i+1:=by lia
  refine⟨by lia,g1,by lia,g2,X,rfl,g3,?_⟩
  rw [q4,dc q0 h1 0,dc q2 h2 0,h3,F8]
 ·have h1:i<a.length:=by simpa using ‹decide (i<_)=true›
  have h2:k<b.length:=by simpa using ‹decide (k<_)=true›
  have h3:b.getD k.toNat 0≠a.getD i.toNat 0:=fun hh=>by rw [hh] at h;simp at h
  have g1:i+1≤(a.length:Int):=by lia
  have g2:((X++[a.getD i.toNat 0]).length : Int)≤i+1:=by simp only [List.length_append,List.length_singleton];lia
  refine⟨by lia,g1,q2,q3,X++[a.getD i.toNat 0],i6 _ _,g2,?_⟩
  rw [q4,dc q0 h1 0,dc q2 h2 0,GX h3]
  simp
 ·have h1:i<a.length:=by simpa using ‹decide (i<_)=true›
  have h2:(b.length:Int)≤k:=by simpa using h
  have g1:i+1≤(a.length:Int):=by lia
  have g2:((X++[a.getD i.toNat 0]).length : Int)≤i+1:=by simp only [List.length_append,List.length_singleton];lia
  refine⟨by lia,g1,q2,q3,X++[a.getD i.toNat 0],i6 _ _,g2,?_⟩
  rw [q4,dc q0 h1 0,dn h2,take_nil]
  simp
 ·have h2:(a.length:Int)≤i:=by simpa using h
  rw [bR,q4,dn h2,cJ]
  simp [bb]
 ·have h2:(a.length:Int)≤i:=by simpa using h
  rw [takeB,q4,dn h2]
  have h3:((b.drop k.toNat).isEmpty =true)↔k=b.length:=by
   rw [List.isEmpty_iff,List.drop_eq_nil_iff]
   lia
  rw [Bool.eq_iff_iff]
  simp only [bb]
  rw [h3,beq_iff_eq]
def ll (p:Pr):aa:=fsp (a1 aS) (fun s=>p.ltM (p.lenS s)) (fun s=>.b (cE s))
theorem xZ:FOk Tryz.prog 306 (ll std):=by
 refine FOk.go (c:=cx std [(89,ba std),(236,cg std),(219,cm std)] [] 0) (ae (.cons dm (.cons gk (.cons gA .nil))) .nil) mixed Tryz.func306 rfl rfl rfl (by kernel_rfl) ?_
 rintro s hp
 refine⟨rfl,?_⟩
 unfold ba cg cm
 obtain⟨H,hH⟩ : ∃H:Hd (Int),H=⟨fun k=>0≤k∧k≤s.length∧cE s=((s.drop k.toNat).all (fun c=>aZ c||kw c)&&inR s.length 1 12),fun k=>(s.length-k).toNat,(· < ·)⟩:=⟨_,rfl⟩
 have hl:=hdl hH
 generalize hP:std=p,hB0:cE=B0,hB1:inR=B1
 cbv
 repeat' first|refine fun (_:Unit)=>?_;cbv|refine Or.inr ⟨4,[],[.s 3 (.i .i64)],[],[],H,rfl,hl,?_,fun (k:Int) hk=>?_⟩<;>cbv|refine aI2 (fun h=>?_) (fun h=>?_)<;>cbv|refine aI2 ?_ ?_
 all_goals subst hP hB0 hB1 hH
 all_goals clear hl
 all_goals try dsimp only at hk
 all_goals try dsimp only
 all_goals try exact fin
 all_goals try first
  | exact⟨Int.le_refl 0,Int.natCast_nonneg _,rfl⟩
  | (simp [cE,ir,pJ];done)
  | (obtain⟨q0,q1,e⟩:=hk;refine⟨by simp [std] at *;lia,by simp [std] at *;lia,?_⟩;rw [e,dc q0 (ah ‹_›) 0];clear e;simp_all [std,cE,ir,pJ];done)
  | (obtain⟨q0,q1,e⟩:=hk;refine⟨by simp [std] at *;lia,by simp [std] at *;lia,?_⟩;rw [e,dc q0 (ah ‹_›) 0];clear e;simp_all [std,cE,ir,pJ]<;>grind;done)
  | (obtain⟨q0,q1,e⟩:=hk;rw [e,dc q0 (ah ‹_›) 0];clear e;simp_all [std,cE,ir,pJ];done)
  | (obtain⟨q0,q1,e⟩:=hk;rw [e,dc q0 (ah ‹_›) 0];clear e;simp_all [std,cE,ir,pJ]<;>grind;done)
  | (obtain⟨q0,q1,e⟩:=hk;rw [e,dn (ao ‹_›)];clear e;simp_all [std,cE,ir,pJ];done)
  | (obtain⟨q0,q1,e⟩:=hk;rw [e,dn (ao ‹_›)];clear e;simp_all [std,cE,ir,pJ]<;>grind;done)
def du (p:Pr):aa:=fsp (a1 aS) (fun s=>p.ltM (p.lenS s)) (fun s=>.b (bL s))
theorem lC:FOk Tryz.prog 73 (du std):=by
 refine FOk.go (c:=cx std [(174,iI std)] [] 0) (ae (.cons sw .nil) .nil) mixed Tryz.func73 rfl rfl rfl (by kernel_rfl) ?_
 rintro s hp
 refine⟨rfl,?_⟩
 unfold iI
 obtain⟨H,hH⟩ : ∃H:Hd (Int),H=⟨fun k=>0≤k∧k≤s.length∧bL s=((s.drop k.toNat).all aK&&decide (s.length≤120)),fun k=>(s.length-k).toNat,(· < ·)⟩:=⟨_,rfl⟩
 have hl:=hdl hH
 generalize hP:std=p,hB0:bL=B0,hB1:inR=B1
 cbv
 repeat' first|refine fun (_:Unit)=>?_;cbv|refine Or.inr ⟨4,[],[.s 3 (.i .i64)],[],[],H,rfl,hl,?_,fun (k:Int) hk=>?_⟩<;>cbv|refine aI2 (fun h=>?_) (fun h=>?_)<;>cbv|refine aI2 ?_ ?_
 all_goals subst hP hB0 hB1 hH
 all_goals clear hl
 all_goals try dsimp only at hk
 all_goals try dsimp only
 all_goals try exact fin
 all_goals try first
  | exact⟨Int.le_refl 0,Int.natCast_nonneg _,rfl⟩
  | (simp [bL,e8];done)
  | (obtain⟨q0,q1,e⟩:=hk;refine⟨by simp [std] at *;lia,by simp [std] at *;lia,?_⟩;rw [e,dc q0 (ah ‹_›) 0];clear e;simp_all [std,bL,e8];done)
  | (obtain⟨q0,q1,e⟩:=hk;refine⟨by simp [std] at *;lia,by simp [std] at *;lia,?_⟩;rw [e,dc q0 (ah ‹_›) 0];clear e;simp_all [std,bL,e8]<;>grind;done)
  | (obtain⟨q0,q1,e⟩:=hk;rw [e,dc q0 (ah ‹_›) 0];clear e;simp_all [std,bL,e8];done)
  | (obtain⟨q0,q1,e⟩:=hk;rw [e,dc q0 (ah ‹_›) 0];clear e;simp_all [std,bL,e8]<;>grind;done)
  | (obtain⟨q0,q1,e⟩:=hk;rw [e,dn (ao ‹_›)];clear e;simp_all [std,bL,e8];done)
  | (obtain⟨q0,q1,e⟩:=hk;rw [e,dn (ao ‹_›)];clear e;simp_all [std,bL,e8]<;>grind;done)
def iu (p:Pr):aa:=fsp (ac aS (a1 aS)) (fun (bag,rack)=>(p.ltM (p.lenS bag)∧p.ltM (p.lenS rack))∧p.leP (p.lenS rack) 7) (fun (bag,rack)=>.i .i64 (bQ bag rack))
theorem ss:FOk Tryz.prog 129 (iu std):=by
 refine FOk.go (c:=cx std [] [] 0) (ae .nil .nil) mixed Tryz.func129 rfl rfl rfl (by kernel_rfl) ?_
 rintro ⟨bag,rack⟩ hp
 dsimp only at hp
 refine⟨rfl,?_⟩
 generalize hP:std=p,hB0:bQ=B0
 cbv
 repeat' first|refine fun (_:Unit)=>?_;cbv|refine aI2 (fun h=>?_) (fun h=>?_)<;>cbv|refine aI2 ?_ ?_|refine Or.inl (fun (_:Unit)=>?_);cbv
 all_goals subst hP hB0
 all_goals try exact fin
 all_goals (simp [std,bQ] at * <;>lia)
theorem BQ {c:UInt8} (h:inR (c.toNat:Int) 65 90=true):((t8 c).toNat : Int)=c.toNat+32∧aX c=63:=by
 have h1:kw c=true:=h
 unfold t8 aX
 rw [if_pos h1,if_pos h1]
 simp [inR] at h
 refine⟨?_,rfl⟩
 rw [UInt8.toNat_add]
 have : (32:UInt8).toNat =32:=rfl
 omega
theorem Lv {c:UInt8} (h:inR (c.toNat:Int) 65 90=false):t8 c=c∧aX c=c:=by
 have h1:kw c=false:=h
 unfold t8 aX
 rw [h1]
 exact⟨rfl,rfl⟩
def oC (f:UInt8→UInt8) (s:List UInt8) (k:Int):List UInt8:=(s.take k.toNat).map f++s.drop k.toNat
section
variable {f:UInt8→UInt8} {s:List UInt8} {k:Int}
theorem nj:(oC f s k).length =s.length:=by unfold oC;simp;omega
theorem sP (h0:0≤k) (h:k<s.length):(oC f s k).getD k.toNat 0=s.getD k.toNat 0:=by
 unfold oC
 rw [List.getD_eq_getElem?_getD,List.getElem?_append_right (by simp only [List.length_map,List.length_take];omega),List.getElem?_drop,List.getD_eq_getElem?_getD]
 congr 2
 simp;omega
theorem xS (h0:0≤k) (h:k<s.length) {c:UInt8} (hc:f (s.getD k.toNat 0)=c):(oC f s k).set k.toNat c=oC f s (k+1):=by
 unfold oC
 rw [tk h0 h 0,dc h0 h 0,List.map_append,List.append_assoc,List.set_append_right _ _ (by simp;omega)]
 simp only [List.length_map,List.length_take,List.map_cons,List.map_nil,List.singleton_append]
 rw [show k.toNat-min k.toNat s.length=0 from by omega,List.set_cons_zero,hc]
theorem Hy (h0:0≤k) (h:k<s.length) (hc:f (s.getD k.toNat 0)=s.getD k.toNat 0):oC f s k=oC f s (k+1):=by
 rw [←xS h0 h hc]
 unfold oC
 rw [dc h0 h 0,List.set_append_right _ _ (by simp;omega)]
 simp only [List.length_map,List.length_take]
 rw [show k.toNat-min k.toNat s.length=0 from by omega,List.set_cons_zero]
theorem Eb (h:(s.length:Int)≤k):oC f s k=s.map f:=by unfold oC;rw [bZ h,dn h,List.append_nil]
end
def mf (p:Pr):aa:=fsp (a1 aS) (fun s=>p.ltM (p.lenS s)) (fun s=>.s (nu s))
theorem yU:FOk Tryz.prog 198 (mf std):=by
 refine FOk.go (c:=cx std [(219,cm std)] [] 0) (ae (.cons gA .nil) .nil) mixed Tryz.func198 rfl rfl rfl (by kernel_rfl) ?_
 rintro s hp
 refine⟨rfl,?_⟩
 unfold cm
 obtain⟨H,hH⟩ : ∃H:Hd (Int×List Int),H=⟨fun (k,L)=>0≤k∧k≤s.length∧L=aq (oC t8 s k),fun (k,L)=>(s.length-k).toNat,(· < ·)⟩:=⟨_,rfl⟩
 have hl:=hdl hH
 generalize hP:std=p,hB0:nu=B0,hB1:inR=B1
 cbv
 repeat' first|refine fun (_:Unit)=>?_;cbv|refine Or.inr ⟨7,[],[.s 4 (.i .i64),.o 0 [.i .u8]],[],[],H,rfl,hl,?_,fun ((k,L):Int×List Int) hk=>?_⟩<;>cbv|refine aI2 (fun h=>?_) (fun h=>?_)<;>cbv|refine aI2 ?_ ?_
 all_goals subst hP hB0 hB1 hH
 all_goals clear hl
 all_goals try dsimp only at hk
 all_goals try dsimp only
 all_goals try exact fin
 ·exact⟨Int.le_refl 0,Int.natCast_nonneg _,rfl⟩
 all_goals obtain⟨q0,q1,rfl⟩:=hk
 all_goals simp only [std] at *
 all_goals have h1:=bu (oC t8 s k)
 all_goals rw [nj] at h1
 all_goals try (have h2:k<s.length:=by have h3:=of_decide_eq_true ‹decide (k<((aq (oC t8 s k)).length : Int))=true›;rwa [h1] at h3)
 all_goals try rw [gC,sP q0 h2] at h
 all_goals try (simp only [nj,bu,gC] at *;simp at *;lia)
 ·rw [gC,sP q0 h2]
  have:=(BQ h).1
  have:=(t8 (s.getD k.toNat 0)).toNat_lt
  refine⟨?_,?_⟩
  ·show (0:Int)≤_;omega
  ·show _≤(255:Int);omega
 ·have g1:k+1≤(s.length:Int):=by lia
  refine⟨by lia,g1,?_⟩
  rw [gC,sP q0 h2,←(BQ h).1,kI,xS q0 h2 rfl]
 ·have g1:k+1≤(s.length:Int):=by lia
  exact⟨by lia,g1,by rw [←Hy q0 h2 (Lv h).1]⟩
 ·rw [cJ,Eb (by simpa [nj] using h)];rfl
def bG (p:Pr):aa:=fsp (a1 aS) (fun s=>p.ltM (p.lenS s)) (fun s=>.s (av s))
theorem eQ:FOk Tryz.prog 127 (bG std):=by
 refine FOk.go (c:=cx std [(219,cm std),(74,aQ std)] [] 0) (ae (.cons gA (.cons cT .nil)) .nil) mixed Tryz.func127 rfl rfl rfl (by kernel_rfl) ?_
 rintro s hp
 refine⟨rfl,?_⟩
 unfold cm aQ
 obtain⟨H,hH⟩ : ∃H:Hd (Int×List Int),H=⟨fun (k,L)=>0≤k∧k≤s.length∧L=aq (oC aX s k),fun (k,L)=>(s.length-k).toNat,(· < ·)⟩:=⟨_,rfl⟩
 have hl:=hdl hH
 generalize hP:std=p,hB0:av=B0,hB1:inR=B1,hB2:au=B2
 cbv
 repeat' first|refine fun (_:Unit)=>?_;cbv|refine Or.inr ⟨7,[],[.s 4 (.i .i64),.o 0 [.i .u8]],[],[],H,rfl,hl,?_,fun ((k,L):Int×List Int) hk=>?_⟩<;>cbv|refine aI2 (fun h=>?_) (fun h=>?_)<;>cbv|refine aI2 ?_ ?_
 all_goals subst hP hB0 hB1 hB2 hH
 all_goals clear hl
 all_goals try dsimp only at hk
 all_goals try dsimp only
 all_goals try exact fin
 ·exact⟨Int.le_refl 0,Int.natCast_nonneg _,rfl⟩
 all_goals obtain⟨q0,q1,rfl⟩:=hk
 all_goals simp only [std] at *
 all_goals have h1:=bu (oC aX s k)
 all_goals rw [nj] at h1
 all_goals try (have h2:k<s.length:=by have h3:=of_decide_eq_true ‹decide (k<((aq (oC aX s k)).length : Int))=true›;rwa [h1] at h3)
 all_goals try rw [gC,sP q0 h2] at h
 all_goals try (simp only [nj,bu,gC,cJ] at *;simp at *;lia)
 ·have g1:k+1≤(s.length:Int):=by lia
  refine⟨by lia,g1,?_⟩
  rw [←xS q0 h2 (BQ h).2,←kI];rfl
 ·have g1:k+1≤(s.length:Int):=by lia
  exact⟨by lia,g1,by rw [←Hy q0 h2 (Lv h).2]⟩
 ·rw [cJ,Eb (by simpa [nj] using h)];rfl
def n9 (p:Pr):aa:=fsp (a1 aS) (fun s=>p.ltM (p.lenS s)) (fun s=>.b (ik s))
theorem BI:FOk Tryz.prog 244 (n9 std):=by
 refine FOk.go (c:=cx std [(293,pr std)] [] 0) (ae (.cons DW .nil) .nil) mixed Tryz.func244 rfl rfl rfl (by kernel_rfl) ?_
 rintro s hp
 refine⟨rfl,?_⟩
 unfold pr
 generalize hP:std=p,hB0:ik=B0,hB1:bT=B1
 cbv
 repeat' first|refine fun (_:Unit)=>?_;cbv|refine aI2 (fun h=>?_) (fun h=>?_)<;>cbv|refine aI2 ?_ ?_|refine Or.inl (fun (_:Unit)=>?_);cbv
 all_goals subst hP hB0 hB1
 all_goals try exact fin
 all_goals (simp [std,ik] at * <;>first | lia | (simp_all;done))
structure WsP (ws:List (List UInt8)):Prop where
 len:ws.length≤274877906944
 all : ∀k:Nat,(ws.getD k []).length ≤274877906944
def HP (ws:List (List UInt8)) (k:Int):Bool:=lexFrom (if k≤0 then none else some (ws.getD (k-1).toNat [])) (ws.drop k.toNat)
theorem qc {s:List (List UInt8)} {k:Int} (h0:0≤k) (h:k<s.length):HP s k=(ik (s.getD k.toNat [])&&((decide (k≤0)||sLt (s.getD (k-1).toNat []) (s.getD k.toNat []))&&HP s (k+1))):=by
 unfold HP
 rw [dc h0 h [],if_neg (show ¬k+1≤0 by omega),show k+1-1=k from by omega]
 by_cases hk:k≤0
 ·simp [hk,lexFrom]
 ·simp [hk,lexFrom,Bool.and_assoc]
theorem C1 {s:List (List UInt8)} {k:Int} (h:(s.length:Int)≤k):HP s k=true:=by unfold HP;rw [dn h];cases (if k≤0 then none else some (s.getD (k-1).toNat []))<;>rfl
theorem Q1 {ws:List (List UInt8)} (h:WsP ws) (k:Int):std.ltM (std.lenS (std.get [] ws k)):=aR (h.all k.toNat)
def lF (p:Pr):aa:=fsp (a1 (aP wN)) (fun ws=>WsP ws) (fun ws=>.b (lexB ws))
theorem xD:FOk Tryz.prog 172 (lF std):=by
 refine FOk.go (c:=cx std [(244,n9 std)] [] 0) (ae (.cons BI .nil) .nil) mixed Tryz.func172 rfl rfl rfl (by kernel_rfl) ?_
 rintro ws hp
 refine⟨rfl,?_⟩
 unfold n9
 obtain⟨H,hH⟩ : ∃H:Hd (Int),H=⟨fun k=>0≤k∧k≤ws.length∧lexB ws=(HP ws k&&decide (ws.length≤200)),fun k=>(ws.length-k).toNat,(· < ·)⟩:=⟨_,rfl⟩
 have hl:=hdl hH
 generalize hP:std=p,hB0:lexB=B0,hB1:ik=B1
 cbv
 repeat' first|refine fun (_:Unit)=>?_;cbv|refine Or.inr ⟨4,[],[.s 3 (.i .i64)],[],[],H,rfl,hl,?_,fun (k:Int) hk=>?_⟩<;>cbv|refine aI2 (fun h=>?_) (fun h=>?_)<;>cbv|refine aI2 ?_ ?_
 all_goals subst hP hB0 hB1 hH
 all_goals clear hl
 all_goals try dsimp only at hk
 all_goals try dsimp only
 all_goals have f1:=hp.len
 all_goals try exact fin
 all_goals try first
  | exact⟨Int.le_refl 0,Int.natCast_nonneg _,rfl⟩
  | (simp [lexB,sLt];done)
  | (obtain⟨q0,q1,e⟩:=hk;refine⟨by simp [std] at *;lia,by simp [std] at *;lia,?_⟩;rw [e,qc q0 (ah ‹_›)];clear e;simp_all [std,lexB,sLt];done)
  | (obtain⟨q0,q1,e⟩:=hk;refine⟨by simp [std] at *;lia,by simp [std] at *;lia,?_⟩;rw [e,qc q0 (ah ‹_›)];clear e;simp_all [std,lexB,sLt]<;>grind;done)
  | (obtain⟨q0,q1,e⟩:=hk;rw [e,qc q0 (ah ‹_›)];clear e;simp_all [std,lexB,sLt];done)
  | (obtain⟨q0,q1,e⟩:=hk;rw [e,qc q0 (ah ‹_›)];clear e;simp_all [std,lexB,sLt]<;>grind;done)
  | (obtain⟨q0,q1,e⟩:=hk;rw [e,C1 (ao ‹_›)];clear e;simp_all [std,lexB,sLt];done)
  | (obtain⟨q0,q1,e⟩:=hk;rw [e,C1 (ao ‹_›)];clear e;simp_all [std,lexB,sLt]<;>grind;done)
 ·exact Q1 hp _
def yJ (ws:List (List UInt8)) (s:List UInt8):Int:=cM ws s
def mh (p:Pr):aa:=fsp (ac aW (a1 aS)) (fun (ws,s)=>WsP ws) (fun (ws,s)=>.i .i64 (yJ ws s))
theorem yY:FOk Tryz.prog 307 (mh std):=by
 refine FOk.go (c:=cx std [] [] 0) (ae .nil .nil) mixed Tryz.func307 rfl rfl rfl (by kernel_rfl) ?_
 rintro ⟨ws,s⟩ hp
 dsimp only at hp
 refine⟨rfl,?_⟩
 obtain⟨H,hH⟩ : ∃H:Hd (Int),H=⟨fun k=>0≤k∧k≤ws.length∧yJ ws s=k+yJ (ws.drop k.toNat) s,fun k=>(ws.length-k).toNat,(· < ·)⟩:=⟨_,rfl⟩
 have hl:=hdl hH
 generalize hP:std=p,hB0:yJ=B0
 cbv
 repeat' first|refine fun (_:Unit)=>?_;cbv|refine Or.inr ⟨6,[],[.s 5 (.i .i64)],[],[],H,rfl,hl,?_,fun (k:Int) hk=>?_⟩<;>cbv|refine aI2 (fun h=>?_) (fun h=>?_)<;>cbv|refine aI2 ?_ ?_
 all_goals subst hP hB0 hH
 all_goals clear hl
 all_goals try dsimp only at hk
 all_goals try dsimp only
 all_goals have f1:=hp.len
 all_goals try exact fin
 ·obtain⟨q0,q1,e⟩:=hk
  have h1:k<ws.length:=ah ‹std.ltI k _=true›
  have g1:k+1≤(ws.length:Int):=by lia
  have h2:sLt (ws.getD k.toNat []) s=true:=h
  refine⟨by show 0≤k+1;omega,g1,?_⟩
  rw [e,dc q0 h1 []]
  show k+(cM (_::_) s:Int)=(k+1)+(cM (ws.drop (k+1).toNat) s:Int)
  rw [cM,if_pos h2]
  omega
 ·obtain⟨q0,q1,e⟩:=hk
  have h1:k<ws.length:=ah ‹std.ltI k _=true›
  have h2:sLt (ws.getD k.toNat []) s=false:=h
  rw [e,dc q0 h1 []]
  show k=k+(cM (_::_) s:Int)
  rw [cM,h2]
  simp
 ·obtain⟨q0,q1,e⟩:=hk
  have h1:(ws.length:Int)≤k:=by simpa using h
  rw [e,dn h1]
  simp [yJ,cM]
def po (p:Pr):aa:=fsp (ac aW (a1 aS)) (fun (ws,s)=>WsP ws) (fun (ws,s)=>.b (hasB ws s))
theorem Ef:FOk Tryz.prog 272 (po std):=by
 refine FOk.go (c:=cx std [(307,mh std)] [] 0) (ae (.cons yY .nil) .nil) mixed Tryz.func272 rfl rfl rfl (by kernel_rfl) ?_
 rintro ⟨ws,s⟩ hp
 dsimp only at hp
 refine⟨rfl,?_⟩
 unfold mh
 generalize hP:std=p,hB0:yJ=B0,hB1:hasB=B1
 cbv
 repeat' first|refine fun (_:Unit)=>?_;cbv|refine aI2 (fun h=>?_) (fun h=>?_)<;>cbv|refine aI2 ?_ ?_|refine Or.inl (fun (_:Unit)=>?_);cbv
 all_goals subst hP hB0 hB1
 all_goals have f1:=hp.len
 all_goals try exact fin
 ·exact⟨Int.natCast_nonneg _,ah h⟩
 ·have h1:yJ ws s<ws.length:=ah h
  unfold yJ at h1 ⊢
  unfold hasB
  show (ws.getD (cM ws s) []==s)=_
  rw [List.getD_eq_getElem?_getD,List.getElem?_eq_getElem (by omega)]
  rfl
 ·have h1:(ws.length:Int)≤yJ ws s:=by simpa using h
  unfold yJ at h1
  unfold hasB
  rw [List.getElem?_eq_none (by omega)]
  rfl
def iY (p:Pr):aa:=fsp (a1 aI) (fun n=>True) (fun n=>.b (inR n 5 15))
theorem tE:FOk Tryz.prog 231 (iY std):=by
 refine FOk.go (c:=cx std [(89,ba std)] [] 0) (ae (.cons dm .nil) .nil) mixed Tryz.func231 rfl rfl rfl (by kernel_rfl) ?_
 rintro n hp
 refine⟨rfl,?_⟩
 unfold ba
 generalize hP:std=p,hB0:inR=B0
 cbv
 repeat' first|refine fun (_:Unit)=>?_;cbv|refine aI2 (fun h=>?_) (fun h=>?_)<;>cbv|refine aI2 ?_ ?_|refine Or.inl (fun (_:Unit)=>?_);cbv
 all_goals subst hP hB0
 all_goals try exact fin
def zF (n:Int):Bool:=n==46||(inR n 97 122||inR n 65 90)
def zw (n:Int):Bool:=n==46||(n==50||(n==51||(n==100||n==116)))
def nQ (p:Pr):aa:=fsp (a1 aC) (fun n=>True) (fun n=>.b (zF n))
theorem Ba:FOk Tryz.prog 161 (nQ std):=by
 refine FOk.go (c:=cx std [(236,cg std),(219,cm std)] [] 0) (ae (.cons gk (.cons gA .nil)) .nil) mixed Tryz.func161 rfl rfl rfl (by kernel_rfl) ?_
 rintro n hp
 refine⟨rfl,?_⟩
 unfold cg cm
 generalize hP:std=p,hB0:inR=B0,hB1:zF=B1
 cbv
 repeat' first|refine fun (_:Unit)=>?_;cbv|refine aI2 (fun h=>?_) (fun h=>?_)<;>cbv|refine aI2 ?_ ?_|refine Or.inl (fun (_:Unit)=>?_);cbv
 all_goals subst hP hB0 hB1
 all_goals try exact fin
 all_goals (simp [std,zF] at * <;>first | lia | (simp_all;done))
def ko (p:Pr):aa:=fsp (a1 aC) (fun n=>True) (fun n=>.b (zw n))
theorem vW:FOk Tryz.prog 235 (ko std):=by
 refine FOk.go (c:=cx std [] [] 0) (ae .nil .nil) mixed Tryz.func235 rfl rfl rfl (by kernel_rfl) ?_
 rintro n hp
 refine⟨rfl,?_⟩
 generalize hP:std=p,hB0:zw=B0
 cbv
 repeat' first|refine fun (_:Unit)=>?_;cbv|refine aI2 (fun h=>?_) (fun h=>?_)<;>cbv|refine aI2 ?_ ?_|refine Or.inl (fun (_:Unit)=>?_);cbv
 all_goals subst hP hB0
 all_goals try exact fin
 all_goals (simp [std,zw] at * <;>first | lia | (simp_all;done))
structure BdP (b:Bd):Prop where
 p:b.prem.length≤274877906944
 c:b.cells.length≤274877906944
structure AtP (b:Bd) (r c:Int):Prop where
 fit:b.Fit
 inn:b.inB r c=true
def atI (b:Bd) (r c:Int):Int:=(b.at_ r c).toNat
theorem E1 {b:Bd} {r c:Int} (h:AtP b r c):(0≤r*b.size∧r*b.size≤225)∧(0≤r*b.size+c∧r*b.size+c<b.cells.length∧(b.cells.length:Int)≤225):=by
 obtain⟨⟨h1,h2⟩,h3,h4⟩:=cK.1 h.inn
 have h5:=fx h.fit.lo h.fit.hi h1 h2 h3 h4
 have h6:=h.fit.cells
 have h7:=h.fit.hi
 have h8:r*b.size≤15*15:=Int.mul_le_mul (by omega) h7 (by have:=h.fit.lo;omega) (by omega)
 have h9:0≤r*b.size:=Int.mul_nonneg h1 (by have:=h.fit.lo;omega)
 refine⟨⟨h9,h8⟩,by omega,?_⟩
 rw [h6]
 omega
theorem JA (b:Bd) (r c:Int) (n:Nat) (h:n<256):(b.at_ r c==UInt8.ofNat n)=(atI b r c==(n:Int)):=iG h
def kV (p:Pr):aa:=fsp (ac (aP aBd) (ac aI (a1 aI))) (fun (b,r,c)=>p.inK .i64 (p.sub b.size 1)) (fun (b,r,c)=>.b (b.inB r c))
theorem wQ:FOk Tryz.prog 160 (kV std):=by
 refine FOk.go (c:=cx std [(89,ba std)] [] 0) (ae (.cons dm .nil) .nil) mixed Tryz.func160 rfl rfl rfl (by kernel_rfl) ?_
 rintro ⟨b,r,c⟩ hp
 dsimp only at hp
 refine⟨rfl,?_⟩
 unfold ba
 generalize hP:std=p,hB0:Bd.inB=B0,hB1:inR=B1
 cbv
 repeat' first|refine fun (_:Unit)=>?_;cbv|refine aI2 (fun h=>?_) (fun h=>?_)<;>cbv|refine aI2 ?_ ?_|refine Or.inl (fun (_:Unit)=>?_);cbv
 all_goals subst hP hB0 hB1
 all_goals try exact fin
 ·unfold Bd.inB;rw [show inR r 0 (b.size-1)=true from h];rfl
 ·unfold Bd.inB;rw [show inR r 0 (b.size-1)=false from h];rfl
def dw (p:Pr):aa:=fsp (ac (aP aBd) (ac aI (a1 aI))) (fun (b,r,c)=>AtP b r c) (fun (b,r,c)=>.i .u8 (atI b r c))
theorem lA:FOk Tryz.prog 197 (dw std):=by
 refine FOk.go (c:=cx std [] [] 0) (ae .nil .nil) mixed Tryz.func197 rfl rfl rfl (by kernel_rfl) ?_
 rintro ⟨b,r,c⟩ hp
 dsimp only at hp
 refine⟨rfl,?_⟩
 generalize hP:std=p,hB0:atI=B0
 cbv
 repeat' first|refine fun (_:Unit)=>?_;cbv|refine aI2 (fun h=>?_) (fun h=>?_)<;>cbv|refine aI2 ?_ ?_|refine Or.inl (fun (_:Unit)=>?_);cbv
 all_goals subst hP hB0
 all_goals have f1:=E1 hp
 all_goals try exact fin
def iK (p:Pr):aa:=fsp (ac (aP aBd) (ac aI (a1 aI))) (fun (b,r,c)=>b.Fit) (fun (b,r,c)=>.b (b.full r c))
theorem s7:FOk Tryz.prog 196 (iK std):=by
 refine FOk.go (c:=cx std [(160,kV std),(197,dw std)] [] 0) (ae (.cons wQ (.cons lA .nil)) .nil) mixed Tryz.func196 rfl rfl rfl (by kernel_rfl) ?_
 rintro ⟨b,r,c⟩ hp
 dsimp only at hp
 refine⟨rfl,?_⟩
 unfold kV dw
 generalize hP:std=p,hB0:Bd.full=B0,hB1:Bd.inB=B1,hB2:atI=B2
 cbv
 repeat' first|refine fun (_:Unit)=>?_;cbv|refine aI2 (fun h=>?_) (fun h=>?_)<;>cbv|refine aI2 ?_ ?_|refine Or.inl (fun (_:Unit)=>?_);cbv
 all_goals subst hP hB0 hB1 hB2
 all_goals have f1:=hp.lo
 all_goals have f2:=hp.hi
 all_goals try exact fin
 ·exact⟨hp,h⟩
 ·unfold Bd.full
  rw [show b.inB r c=true from h,show (46:UInt8)=UInt8.ofNat 46 from rfl,JA _ _ _ _ (by decide)]
  show (!_)=_
  simp
 ·unfold Bd.full;rw [show b.inB r c=false from h];rfl
theorem G7 (c:UInt8):jc c=zF c.toNat:=by
 unfold jc zF
 rw [show (46:UInt8)=UInt8.ofNat 46 from rfl,iG (by decide),ir,pJ,Bool.or_assoc]
 rfl
theorem G4 (c:UInt8):qV c=zw c.toNat:=by
 unfold qV zw
 rw [show (46:UInt8)=UInt8.ofNat 46 from rfl,show (50:UInt8)=UInt8.ofNat 50 from rfl,show (51:UInt8)=UInt8.ofNat 51 from rfl,show (100:UInt8)=UInt8.ofNat 100 from rfl,show (116:UInt8)=UInt8.ofNat 116 from rfl]
 simp only [iG (show 46<256 by decide),iG (show 50<256 by decide),iG (show 51<256 by decide),iG (show 100<256 by decide),iG (show 116<256 by decide),Bool.or_assoc]
 rfl
theorem uQ {c p:List UInt8} {k:Int} (h0:0≤k) (h:k<c.length) (hp:k<p.length):mH (c.drop k.toNat) (p.drop k.toNat)=(jc (c.getD k.toNat 0)&&(qV (p.getD k.toNat 0)&&mH (c.drop (k+1).toNat) (p.drop (k+1).toNat))):=by
 rw [dc h0 h 0,dc h0 hp 0,mH,Bool.and_assoc]
theorem GZ {n:Int} (h:inR n 5 15=true):5≤n∧n≤15∧0≤n*n∧n*n≤225:=by
 simp [inR] at h
 have h1:n*n≤15*n:=Int.mul_le_mul_of_nonneg_right h.2 (by omega)
 have h2:0≤n*n:=Int.mul_nonneg (by omega) (by omega)
 omega
section
variable {b:Bd}
theorem Q0 (h:inR b.size 5 15=false):bdB b=false:=by simp [bdB,pG,h]
theorem PF (h:std.eqI (std.lenS b.prem) (std.mul b.size b.size)=false):bdB b=false:=by
 have h : ¬(b.prem.length:Int)=b.size*b.size:=by simpa [std] using h
 simp [bdB,h]
theorem PY (h:std.eqI (std.lenS b.cells) (std.mul b.size b.size)=false):bdB b=false:=by
 have h : ¬(b.cells.length:Int)=b.size*b.size:=by simpa [std] using h
 simp [bdB,h]
theorem Tj (h1:inR b.size 5 15=true) (h2:std.eqI (std.lenS b.prem) (std.mul b.size b.size)=true) (h3:std.eqI (std.lenS b.cells) (std.mul b.size b.size)=true):bdB b=mH b.cells b.prem∧b.prem.length=b.cells.length∧b.cells.length≤225:=by
 have h2:(b.prem.length:Int)=b.size*b.size:=by simpa [std] using h2
 have h3:(b.cells.length:Int)=b.size*b.size:=by simpa [std] using h3
 have h4:=GZ h1
 refine⟨by simp [bdB,pG,h1,h2,h3],by omega,by omega⟩
end
def gY (p:Pr):aa:=fsp (a1 (aP aBd)) (fun b=>BdP b) (fun b=>.b (bdB b))
theorem rB:FOk Tryz.prog 159 (gY std):=by
 refine FOk.go (c:=cx std [(231,iY std),(161,nQ std),(235,ko std)] [] 0) (ae (.cons tE (.cons Ba (.cons vW .nil))) .nil) mixed Tryz.func159 rfl rfl rfl (by kernel_rfl) ?_
 rintro b hp
 refine⟨rfl,?_⟩
 unfold iY nQ ko
 obtain⟨H,hH⟩ : ∃H:Hd (Int),H=⟨fun k=>0≤k∧k≤b.cells.length∧bdB b=mH (b.cells.drop k.toNat) (b.prem.drop k.toNat),fun k=>(b.cells.length-k).toNat,(· < ·)⟩:=⟨_,rfl⟩
 have hl:=hdl hH
 generalize hP:std=p,hB0:bdB=B0,hB1:inR=B1,hB2:zF=B2,hB3:zw=B3
 cbv
 repeat' first|refine fun (_:Unit)=>?_;cbv|refine Or.inr ⟨44,[],[.s 3 (.i .i64)],[],[],H,rfl,hl,?_,fun (k:Int) hk=>?_⟩<;>cbv|refine aI2 (fun h=>?_) (fun h=>?_)<;>cbv|refine aI2 ?_ ?_
 all_goals subst hP hB0 hB1 hB2 hB3 hH
 all_goals clear hl
 all_goals try dsimp only at hk
 all_goals try dsimp only
 all_goals try exact fin
 all_goals try first
  | exact Q0 ‹_›
  | exact PF ‹_›
  | exact PY ‹_›
  | exact an (by have:=GZ (show inR b.size 5 15=true by assumption);show _≤b.size*b.size∧b.size*b.size≤_;omega)
 all_goals obtain⟨e0,e1,e2⟩:=Tj (show inR b.size 5 15=true by assumption) ‹_› ‹_›
 ·exact⟨Int.le_refl 0,Int.natCast_nonneg _,e0⟩
 all_goals obtain⟨q0,q1,e⟩:=hk
 all_goals clear e0
 all_goals try (simp [std] at *;lia)
 all_goals first
  | (rw [e,dn (ao ‹_›)];rfl)
  | (have h1:k<b.cells.length:=ah ‹_›
     rw [e,uQ q0 h1 (by omega),G7,G4]
     clear e
     simp_all [std];done)
  | (have h1:k<b.cells.length:=ah ‹_›
     have g1:k+1≤(b.cells.length:Int):=by omega
     refine⟨by show 0≤k+1;omega,g1,?_⟩
     rw [e,uQ q0 h1 (by omega),G7,G4]
     clear e
     simp_all [std];done)
theorem zX {s:List UInt8} {k:Int} (h0:0≤k) (h:k<s.length):(s.take (k+1).toNat).filter (fun c=>!(c==46))=(s.take k.toNat).filter (fun c=>!(c==46))++(if (((s.getD k.toNat 0).toNat : Int)==46)=true then [] else [s.getD k.toNat 0]):=by
 rw [tk h0 h 0,List.filter_append]
 congr 1
 have:=iG (c:=s.getD k.toNat 0) (show 46<256 by decide)
 rw [List.filter_cons,show (46:UInt8)=UInt8.ofNat 46 from rfl,this]
 rw [show ((46:Nat):Int)=46 from rfl]
 cases h:(((s.getD k.toNat 0).toNat : Int)==46)<;>simp
def bn (p:Pr):aa:=fsp (a1 (aP aBd)) (fun b=>BdP b) (fun b=>.s (ag b))
theorem dF:FOk Tryz.prog 173 (bn std):=by
 refine FOk.go (c:=cx std [] [] 0) (ae .nil .nil) mixed Tryz.func173 rfl rfl rfl (by kernel_rfl) ?_
 rintro b hp
 refine⟨rfl,?_⟩
 obtain⟨H,hH⟩ : ∃H:Hd (Int×List Int),H=⟨fun (k,L)=>0≤k∧k≤b.cells.length∧L=aq ((b.cells.take k.toNat).filter fun c=>!(c==46)),fun (k,L)=>(b.cells.length-k).toNat,(· < ·)⟩:=⟨_,rfl⟩
 have hl:=hdl hH
 generalize hP:std=p,hB0:ag=B0
 cbv
 repeat' first|refine fun (_:Unit)=>?_;cbv|refine Or.inr ⟨6,[],[.s 4 (.i .i64),.o 0 [.i .u8]],[.s 3],[],H,rfl,hl,?_,fun ((k,L):Int×List Int) hk=>?_⟩<;>cbv|refine aI2 (fun h=>?_) (fun h=>?_)<;>cbv|refine aI2 ?_ ?_
 all_goals subst hP hB0 hH
 all_goals clear hl
 all_goals try dsimp only at hk
 all_goals try dsimp only
 all_goals have f1:=hp.c
 all_goals try exact fin
 ·exact⟨Int.le_refl 0,Int.natCast_nonneg _,rfl⟩
 all_goals obtain⟨q0,q1,rfl⟩:=hk
 all_goals have h2:=List.length_filter_le (fun c:UInt8=>!(c==46)) (b.cells.take k.toNat)
 all_goals rw [List.length_take] at h2
 all_goals try (have h1:k<b.cells.length:=ah ‹_›)
 all_goals try (simp only [std,bu] at *;simp at *;lia)
 ·have g1:k+1≤(b.cells.length:Int):=by omega
  refine⟨by show 0≤k+1;omega,g1,?_⟩
  show aq _++[((b.cells.getD k.toNat 0).toNat : Int)]=aq ((b.cells.take (k+1).toNat).filter fun c=>!(c==46))
  rw [zX q0 h1,if_neg (by rw [show (((b.cells.getD k.toNat 0).toNat : Int)==46)=false from h];exact Bool.false_ne_true),i6]
 ·have g1:k+1≤(b.cells.length:Int):=by omega
  refine⟨by show 0≤k+1;omega,g1,?_⟩
  show aq _=aq ((b.cells.take (k+1).toNat).filter fun c=>!(c==46))
  rw [zX q0 h1,if_pos (show (((b.cells.getD k.toNat 0).toNat : Int)==46)=true from h),List.append_nil]
 ·show fZ (aq _)=_
  rw [cJ,bZ (ao h)];rfl
theorem In {n:Int} {s:List UInt8} {c r:Int} (hn:0<n) (c0:0≤c) (r0:0≤r) (hr:r<n):fP n.toNat s (c*n+r+1).toNat =fP n.toNat s (c*n+r).toNat ++[s.getD (r*n+c).toNat 0]:=by
 have h0:0≤c*n:=Int.mul_nonneg c0 (by omega)
 obtain⟨N,rfl⟩ : ∃N:Nat,n=N:=⟨n.toNat,by omega⟩
 obtain⟨C,rfl⟩ : ∃C:Nat,c=C:=⟨c.toNat,by omega⟩
 obtain⟨R,rfl⟩ : ∃R:Nat,r=R:=⟨r.toNat,by omega⟩
 have e1:((C:Int)*N+R).toNat =C*N+R:=by omega
 have e2:((C:Int)*N+R+1).toNat =C*N+R+1:=by omega
 have e3:((R:Int)*N+C).toNat =R*N+C:=by omega
 have hR:R<N:=by omega
 have e4:(C*N+R)%N=R:=by rw [Nat.mul_comm,Nat.mul_add_mod,Nat.mod_eq_of_lt hR]
 have e5:(C*N+R)/N=C:=by rw [Nat.mul_comm,Nat.mul_add_div (by omega),Nat.div_eq_of_lt hR,Nat.add_zero]
 rw [e1,e2,e3]
 unfold fP
 rw [List.range_succ,List.map_append,Int.toNat_natCast]
 simp [e4,e5]
structure KA (n:Int) (s:List UInt8):Prop where
 lo:5≤n
 hi:n≤15
 len:(s.length:Int)=n*n
theorem DX {n r c:Int} {s:List UInt8} (h:KA n s) (r0:0≤r) (r1:r<n) (c0:0≤c) (c1:c<n):0≤r*n∧r*n≤210∧0≤r*n+c∧r*n+c<s.length:=by
 have:=fx h.lo h.hi r0 (by omega) c0 (by omega)
 have:=h.len
 omega
theorem HX {n c:Int} {s:List UInt8} (h:KA n s) (c1:c=n):fP n.toNat s (c*n).toNat =ga n.toNat s:=by
 subst c1
 unfold ga
 congr 1
 have:=h.lo
 obtain⟨N,rfl⟩ : ∃N:Nat,c=N:=⟨c.toNat,by omega⟩
 rw [Int.toNat_natCast,←Int.natCast_mul,Int.toNat_natCast]
def nc (n:Int) (s:List UInt8):List UInt8:=ga n.toNat s
def nR (p:Pr):aa:=fsp (ac aI (a1 aS)) (fun (n,s)=>KA n s) (fun (n,s)=>.s (nc n s))
theorem Ap:FOk Tryz.prog 254 (nR std):=by
 refine FOk.go (c:=cx std [] [] 0) (ae .nil .nil) mixed Tryz.func254 rfl rfl rfl (by kernel_rfl) ?_
 rintro ⟨n,s⟩ hp
 dsimp only at hp
 refine⟨rfl,?_⟩
 obtain⟨H,hH⟩ : ∃H:Hd (Int×List Int),H=⟨fun (c,L)=>0≤c∧c≤n∧L=aq (fP n.toNat s (c*n).toNat),fun (c,L)=>(n-c).toNat,(· < ·)⟩:=⟨_,rfl⟩
 have hl:=hdl hH
 obtain⟨H2,hH2⟩ : ∃H:(Int×List Int)→Hd (Int×List Int),H=fun (c,L)=>⟨fun (r,M)=>0≤r∧r≤n∧M=aq (fP n.toNat s (c*n+r).toNat),fun (r,M)=>(n-r).toNat,(· < ·)⟩:=⟨_,rfl⟩
 have hl2 : ∀x m n,(H2 x).lt m n→m<n:=by subst hH2;exact fun _ _ _ h=>h
 generalize hP:std=p,hB0:nc=B0
 cbv
 repeat' first|refine fun (_:Unit)=>?_;cbv|refine Or.inr ⟨9,[],[.s 6 (.i .i64),.o 0 [.i .u8]],[.s 5],[],H,rfl,hl,?_,fun ((c,L):Int×List Int) hk=>?_⟩<;>cbv|refine Or.inr ⟨14,[],[.s 7 (.i .i64),.o 0 [.i .u8]],[.s 5],[],H2 (c,L),rfl,hl2 _,?_,fun ((r,M):Int×List Int) hk2=>?_⟩<;>cbv|refine aI2 (fun h=>?_) (fun h=>?_)<;>cbv|refine aI2 ?_ ?_
 all_goals subst hP hB0 hH hH2
 all_goals clear hl
 all_goals try dsimp only at hk
 all_goals clear hl2
 all_goals try dsimp only at hk2
 all_goals try dsimp only
 all_goals have f1:=hp.lo
 all_goals have f2:=hp.hi
 all_goals try exact fin
 ·exact⟨Int.le_refl 0,by omega,by simp [fP];rfl⟩
 all_goals obtain⟨q0,q1,rfl⟩:=hk
 all_goals try (have h2:c<n:=ah ‹_›)
 all_goals try (obtain⟨r0,r1,rfl⟩:=hk2)
 all_goals try (have h3:r<n:=ah ‹_›)
 all_goals try (have h4:=DX hp r0 h3 q0 h2)
 all_goals try (have h5:=DX hp q0 h2 r0 h3)
 all_goals try (have h6:((aq (fP n.toNat s (c*n+r).toNat)).length : Int)=c*n+r:=by rw [bu,mF];omega)
 all_goals have h7:=hp.len
 all_goals try (simp [std] at *;lia)
 ·have g1:r+1≤n:=by omega
  refine⟨by show 0≤r+1;omega,g1,?_⟩
  show aq _++[((s.getD (r*n+c).toNat 0).toNat : Int)]=aq (fP n.toNat s (c*n+(r+1)).toNat)
  rw [i6,←Int.add_assoc,In (by omega) q0 r0 h3]
 ·have h8:r=n:=by have:=ao h;omega
  subst h8
  have g1:c+1≤r:=by omega
  refine⟨by show 0≤c+1;omega,g1,?_⟩
  show aq (fP _ s (c*r+r).toNat)=aq (fP _ s ((c+1)*r).toNat)
  rw [Int.add_mul,Int.one_mul]
 ·show fZ (aq _)=_
  rw [cJ,HX hp (by have:=ao h;omega)];rfl
def dG (p:Pr):aa:=fsp (a1 (aP aBd)) (fun b=>b.Fit) (fun b=>.agg [.i .i64 b.size,.s (nc b.size b.prem),.s (nc b.size b.cells)])
theorem lX:FOk Tryz.prog 195 (dG std):=by
 refine FOk.go (c:=cx std [(254,nR std)] [] 0) (ae (.cons Ap .nil) .nil) mixed Tryz.func195 rfl rfl rfl (by kernel_rfl) ?_
 rintro b hp
 refine⟨rfl,?_⟩
 unfold nR
 generalize hP:std=p,hB0:nc=B0
 cbv
 repeat' first|refine fun (_:Unit)=>?_;cbv|refine aI2 (fun h=>?_) (fun h=>?_)<;>cbv|refine aI2 ?_ ?_|refine Or.inl (fun (_:Unit)=>?_);cbv
 all_goals subst hP hB0
 all_goals try exact fin
 ·exact⟨hp.lo,hp.hi,hp.prem⟩
 ·exact⟨hp.lo,hp.hi,hp.cells⟩
theorem E5 {b:Bd} {q:Pl} (h:q.down=true):af b q=⟨b.size,nc b.size b.prem,nc b.size b.cells⟩∧ab q=⟨q.col,q.row,false,q.word⟩:=by
 unfold af ab Pl.tr
 rw [if_pos h,if_pos h,h]
 exact⟨rfl,rfl⟩
theorem Lj {b:Bd} {q:Pl} (h:q.down=false):af b q=b∧ab q=q:=by
 unfold af ab
 rw [if_neg (by rw [h];exact Bool.false_ne_true),if_neg (by rw [h];exact Bool.false_ne_true)]
 exact⟨rfl,rfl⟩
def nY (p:Pr):aa:=fsp (a1 (aA aPl)) (fun q=>True) (fun q=>.agg (plK q.tr))
theorem BG:FOk Tryz.prog 218 (nY std):=by
 refine FOk.go (c:=cx std [] [] 0) (ae .nil .nil) mixed Tryz.func218 rfl rfl rfl (by kernel_rfl) ?_
 rintro q hp
 refine⟨rfl,?_⟩
 generalize hP:std=p
 cbv
 repeat' first|refine fun (_:Unit)=>?_;cbv|refine aI2 (fun h=>?_) (fun h=>?_)<;>cbv|refine aI2 ?_ ?_|refine Or.inl (fun (_:Unit)=>?_);cbv
 all_goals subst hP
 all_goals try exact fin
def aJ (p:Pr):aa:=fsp (ac (aP aBd) (a1 (aA aPl))) (fun (b,q)=>b.Fit) (fun (b,q)=>.tup [.agg (bdK (af b q)),.agg (plK (ab q))])
theorem cB:FOk Tryz.prog 125 (aJ std):=by
 refine FOk.go (c:=cx std [(195,dG std),(218,nY std)] [] 0) (ae (.cons lX (.cons BG .nil)) .nil) mixed Tryz.func125 rfl rfl rfl (by kernel_rfl) ?_
 rintro ⟨b,q⟩ hp
 dsimp only at hp
 refine⟨rfl,?_⟩
 unfold dG nY
 generalize hP:std=p,hB0:af=B0,hB1:ab=B1,hB2:nc=B2
 cbv
 repeat' first|refine fun (_:Unit)=>?_;cbv|refine aI2 (fun h=>?_) (fun h=>?_)<;>cbv|refine aI2 ?_ ?_|refine Or.inl (fun (_:Unit)=>?_);cbv
 all_goals subst hP hB0 hB1 hB2
 all_goals try exact fin
 all_goals first
  | (rw [(E5 (b:=b) (show q.down=true from h)).1]<;>rfl)
  | (rw [(Lj (b:=b) (show q.down=false from h)).1]<;>rfl)
  | (rw [(Lj (b:=b) (show q.down=false from h)).2]<;>rfl)
  | (rw [(E5 (b:=b) (show q.down=true from h)).2];show (!q.down)=false;rw [show q.down=true from h];rfl)
  | (rw [(E5 (b:=b) (show q.down=true from h)).2]<;>rfl)
end Ax
end Go.Proofs.YtjjonmhpgkahoaaGreatDoor
