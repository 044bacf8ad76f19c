/-
  Racks, words, lexicons of the spec package; Lexicons, boards of the spec package; Boards of the spec package: validity, letters, boards that are turned.
  Conditions: none.
-/
import Derived.Test.YtghmphmbpdiflaaGreatDoorE13
set_option linter.unusedSimpArgs false
set_option linter.unusedVariables false
namespace Go.Proofs.YtghmphmbpdiflaaGreatDoor
namespace Ax
set_option maxRecDepth 100000
def sp_s_l03Rack (p:Pr):FSpec:=fsp (a1 aS) (fun s=>p.ltM (p.lenS s)) (fun s=>.b (rackB s))
theorem ok_s_l03Rack:FOk Tryz.prog 157 (sp_s_l03Rack std):=by
 refine FOk.go (c:=cx std [(95,sp_s_l03Pile std)] [] 0) (cx_ok (.cons ok_s_l03Pile .nil) .nil) mixed Tryz.func157 rfl rfl rfl (by kernel_rfl) ?_
 rintro s hp
 refine⟨rfl,?_⟩
 unfold sp_s_l03Pile
 generalize hP:std=p,hB0:rackB=B0,hB1:pileB=B1
 cbv
 repeat' first
  | (refine fun (_:Unit)=>?_;cbv)
  | (refine aI2 (fun h=>?_) (fun h=>?_)<;>cbv)
  | (refine aI2 ?_ ?_)
  | (refine Or.inl (fun (_:Unit)=>?_);cbv)
 all_goals subst hP hB0 hB1
 all_goals try exact fin
 all_goals (simp [std,rackB] at * <;>first | lia | (simp_all;done))
def shf (S:List UInt8) (c:UInt8) (k:Int):List UInt8:=(S++[c]).take (k.toNat+1)++S.drop k.toNat
section
variable {S:List UInt8} {c:UInt8} {k:Int}
theorem shf_len (h0:0≤k) (h:k≤S.length):(shf S c k).length =S.length+1:=by unfold shf;simp;omega
theorem shf_get (h0:1≤k) (h:k≤S.length):(shf S c k).getD (k-1).toNat 0=S.getD (k-1).toNat 0:=by
 have h1:(k-1).toNat < S.length:=by omega
 unfold shf
 rw [List.getD_eq_getElem?_getD,List.getElem?_append_left (by simp;omega),List.getElem?_take,if_pos (by omega),List.getElem?_append_left h1,List.getD_eq_getElem?_getD]
theorem shf_set (h0:1≤k) (h:k≤S.length):(shf S c k).set k.toNat (S.getD (k-1).toNat 0)=shf S c (k-1):=by
 have h1:(k-1).toNat < S.length:=by omega
 have h2:k.toNat=(k-1).toNat + 1:=by omega
 apply List.ext_getElem?
 intro i
 unfold shf
 rw [List.getElem?_set,h2]
 by_cases hi:(k-1).toNat + 1=i
 ·subst hi
  rw [if_pos rfl,if_pos (by simp;omega),List.getElem?_append_right (by simp only [List.length_take,List.length_append,List.length_singleton];omega),List.getElem?_drop,List.getD_eq_getElem?_getD]
  simp only [List.length_take,List.length_append,List.length_singleton]
  rw [show (k-1).toNat + ((k-1).toNat + 1-min ((k-1).toNat + 1) (S.length+1))=(k-1).toNat from by omega,List.getElem?_eq_getElem h1]
  rfl
 ·rw [if_neg hi]
  by_cases hlt:i<(k-1).toNat + 1
  ·rw [List.getElem?_append_left (by simp;omega),List.getElem?_append_left (by simp only [List.length_take,List.length_append,List.length_singleton];omega),List.getElem?_take,List.getElem?_take,if_pos (by omega),if_pos hlt]
  ·rw [List.getElem?_append_right (by simp;omega),List.getElem?_append_right (by simp only [List.length_take,List.length_append,List.length_singleton];omega),List.getElem?_drop,List.getElem?_drop]
   simp only [List.length_take,List.length_append,List.length_singleton]
   congr 1
   omega
theorem shf_fin (h0:0≤k) (h:k≤S.length) (hk:insK S c S.length=k.toNat):(shf S c k).set k.toNat c=insR S c:=by
 unfold insR shf
 rw [hk]
 apply List.ext_getElem?
 intro i
 rw [List.getElem?_set]
 by_cases hi:k.toNat=i
 ·subst hi
  rw [if_pos rfl,if_pos (by simp;omega),List.getElem?_append_right (by simp;omega)]
  simp only [List.length_take]
  rw [show k.toNat-min k.toNat S.length=0 from by omega]
  rfl
 ·rw [if_neg hi]
  by_cases hlt:i<k.toNat
  ·rw [List.getElem?_append_left (by simp;omega),List.getElem?_append_left (by simp;omega),List.getElem?_take,List.getElem?_take,if_pos (by omega),if_pos hlt,List.getElem?_append_left (by omega)]
  ·rw [List.getElem?_append_right (by simp;omega),List.getElem?_append_right (by simp;omega),List.getElem?_drop,show i-(List.take k.toNat S).length =(i-k.toNat-1)+1 from by simp;omega,List.getElem?_cons_succ,List.getElem?_drop]
   simp only [List.length_take,List.length_append,List.length_singleton]
   congr 1
   omega
theorem shf_all (h:k=S.length):shf S c k=S++[c]:=by subst h;unfold shf;simp [List.take_of_length_le]
theorem insK_step (h0:1≤k):insK S c k.toNat=if (c.toNat:Int)<((S.getD (k-1).toNat 0).toNat : Int) then insK S c (k-1).toNat else k.toNat:=by
 obtain⟨n,hn⟩ : ∃n,k.toNat=n+1:=⟨k.toNat-1,by omega⟩
 rw [hn,show (k-1).toNat =n from by omega]
 show (if c.toNat<(S[n]?.getD 0).toNat then insK S c n else n+1)=_
 rw [List.getD_eq_getElem?_getD]
 simp only [Int.ofNat_lt]
end
theorem sort_take {s:List UInt8} {i:Int} (h0:0≤i) (h:i<s.length):isort (s.take (i+1).toNat)=insR (isort (s.take i.toNat)) (s.getD i.toNat 0):=by
 rw [tk h0 h 0]
 simp [isort,List.foldl_append]
theorem sort_len {s:List UInt8} {i:Int} (h0:0≤i) (h:i≤s.length):((isort (s.take i.toNat)).length : Int)=i:=by rw [isort_length,List.length_take];omega
def sp_s_l03Sort (p:Pr):FSpec:=fsp (a1 aS) (fun s=>p.ltM (p.lenS s)) (fun s=>.s (isort s))
theorem ok_s_l03Sort:FOk Tryz.prog 63 (sp_s_l03Sort std):=by
 refine FOk.go (c:=cx std [] [] 0) (cx_ok .nil .nil) mixed Tryz.func63 rfl rfl rfl (by kernel_rfl) ?_
 rintro s hp
 refine⟨rfl,?_⟩
 obtain⟨H,hH⟩ : ∃H:Hd (Int×List Int),H=⟨fun (i,L)=>0≤i∧i≤s.length∧L=toBl (isort (s.take i.toNat)),fun (i,L)=>(s.length-i).toNat,(· < ·)⟩:=⟨_,rfl⟩
 have hl : ∀m n,H.lt m n→m<n:=by subst hH;exact fun _ _ h=>h
 obtain⟨H2,hH2⟩ : ∃H:(Int×List Int)→Hd (Int×List Int),H=fun (i,L)=>⟨fun (k,M)=>0≤k∧k≤i∧M=toBl (shf (isort (s.take i.toNat)) (s.getD i.toNat 0) k)∧insK (isort (s.take i.toNat)) (s.getD i.toNat 0) (isort (s.take i.toNat)).length =insK (isort (s.take i.toNat)) (s.getD i.toNat 0) k.toNat,fun (k,M)=>k.toNat,(· < ·)⟩:=⟨_,rfl⟩
 have hl2 : ∀x m n,(H2 x).lt m n→m<n:=by subst hH2;exact fun _ _ _ h=>h
 generalize hP:std=p,hB0:isort=B0
 cbv
 repeat' first
  | (refine fun (_:Unit)=>?_;cbv)
  | (refine Or.inr ⟨7,[],[.s 4 (.i .i64),.o 0 [.i .u8]],[.s 3],[],H,rfl,hl,?_,fun ((i,L):Int×List Int) hk=>?_⟩<;>cbv)
  | (refine Or.inr ⟨21,[],[.s 5 (.i .i64),.o 2 [.i .u8]],[],[],H2 (i,L),rfl,hl2 _,?_,fun ((k,M):Int×List Int) hk2=>?_⟩<;>cbv)
  | (refine aI2 (fun h=>?_) (fun h=>?_)<;>cbv)
  | (refine aI2 ?_ ?_)
 all_goals subst hP hB0 hH hH2
 all_goals clear hl
 all_goals try dsimp only at hk
 all_goals clear hl2
 all_goals try dsimp only at hk2
 all_goals try dsimp only
 all_goals try exact fin
 all_goals try (have hn:((isort (s.take i.toNat)).length : Int)=i:=sort_len hk.1 hk.2.1)
 all_goals try (have hL:(L.length:Int)=i:=by rw [hk.2.2,toB_len];exact hn)
 all_goals try (have hM:(M.length:Int)=i+1:=by rw [hk2.2.2.1,toB_len,shf_len hk2.1 (by omega)];omega)
 all_goals try first
  | exact⟨Int.le_refl 0,Int.natCast_nonneg _,rfl⟩
  | (simp [std] at *;lia)
 all_goals simp only [std] at *
 ·refine⟨by omega,by omega,?_,?_⟩
  ·rw [hk.2.2] at hL ⊢
   rw [shf_all (by rw [toB_len]),toB_snoc]
  ·rw [hk.2.2,toB_len];rfl
 ·obtain⟨q0,q1,q2,q3⟩:=hk2
  have h1:0<k:=by simpa using ‹decide (0<k)=true›
  subst q2
  rw [toB_get,shf_get (k:=k) (by omega) (by omega)] at h
  refine⟨by omega,by omega,by rw [toB_get,shf_get (k:=k) (by omega) (by omega),toB_set,shf_set (k:=k) (by omega) (by omega)],?_⟩
  rw [q3,insK_step (k:=k) (by omega),if_pos (by simpa using h)]
 ·obtain⟨q0,q1,q2,q3⟩:=hk2
  have h1:0<k:=by simpa using ‹decide (0<k)=true›
  have h2:i<s.length:=by simpa using ‹decide (i<_)=true›
  subst q2
  rw [toB_get,shf_get (k:=k) (by omega) (by omega)] at h
  have g2:i+1≤(s.length:Int):=by omega
  refine⟨by omega,g2,?_⟩
  rw [toB_set,shf_fin q0 (by omega) (by rw [q3,insK_step (k:=k) (by omega),if_neg (by simpa using h)]),sort_take hk.1 h2]
 ·obtain⟨q0,q1,q2,q3⟩:=hk2
  have h1:k≤0:=by simpa using h
  have h2:i<s.length:=by simpa using ‹decide (i<_)=true›
  subst q2
  have g2:i+1≤(s.length:Int):=by omega
  refine⟨by omega,g2,?_⟩
  rw [toB_set,shf_fin q0 (by omega) (by rw [q3,show k.toNat=0 from by omega];rfl),sort_take hk.1 h2]
 ·rw [hk.2.2,toS_toB,tk_all (by simpa using h)]
theorem take_eq {x:UInt8} {a b:List UInt8} : takeGo (x::a) (x::b)=takeGo a b:=by rw [takeGo,if_pos rfl]
theorem take_ne {x y:UInt8} {a b:List UInt8} (h:y≠x):takeGo (x::a) (y::b)=(x::(takeGo a (y::b)).1,(takeGo a (y::b)).2):=by rw [takeGo,if_neg h]
theorem take_nil {x:UInt8} {a:List UInt8} : takeGo (x::a) []=(x::(takeGo a []).1,(takeGo a []).2):=by rw [takeGo,takeGo_nil]
def sp_s_l03Take (p:Pr):FSpec:=fsp (ac aS (a1 aS)) (fun (a,b)=>p.ltM (p.lenS a)∧p.ltM (p.lenS b)) (fun (a,b)=>.tup [.s (takeS a b),.b (takeB a b)])
theorem ok_s_l03Take:FOk Tryz.prog 171 (sp_s_l03Take std):=by
 refine FOk.go (c:=cx std [] [] 0) (cx_ok .nil .nil) mixed Tryz.func171 rfl rfl rfl (by kernel_rfl) ?_
 rintro ⟨a,b⟩ hp
 dsimp only at hp
 refine⟨rfl,?_⟩
 obtain⟨H,hH⟩ : ∃H:Hd (Int×Int×List Int),H=⟨fun (k,i,L)=>0≤i∧i≤a.length∧0≤k∧k≤b.length∧∃X,L=toBl X∧(X.length:Int)≤i∧takeGo a b=(X++(takeGo (a.drop i.toNat) (b.drop k.toNat)).1,(takeGo (a.drop i.toNat) (b.drop k.toNat)).2),fun (k,i,L)=>(a.length-i).toNat,(· < ·)⟩:=⟨_,rfl⟩
 have hl : ∀m n,H.lt m n→m<n:=by subst hH;exact fun _ _ h=>h
 generalize hP:std=p,hB0:takeS=B0,hB1:takeB=B1
 cbv
 repeat' first
  | (refine fun (_:Unit)=>?_;cbv)
  | (refine Or.inr ⟨10,[],[.s 7 (.i .i64),.s 8 (.i .i64),.o 0 [.i .u8]],[.s 6],[],H,rfl,hl,?_,fun ((k,i,L):Int×Int×List Int) hk=>?_⟩<;>cbv)
  | (refine aI2 (fun h=>?_) (fun h=>?_)<;>cbv)
  | (refine aI2 ?_ ?_)
 all_goals subst hP hB0 hB1 hH
 all_goals clear hl
 all_goals try dsimp only at hk
 all_goals try dsimp only
 all_goals try exact fin
 ·exact⟨Int.le_refl 0,Int.natCast_nonneg _,Int.le_refl 0,Int.natCast_nonneg _,[],rfl,Int.le_refl 0,rfl⟩
 all_goals obtain⟨q0,q1,q2,q3,X,rfl,q5,q4⟩:=hk
 all_goals simp only [std] at *
 all_goals try (simp only [toB_len] at *;simp at *;lia)
 ·have h1:i<a.length:=by simpa using ‹decide (i<_)=true›
  have h2:k<b.length:=by simpa using ‹decide (k<_)=true›
  have h3:b.getD k.toNat 0=a.getD i.toNat 0:=by rw [beq_iff_eq] at h;exact UInt8.toNat_inj.1 (by lia)
  have g1:i+1≤(a.length:Int):=by lia
  have g2:k+1≤(b.length:Int):=by lia
  have g3:(X.length:Int)≤i+1:=by lia
  refine⟨by lia,g1,by lia,g2,X,rfl,g3,?_⟩
  rw [q4,dc q0 h1 0,dc q2 h2 0,h3,take_eq]
 ·have h1:i<a.length:=by simpa using ‹decide (i<_)=true›
  have h2:k<b.length:=by simpa using ‹decide (k<_)=true›
  have h3:b.getD k.toNat 0≠a.getD i.toNat 0:=fun hh=>by rw [hh] at h;simp at h
  have g1:i+1≤(a.length:Int):=by lia
  have g2:((X++[a.getD i.toNat 0]).length : Int)≤i+1:=by simp only [List.length_append,List.length_singleton];lia
  refine⟨by lia,g1,q2,q3,X++[a.getD i.toNat 0],toB_snoc _ _,g2,?_⟩
  rw [q4,dc q0 h1 0,dc q2 h2 0,take_ne h3]
  simp
 ·have h1:i<a.length:=by simpa using ‹decide (i<_)=true›
  have h2:(b.length:Int)≤k:=by simpa using h
  have g1:i+1≤(a.length:Int):=by lia
  have g2:((X++[a.getD i.toNat 0]).length : Int)≤i+1:=by simp only [List.length_append,List.length_singleton];lia
  refine⟨by lia,g1,q2,q3,X++[a.getD i.toNat 0],toB_snoc _ _,g2,?_⟩
  rw [q4,dc q0 h1 0,dn h2,take_nil]
  simp
 ·have h2:(a.length:Int)≤i:=by simpa using h
  rw [takeS,q4,dn h2,toS_toB]
  simp [takeGo]
 ·have h2:(a.length:Int)≤i:=by simpa using h
  rw [takeB,q4,dn h2]
  have h3:((b.drop k.toNat).isEmpty =true)↔k=b.length:=by
   rw [List.isEmpty_iff,List.drop_eq_nil_iff]
   lia
  rw [Bool.eq_iff_iff]
  simp only [takeGo]
  rw [h3,beq_iff_eq]
def sp_s_l03Placed (p:Pr):FSpec:=fsp (a1 aS) (fun s=>p.ltM (p.lenS s)) (fun s=>.b (placedB s))
theorem ok_s_l03Placed:FOk Tryz.prog 319 (sp_s_l03Placed std):=by
 refine FOk.go (c:=cx std [(78,sp_s_l00In std),(197,sp_s_l01Small std),(198,sp_s_l03Capital std)] [] 0) (cx_ok (.cons ok_s_l00In (.cons ok_s_l01Small (.cons ok_s_l03Capital .nil))) .nil) mixed Tryz.func319 rfl rfl rfl (by kernel_rfl) ?_
 rintro s hp
 refine⟨rfl,?_⟩
 unfold sp_s_l00In sp_s_l01Small sp_s_l03Capital
 obtain⟨H,hH⟩ : ∃H:Hd (Int),H=⟨fun k=>0≤k∧k≤s.length∧placedB s=((s.drop k.toNat).all (fun c=>smallB c||capB c)&&inR s.length 1 12),fun k=>(s.length-k).toNat,(· < ·)⟩:=⟨_,rfl⟩
 have hl : ∀m n,H.lt m n→m<n:=by subst hH;exact fun _ _ h=>h
 generalize hP:std=p,hB0:placedB=B0,hB1:inR=B1
 cbv
 repeat' first
  | (refine fun (_:Unit)=>?_;cbv)
  | (refine Or.inr ⟨4,[],[.s 3 (.i .i64)],[],[],H,rfl,hl,?_,fun (k:Int) hk=>?_⟩<;>cbv)
  | (refine aI2 (fun h=>?_) (fun h=>?_)<;>cbv)
  | (refine aI2 ?_ ?_)
 all_goals subst hP hB0 hB1 hH
 all_goals clear hl
 all_goals try dsimp only at hk
 all_goals try dsimp only
 all_goals try exact fin
 all_goals try first
  | exact⟨Int.le_refl 0,Int.natCast_nonneg _,rfl⟩
  | (simp [placedB,smallB_i,capB_i];done)
  | (obtain⟨q0,q1,e⟩:=hk;refine⟨by simp [std] at *;lia,by simp [std] at *;lia,?_⟩;rw [e,dc q0 (lt_of ‹_›) 0];clear e;simp_all [std,placedB,smallB_i,capB_i];done)
  | (obtain⟨q0,q1,e⟩:=hk;refine⟨by simp [std] at *;lia,by simp [std] at *;lia,?_⟩;rw [e,dc q0 (lt_of ‹_›) 0];clear e;simp_all [std,placedB,smallB_i,capB_i]<;>grind;done)
  | (obtain⟨q0,q1,e⟩:=hk;rw [e,dc q0 (lt_of ‹_›) 0];clear e;simp_all [std,placedB,smallB_i,capB_i];done)
  | (obtain⟨q0,q1,e⟩:=hk;rw [e,dc q0 (lt_of ‹_›) 0];clear e;simp_all [std,placedB,smallB_i,capB_i]<;>grind;done)
  | (obtain⟨q0,q1,e⟩:=hk;rw [e,dn (ge_of ‹_›)];clear e;simp_all [std,placedB,smallB_i,capB_i];done)
  | (obtain⟨q0,q1,e⟩:=hk;rw [e,dn (ge_of ‹_›)];clear e;simp_all [std,placedB,smallB_i,capB_i]<;>grind;done)
def sp_s_l17Ok (p:Pr):FSpec:=fsp (a1 aS) (fun s=>p.ltM (p.lenS s)) (fun s=>.b (bagB s))
theorem ok_s_l17Ok:FOk Tryz.prog 62 (sp_s_l17Ok std):=by
 refine FOk.go (c:=cx std [(146,sp_s_l03Tile std)] [] 0) (cx_ok (.cons ok_s_l03Tile .nil) .nil) mixed Tryz.func62 rfl rfl rfl (by kernel_rfl) ?_
 rintro s hp
 refine⟨rfl,?_⟩
 unfold sp_s_l03Tile
 obtain⟨H,hH⟩ : ∃H:Hd (Int),H=⟨fun k=>0≤k∧k≤s.length∧bagB s=((s.drop k.toNat).all tileB&&decide (s.length≤120)),fun k=>(s.length-k).toNat,(· < ·)⟩:=⟨_,rfl⟩
 have hl : ∀m n,H.lt m n→m<n:=by subst hH;exact fun _ _ h=>h
 generalize hP:std=p,hB0:bagB=B0,hB1:inR=B1
 cbv
 repeat' first
  | (refine fun (_:Unit)=>?_;cbv)
  | (refine Or.inr ⟨4,[],[.s 3 (.i .i64)],[],[],H,rfl,hl,?_,fun (k:Int) hk=>?_⟩<;>cbv)
  | (refine aI2 (fun h=>?_) (fun h=>?_)<;>cbv)
  | (refine aI2 ?_ ?_)
 all_goals subst hP hB0 hB1 hH
 all_goals clear hl
 all_goals try dsimp only at hk
 all_goals try dsimp only
 all_goals try exact fin
 all_goals try first
  | exact⟨Int.le_refl 0,Int.natCast_nonneg _,rfl⟩
  | (simp [bagB,tileB_i];done)
  | (obtain⟨q0,q1,e⟩:=hk;refine⟨by simp [std] at *;lia,by simp [std] at *;lia,?_⟩;rw [e,dc q0 (lt_of ‹_›) 0];clear e;simp_all [std,bagB,tileB_i];done)
  | (obtain⟨q0,q1,e⟩:=hk;refine⟨by simp [std] at *;lia,by simp [std] at *;lia,?_⟩;rw [e,dc q0 (lt_of ‹_›) 0];clear e;simp_all [std,bagB,tileB_i]<;>grind;done)
  | (obtain⟨q0,q1,e⟩:=hk;rw [e,dc q0 (lt_of ‹_›) 0];clear e;simp_all [std,bagB,tileB_i];done)
  | (obtain⟨q0,q1,e⟩:=hk;rw [e,dc q0 (lt_of ‹_›) 0];clear e;simp_all [std,bagB,tileB_i]<;>grind;done)
  | (obtain⟨q0,q1,e⟩:=hk;rw [e,dn (ge_of ‹_›)];clear e;simp_all [std,bagB,tileB_i];done)
  | (obtain⟨q0,q1,e⟩:=hk;rw [e,dn (ge_of ‹_›)];clear e;simp_all [std,bagB,tileB_i]<;>grind;done)
def sp_s_l17Fill (p:Pr):FSpec:=fsp (ac aS (a1 aS)) (fun (bag,rack)=>(p.ltM (p.lenS bag)∧p.ltM (p.lenS rack))∧p.leP (p.lenS rack) 7) (fun (bag,rack)=>.i .i64 (drawN bag rack))
theorem ok_s_l17Fill:FOk Tryz.prog 264 (sp_s_l17Fill std):=by
 refine FOk.go (c:=cx std [] [] 0) (cx_ok .nil .nil) mixed Tryz.func264 rfl rfl rfl (by kernel_rfl) ?_
 rintro ⟨bag,rack⟩ hp
 dsimp only at hp
 refine⟨rfl,?_⟩
 generalize hP:std=p,hB0:drawN=B0
 cbv
 repeat' first
  | (refine fun (_:Unit)=>?_;cbv)
  | (refine aI2 (fun h=>?_) (fun h=>?_)<;>cbv)
  | (refine aI2 ?_ ?_)
  | (refine Or.inl (fun (_:Unit)=>?_);cbv)
 all_goals subst hP hB0
 all_goals try exact fin
 all_goals (simp [std,drawN] at * <;>lia)
theorem low_cap {c:UInt8} (h:inR (c.toNat:Int) 65 90=true):((lowC c).toNat : Int)=c.toNat+32∧blankC c=63:=by
 have h1:capB c=true:=h
 unfold lowC blankC
 rw [if_pos h1,if_pos h1]
 simp [inR] at h
 refine⟨?_,rfl⟩
 rw [UInt8.toNat_add]
 have : (32:UInt8).toNat =32:=rfl
 omega
theorem low_no {c:UInt8} (h:inR (c.toNat:Int) 65 90=false):lowC c=c∧blankC c=c:=by
 have h1:capB c=false:=h
 unfold lowC blankC
 rw [h1]
 exact⟨rfl,rfl⟩
def mapK (f:UInt8→UInt8) (s:List UInt8) (k:Int):List UInt8:=(s.take k.toNat).map f++s.drop k.toNat
section
variable {f:UInt8→UInt8} {s:List UInt8} {k:Int}
theorem mapK_len:(mapK f s k).length =s.length:=by unfold mapK;simp;omega
theorem mapK_get (h0:0≤k) (h:k<s.length):(mapK f s k).getD k.toNat 0=s.getD k.toNat 0:=by
 unfold mapK
 rw [List.getD_eq_getElem?_getD,List.getElem?_append_right (by simp only [List.length_map,List.length_take];omega),List.getElem?_drop,List.getD_eq_getElem?_getD]
 congr 2
 simp;omega
theorem mapK_set (h0:0≤k) (h:k<s.length) {c:UInt8} (hc:f (s.getD k.toNat 0)=c):(mapK f s k).set k.toNat c=mapK f s (k+1):=by
 unfold mapK
 rw [tk h0 h 0,dc h0 h 0,List.map_append,List.append_assoc,List.set_append_right _ _ (by simp;omega)]
 simp only [List.length_map,List.length_take,List.map_cons,List.map_nil,List.singleton_append]
 rw [show k.toNat-min k.toNat s.length=0 from by omega,List.set_cons_zero,hc]
theorem mapK_no (h0:0≤k) (h:k<s.length) (hc:f (s.getD k.toNat 0)=s.getD k.toNat 0):mapK f s k=mapK f s (k+1):=by
 rw [←mapK_set h0 h hc]
 unfold mapK
 rw [dc h0 h 0,List.set_append_right _ _ (by simp;omega)]
 simp only [List.length_map,List.length_take]
 rw [show k.toNat-min k.toNat s.length=0 from by omega,List.set_cons_zero]
theorem mapK_end (h:(s.length:Int)≤k):mapK f s k=s.map f:=by unfold mapK;rw [tk_all h,dn h,List.append_nil]
end
def sp_s_l03Small (p:Pr):FSpec:=fsp (a1 aS) (fun s=>p.ltM (p.lenS s)) (fun s=>.s (lowS s))
theorem ok_s_l03Small:FOk Tryz.prog 332 (sp_s_l03Small std):=by
 refine FOk.go (c:=cx std [(198,sp_s_l03Capital std)] [] 0) (cx_ok (.cons ok_s_l03Capital .nil) .nil) mixed Tryz.func332 rfl rfl rfl (by kernel_rfl) ?_
 rintro s hp
 refine⟨rfl,?_⟩
 unfold sp_s_l03Capital
 obtain⟨H,hH⟩ : ∃H:Hd (Int×List Int),H=⟨fun (k,L)=>0≤k∧k≤s.length∧L=toBl (mapK lowC s k),fun (k,L)=>(s.length-k).toNat,(· < ·)⟩:=⟨_,rfl⟩
 have hl : ∀m n,H.lt m n→m<n:=by subst hH;exact fun _ _ h=>h
 generalize hP:std=p,hB0:lowS=B0,hB1:inR=B1
 cbv
 repeat' first
  | (refine fun (_:Unit)=>?_;cbv)
  | (refine Or.inr ⟨7,[],[.s 4 (.i .i64),.o 0 [.i .u8]],[],[],H,rfl,hl,?_,fun ((k,L):Int×List Int) hk=>?_⟩<;>cbv)
  | (refine aI2 (fun h=>?_) (fun h=>?_)<;>cbv)
  | (refine aI2 ?_ ?_)
 all_goals subst hP hB0 hB1 hH
 all_goals clear hl
 all_goals try dsimp only at hk
 all_goals try dsimp only
 all_goals try exact fin
 ·exact⟨Int.le_refl 0,Int.natCast_nonneg _,rfl⟩
 all_goals obtain⟨q0,q1,rfl⟩:=hk
 all_goals simp only [std] at *
 all_goals have h1:=toB_len (mapK lowC s k)
 all_goals rw [mapK_len] at h1
 all_goals try (have h2:k<s.length:=by have h3:=of_decide_eq_true ‹decide (k<((toBl (mapK lowC s k)).length : Int))=true›;rwa [h1] at h3)
 all_goals try rw [toB_get,mapK_get q0 h2] at h
 all_goals try (simp only [mapK_len,toB_len,toB_get] at *;simp at *;lia)
 ·rw [toB_get,mapK_get q0 h2]
  have:=(low_cap h).1
  have:=(lowC (s.getD k.toNat 0)).toNat_lt
  refine⟨?_,?_⟩
  ·show (0:Int)≤_;omega
  ·show _≤(255:Int);omega
 ·have g1:k+1≤(s.length:Int):=by lia
  refine⟨by lia,g1,?_⟩
  rw [toB_get,mapK_get q0 h2,←(low_cap h).1,toB_set,mapK_set q0 h2 rfl]
 ·have g1:k+1≤(s.length:Int):=by lia
  exact⟨by lia,g1,by rw [←mapK_no q0 h2 (low_no h).1]⟩
 ·rw [toS_toB,mapK_end (by simpa [mapK_len] using h)];rfl
def sp_s_l03Tiles (p:Pr):FSpec:=fsp (a1 aS) (fun s=>p.ltM (p.lenS s)) (fun s=>.s (tilesS s))
theorem ok_s_l03Tiles:FOk Tryz.prog 158 (sp_s_l03Tiles std):=by
 refine FOk.go (c:=cx std [(198,sp_s_l03Capital std),(63,sp_s_l03Sort std)] [] 0) (cx_ok (.cons ok_s_l03Capital (.cons ok_s_l03Sort .nil)) .nil) mixed Tryz.func158 rfl rfl rfl (by kernel_rfl) ?_
 rintro s hp
 refine⟨rfl,?_⟩
 unfold sp_s_l03Capital sp_s_l03Sort
 obtain⟨H,hH⟩ : ∃H:Hd (Int×List Int),H=⟨fun (k,L)=>0≤k∧k≤s.length∧L=toBl (mapK blankC s k),fun (k,L)=>(s.length-k).toNat,(· < ·)⟩:=⟨_,rfl⟩
 have hl : ∀m n,H.lt m n→m<n:=by subst hH;exact fun _ _ h=>h
 generalize hP:std=p,hB0:tilesS=B0,hB1:inR=B1,hB2:isort=B2
 cbv
 repeat' first
  | (refine fun (_:Unit)=>?_;cbv)
  | (refine Or.inr ⟨7,[],[.s 4 (.i .i64),.o 0 [.i .u8]],[],[],H,rfl,hl,?_,fun ((k,L):Int×List Int) hk=>?_⟩<;>cbv)
  | (refine aI2 (fun h=>?_) (fun h=>?_)<;>cbv)
  | (refine aI2 ?_ ?_)
 all_goals subst hP hB0 hB1 hB2 hH
 all_goals clear hl
 all_goals try dsimp only at hk
 all_goals try dsimp only
 all_goals try exact fin
 ·exact⟨Int.le_refl 0,Int.natCast_nonneg _,rfl⟩
 all_goals obtain⟨q0,q1,rfl⟩:=hk
 all_goals simp only [std] at *
 all_goals have h1:=toB_len (mapK blankC s k)
 all_goals rw [mapK_len] at h1
 all_goals try (have h2:k<s.length:=by have h3:=of_decide_eq_true ‹decide (k<((toBl (mapK blankC s k)).length : Int))=true›;rwa [h1] at h3)
 all_goals try rw [toB_get,mapK_get q0 h2] at h
 all_goals try (simp only [mapK_len,toB_len,toB_get,toS_toB] at *;simp at *;lia)
 ·have g1:k+1≤(s.length:Int):=by lia
  refine⟨by lia,g1,?_⟩
  rw [←mapK_set q0 h2 (low_cap h).2,←toB_set];rfl
 ·have g1:k+1≤(s.length:Int):=by lia
  exact⟨by lia,g1,by rw [←mapK_no q0 h2 (low_no h).2]⟩
 ·rw [toS_toB,mapK_end (by simpa [mapK_len] using h)];rfl
def sp_s_l05Long (p:Pr):FSpec:=fsp (a1 aS) (fun s=>p.ltM (p.lenS s)) (fun s=>.b (longB s))
theorem ok_s_l05Long:FOk Tryz.prog 208 (sp_s_l05Long std):=by
 refine FOk.go (c:=cx std [(243,sp_s_IsWord std)] [] 0) (cx_ok (.cons ok_s_IsWord .nil) .nil) mixed Tryz.func208 rfl rfl rfl (by kernel_rfl) ?_
 rintro s hp
 refine⟨rfl,?_⟩
 unfold sp_s_IsWord
 generalize hP:std=p,hB0:longB=B0,hB1:isWordB=B1
 cbv
 repeat' first
  | (refine fun (_:Unit)=>?_;cbv)
  | (refine aI2 (fun h=>?_) (fun h=>?_)<;>cbv)
  | (refine aI2 ?_ ?_)
  | (refine Or.inl (fun (_:Unit)=>?_);cbv)
 all_goals subst hP hB0 hB1
 all_goals try exact fin
 all_goals (simp [std,longB] at * <;>first | lia | (simp_all;done))
end Ax
namespace Ax
set_option maxRecDepth 100000
structure WsP (ws:List (List UInt8)):Prop where
 len:ws.length≤274877906944
 all : ∀k:Nat,(ws.getD k []).length ≤274877906944
def lexK (ws:List (List UInt8)) (k:Int):Bool:=lexFrom (if k≤0 then none else some (ws.getD (k-1).toNat [])) (ws.drop k.toNat)
theorem lexK_step {s:List (List UInt8)} {k:Int} (h0:0≤k) (h:k<s.length):lexK s k=(longB (s.getD k.toNat [])&&((decide (k≤0)||sLt (s.getD (k-1).toNat []) (s.getD k.toNat []))&&lexK s (k+1))):=by
 unfold lexK
 rw [dc h0 h [],if_neg (show ¬k+1≤0 by omega),show k+1-1=k from by omega]
 by_cases hk:k≤0
 ·simp [hk,lexFrom]
 ·simp [hk,lexFrom,Bool.and_assoc]
theorem lexK_end {s:List (List UInt8)} {k:Int} (h:(s.length:Int)≤k):lexK s k=true:=by unfold lexK;rw [dn h];cases (if k≤0 then none else some (s.getD (k-1).toNat []))<;>rfl
theorem wsP_lt {ws:List (List UInt8)} (h:WsP ws) (k:Int):std.ltM (std.lenS (std.get [] ws k)):=ltM_of (h.all k.toNat)
def sp_s_l05Ok (p:Pr):FSpec:=fsp (a1 (aP aLex)) (fun ws=>WsP ws) (fun ws=>.b (lexB ws))
theorem ok_s_l05Ok:FOk Tryz.prog 144 (sp_s_l05Ok std):=by
 refine FOk.go (c:=cx std [(208,sp_s_l05Long std)] [] 0) (cx_ok (.cons ok_s_l05Long .nil) .nil) mixed Tryz.func144 rfl rfl rfl (by kernel_rfl) ?_
 rintro ws hp
 refine⟨rfl,?_⟩
 unfold sp_s_l05Long
 obtain⟨H,hH⟩ : ∃H:Hd (Int),H=⟨fun k=>0≤k∧k≤ws.length∧lexB ws=(lexK ws k&&decide (ws.length≤200)),fun k=>(ws.length-k).toNat,(· < ·)⟩:=⟨_,rfl⟩
 have hl : ∀m n,H.lt m n→m<n:=by subst hH;exact fun _ _ h=>h
 generalize hP:std=p,hB0:lexB=B0,hB1:longB=B1
 cbv
 repeat' first
  | (refine fun (_:Unit)=>?_;cbv)
  | (refine Or.inr ⟨4,[],[.s 3 (.i .i64)],[],[],H,rfl,hl,?_,fun (k:Int) hk=>?_⟩<;>cbv)
  | (refine aI2 (fun h=>?_) (fun h=>?_)<;>cbv)
  | (refine aI2 ?_ ?_)
 all_goals subst hP hB0 hB1 hH
 all_goals clear hl
 all_goals try dsimp only at hk
 all_goals try dsimp only
 all_goals have f1:=hp.len
 all_goals try exact fin
 all_goals try first
  | exact⟨Int.le_refl 0,Int.natCast_nonneg _,rfl⟩
  | (simp [lexB,sLt];done)
  | (obtain⟨q0,q1,e⟩:=hk;refine⟨by simp [std] at *;lia,by simp [std] at *;lia,?_⟩;rw [e,lexK_step q0 (lt_of ‹_›)];clear e;simp_all [std,lexB,sLt];done)
  | (obtain⟨q0,q1,e⟩:=hk;refine⟨by simp [std] at *;lia,by simp [std] at *;lia,?_⟩;rw [e,lexK_step q0 (lt_of ‹_›)];clear e;simp_all [std,lexB,sLt]<;>grind;done)
  | (obtain⟨q0,q1,e⟩:=hk;rw [e,lexK_step q0 (lt_of ‹_›)];clear e;simp_all [std,lexB,sLt];done)
  | (obtain⟨q0,q1,e⟩:=hk;rw [e,lexK_step q0 (lt_of ‹_›)];clear e;simp_all [std,lexB,sLt]<;>grind;done)
  | (obtain⟨q0,q1,e⟩:=hk;rw [e,lexK_end (ge_of ‹_›)];clear e;simp_all [std,lexB,sLt];done)
  | (obtain⟨q0,q1,e⟩:=hk;rw [e,lexK_end (ge_of ‹_›)];clear e;simp_all [std,lexB,sLt]<;>grind;done)
 ·exact wsP_lt hp _
def firI (ws:List (List UInt8)) (s:List UInt8):Int:=firstK ws s
def sp_s_l05First (p:Pr):FSpec:=fsp (ac aW (a1 aS)) (fun (ws,s)=>WsP ws) (fun (ws,s)=>.i .i64 (firI ws s))
theorem ok_s_l05First:FOk Tryz.prog 344 (sp_s_l05First std):=by
 refine FOk.go (c:=cx std [] [] 0) (cx_ok .nil .nil) mixed Tryz.func344 rfl rfl rfl (by kernel_rfl) ?_
 rintro ⟨ws,s⟩ hp
 dsimp only at hp
 refine⟨rfl,?_⟩
 obtain⟨H,hH⟩ : ∃H:Hd (Int),H=⟨fun k=>0≤k∧k≤ws.length∧firI ws s=k+firI (ws.drop k.toNat) s,fun k=>(ws.length-k).toNat,(· < ·)⟩:=⟨_,rfl⟩
 have hl : ∀m n,H.lt m n→m<n:=by subst hH;exact fun _ _ h=>h
 generalize hP:std=p,hB0:firI=B0
 cbv
 repeat' first
  | (refine fun (_:Unit)=>?_;cbv)
  | (refine Or.inr ⟨6,[],[.s 5 (.i .i64)],[],[],H,rfl,hl,?_,fun (k:Int) hk=>?_⟩<;>cbv)
  | (refine aI2 (fun h=>?_) (fun h=>?_)<;>cbv)
  | (refine aI2 ?_ ?_)
 all_goals subst hP hB0 hH
 all_goals clear hl
 all_goals try dsimp only at hk
 all_goals try dsimp only
 all_goals have f1:=hp.len
 all_goals try exact fin
 ·obtain⟨q0,q1,e⟩:=hk
  have h1:k<ws.length:=lt_of ‹std.ltI k _=true›
  have g1:k+1≤(ws.length:Int):=by lia
  have h2:sLt (ws.getD k.toNat []) s=true:=h
  refine⟨by show 0≤k+1;omega,g1,?_⟩
  rw [e,dc q0 h1 []]
  show k+(firstK (_::_) s:Int)=(k+1)+(firstK (ws.drop (k+1).toNat) s:Int)
  rw [firstK,if_pos h2]
  omega
 ·obtain⟨q0,q1,e⟩:=hk
  have h1:k<ws.length:=lt_of ‹std.ltI k _=true›
  have h2:sLt (ws.getD k.toNat []) s=false:=h
  rw [e,dc q0 h1 []]
  show k=k+(firstK (_::_) s:Int)
  rw [firstK,h2]
  simp
 ·obtain⟨q0,q1,e⟩:=hk
  have h1:(ws.length:Int)≤k:=by simpa using h
  rw [e,dn h1]
  simp [firI,firstK]
def sp_s_l05Has (p:Pr):FSpec:=fsp (ac aW (a1 aS)) (fun (ws,s)=>WsP ws) (fun (ws,s)=>.b (hasB ws s))
theorem ok_s_l05Has:FOk Tryz.prog 331 (sp_s_l05Has std):=by
 refine FOk.go (c:=cx std [(344,sp_s_l05First std)] [] 0) (cx_ok (.cons ok_s_l05First .nil) .nil) mixed Tryz.func331 rfl rfl rfl (by kernel_rfl) ?_
 rintro ⟨ws,s⟩ hp
 dsimp only at hp
 refine⟨rfl,?_⟩
 unfold sp_s_l05First
 generalize hP:std=p,hB0:firI=B0,hB1:hasB=B1
 cbv
 repeat' first
  | (refine fun (_:Unit)=>?_;cbv)
  | (refine aI2 (fun h=>?_) (fun h=>?_)<;>cbv)
  | (refine aI2 ?_ ?_)
  | (refine Or.inl (fun (_:Unit)=>?_);cbv)
 all_goals subst hP hB0 hB1
 all_goals have f1:=hp.len
 all_goals try exact fin
 ·exact⟨Int.natCast_nonneg _,lt_of h⟩
 ·have h1:firI ws s<ws.length:=lt_of h
  unfold firI at h1 ⊢
  unfold hasB
  show (ws.getD (firstK ws s) []==s)=_
  rw [List.getD_eq_getElem?_getD,List.getElem?_eq_getElem (by omega)]
  rfl
 ·have h1:(ws.length:Int)≤firI ws s:=by simpa using h
  unfold firI at h1
  unfold hasB
  rw [List.getElem?_eq_none (by omega)]
  rfl
def sp_s_l11Size (p:Pr):FSpec:=fsp (a1 aI) (fun n=>True) (fun n=>.b (inR n 5 15))
theorem ok_s_l11Size:FOk Tryz.prog 192 (sp_s_l11Size std):=by
 refine FOk.go (c:=cx std [(78,sp_s_l00In std)] [] 0) (cx_ok (.cons ok_s_l00In .nil) .nil) mixed Tryz.func192 rfl rfl rfl (by kernel_rfl) ?_
 rintro n hp
 refine⟨rfl,?_⟩
 unfold sp_s_l00In
 generalize hP:std=p,hB0:inR=B0
 cbv
 repeat' first
  | (refine fun (_:Unit)=>?_;cbv)
  | (refine aI2 (fun h=>?_) (fun h=>?_)<;>cbv)
  | (refine aI2 ?_ ?_)
  | (refine Or.inl (fun (_:Unit)=>?_);cbv)
 all_goals subst hP hB0
 all_goals try exact fin
def cellI (n:Int):Bool:=n==46||(inR n 97 122||inR n 65 90)
def premI (n:Int):Bool:=n==46||(n==50||(n==51||(n==100||n==116)))
def sp_s_l11Cell (p:Pr):FSpec:=fsp (a1 aC) (fun n=>True) (fun n=>.b (cellI n))
theorem ok_s_l11Cell:FOk Tryz.prog 133 (sp_s_l11Cell std):=by
 refine FOk.go (c:=cx std [(197,sp_s_l01Small std),(198,sp_s_l03Capital std)] [] 0) (cx_ok (.cons ok_s_l01Small (.cons ok_s_l03Capital .nil)) .nil) mixed Tryz.func133 rfl rfl rfl (by kernel_rfl) ?_
 rintro n hp
 refine⟨rfl,?_⟩
 unfold sp_s_l01Small sp_s_l03Capital
 generalize hP:std=p,hB0:inR=B0,hB1:cellI=B1
 cbv
 repeat' first
  | (refine fun (_:Unit)=>?_;cbv)
  | (refine aI2 (fun h=>?_) (fun h=>?_)<;>cbv)
  | (refine aI2 ?_ ?_)
  | (refine Or.inl (fun (_:Unit)=>?_);cbv)
 all_goals subst hP hB0 hB1
 all_goals try exact fin
 all_goals (simp [std,cellI] at * <;>first | lia | (simp_all;done))
def sp_s_l11Premium (p:Pr):FSpec:=fsp (a1 aC) (fun n=>True) (fun n=>.b (premI n))
theorem ok_s_l11Premium:FOk Tryz.prog 196 (sp_s_l11Premium std):=by
 refine FOk.go (c:=cx std [] [] 0) (cx_ok .nil .nil) mixed Tryz.func196 rfl rfl rfl (by kernel_rfl) ?_
 rintro n hp
 refine⟨rfl,?_⟩
 generalize hP:std=p,hB0:premI=B0
 cbv
 repeat' first
  | (refine fun (_:Unit)=>?_;cbv)
  | (refine aI2 (fun h=>?_) (fun h=>?_)<;>cbv)
  | (refine aI2 ?_ ?_)
  | (refine Or.inl (fun (_:Unit)=>?_);cbv)
 all_goals subst hP hB0
 all_goals try exact fin
 all_goals (simp [std,premI] at * <;>first | lia | (simp_all;done))
structure BdP (b:Bd):Prop where
 p:b.prem.length≤274877906944
 c:b.cells.length≤274877906944
structure AtP (b:Bd) (r c:Int):Prop where
 fit:b.Fit
 inn:b.inB r c=true
def atI (b:Bd) (r c:Int):Int:=(b.at_ r c).toNat
theorem atP_bd {b:Bd} {r c:Int} (h:AtP b r c):(0≤r*b.size∧r*b.size≤225)∧(0≤r*b.size+c∧r*b.size+c<b.cells.length∧(b.cells.length:Int)≤225):=by
 obtain⟨⟨h1,h2⟩,h3,h4⟩:=inB_iff.1 h.inn
 have h5:=mul_bounds h.fit.lo h.fit.hi h1 h2 h3 h4
 have h6:=h.fit.cells
 have h7:=h.fit.hi
 have h8:r*b.size≤15*15:=Int.mul_le_mul (by omega) h7 (by have:=h.fit.lo;omega) (by omega)
 have h9:0≤r*b.size:=Int.mul_nonneg h1 (by have:=h.fit.lo;omega)
 refine⟨⟨h9,h8⟩,by omega,?_⟩
 rw [h6]
 omega
theorem at_i (b:Bd) (r c:Int) (n:Nat) (h:n<256):(b.at_ r c==UInt8.ofNat n)=(atI b r c==(n:Int)):=byte_lit h
def sp_s_l11In (p:Pr):FSpec:=fsp (ac (aP aBd) (ac aI (a1 aI))) (fun (b,r,c)=>p.inK .i64 (p.sub b.size 1)) (fun (b,r,c)=>.b (b.inB r c))
theorem ok_s_l11In:FOk Tryz.prog 132 (sp_s_l11In std):=by
 refine FOk.go (c:=cx std [(78,sp_s_l00In std)] [] 0) (cx_ok (.cons ok_s_l00In .nil) .nil) mixed Tryz.func132 rfl rfl rfl (by kernel_rfl) ?_
 rintro ⟨b,r,c⟩ hp
 dsimp only at hp
 refine⟨rfl,?_⟩
 unfold sp_s_l00In
 generalize hP:std=p,hB0:Bd.inB=B0,hB1:inR=B1
 cbv
 repeat' first
  | (refine fun (_:Unit)=>?_;cbv)
  | (refine aI2 (fun h=>?_) (fun h=>?_)<;>cbv)
  | (refine aI2 ?_ ?_)
  | (refine Or.inl (fun (_:Unit)=>?_);cbv)
 all_goals subst hP hB0 hB1
 all_goals try exact fin
 ·unfold Bd.inB;rw [show inR r 0 (b.size-1)=true from h];rfl
 ·unfold Bd.inB;rw [show inR r 0 (b.size-1)=false from h];rfl
def sp_s_l11At (p:Pr):FSpec:=fsp (ac (aP aBd) (ac aI (a1 aI))) (fun (b,r,c)=>AtP b r c) (fun (b,r,c)=>.i .u8 (atI b r c))
theorem ok_s_l11At:FOk Tryz.prog 293 (sp_s_l11At std):=by
 refine FOk.go (c:=cx std [] [] 0) (cx_ok .nil .nil) mixed Tryz.func293 rfl rfl rfl (by kernel_rfl) ?_
 rintro ⟨b,r,c⟩ hp
 dsimp only at hp
 refine⟨rfl,?_⟩
 generalize hP:std=p,hB0:atI=B0
 cbv
 repeat' first
  | (refine fun (_:Unit)=>?_;cbv)
  | (refine aI2 (fun h=>?_) (fun h=>?_)<;>cbv)
  | (refine aI2 ?_ ?_)
  | (refine Or.inl (fun (_:Unit)=>?_);cbv)
 all_goals subst hP hB0
 all_goals have f1:=atP_bd hp
 all_goals try exact fin
def sp_s_l11Full (p:Pr):FSpec:=fsp (ac (aP aBd) (ac aI (a1 aI))) (fun (b,r,c)=>b.Fit) (fun (b,r,c)=>.b (b.full r c))
theorem ok_s_l11Full:FOk Tryz.prog 320 (sp_s_l11Full std):=by
 refine FOk.go (c:=cx std [(132,sp_s_l11In std),(293,sp_s_l11At std)] [] 0) (cx_ok (.cons ok_s_l11In (.cons ok_s_l11At .nil)) .nil) mixed Tryz.func320 rfl rfl rfl (by kernel_rfl) ?_
 rintro ⟨b,r,c⟩ hp
 dsimp only at hp
 refine⟨rfl,?_⟩
 unfold sp_s_l11In sp_s_l11At
 generalize hP:std=p,hB0:Bd.full=B0,hB1:Bd.inB=B1,hB2:atI=B2
 cbv
 repeat' first
  | (refine fun (_:Unit)=>?_;cbv)
  | (refine aI2 (fun h=>?_) (fun h=>?_)<;>cbv)
  | (refine aI2 ?_ ?_)
  | (refine Or.inl (fun (_:Unit)=>?_);cbv)
 all_goals subst hP hB0 hB1 hB2
 all_goals have f1:=hp.lo
 all_goals have f2:=hp.hi
 all_goals try exact fin
 ·exact⟨hp,h⟩
 ·unfold Bd.full
  rw [show b.inB r c=true from h,show (46:UInt8)=UInt8.ofNat 46 from rfl,at_i _ _ _ _ (by decide)]
  show (!_)=_
  simp
 ·unfold Bd.full;rw [show b.inB r c=false from h];rfl
end Ax
namespace Ax
set_option maxRecDepth 100000
theorem cellB_i (c:UInt8):cellB c=cellI c.toNat:=by
 unfold cellB cellI
 rw [show (46:UInt8)=UInt8.ofNat 46 from rfl,byte_lit (by decide),smallB_i,capB_i,Bool.or_assoc]
 rfl
theorem premB_i (c:UInt8):premB c=premI c.toNat:=by
 unfold premB premI
 rw [show (46:UInt8)=UInt8.ofNat 46 from rfl,show (50:UInt8)=UInt8.ofNat 50 from rfl,show (51:UInt8)=UInt8.ofNat 51 from rfl,show (100:UInt8)=UInt8.ofNat 100 from rfl,show (116:UInt8)=UInt8.ofNat 116 from rfl]
 simp only [byte_lit (show 46<256 by decide),byte_lit (show 50<256 by decide),byte_lit (show 51<256 by decide),byte_lit (show 100<256 by decide),byte_lit (show 116<256 by decide),Bool.or_assoc]
 rfl
theorem okFrom_step {c p:List UInt8} {k:Int} (h0:0≤k) (h:k<c.length) (hp:k<p.length):okFrom (c.drop k.toNat) (p.drop k.toNat)=(cellB (c.getD k.toNat 0)&&(premB (p.getD k.toNat 0)&&okFrom (c.drop (k+1).toNat) (p.drop (k+1).toNat))):=by
 rw [dc h0 h 0,dc h0 hp 0,okFrom,Bool.and_assoc]
theorem sq_bd {n:Int} (h:inR n 5 15=true):5≤n∧n≤15∧0≤n*n∧n*n≤225:=by
 simp [inR] at h
 have h1:n*n≤15*n:=Int.mul_le_mul_of_nonneg_right h.2 (by omega)
 have h2:0≤n*n:=Int.mul_nonneg (by omega) (by omega)
 omega
section
variable {b:Bd}
theorem bd_no1 (h:inR b.size 5 15=false):bdB b=false:=by simp [bdB,sizeB,h]
theorem bd_no2 (h:std.eqI (std.lenS b.prem) (std.mul b.size b.size)=false):bdB b=false:=by
 have h : ¬(b.prem.length:Int)=b.size*b.size:=by simpa [std] using h
 simp [bdB,h]
theorem bd_no3 (h:std.eqI (std.lenS b.cells) (std.mul b.size b.size)=false):bdB b=false:=by
 have h : ¬(b.cells.length:Int)=b.size*b.size:=by simpa [std] using h
 simp [bdB,h]
theorem bd_go (h1:inR b.size 5 15=true) (h2:std.eqI (std.lenS b.prem) (std.mul b.size b.size)=true) (h3:std.eqI (std.lenS b.cells) (std.mul b.size b.size)=true):bdB b=okFrom b.cells b.prem∧b.prem.length=b.cells.length∧b.cells.length≤225:=by
 have h2:(b.prem.length:Int)=b.size*b.size:=by simpa [std] using h2
 have h3:(b.cells.length:Int)=b.size*b.size:=by simpa [std] using h3
 have h4:=sq_bd h1
 refine⟨by simp [bdB,sizeB,h1,h2,h3],by omega,by omega⟩
end
def sp_s_l11Ok (p:Pr):FSpec:=fsp (a1 (aP aBd)) (fun b=>BdP b) (fun b=>.b (bdB b))
theorem ok_s_l11Ok:FOk Tryz.prog 131 (sp_s_l11Ok std):=by
 refine FOk.go (c:=cx std [(192,sp_s_l11Size std),(133,sp_s_l11Cell std),(196,sp_s_l11Premium std)] [] 0) (cx_ok (.cons ok_s_l11Size (.cons ok_s_l11Cell (.cons ok_s_l11Premium .nil))) .nil) mixed Tryz.func131 rfl rfl rfl (by kernel_rfl) ?_
 rintro b hp
 refine⟨rfl,?_⟩
 unfold sp_s_l11Size sp_s_l11Cell sp_s_l11Premium
 obtain⟨H,hH⟩ : ∃H:Hd (Int),H=⟨fun k=>0≤k∧k≤b.cells.length∧bdB b=okFrom (b.cells.drop k.toNat) (b.prem.drop k.toNat),fun k=>(b.cells.length-k).toNat,(· < ·)⟩:=⟨_,rfl⟩
 have hl : ∀m n,H.lt m n→m<n:=by subst hH;exact fun _ _ h=>h
 generalize hP:std=p,hB0:bdB=B0,hB1:inR=B1,hB2:cellI=B2,hB3:premI=B3
 cbv
 repeat' first
  | (refine fun (_:Unit)=>?_;cbv)
  | (refine Or.inr ⟨44,[],[.s 3 (.i .i64)],[],[],H,rfl,hl,?_,fun (k:Int) hk=>?_⟩<;>cbv)
  | (refine aI2 (fun h=>?_) (fun h=>?_)<;>cbv)
  | (refine aI2 ?_ ?_)
 all_goals subst hP hB0 hB1 hB2 hB3 hH
 all_goals clear hl
 all_goals try dsimp only at hk
 all_goals try dsimp only
 all_goals try exact fin
 all_goals try first
  | exact bd_no1 ‹_›
  | exact bd_no2 ‹_›
  | exact bd_no3 ‹_›
  | exact in64 (by have:=sq_bd (show inR b.size 5 15=true by assumption);show _≤b.size*b.size∧b.size*b.size≤_;omega)
 all_goals obtain⟨e0,e1,e2⟩:=bd_go (show inR b.size 5 15=true by assumption) ‹_› ‹_›
 ·exact⟨Int.le_refl 0,Int.natCast_nonneg _,e0⟩
 all_goals obtain⟨q0,q1,e⟩:=hk
 all_goals clear e0
 all_goals try (simp [std] at *;lia)
 all_goals first
  | (rw [e,dn (ge_of ‹_›)];rfl)
  | (have h1:k<b.cells.length:=lt_of ‹_›
     rw [e,okFrom_step q0 h1 (by omega),cellB_i,premB_i]
     clear e
     simp_all [std];done)
  | (have h1:k<b.cells.length:=lt_of ‹_›
     have g1:k+1≤(b.cells.length:Int):=by omega
     refine⟨by show 0≤k+1;omega,g1,?_⟩
     rw [e,okFrom_step q0 h1 (by omega),cellB_i,premB_i]
     clear e
     simp_all [std];done)
theorem lett_step {s:List UInt8} {k:Int} (h0:0≤k) (h:k<s.length):(s.take (k+1).toNat).filter (fun c=>!(c==46))=(s.take k.toNat).filter (fun c=>!(c==46))++(if (((s.getD k.toNat 0).toNat : Int)==46)=true then [] else [s.getD k.toNat 0]):=by
 rw [tk h0 h 0,List.filter_append]
 congr 1
 have:=byte_lit (c:=s.getD k.toNat 0) (show 46<256 by decide)
 rw [List.filter_cons,show (46:UInt8)=UInt8.ofNat 46 from rfl,this]
 rw [show ((46:Nat):Int)=46 from rfl]
 cases h:(((s.getD k.toNat 0).toNat : Int)==46)<;>simp
def sp_s_l11Letters (p:Pr):FSpec:=fsp (a1 (aP aBd)) (fun b=>BdP b) (fun b=>.s (lettersS b))
theorem ok_s_l11Letters:FOk Tryz.prog 145 (sp_s_l11Letters std):=by
 refine FOk.go (c:=cx std [] [] 0) (cx_ok .nil .nil) mixed Tryz.func145 rfl rfl rfl (by kernel_rfl) ?_
 rintro b hp
 refine⟨rfl,?_⟩
 obtain⟨H,hH⟩ : ∃H:Hd (Int×List Int),H=⟨fun (k,L)=>0≤k∧k≤b.cells.length∧L=toBl ((b.cells.take k.toNat).filter fun c=>!(c==46)),fun (k,L)=>(b.cells.length-k).toNat,(· < ·)⟩:=⟨_,rfl⟩
 have hl : ∀m n,H.lt m n→m<n:=by subst hH;exact fun _ _ h=>h
 generalize hP:std=p,hB0:lettersS=B0
 cbv
 repeat' first
  | (refine fun (_:Unit)=>?_;cbv)
  | (refine Or.inr ⟨6,[],[.s 4 (.i .i64),.o 0 [.i .u8]],[.s 3],[],H,rfl,hl,?_,fun ((k,L):Int×List Int) hk=>?_⟩<;>cbv)
  | (refine aI2 (fun h=>?_) (fun h=>?_)<;>cbv)
  | (refine aI2 ?_ ?_)
 all_goals subst hP hB0 hH
 all_goals clear hl
 all_goals try dsimp only at hk
 all_goals try dsimp only
 all_goals have f1:=hp.c
 all_goals try exact fin
 ·exact⟨Int.le_refl 0,Int.natCast_nonneg _,rfl⟩
 all_goals obtain⟨q0,q1,rfl⟩:=hk
 all_goals have h2:=List.length_filter_le (fun c:UInt8=>!(c==46)) (b.cells.take k.toNat)
 all_goals rw [List.length_take] at h2
 all_goals try (have h1:k<b.cells.length:=lt_of ‹_›)
 all_goals try (simp only [std,toB_len] at *;simp at *;lia)
 ·have g1:k+1≤(b.cells.length:Int):=by omega
  refine⟨by show 0≤k+1;omega,g1,?_⟩
  show toBl _++[((b.cells.getD k.toNat 0).toNat : Int)]=toBl ((b.cells.take (k+1).toNat).filter fun c=>!(c==46))
  rw [lett_step q0 h1,if_neg (by rw [show (((b.cells.getD k.toNat 0).toNat : Int)==46)=false from h];exact Bool.false_ne_true),toB_snoc]
 ·have g1:k+1≤(b.cells.length:Int):=by omega
  refine⟨by show 0≤k+1;omega,g1,?_⟩
  show toBl _=toBl ((b.cells.take (k+1).toNat).filter fun c=>!(c==46))
  rw [lett_step q0 h1,if_pos (show (((b.cells.getD k.toNat 0).toNat : Int)==46)=true from h),List.append_nil]
 ·show toSl (toBl _)=_
  rw [toS_toB,tk_all (ge_of h)];rfl
theorem turn_step {n:Int} {s:List UInt8} {c r:Int} (hn:0<n) (c0:0≤c) (r0:0≤r) (hr:r<n):turnTo n.toNat s (c*n+r+1).toNat =turnTo n.toNat s (c*n+r).toNat ++[s.getD (r*n+c).toNat 0]:=by
 have h0:0≤c*n:=Int.mul_nonneg c0 (by omega)
 obtain⟨N,rfl⟩ : ∃N:Nat,n=N:=⟨n.toNat,by omega⟩
 obtain⟨C,rfl⟩ : ∃C:Nat,c=C:=⟨c.toNat,by omega⟩
 obtain⟨R,rfl⟩ : ∃R:Nat,r=R:=⟨r.toNat,by omega⟩
 have e1:((C:Int)*N+R).toNat =C*N+R:=by omega
 have e2:((C:Int)*N+R+1).toNat =C*N+R+1:=by omega
 have e3:((R:Int)*N+C).toNat =R*N+C:=by omega
 have hR:R<N:=by omega
 have e4:(C*N+R)%N=R:=by rw [Nat.mul_comm,Nat.mul_add_mod,Nat.mod_eq_of_lt hR]
 have e5:(C*N+R)/N=C:=by rw [Nat.mul_comm,Nat.mul_add_div (by omega),Nat.div_eq_of_lt hR,Nat.add_zero]
 rw [e1,e2,e3]
 unfold turnTo
 rw [List.range_succ,List.map_append,Int.toNat_natCast]
 simp [e4,e5]
structure TurnP (n:Int) (s:List UInt8):Prop where
 lo:5≤n
 hi:n≤15
 len:(s.length:Int)=n*n
theorem turnP_bd {n r c:Int} {s:List UInt8} (h:TurnP n s) (r0:0≤r) (r1:r<n) (c0:0≤c) (c1:c<n):0≤r*n∧r*n≤210∧0≤r*n+c∧r*n+c<s.length:=by
 have:=mul_bounds h.lo h.hi r0 (by omega) c0 (by omega)
 have:=h.len
 omega
theorem turnP_end {n c:Int} {s:List UInt8} (h:TurnP n s) (c1:c=n):turnTo n.toNat s (c*n).toNat =turnS n.toNat s:=by
 subst c1
 unfold turnS
 congr 1
 have:=h.lo
 obtain⟨N,rfl⟩ : ∃N:Nat,c=N:=⟨c.toNat,by omega⟩
 rw [Int.toNat_natCast,←Int.natCast_mul,Int.toNat_natCast]
def turnI (n:Int) (s:List UInt8):List UInt8:=turnS n.toNat s
def sp_s_l11Turn (p:Pr):FSpec:=fsp (ac aI (a1 aS)) (fun (n,s)=>TurnP n s) (fun (n,s)=>.s (turnI n s))
theorem ok_s_l11Turn:FOk Tryz.prog 321 (sp_s_l11Turn std):=by
 refine FOk.go (c:=cx std [] [] 0) (cx_ok .nil .nil) mixed Tryz.func321 rfl rfl rfl (by kernel_rfl) ?_
 rintro ⟨n,s⟩ hp
 dsimp only at hp
 refine⟨rfl,?_⟩
 obtain⟨H,hH⟩ : ∃H:Hd (Int×List Int),H=⟨fun (c,L)=>0≤c∧c≤n∧L=toBl (turnTo n.toNat s (c*n).toNat),fun (c,L)=>(n-c).toNat,(· < ·)⟩:=⟨_,rfl⟩
 have hl : ∀m n,H.lt m n→m<n:=by subst hH;exact fun _ _ h=>h
 obtain⟨H2,hH2⟩ : ∃H:(Int×List Int)→Hd (Int×List Int),H=fun (c,L)=>⟨fun (r,M)=>0≤r∧r≤n∧M=toBl (turnTo n.toNat s (c*n+r).toNat),fun (r,M)=>(n-r).toNat,(· < ·)⟩:=⟨_,rfl⟩
 have hl2 : ∀x m n,(H2 x).lt m n→m<n:=by subst hH2;exact fun _ _ _ h=>h
 generalize hP:std=p,hB0:turnI=B0
 cbv
 repeat' first
  | (refine fun (_:Unit)=>?_;cbv)
  | (refine Or.inr ⟨9,[],[.s 6 (.i .i64),.o 0 [.i .u8]],[.s 5],[],H,rfl,hl,?_,fun ((c,L):Int×List Int) hk=>?_⟩<;>cbv)
  | (refine Or.inr ⟨14,[],[.s 7 (.i .i64),.o 0 [.i .u8]],[.s 5],[],H2 (c,L),rfl,hl2 _,?_,fun ((r,M):Int×List Int) hk2=>?_⟩<;>cbv)
  | (refine aI2 (fun h=>?_) (fun h=>?_)<;>cbv)
  | (refine aI2 ?_ ?_)
 all_goals subst hP hB0 hH hH2
 all_goals clear hl
 all_goals try dsimp only at hk
 all_goals clear hl2
 all_goals try dsimp only at hk2
 all_goals try dsimp only
 all_goals have f1:=hp.lo
 all_goals have f2:=hp.hi
 all_goals try exact fin
 ·exact⟨Int.le_refl 0,by omega,by simp [turnTo];rfl⟩
 all_goals obtain⟨q0,q1,rfl⟩:=hk
 all_goals try (have h2:c<n:=lt_of ‹_›)
 all_goals try (obtain⟨r0,r1,rfl⟩:=hk2)
 all_goals try (have h3:r<n:=lt_of ‹_›)
 all_goals try (have h4:=turnP_bd hp r0 h3 q0 h2)
 all_goals try (have h5:=turnP_bd hp q0 h2 r0 h3)
 all_goals try (have h6:((toBl (turnTo n.toNat s (c*n+r).toNat)).length : Int)=c*n+r:=by rw [toB_len,turnTo_length];omega)
 all_goals have h7:=hp.len
 all_goals try (simp [std] at *;lia)
 ·have g1:r+1≤n:=by omega
  refine⟨by show 0≤r+1;omega,g1,?_⟩
  show toBl _++[((s.getD (r*n+c).toNat 0).toNat : Int)]=toBl (turnTo n.toNat s (c*n+(r+1)).toNat)
  rw [toB_snoc,←Int.add_assoc,turn_step (by omega) q0 r0 h3]
 ·have h8:r=n:=by have:=ge_of h;omega
  subst h8
  have g1:c+1≤r:=by omega
  refine⟨by show 0≤c+1;omega,g1,?_⟩
  show toBl (turnTo _ s (c*r+r).toNat)=toBl (turnTo _ s ((c+1)*r).toNat)
  rw [Int.add_mul,Int.one_mul]
 ·show toSl (toBl _)=_
  rw [toS_toB,turnP_end hp (by have:=ge_of h;omega)];rfl
def sp_s_l11Transpose (p:Pr):FSpec:=fsp (a1 (aP aBd)) (fun b=>b.Fit) (fun b=>.agg [.i .i64 b.size,.s (turnI b.size b.prem),.s (turnI b.size b.cells)])
theorem ok_s_l11Transpose:FOk Tryz.prog 291 (sp_s_l11Transpose std):=by
 refine FOk.go (c:=cx std [(321,sp_s_l11Turn std)] [] 0) (cx_ok (.cons ok_s_l11Turn .nil) .nil) mixed Tryz.func291 rfl rfl rfl (by kernel_rfl) ?_
 rintro b hp
 refine⟨rfl,?_⟩
 unfold sp_s_l11Turn
 generalize hP:std=p,hB0:turnI=B0
 cbv
 repeat' first
  | (refine fun (_:Unit)=>?_;cbv)
  | (refine aI2 (fun h=>?_) (fun h=>?_)<;>cbv)
  | (refine aI2 ?_ ?_)
  | (refine Or.inl (fun (_:Unit)=>?_);cbv)
 all_goals subst hP hB0
 all_goals try exact fin
 ·exact⟨hp.lo,hp.hi,hp.prem⟩
 ·exact⟨hp.lo,hp.hi,hp.cells⟩
theorem flat_y {b:Bd} {q:Pl} (h:q.down=true):flatB b q=⟨b.size,turnI b.size b.prem,turnI b.size b.cells⟩∧flatP q=⟨q.col,q.row,false,q.word⟩:=by
 unfold flatB flatP Pl.tr
 rw [if_pos h,if_pos h,h]
 exact⟨rfl,rfl⟩
theorem flat_n {b:Bd} {q:Pl} (h:q.down=false):flatB b q=b∧flatP q=q:=by
 unfold flatB flatP
 rw [if_neg (by rw [h];exact Bool.false_ne_true),if_neg (by rw [h];exact Bool.false_ne_true)]
 exact⟨rfl,rfl⟩
def sp_s_l12Turn (p:Pr):FSpec:=fsp (a1 (aA aPl)) (fun q=>True) (fun q=>.agg (plK q.tr))
theorem ok_s_l12Turn:FOk Tryz.prog 292 (sp_s_l12Turn std):=by
 refine FOk.go (c:=cx std [] [] 0) (cx_ok .nil .nil) mixed Tryz.func292 rfl rfl rfl (by kernel_rfl) ?_
 rintro q hp
 refine⟨rfl,?_⟩
 generalize hP:std=p
 cbv
 repeat' first
  | (refine fun (_:Unit)=>?_;cbv)
  | (refine aI2 (fun h=>?_) (fun h=>?_)<;>cbv)
  | (refine aI2 ?_ ?_)
  | (refine Or.inl (fun (_:Unit)=>?_);cbv)
 all_goals subst hP
 all_goals try exact fin
def sp_s_l12Flat (p:Pr):FSpec:=fsp (ac (aP aBd) (a1 (aA aPl))) (fun (b,q)=>b.Fit) (fun (b,q)=>.tup [.agg (bdK (flatB b q)),.agg (plK (flatP q))])
theorem ok_s_l12Flat:FOk Tryz.prog 253 (sp_s_l12Flat std):=by
 refine FOk.go (c:=cx std [(291,sp_s_l11Transpose std),(292,sp_s_l12Turn std)] [] 0) (cx_ok (.cons ok_s_l11Transpose (.cons ok_s_l12Turn .nil)) .nil) mixed Tryz.func253 rfl rfl rfl (by kernel_rfl) ?_
 rintro ⟨b,q⟩ hp
 dsimp only at hp
 refine⟨rfl,?_⟩
 unfold sp_s_l11Transpose sp_s_l12Turn
 generalize hP:std=p,hB0:flatB=B0,hB1:flatP=B1,hB2:turnI=B2
 cbv
 repeat' first
  | (refine fun (_:Unit)=>?_;cbv)
  | (refine aI2 (fun h=>?_) (fun h=>?_)<;>cbv)
  | (refine aI2 ?_ ?_)
  | (refine Or.inl (fun (_:Unit)=>?_);cbv)
 all_goals subst hP hB0 hB1 hB2
 all_goals try exact fin
 all_goals first
  | (rw [(flat_y (b:=b) (show q.down=true from h)).1]<;>rfl)
  | (rw [(flat_n (b:=b) (show q.down=false from h)).1]<;>rfl)
  | (rw [(flat_n (b:=b) (show q.down=false from h)).2]<;>rfl)
  | (rw [(flat_y (b:=b) (show q.down=true from h)).2];show (!q.down)=false;rw [show q.down=true from h];rfl)
  | (rw [(flat_y (b:=b) (show q.down=true from h)).2]<;>rfl)
end Ax
end Go.Proofs.YtghmphmbpdiflaaGreatDoor
