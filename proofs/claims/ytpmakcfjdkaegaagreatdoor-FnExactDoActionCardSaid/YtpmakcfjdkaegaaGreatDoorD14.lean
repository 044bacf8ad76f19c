/-
  Racks, words, lexicons of the spec package.
  Conditions: as each part below says.
-/
import Derived.Test.YtpmakcfjdkaegaaGreatDoorD13
set_option linter.unusedSimpArgs false
set_option linter.unusedVariables false
namespace Go.Proofs.YtpmakcfjdkaegaaGreatDoor
namespace Ax
set_option maxRecDepth 100000
def sp_s_l03Rack (p:Pr):FSpec:=fsp (a1 aS) (fun s=>p.ltM (p.lenS s)) (fun s=>.b (rackB s))
theorem ok_s_l03Rack:FOk Tryz.prog 87 (sp_s_l03Rack std):=by
 refine FOk.go (c:=cx std [(144,sp_s_l03Pile std)] [] 0) (cx_ok (.cons ok_s_l03Pile .nil) .nil) mixed Tryz.func87 rfl rfl rfl (by kernel_rfl) ?_
 rintro s hp
 refine⟨rfl,?_⟩
 unfold sp_s_l03Pile
 generalize hP:std=p
 generalize hB0:rackB=B0
 generalize hB1:pileB=B1
 cbv
 repeat' first
  | (refine fun (_:Unit)=>?_;cbv)
  | (refine And.intro (fun h=>?_) (fun h=>?_)<;>cbv)
  | (refine And.intro ?_ ?_)
  | (refine Or.inl (fun (_:Unit)=>?_);cbv)
 all_goals subst hP hB0 hB1
 all_goals try exact fin
 all_goals (simp [std,rackB] at * <;>first | lia | (simp_all;done))
def shf (S:List UInt8) (c:UInt8) (k:Int):List UInt8:=(S++[c]).take (k.toNat+1)++S.drop k.toNat
section
variable {S:List UInt8} {c:UInt8} {k:Int}
theorem shf_len (h0:0≤k) (h:k≤S.length):(shf S c k).length =S.length+1:=by unfold shf;simp;omega
theorem shf_get (h0:1≤k) (h:k≤S.length):(shf S c k).getD (k-1).toNat 0=S.getD (k-1).toNat 0:=by
 have h1:(k-1).toNat < S.length:=by omega
 unfold shf
 rw [List.getD_eq_getElem?_getD,List.getElem?_append_left (by simp;omega),List.getElem?_take,if_pos (by omega),List.getElem?_append_left h1,List.getD_eq_getElem?_getD]
theorem shf_set (h0:1≤k) (h:k≤S.length):(shf S c k).set k.toNat (S.getD (k-1).toNat 0)=shf S c (k-1):=by
 have h1:(k-1).toNat < S.length:=by omega
 have h2:k.toNat=(k-1).toNat + 1:=by omega
 apply List.ext_getElem?
 intro i
 unfold shf
 rw [List.getElem?_set,h2]
 by_cases hi:(k-1).toNat + 1=i
 ·subst hi
  rw [if_pos rfl,if_pos (by simp;omega),List.getElem?_append_right (by simp only [List.length_take,List.length_append,List.length_singleton];omega),List.getElem?_drop,List.getD_eq_getElem?_getD]
  simp only [List.length_take,List.length_append,List.length_singleton]
  rw [show (k-1).toNat + ((k-1).toNat + 1-min ((k-1).toNat + 1) (S.length+1))=(k-1).toNat from by omega,List.getElem?_eq_getElem h1]
  rfl
 ·rw [if_neg hi]
  by_cases hlt:i<(k-1).toNat + 1
  ·rw [List.getElem?_append_left (by simp;omega),List.getElem?_append_left (by simp only [List.length_take,List.length_append,List.length_singleton];omega),List.getElem?_take,List.getElem?_take,if_pos (by omega),if_pos hlt]
  ·rw [List.getElem?_append_right (by simp;omega),List.getElem?_append_right (by simp only [List.length_take,List.length_append,List.length_singleton];omega),List.getElem?_drop,List.getElem?_drop]
   simp only [List.length_take,List.length_append,List.length_singleton]
   congr 1
   omega
theorem shf_fin (h0:0≤k) (h:k≤S.length) (hk:insK S c S.length=k.toNat):(shf S c k).set k.toNat c=insR S c:=by
 unfold insR shf
 rw [hk]
 apply List.ext_getElem?
 intro i
 rw [List.getElem?_set]
 by_cases hi:k.toNat=i
 ·subst hi
  rw [if_pos rfl,if_pos (by simp;omega),List.getElem?_append_right (by simp;omega)]
  simp only [List.length_take]
  rw [show k.toNat-min k.toNat S.length=0 from by omega]
  rfl
 ·rw [if_neg hi]
  by_cases hlt:i<k.toNat
  ·rw [List.getElem?_append_left (by simp;omega),List.getElem?_append_left (by simp;omega),List.getElem?_take,List.getElem?_take,if_pos (by omega),if_pos hlt,List.getElem?_append_left (by omega)]
  ·rw [List.getElem?_append_right (by simp;omega),List.getElem?_append_right (by simp;omega),List.getElem?_drop,show i-(List.take k.toNat S).length =(i-k.toNat-1)+1 from by simp;omega,List.getElem?_cons_succ,List.getElem?_drop]
   simp only [List.length_take,List.length_append,List.length_singleton]
   congr 1
   omega
theorem shf_all (h:k=S.length):shf S c k=S++[c]:=by subst h;unfold shf;simp [List.take_of_length_le]
theorem insK_step (h0:1≤k):insK S c k.toNat=if (c.toNat:Int)<((S.getD (k-1).toNat 0).toNat : Int) then insK S c (k-1).toNat else k.toNat:=by
 obtain⟨n,hn⟩ : ∃n,k.toNat=n+1:=⟨k.toNat-1,by omega⟩
 rw [hn,show (k-1).toNat =n from by omega]
 show (if c.toNat<(S[n]?.getD 0).toNat then insK S c n else n+1)=_
 rw [List.getD_eq_getElem?_getD]
 simp only [Int.ofNat_lt]
end
theorem sort_take {s:List UInt8} {i:Int} (h0:0≤i) (h:i<s.length):isort (s.take (i+1).toNat)=insR (isort (s.take i.toNat)) (s.getD i.toNat 0):=by
 rw [tk h0 h 0]
 simp [isort,List.foldl_append]
theorem sort_len {s:List UInt8} {i:Int} (h0:0≤i) (h:i≤s.length):((isort (s.take i.toNat)).length : Int)=i:=by rw [isort_length,List.length_take];omega
def sp_s_l03Sort (p:Pr):FSpec:=fsp (a1 aS) (fun s=>p.ltM (p.lenS s)) (fun s=>.s (isort s))
theorem ok_s_l03Sort:FOk Tryz.prog 88 (sp_s_l03Sort std):=by
 refine FOk.go (c:=cx std [] [] 0) (cx_ok .nil .nil) mixed Tryz.func88 rfl rfl rfl (by kernel_rfl) ?_
 rintro s hp
 refine⟨rfl,?_⟩
 obtain⟨H,hH⟩ : ∃H:Hd (Int×List Int),H=⟨fun (i,L)=>0≤i∧i≤s.length∧L=toBl (isort (s.take i.toNat)),fun (i,L)=>(s.length-i).toNat,(· < ·)⟩:=⟨_,rfl⟩
 have hl : ∀m n,H.lt m n→m<n:=by subst hH;exact fun _ _ h=>h
 obtain⟨H2,hH2⟩ : ∃H:(Int×List Int)→Hd (Int×List Int),H=fun (i,L)=>⟨fun (k,M)=>0≤k∧k≤i∧M=toBl (shf (isort (s.take i.toNat)) (s.getD i.toNat 0) k)∧insK (isort (s.take i.toNat)) (s.getD i.toNat 0) (isort (s.take i.toNat)).length =insK (isort (s.take i.toNat)) (s.getD i.toNat 0) k.toNat,fun (k,M)=>k.toNat,(· < ·)⟩:=⟨_,rfl⟩
 have hl2 : ∀x m n,(H2 x).lt m n→m<n:=by subst hH2;exact fun _ _ _ h=>h
 generalize hP:std=p
 generalize hB0:isort=B0
 cbv
 repeat' first
  | (refine fun (_:Unit)=>?_;cbv)
  | (refine Or.inr ⟨7,[],[.s 4 (.i .i64),.o 0 [.i .u8]],[.s 3],[],H,rfl,hl,?_,fun ((i,L):Int×List Int) hk=>?_⟩<;>cbv)
  | (refine Or.inr ⟨21,[],[.s 5 (.i .i64),.o 2 [.i .u8]],[],[],H2 (i,L),rfl,hl2 _,?_,fun ((k,M):Int×List Int) hk2=>?_⟩<;>cbv)
  | (refine And.intro (fun h=>?_) (fun h=>?_)<;>cbv)
  | (refine And.intro ?_ ?_)
 all_goals subst hP hB0 hH hH2
 all_goals clear hl
 all_goals try dsimp only at hk
 all_goals clear hl2
 all_goals try dsimp only at hk2
 all_goals try dsimp only
 all_goals try exact fin
 all_goals try (have hn:((isort (s.take i.toNat)).length : Int)=i:=sort_len hk.1 hk.2.1)
 all_goals try (have hL:(L.length:Int)=i:=by rw [hk.2.2,toB_len];exact hn)
 all_goals try (have hM:(M.length:Int)=i+1:=by rw [hk2.2.2.1,toB_len,shf_len hk2.1 (by omega)];omega)
 all_goals try first
  | exact⟨Int.le_refl 0,Int.natCast_nonneg _,rfl⟩
  | (simp [std] at *;lia)
 all_goals simp only [std] at *
 ·refine⟨by omega,by omega,?_,?_⟩
  ·rw [hk.2.2] at hL ⊢
   rw [shf_all (by rw [toB_len]),toB_snoc]
  ·rw [hk.2.2,toB_len];rfl
 ·obtain⟨q0,q1,q2,q3⟩:=hk2
  have h1:0<k:=by simpa using ‹decide (0<k)=true›
  subst q2
  rw [toB_get,shf_get (k:=k) (by omega) (by omega)] at h
  refine⟨by omega,by omega,by rw [toB_get,shf_get (k:=k) (by omega) (by omega),toB_set,shf_set (k:=k) (by omega) (by omega)],?_⟩
  rw [q3,insK_step (k:=k) (by omega),if_pos (by simpa using h)]
 ·obtain⟨q0,q1,q2,q3⟩:=hk2
  have h1:0<k:=by simpa using ‹decide (0<k)=true›
  have h2:i<s.length:=by simpa using ‹decide (i<_)=true›
  subst q2
  rw [toB_get,shf_get (k:=k) (by omega) (by omega)] at h
  have g2:i+1≤(s.length:Int):=by omega
  refine⟨by omega,g2,?_⟩
  rw [toB_set,shf_fin q0 (by omega) (by rw [q3,insK_step (k:=k) (by omega),if_neg (by simpa using h)]),sort_take hk.1 h2]
 ·obtain⟨q0,q1,q2,q3⟩:=hk2
  have h1:k≤0:=by simpa using h
  have h2:i<s.length:=by simpa using ‹decide (i<_)=true›
  subst q2
  have g2:i+1≤(s.length:Int):=by omega
  refine⟨by omega,g2,?_⟩
  rw [toB_set,shf_fin q0 (by omega) (by rw [q3,show k.toNat=0 from by omega];rfl),sort_take hk.1 h2]
 ·rw [hk.2.2,toS_toB,tk_all (by simpa using h)]
theorem take_eq {x:UInt8} {a b:List UInt8} : takeGo (x::a) (x::b)=takeGo a b:=by rw [takeGo,if_pos rfl]
theorem take_ne {x y:UInt8} {a b:List UInt8} (h:y≠x):takeGo (x::a) (y::b)=(x::(takeGo a (y::b)).1,(takeGo a (y::b)).2):=by rw [takeGo,if_neg h]
theorem take_nil {x:UInt8} {a:List UInt8} : takeGo (x::a) []=(x::(takeGo a []).1,(takeGo a []).2):=by rw [takeGo,takeGo_nil]
def sp_s_l03Take (p:Pr):FSpec:=fsp (ac aS (a1 aS)) (fun (a,b)=>p.ltM (p.lenS a)∧p.ltM (p.lenS b)) (fun (a,b)=>.tup [.s (takeS a b),.b (takeB a b)])
theorem ok_s_l03Take:FOk Tryz.prog 156 (sp_s_l03Take std):=by
 refine FOk.go (c:=cx std [] [] 0) (cx_ok .nil .nil) mixed Tryz.func156 rfl rfl rfl (by kernel_rfl) ?_
 rintro ⟨a,b⟩ hp
 dsimp only at hp
 refine⟨rfl,?_⟩
 obtain⟨H,hH⟩ : ∃H:Hd (Int×Int×List Int),H=⟨fun (k,i,L)=>0≤i∧i≤a.length∧0≤k∧k≤b.length∧∃X,L=toBl X∧(X.length:Int)≤i∧takeGo a b=(X++(takeGo (a.drop i.toNat) (b.drop k.toNat)).1,(takeGo (a.drop i.toNat) (b.drop k.toNat)).2),fun (k,i,L)=>(a.length-i).toNat,(· < ·)⟩:=⟨_,rfl⟩
 have hl : ∀m n,H.lt m n→m<n:=by subst hH;exact fun _ _ h=>h
 generalize hP:std=p
 generalize hB0:takeS=B0
 generalize hB1:takeB=B1
 cbv
 repeat' first
  | (refine fun (_:Unit)=>?_;cbv)
  | (refine Or.inr ⟨10,[],[.s 7 (.i .i64),.s 8 (.i .i64),.o 0 [.i .u8]],[.s 6],[],H,rfl,hl,?_,fun ((k,i,L):Int×Int×List Int) hk=>?_⟩<;>cbv)
  | (refine And.intro (fun h=>?_) (fun h=>?_)<;>cbv)
  | (refine And.intro ?_ ?_)
 all_goals subst hP hB0 hB1 hH
 all_goals clear hl
 all_goals try dsimp only at hk
 all_goals try dsimp only
 all_goals try exact fin
 ·exact⟨Int.le_refl 0,Int.natCast_nonneg _,Int.le_refl 0,Int.natCast_nonneg _,[],rfl,Int.le_refl 0,rfl⟩
 all_goals obtain⟨q0,q1,q2,q3,X,rfl,q5,q4⟩:=hk
 all_goals simp only [std] at *
 all_goals try (simp only [toB_len] at *;simp at *;lia)
 ·have h1:i<a.length:=by simpa using ‹decide (i<_)=true›
  have h2:k<b.length:=by simpa using ‹decide (k<_)=true›
  have h3:b.getD k.toNat 0=a.getD i.toNat 0:=by rw [beq_iff_eq] at h;exact UInt8.toNat_inj.1 (by lia)
  have g1:i+1≤(a.length:Int):=by lia
  have g2:k+1≤(b.length:Int):=by lia
  have g3:(X.length:Int)≤i+1:=by lia
  refine⟨by lia,g1,by lia,g2,X,rfl,g3,?_⟩
  rw [q4,dc q0 h1 0,dc q2 h2 0,h3,take_eq]
 ·have h1:i<a.length:=by simpa using ‹decide (i<_)=true›
  have h2:k<b.length:=by simpa using ‹decide (k<_)=true›
  have h3:b.getD k.toNat 0≠a.getD i.toNat 0:=fun hh=>by rw [hh] at h;simp at h
  have g1:i+1≤(a.length:Int):=by lia
  have g2:((X++[a.getD i.toNat 0]).length : Int)≤i+1:=by simp only [List.length_append,List.length_singleton];lia
  refine⟨by lia,g1,q2,q3,X++[a.getD i.toNat 0],toB_snoc _ _,g2,?_⟩
  rw [q4,dc q0 h1 0,dc q2 h2 0,take_ne h3]
  simp
 ·have h1:i<a.length:=by simpa using ‹decide (i<_)=true›
  have h2:(b.length:Int)≤k:=by simpa using h
  have g1:i+1≤(a.length:Int):=by lia
  have g2:((X++[a.getD i.toNat 0]).length : Int)≤i+1:=by simp only [List.length_append,List.length_singleton];lia
  refine⟨by lia,g1,q2,q3,X++[a.getD i.toNat 0],toB_snoc _ _,g2,?_⟩
  rw [q4,dc q0 h1 0,dn h2,take_nil]
  simp
 ·have h2:(a.length:Int)≤i:=by simpa using h
  rw [takeS,q4,dn h2,toS_toB]
  simp [takeGo]
 ·have h2:(a.length:Int)≤i:=by simpa using h
  rw [takeB,q4,dn h2]
  have h3:((b.drop k.toNat).isEmpty =true)↔k=b.length:=by
   rw [List.isEmpty_iff,List.drop_eq_nil_iff]
   lia
  rw [Bool.eq_iff_iff]
  simp only [takeGo]
  rw [h3,beq_iff_eq]
def sp_s_l03Placed (p:Pr):FSpec:=fsp (a1 aS) (fun s=>p.ltM (p.lenS s)) (fun s=>.b (placedB s))
theorem ok_s_l03Placed:FOk Tryz.prog 202 (sp_s_l03Placed std):=by
 refine FOk.go (c:=cx std [(86,sp_s_l00In std),(197,sp_s_l01Small std),(145,sp_s_l03Capital std)] [] 0) (cx_ok (.cons ok_s_l00In (.cons ok_s_l01Small (.cons ok_s_l03Capital .nil))) .nil) mixed Tryz.func202 rfl rfl rfl (by kernel_rfl) ?_
 rintro s hp
 refine⟨rfl,?_⟩
 unfold sp_s_l00In sp_s_l01Small sp_s_l03Capital
 obtain⟨H,hH⟩ : ∃H:Hd (Int),H=⟨fun k=>0≤k∧k≤s.length∧placedB s=((s.drop k.toNat).all (fun c=>smallB c||capB c)&&inR s.length 1 12),fun k=>(s.length-k).toNat,(· < ·)⟩:=⟨_,rfl⟩
 have hl : ∀m n,H.lt m n→m<n:=by subst hH;exact fun _ _ h=>h
 generalize hP:std=p
 generalize hB0:placedB=B0
 generalize hB1:inR=B1
 cbv
 repeat' first
  | (refine fun (_:Unit)=>?_;cbv)
  | (refine Or.inr ⟨4,[],[.s 3 (.i .i64)],[],[],H,rfl,hl,?_,fun (k:Int) hk=>?_⟩<;>cbv)
  | (refine And.intro (fun h=>?_) (fun h=>?_)<;>cbv)
  | (refine And.intro ?_ ?_)
 all_goals subst hP hB0 hB1 hH
 all_goals clear hl
 all_goals try dsimp only at hk
 all_goals try dsimp only
 all_goals try exact fin
 all_goals try first
  | exact⟨Int.le_refl 0,Int.natCast_nonneg _,rfl⟩
  | (simp [placedB,smallB_i,capB_i];done)
  | (obtain⟨q0,q1,e⟩:=hk;refine⟨by simp [std] at *;lia,by simp [std] at *;lia,?_⟩;rw [e,dc q0 (lt_of (by assumption)) 0];clear e;simp_all [std,placedB,smallB_i,capB_i];done)
  | (obtain⟨q0,q1,e⟩:=hk;refine⟨by simp [std] at *;lia,by simp [std] at *;lia,?_⟩;rw [e,dc q0 (lt_of (by assumption)) 0];clear e;simp_all [std,placedB,smallB_i,capB_i]<;>grind;done)
  | (obtain⟨q0,q1,e⟩:=hk;rw [e,dc q0 (lt_of (by assumption)) 0];clear e;simp_all [std,placedB,smallB_i,capB_i];done)
  | (obtain⟨q0,q1,e⟩:=hk;rw [e,dc q0 (lt_of (by assumption)) 0];clear e;simp_all [std,placedB,smallB_i,capB_i]<;>grind;done)
  | (obtain⟨q0,q1,e⟩:=hk;rw [e,dn (ge_of (by assumption))];clear e;simp_all [std,placedB,smallB_i,capB_i];done)
  | (obtain⟨q0,q1,e⟩:=hk;rw [e,dn (ge_of (by assumption))];clear e;simp_all [std,placedB,smallB_i,capB_i]<;>grind;done)
def sp_s_l17Ok (p:Pr):FSpec:=fsp (a1 aS) (fun s=>p.ltM (p.lenS s)) (fun s=>.b (bagB s))
theorem ok_s_l17Ok:FOk Tryz.prog 85 (sp_s_l17Ok std):=by
 refine FOk.go (c:=cx std [(143,sp_s_l03Tile std)] [] 0) (cx_ok (.cons ok_s_l03Tile .nil) .nil) mixed Tryz.func85 rfl rfl rfl (by kernel_rfl) ?_
 rintro s hp
 refine⟨rfl,?_⟩
 unfold sp_s_l03Tile
 obtain⟨H,hH⟩ : ∃H:Hd (Int),H=⟨fun k=>0≤k∧k≤s.length∧bagB s=((s.drop k.toNat).all tileB&&decide (s.length≤120)),fun k=>(s.length-k).toNat,(· < ·)⟩:=⟨_,rfl⟩
 have hl : ∀m n,H.lt m n→m<n:=by subst hH;exact fun _ _ h=>h
 generalize hP:std=p
 generalize hB0:bagB=B0
 generalize hB1:inR=B1
 cbv
 repeat' first
  | (refine fun (_:Unit)=>?_;cbv)
  | (refine Or.inr ⟨4,[],[.s 3 (.i .i64)],[],[],H,rfl,hl,?_,fun (k:Int) hk=>?_⟩<;>cbv)
  | (refine And.intro (fun h=>?_) (fun h=>?_)<;>cbv)
  | (refine And.intro ?_ ?_)
 all_goals subst hP hB0 hB1 hH
 all_goals clear hl
 all_goals try dsimp only at hk
 all_goals try dsimp only
 all_goals try exact fin
 all_goals try first
  | exact⟨Int.le_refl 0,Int.natCast_nonneg _,rfl⟩
  | (simp [bagB,tileB_i];done)
  | (obtain⟨q0,q1,e⟩:=hk;refine⟨by simp [std] at *;lia,by simp [std] at *;lia,?_⟩;rw [e,dc q0 (lt_of (by assumption)) 0];clear e;simp_all [std,bagB,tileB_i];done)
  | (obtain⟨q0,q1,e⟩:=hk;refine⟨by simp [std] at *;lia,by simp [std] at *;lia,?_⟩;rw [e,dc q0 (lt_of (by assumption)) 0];clear e;simp_all [std,bagB,tileB_i]<;>grind;done)
  | (obtain⟨q0,q1,e⟩:=hk;rw [e,dc q0 (lt_of (by assumption)) 0];clear e;simp_all [std,bagB,tileB_i];done)
  | (obtain⟨q0,q1,e⟩:=hk;rw [e,dc q0 (lt_of (by assumption)) 0];clear e;simp_all [std,bagB,tileB_i]<;>grind;done)
  | (obtain⟨q0,q1,e⟩:=hk;rw [e,dn (ge_of (by assumption))];clear e;simp_all [std,bagB,tileB_i];done)
  | (obtain⟨q0,q1,e⟩:=hk;rw [e,dn (ge_of (by assumption))];clear e;simp_all [std,bagB,tileB_i]<;>grind;done)
def sp_s_l17Fill (p:Pr):FSpec:=fsp (ac aS (a1 aS)) (fun (bag,rack)=>(p.ltM (p.lenS bag)∧p.ltM (p.lenS rack))∧p.leP (p.lenS rack) 7) (fun (bag,rack)=>.i .i64 (drawN bag rack))
theorem ok_s_l17Fill:FOk Tryz.prog 158 (sp_s_l17Fill std):=by
 refine FOk.go (c:=cx std [] [] 0) (cx_ok .nil .nil) mixed Tryz.func158 rfl rfl rfl (by kernel_rfl) ?_
 rintro ⟨bag,rack⟩ hp
 dsimp only at hp
 refine⟨rfl,?_⟩
 generalize hP:std=p
 generalize hB0:drawN=B0
 cbv
 repeat' first
  | (refine fun (_:Unit)=>?_;cbv)
  | (refine And.intro (fun h=>?_) (fun h=>?_)<;>cbv)
  | (refine And.intro ?_ ?_)
  | (refine Or.inl (fun (_:Unit)=>?_);cbv)
 all_goals subst hP hB0
 all_goals try exact fin
 all_goals (simp [std,drawN] at * <;>lia)
theorem low_cap {c:UInt8} (h:inR (c.toNat:Int) 65 90=true):((lowC c).toNat : Int)=c.toNat+32∧blankC c=63:=by
 have h1:capB c=true:=h
 unfold lowC blankC
 rw [if_pos h1,if_pos h1]
 simp [inR] at h
 refine⟨?_,rfl⟩
 rw [UInt8.toNat_add]
 have : (32:UInt8).toNat =32:=rfl
 omega
theorem low_no {c:UInt8} (h:inR (c.toNat:Int) 65 90=false):lowC c=c∧blankC c=c:=by
 have h1:capB c=false:=h
 unfold lowC blankC
 rw [h1]
 exact⟨rfl,rfl⟩
def mapK (f:UInt8→UInt8) (s:List UInt8) (k:Int):List UInt8:=(s.take k.toNat).map f++s.drop k.toNat
section
variable {f:UInt8→UInt8} {s:List UInt8} {k:Int}
theorem mapK_len:(mapK f s k).length =s.length:=by unfold mapK;simp;omega
theorem mapK_get (h0:0≤k) (h:k<s.length):(mapK f s k).getD k.toNat 0=s.getD k.toNat 0:=by
 unfold mapK
 rw [List.getD_eq_getElem?_getD,List.getElem?_append_right (by simp only [List.length_map,List.length_take];omega),List.getElem?_drop,List.getD_eq_getElem?_getD]
 congr 2
 simp;omega
theorem mapK_set (h0:0≤k) (h:k<s.length) {c:UInt8} (hc:f (s.getD k.toNat 0)=c):(mapK f s k).set k.toNat c=mapK f s (k+1):=by
 unfold mapK
 rw [tk h0 h 0,dc h0 h 0,List.map_append,List.append_assoc,List.set_append_right _ _ (by simp;omega)]
 simp only [List.length_map,List.length_take,List.map_cons,List.map_nil,List.singleton_append]
 rw [show k.toNat-min k.toNat s.length=0 from by omega,List.set_cons_zero,hc]
theorem mapK_no (h0:0≤k) (h:k<s.length) (hc:f (s.getD k.toNat 0)=s.getD k.toNat 0):mapK f s k=mapK f s (k+1):=by
 rw [←mapK_set h0 h hc]
 unfold mapK
 rw [dc h0 h 0,List.set_append_right _ _ (by simp;omega)]
 simp only [List.length_map,List.length_take]
 rw [show k.toNat-min k.toNat s.length=0 from by omega,List.set_cons_zero]
theorem mapK_end (h:(s.length:Int)≤k):mapK f s k=s.map f:=by unfold mapK;rw [tk_all h,dn h,List.append_nil]
end
def sp_s_l03Small (p:Pr):FSpec:=fsp (a1 aS) (fun s=>p.ltM (p.lenS s)) (fun s=>.s (lowS s))
theorem ok_s_l03Small:FOk Tryz.prog 262 (sp_s_l03Small std):=by
 refine FOk.go (c:=cx std [(145,sp_s_l03Capital std)] [] 0) (cx_ok (.cons ok_s_l03Capital .nil) .nil) mixed Tryz.func262 rfl rfl rfl (by kernel_rfl) ?_
 rintro s hp
 refine⟨rfl,?_⟩
 unfold sp_s_l03Capital
 obtain⟨H,hH⟩ : ∃H:Hd (Int×List Int),H=⟨fun (k,L)=>0≤k∧k≤s.length∧L=toBl (mapK lowC s k),fun (k,L)=>(s.length-k).toNat,(· < ·)⟩:=⟨_,rfl⟩
 have hl : ∀m n,H.lt m n→m<n:=by subst hH;exact fun _ _ h=>h
 generalize hP:std=p
 generalize hB0:lowS=B0
 generalize hB1:inR=B1
 cbv
 repeat' first
  | (refine fun (_:Unit)=>?_;cbv)
  | (refine Or.inr ⟨7,[],[.s 4 (.i .i64),.o 0 [.i .u8]],[],[],H,rfl,hl,?_,fun ((k,L):Int×List Int) hk=>?_⟩<;>cbv)
  | (refine And.intro (fun h=>?_) (fun h=>?_)<;>cbv)
  | (refine And.intro ?_ ?_)
 all_goals subst hP hB0 hB1 hH
 all_goals clear hl
 all_goals try dsimp only at hk
 all_goals try dsimp only
 all_goals try exact fin
 ·exact⟨Int.le_refl 0,Int.natCast_nonneg _,rfl⟩
 all_goals obtain⟨q0,q1,rfl⟩:=hk
 all_goals simp only [std] at *
 all_goals have h1:=toB_len (mapK lowC s k)
 all_goals rw [mapK_len] at h1
 all_goals try (have h2:k<s.length:=by have h3:=of_decide_eq_true ‹decide (k<((toBl (mapK lowC s k)).length : Int))=true›;rwa [h1] at h3)
 all_goals try rw [toB_get,mapK_get q0 h2] at h
 all_goals try (simp only [mapK_len,toB_len,toB_get] at *;simp at *;lia)
 ·rw [toB_get,mapK_get q0 h2]
  have:=(low_cap h).1
  have:=(lowC (s.getD k.toNat 0)).toNat_lt
  refine⟨?_,?_⟩
  ·show (0:Int)≤_;omega
  ·show _≤(255:Int);omega
 ·have g1:k+1≤(s.length:Int):=by lia
  refine⟨by lia,g1,?_⟩
  rw [toB_get,mapK_get q0 h2,←(low_cap h).1,toB_set,mapK_set q0 h2 rfl]
 ·have g1:k+1≤(s.length:Int):=by lia
  exact⟨by lia,g1,by rw [←mapK_no q0 h2 (low_no h).1]⟩
 ·rw [toS_toB,mapK_end (by simpa [mapK_len] using h)];rfl
def sp_s_l03Tiles (p:Pr):FSpec:=fsp (a1 aS) (fun s=>p.ltM (p.lenS s)) (fun s=>.s (tilesS s))
theorem ok_s_l03Tiles:FOk Tryz.prog 89 (sp_s_l03Tiles std):=by
 refine FOk.go (c:=cx std [(145,sp_s_l03Capital std),(88,sp_s_l03Sort std)] [] 0) (cx_ok (.cons ok_s_l03Capital (.cons ok_s_l03Sort .nil)) .nil) mixed Tryz.func89 rfl rfl rfl (by kernel_rfl) ?_
 rintro s hp
 refine⟨rfl,?_⟩
 unfold sp_s_l03Capital sp_s_l03Sort
 obtain⟨H,hH⟩ : ∃H:Hd (Int×List Int),H=⟨fun (k,L)=>0≤k∧k≤s.length∧L=toBl (mapK blankC s k),fun (k,L)=>(s.length-k).toNat,(· < ·)⟩:=⟨_,rfl⟩
 have hl : ∀m n,H.lt m n→m<n:=by subst hH;exact fun _ _ h=>h
 generalize hP:std=p
 generalize hB0:tilesS=B0
 generalize hB1:inR=B1
 generalize hB2:isort=B2
 cbv
 repeat' first
  | (refine fun (_:Unit)=>?_;cbv)
  | (refine Or.inr ⟨7,[],[.s 4 (.i .i64),.o 0 [.i .u8]],[],[],H,rfl,hl,?_,fun ((k,L):Int×List Int) hk=>?_⟩<;>cbv)
  | (refine And.intro (fun h=>?_) (fun h=>?_)<;>cbv)
  | (refine And.intro ?_ ?_)
 all_goals subst hP hB0 hB1 hB2 hH
 all_goals clear hl
 all_goals try dsimp only at hk
 all_goals try dsimp only
 all_goals try exact fin
 ·exact⟨Int.le_refl 0,Int.natCast_nonneg _,rfl⟩
 all_goals obtain⟨q0,q1,rfl⟩:=hk
 all_goals simp only [std] at *
 all_goals have h1:=toB_len (mapK blankC s k)
 all_goals rw [mapK_len] at h1
 all_goals try (have h2:k<s.length:=by have h3:=of_decide_eq_true ‹decide (k<((toBl (mapK blankC s k)).length : Int))=true›;rwa [h1] at h3)
 all_goals try rw [toB_get,mapK_get q0 h2] at h
 all_goals try (simp only [mapK_len,toB_len,toB_get,toS_toB] at *;simp at *;lia)
 ·have g1:k+1≤(s.length:Int):=by lia
  refine⟨by lia,g1,?_⟩
  rw [←mapK_set q0 h2 (low_cap h).2,←toB_set];rfl
 ·have g1:k+1≤(s.length:Int):=by lia
  exact⟨by lia,g1,by rw [←mapK_no q0 h2 (low_no h).2]⟩
 ·rw [toS_toB,mapK_end (by simpa [mapK_len] using h)];rfl
def sp_s_l05Long (p:Pr):FSpec:=fsp (a1 aS) (fun s=>p.ltM (p.lenS s)) (fun s=>.b (longB s))
theorem ok_s_l05Long:FOk Tryz.prog 198 (sp_s_l05Long std):=by
 refine FOk.go (c:=cx std [(248,sp_s_IsWord std)] [] 0) (cx_ok (.cons ok_s_IsWord .nil) .nil) mixed Tryz.func198 rfl rfl rfl (by kernel_rfl) ?_
 rintro s hp
 refine⟨rfl,?_⟩
 unfold sp_s_IsWord
 generalize hP:std=p
 generalize hB0:longB=B0
 generalize hB1:isWordB=B1
 cbv
 repeat' first
  | (refine fun (_:Unit)=>?_;cbv)
  | (refine And.intro (fun h=>?_) (fun h=>?_)<;>cbv)
  | (refine And.intro ?_ ?_)
  | (refine Or.inl (fun (_:Unit)=>?_);cbv)
 all_goals subst hP hB0 hB1
 all_goals try exact fin
 all_goals (simp [std,longB] at * <;>first | lia | (simp_all;done))
end Ax
end Go.Proofs.YtpmakcfjdkaegaaGreatDoor
