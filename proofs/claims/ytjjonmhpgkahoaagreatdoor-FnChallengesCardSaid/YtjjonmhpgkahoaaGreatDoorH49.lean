/-
  Two verdicts drawn: walked.
  Conditions: none; the library's table of powers of ten is as the program lays it.
-/
import Derived.Test.YtjjonmhpgkahoaaGreatDoorH42
import Derived.Test.YtjjonmhpgkahoaaGreatDoorH37
import Derived.Test.YtjjonmhpgkahoaaGreatDoorH22
import Derived.Test.YtjjonmhpgkahoaaGreatDoorH48
import Derived.Test.YtjjonmhpgkahoaaGreatDoorH18
import Derived.Lib.AppendIntMem
import Derived.Test.YtjjonmhpgkahoaaGreatDoorH47
set_option linter.unusedSimpArgs false
set_option linter.unusedVariables false
namespace Go.Proofs.YtjjonmhpgkahoaaGreatDoor
namespace Ax
set_option maxRecDepth 100000
set_option maxHeartbeats 20000000
def rVV:qw (Vd×Vd):=⟨fun _ l=>match l with
 | [.agg c,.agg d]=>hZ (Er c) (Er d)
 | _=>none,fun _=>[],fun a=>.tup [.agg (vdK a.1 (.rsl [.s] a.1.words) (.rsl [.s] a.1.wrong)),.agg (vdK a.2 (.rsl [.s] a.2.words) (.rsl [.s] a.2.wrong))]⟩
structure VdC (v:Vd):Prop where
 a:WdS 4 v.words
 b:WdS 4 v.wrong
 p : -30≤v.pts∧v.pts≤31
theorem VdB.c {v:Vd} (h:VdB v):VdC v:=⟨h.a.le (by decide),h.b.le (by decide),by have:=h.p;omega⟩
def fh (_:Pr):d7:=nsp (mN (a1 aY)) (fun code=>CdP code) (fun code=>rVV) (fun code (x,y)=>VdC x∧VdC y)
theorem oR:NOk Tryz.prog 56 (fh std):=by
 refine NOk.go (c:=cxN std [(61,im std)] [(64,aj std)] [(144,fT std)] 0 (if false then some dU else none) []) (jk (.cons tz .nil) (.cons aL .nil) (.cons qo .nil)) mixed Tryz.func56 rfl rfl (by kernel_rfl) ?_
 rintro code hp
 refine⟨rfl,?_⟩
 unfold im fT aj
 generalize hP:std=p,hB0:pkS=B0,hB1:pkV=B1,hB2:far=B2
 cbv
 repeat' first|refine fun (_:Unit)=>?_;cbv|refine fun (y:Nd _) hy=>?_;cbv|refine aI2 (fun h=>?_) (fun h=>?_)<;>cbv|refine aI2 ?_ ?_|refine Or.inl (fun (_:Unit)=>?_);cbv
 all_goals subst hP hB0 hB1 hB2
 all_goals try exact fin
 all_goals try exact hp.s (by decide)
 all_goals have hb:VdB y.x.2:=hy.2
 all_goals have s1:=hy.1.s 0 (hp.s (Int.le_refl 0))
 all_goals try exact s1.le (by decide)
 all_goals try exact hb.c
 all_goals have hw:WdS 4 (y.x.2.words++[[97,115]]):=hb.a.sn (by decide)
 all_goals have hv:WdS 4 (y.x.2.wrong++[[97,115]]):=(hb.b.sn (by decide:([97,115]:List UInt8).length ≤3)).le (by decide)
 all_goals have h1:=hb.a.l
 all_goals have h2:=hb.b.l
 all_goals have h3:=hb.p
 ·show (0:Int)+(y.x.2.words.length:Int)≤274877906944
  omega
 ·show (0:Int)+(y.x.2.wrong.length:Int)≤274877906944
  omega
 ·exact an (by show _≤y.x.2.pts+1∧y.x.2.pts+1≤_;omega)
 ·exact⟨hb.c.a,hb.c.b,by show -30≤y.x.2.pts+1∧y.x.2.pts+1≤31;omega⟩
 ·show (y.x.2.words.length:Int)+1≤274877906944
  omega
 ·exact⟨hw,hb.c.b,hb.c.p⟩
 ·show (y.x.2.wrong.length:Int)+1≤274877906944
  omega
 ·exact⟨hb.c.a,hv,hb.c.p⟩
 ·exact⟨hb.c.a,hb.c.b,hb.c.p⟩
def As (p:Pr):aa:=fsp (ac aW (a1 aW)) (fun (a,b)=>p.leP (p.len a) 1073741824) (fun (a,b)=>.b (qeW a b))
theorem Of:FOk Tryz.prog 145 (As std):=by
 refine FOk.go (c:=cx std [] [] 0) (ae .nil .nil) mixed Tryz.func145 rfl rfl rfl (by kernel_rfl) ?_
 rintro ⟨a,b⟩ hp
 dsimp only at hp
 refine⟨rfl,?_⟩
 obtain⟨H,hH⟩ : ∃H:Hd (Int),H=⟨fun k=>0≤k∧k≤a.length∧a.length=b.length∧a.take k.toNat=b.take k.toNat,fun k=>(a.length-k).toNat,(· < ·)⟩:=⟨_,rfl⟩
 have hl:=hdl hH
 generalize hP:std=p,hB0:qeW=B0
 cbv
 repeat' first|refine fun (_:Unit)=>?_;cbv|refine Or.inr ⟨14,[],[.s 13 (.i .i64)],[],[],H,rfl,hl,?_,fun (k:Int) hk=>?_⟩<;>cbv|refine aI2 (fun h=>?_) (fun h=>?_)<;>cbv|refine aI2 ?_ ?_
 all_goals subst hP hB0 hH
 all_goals clear hl
 all_goals try dsimp only at hk
 all_goals try dsimp only
 all_goals try exact fin
 ·show (a==b)=false
  exact beq_eq_false_iff_ne.2 fun e=>beq_eq_false_iff_ne.1 (show ((a.length:Int)==(b.length:Int))=false from h) (by rw [e])
 all_goals obtain⟨q0,q1,q2,q3⟩:=hk
 ·show (a==b)=false
  exact beq_eq_false_iff_ne.2 (Hi (d:=[]) (k:=k) (beq_eq_false_iff_ne.1 (show (a.getD k.toNat []==b.getD k.toNat [])=false from h)))
 ·have hlt:k<(a.length:Int):=ah ‹_›
  exact⟨by show 0≤k+1;omega,by show k+1≤(a.length:Int);omega,q2,FK q0 hlt q2 q3 (beq_iff_eq.1 (show (a.getD k.toNat []==b.getD k.toNat [])=true from h))⟩
 ·show (a==b)=true
  exact beq_iff_eq.2 (F7 (ao h) q2 q3)
def ju (p:Pr):aa:=fsp (ac (aA aVd) (a1 (aA aVd))) (fun (a,b)=>VdN a) (fun (a,b)=>.b (xf a b))
theorem uA:FOk Tryz.prog 57 (ju std):=by
 refine FOk.go (c:=cx std [(145,As std)] [] 0) (ae (.cons Of .nil) .nil) mixed Tryz.func57 rfl rfl rfl (by kernel_rfl) ?_
 rintro ⟨a,b⟩ hp
 dsimp only at hp
 refine⟨rfl,?_⟩
 unfold As
 generalize hP:std=p,hB0:xf=B0,hB1:qeW=B1
 cbv
 repeat' first|refine fun (_:Unit)=>?_;cbv|refine aI2 (fun h=>?_) (fun h=>?_)<;>cbv|refine aI2 ?_ ?_|refine Or.inl (fun (_:Unit)=>?_);cbv
 all_goals subst hP hB0 hB1
 all_goals try exact fin
 all_goals (try simp only [lu,Fl,ED] at *)
 all_goals first
  | exact hp.a
  | exact hp.b
  | (simp_all [xf];done)
  | skip
def aCm:Arg (List (List UInt8)):=⟨fun | .fn g [.rptr [.rsl [.s] ws] 0]=>if Nat.beq g 151 then some ws else none | _=>none,fun ws=>.fn 151 [.rptr [.rsl [.s] ws] 0],fun x a h=>by
 split at h
 ·split at h
  ·rename_i g _ hg
   cases h
   rw [Nat.eq_of_beq_eq_true hg]
  ·cases h
 ·cases h⟩
def iF (p:Pr):aa:=fsp (ac aS (a1 (aP wN))) (fun (s,ws)=>LxP ws) (fun (s,ws)=>.b (!hasB ws s))
theorem rP:FOk Tryz.prog 151 (iF std):=by
 refine FOk.go (c:=cx std [(152,ed std)] [] 0) (ae (.cons mL .nil) .nil) mixed Tryz.func151 rfl rfl rfl (by kernel_rfl) ?_
 rintro ⟨s,ws⟩ hp
 dsimp only at hp
 refine⟨rfl,?_⟩
 unfold ed
 generalize hP:std=p,hB0:hasB=B0,hB1:mR=B1
 cbv
 repeat' first|refine fun (_:Unit)=>?_;cbv|refine aI2 (fun h=>?_) (fun h=>?_)<;>cbv|refine aI2 ?_ ?_|refine Or.inl (fun (_:Unit)=>?_);cbv
 all_goals subst hP hB0 hB1
 all_goals try exact fin
 ·exact hp.len
def tT (p:Pr):aa:=fsp (ac aW (a1 aCm)) (fun (xs,ws)=>LxP ws∧p.ltM (p.len xs)) (fun (xs,ws)=>.osl 0) (fun (xs,ws)=>[(0,.own [.s] (bM ws xs) 9)])
theorem Il:FOk Tryz.prog 150 (tT std):=by
 refine FOk.go (c:=cx std [(151,iF std)] [] 0) (ae (.cons rP .nil) .nil) mixed Tryz.func150 rfl rfl rfl (by kernel_rfl) ?_
 rintro ⟨xs,ws⟩ hp
 dsimp only at hp
 refine⟨rfl,?_⟩
 unfold iF
 obtain⟨H,hH⟩ : ∃H:Hd (Int×List (List UInt8)),H=⟨fun (k,L)=>0≤k∧k≤xs.length∧L=bM ws (xs.take k.toNat),fun (k,L)=>(xs.length-k).toNat,(· < ·)⟩:=⟨_,rfl⟩
 have hl:=hdl hH
 generalize hP:std=p,hB0:bM=B0,hB1:hasB=B1
 cbv
 repeat' first|refine fun (_:Unit)=>?_;cbv|refine Or.inr ⟨12,[],[.s 11 (.i .i64),.o 0 [.s]],[.s 5],[],H,rfl,hl,?_,fun ((k,L):Int×List (List UInt8)) hk=>?_⟩<;>cbv|refine aI2 (fun h=>?_) (fun h=>?_)<;>cbv|refine aI2 ?_ ?_
 all_goals subst hP hB0 hB1 hH
 all_goals clear hl
 all_goals try dsimp only at hk
 all_goals try dsimp only
 all_goals try exact fin
 ·exact⟨Int.le_refl 0,Int.natCast_nonneg _,rfl⟩
 all_goals obtain⟨q0,q1,rfl⟩:=hk
 all_goals have h2:=Cq ws (xs.take k.toNat)
 all_goals rw [List.length_take] at h2
 all_goals have hl:=hp.2
 all_goals try (have h1:k<xs.length:=ah ‹_›)
 ·show ((bM ws (xs.take k.toNat)).length : Int)+1≤274877906944
  have : (xs.length:Int)≤274877906944:=hl
  omega
 ·refine⟨by show 0≤k+1;omega,by show k+1≤(xs.length:Int);omega,?_⟩
  have h6:(!hasB ws (xs.getD k.toNat []))=true:=by assumption
  show bM ws (xs.take k.toNat)++[xs.getD k.toNat []]=bM ws (xs.take (k+1).toNat)
  unfold bM
  rw [kK q0 h1,if_pos h6]
 ·refine⟨by show 0≤k+1;omega,by show k+1≤(xs.length:Int);omega,?_⟩
  have h6:(!hasB ws (xs.getD k.toNat []))=false:=by assumption
  show bM ws (xs.take k.toNat)=bM ws (xs.take (k+1).toNat)
  unfold bM
  rw [kK q0 h1,h6];simp
 ·rw [bZ (ao ‹_›)]
structure AdP (ws xs:List (List UInt8)):Prop where
 l:LxP ws
 w:WsL ws
 v:lexB ws=true
 n:(xs.length:Int)≤274877906944
def kh (p:Pr):aa:=fsp (ac (aA wN) (a1 aW)) (fun (ws,xs)=>AdP ws xs) (fun (ws,xs)=>.tup [.osl 0,.i .i64 0]) (fun (ws,xs)=>[(0,.own [.s] (bM ws xs) 9)])
theorem vT:FOk Tryz.prog 60 (kh std):=by
 refine FOk.go (c:=cx std [(80,dO std),(150,tT std)] [] 0) (ae (.cons lT (.cons Il .nil)) .nil) mixed Tryz.func60 rfl rfl rfl (by kernel_rfl) ?_
 rintro ⟨ws,xs⟩ hp
 dsimp only at hp
 refine⟨rfl,?_⟩
 unfold dO tT
 generalize hP:std=p,hB0:bM=B0,hB1:lexB=B1
 cbv
 repeat' first|refine fun (_:Unit)=>?_;cbv|refine aI2 (fun h=>?_) (fun h=>?_)<;>cbv|refine aI2 ?_ ?_|refine Or.inl (fun (_:Unit)=>?_);cbv
 all_goals subst hP hB0 hB1
 all_goals try exact fin
 all_goals first
  | exact hp.w
  | exact hp.l
  | exact hp.n
  | (exfalso;have:=hp.v;simp_all;done)
  | skip
open Go.RowKit
set_option maxHeartbeats 2000000
def joS (ws:List (List UInt8)) (s:List UInt8):List UInt8:=Lib.join ws s
def A8 (p:Pr):aa:=fsp (ac aW (a1 aS)) (fun (ws,s)=>p.leP (p.len ws) 1048576∧p.leP (p.lenS (joS ws s)) 1073741824) (fun (ws,s)=>.s (joS ws s))
theorem Ol:FOk Tryz.prog 226 (A8 std):=by
 refine FOk.of_calls Tryz.func226 rfl rfl fun ⟨ws,s⟩ hp w e vals hz hl=>?_
 obtain⟨u,v,hv,h1,h2⟩:=Rs2 hl
 rw [eW hv]
 have h2:v=.string ⟨s.toArray⟩:=by unfold R at h2;exact h2
 obtain⟨X,C,hu,hC,hX⟩ : ∃X C,u=.slice X ws.length C∧ws.length≤C∧∀i x,ws[i]? =some x→∃b o,X=some ⟨b,o,none⟩∧e.fz b∧RE w e.fz [.s] b (o+i*1) x:=by unfold R at h1;exact h1
 subst hu h2
 obtain⟨hn,hj⟩:(ws.length:Int)≤1048576∧((joS ws s).length : Int)≤1073741824:=hp
 rcases Nat.eq_zero_or_pos ws.length with h0 | h0
 ·have h:=Tryz.strings_Join_none X C ⟨s.toArray⟩ w
  rw [h0]
  refine Calls.mono h ?_
  rintro en w' ⟨rfl,rfl⟩
  have : ws=[]:=List.eq_nil_of_length_eq_zero h0
  subst this
  exact⟨_,rfl,fun w e=>by unfold R;rfl,Below.refl _ _⟩
 ·obtain⟨b,o,hX0,hfb, -⟩:=hX 0 _ (List.getElem?_eq_getElem h0)
  subst hX0
  have hm:((ws.map fun x=>(⟨x.toArray⟩:ByteArray)).map (·.data.toList))=ws:=by
   rw [List.map_map]
   conv=>rhs;rw [←List.map_id ws]
   exact List.map_congr_left fun x _=>rfl
  have h:=Tryz.strings_Join b o C (ws.map fun x=>⟨x.toArray⟩) ⟨s.toArray⟩ w (fun j x hj=>by
   rw [List.getElem?_map,Option.map_eq_some_iff] at hj
   obtain⟨y,hy,rfl⟩:=hj
   obtain⟨b',o',h3, -,h4⟩:=hX j y hy
   cases h3
   unfold RE REs RE2 at h4
   obtain⟨x,h5,h6⟩:=h4
   unfold RA at h6
   rw [h6,Nat.mul_one] at h5
   exact h5) (hz.lt b hfb) (by rw [List.length_map];omega) (by rw [List.length_map];exact hC) (by
    rw [hm]
    have : (Lib.join ws s).length =(joS ws s).length :=rfl
    show (Lib.join ws s).length ≤140737488355328
    omega)
  rw [List.length_map,hm] at h
  refine Calls.mono h ?_
  rintro en w' ⟨rfl,hb⟩
  exact⟨_,rfl,fun w e=>by unfold R;rfl,hb⟩
def pP (p:Pr):aa:=fsp (a1 aW) (fun l=>JnP l) (fun l=>.s (jnS l))
theorem DM:FOk Tryz.prog 146 (pP std):=by
 refine FOk.go (c:=cx std [(226,A8 std)] [] 0) (ae (.cons Ol .nil) .nil) mixed Tryz.func146 rfl rfl rfl (by kernel_rfl) ?_
 rintro l hp
 refine⟨rfl,?_⟩
 unfold A8
 generalize hP:std=p,hB0:jnS=B0,hB1:joS=B1
 cbv
 repeat' first|refine fun (_:Unit)=>?_;cbv|refine aI2 (fun h=>?_) (fun h=>?_)<;>cbv|refine aI2 ?_ ?_|refine Or.inl (fun (_:Unit)=>?_);cbv
 all_goals subst hP hB0 hB1
 all_goals try exact fin
 ·show ((l.length:Nat):Int)≤1048576
  exact hp.n
 ·have h1:=Jj hp
  show ((jnS l).length : Int)≤1073741824
  omega
open Go.RowKit
theorem R8 {u:Nat} (h:u<100):Lib.decDigits u=dg2 (u:Int):=by
 unfold dg2
 by_cases h1:u<10
 ·rw [Lib.decDigits,dif_pos h1,if_pos (by omega)]
  rfl
 ·rw [Lib.decDigits,dif_neg h1,Lib.decDigits,dif_pos (by omega),if_neg (by omega)]
  rfl
theorem Tq {n:Int} (h : -30≤n∧n≤31):Lib.itoa n=dcS n:=by
 unfold Lib.itoa dcS
 split
 ·rw [R8 (by omega),show ((n.natAbs:Nat):Int)=0-n by omega]
 ·rw [R8 (by omega),show ((n.toNat:Nat):Int)=n by omega]
theorem SD {n:Int} (h:DcP n) : -30≤n∧n≤31:=by unfold DcP at h;omega
def Ff (p:Pr):aa:=fsp (ac aI (a1 aI)) (fun (n,b)=>DcP n∧b=10) (fun (n,b)=>.s (dcS n))
theorem QV:FOk Tryz.prog 227 (Ff std):=by
 refine FOk.of_calls Tryz.func227 rfl rfl fun ⟨n,b⟩ hp w e vals hz hl=>?_
 obtain⟨u,v,hv,h1,h2⟩:=Rs2 hl
 rw [eW hv]
 have h1:u=.int .i64 n:=by unfold R at h1;exact h1
 have h2:v=.int .i64 b:=by unfold R at h2;exact h2
 obtain⟨hd,rfl⟩:DcP n∧b=10:=hp
 subst h1 h2
 have hb:=SD hd
 refine Calls.mono (Tryz.strconv_FormatInt_10 n (by omega) (by omega) w hz.gl.gl.pw) ?_
 rintro en w' ⟨rfl,k,os,rfl⟩
 exact⟨_,rfl,fun w e=>by unfold R;rw [Tq hb],Lib.below_grow _ _ (Nat.le_refl _) _ _⟩
def nE (p:Pr):aa:=fsp (a1 aI) (fun n=>DcP n) (fun n=>.s (dcS n))
theorem AL:FOk Tryz.prog 147 (nE std):=by
 refine FOk.go (c:=cx std [(227,Ff std)] [] 0) (ae (.cons QV .nil) .nil) mixed Tryz.func147 rfl rfl rfl (by kernel_rfl) ?_
 rintro n hp
 refine⟨rfl,?_⟩
 unfold Ff
 generalize hP:std=p,hB0:dcS=B0
 cbv
 repeat' first|refine fun (_:Unit)=>?_;cbv|refine aI2 (fun h=>?_) (fun h=>?_)<;>cbv|refine aI2 ?_ ?_|refine Or.inl (fun (_:Unit)=>?_);cbv
 all_goals subst hP hB0
 all_goals try exact fin
 all_goals exact hp
def jo (p:Pr):aa:=fsp (a1 (aA aVd)) (fun v=>VtP v) (fun v=>.s (vtS v))
theorem uc:FOk Tryz.prog 58 (jo std):=by
 refine FOk.go (c:=cx std [(146,pP std),(147,nE std)] [] 0) (ae (.cons DM (.cons AL .nil)) .nil) mixed Tryz.func58 rfl rfl rfl (by kernel_rfl) ?_
 rintro v hp
 refine⟨rfl,?_⟩
 unfold pP nE
 generalize hP:std=p,hB0:vtS=B0,hB1:jnS=B1,hB2:dcS=B2
 cbv
 repeat' first|refine fun (_:Unit)=>?_;cbv|refine aI2 (fun h=>?_) (fun h=>?_)<;>cbv|refine aI2 ?_ ?_|refine Or.inl (fun (_:Unit)=>?_);cbv
 all_goals subst hP hB0 hB1 hB2
 all_goals try exact fin
 all_goals have h1:=Jj hp.a
 all_goals have h2:=Jj hp.b
 all_goals have h3:=KL v.pts
 ·exact j6 (X:=[117,112,104,101,108,100,58,32]) (Y:=jnS v.wrong) (by simp only [List.length_cons,List.length_nil];omega)
 ·exact j6 (X:=[117,112,104,101,108,100,58,32]++jnS v.wrong) (Y:=[58,32]) (by simp only [List.length_append,List.length_cons,List.length_nil];omega)
 ·exact hp.p
 ·exact j6 (X:=([117,112,104,101,108,100,58,32]++jnS v.wrong)++[58,32]) (Y:=dcS v.pts) (by simp only [List.length_append,List.length_cons,List.length_nil];omega)
 ·unfold vtS
  rw [show v.up=true by assumption];rfl
 ·exact j6 (X:=[114,101,102,117,115,101,100,58,32]) (Y:=jnS v.words) (by simp only [List.length_cons,List.length_nil];omega)
 ·exact j6 (X:=[114,101,102,117,115,101,100,58,32]++jnS v.words) (Y:=[58,32]) (by simp only [List.length_append,List.length_cons,List.length_nil];omega)
 ·exact hp.p
 ·exact j6 (X:=([114,101,102,117,115,101,100,58,32]++jnS v.words)++[58,32]) (Y:=dcS v.pts) (by simp only [List.length_append,List.length_cons,List.length_nil];omega)
 ·unfold vtS
  rw [show v.up=false by assumption];rfl
set_option maxHeartbeats 20000000
section
variable {g G:Gm} {n:Int}
theorem O6 (h:GmB 1048576 g) (hv:az G=true) (e1:G.ts=g.ts) (e2:G.lex=g.lex) (e3:G.bd0=g.bd0) (e4:G.bd.prem=g.bd.prem) (e5:G.last.play.word=[]) (e6:G.last.before=[]) (e7:G.last.drawn=[]):GmB 1048576 G:=by
 have v:=oJ hv
 have hf:=bdB.fit v.bd
 have f1:=hf.lo;have f2:=hf.hi;have f4:=hf.cells
 have f5:G.bd.size*G.bd.size≤225:=(Int.mul_le_mul f2 f2 (by omega) (by decide):G.bd.size*G.bd.size≤15*15)
 have h1:=eF v.bag
 have h2:=v.rl
 have h3:=v.sl
 have h4:=v.kl
 have r0:=bP (PX v (p:=0) (by decide) (by decide))
 have r1:=bP (PX v (p:=1) (by decide) (by decide))
 refine⟨e1 ▸ h.ts,e2 ▸ h.lx,e3 ▸ h.b0,⟨e4 ▸ h.bd.p,by omega⟩,by omega,⟨by omega,fun k=>?_⟩,by omega,by omega,by rw [e5];decide,by rw [e6];decide,by rw [e7];decide⟩
 show (((G.racks.getD k.toNat []).length : Nat):Int)≤1048576
 have r0:(G.racks.getD 0 []).length ≤7:=r0
 have r1:(G.racks.getD 1 []).length ≤7:=r1
 generalize G.racks=R at h2 r0 r1 ⊢
 generalize k.toNat=j
 match R,h2 with
 | [a,b],_=>
   match j with
   | 0=>have : a.length≤7:=r0
        show ((a.length:Nat):Int)≤_
        omega
   | 1=>have : b.length≤7:=r1
        show ((b.length:Nat):Int)≤_
        omega
   | _+2=>exact (by decide:((0:Nat):Int)≤1048576)
structure RfF (g G:Gm):Prop where
 ts:G.ts=g.ts
 lx:G.lex=g.lex
 b0:G.bd0=g.bd0
 bd:G.bd=g.bd
 bag:G.bag=g.bag
 rk:G.racks=g.racks
 pl:G.player=if g.rule=2 then 1-g.player else g.player
 w:G.last.play.word=[]
 b:G.last.before=[]
 d:G.last.drawn=[]
theorem Ui {k:Int} : RfF g (rfG g k):=by
 unfold rfG
 split<;>refine⟨rfl,rfl,rfl,rfl,rfl,rfl,rfl,?_,?_,?_⟩<;>(unfold rf1;dsimp only;split<;>rfl)
theorem LU (hc:chC g n=0):chR g n=chG g n:=if_pos hc
theorem Tl (h:GmB 1048576 g) (hc:chC g n=0):GmB 1048576 (chR g n):=by
 have hv:=Lz hc
 rw [LU hc] at hv ⊢
 unfold chG at hv ⊢
 split at hv
 ·rename_i hu
  rw [if_pos hu]
  exact O6 h hv rfl rfl rfl rfl rfl rfl rfl
 ·rename_i hu
  rw [if_neg hu]
  have f:=Ui (g:=bp g n) (k:=dV g)
  exact O6 h hv f.ts f.lx f.b0 (by rw [f.bd];rfl) f.w f.b f.d
theorem VE (h:GmB 1048576 g):GmN (chR g n):=by
 by_cases hc:chC g n=0
 ·exact (Tl h hc).n (by decide)
 ·unfold chR
  rw [if_neg hc]
  exact Ts
structure ChD (g:Gm) (n:Int):Prop where
 w:(chD g n).words =cZ g
 x:(chD g n).wrong =cC g
 u:(chD g n).up =vUp g
 p:(chD g n).pts =dV g
theorem AI (hc:chC g n=0):ChD g n:=⟨if_pos hc,if_pos hc,if_pos hc,if_pos hc⟩
theorem OM (hc:chC g n=0):voC g=0∧voR g=chD g n:=by
 have hF:=Bf hc
 have h0:voC g=0:=by
  unfold voC
  rw [if_pos (xi (bV hF.act)).v.b,if_pos hF.can]
 refine⟨h0,?_⟩
 have hd:=AI hc
 unfold voR vdG
 rw [if_pos h0,←hd.w,←hd.x,←hd.u,←hd.p]
theorem GF (h:GmB 1048576 g):((cZ g).length : Int)≤1048577:=by
 have h1:(cZ g).length ≤(ab g.last.play).word.length + 1:=pU g.bef g.last.play
 have h2:(ab g.last.play).word =g.last.play.word:=by unfold ab;split<;>rfl
 have h3:=h.wd
 rw [h2] at h1
 omega
theorem J9:(cC g).length ≤(cZ g).length :=by
 unfold cC cZ kn
 exact List.length_filter_le _ _
theorem Jw:bM g.lex (cZ g)=cC g:=by
 unfold cC cZ kn bM
 rfl
theorem Tw (h:GmB 1048576 g):VdN (chD g n):=by
 have h1:=GF h
 have h2:=J9 (g:=g)
 refine⟨?_,?_⟩
 ·show ((chW g n).length : Int)≤1073741824
  unfold chW
  split
  ·omega
  ·exact (by decide:((0:Nat):Int)≤1073741824)
 ·show ((chX g n).length : Int)≤1073741824
  unfold chX
  split
  ·omega
  ·exact (by decide:((0:Nat):Int)≤1073741824)
theorem Ta (h:GmB 1048576 g):VdN (voR g):=by
 have h1:=GF h
 have h2:=J9 (g:=g)
 unfold voR
 split
 ·exact⟨by show ((cZ g).length : Int)≤_;omega,by show ((cC g).length : Int)≤_;omega⟩
 ·exact⟨(by decide:((0:Nat):Int)≤1073741824),(by decide:((0:Nat):Int)≤1073741824)⟩
theorem TJ : ∀r:List (List UInt8),(∀x∈r,x.length≤3)→(Lib.joinTail [32] r).length ≤4*r.length
 | [],_=>Nat.le_refl _
 | x::r,h=>by
   have h1:=TJ r fun y hy=>h y (List.mem_cons_of_mem _ hy)
   have h2:=h x (List.mem_cons_self ..)
   unfold Lib.joinTail at h1 ⊢
   simp only [List.map_cons,List.flatten_cons,List.length_append,List.length_cons,List.length_nil]
   omega
theorem VL (L:List (List UInt8)) (h : ∀x∈L,x.length≤3):(jnS L).length ≤4*L.length:=by
 match L,h with
 | [],_=>exact Nat.le_refl _
 | x::r,h=>
   have h1:=TJ r fun y hy=>h y (List.mem_cons_of_mem _ hy)
   have h2:=h x (List.mem_cons_self ..)
   unfold jnS
   rw [Lib.join_cons,List.length_append,List.length_cons]
   omega
theorem TY {L:List (List UInt8)} (h:WdS 4 L):JnP L:=by
 have h1:=h.l
 refine⟨by omega,fun k hk=>?_,fun k=>?_⟩
 ·have h2:=VL (L.take k) fun x hx=>h.w x (List.mem_of_mem_take hx)
  have h3:(L.take k).length ≤L.length:=by rw [List.length_take];omega
  omega
 ·rw [List.getD_eq_getElem?_getD]
  cases e:L[k.toNat]? with
  | none=>exact (by decide:((0:Nat):Int)≤1048576)
  | some y=>
    have:=h.w y (List.mem_of_getElem? e)
    show (y.length:Int)≤_
    omega
theorem RF {v:Vd} (h:VdC v):VdN v:=⟨by have:=h.a.l;omega,by have:=h.b.l;omega⟩
theorem Ub {v:Vd} (h:VdC v):VtP v:=⟨TY h.a,TY h.b,TK h.p⟩
theorem Td (hb:GmB 1048576 g) (hc:chC g n=0):AdP g.lex (chD g n).words :=by
 have h1:=(xm (OM hc).1).ts.2
 refine⟨AT h1,hb.gq.su.ws,h1,?_⟩
 rw [(AI hc).w]
 have:=GF hb
 omega
theorem S4 (hb:GmB 1048576 g) (hc:chC g n=0):std.leP (std.len (bM g.lex (chD g n).words)) 1073741824:=by
 rw [(AI hc).w,Jw]
 have h1:=GF hb
 have h2:=J9 (g:=g)
 show ((cC g).length : Int)≤1073741824
 omega
theorem R1 (hc:chC g n=0):std.leP (std.len (chR g n).racks) 1073741824:=by
 have:=(oJ (Lz hc)).rl
 show ((chR g n).racks.length : Int)≤1073741824
 omega
theorem ff1 (hc:chC g n=0) (h:qeW (bM g.lex (chD g n).words) (chD g n).wrong =false):False:=by
 rw [(AI hc).w,(AI hc).x,Jw,GP] at h
 cases h
theorem ff2 (hc:chC g n=0) (h:std.eqB (chD g n).up (std.ltI 0 (std.len (bM g.lex (chD g n).words)))=false):False:=by
 rw [(AI hc).w,(AI hc).u,Jw,EG] at h
 simp at h
theorem ff3 (hc:chC g n=0) (h:xf (voR g) (chD g n)=false):False:=by
 rw [(OM hc).2,KD] at h
 cases h
theorem ff4 {v:Vd} (h:xf v v=false):False:=by rw [KD] at h;cases h
structure ChU (g:Gm) (n:Int):Prop where
 c:(chR g n).bd.cells =g.last.before
 p:(chR g n).player =g.player
theorem Sm (hc:chC g n=0) (hu:(chD g n).up =true):ChU g n:=by
 rw [(AI hc).u] at hu
 have e:=LU hc
 unfold chG at e
 rw [if_pos hu] at e
 exact⟨by rw [e];rfl,by rw [e];rfl⟩
theorem Oz (hc:chC g n=0) (hu:(chD g n).up =false):RfF (bp g n) (chR g n):=by
 rw [(AI hc).u] at hu
 have e:=LU hc
 unfold chG at e
 rw [if_neg (by rw [hu];simp)] at e
 rw [e]
 exact Ui
theorem ff5 (hc:chC g n=0) (hu:(chD g n).up =false):(match std.eqB (std.eqI (chR g n).player g.player) (std.eqI g.rule 2) with | true=>false | false=>true)=true:=by
 have h:=(Oz hc hu).pl
 have hv:=(xi (bV (Bf hc).act)).v.pl
 have h2:(chR g n).player =if g.rule=2 then 1-g.player else g.player:=h
 rw [h2]
 simp only [inR,Bool.and_eq_true,decide_eq_true_eq] at hv
 by_cases e:g.rule=2
 ·rw [if_pos e,e]
  have h3:(1-g.player==g.player)=false:=by simp;omega
  simp [h3]
 ·rw [if_neg e]
  have h3:(g.rule==2)=false:=by simp [e]
  simp [h3]
theorem ff6 (hc:chC g n=0) (hu:(chD g n).up =false) (h:qeW (chR g n).racks g.racks=false):False:=by
 rw [(Oz hc hu).rk] at h
 have h:qeW g.racks g.racks=false:=h
 rw [GP] at h
 cases h
end
def sq (p:Pr):aa:=fsp (a1 aY) (fun code=>CbP code) (fun code=>.b true)
theorem sA:FOk Tryz.prog 8 (sq std):=by
 refine FOk.go (c:={ cxN std [(9,qW std),(13,mt std),(53,jE std),(57,ju std),(54,io std),(55,is std),(58,jo std),(59,jj std),(60,kh std),(16,bO std),(38,pf std)] [] [(48,eB std),(49,fR std),(50,fU std),(51,j7 std),(52,j9 std),(56,fh std)] 0 (if false then some dU else none) [] with K:=fun i=>([[],[],[],[21,22,24,25],[27,28,29,30,31,32],[33,34,35,36,37,38,39],[40,41,42,43,44],[45,46,47,48,49],[50,51,52,53,54,55,56,57,58,59,60,61,62,63,64,65,66,67,68,69,70,71,72,73,74,75,76,77,78,79,80,81],[],[83,84,85,86,87],[88,89,90,91,92,93,94,95,96,97,98,99,100],[],[102],[],[104,105,106,107,108,109,110,111,112],[113,114,115,116,117,118,119,120,121,122,123,124,125,126,127,128,129,130,131,132,133,134,135,136,137,138,139],[],[141],[143,144,145,146,147,148,149,150,151,152,153,154,155,156],[157,158,159,160,161,162,163,164,165,166,167,168,169,170,171,172,173,174,175,176,177,178,179,180,181,182,183,184,185,186,187]]:List (List Nat)).getD i [] }) (dD.k (jk (.cons Fs (.cons yI (.cons uE (.cons uA (.cons sL (.cons sX (.cons uc (.cons uu (.cons vT (.cons fk (.cons Dl .nil))))))))))) .nil (.cons nl (.cons qt (.cons qy (.cons vw (.cons vG (.cons oR .nil))))))) _) mixed Tryz.func8 rfl rfl rfl (by kernel_rfl) ?_
 rintro code hp
 refine⟨rfl,?_⟩
 unfold qW eB fR fU j7 j9 mt jE ju io is fh jo jj kh bO pf
 generalize hP:std=p,hB0:Om=B0,hB1:az=B1,hB2:eN=B2,hB3:chR=B3,hB4:chD=B4,hB5:chC=B5,hB6:voR=B6,hB7:voC=B7,hB8:xf=B8,hB9:vtS=B9,hB10:bM=B10,hB11:qeW=B11,hB12:Iw=B12,hB13:lexB=B13
 cbv
 repeat' first|refine fun (_:Unit)=>?_;cbv|refine fun (y:Nd _) hy=>?_;cbv|refine aI2 (fun h=>?_) (fun h=>?_)<;>cbv|refine aI2 ?_ ?_|refine Or.inl (fun (_:Unit)=>?_);cbv
 all_goals subst hP hB0 hB1 hB2 hB3 hB4 hB5 hB6 hB7 hB8 hB9 hB10 hB11 hB12 hB13
 all_goals try exact fin
 all_goals try exact hp.d ‹_›
 all_goals try (rename Nd (Vd×Vd)=>y1;rcases y1 with ⟨⟨va,vb⟩⟩)
 all_goals try (rename Nd (Vd×Int)=>y1;rcases y1 with ⟨⟨vc,cc⟩⟩)
 all_goals try (rename Nd (Vd×Int)=>y1;rcases y1 with ⟨⟨vd,cd⟩⟩)
 all_goals try (rename Nd (Gm×(Vd×Int))=>y1;rcases y1 with ⟨⟨ge,⟨ve,ce⟩⟩⟩)
 all_goals try (rename Nd (Gm×(Vd×Int))=>y1;rcases y1 with ⟨⟨gf,⟨vf,cf⟩⟩⟩)
 all_goals try (rename Nd (Gm×Int)=>y1;rcases y1 with ⟨⟨g,n⟩⟩)
 all_goals try dsimp only at *
 all_goals (try simp only [iR,eD,oD,fV,BS,JK] at *)
 all_goals try (rename (Prod.mk (α:=Vd) (β:=Int) _ _=_)=>hh;obtain⟨rfl,rfl⟩:=pr2 hh;clear hh)
 all_goals try (rename (Prod.mk (α:=Vd) (β:=Int) _ _=_)=>hh;obtain⟨rfl,rfl⟩:=pr2 hh;clear hh)
 all_goals try (rename (Prod.mk (α:=Gm) (β:=Vd×Int) _ _=_)=>hh;obtain⟨rfl,rfl,rfl⟩:=pr3 hh;clear hh)
 all_goals try (rename (Prod.mk (α:=Gm) (β:=Vd×Int) _ _=_)=>hh;obtain⟨rfl,rfl,rfl⟩:=pr3 hh;clear hh)
 all_goals try dsimp only at *
 all_goals (try simp only [iR,eD,oD,fV,BS,JK] at *)
 all_goals rename BeB _=>hb
 all_goals try first
  | exact⟨hb.b.gq,hb.b.gc⟩
  | exact⟨hb.gl,hb.gp⟩
  | exact hb.b.gq
  | exact hb.gl
  | exact VE hb.b
  | exact Tw hb.b
  | exact Ta hb.b
  | exact (ffI ‹_› rfl).elim
  | exact (ff4 ‹_›).elim
 all_goals try (rename (VdC _∧VdC _)=>hv;first | exact RF hv.1 | exact Ub hv.1)
 all_goals have hc:chC g n=0:=by first | exact bV ‹_› | skip
 all_goals try first
  | exact Td hb.b hc
  | exact S4 hb.b hc
  | exact (Tl hb.b hc).gq
  | exact R1 hc
  | exact (ff1 hc ‹_›).elim
  | exact (ff2 hc ‹_›).elim
  | exact (ff3 hc ‹_›).elim
  | exact (ffV ‹_› (Lz hc)).elim
  | exact TE (Sm hc ‹_›).p
  | exact (ffS ‹_› (Sm hc ‹_›).c).elim
  | exact ff5 hc ‹_›
  | exact (ff6 hc ‹_› ‹_›).elim
  | exact (ffS ‹_› (Oz hc ‹_›).bag).elim
  | exact (ffD ‹_› (Oz hc ‹_›).bd).elim
end Ax
end Go.Proofs.YtjjonmhpgkahoaaGreatDoor
