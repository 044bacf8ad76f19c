/-
  The draws' source of choices.
  Conditions: none.
-/
import Derived.Test.YtjjonmhpgkahoaaGreatDoorH10
import Derived.Test.YtjjonmhpgkahoaaGreatDoorH09
import Derived.Test.YtjjonmhpgkahoaaGreatDoorH12
import Derived.Test.YtjjonmhpgkahoaaGreatDoorH17
set_option linter.unusedSimpArgs false
set_option linter.unusedVariables false
namespace Go.Proofs.YtjjonmhpgkahoaaGreatDoor
namespace Ax
set_option maxRecDepth 100000
set_option maxHeartbeats 2000000
structure Src where
 code:List Int
 pos:Int
 seed:Int
def srK (σ:Src):List PV:=[.rsl [.i .u8] σ.code,.i .i64 σ.pos,.i .u64 σ.seed]
def srH (σ:Src):AH:=[(0,.cells (srK σ) 159)]
def Nn:AH→Option Src
 | [(0,.cells [.rsl [.i .u8] c,.i .i64 a,.i .u64 s] 159)]=>some ⟨c,a,s⟩
 | _=>none
theorem MX {H:AH} {σ:Src} (h:Nn H=some σ):H=srH σ:=by
 unfold Nn at h
 split at h
 ·cases h;rfl
 ·cases h
def mS {β:Type} (B:gi β):je (Src×β):=⟨fun H l=>match l with
 | .ptr 0 0::r=>hZ (Nn H) (B.rd r)
 | _=>none,fun a=>srH a.1,fun a=>.ptr 0 0::B.enc a.2,fun H l a h=>by
   split at h
   ·obtain⟨h1,h2⟩:=mU h
    exact⟨MX h1,by rw [B.ok _ _ h2]⟩
   ·cases h⟩
structure db (n:Int) (σ:Src):Prop where
 lo:0≤σ.pos
 hi:σ.pos≤n
 len:(σ.code.length:Int)≤1048576
 b : ∀x∈σ.code,0≤x∧x≤255
def nrB (σ:Src):Int:=if σ.pos<σ.code.length then σ.code.getD σ.pos.toNat 0 else 0
def nrS (σ:Src):Src:=⟨σ.code,σ.pos+1,dU.add (dU.add (dU.mul σ.seed 6364136223846793005) (nrB σ)) 1442695040888963407⟩
def nrV (σ:Src):Int:=if σ.pos<σ.code.length then σ.code.getD σ.pos.toNat 0 else dU.msk (dU.shr (nrS σ).seed 40) 255
theorem EU {n:Int} {σ:Src} (h:db n σ) (k:Nat):0≤σ.code.getD k 0∧σ.code.getD k 0≤255:=by
 rw [List.getD_eq_getElem?_getD]
 cases hk:σ.code[k]? with
 | none=>exact⟨by decide,by decide⟩
 | some x=>exact h.b x (List.mem_of_getElem? hk)
theorem C3 {n:Int} {σ:Src} (h:db n σ):0≤nrV σ∧nrV σ≤255:=by
 unfold nrV
 split
 ·exact EU h _
 ·exact EV (by decide) (by decide)
theorem xQ {n:Int} {σ:Src} (h:db n σ):db (n+1) (nrS σ):=⟨by have:=h.lo;show 0≤σ.pos+1;omega,by have:=h.hi;show σ.pos+1≤n+1;omega,h.len,h.b⟩
theorem db.le {n m:Int} {σ:Src} (h:db n σ) (hm:n≤m):db m σ:=⟨h.lo,Int.le_trans h.hi hm,h.len,h.b⟩
def pkV (σ:Src) (n:Int):Int:=if n≤1 then 0 else if 200<n then (nrV σ*256+nrV (nrS σ)).tmod n else (nrV σ).tmod n
def pkS (σ:Src) (n:Int):Src:=if n≤1 then σ else if 200<n then nrS (nrS σ) else nrS σ
theorem ew {m:Int} {σ:Src} (h:db m σ) {n:Int} : 0≤pkV σ n∧(1≤n→pkV σ n<n)∧(n≤1→pkV σ n=0):=by
 have h1:=C3 h
 have h2:=C3 (xQ h)
 unfold pkV
 by_cases h3:n≤1
 ·rw [if_pos h3];exact⟨Int.le_refl 0,fun h=>by omega,fun _=>rfl⟩
 ·rw [if_neg h3]
  split
  ·rw [Int.tmod_eq_emod_of_nonneg (by omega)]
   exact⟨Int.emod_nonneg _ (by omega),fun _=>Int.emod_lt_of_pos _ (by omega),fun h=>absurd h h3⟩
  ·rw [Int.tmod_eq_emod_of_nonneg (by omega)]
   exact⟨Int.emod_nonneg _ (by omega),fun _=>Int.emod_lt_of_pos _ (by omega),fun h=>absurd h h3⟩
theorem ai {m:Int} {σ:Src} (h:db m σ) (n:Int):db (m+2) (pkS σ n):=by
 unfold pkS
 split
 ·exact h.le (by omega)
 ·split
  ·exact (xQ (xQ h)).le (by omega)
  ·exact (xQ h).le (by omega)
theorem inu {x:Int} (h:0≤x∧x≤255):std.inK .u64 x:=⟨h.1,Int.le_trans h.2 (by decide)⟩
theorem in8 {x:Int} (h:0≤x∧x≤255):std.inK .i64 x:=an ⟨Int.le_trans (by decide) h.1,Int.le_trans h.2 (by decide)⟩
theorem Sg {σ:Src} (h:std.ltI σ.pos (std.len σ.code)=true):nrB σ=σ.code.getD σ.pos.toNat 0:=if_pos (ah h)
theorem ON {σ:Src} (h:std.ltI σ.pos (std.len σ.code)=false):nrB σ=0:=if_neg (by have h1:(σ.code.length:Int)≤σ.pos:=ao h;omega)
theorem RL {σ:Src} (h:std.ltI σ.pos (std.len σ.code)=true):nrV σ=σ.code.getD σ.pos.toNat 0:=if_pos (ah h)
theorem RG {σ:Src} (h:std.ltI σ.pos (std.len σ.code)=false):nrV σ=dU.msk (dU.shr (nrS σ).seed 40) 255:=if_neg (by have h1:(σ.code.length:Int)≤σ.pos:=ao h;omega)
theorem Lw {σ:Src} (hp:db 1000000000000 σ):std.inK .i64 (σ.pos+1):=an (by have:=hp.lo;have:=hp.hi;omega)
def iN (p:Pr):bX:=msp (mS a0) (fun (σ,_)=>db 1000000000000 σ) (fun (σ,_)=>.i .i64 (nrV σ)) (fun (σ,_)=>srH (nrS σ))
theorem sO:MOk Tryz.prog 157 (iN std):=by
 refine MOk.go (c:=cxN std [] [] [] 1 (if true then some dU else none) []) (jk .nil .nil .nil) mixed Tryz.func157 rfl rfl (by kernel_rfl) ?_
 rintro ⟨σ,_⟩ hp
 dsimp only at hp
 refine⟨rfl,?_⟩
 generalize hP:std=p,hB0:nrV=B0,hB1:nrS=B1,hB2:dU=B2
 cbv
 repeat' first|refine fun (_:Unit)=>?_;cbv|refine fun (y:Nd _) hy=>?_;cbv|refine aI2 (fun h=>?_) (fun h=>?_)<;>cbv|refine aI2 ?_ ?_|refine Or.inl (fun (_:Unit)=>?_);cbv
 all_goals subst hP hB0 hB1 hB2
 all_goals try exact fin
 ·exact⟨hp.lo,ah h⟩
 ·exact in8 (EU hp σ.pos.toNat)
 ·exact Lw hp
 ·exact inu (EU hp σ.pos.toNat)
 ·show _=dU.add (dU.add (dU.mul σ.seed 6364136223846793005) (nrB σ)) 1442695040888963407
  rw [Sg ‹_›];rfl
 ·rw [RL ‹_›];rfl
 ·exact Lw hp
 ·exact inu ⟨by decide,by decide⟩
 ·exact in8 (EV (b:=255) (by decide) (by decide))
 ·show _=dU.add (dU.add (dU.mul σ.seed 6364136223846793005) (nrB σ)) 1442695040888963407
  rw [ON ‹_›]
 ·rw [RG ‹_›]
  show _=dU.msk (dU.shr (dU.add (dU.add (dU.mul σ.seed 6364136223846793005) (nrB σ)) 1442695040888963407) 40) 255
  rw [ON ‹_›]
theorem Nm {σ:Src} {n:Int} (h:std.leI n 1=true):pkS σ n=σ∧pkV σ n=0:=by
 have h1:n≤1:=by simpa [std] using h
 exact⟨if_pos h1,if_pos h1⟩
theorem N0 {σ:Src} {n:Int} (h:std.leI n 1=false) (k:std.ltI 200 n=true):pkS σ n=nrS (nrS σ)∧pkV σ n=(nrV σ*256+nrV (nrS σ)).tmod n:=by
 have h1 : ¬n≤1:=by simpa [std] using h
 have h2:200<n:=ah k
 exact⟨(if_neg h1).trans (if_pos h2),(if_neg h1).trans (if_pos h2)⟩
theorem MF {σ:Src} {n:Int} (h:std.leI n 1=false) (k:std.ltI 200 n=false):pkS σ n=nrS σ∧pkV σ n=(nrV σ).tmod n:=by
 have h1 : ¬n≤1:=by simpa [std] using h
 have h2 : ¬200<n:=Int.not_lt.2 (ao k)
 exact⟨(if_neg h1).trans (if_neg h2),(if_neg h1).trans (if_neg h2)⟩
theorem SZ {m:Int} {σ:Src} (h:db m σ):std.inK .i64 (nrV σ*256):=an (by have:=C3 h;omega)
theorem nr2 {m:Int} {σ:Src} (h:db m σ):std.inK .i64 (nrV σ*256+nrV (nrS σ)):=an (by have:=C3 h;have:=C3 (xQ h);omega)
def aj (p:Pr):bX:=msp (mS (a1 aI)) (fun (σ,n)=>db 999999999000 σ) (fun (σ,n)=>.i .i64 (pkV σ n)) (fun (σ,n)=>srH (pkS σ n))
theorem aL:MOk Tryz.prog 64 (aj std):=by
 refine MOk.go (c:=cx std [] [(157,iN std)] 1) (ae .nil (.cons sO .nil)) mixed Tryz.func64 rfl rfl (by kernel_rfl) ?_
 rintro ⟨σ,n⟩ hp
 dsimp only at hp
 refine⟨rfl,?_⟩
 unfold iN
 generalize hP:std=p,hB0:pkV=B0,hB1:pkS=B1,hB2:nrV=B2,hB3:nrS=B3
 cbv
 repeat' first|refine fun (_:Unit)=>?_;cbv|refine aI2 (fun h=>?_) (fun h=>?_)<;>cbv|refine aI2 ?_ ?_|refine Or.inl (fun (_:Unit)=>?_);cbv
 all_goals subst hP hB0 hB1 hB2 hB3
 all_goals try exact fin
 ·rw [(Nm h).1]
 ·rw [(Nm h).1]
 ·rw [(Nm h).1]
 ·rw [(Nm h).2]
 ·exact hp.le (by decide)
 ·exact SZ hp
 ·exact (xQ hp).le (by decide)
 ·exact nr2 hp
 ·rw [(N0 ‹_› ‹_›).1]
 ·rw [(N0 ‹_› ‹_›).1]
 ·rw [(N0 ‹_› ‹_›).1]
 ·rw [(N0 ‹_› ‹_›).2];rfl
 ·rw [(MF ‹_› ‹_›).1]
 ·rw [(MF ‹_› ‹_›).1]
 ·rw [(MF ‹_› ‹_›).1]
 ·rw [(MF ‹_› ‹_›).2];rfl
def aF (p:Pr):bX:=msp (mS (a1 aI)) (fun (σ,n)=>db 999999999000 σ) (fun (σ,n)=>.b (std.eqI (pkV σ n) 0)) (fun (σ,n)=>srH (pkS σ n))
theorem ct:MOk Tryz.prog 96 (aF std):=by
 refine MOk.go (c:=cx std [] [(64,aj std)] 1) (ae .nil (.cons aL .nil)) mixed Tryz.func96 rfl rfl (by kernel_rfl) ?_
 rintro ⟨σ,n⟩ hp
 dsimp only at hp
 refine⟨rfl,?_⟩
 unfold aj
 generalize hP:std=p,hB0:pkV=B0,hB1:pkS=B1
 cbv
 repeat' first|refine fun (_:Unit)=>?_;cbv|refine aI2 (fun h=>?_) (fun h=>?_)<;>cbv|refine aI2 ?_ ?_|refine Or.inl (fun (_:Unit)=>?_);cbv
 all_goals subst hP hB0 hB1
 all_goals try exact fin
def amV (σ:Src) (l:List Int):Int:=l.getD (pkV σ l.length).toNat 0
def txV (σ:Src) (l:List (List UInt8)):List UInt8:=l.getD (pkV σ l.length).toNat []
def kY (c:UInt8) (cur:List UInt8):List UInt8→List (List UInt8)
 | []=>[cur]
 | x::r=>if x=c then cur::kY c [] r else kY c (cur++[x]) r
def mp (c:UInt8) (s:List UInt8):List (List UInt8):=kY c [] s
def Tv (n:Int):List UInt8→Int
 | []=>n
 | x::r=>Tv (10*n+((x.toNat:Int)-48)) r
def NA (s:List UInt8):Int:=Tv 0 s
def SS:Nat→Nat→List UInt8
 | 0,_=>[]
 | k+1,n=>if n=0 then [] else SS k (n/10)++[UInt8.ofNat (48+n%10)]
def UM (n:Int):List UInt8:=if n=0 then [48] else SS 20 n.toNat
def GH (t:TS) (w:List UInt8):TS:=match mp 120 w with
 | [c::v,d]=>if c=63∧v=[] then { t with blanks:=NA d } else { t with letters:=t.letters++[c],values:=t.values++[NA v],counts:=t.counts++[NA d] }
 | _=>t
def EL:List UInt8:=[97,49,120,51,32,101,49,120,51,32,110,50,120,50,32,114,50,120,50,32,115,49,120,50,32,116,50,120,50,32,63,120,49]
def px:TS:=⟨[97,101,110,114,115,116],[1,1,2,2,1,2],[3,3,2,2,2,2],1⟩
theorem DZ:tsB px=true:=by decide +kernel
@[reducible] def rX:List (List UInt8):=
 [97,110]::
 [97,116]::
 [97,116,101]::
 [101,97,114]::
 [101,97,114,110]::
 [101,97,114,115]::
 [101,97,115,116]::
 [101,97,116]::
 [101,97,116,101,110]::
 [101,97,116,115]::
 [101,110]::
 [97,110,116]::
 [97,110,116,115]::
 [97,114,101]::
 [97,114,101,110,97]::
 [97,114,116]::
 [97,114,116,115]::
 [97,115]::
 [101,114]::
 [101,115]::
 [105,110]::
 [105,115]::
 [110,97]::
 [110,101]::
 [110,101,97,114]::
 [110,101,97,116]::
 [110,101,115,116]::
 [110,101,115,116,115]::
 [110,101,116]::
 [114,97,116]::
 [114,97,116,101]::
 [114,97,116,101,115]::
 [114,101]::
 [114,101,115,116]::
 [115,97,116]::
 [115,101,97]::
 [115,101,97,116]::
 [115,101,116]::
 [116,97]::
 [116,97,114]::
 [116,97,114,115]::
 [116,97,114,116]::
 [116,101,97]::
 [116,101,97,114]::
 [116,101,97,115]::
 [116,101,110]::
 [116,101,114,110]::
 [116,101,115,116]::
 [116,101,115,116,115]::
 [116,114,101,101,115]::
 [98,97,110,97,110,97]::
 [98,101,101]::
 [98,101,101,110]::
 [98,101,101,115]::
 [115,116,97,114]::
 [115,116,97,114,101]::
 [115,116,97,114,116]::
 [116,114,101,101]::
 [115,116,97,114,115]::
 [116,114,101,97,116,115]::[]
def m5 (l:List (List UInt8)) (t:List UInt8):Nat→Nat
 | 0=>0
 | k+1=>if Op.bytesLess t (l.getD k []) then m5 l t k else k+1
def ql (l:List (List UInt8)) (t:List UInt8):List (List UInt8):=
 if 0<m5 l t l.length∧l.getD (m5 l t l.length-1) []=t then l else l.take (m5 l t l.length)++[t]++l.drop (m5 l t l.length)
def kD (l:List (List UInt8)):List (List UInt8):=l.foldl ql []
def qB:List (List UInt8):=kD rX
theorem G5:lexB qB=true:=by decide +kernel
def rh (a b:Int):Int:=if a<b then a else b
def By (a b:Int):Int:=if a>b then a else b
def fQ (n r c:Int):Int:=rh (rh r (n-1-r)) (rh c (n-1-c))
def d8 (n r c:Int):Int:=By (rh r (n-1-r)) (rh c (n-1-c))
def yP (n r c:Int):UInt8:=
 if fQ n r c=0∧(d8 n r c=0∨d8 n r c=(n-1)/2) then 116 else if fQ n r c=d8 n r c then 100 else if (fQ n r c+d8 n r c)%6=4 then 51 else if (fQ n r c+d8 n r c)%4=3 then 50 else 46
def Ox (n:Int):List UInt8:=((List.range n.toNat).map fun r:Nat=>(List.range n.toNat).map fun c:Nat=>yP n r c).flatten
def fM (n:Int):Bd:=⟨n,Ox n,List.replicate (n*n).toNat 46⟩
theorem G6:bdB (fM 5)=true∧ag (fM 5)=[]:=by decide +kernel
theorem Ht:bdB (fM 7)=true∧ag (fM 7)=[]:=by decide +kernel
theorem Hx:bdB (fM 9)=true∧ag (fM 9)=[]:=by decide +kernel
def Ew:TS:=⟨[97,101,110,115,116],[1,1,2,1,2],[4,5,3,4,4],2⟩
def Fv:TS:=⟨[97,101,110,114,115,116],[1,1,2,2,1,2],[4,6,4,4,5,5],2⟩
theorem Qv:tsB Ew=true:=by decide +kernel
theorem PD:tsB Fv=true:=by decide +kernel
theorem GU:(bW Ew).length =22:=by decide +kernel
theorem Gy:(bW Fv).length =30:=by decide +kernel
theorem zs:(bW px).length =15:=by decide +kernel
structure DfP (ws:List (List UInt8)) (q:List UInt8):Prop where
 w:WsP ws
 n:(q.length:Int)≤1048576
 lx:lexB ws=true
 pl:cu q=true
section
variable {ws l:List (List UInt8)} {q t:List UInt8} {k:Int}
theorem df1 (h:DfP ws q) (h2:lexB ws=false):False:=by rw [h.lx] at h2;cases h2
theorem df2 (h:DfP ws q) (h2:cu q=false):False:=by rw [h.pl] at h2;cases h2
theorem y5 (h0:0≤k) (h:k<ws.length):(ws.take (k+1).toNat).filter (mkB q)=(ws.take k.toNat).filter (mkB q)++if mkB q (ws.getD k.toNat []) then [ws.getD k.toNat []] else []:=by
 rw [tk h0 h [],List.filter_append]
 congr 1
 rw [List.filter_cons]
 split<;>rfl
theorem Jh:((ws.take k.toNat).filter (mkB q)).length ≤k.toNat:=Nat.le_trans (List.length_filter_le _ _) (by rw [List.length_take];omega)
theorem Ri (h0:0<k) (h:Op.bytesLess t (l.getD (k-1).toNat [])=true):m5 l t k.toNat=m5 l t (k-1).toNat :=by
 obtain⟨n,rfl⟩ : ∃n:Nat,k=(n:Int)+1:=⟨(k-1).toNat,by omega⟩
 rw [show ((n:Int)+1-1).toNat =n by omega] at h ⊢
 rw [show ((n:Int)+1).toNat =n+1 by omega,m5,if_pos h]
theorem IN (h0:0<k) (h:Op.bytesLess t (l.getD (k-1).toNat [])=false):m5 l t k.toNat=k.toNat:=by
 obtain⟨n,rfl⟩ : ∃n:Nat,k=(n:Int)+1:=⟨(k-1).toNat,by omega⟩
 rw [show ((n:Int)+1-1).toNat =n by omega] at h
 rw [show ((n:Int)+1).toNat =n+1 by omega,m5,if_neg (by rw [h];decide)]
theorem Pg (e:m5 l t l.length=k.toNat) (h:0<k→¬l.getD (k-1).toNat []=t):l.take k.toNat++[t]++l.drop k.toNat=ql l t:=by
 unfold ql
 rw [e,if_neg]
 rintro ⟨h1,h2⟩
 rw [show k.toNat-1=(k-1).toNat by omega] at h2
 exact h (by omega) h2
end
def fv (p:Pr):aa:=fsp (ac (aA wN) (a1 aS)) (fun (ws,q)=>DfP ws q) (fun (ws,q)=>.tup [.osl 0,.i .i64 0]) (fun (ws,q)=>[(0,.own [.s] (qI ws q) 9)])
theorem ph:FOk Tryz.prog 199 (fv std):=by
 refine FOk.go (c:=cx std [(172,lF std),(106,bU std),(255,pt std)] [] 0) (ae (.cons xD (.cons fI (.cons CR .nil))) .nil) mixed Tryz.func199 rfl rfl rfl (by kernel_rfl) ?_
 rintro ⟨ws,q⟩ hp
 dsimp only at hp
 refine⟨rfl,?_⟩
 unfold lF bU pt
 obtain⟨H,hH⟩ : ∃H:Hd (Int×List (List UInt8)),H=⟨fun (k,L)=>0≤k∧k≤ws.length∧L=(ws.take k.toNat).filter (mkB q),fun (k,L)=>(ws.length-k).toNat,(· < ·)⟩:=⟨_,rfl⟩
 have hl:=hdl hH
 generalize hP:std=p,hB0:qI=B0,hB1:lexB=B1,hB2:cu=B2,hB3:mkB=B3
 cbv
 repeat' first|refine fun (_:Unit)=>?_;cbv|refine Or.inr ⟨14,[],[.s 7 (.i .i64),.o 1 [.s]],[.s 6],[],H,rfl,hl,?_,fun ((k,L):Int×List (List UInt8)) hk=>?_⟩<;>cbv|refine aI2 (fun h=>?_) (fun h=>?_)<;>cbv|refine aI2 ?_ ?_
 all_goals subst hP hB0 hB1 hB2 hB3 hH
 all_goals clear hl
 all_goals try dsimp only at hk
 all_goals try dsimp only
 all_goals try (exfalso;exact df1 hp ‹_›)
 all_goals try (exfalso;exact df2 hp ‹_›)
 all_goals try exact fin
 all_goals have hw:=hp.w
 all_goals have hn:=hw.len
 all_goals have hq:(q.length:Int)≤274877906944:=(by have:=hp.n;omega)
 ·exact hq
 all_goals obtain⟨q0,q1,q2⟩:=hk
 ·exact hq
 all_goals try (have hlt:k<(ws.length:Int):=ah ‹_›)
 ·show ((ws.getD k.toNat []).length : Int)≤274877906944
  have:=hw.all k.toNat;omega
 ·have h1:L.length≤k.toNat:=by rw [q2];exact Jh
  show (L.length:Int)+1≤274877906944
  omega
 ·exact an (by show _≤k+1∧k+1≤_;omega)
 ·refine⟨by show 0≤k+1;omega,by show k+1≤(ws.length:Int);omega,?_⟩
  show L++[ws.getD k.toNat []]=(ws.take (k+1).toNat).filter (mkB q)
  rw [y5 q0 hlt,if_pos (show mkB q (ws.getD k.toNat [])=true from h),q2]
 ·exact an (by show _≤k+1∧k+1≤_;omega)
 ·refine⟨by show 0≤k+1;omega,by show k+1≤(ws.length:Int);omega,?_⟩
  show L=(ws.take (k+1).toNat).filter (mkB q)
  rw [y5 q0 hlt,if_neg (by rw [show mkB q (ws.getD k.toNat [])=false from h];decide),q2,List.append_nil]
 ·refine congrArg (fun z=>Ob.own [.s] z 9) ?_
  rw [q2,bZ (ao ‹_›)];rfl
def Lf (l:List (List UInt8)) (t:List UInt8):Bool:=!(decide (0<m5 l t l.length)&&(l.getD (m5 l t l.length-1) []==t))
structure InP (l:List (List UInt8)) (t:List UInt8):Prop where
 w:WsP l
 m:l.length≤1000
 n:(t.length:Int)≤274877906944
 f:Lf l t=true
theorem in1 {l:List (List UInt8)} {t:List UInt8} {k:Int} (hp:InP l t) (q2:m5 l t l.length=m5 l t k.toNat) (h0:std.ltI 0 k=true) (hs:Op.bytesLess t (l.getD (k-1).toNat [])=false) (h:std.eqS (l.getD (k-1).toNat []) t=true):False:=by
 have h0:0<k:=ah h0
 have hc:=q2.trans (IN h0 hs)
 have h1:=hp.f
 unfold Lf at h1
 rw [hc,show k.toNat-1=(k-1).toNat by omega,decide_eq_true (by omega),show (l.getD (k-1).toNat []==t)=true from h] at h1
 cases h1
theorem Ue (l:List (List UInt8)) (h:(l.length:Int)≤274877906944):std.ltM (std.add (std.len ([]:List (List UInt8))) (std.len l)):=by
 have e:std.add (std.len ([]:List (List UInt8))) (std.len l)=(l.length:Int):=by show ((0:Nat):Int)+(l.length:Int)=_;omega
 rw [e];exact h
theorem Sy (l:List (List UInt8)) (t:List UInt8) (h:l.length≤1000):std.ltM (std.add (std.len (std.snoc [] l)) (std.len [t])):=by
 have e:std.add (std.len (std.snoc [] l)) (std.len [t])=(l.length:Int)+1:=rfl
 rw [e]
 show (l.length:Int)+1≤274877906944
 omega
def kX (p:Pr):aa:=fsp (ac aW (a1 aS)) (fun (l,t)=>InP l t) (fun (l,t)=>.osl 0) (fun (l,t)=>[(0,.own [.s] (ql l t) 9)])
theorem xM:FOk Tryz.prog 287 (kX std):=by
 refine FOk.go (c:=cx std [] [] 0) (ae .nil .nil) mixed Tryz.func287 rfl rfl rfl (by kernel_rfl) ?_
 rintro ⟨l,t⟩ hp
 dsimp only at hp
 refine⟨rfl,?_⟩
 obtain⟨H,hH⟩ : ∃H:Hd (Int),H=⟨fun k=>0≤k∧k≤l.length∧m5 l t l.length=m5 l t k.toNat,fun k=>k.toNat,(· < ·)⟩:=⟨_,rfl⟩
 have hl:=hdl hH
 generalize hP:std=p,hB0:ql=B0,hB1:m5=B1
 cbv
 repeat' first|refine fun (_:Unit)=>?_;cbv|refine Or.inr ⟨9,[],[.s 5 (.i .i64)],[],[],H,rfl,hl,?_,fun (k:Int) hk=>?_⟩<;>cbv|refine aI2 (fun h=>?_) (fun h=>?_)<;>cbv|refine aI2 ?_ ?_
 all_goals subst hP hB0 hB1 hH
 all_goals clear hl
 all_goals try dsimp only at hk
 all_goals try dsimp only
 all_goals try (exfalso;exact in1 hp hk.2.2 ‹_› ‹_› ‹_›)
 all_goals try exact fin
 all_goals have hn:=hp.m
 all_goals obtain⟨q0,q1,q2⟩:=hk
 all_goals have q1:k≤(l.length:Int):=q1
 all_goals have hm:std.inK .i64 (k-1):=an (by omega)
 ·exact hm
 ·exact hm
 all_goals have ht:((l.take k.toNat).length : Int)≤274877906944:=(by rw [List.length_take];omega)
 ·have h0:0<k:=ah ‹_›
  refine⟨by show 0≤k-1;omega,by show k-1≤(l.length:Int);omega,?_⟩
  show _=m5 l t (k-1).toNat
  rw [q2,Ri h0 h]
 ·exact hm
 all_goals try (have h0:0<k:=ah ‹_›)
 all_goals try (have hs:Op.bytesLess t (l.getD (k-1).toNat [])=false:=‹_›)
 all_goals try (have hc:=q2.trans (IN h0 hs))
 all_goals try (have h0 : ¬0<k:=(by have h3:k≤0:=ao ‹_›;omega))
 all_goals try (have hc:m5 l t l.length=k.toNat:=(by rw [q2,show k.toNat=0 by omega];rfl))
 ·exact Ue (l.take k.toNat) ht
 ·exact Sy (l.take k.toNat) t (by rw [List.length_take];omega)
 ·show ((([]++l.take k.toNat)++[t]).length : Int)+((l.drop k.toNat).length : Int)≤274877906944
  rw [List.nil_append,List.length_append,List.length_take,List.length_drop,List.length_singleton];omega
 ·exact congrArg (fun z=>Ob.own [.s] z 9) (Pg hc fun _ e=>beq_eq_false_iff_ne.1 h e)
 ·show ((([]++l.take k.toNat)++[t]).length : Int)+((l.drop k.toNat).length : Int)≤274877906944
  rw [List.nil_append,List.length_append,List.length_take,List.length_drop,List.length_singleton];omega
 ·exact congrArg (fun z=>Ob.own [.s] z 9) (Pg hc fun h3=>absurd h3 h0)
def nk (p:Pr):aa:=fsp a0 (fun _=>True) (fun _=>.osl 0) (fun _=>[(0,.own [.s] rX 9)])
theorem BC:FOk Tryz.prog 234 (nk std):=by
 refine FOk.go (c:=cx std [] [] 0) (ae .nil .nil) mixed Tryz.func234 rfl rfl rfl (by kernel_rfl) ?_
 rintro _ hp
 refine⟨rfl,?_⟩
 generalize hP:std=p
 cbv
 repeat' first|refine fun (_:Unit)=>?_;cbv|refine aI2 (fun h=>?_) (fun h=>?_)<;>cbv|refine aI2 ?_ ?_|refine Or.inl (fun (_:Unit)=>?_);cbv
 all_goals subst hP
 all_goals try exact fin
theorem HK {l:List (List UInt8)} {k:Int} (h0:0≤k) (h:k<l.length):kD (l.take (k+1).toNat)=ql (kD (l.take k.toNat)) (l.getD k.toNat []):=by
 unfold kD
 rw [tk h0 h [],List.foldl_append];rfl
theorem Mc (l:List (List UInt8)) (t:List UInt8):(ql l t).length ≤l.length+1:=by
 unfold ql
 split
 ·omega
 ·rw [List.length_append,List.length_append,List.length_take,List.length_drop,List.length_singleton];omega
theorem L6 {l:List (List UInt8)} {t x:List UInt8} (h:x∈ql l t):x∈l∨x=t:=by
 unfold ql at h
 split at h
 ·exact .inl h
 ·rcases List.mem_append.1 h with h | h
  ·rcases List.mem_append.1 h with h | h
   ·exact .inl (List.mem_of_mem_take h)
   ·exact .inr (List.mem_singleton.1 h)
  ·exact .inl (List.mem_of_mem_drop h)
theorem xU : ∀(m l:List (List UInt8)),(m.foldl ql l).length ≤l.length+m.length
 | [],l=>Nat.le_refl _
 | t::m,l=>by
   have h1:=xU m (ql l t)
   have h2:=Mc l t
   rw [List.foldl_cons,List.length_cons];omega
theorem Dt : ∀(m l:List (List UInt8)) (x:List UInt8),x∈m.foldl ql l→x∈l∨x∈m
 | [],l,x,h=>.inl h
 | t::m,l,x,h=>by
   rcases Dt m (ql l t) x h with h | h
   ·rcases L6 h with h | h
    ·exact .inl h
    ·exact .inr (h ▸ List.mem_cons_self ..)
   ·exact .inr (List.mem_cons_of_mem _ h)
theorem JS {l:List (List UInt8)} (h:WsP l) (n:Nat):WsP (kD (l.take n)):=by
 refine⟨?_,fun k=>?_⟩
 ·have h1:=xU (l.take n) []
  have h2:=h.len
  rw [List.length_take] at h1
  unfold kD
  have h3:([]:List (List UInt8)).length =0:=rfl
  omega
 ·rw [List.getD_eq_getElem?_getD]
  cases hk:(kD (l.take n))[k]? with
  | none=>exact Nat.zero_le _
  | some x=>
    rcases Dt _ _ _ (List.mem_of_getElem? hk) with h1 | h1
    ·cases h1
    ·have h2:=List.mem_of_mem_take h1
     obtain⟨j,hj⟩:=List.getElem?_of_mem h2
     have:=h.all j
     rw [List.getD_eq_getElem?_getD,hj] at this
     exact this
theorem Ly (l:List (List UInt8)) (n:Nat):(kD (l.take n)).length ≤l.length:=by
 have h1:=xU (l.take n) []
 rw [List.length_take] at h1
 have h3:([]:List (List UInt8)).length =0:=rfl
 unfold kD
 omega
structure MkP (l:List (List UInt8)):Prop where
 w:WsP l
 m:l.length≤1000
 f : ∀k:Int,0≤k→k<l.length→Lf (kD (l.take k.toNat)) (l.getD k.toNat [])=true
def nH (p:Pr):aa:=fsp (a1 aW) (fun l=>MkP l) (fun l=>.osl 0) (fun l=>[(0,.own [.s] (kD l) 9)])
theorem Bq:FOk Tryz.prog 233 (nH std):=by
 refine FOk.go (c:=cx std [(287,kX std)] [] 0) (ae (.cons xM .nil) .nil) mixed Tryz.func233 rfl rfl rfl (by kernel_rfl) ?_
 rintro l hp
 refine⟨rfl,?_⟩
 unfold kX
 obtain⟨H,hH⟩ : ∃H:Hd (Int×List (List UInt8)),H=⟨fun (k,L)=>0≤k∧k≤l.length∧L=kD (l.take k.toNat),fun (k,L)=>(l.length-k).toNat,(· < ·)⟩:=⟨_,rfl⟩
 have hl:=hdl hH
 generalize hP:std=p,hB0:kD=B0,hB1:ql=B1,hB2:Lf=B2
 cbv
 repeat' first|refine fun (_:Unit)=>?_;cbv|refine Or.inr ⟨6,[],[.s 4 (.i .i64),.o 0 [.s]],[.s 3],[],H,rfl,hl,?_,fun ((k,L):Int×List (List UInt8)) hk=>?_⟩<;>cbv|refine aI2 (fun h=>?_) (fun h=>?_)<;>cbv|refine aI2 ?_ ?_
 all_goals subst hP hB0 hB1 hB2 hH
 all_goals clear hl
 all_goals try dsimp only at hk
 all_goals try dsimp only
 all_goals try exact fin
 ·exact⟨Int.le_refl 0,Int.natCast_nonneg _,rfl⟩
 all_goals obtain⟨q0,q1,q2⟩:=hk
 all_goals have q1:k≤(l.length:Int):=q1
 all_goals have hn:=hp.w.len
 all_goals try (have hlt:k<(l.length:Int):=ah ‹_›)
 ·refine⟨by rw [q2];exact JS hp.w _,by rw [q2];exact Nat.le_trans (Ly _ _) hp.m,?_,by rw [q2];exact hp.f k q0 hlt⟩
  have:=hp.w.all k.toNat
  show ((l.getD k.toNat []).length : Int)≤_;omega
 ·exact an (by show _≤k+1∧k+1≤_;omega)
 ·refine⟨by show 0≤k+1;omega,by show k+1≤(l.length:Int);omega,?_⟩
  show ql L (l.getD k.toNat [])=kD (l.take (k+1).toNat)
  rw [HK q0 hlt,q2]
 ·refine congrArg (fun z=>Ob.own [.s] z 9) ?_
  rw [q2,bZ (ao h)]
theorem KK:(List.range 60).all (fun k=>Lf (kD (rX.take k)) (rX.getD k []))=true:=by decide +kernel
theorem Qb:rX.all (fun x=>decide (x.length≤12))=true:=by decide +kernel
theorem Fm:rX.length=60:=by decide +kernel
theorem Ot:MkP rX:=by
 refine⟨⟨by rw [Fm];decide,fun k=>?_⟩,by rw [Fm];decide,fun k h0 h=>?_⟩
 ·rw [List.getD_eq_getElem?_getD]
  cases hk:rX[k]? with
  | none=>exact Nat.zero_le _
  | some x=>
    have h2:x.length≤12:=of_decide_eq_true (List.all_eq_true.1 Qb x (List.mem_of_getElem? hk))
    exact Nat.le_trans h2 (by decide)
 ·rw [Fm] at h
  exact List.all_eq_true.1 KK k.toNat (List.mem_range.2 (by omega))
def pu (p:Pr):aa:=fsp a0 (fun _=>True) (fun _=>.agg [.osl 0]) (fun _=>[(0,.own [.s] qB 9)])
theorem Dm:FOk Tryz.prog 155 (pu std):=by
 refine FOk.go (c:=cx std [(234,nk std),(233,nH std)] [] 0) (ae (.cons BC (.cons Bq .nil)) .nil) mixed Tryz.func155 rfl rfl rfl (by kernel_rfl) ?_
 rintro _ hp
 refine⟨rfl,?_⟩
 unfold nk nH
 generalize hP:std=p,hB0:qB=B0,hB1:rX=B1,hB2:kD=B2
 cbv
 repeat' first|refine fun (_:Unit)=>?_;cbv|refine aI2 (fun h=>?_) (fun h=>?_)<;>cbv|refine aI2 ?_ ?_|refine Or.inl (fun (_:Unit)=>?_);cbv
 all_goals subst hP hB0 hB1 hB2
 all_goals try exact fin
 ·exact Ot
def fg (p:Pr):aa:=fsp (ac aI (a1 aI)) (fun (a,b)=>True) (fun (a,b)=>.i .i64 (By a b))
theorem o4:FOk Tryz.prog 200 (fg std):=by
 refine FOk.go (c:=cx std [] [] 0) (ae .nil .nil) mixed Tryz.func200 rfl rfl rfl (by kernel_rfl) ?_
 rintro ⟨a,b⟩ hp
 dsimp only at hp
 refine⟨rfl,?_⟩
 generalize hP:std=p,hB0:By=B0
 cbv
 repeat' first|refine fun (_:Unit)=>?_;cbv|refine aI2 (fun h=>?_) (fun h=>?_)<;>cbv|refine aI2 ?_ ?_|refine Or.inl (fun (_:Unit)=>?_);cbv
 all_goals subst hP hB0
 all_goals try exact fin
 ·exact (if_pos (ah h)).symm
 ·exact (if_neg (Int.not_lt.2 (ao h))).symm
def qZ (p:Pr):aa:=fsp (ac aI (a1 aI)) (fun (a,b)=>True) (fun (a,b)=>.i .i64 (rh a b))
theorem Fw:FOk Tryz.prog 286 (qZ std):=by
 refine FOk.go (c:=cx std [] [] 0) (ae .nil .nil) mixed Tryz.func286 rfl rfl rfl (by kernel_rfl) ?_
 rintro ⟨a,b⟩ hp
 dsimp only at hp
 refine⟨rfl,?_⟩
 generalize hP:std=p,hB0:rh=B0
 cbv
 repeat' first|refine fun (_:Unit)=>?_;cbv|refine aI2 (fun h=>?_) (fun h=>?_)<;>cbv|refine aI2 ?_ ?_|refine Or.inl (fun (_:Unit)=>?_);cbv
 all_goals subst hP hB0
 all_goals try exact fin
 ·exact (if_pos (ah h)).symm
 ·exact (if_neg (Int.not_lt.2 (ao h))).symm
structure SbP (n r c:Int):Prop where
 lo:0≤n
 hi:n≤100
 r:0≤r∧r<n
 c:0≤c∧c<n
def ua (n r c:Int):Int:=((yP n r c).toNat : Int)
section
variable {n r c:Int}
theorem J0 {a b:Int} (h:0≤a∧a≤100) (h2:0≤b∧b≤100):0≤rh a b∧rh a b≤100:=by unfold rh;split<;>omega
theorem SF {a b:Int} (h:0≤a∧a≤100) (h2:0≤b∧b≤100):0≤By a b∧By a b≤100:=by unfold By;split<;>omega
theorem SbP.a (h:SbP n r c):(0≤fQ n r c∧fQ n r c≤100)∧(0≤d8 n r c∧d8 n r c≤100):=by
 have h0:=h.lo;have h1:=h.hi;have h2:=h.r;have h3:=h.c
 have e1:0≤rh r (n-1-r)∧rh r (n-1-r)≤100:=J0 (by omega) (by omega)
 have e2:0≤rh c (n-1-c)∧rh c (n-1-c)≤100:=J0 (by omega) (by omega)
 exact⟨J0 e1 e2,SF e1 e2⟩
theorem H5 {a b:Int} (h:std.eqI a b=true):a=b:=beq_iff_eq.1 h
theorem E2 {a b:Int} (h:std.eqI a b=false) : ¬a=b:=fun e=>by rw [show std.eqI a b=true from beq_iff_eq.2 e] at h;cases h
theorem SbP.q (h:SbP n r c):std.quo (std.sub n 1) 2=(n-1)/2:=yg (by have:=h.r;show 0≤n-1;omega)
theorem SbP.m (h:SbP n r c) (k:Int):std.rem (std.add (fQ n r c) (d8 n r c)) k=(fQ n r c+d8 n r c)%k:=FF (by have:=h.a;show 0≤fQ n r c+d8 n r c;omega)
theorem RQ (h1:fQ n r c=0) (h2:d8 n r c=0∨d8 n r c=(n-1)/2):116=ua n r c:=by
 unfold ua yP;rw [if_pos ⟨h1,h2⟩];rfl
theorem RS (h1 : ¬(fQ n r c=0∧(d8 n r c=0∨d8 n r c=(n-1)/2))) (h2:fQ n r c=d8 n r c):100=ua n r c:=by
 unfold ua yP;rw [if_neg h1,if_pos h2];rfl
theorem SI (h1 : ¬(fQ n r c=0∧(d8 n r c=0∨d8 n r c=(n-1)/2))) (h2 : ¬fQ n r c=d8 n r c) (h3:(fQ n r c+d8 n r c)%6=4):51=ua n r c:=by
 unfold ua yP;rw [if_neg h1,if_neg h2,if_pos h3];rfl
theorem SQ (h1 : ¬(fQ n r c=0∧(d8 n r c=0∨d8 n r c=(n-1)/2))) (h2 : ¬fQ n r c=d8 n r c) (h3 : ¬(fQ n r c+d8 n r c)%6=4) (h4:(fQ n r c+d8 n r c)%4=3):50=ua n r c:=by
 unfold ua yP;rw [if_neg h1,if_neg h2,if_neg h3,if_pos h4];rfl
theorem SO (h1 : ¬(fQ n r c=0∧(d8 n r c=0∨d8 n r c=(n-1)/2))) (h2 : ¬fQ n r c=d8 n r c) (h3 : ¬(fQ n r c+d8 n r c)%6=4) (h4 : ¬(fQ n r c+d8 n r c)%4=3):46=ua n r c:=by
 unfold ua yP;rw [if_neg h1,if_neg h2,if_neg h3,if_neg h4];rfl
end
def js (p:Pr):aa:=fsp (ac aI (ac aI (a1 aI))) (fun (n,r,c)=>SbP n r c) (fun (n,r,c)=>.i .u8 (ua n r c))
theorem uq:FOk Tryz.prog 232 (js std):=by
 refine FOk.go (c:=cx std [(200,fg std),(286,qZ std)] [] 0) (ae (.cons o4 (.cons Fw .nil)) .nil) mixed Tryz.func232 rfl rfl rfl (by kernel_rfl) ?_
 rintro ⟨n,r,c⟩ hp
 dsimp only at hp
 refine⟨rfl,?_⟩
 unfold fg qZ
 generalize hP:std=p,hB0:ua=B0,hB1:rh=B1,hB2:By=B2
 cbv
 repeat' first|refine fun (_:Unit)=>?_;cbv|refine aI2 (fun h=>?_) (fun h=>?_)<;>cbv|refine aI2 ?_ ?_|refine Or.inl (fun (_:Unit)=>?_);cbv
 all_goals subst hP hB0 hB1 hB2
 all_goals try exact fin
 all_goals have g0:=hp.lo
 all_goals have g1:=hp.hi
 all_goals have g2:=hp.r
 all_goals have g3:=hp.c
 all_goals have g4:=hp.a
 all_goals try (have a1:fQ n r c=0:=H5 ‹_›)
 all_goals try (have a0 : ¬fQ n r c=0:=E2 ‹_›)
 all_goals try (have b1:d8 n r c=0:=H5 ‹_›)
 all_goals try (have b0 : ¬d8 n r c=0:=E2 ‹_›)
 all_goals try (have d1:d8 n r c=(n-1)/2:=by rw [←hp.q];exact H5 ‹_›)
 all_goals try (have d0 : ¬d8 n r c=(n-1)/2:=by rw [←hp.q];exact E2 ‹_›)
 all_goals try (have q1:fQ n r c=d8 n r c:=H5 ‹_›)
 all_goals try (have q0 : ¬fQ n r c=d8 n r c:=E2 ‹_›)
 all_goals try (have s1:(fQ n r c+d8 n r c)%6=4:=by rw [←hp.m];exact H5 ‹_›)
 all_goals try (have s0 : ¬(fQ n r c+d8 n r c)%6=4:=by rw [←hp.m];exact E2 ‹_›)
 all_goals try (have t1:(fQ n r c+d8 n r c)%4=3:=by rw [←hp.m];exact H5 ‹_›)
 all_goals try (have t0 : ¬(fQ n r c+d8 n r c)%4=3:=by rw [←hp.m];exact E2 ‹_›)
 all_goals first
  | exact RQ a1 (.inl b1)
  | exact RQ a1 (.inr d1)
  | exact RS (fun h=>a0 h.1) q1
  | exact RS (fun h=>h.2.elim b0 d0) q1
  | exact SI (fun h=>a0 h.1) q0 s1
  | exact SI (fun h=>h.2.elim b0 d0) q0 s1
  | exact SQ (fun h=>a0 h.1) q0 s0 t1
  | exact SQ (fun h=>h.2.elim b0 d0) q0 s0 t1
  | exact SO (fun h=>a0 h.1) q0 s0 t0
  | exact SO (fun h=>h.2.elim b0 d0) q0 s0 t0
  | exact an (by show _≤n-1∧n-1≤_;omega)
  | exact an (by show _≤n-1-r∧n-1-r≤_;omega)
  | exact an (by show _≤n-1-c∧n-1-c≤_;omega)
  | exact an (by show _≤fQ n r c+d8 n r c∧fQ n r c+d8 n r c≤_;omega)
  | (have h7:std.inK .i64 ((n-1)/2):=an (by omega)
     rw [←hp.q] at h7;exact h7)
  | skip
structure SdP (n:Int):Prop where
 n:n=5∨n=7∨n=9
def yd (n r c:Int):List UInt8:=(List.range c.toNat).map fun k:Nat=>yP n r k
def oO (n r:Int):List UInt8:=((List.range r.toNat).map fun k:Nat=>yd n k n).flatten
section
variable {n r c:Int}
theorem PN (h:0≤c):yd n r (c+1)=yd n r c++[yP n r c]:=by
 unfold yd
 rw [show (c+1).toNat =c.toNat+1 by omega,List.range_succ,List.map_append]
 simp [show ((c.toNat:Nat):Int)=c by omega]
theorem Nt (h:0≤r):oO n (r+1)=oO n r++yd n r n:=by
 unfold oO
 rw [show (r+1).toNat =r.toNat+1 by omega,List.range_succ,List.map_append,List.flatten_append]
 simp [show ((r.toNat:Nat):Int)=r by omega]
theorem NL:oO n n=Ox n:=rfl
theorem CJ:(yd n r c).length =c.toNat:=by unfold yd;simp
theorem IL:(oO n r).length =r.toNat*n.toNat:=by
 unfold oO
 generalize r.toNat=k
 induction k with
 | zero=>simp
 | succ k ih=>rw [List.range_succ,List.map_append,List.flatten_append,List.length_append,ih,Nat.succ_mul];simp [CJ]
theorem SdP.b (h:SdP n):5≤n∧n≤9:=by rcases h.n with e | e | e<;>omega
theorem sd1 (h:SdP n) (h2:inR n 5 15=false):False:=by
 rcases h.n with rfl | rfl | rfl<;>exact absurd h2 (by decide)
end
def gQ (p:Pr):aa:=fsp (a1 aI) (fun n=>SdP n) (fun n=>.tup [.agg (bdK (fM n)),.i .i64 0])
theorem rr:FOk Tryz.prog 154 (gQ std):=by
 refine FOk.go (c:=cx std [(231,iY std),(158,fq std),(232,js std)] [] 0) (ae (.cons tE (.cons pK (.cons uq .nil))) .nil) mixed Tryz.func154 rfl rfl rfl (by kernel_rfl) ?_
 rintro n hp
 refine⟨rfl,?_⟩
 unfold iY fq js
 obtain⟨H,hH⟩ : ∃H:Hd (Int×List Int),H=⟨fun (r,L)=>0≤r∧r≤n∧L=aq (oO n r),fun (r,L)=>(n-r).toNat,(· < ·)⟩:=⟨_,rfl⟩
 have hl:=hdl hH
 obtain⟨H2,hH2⟩ : ∃H:(Int×List Int)→Hd (Int×List Int),H=fun (r,L)=>⟨fun (c,L2)=>0≤c∧c≤n∧L2=aq (oO n r++yd n r c),fun (c,L2)=>(n-c).toNat,(· < ·)⟩:=⟨_,rfl⟩
 have hl2 : ∀x m n,(H2 x).lt m n→m<n:=by subst hH2;exact fun _ _ _ h=>h
 generalize hP:std=p,hB0:Ox=B0,hB1:ua=B1,hB2:inR=B2,hB3:yd=B3,hB4:oO=B4,hB5:fM=B5,hB6:yM=B6,hB7:u8=B7
 cbv
 repeat' first|refine fun (_:Unit)=>?_;cbv|refine Or.inr ⟨12,[],[.s 5 (.i .i64),.o 1 [.i .u8]],[.s 4],[],H,rfl,hl,?_,fun ((r,L):Int×List Int) hk=>?_⟩<;>cbv|refine Or.inr ⟨17,[],[.s 6 (.i .i64),.o 1 [.i .u8]],[.s 4],[],H2 (r,L),rfl,hl2 _,?_,fun ((c,L2):Int×List Int) hk2=>?_⟩<;>cbv|refine aI2 (fun h=>?_) (fun h=>?_)<;>cbv|refine aI2 ?_ ?_
 all_goals subst hP hB0 hB1 hB2 hB3 hB4 hB5 hB6 hB7 hH hH2
 all_goals clear hl
 all_goals try dsimp only at hk
 all_goals clear hl2
 all_goals try dsimp only at hk2
 all_goals try dsimp only
 all_goals try (exfalso;exact sd1 hp ‹_›)
 all_goals try exact fin
 ·exact⟨Int.le_refl 0,by have:=hp.b;omega,rfl⟩
 all_goals obtain⟨g0,g1⟩:=hp.b
 all_goals try (obtain⟨q0,q1,q2⟩:=hk)
 all_goals try (have hr:r<n:=ah ‹_›)
 ·exact⟨Int.le_refl 0,by omega,by rw [q2];simp [yd]⟩
 all_goals try (obtain⟨k0,k1,k2⟩:=hk2)
 all_goals try (have hc:c<n:=ah ‹_›)
 ·exact⟨by omega,by omega,⟨q0,hr⟩,⟨k0,hc⟩⟩
 ·have h7:L2.length≤200:=by
   rw [k2,bu,List.length_append,IL,CJ]
   have h8:r.toNat≤9:=by omega
   have h9:n.toNat≤9:=by omega
   have:=Nat.mul_le_mul h8 h9
   omega
  show (L2.length:Int)+1≤274877906944
  omega
 ·exact an (by show _≤c+1∧c+1≤_;omega)
 ·refine⟨by show 0≤c+1;omega,by show c+1≤n;omega,?_⟩
  show L2++[((yP n r c).toNat : Int)]=aq (oO n r++yd n r (c+1))
  rw [k2,i6,PN k0,List.append_assoc]
 ·exact an (by show _≤r+1∧r+1≤_;omega)
 ·have hc:n≤c:=ao ‹_›
  have hce:c=n:=by omega
  refine⟨by show 0≤r+1;omega,by show r+1≤n;omega,?_⟩
  show L2=aq (oO n (r+1))
  rw [k2,Nt q0,hce]
 ·have h7:n*n≤81:=by rcases hp.n with e | e | e<;>rw [e]<;>decide
  have h8:0≤n*n:=by rcases hp.n with e | e | e<;>rw [e]<;>decide
  exact an (by show _≤n*n∧n*n≤_;omega)
 ·have h7:n*n≤81:=by rcases hp.n with e | e | e<;>rw [e]<;>decide
  show n*n≤200
  omega
 ·have hr:n≤r:=ao ‹_›
  show fZ L=Ox n
  rw [q2,cJ,show r=n by omega,NL]
end Ax
end Go.Proofs.YtjjonmhpgkahoaaGreatDoor
