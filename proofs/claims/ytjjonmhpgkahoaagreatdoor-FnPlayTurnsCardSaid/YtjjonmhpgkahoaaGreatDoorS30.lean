/-
  Draws with rows that are handed to them; setups drawn: walked; Ways to lay a word: walked; The plain walker: calls with a bounded result that has rows of its own (new ones, or what was given).
  Conditions: none.
-/
import Derived.Test.YtjjonmhpgkahoaaGreatDoorS20
import Derived.Test.YtjjonmhpgkahoaaGreatDoorS21
import Derived.Test.YtjjonmhpgkahoaaGreatDoorS29
import Derived.Test.YtjjonmhpgkahoaaGreatDoorS09
set_option linter.unusedSimpArgs false
set_option linter.unusedVariables false
namespace Go.Proofs.YtjjonmhpgkahoaaGreatDoor
namespace Ax
set_option maxRecDepth 100000
set_option maxHeartbeats 2000000
def srT:Nat×Ob→Option Src
 | (0,.cells [.rsl [.i .u8] c,.i .i64 a,.i .u64 s] t)=>if t=159 then some ⟨c,a,s⟩ else none
 | _=>none
theorem srT_ok {x:Nat×Ob} {σ:Src} (h:srT x=some σ):x=(0,.cells (srK σ) 159):=by
 unfold srT at h
 split at h
 ·split at h
  ·rename_i ht
   cases h
   rw [ht];rfl
  ·cases h
 ·cases h
def mSN:MArgs (Src×List Int):=⟨fun H l=>match H,l with
 | [x,y],[.ptr 0 0,.osl 1]=>match srT x,hN y with
   | some σ,some (1,L)=>some (σ,L)
   | _,_=>none
 | _,_=>none,fun a=>[(0,.cells (srK a.1) 159),(1,.own [.i .i64] a.2 2)],fun _=>[.ptr 0 0,.osl 1],fun H l a h=>by
   split at h
   ·split at h
    ·rename_i h0 h1
     cases h
     exact⟨by rw [srT_ok h0,hN_ok h1],rfl⟩
    ·cases h
   ·cases h⟩
def sp_amongO (p:Pr):MSpec:=msp mSN (fun (σ,l)=>SrOk 999999999000 σ∧1≤(l.length:Int)∧(l.length:Int)≤1048576) (fun (σ,l)=>.i .i64 (amV σ l)) (fun (σ,l)=>[(0,.cells (srK (pkS σ l.length)) 159),(1,.own [.i .i64] l 2)])
theorem ok_amongO:MOk Tryz.prog 66 (sp_amongO std):=by
 refine MOk.go (c:=cx std [] [(64,sp_s_xl00Src_pick std)] 2) (cx_ok .nil (.cons ok_s_xl00Src_pick .nil)) mixed Tryz.func66 rfl rfl (by kernel_rfl) ?_
 rintro ⟨σ,l⟩ hp
 dsimp only at hp
 refine⟨rfl,?_⟩
 unfold sp_s_xl00Src_pick
 generalize hP:std=p,hB0:amV=B0,hB1:pkV=B1,hB2:pkS=B2
 cbv
 repeat' first
  | (refine fun (_:Unit)=>?_;cbv)
  | (refine aI2 (fun h=>?_) (fun h=>?_)<;>cbv)
  | (refine aI2 ?_ ?_)
  | (refine Or.inl (fun (_:Unit)=>?_);cbv)
 all_goals subst hP hB0 hB1 hB2
 all_goals try exact fin
 all_goals exact⟨(pk_bd hp.1).1,(pk_bd hp.1).2.1 hp.2.1⟩
@[simp] theorem eta_sr (σ:Src):Src.mk σ.code σ.pos σ.seed=σ:=rfl
def rS {β:Type} (A:Arg β):NRes (Src×β):=⟨fun H l=>match l with
 | [x]=>both' (srOf H) (A.rd x)
 | _=>none,fun a=>srH a.1,fun a=>A.enc a.2⟩
structure far (n:Int) (σ τ:Src):Prop where
 c:τ.code=σ.code
 s : ∀m,SrOk m σ→SrOk (m+n) τ
theorem pk_code (σ:Src) (n:Int):(pkS σ n).code =σ.code:=by
 unfold pkS
 split
 ·rfl
 ·split<;>rfl
theorem far_pk (σ:Src) (n:Int):far 2 σ (pkS σ n):=⟨pk_code σ n,fun _ h=>pk_ok h n⟩
theorem far_tr {a b c:Int} {σ τ υ:Src} (h:far a σ τ) (k:far b τ υ) (hc:a+b≤c):far c σ υ:=⟨k.c.trans h.c,fun m h1=>(k.s _ (h.s _ h1)).le (by omega)⟩
theorem am_in {m:Int} {σ:Src} {l:List Int} (h:SrOk m σ) (hl:1≤(l.length:Int)):amV σ l∈l:=by
 have h1:=pk_bd h (n:=(l.length:Int))
 have h2:=h1.2.1 hl
 have h3:(pkV σ l.length).toNat < l.length:=by omega
 unfold amV
 rw [List.getD_eq_getElem?_getD,List.getElem?_eq_getElem h3]
 exact List.getElem_mem h3
theorem am_sd {m:Int} {σ:Src} (h:SrOk m σ):SdP (amV σ [5,7,9]):=⟨by simpa using am_in (l:=[5,7,9]) h (by decide)⟩
theorem dr_su {m n k:Int} {σ τ υ:Src} (h:SrOk m σ) (h2:SrOk n τ) (h3:SrOk k υ) {t:TS} (ht:t=smallT∨t=aenT∨t=aerT):DrSu ⟨t,allW,stdBd (amV σ [5,7,9]),amV τ [0,60,600,1500],pkV υ 4⟩:=by
 refine⟨ht,rfl,?_,?_,?_⟩
 ·rcases (am_sd h).n with e | e | e
  ·exact .inl (by show stdBd _=_;rw [e])
  ·exact .inr (.inl (by show stdBd _=_;rw [e]))
  ·exact .inr (.inr (by show stdBd _=_;rw [e]))
 ·have h4:amV τ [0,60,600,1500]=0∨amV τ [0,60,600,1500]=60∨amV τ [0,60,600,1500]=600∨amV τ [0,60,600,1500]=1500:=by simpa using am_in (l:=[0,60,600,1500]) h2 (by decide)
  show 0≤amV τ [0,60,600,1500]∧amV τ [0,60,600,1500]≤36000
  omega
 ·have h5:=pk_bd h3 (n:=4)
  have h6:=h5.2.1 (by decide)
  show 0≤pkV υ 4∧pkV υ 4≤3
  omega
theorem far4 (σ:Src) (a b c d:Int):far 20 σ (pkS (pkS (pkS (pkS σ a) b) c) d):=⟨by simp only [pk_code],fun _ h=>(pk_ok (pk_ok (pk_ok (pk_ok h a) b) c) d).le (by omega)⟩
def sp_s_l18DrawSetup (_:Pr):NSpec:=nsp (mS a0) (fun (σ,_u)=>SrOk 999999990000 σ) (fun (σ,_u)=>rS (aA aSu)) (fun (σ,_u) (τ,u)=>far 20 σ τ∧DrSu u)
theorem ok_s_l18DrawSetup:NOk Tryz.prog 62 (sp_s_l18DrawSetup std):=by
 refine NOk.go (c:=cxN std [(153,sp_s_StandardTiles std),(154,sp_s_StandardBoard std),(155,sp_s_l12All std)] [(64,sp_s_xl00Src_pick std),(66,sp_amongO std)] [] 1 (if false then some stdU else none) []) (cxN_ok (.cons ok_s_StandardTiles (.cons ok_s_StandardBoard (.cons ok_s_l12All .nil))) (.cons ok_s_xl00Src_pick (.cons ok_amongO .nil)) .nil) mixed Tryz.func62 rfl rfl (by kernel_rfl) ?_
 rintro ⟨σ,_u⟩ hp
 dsimp only at hp
 refine⟨rfl,?_⟩
 unfold sp_s_StandardTiles sp_s_StandardBoard sp_s_l12All sp_s_xl00Src_pick sp_amongO
 generalize hP:std=p,hB0:pkS=B0,hB1:pkV=B1,hB2:amV=B2,hB3:stdBd=B3,hB4:allW=B4
 cbv
 repeat' first
  | (refine fun (_:Unit)=>?_;cbv)
  | (refine aI2 (fun h=>?_) (fun h=>?_)<;>cbv)
  | (refine aI2 ?_ ?_)
  | (refine Or.inl (fun (_:Unit)=>?_);cbv)
 all_goals subst hP hB0 hB1 hB2 hB3 hB4
 all_goals try exact fin
 all_goals (try simp only [eta_sr,eta_bd] at *)
 all_goals try exact Int.NonNeg.mk _
 all_goals first
  | exact hp.le (by decide)
  | exact (pk_ok hp _).le (by decide)
  | exact (pk_ok (pk_ok hp _) _).le (by decide)
  | exact (pk_ok (pk_ok (pk_ok hp _) _) _).le (by decide)
  | exact far4 σ _ _ _ _
  | exact am_sd (pk_ok hp _)
  | exact dr_su (pk_ok hp _) (pk_ok (pk_ok hp _) _) (pk_ok (pk_ok (pk_ok hp _) _) _) (.inl rfl)
  | exact dr_su (pk_ok hp _) (pk_ok (pk_ok hp _) _) (pk_ok (pk_ok (pk_ok hp _) _) _) (.inr (.inl rfl))
  | exact dr_su (pk_ok hp _) (pk_ok (pk_ok hp _) _) (pk_ok (pk_ok (pk_ok hp _) _) _) (.inr (.inr rfl))
  | skip
def suT:Nat×Ob→Option Su
 | (1,.cells l t)=>if t=33 then aSu.rd l else none
 | _=>none
theorem suT_ok {x:Nat×Ob} {u:Su} (h:suT x=some u):x=(1,.cells (aSu.enc u) 33):=by
 unfold suT at h
 split at h
 ·split at h
  ·rename_i ht
   rw [ht,aSu.ok _ _ h]
  ·cases h
 ·cases h
def mSSu:MArgs (Src×Su):=⟨fun H l=>match H,l with
 | [x,y],[.ptr 0 0,.ptr 1 0]=>match srT x,suT y with
   | some σ,some u=>some (σ,u)
   | _,_=>none
 | _,_=>none,fun a=>[(0,.cells (srK a.1) 159),(1,.cells (aSu.enc a.2) 33)],fun _=>[.ptr 0 0,.ptr 1 0],fun H l a h=>by
   split at h
   ·split at h
    ·rename_i h0 h1
     cases h
     exact⟨by rw [srT_ok h0,suT_ok h1],rfl⟩
    ·cases h
   ·cases h⟩
def sdB (σ:Src) (u:Su):List UInt8:=shufL (allT u.ts) (pkV σ 60000)
def sp_s_l18Seed (p:Pr):MSpec:=msp mSSu (fun (σ,u)=>SrOk 999999990000 σ∧DrSu u) (fun (σ,u)=>.s (sdB σ u)) (fun (σ,u)=>[(0,.cells (srK (pkS σ 60000)) 159),(1,.cells (aSu.enc u) 33)])
theorem ok_s_l18Seed:MOk Tryz.prog 63 (sp_s_l18Seed std):=by
 refine MOk.go (c:=cx std [(65,sp_s_l02All std),(156,sp_s_l17Shuffle std)] [(64,sp_s_xl00Src_pick std)] 2) (cx_ok (.cons ok_s_l02All (.cons ok_s_l17Shuffle .nil)) (.cons ok_s_xl00Src_pick .nil)) mixed Tryz.func63 rfl rfl (by kernel_rfl) ?_
 rintro ⟨σ,u⟩ hp
 dsimp only at hp
 refine⟨rfl,?_⟩
 unfold sp_s_l02All sp_s_l17Shuffle sp_s_xl00Src_pick
 generalize hP:std=p,hB0:pkS=B0,hB1:pkV=B1,hB2:shufL=B2,hB3:allT=B3,hB4:sdB=B4
 cbv
 repeat' first
  | (refine fun (_:Unit)=>?_;cbv)
  | (refine aI2 (fun h=>?_) (fun h=>?_)<;>cbv)
  | (refine aI2 ?_ ?_)
  | (refine Or.inl (fun (_:Unit)=>?_);cbv)
 all_goals subst hP hB0 hB1 hB2 hB3 hB4
 all_goals try exact fin
 all_goals (try simp only [eta_sr,eta_ts] at *)
 ·exact su_all hp.2.ok
 ·exact hp.1.le (by decide)
 ·have h5:=pk_bd hp.1 (n:=60000)
  have h6:=h5.2.1 (by decide)
  exact⟨Nat.le_trans hp.2.all.2.2.2 (by decide),h5.1,by omega⟩
 all_goals skip
end Ax
namespace Ax
set_option maxRecDepth 100000
set_option maxHeartbeats 2000000
structure WyP (q w:List UInt8):Prop where
 n:w.length≤12
 q:(q.length:Int)≤1048576
 s : ∀c∈w,97≤c.toNat∧c.toNat≤122
def upc (w:List UInt8):List UInt8:=toSl [((w.getD 0 0).toNat : Int)-97+65]
def wyA (q w:List UInt8):List (List UInt8):=waysL (takeS q [63]) (w.drop 1)
def wyB (q w:List UInt8):List (List UInt8):=waysL (takeS q (w.take 1)) (w.drop 1)
def wy1 (q w:List UInt8):List (List UInt8):=if takeB q [63] then (wyA q w).map (upc w++·) else []
def wy2 (q w:List UInt8):List (List UInt8):=if takeB q (w.take 1) then (wyB q w).map (w.take 1++·) else []
section
variable {q w:List UInt8} {k:Int} {m:Nat}
theorem upc_c {c:UInt8} {r:List UInt8} (h:97≤c.toNat∧c.toNat≤122):upc (c::r)=[c-97+65]:=by
 show [UInt8.ofNat ((c.toNat:Int)-97+65).toNat]=_
 refine congrArg (fun x=>[x]) (UInt8.toNat_inj.1 ?_)
 rw [UInt8.toNat_ofNat',UInt8.toNat_add,UInt8.toNat_sub_of_le _ _ (by rw [UInt8.le_iff_toNat_le];exact h.1)]
 show ((c.toNat:Int)-97+65).toNat % 256=(c.toNat-97+65)%256
 omega
theorem ways_c (h:WyP q w) (h0:w≠[]):waysL q w=wy1 q w++wy2 q w:=by
 cases w with
 | nil=>exact absurd rfl h0
 | cons c r=>
   have e:=upc_c (r:=r) (h.s c (List.mem_cons_self ..))
   rw [waysL]
   unfold wy1 wy2 wyA wyB
   rw [e]
   rfl
theorem WyP.A (h:WyP q w):WyP (takeS q [63]) (w.drop 1):=⟨by rw [List.length_drop];have:=h.n;omega,by have:=takeS_le q 63;have:=h.q;omega,fun c hc=>h.s c (List.mem_of_mem_drop hc)⟩
theorem WyP.B (h:WyP q w) (h0:w≠[]):WyP (takeS q (w.take 1)) (w.drop 1):=by
 cases w with
 | nil=>exact absurd rfl h0
 | cons c r=>exact⟨by rw [List.length_drop];have:=h.n;omega,by have:=takeS_le q c;have:=h.q;show ((takeS q [c]).length : Int)≤_;omega,fun c hc=>h.s c (List.mem_of_mem_drop hc)⟩
theorem ways_n {p r:List UInt8} (h:r.length≤12):(waysL p r).length ≤4096:=Nat.le_trans (ways_len r p) (Nat.pow_le_pow_right (by decide) h)
theorem ways_e {p r:List UInt8} (h:r.length≤12) (k:Nat):((waysL p r).getD k []).length ≤12:=by
 rw [List.getD_eq_getElem?_getD]
 cases hk:(waysL p r)[k]? with
 | none=>exact Nat.zero_le _
 | some x=>rw [show ((some x).getD [])=x from rfl,ways_each r p x (List.mem_of_getElem? hk)];exact h
theorem map_step {f:List UInt8→List UInt8} {l:List (List UInt8)} (h0:0≤k) (h:k<l.length):(l.take (k+1).toNat).map f=(l.take k.toNat).map f++[f (l.getD k.toNat [])]:=by
 rw [tk h0 h [],List.map_append];rfl
theorem ne_of (h:std.eqS w []=false):w≠[]:=beq_eq_false_iff_ne.1 h
theorem pos_w (h:w≠[]):0<w.length:=List.length_pos_iff.2 h
theorem wl1 (h:w≠[]):std.leP 1 (std.lenS w):=by show (1:Int)≤(w.length:Int);have:=pos_w h;omega
theorem wl0 (h:w≠[]):std.inL 0 (std.lenS w):=⟨Int.le_refl 0,by show (0:Int)<(w.length:Int);have:=pos_w h;omega⟩
theorem wq (h:WyP q w):std.ltM (std.lenS q):=by show (q.length:Int)≤274877906944;have:=h.q;omega
theorem wm (h:w.length<m+1) (h0:w≠[]):(w.drop 1).length < m:=by rw [List.length_drop];have:=pos_w h0;omega
theorem wc (h:WyP q w) (h0:w≠[]):97≤(w.getD 0 0).toNat ∧(w.getD 0 0).toNat ≤122:=by
 cases w with
 | nil=>exact absurd rfl h0
 | cons c r=>exact h.s c (List.mem_cons_self ..)
theorem wu1 (h:WyP q w) (h0:w≠[]):std.inK .u8 (std.sub (std.byte w 0) 97):=by
 have:=wc h h0
 show (0:Int)≤((w.getD 0 0).toNat : Int)-97∧((w.getD 0 0).toNat : Int)-97≤255
 omega
theorem wu2 (h:WyP q w) (h0:w≠[]):std.inK .u8 (std.add (std.sub (std.byte w 0) 97) 65):=by
 have:=wc h h0
 show (0:Int)≤((w.getD 0 0).toNat : Int)-97+65∧((w.getD 0 0).toNat : Int)-97+65≤255
 omega
theorem wa1 (h:WyP q w):std.inK .i64 (std.add (std.lenS (std.toS [std.add (std.sub (std.byte w 0) 97) 65])) (std.lenS (std.get [] (wyA q w) k))):=by
 have:=ways_e (p:=takeS q [63]) h.A.n k.toNat
 show (-9223372036854775808:Int)≤((1:Nat):Int)+(((wyA q w).getD k.toNat []).length : Int)∧((1:Nat):Int)+(((wyA q w).getD k.toNat []).length : Int)≤9223372036854775807
 have : ((wyA q w).getD k.toNat []).length ≤12:=this
 omega
theorem wb1 (h:WyP q w) (h0:w≠[]):std.inK .i64 (std.add (std.lenS (std.tak w 1)) (std.lenS (std.get [] (wyB q w) k))):=by
 have:=ways_e (p:=takeS q (w.take 1)) (h.B h0).n k.toNat
 have h1:((wyB q w).getD k.toNat []).length ≤12:=this
 have h2:(w.take 1).length ≤1:=by rw [List.length_take];omega
 show (-9223372036854775808:Int)≤((w.take 1).length : Int)+(((wyB q w).getD k.toNat []).length : Int)∧((w.take 1).length : Int)+(((wyB q w).getD k.toNat []).length : Int)≤9223372036854775807
 omega
theorem wk (h:WyP q w) (hk:k<(wyA q w).length) (h0:0≤k):std.inK .i64 (std.add k 1):=by
 have h1:(wyA q w).length ≤4096:=ways_n h.A.n
 exact in64 (by show _≤k+1∧k+1≤_;omega)
theorem wk2 (h:WyP q w) (hw:w≠[]) (hk:k<(wyB q w).length) (h0:0≤k):std.inK .i64 (std.add k 1):=by
 have h1:(wyB q w).length ≤4096:=ways_n (h.B hw).n
 exact in64 (by show _≤k+1∧k+1≤_;omega)
theorem wy1_n (h:WyP q w):(wy1 q w).length ≤4096:=by
 unfold wy1
 split
 ·rw [List.length_map];exact ways_n h.A.n
 ·exact Nat.zero_le _
variable {L:List (List UInt8)} {x:List UInt8}
theorem wx1 (h:WyP q w) (e:L=((wyA q w).take k.toNat).map (upc w++·)):std.ltM (std.add (std.len L) (std.len [x])):=by
 have h1:(wyA q w).length ≤4096:=ways_n h.A.n
 have h2:L.length≤4096:=by rw [e,List.length_map,List.length_take];omega
 show (L.length:Int)+1≤274877906944
 omega
theorem wx2 (h:WyP q w) (hw:w≠[]) (e:L=wy1 q w++((wyB q w).take k.toNat).map (w.take 1++·)):std.ltM (std.add (std.len L) (std.len [x])):=by
 have h1:(wyB q w).length ≤4096:=ways_n (h.B hw).n
 have h3:=wy1_n h
 have h2:L.length≤8192:=by rw [e,List.length_append,List.length_map,List.length_take];omega
 show (L.length:Int)+1≤274877906944
 omega
theorem wi1 (h0:0≤k) (hk:k<(wyA q w).length) (e:L=((wyA q w).take k.toNat).map (upc w++·)):0≤k+1∧k+1≤((wyA q w).length : Int)∧L++[upc w++(wyA q w).getD k.toNat []]=((wyA q w).take (k+1).toNat).map (upc w++·):=
 ⟨by omega,by omega,by rw [map_step h0 hk,e]⟩
theorem wi2 (h0:0≤k) (hk:k<(wyB q w).length) (e:L=wy1 q w++((wyB q w).take k.toNat).map (w.take 1++·)):0≤k+1∧k+1≤((wyB q w).length : Int)∧L++[w.take 1++(wyB q w).getD k.toNat []]=wy1 q w++((wyB q w).take (k+1).toNat).map (w.take 1++·):=
 ⟨by omega,by omega,by rw [map_step h0 hk,e,List.append_assoc]⟩
theorem we1 (ha:takeB q [63]=true) (hk:((wyA q w).length : Int)≤k) (e:L=((wyA q w).take k.toNat).map (upc w++·)):L=wy1 q w:=by
 rw [e,tk_all hk]
 exact (if_pos ha).symm
theorem we2 (h:WyP q w) (hw:w≠[]) (hb:takeB q (w.take 1)=true) (hk:((wyB q w).length : Int)≤k) (e:L=wy1 q w++((wyB q w).take k.toNat).map (w.take 1++·)):L=waysL q w:=by
 rw [ways_c h hw,e,tk_all hk]
 exact congrArg (wy1 q w++·) (if_pos hb).symm
theorem we3 (h:WyP q w) (hw:w≠[]) (hb:takeB q (w.take 1)=false) (e:L=wy1 q w):L=waysL q w:=by
 rw [ways_c h hw,e,show wy2 q w=[] from if_neg (by rw [hb];decide),List.append_nil]
theorem we0 (ha:takeB q [63]=false) : []=wy1 q w:=(if_neg (by rw [ha];decide)).symm
theorem wi0 (e:L=wy1 q w):(0:Int)≤0∧(0:Int)≤((wyB q w).length : Int)∧L=wy1 q w++((wyB q w).take (Int.toNat 0)).map (w.take 1++·):=
 ⟨Int.le_refl 0,Int.natCast_nonneg _,by rw [e];exact (List.append_nil _).symm⟩
end
def ltL (w:List UInt8) (m:Nat):Prop:=w.length<m
def sp_s_l03Ways (m:Nat) (p:Pr):FSpec:=fsp (ac aS (a1 aS)) (fun (q,w)=>ltL w m∧WyP q w) (fun (q,w)=>.osl 0) (fun (q,w)=>[(0,.own [.s] (waysL q w) 9)])
theorem ok_s_l03Ways : ∀m:Nat,FOk Tryz.prog 201 (sp_s_l03Ways m std):=by
 intro m
 induction m with
 | zero=>exact FOk.no Tryz.func201 rfl rfl fun a h=>absurd h.1 (Nat.not_lt_zero _)
 | succ m ih=>
   refine FOk.go (c:=cx std [(126,sp_s_l03Take std),(201,sp_s_l03Ways m std)] [] 0) (cx_ok (.cons ok_s_l03Take (.cons ih .nil)) .nil) mixed Tryz.func201 rfl rfl rfl (by kernel_rfl) ?_
   rintro ⟨q,w⟩ hp
   dsimp only at hp
   refine⟨rfl,?_⟩
   unfold sp_s_l03Take sp_s_l03Ways
   obtain⟨H,hH⟩ : ∃H:Hd (Int×List (List UInt8)),H=⟨fun (k,L)=>0≤k∧k≤(wyA q w).length ∧L=((wyA q w).take k.toNat).map (upc w++·),fun (k,L)=>((wyA q w).length - k).toNat,(· < ·)⟩:=⟨_,rfl⟩
   have hl : ∀m n,H.lt m n→m<n:=by subst hH;exact fun _ _ h=>h
   obtain⟨H2,hH2⟩ : ∃H:Hd (Int×List (List UInt8)),H=⟨fun (k,L)=>0≤k∧k≤(wyB q w).length ∧L=wy1 q w++((wyB q w).take k.toNat).map (w.take 1++·),fun (k,L)=>((wyB q w).length - k).toNat,(· < ·)⟩:=⟨_,rfl⟩
   have hl2 : ∀m n,H2.lt m n→m<n:=by subst hH2;exact fun _ _ h=>h
   generalize hP:std=p,hB0:waysL=B0,hB1:takeS=B1,hB2:takeB=B2,hB3:ltL=B3
   cbv
   repeat' first
    | (refine fun (_:Unit)=>?_;cbv)
    | (refine Or.inr ⟨29,[],[.s 10 (.i .i64),.o 0 [.s]],[.s 5],[],H,rfl,hl,?_,fun ((k,L):Int×List (List UInt8)) hk=>?_⟩<;>cbv)
    | (refine Or.inr ⟨60,[],[.s 12 (.i .i64),.o 0 [.s]],[.s 5],[],H2,rfl,hl2,?_,fun ((k,L):Int×List (List UInt8)) hk2=>?_⟩<;>cbv)
    | (refine aI2 (fun h=>?_) (fun h=>?_)<;>cbv)
    | (refine aI2 ?_ ?_)
   all_goals subst hP hB0 hB1 hB2 hB3 hH hH2
   all_goals clear hl
   all_goals try dsimp only at hk
   all_goals clear hl2
   all_goals try dsimp only at hk2
   all_goals try dsimp only
   all_goals try exact fin
   ·rw [show w=[] from beq_iff_eq.1 h,waysL]
   all_goals have hw:w≠[]:=ne_of ‹_›
   all_goals have hP:=hp.2
   ·exact wl0 hw
   ·exact wq hP
   ·exact wl1 hw
   ·exact wm hp.1 hw
   ·exact hP.A
   ·exact wu1 hP hw
   ·exact wu2 hP hw
   ·exact wa1 hP
   ·exact wx1 hP hk.2.2
   ·exact wk hP (lt_of ‹_›) hk.1
   ·exact wi1 hk.1 (lt_of ‹_›) hk.2.2
   ·have h1:k<((wyA q w).length : Int):=lt_of ‹_›
    show (((wyA q w).length : Int)-(k+1)).toNat < (((wyA q w).length : Int)-k).toNat
    omega
   ·exact wl1 hw
   ·exact wq hP
   ·exact wl1 hw
   ·exact wm hp.1 hw
   ·exact hP.B hw
   ·exact wi0 (we1 ‹_› (ge_of ‹_›) hk.2.2)
   ·exact wl1 hw
   ·exact wb1 hP hw
   ·exact wx2 hP hw hk2.2.2
   ·exact wk2 hP hw (lt_of ‹_›) hk2.1
   ·exact wi2 hk2.1 (lt_of ‹_›) hk2.2.2
   ·have h1:k<((wyB q w).length : Int):=lt_of ‹_›
    show (((wyB q w).length : Int)-(k+1)).toNat < (((wyB q w).length : Int)-k).toNat
    omega
   ·exact congrArg (fun z=>Ob.own [.s] z 9) (we2 hP hw ‹_› (ge_of ‹_›) hk2.2.2)
   ·exact congrArg (fun z=>Ob.own [.s] z 9) (we3 hP hw ‹_› (we1 ‹_› (ge_of ‹_›) hk.2.2))
   ·exact wl1 hw
   ·exact wq hP
   ·exact wl1 hw
   ·exact wm hp.1 hw
   ·exact hP.B hw
   ·exact wi0 (we0 ‹_›)
   ·exact wl1 hw
   ·exact wb1 hP hw
   ·exact wx2 hP hw hk2.2.2
   ·exact wk2 hP hw (lt_of ‹_›) hk2.1
   ·exact wi2 hk2.1 (lt_of ‹_›) hk2.2.2
   ·have h1:k<((wyB q w).length : Int):=lt_of ‹_›
    show (((wyB q w).length : Int)-(k+1)).toNat < (((wyB q w).length : Int)-k).toNat
    omega
   ·exact congrArg (fun z=>Ob.own [.s] z 9) (we2 hP hw ‹_› (ge_of ‹_›) hk2.2.2)
   ·exact congrArg (fun z=>Ob.own [.s] z 9) (we3 hP hw ‹_› (we0 ‹_›))
def sp_s_l03Ways_c (p:Pr):=sp_s_l03Ways 13 p
theorem ok_s_l03Ways_c:FOk Tryz.prog 201 (sp_s_l03Ways_c std):=ok_s_l03Ways 13
end Ax
namespace Ax
def goneB:Option Ob→Bool
 | some .gone =>true
 | _=>false
def noGone:AH→AH
 | []=>[]
 | (_,.gone)::r=>noGone r
 | q::r=>q::noGone r
def retEP (n0:Nat) (h:AH) (l:List PV) (ids:List Nat) (v:PV) (E:AH) (ρ:List Nat) (r:Prop):Prop:=
 ((nodupB ids&&ids.all fun a=>!Nat.blt a n0||goneB (E.get a))&&((E.all fun q=>Nat.blt q.1 ρ.length&&q.2.idIn (List.range ρ.length)&&(!goneB (some q.2)||Nat.blt q.1 n0))&&(full E ρ.length&&v.idIn (List.range ρ.length))))=true∧obs ρ h (noGone E) (sameV (tupOf l) (v.rn (look ρ))∧r)
def retE {β:Type} (c:Cx) (rs:List ResultVar) (B:NRes β) (Q:β→Prop):AEx→AS→Prop
 | .exit _,_=>False
 | _,st=>match resL c st rs with
   | some l=>match B.rd (oldH st.h st.h c.n0) (nrmL (deeps st.h 12 l)) with
     | some x=>retEP c.n0 st.h l (idsL l) (B.v x) (B.eh x) (List.range c.n0++idsL l) (Q x)
     | none=>False
   | none=>False
theorem noGone_mem {k:Nat} {o:Ob} : ∀{E:AH},(k,o)∈E→goneB (some o)=false→(k,o)∈noGone E
 | [],h,_=>by simp at h
 | (j,x)::r,h,hg=>by
   rcases List.mem_cons.1 h with h | h
   ·cases h
    cases o<;>first | (simp [goneB] at hg;done) | (unfold noGone;exact List.mem_cons_self ..)
   ·have ih:=noGone_mem h hg
    cases x<;>unfold noGone<;>first | exact ih | exact List.mem_cons_of_mem _ ih
section
variable {P:Program} {c:Cx} {f:FuncId} {fn:Func} {body:Code} {α β:Type}
theorem NOk.goE {A:MArgs α} {pre:α→Prop} {B:α→NRes β} {Q:α→β→Prop} (hc:CxOk P c) (hm:P.follows .mixedOrders =true) (hf:P.funcs[f]? =some fn) (hb:fn.body=some body) (hn:(fn.name=="runtime.NumGoroutine")=false) (hck:codeOk body=true)
 (h : ∀a,pre a→Nat.beq c.n0 (A.eh a).length =true∧awp c body (retE c fn.results.toList (B a) (Q a)) ⟨A.ea a++List.replicate (fn.ntmps-(A.ea a).length) .dead,A.eh a,(A.eh a).length⟩):NOk P f (nsp A pre B Q):=by
 refine⟨⟨fn,hf,hn,by rw [hb];rfl⟩,fun H args out hs hp w e vals hz hob hon hlv hbd hdis hl=>?_⟩
 unfold nsp at hs
 split at hs
 ·rename_i a ha
  cases hs
  obtain⟨rfl,rfl⟩:=A.ok _ _ _ ha
  obtain⟨h1,h2⟩:=h a (hp _ (by simp))
  have hn0:=Nat.eq_of_beq_eq_true h1
  refine run_awpG hc hm hf hb hck hn0 hz hob hon hlv hbd hdis hl (fun _ _ h=>h) (fun ex st e1 a' w' hq hs'=>?_) h2
  have hq:retE c fn.results.toList (B a) (Q a) .ret st:=by cases ex<;>first | exact hq | exact hq.elim
  generalize (A.eh a).length =n0 at hn0 hon hlv hs'
  unfold retE at hq
  simp only [hn0] at hq
  split at hq
  ·rename_i l hlr
   split at hq
   ·rename_i x hx
    obtain⟨v,hv1,hv2⟩:=results_run hc hs' hlr
    unfold retEP at hq
    obtain⟨hck1,hobs⟩:=hq
    generalize idsL l=ids at hck1 hobs
    obtain⟨ρ,hρ⟩ : ∃ρ,ρ=List.range n0++ids:=⟨_,rfl⟩
    rw [←hρ] at hck1 hobs
    have hlen:ρ.length=n0+ids.length:=by rw [hρ,List.length_append,List.length_range]
    have hlow : ∀k,k<n0→look ρ k=k:=fun k hk=>by
     unfold look
     rw [hρ,List.getD_eq_getElem?_getD,List.getElem?_append_left (by simpa using hk),List.getElem?_range hk];rfl
    have hhi : ∀k,n0≤k→look ρ k=look ids (k-n0):=fun k hk=>by
     unfold look
     rw [hρ,List.getD_eq_getElem?_getD,List.getElem?_append_right (by simpa using hk),List.length_range,←List.getD_eq_getElem?_getD]
    simp only [Bool.and_eq_true,List.all_eq_true,Nat.blt_eq] at hck1
    obtain⟨⟨hnd,hmv⟩,hob1,hfull,hvin⟩:=hck1
    obtain⟨⟨hsame,hQ⟩,hob2⟩:=obs_mem hobs
    unfold full at hfull
    rw [List.all_eq_true] at hfull
    have hfull : ∀k,k<ρ.length→(((B a).eh x).get k).isSome =true:=fun k hk=>hfull k (List.mem_range.2 hk)
    have hroot : ∀k,e.on k→e1.on k∧e1.adr k=e.adr k∧e1.cap k=e.cap k∧e1.len k=e.len k:=fun k hk=>hs'.root k ((hon k).1 hk) hk
    have hst : ∀k,e.on k→k<ρ.length∧look ρ k=k:=fun k hk=>⟨by have:=(hon k).1 hk;omega,hlow k ((hon k).1 hk)⟩
    have hidx : ∀k,n0≤k→k<ρ.length→look ρ k∈ids∧k-n0<ids.length:=fun k hk hk2=>by
     have h3:k-n0<ids.length:=by omega
     refine⟨?_,h3⟩
     rw [hhi k hk]
     unfold look
     rw [List.getD_eq_getElem?_getD,List.getElem?_eq_getElem h3]
     exact List.getElem_mem h3
    obtain⟨e2,he2⟩ : ∃e2:Env,e2={ e1.rn (look ρ) ρ.length with lv:=fun k=>(k<ρ.length∧e1.lv (look ρ k))∧goneB (((B a).eh x).get k)=false }:=⟨_,rfl⟩
    have hElv : ∀k,e2.lv k↔(k<ρ.length∧e1.lv (look ρ k))∧goneB (((B a).eh x).get k)=false:=fun k=>by rw [he2]
    have hEon : ∀k,e2.on k↔k<ρ.length∧e1.on (look ρ k):=fun k=>by rw [he2];exact Iff.rfl
    have hEadr : ∀k,e2.adr k=e1.adr (look ρ k):=fun k=>by rw [he2];rfl
    have hEblk : ∀k b,e2.blk k b↔e1.blk (look ρ k) b:=fun k b=>by unfold Env.blk;rw [hEadr]
    have hrn:Rn (look ρ) (List.range ρ.length) e1 e2:=by
     subst he2
     exact⟨fun _ hk h=>⟨List.mem_range.1 hk,h⟩,fun _=>rfl,fun _=>rfl,fun _=>rfl,rfl⟩
    have hEfz:e2.fz=e1.fz:=by rw [he2];rfl
    refine⟨hs'.defers,v,hv1,x,hQ,v,e2,rfl,?_,?_,⟨fun b hb=>hs'.ez.sup b (by rw [←hEfz];exact hb),fun k b hk _ hb hf=>absurd (show e1.fz b by rw [←hEfz];exact hf) (hs'.ez.nf (look ρ k) b ((hElv k).1 hk).1.2 ((hEblk k b).1 hb))⟩,?_,?_,?_,?_,?_,?_⟩
    ·exact R_rn hrn _ _ hvin (same_R _ _ _ hsame hv2)
    ·refine⟨fun k hk=>(hEon k).2 ⟨(hst k hk).1,by rw [(hst k hk).2];exact (hroot k hk).1⟩,fun k hk=>?_,fun k hk=>?_,fun k hk=>?_,fun b hb=>by rw [hEfz];exact hs'.ez.sub b hb⟩
     ·rw [hEadr,(hst k hk).2];exact (hroot k hk).2.1
     ·rw [he2];show e1.cap (look ρ k)=_;rw [(hst k hk).2];exact (hroot k hk).2.2.1
     ·rw [he2];show e1.len (look ρ k)=_;rw [(hst k hk).2];exact (hroot k hk).2.2.2
    ·intro k o hk
     have hmem:=get_mem hk
     obtain⟨⟨h4,h5⟩,h6⟩:=hob1 _ hmem
     cases hg:goneB (some o) with
     | true=>
       have ho:o=.gone :=by cases o<;>first | rfl | (simp [goneB] at hg)
       subst ho
       have hk0:k<n0:=by simpa [goneB] using h6
       refine⟨by unfold OR;trivial,(hEon k).2 ⟨h4,by rw [hlow k hk0];exact (hroot k ((hon k).2 hk0)).1⟩,fun hh=>by cases hh⟩
     | false=>
       obtain⟨y,hy,hyo⟩:=hob2 _ (noGone_mem hmem hg)
       obtain⟨g6,g7,g8⟩:=hs'.ob _ _ hy
       exact⟨OR_rn hrn h5 (same_O hyo g6),(hEon k).2 ⟨h4,g7⟩,fun hgn=>(hElv k).2 ⟨⟨h4,g8 (by rw [same_gn hyo,rnO_gn];exact hgn)⟩,by rw [hk];exact hg⟩⟩
    ·intro k hk
     by_cases hkH:k<n0
     ·exact .inl ((hon k).2 hkH)
     ·exact .inr ⟨Nat.le_of_not_lt hkH,hfull k ((hEon k).1 hk).1⟩
    ·intro k hk
     obtain⟨⟨hk1,hk2⟩,hk3⟩:=(hElv k).1 hk
     by_cases hkH:k<n0
     ·exact .inl ((hlv k).2 hkH)
     ·refine .inr ⟨fun h=>hkH ((hon k).1 h),(hEon k).2 ⟨hk1,hs'.lo _ hk2⟩,fun b hb=>?_⟩
      have hb:=(hEblk k b).1 hb
      refine⟨(hs'.bd (look ρ k) b hk2 hb).2,?_⟩
      rcases (hs'.bd (look ρ k) b hk2 hb).1 with h | h
      ·exact .inl h
      ·refine .inr ?_
       obtain⟨j,hj,y,hy,hyb⟩:=h
       obtain⟨q1,q2, -, -⟩:=hroot j hj
       have hj0:=(hon j).1 hj
       refine⟨j,(hlv j).2 hj0,fun hjl=>?_,y,hy,hyb⟩
       obtain⟨⟨-,hjl⟩,hjg⟩:=(hElv j).1 hjl
       rw [(hst j hj).2] at hjl
       have h3:=hs'.dis (look ρ k) j b hk2 hjl hb ⟨y,by rw [q2];exact hy,hyb⟩
       have h4:=(hidx k (Nat.le_of_not_lt hkH) hk1).1
       rw [h3] at h4
       have h5:=hmv j h4
       rw [hjg,show Nat.blt j n0=true from by rw [Nat.blt_eq];exact hj0] at h5
       cases h5
    ·intro k hk
     have hk0:=(hlv k).1 hk
     have hkr:k<ρ.length:=by omega
     obtain⟨o,ho⟩:=Option.isSome_iff_exists.1 (hfull k hkr)
     cases hg:goneB (some o) with
     | true=>cases o with
       | gone=>exact .inr ho
       | _=>simp [goneB] at hg
     | false=>
       obtain⟨y,hy,hyo⟩:=hob2 _ (noGone_mem (get_mem ho) hg)
       cases hgn:o.gn with
       | true=>cases o with
         | gone=>exact .inr ho
         | _=>cases hgn
       | false=>exact .inl ((hElv k).2 ⟨⟨hkr,(hs'.ob _ _ hy).2.2 (by rw [same_gn hyo,rnO_gn];exact hgn)⟩,by rw [ho];exact hg⟩)
    ·intro k k' b hk hk0 hk' hk0' hb hb'
     obtain⟨⟨g1,g2⟩, -⟩:=(hElv k).1 hk
     obtain⟨⟨g3,g4⟩, -⟩:=(hElv k').1 hk'
     have a1:n0≤k:=Nat.le_of_not_lt fun h=>hk0 ((hlv k).2 h)
     have a2:n0≤k':=Nat.le_of_not_lt fun h=>hk0' ((hlv k').2 h)
     have h3:=hs'.dis _ _ b g2 g4 ((hEblk k b).1 hb) ((hEblk k' b).1 hb')
     rw [hhi k a1,hhi k' a2] at h3
     have:=look_inj hnd (hidx k a1 g1).2 (hidx k' a2 g3).2 h3
     omega
    ·refine⟨hs'.low.os,hs'.low.tape,hs'.low.output,hs'.low.size,fun b hb hnM=>hs'.low.block b hb fun ⟨k,hk,hkb⟩=>hnM ⟨k,(hlv k).2 ((hon k).1 hk),hfull k (hst k hk).1,hkb⟩⟩
   ·exact hq.elim
  ·exact hq.elim
 ·cases hs
end
end Ax
end Go.Proofs.YtjjonmhpgkahoaaGreatDoor
