/-
  Ways to lay a word: walked.
  Conditions: none.
-/
import Derived.Test.YtjjonmhpgkahoaaGreatDoorE25
set_option linter.unusedSimpArgs false
set_option linter.unusedVariables false
namespace Go.Proofs.YtjjonmhpgkahoaaGreatDoor
namespace Ax
set_option maxRecDepth 100000
set_option maxHeartbeats 2000000
structure WyP (q w:List UInt8):Prop where
 n:w.length≤12
 q:(q.length:Int)≤1048576
 s : ∀c∈w,97≤c.toNat∧c.toNat≤122
def upc (w:List UInt8):List UInt8:=toSl [((w.getD 0 0).toNat : Int)-97+65]
def wyA (q w:List UInt8):List (List UInt8):=waysL (takeS q [63]) (w.drop 1)
def wyB (q w:List UInt8):List (List UInt8):=waysL (takeS q (w.take 1)) (w.drop 1)
def wy1 (q w:List UInt8):List (List UInt8):=if takeB q [63] then (wyA q w).map (upc w++·) else []
def wy2 (q w:List UInt8):List (List UInt8):=if takeB q (w.take 1) then (wyB q w).map (w.take 1++·) else []
section
variable {q w:List UInt8} {k:Int} {m:Nat}
theorem upc_c {c:UInt8} {r:List UInt8} (h:97≤c.toNat∧c.toNat≤122):upc (c::r)=[c-97+65]:=by
 show [UInt8.ofNat ((c.toNat:Int)-97+65).toNat]=_
 refine congrArg (fun x=>[x]) (UInt8.toNat_inj.1 ?_)
 rw [UInt8.toNat_ofNat',UInt8.toNat_add,UInt8.toNat_sub_of_le _ _ (by rw [UInt8.le_iff_toNat_le];exact h.1)]
 show ((c.toNat:Int)-97+65).toNat % 256=(c.toNat-97+65)%256
 omega
theorem ways_c (h:WyP q w) (h0:w≠[]):waysL q w=wy1 q w++wy2 q w:=by
 cases w with
 | nil=>exact absurd rfl h0
 | cons c r=>
   have e:=upc_c (r:=r) (h.s c (List.mem_cons_self ..))
   rw [waysL]
   unfold wy1 wy2 wyA wyB
   rw [e]
   rfl
theorem WyP.A (h:WyP q w):WyP (takeS q [63]) (w.drop 1):=⟨by rw [List.length_drop];have:=h.n;omega,by have:=takeS_le q 63;have:=h.q;omega,fun c hc=>h.s c (List.mem_of_mem_drop hc)⟩
theorem WyP.B (h:WyP q w) (h0:w≠[]):WyP (takeS q (w.take 1)) (w.drop 1):=by
 cases w with
 | nil=>exact absurd rfl h0
 | cons c r=>exact⟨by rw [List.length_drop];have:=h.n;omega,by have:=takeS_le q c;have:=h.q;show ((takeS q [c]).length : Int)≤_;omega,fun c hc=>h.s c (List.mem_of_mem_drop hc)⟩
theorem ways_n {p r:List UInt8} (h:r.length≤12):(waysL p r).length ≤4096:=Nat.le_trans (ways_len r p) (Nat.pow_le_pow_right (by decide) h)
theorem ways_e {p r:List UInt8} (h:r.length≤12) (k:Nat):((waysL p r).getD k []).length ≤12:=by
 rw [List.getD_eq_getElem?_getD]
 cases hk:(waysL p r)[k]? with
 | none=>exact Nat.zero_le _
 | some x=>rw [show ((some x).getD [])=x from rfl,ways_each r p x (List.mem_of_getElem? hk)];exact h
theorem map_step {f:List UInt8→List UInt8} {l:List (List UInt8)} (h0:0≤k) (h:k<l.length):(l.take (k+1).toNat).map f=(l.take k.toNat).map f++[f (l.getD k.toNat [])]:=by
 rw [tk h0 h [],List.map_append];rfl
theorem ne_of (h:std.eqS w []=false):w≠[]:=beq_eq_false_iff_ne.1 h
theorem pos_w (h:w≠[]):0<w.length:=List.length_pos_iff.2 h
theorem wl1 (h:w≠[]):std.leP 1 (std.lenS w):=by show (1:Int)≤(w.length:Int);have:=pos_w h;omega
theorem wl0 (h:w≠[]):std.inL 0 (std.lenS w):=⟨Int.le_refl 0,by show (0:Int)<(w.length:Int);have:=pos_w h;omega⟩
theorem wq (h:WyP q w):std.ltM (std.lenS q):=by show (q.length:Int)≤274877906944;have:=h.q;omega
theorem wm (h:w.length<m+1) (h0:w≠[]):(w.drop 1).length < m:=by rw [List.length_drop];have:=pos_w h0;omega
theorem wc (h:WyP q w) (h0:w≠[]):97≤(w.getD 0 0).toNat ∧(w.getD 0 0).toNat ≤122:=by
 cases w with
 | nil=>exact absurd rfl h0
 | cons c r=>exact h.s c (List.mem_cons_self ..)
theorem wu1 (h:WyP q w) (h0:w≠[]):std.inK .u8 (std.sub (std.byte w 0) 97):=by
 have:=wc h h0
 show (0:Int)≤((w.getD 0 0).toNat : Int)-97∧((w.getD 0 0).toNat : Int)-97≤255
 omega
theorem wu2 (h:WyP q w) (h0:w≠[]):std.inK .u8 (std.add (std.sub (std.byte w 0) 97) 65):=by
 have:=wc h h0
 show (0:Int)≤((w.getD 0 0).toNat : Int)-97+65∧((w.getD 0 0).toNat : Int)-97+65≤255
 omega
theorem wa1 (h:WyP q w):std.inK .i64 (std.add (std.lenS (std.toS [std.add (std.sub (std.byte w 0) 97) 65])) (std.lenS (std.get [] (wyA q w) k))):=by
 have:=ways_e (p:=takeS q [63]) h.A.n k.toNat
 show (-9223372036854775808:Int)≤((1:Nat):Int)+(((wyA q w).getD k.toNat []).length : Int)∧((1:Nat):Int)+(((wyA q w).getD k.toNat []).length : Int)≤9223372036854775807
 have : ((wyA q w).getD k.toNat []).length ≤12:=this
 omega
theorem wb1 (h:WyP q w) (h0:w≠[]):std.inK .i64 (std.add (std.lenS (std.tak w 1)) (std.lenS (std.get [] (wyB q w) k))):=by
 have:=ways_e (p:=takeS q (w.take 1)) (h.B h0).n k.toNat
 have h1:((wyB q w).getD k.toNat []).length ≤12:=this
 have h2:(w.take 1).length ≤1:=by rw [List.length_take];omega
 show (-9223372036854775808:Int)≤((w.take 1).length : Int)+(((wyB q w).getD k.toNat []).length : Int)∧((w.take 1).length : Int)+(((wyB q w).getD k.toNat []).length : Int)≤9223372036854775807
 omega
theorem wk (h:WyP q w) (hk:k<(wyA q w).length) (h0:0≤k):std.inK .i64 (std.add k 1):=by
 have h1:(wyA q w).length ≤4096:=ways_n h.A.n
 exact in64 (by show _≤k+1∧k+1≤_;omega)
theorem wk2 (h:WyP q w) (hw:w≠[]) (hk:k<(wyB q w).length) (h0:0≤k):std.inK .i64 (std.add k 1):=by
 have h1:(wyB q w).length ≤4096:=ways_n (h.B hw).n
 exact in64 (by show _≤k+1∧k+1≤_;omega)
theorem wy1_n (h:WyP q w):(wy1 q w).length ≤4096:=by
 unfold wy1
 split
 ·rw [List.length_map];exact ways_n h.A.n
 ·exact Nat.zero_le _
variable {L:List (List UInt8)} {x:List UInt8}
theorem wx1 (h:WyP q w) (e:L=((wyA q w).take k.toNat).map (upc w++·)):std.ltM (std.add (std.len L) (std.len [x])):=by
 have h1:(wyA q w).length ≤4096:=ways_n h.A.n
 have h2:L.length≤4096:=by rw [e,List.length_map,List.length_take];omega
 show (L.length:Int)+1≤274877906944
 omega
theorem wx2 (h:WyP q w) (hw:w≠[]) (e:L=wy1 q w++((wyB q w).take k.toNat).map (w.take 1++·)):std.ltM (std.add (std.len L) (std.len [x])):=by
 have h1:(wyB q w).length ≤4096:=ways_n (h.B hw).n
 have h3:=wy1_n h
 have h2:L.length≤8192:=by rw [e,List.length_append,List.length_map,List.length_take];omega
 show (L.length:Int)+1≤274877906944
 omega
theorem wi1 (h0:0≤k) (hk:k<(wyA q w).length) (e:L=((wyA q w).take k.toNat).map (upc w++·)):0≤k+1∧k+1≤((wyA q w).length : Int)∧L++[upc w++(wyA q w).getD k.toNat []]=((wyA q w).take (k+1).toNat).map (upc w++·):=
 ⟨by omega,by omega,by rw [map_step h0 hk,e]⟩
theorem wi2 (h0:0≤k) (hk:k<(wyB q w).length) (e:L=wy1 q w++((wyB q w).take k.toNat).map (w.take 1++·)):0≤k+1∧k+1≤((wyB q w).length : Int)∧L++[w.take 1++(wyB q w).getD k.toNat []]=wy1 q w++((wyB q w).take (k+1).toNat).map (w.take 1++·):=
 ⟨by omega,by omega,by rw [map_step h0 hk,e,List.append_assoc]⟩
theorem we1 (ha:takeB q [63]=true) (hk:((wyA q w).length : Int)≤k) (e:L=((wyA q w).take k.toNat).map (upc w++·)):L=wy1 q w:=by
 rw [e,tk_all hk]
 exact (if_pos ha).symm
theorem we2 (h:WyP q w) (hw:w≠[]) (hb:takeB q (w.take 1)=true) (hk:((wyB q w).length : Int)≤k) (e:L=wy1 q w++((wyB q w).take k.toNat).map (w.take 1++·)):L=waysL q w:=by
 rw [ways_c h hw,e,tk_all hk]
 exact congrArg (wy1 q w++·) (if_pos hb).symm
theorem we3 (h:WyP q w) (hw:w≠[]) (hb:takeB q (w.take 1)=false) (e:L=wy1 q w):L=waysL q w:=by
 rw [ways_c h hw,e,show wy2 q w=[] from if_neg (by rw [hb];decide),List.append_nil]
theorem we0 (ha:takeB q [63]=false) : []=wy1 q w:=(if_neg (by rw [ha];decide)).symm
theorem wi0 (e:L=wy1 q w):(0:Int)≤0∧(0:Int)≤((wyB q w).length : Int)∧L=wy1 q w++((wyB q w).take (Int.toNat 0)).map (w.take 1++·):=
 ⟨Int.le_refl 0,Int.natCast_nonneg _,by rw [e];exact (List.append_nil _).symm⟩
end
def ltL (w:List UInt8) (m:Nat):Prop:=w.length<m
def sp_s_l03Ways (m:Nat) (p:Pr):FSpec:=fsp (ac aS (a1 aS)) (fun (q,w)=>ltL w m∧WyP q w) (fun (q,w)=>.osl 0) (fun (q,w)=>[(0,.own [.s] (waysL q w) 9)])
theorem ok_s_l03Ways : ∀m:Nat,FOk Tryz.prog 201 (sp_s_l03Ways m std):=by
 intro m
 induction m with
 | zero=>exact FOk.no Tryz.func201 rfl rfl fun a h=>absurd h.1 (Nat.not_lt_zero _)
 | succ m ih=>
   refine FOk.go (c:=cx std [(126,sp_s_l03Take std),(201,sp_s_l03Ways m std)] [] 0) (cx_ok (.cons ok_s_l03Take (.cons ih .nil)) .nil) mixed Tryz.func201 rfl rfl rfl (by kernel_rfl) ?_
   rintro ⟨q,w⟩ hp
   dsimp only at hp
   refine⟨rfl,?_⟩
   unfold sp_s_l03Take sp_s_l03Ways
   obtain⟨H,hH⟩ : ∃H:Hd (Int×List (List UInt8)),H=⟨fun (k,L)=>0≤k∧k≤(wyA q w).length ∧L=((wyA q w).take k.toNat).map (upc w++·),fun (k,L)=>((wyA q w).length - k).toNat,(· < ·)⟩:=⟨_,rfl⟩
   have hl : ∀m n,H.lt m n→m<n:=by subst hH;exact fun _ _ h=>h
   obtain⟨H2,hH2⟩ : ∃H:Hd (Int×List (List UInt8)),H=⟨fun (k,L)=>0≤k∧k≤(wyB q w).length ∧L=wy1 q w++((wyB q w).take k.toNat).map (w.take 1++·),fun (k,L)=>((wyB q w).length - k).toNat,(· < ·)⟩:=⟨_,rfl⟩
   have hl2 : ∀m n,H2.lt m n→m<n:=by subst hH2;exact fun _ _ h=>h
   generalize hP:std=p,hB0:waysL=B0,hB1:takeS=B1,hB2:takeB=B2,hB3:ltL=B3
   cbv
   repeat' first
    | (refine fun (_:Unit)=>?_;cbv)
    | (refine Or.inr ⟨29,[],[.s 10 (.i .i64),.o 0 [.s]],[.s 5],[],H,rfl,hl,?_,fun ((k,L):Int×List (List UInt8)) hk=>?_⟩<;>cbv)
    | (refine Or.inr ⟨60,[],[.s 12 (.i .i64),.o 0 [.s]],[.s 5],[],H2,rfl,hl2,?_,fun ((k,L):Int×List (List UInt8)) hk2=>?_⟩<;>cbv)
    | (refine aI2 (fun h=>?_) (fun h=>?_)<;>cbv)
    | (refine aI2 ?_ ?_)
   all_goals subst hP hB0 hB1 hB2 hB3 hH hH2
   all_goals clear hl
   all_goals try dsimp only at hk
   all_goals clear hl2
   all_goals try dsimp only at hk2
   all_goals try dsimp only
   all_goals try exact fin
   ·rw [show w=[] from beq_iff_eq.1 h,waysL]
   all_goals have hw:w≠[]:=ne_of ‹_›
   all_goals have hP:=hp.2
   ·exact wl0 hw
   ·exact wq hP
   ·exact wl1 hw
   ·exact wm hp.1 hw
   ·exact hP.A
   ·exact wu1 hP hw
   ·exact wu2 hP hw
   ·exact wa1 hP
   ·exact wx1 hP hk.2.2
   ·exact wk hP (lt_of ‹_›) hk.1
   ·exact wi1 hk.1 (lt_of ‹_›) hk.2.2
   ·have h1:k<((wyA q w).length : Int):=lt_of ‹_›
    show (((wyA q w).length : Int)-(k+1)).toNat < (((wyA q w).length : Int)-k).toNat
    omega
   ·exact wl1 hw
   ·exact wq hP
   ·exact wl1 hw
   ·exact wm hp.1 hw
   ·exact hP.B hw
   ·exact wi0 (we1 ‹_› (ge_of ‹_›) hk.2.2)
   ·exact wl1 hw
   ·exact wb1 hP hw
   ·exact wx2 hP hw hk2.2.2
   ·exact wk2 hP hw (lt_of ‹_›) hk2.1
   ·exact wi2 hk2.1 (lt_of ‹_›) hk2.2.2
   ·have h1:k<((wyB q w).length : Int):=lt_of ‹_›
    show (((wyB q w).length : Int)-(k+1)).toNat < (((wyB q w).length : Int)-k).toNat
    omega
   ·exact congrArg (fun z=>Ob.own [.s] z 9) (we2 hP hw ‹_› (ge_of ‹_›) hk2.2.2)
   ·exact congrArg (fun z=>Ob.own [.s] z 9) (we3 hP hw ‹_› (we1 ‹_› (ge_of ‹_›) hk.2.2))
   ·exact wl1 hw
   ·exact wq hP
   ·exact wl1 hw
   ·exact wm hp.1 hw
   ·exact hP.B hw
   ·exact wi0 (we0 ‹_›)
   ·exact wl1 hw
   ·exact wb1 hP hw
   ·exact wx2 hP hw hk2.2.2
   ·exact wk2 hP hw (lt_of ‹_›) hk2.1
   ·exact wi2 hk2.1 (lt_of ‹_›) hk2.2.2
   ·have h1:k<((wyB q w).length : Int):=lt_of ‹_›
    show (((wyB q w).length : Int)-(k+1)).toNat < (((wyB q w).length : Int)-k).toNat
    omega
   ·exact congrArg (fun z=>Ob.own [.s] z 9) (we2 hP hw ‹_› (ge_of ‹_›) hk2.2.2)
   ·exact congrArg (fun z=>Ob.own [.s] z 9) (we3 hP hw ‹_› (we0 ‹_›))
def sp_s_l03Ways_c (p:Pr):=sp_s_l03Ways 13 p
theorem ok_s_l03Ways_c:FOk Tryz.prog 201 (sp_s_l03Ways_c std):=ok_s_l03Ways 13
end Ax
end Go.Proofs.YtjjonmhpgkahoaaGreatDoor
