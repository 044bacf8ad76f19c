/-
  What a function is given, told by plain things: numbers, boards, plays, tiles, games; The laws package: the sizes of plays, of boards, of games; Small functions of games; Words, tiles, racks, lexicons of the spec package; Racks, words, lexicons of the spec package; Lexicons, boards of the spec package.
  Conditions: none.
-/
import Derived.Test.YtjjonmhpgkahoaaGreatDoorS09
import Derived.Test.YtjjonmhpgkahoaaGreatDoorS10
set_option linter.unusedSimpArgs false
set_option linter.unusedVariables false
namespace Go.Proofs.YtjjonmhpgkahoaaGreatDoor
namespace Ax
def tyI (t k:Nat):Option (FuncId×String):=
 if Nat.beq t 290 then (if Nat.beq k 27 then some (364,"loop.example/g00911/impl.at") else if Nat.beq k 30 then some (365,"loop.example/g00911/impl.cross") else none)
 else if Nat.beq t 289 then (if Nat.beq k 27 then some (362,"loop.example/g00911/impl.at") else if Nat.beq k 30 then some (363,"loop.example/g00911/impl.cross") else none)
 else none
theorem tyI_ok (t:TypeId) (k:Nat) (g:FuncId) (s:String) (h:tyI t k=some (g,s)) (w:World):(nilAhead (Tryz.prog.types.size+Made.depth) t (.agg #[]) s).run Tryz.prog w=.ok (some false) w∧(method (Tryz.prog.types.size+Made.depth) t (.agg #[]) s).run Tryz.prog w=.ok (g,.agg #[]) w:=by
 unfold tyI at h
 split at h
 ·rename_i ht
  have ht:=Nat.eq_of_beq_eq_true ht
  subst ht
  split at h
  ·cases h;exact⟨by kernel_rfl,by kernel_rfl⟩
  ·split at h
   ·cases h;exact⟨by kernel_rfl,by kernel_rfl⟩
   ·cases h
 ·split at h
  ·rename_i ht
   have ht:=Nat.eq_of_beq_eq_true ht
   subst ht
   split at h
   ·cases h;exact⟨by kernel_rfl,by kernel_rfl⟩
   ·split at h
    ·cases h;exact⟨by kernel_rfl,by kernel_rfl⟩
    ·cases h
  ·cases h
abbrev cx (p:Pr) (F:List (FuncId×FSpec)) (M:List (FuncId×MSpec)) (n0:Nat):Cx:=⟨p,tyT,fun f=>assoc f F,fun f=>assoc f M,n0,tyC,tyI,fun _=>none,none,fun _=>false,fun _=>[]⟩
theorem cx_ok {F:List (FuncId×FSpec)} {M:List (FuncId×MSpec)} {n0:Nat} (h:FTok Tryz.prog F) (k:MTok Tryz.prog M):CxOk Tryz.prog (cx std F M n0):=⟨rfl,ty_ok,h.get,k.get,cm_ok,(fun _ _ h=>by cases h),(fun _ h=>by cases h),tyI_ok⟩
abbrev cxN (p:Pr) (F:List (FuncId×FSpec)) (M:List (FuncId×MSpec)) (N:List (FuncId×NSpec)) (n0:Nat) (U:Option Uf) (Z:List Nat):Cx:=⟨p,tyT,fun f=>assoc f F,fun f=>assoc f M,n0,tyC,tyI,fun f=>assocN f N,U,fun f=>Z.contains f,fun _=>[]⟩
theorem cxN_ok {F:List (FuncId×FSpec)} {M:List (FuncId×MSpec)} {N:List (FuncId×NSpec)} {n0:Nat} {U:Bool} {Z:List Nat} (h:FTok Tryz.prog F) (k:MTok Tryz.prog M) (l:NTok Tryz.prog N):CxOk Tryz.prog (cxN std F M N n0 (if U then some stdU else none) Z):=⟨rfl,ty_ok,h.get,k.get,cm_ok,l.get,fun q hq=>by cases U<;>cases hq<;>rfl,tyI_ok⟩
theorem CxOk.k {P:Program} {c:Cx} (h:CxOk P c) (K:Nat→List Nat):CxOk P { c with K:=K }:=⟨h.p,h.T,h.F,h.M,h.C,h.N,h.U,h.I⟩
theorem mixed:Tryz.prog.follows .mixedOrders =true:=by kernel_rfl
def bdK (b:Bd):List PV:=[.i .i64 b.size,.s b.prem,.s b.cells]
def plK (q:Pl):List PV:=[.i .i64 q.row,.i .i64 q.col,.b q.down,.s q.word]
def tsK (t:TS) (v c:PV):List PV:=[.s t.letters,v,c,.i .i64 t.blanks]
def gmK (g:Gm) (v c l r s k:PV):List PV:=
 [.s g.ts.letters,v,c,.i .i64 g.ts.blanks,l,.i .i64 g.bd0.size,.s g.bd0.prem,.s g.bd0.cells,.i .i64 g.secs,.i .i64 g.rule,.i .i64 g.bd.size,.s g.bd.prem,.s g.bd.cells,.s g.bag,r,s,k,.i .i64 g.player,.i .i64 g.zeros,
   .i .i64 g.last.kind,.i .i64 g.last.player,.i .i64 g.last.play.row,.i .i64 g.last.play.col,.b g.last.play.down,.s g.last.play.word,.s g.last.before,.s g.last.drawn,.i .i64 g.last.score,.i .i64 g.last.zeros,.b g.over]
def gmR (g:Gm):List PV:=gmK g (.rsl [.i .i64] g.ts.values) (.rsl [.i .i64] g.ts.counts) (.rsl [.s] g.lex) (.rsl [.s] g.racks) (.rsl [.i .i64] g.scores) (.rsl [.i .i64] g.clocks)
def bdOf:List PV→Option Bd
 | [.i .i64 a,.s b,.s c]=>some ⟨a,b,c⟩
 | _=>none
def plOf:List PV→Option Pl
 | [.i .i64 a,.i .i64 b,.b c,.s d]=>some ⟨a,b,c,d⟩
 | _=>none
def tsOf:List PV→Option TS
 | [.s a,.rsl [.i .i64] v,.rsl [.i .i64] c,.i .i64 d]=>some ⟨a,v,c,d⟩
 | _=>none
def gmO:List PV→Option (Gm×List PV)
 | [.s a1,v,c,.i .i64 a2,lx,.i .i64 a3,.s a4,.s a5,.i .i64 a6,.i .i64 a7,.i .i64 a8,.s a9,.s b1,.s b2,rk,sc,ck,.i .i64 b3,.i .i64 b4,.i .i64 b5,.i .i64 b6,.i .i64 b7,.i .i64 b8,.b b9,.s c1,.s c2,.s c3,.i .i64 c4,.i .i64 c5,.b c6]=>
   some (⟨⟨a1,[],[],a2⟩,[],⟨a3,a4,a5⟩,a6,a7,⟨a8,a9,b1⟩,b2,[],[],[],b3,b4,⟨b5,b6,⟨b7,b8,b9,c1⟩,c2,c3,c4,c5⟩,c6⟩,[v,c,lx,rk,sc,ck])
 | _=>none
def fillG (g:Gm) (v c:List Int) (l r:List (List UInt8)) (s k:List Int):Gm:={ g with ts:={ g.ts with values:=v,counts:=c },lex:=l,racks:=r,scores:=s,clocks:=k }
def gmOf (l:List PV):Option Gm:=match gmO l with
 | some (g,[.rsl [.i .i64] v,.rsl [.i .i64] c,.rsl [.s] lx,.rsl [.s] rk,.rsl [.i .i64] sc,.rsl [.i .i64] ck])=>some (fillG g v c lx rk sc ck)
 | _=>none
theorem bdOf_eq {l:List PV} {b:Bd} (h:bdOf l=some b):l=bdK b:=by
 unfold bdOf at h
 split at h
 ·cases h;rfl
 ·cases h
theorem plOf_eq {l:List PV} {b:Pl} (h:plOf l=some b):l=plK b:=by
 unfold plOf at h
 split at h
 ·cases h;rfl
 ·cases h
theorem tsOf_eq {l:List PV} {t:TS} (h:tsOf l=some t):l=tsK t (.rsl [.i .i64] t.values) (.rsl [.i .i64] t.counts):=by
 unfold tsOf at h
 split at h
 ·cases h;rfl
 ·cases h
theorem gmO_eq {l:List PV} {g:Gm} {x:List PV} (h:gmO l=some (g,x)) : ∃v c lx rk sc ck,x=[v,c,lx,rk,sc,ck]∧l=gmK g v c lx rk sc ck:=by
 unfold gmO at h
 split at h
 ·cases h;exact⟨_,_,_,_,_,_,rfl,rfl⟩
 ·cases h
theorem gmOf_eq {l:List PV} {g:Gm} (h:gmOf l=some g):l=gmR g:=by
 unfold gmOf at h
 split at h
 ·rename_i hg
  obtain⟨v,c,lx,rk,sc,ck,hx,rfl⟩:=gmO_eq hg
  cases hx
  cases h
  rfl
 ·cases h
@[simp] theorem eta_ts (t:TS):TS.mk t.letters t.values t.counts t.blanks=t:=rfl
@[simp] theorem eta_bd (b:Bd):Bd.mk b.size b.prem b.cells=b:=rfl
@[simp] theorem eta_pl (q:Pl):Pl.mk q.row q.col q.down q.word=q:=rfl
@[simp] theorem eta_la (x:La):La.mk x.kind x.player x.play x.before x.drawn x.score x.zeros=x:=rfl
def aBd:Args Bd:=⟨bdOf,bdK,fun _ _=>bdOf_eq⟩
def aPl:Args Pl:=⟨plOf,plK,fun _ _=>plOf_eq⟩
def aTs:Args TS:=⟨tsOf,fun t=>tsK t (.rsl [.i .i64] t.values) (.rsl [.i .i64] t.counts),fun _ _=>tsOf_eq⟩
def aGm:Args Gm:=⟨gmOf,gmR,fun _ _=>gmOf_eq⟩
def aLex:Args (List (List UInt8)):=a1 aW
def gmH (g:Gm):AH:=[(0,.cells (gmK g (.osl 1) (.osl 2) (.osl 3) (.osl 4) (.osl 5) (.osl 6)) 41),(1,.own [.i .i64] g.ts.values 2),(2,.own [.i .i64] g.ts.counts 2),(3,.own [.s] g.lex 9),(4,.own [.s] g.racks 9),
 (5,.own [.i .i64] g.scores 2),(6,.own [.i .i64] g.clocks 2)]
def hN:Nat×Ob→Option (Nat×List Int)
 | (k,.own [.i .i64] L t)=>if Nat.beq t 2 then some (k,L) else none
 | _=>none
def hW:Nat×Ob→Option (Nat×List (List UInt8))
 | (k,.own [.s] L t)=>if Nat.beq t 9 then some (k,L) else none
 | _=>none
theorem hN_ok {x:Nat×Ob} {k:Nat} {L:List Int} (h:hN x=some (k,L)):x=(k,.own [.i .i64] L 2):=by
 unfold hN at h
 split at h
 ·split at h
  ·rename_i ht
   cases h
   rw [Nat.eq_of_beq_eq_true ht]
  ·cases h
 ·cases h
theorem hW_ok {x:Nat×Ob} {k:Nat} {L:List (List UInt8)} (h:hW x=some (k,L)):x=(k,.own [.s] L 9):=by
 unfold hW at h
 split at h
 ·split at h
  ·rename_i ht
   cases h
   rw [Nat.eq_of_beq_eq_true ht]
  ·cases h
 ·cases h
def hG:Nat×Ob→Option (Gm×List PV)
 | (0,.cells l t)=>if Nat.beq t 41 then gmO l else none
 | _=>none
theorem hG_ok {x:Nat×Ob} {g:Gm} {y:List PV} (h:hG x=some (g,y)) : ∃v c lx rk sc ck,y=[v,c,lx,rk,sc,ck]∧x=(0,.cells (gmK g v c lx rk sc ck) 41):=by
 unfold hG at h
 split at h
 ·split at h
  ·rename_i ht
   obtain⟨v,c,lx,rk,sc,ck,h1,h2⟩:=gmO_eq h
   exact⟨v,c,lx,rk,sc,ck,h1,by rw [h2,Nat.eq_of_beq_eq_true ht]⟩
  ·cases h
 ·cases h
def gmHd:AH→Option Gm
 | [x0,x1,x2,x3,x4,x5,x6]=>match hG x0,hN x1,hN x2,hW x3,hW x4,hN x5,hN x6 with
   | some (g,[.osl 1,.osl 2,.osl 3,.osl 4,.osl 5,.osl 6]),some (1,v),some (2,c),some (3,l),some (4,rk),some (5,sc),some (6,ck)=>some (fillG g v c l rk sc ck)
   | _,_,_,_,_,_,_=>none
 | _=>none
theorem gmHd_ok {H:AH} {g:Gm} (h:gmHd H=some g):H=gmH g:=by
 unfold gmHd at h
 split at h
 ·split at h
  ·rename_i h0 h1 h2 h3 h4 h5 h6
   obtain⟨v,c,lx,rk,sc,ck,q1,rfl⟩:=hG_ok h0
   cases q1
   cases h
   rw [hN_ok h1,hN_ok h2,hW_ok h3,hW_ok h4,hN_ok h5,hN_ok h6]
   rfl
  ·cases h
 ·cases h
def mG {β:Type} (B:Args β):MArgs (Gm×β):=⟨fun H l=>match l with
 | .ptr 0 0::r=>both' (gmHd H) (B.rd r)
 | _=>none,fun a=>gmH a.1,fun a=>.ptr 0 0::B.enc a.2,fun H l a h=>by
   split at h
   ·obtain⟨h1,h2⟩:=both'_ok h
    exact⟨gmHd_ok h1,by rw [B.ok _ _ h2]⟩
   ·cases h⟩
def gmH6 (g:Gm):AH:=[(0,.own [.i .i64] g.ts.values 2),(1,.own [.i .i64] g.ts.counts 2),(2,.own [.s] g.lex 9),(3,.own [.s] g.racks 9),(4,.own [.i .i64] g.scores 2),(5,.own [.i .i64] g.clocks 2)]
def gmO6 (g:Gm):List PV:=gmK g (.osl 0) (.osl 1) (.osl 2) (.osl 3) (.osl 4) (.osl 5)
end Ax
namespace Ax
set_option maxRecDepth 100000
set_option maxHeartbeats 2000000
end Ax
namespace Ax
set_option maxRecDepth 100000
def sp_s_l00Own (p:Pr):FSpec:=fsp (a1 aN) (fun L=>p.ltM (p.len L)) (fun L=>.osl 0) (fun L=>[(0,.own [.i .i64] L 2)])
theorem ok_s_l00Own:FOk Tryz.prog 194 (sp_s_l00Own std):=by
 refine FOk.go (c:=cx std [] [] 0) (cx_ok .nil .nil) mixed Tryz.func194 rfl rfl rfl (by kernel_rfl) ?_
 rintro L hp
 refine⟨rfl,?_⟩
 generalize hP:std=p
 cbv
 repeat' first
  | (refine fun (_:Unit)=>?_;cbv)
  | (refine aI2 (fun h=>?_) (fun h=>?_)<;>cbv)
  | (refine aI2 ?_ ?_)
  | (refine Or.inl (fun (_:Unit)=>?_);cbv)
 all_goals subst hP
 all_goals try exact fin
def sp_s_l18Penalty (p:Pr):FSpec:=fsp (a1 aI) (fun n=>p.leP (-36000) n) (fun n=>.i .i64 (pen n))
theorem ok_s_l18Penalty:FOk Tryz.prog 98 (sp_s_l18Penalty std):=by
 refine FOk.go (c:=cx std [] [] 0) (cx_ok .nil .nil) mixed Tryz.func98 rfl rfl rfl (by kernel_rfl) ?_
 rintro n hp
 refine⟨rfl,?_⟩
 generalize hP:std=p,hB0:pen=B0
 cbv
 repeat' first
  | (refine fun (_:Unit)=>?_;cbv)
  | (refine aI2 (fun h=>?_) (fun h=>?_)<;>cbv)
  | (refine aI2 ?_ ?_)
  | (refine Or.inl (fun (_:Unit)=>?_);cbv)
 all_goals subst hP hB0
 all_goals try exact fin
 ·simp [std] at h;simp [pen,h]
 ·simp [std] at h
  have h1 : ¬0≤n:=by omega
  have h2:(59-n).tdiv 60=(59-n)/60:=Int.tdiv_eq_ediv_of_nonneg (by omega)
  simp [std,pen,h1,h2]
end Ax
namespace Ax
set_option maxRecDepth 100000
def sp_s_l00In (p:Pr):FSpec:=fsp (ac aI (ac aI (a1 aI))) (fun (n,lo,hi)=>True) (fun (n,lo,hi)=>.b (inR n lo hi))
theorem ok_s_l00In:FOk Tryz.prog 89 (sp_s_l00In std):=by
 refine FOk.go (c:=cx std [] [] 0) (cx_ok .nil .nil) mixed Tryz.func89 rfl rfl rfl (by kernel_rfl) ?_
 rintro ⟨n,lo,hi⟩ hp
 dsimp only at hp
 refine⟨rfl,?_⟩
 generalize hP:std=p,hB0:inR=B0
 cbv
 repeat' first
  | (refine fun (_:Unit)=>?_;cbv)
  | (refine aI2 (fun h=>?_) (fun h=>?_)<;>cbv)
  | (refine aI2 ?_ ?_)
  | (refine Or.inl (fun (_:Unit)=>?_);cbv)
 all_goals subst hP hB0
 all_goals try exact fin
 all_goals (simp [std,inR] at * <;>first | lia | (simp_all;done))
def sp_s_l01Small (p:Pr):FSpec:=fsp (a1 aC) (fun n=>True) (fun n=>.b (inR n 97 122))
theorem ok_s_l01Small:FOk Tryz.prog 236 (sp_s_l01Small std):=by
 refine FOk.go (c:=cx std [] [] 0) (cx_ok .nil .nil) mixed Tryz.func236 rfl rfl rfl (by kernel_rfl) ?_
 rintro n hp
 refine⟨rfl,?_⟩
 generalize hP:std=p,hB0:inR=B0
 cbv
 repeat' first
  | (refine fun (_:Unit)=>?_;cbv)
  | (refine aI2 (fun h=>?_) (fun h=>?_)<;>cbv)
  | (refine aI2 ?_ ?_)
  | (refine Or.inl (fun (_:Unit)=>?_);cbv)
 all_goals subst hP hB0
 all_goals try exact fin
 all_goals (simp [std,inR] at * <;>first | lia | (simp_all;done))
def sp_s_IsWord (p:Pr):FSpec:=fsp (a1 aS) (fun s=>p.ltM (p.lenS s)) (fun s=>.b (isWordB s))
theorem ok_s_IsWord:FOk Tryz.prog 293 (sp_s_IsWord std):=by
 refine FOk.go (c:=cx std [(89,sp_s_l00In std),(236,sp_s_l01Small std)] [] 0) (cx_ok (.cons ok_s_l00In (.cons ok_s_l01Small .nil)) .nil) mixed Tryz.func293 rfl rfl rfl (by kernel_rfl) ?_
 rintro s hp
 refine⟨rfl,?_⟩
 unfold sp_s_l00In sp_s_l01Small
 obtain⟨H,hH⟩ : ∃H:Hd (Int),H=⟨fun k=>0≤k∧k≤s.length∧isWordB s=((s.drop k.toNat).all smallB&&inR s.length 1 12),fun k=>(s.length-k).toNat,(· < ·)⟩:=⟨_,rfl⟩
 have hl : ∀m n,H.lt m n→m<n:=by subst hH;exact fun _ _ h=>h
 generalize hP:std=p,hB0:isWordB=B0,hB1:inR=B1
 cbv
 repeat' first
  | (refine fun (_:Unit)=>?_;cbv)
  | (refine Or.inr ⟨4,[],[.s 3 (.i .i64)],[],[],H,rfl,hl,?_,fun (k:Int) hk=>?_⟩<;>cbv)
  | (refine aI2 (fun h=>?_) (fun h=>?_)<;>cbv)
  | (refine aI2 ?_ ?_)
 all_goals subst hP hB0 hB1 hH
 all_goals clear hl
 all_goals try dsimp only at hk
 all_goals try dsimp only
 all_goals try exact fin
 all_goals try first
  | exact⟨Int.le_refl 0,Int.natCast_nonneg _,rfl⟩
  | (simp [isWordB,smallB,inR];done)
  | (obtain⟨q0,q1,e⟩:=hk;refine⟨by simp [std] at *;lia,by simp [std] at *;lia,?_⟩;rw [e,dc q0 (lt_of ‹_›) 0];clear e;simp_all [std,isWordB,smallB,inR];done)
  | (obtain⟨q0,q1,e⟩:=hk;refine⟨by simp [std] at *;lia,by simp [std] at *;lia,?_⟩;rw [e,dc q0 (lt_of ‹_›) 0];clear e;simp_all [std,isWordB,smallB,inR]<;>grind;done)
  | (obtain⟨q0,q1,e⟩:=hk;rw [e,dc q0 (lt_of ‹_›) 0];clear e;simp_all [std,isWordB,smallB,inR];done)
  | (obtain⟨q0,q1,e⟩:=hk;rw [e,dc q0 (lt_of ‹_›) 0];clear e;simp_all [std,isWordB,smallB,inR]<;>grind;done)
  | (obtain⟨q0,q1,e⟩:=hk;rw [e,dn (ge_of ‹_›)];clear e;simp_all [std,isWordB,smallB,inR];done)
  | (obtain⟨q0,q1,e⟩:=hk;rw [e,dn (ge_of ‹_›)];clear e;simp_all [std,isWordB,smallB,inR]<;>grind;done)
def u8 (n:Int):UInt8:=UInt8.ofNat n.toNat
def findI:List UInt8→UInt8→Int
 | [],_=> -1
 | x::r,c=>if x=c then 0 else if findI r c<0 then -1 else findI r c+1
theorem ltM_of {n:Nat} (h:n≤274877906944):std.ltM n:=by show (n:Int)≤274877906944;omega
theorem findI_ge : ∀(l:List UInt8) (c:UInt8), -1≤findI l c
 | [],c=>by simp [findI]
 | x::r,c=>by have:=findI_ge r c;unfold findI;split<;>(try split)<;>omega
theorem findI_K : ∀(l:List UInt8) (c:UInt8),findI l c=if findK l c<l.length then (findK l c:Int) else -1
 | [],c=>rfl
 | x::r,c=>by
   unfold findI findK
   rw [findI_K r c]
   by_cases h:x=c
   ·simp [h]
   ·simp only [h,if_false,beq_iff_eq,List.length_cons]
    by_cases h2:findK r c<r.length
    ·rw [if_pos h2,if_neg (by omega),if_pos (by omega)];omega
    ·rw [if_neg h2,if_pos (by omega),if_neg (by omega)]
theorem valT_I (t:TS) (c:UInt8):valT t c=if findI t.letters c<0 then 0 else t.values.getD (findI t.letters c).toNat 0:=by
 unfold valT
 rw [findI_K]
 by_cases h:findK t.letters c<t.letters.length
 ·rw [if_pos h,if_pos h,if_neg (by omega)];rfl
 ·rw [if_neg h,if_neg h,if_pos (by omega)]
theorem byte_eq {l:List UInt8} {k n:Int} (hn:0≤n∧n≤255):std.eqI (std.byte l k) n=true↔l.getD k.toNat 0=u8 n:=by
 show ((((l.getD k.toNat 0).toNat : Nat):Int)==n)=true↔_
 rw [beq_iff_eq]
 unfold u8
 generalize l.getD k.toNat 0=c
 constructor
 ·rintro rfl
  simp
 ·intro h
  have:=congrArg UInt8.toNat h
  simp only [UInt8.toNat_ofNat'] at this
  omega
theorem byte_ne {l:List UInt8} {k n:Int} (hn:0≤n∧n≤255) (h:std.eqI (std.byte l k) n=false):l.getD k.toNat 0≠u8 n:=fun hh=>by rw [(byte_eq hn).2 hh] at h;cases h
theorem u8_byte (l:List UInt8) (k:Int):u8 (std.byte l k)=l.getD k.toNat 0:=by simp [u8,std]
def sp_s_l02Find (p:Pr):FSpec:=fsp (ac (aP aTs) (a1 aC)) (fun (t,n)=>p.ltM (p.lenS t.letters)∧p.inK .u8 n) (fun (t,n)=>.i .i64 (findI t.letters (u8 n)))
theorem ok_s_l02Find:FOk Tryz.prog 298 (sp_s_l02Find std):=by
 refine FOk.go (c:=cx std [] [] 0) (cx_ok .nil .nil) mixed Tryz.func298 rfl rfl rfl (by kernel_rfl) ?_
 rintro ⟨t,n⟩ hp
 dsimp only at hp
 refine⟨rfl,?_⟩
 obtain⟨H,hH⟩ : ∃H:Hd (Int),H=⟨fun k=>0≤k∧k≤t.letters.length∧findI t.letters (u8 n)=(if findI (t.letters.drop k.toNat) (u8 n)<0 then -1 else k+findI (t.letters.drop k.toNat) (u8 n)),fun k=>(t.letters.length-k).toNat,(· < ·)⟩:=⟨_,rfl⟩
 have hl : ∀m n,H.lt m n→m<n:=by subst hH;exact fun _ _ h=>h
 generalize hP:std=p,hB0:findI=B0
 cbv
 repeat' first
  | (refine fun (_:Unit)=>?_;cbv)
  | (refine Or.inr ⟨6,[],[.s 5 (.i .i64)],[],[],H,rfl,hl,?_,fun (k:Int) hk=>?_⟩<;>cbv)
  | (refine aI2 (fun h=>?_) (fun h=>?_)<;>cbv)
  | (refine aI2 ?_ ?_)
 all_goals subst hP hB0 hH
 all_goals clear hl
 all_goals try dsimp only at hk
 all_goals try dsimp only
 all_goals try exact fin
 ·exact⟨Int.le_refl 0,Int.natCast_nonneg _,by have:=findI_ge t.letters (u8 n);simp only [Int.toNat_zero,List.drop_zero];split<;>omega⟩
 ·obtain⟨q0,q1,e⟩:=hk
  rw [e,dc q0 (lt_of ‹_›) 0]
  simp only [findI,(byte_eq hp.2).1 h,if_true]
  simp
 ·obtain⟨q0,q1,e⟩:=hk
  refine⟨by simp [std] at *;lia,by simp [std] at *;lia,?_⟩
  rw [e,dc q0 (lt_of ‹_›) 0]
  have:=findI_ge (t.letters.drop (k+1).toNat) (u8 n)
  simp only [findI,byte_ne hp.2 h,if_false,sd_add]
  split<;>split<;>omega
 ·obtain⟨q0,q1,e⟩:=hk
  rw [e,dn (ge_of ‹_›)]
  simp [findI]
def sp_s_l02Value (p:Pr):FSpec:=fsp (ac (aP aTs) (a1 aC)) (fun (t,n)=>p.inK .u8 n∧TsOk t) (fun (t,n)=>.i .i64 (valT t (u8 n)))
theorem ok_s_l02Value:FOk Tryz.prog 253 (sp_s_l02Value std):=by
 refine FOk.go (c:=cx std [(298,sp_s_l02Find std)] [] 0) (cx_ok (.cons ok_s_l02Find .nil) .nil) mixed Tryz.func253 rfl rfl rfl (by kernel_rfl) ?_
 rintro ⟨t,n⟩ hp
 dsimp only at hp
 refine⟨rfl,?_⟩
 unfold sp_s_l02Find
 generalize hP:std=p,hB0:findI=B0,hB1:valT=B1,hB2:u8=B2
 cbv
 repeat' first
  | (refine fun (_:Unit)=>?_;cbv)
  | (refine aI2 (fun h=>?_) (fun h=>?_)<;>cbv)
  | (refine aI2 ?_ ?_)
  | (refine Or.inl (fun (_:Unit)=>?_);cbv)
 all_goals subst hP hB0 hB1 hB2
 all_goals try exact fin
 ·exact ltM_of (Nat.le_trans hp.2.len (by decide))
 ·have h1:findI t.letters (u8 n)<0:=lt_of ‹_›
  rw [valT_I,if_pos h1]
 ·have h1:=ge_of ‹_›
  have h2:=findI_K t.letters (u8 n)
  have h3:=hp.2.vals
  refine⟨h1,?_⟩
  show findI t.letters (u8 n)<((t.values.length:Nat):Int)
  rw [h2] at h1 ⊢
  split at h1<;>omega
 ·have h1:0≤findI t.letters (u8 n):=ge_of ‹_›
  rw [valT_I,if_neg (by omega)];rfl
def sp_s_l02Sum (p:Pr):FSpec:=fsp (ac (aP aTs) (a1 aS)) (fun (t,s)=>TsOk t∧p.ltM (p.lenS s)) (fun (t,s)=>.i .i64 (sumT t s))
theorem ok_s_l02Sum:FOk Tryz.prog 191 (sp_s_l02Sum std):=by
 refine FOk.go (c:=cx std [(253,sp_s_l02Value std)] [] 0) (cx_ok (.cons ok_s_l02Value .nil) .nil) mixed Tryz.func191 rfl rfl rfl (by kernel_rfl) ?_
 rintro ⟨t,s⟩ hp
 dsimp only at hp
 refine⟨rfl,?_⟩
 unfold sp_s_l02Value
 obtain⟨H,hH⟩ : ∃H:Hd (Int×Int),H=⟨fun (m,k)=>0≤k∧k≤s.length∧sumT t s=m+sumT t (s.drop k.toNat)∧0≤m∧m≤20*k,fun (m,k)=>(s.length-k).toNat,(· < ·)⟩:=⟨_,rfl⟩
 have hl : ∀m n,H.lt m n→m<n:=by subst hH;exact fun _ _ h=>h
 generalize hP:std=p,hB0:valT=B0,hB1:sumT=B1,hB2:u8=B2
 cbv
 repeat' first
  | (refine fun (_:Unit)=>?_;cbv)
  | (refine Or.inr ⟨7,[],[.s 5 (.i .i64),.s 6 (.i .i64)],[],[],H,rfl,hl,?_,fun ((m,k):Int×Int) hk=>?_⟩<;>cbv)
  | (refine aI2 (fun h=>?_) (fun h=>?_)<;>cbv)
  | (refine aI2 ?_ ?_)
 all_goals subst hP hB0 hB1 hB2 hH
 all_goals clear hl
 all_goals try dsimp only at hk
 all_goals try dsimp only
 all_goals try exact fin
 ·obtain⟨q0,q1,e,q2,q3⟩:=hk
  have h1:=lt_of h
  have h2:=hp.1.lo (u8 (std.byte s k))
  have h3:=hp.1.hi (u8 (std.byte s k))
  exact in64 (by simp [std] at *;lia)
 ·obtain⟨q0,q1,e,q2,q3⟩:=hk
  have h1:=lt_of h
  have h2:=hp.1.lo (u8 (std.byte s k))
  have h3:=hp.1.hi (u8 (std.byte s k))
  refine⟨by simp [std] at *;lia,by simp [std] at *;lia,?_,by simp [std] at *;lia,by simp [std] at *;lia⟩
  rw [e,dc q0 h1 0,u8_byte]
  simp [sumT,Int.add_assoc]
 ·obtain⟨q0,q1,e,q2,q3⟩:=hk
  rw [e,dn (ge_of h)]
  simp [sumT]
def repC (n:Int) (c:UInt8):List UInt8:=List.replicate n.toNat c
theorem rep_snoc {n m:Int} {c:Int} (h:0<m) (h2:m≤n):List.replicate (n-max m 0).toNat c++[c]=List.replicate (n-max (m-1) 0).toNat c:=by
 rw [show (n-max (m-1) 0).toNat =(n-max m 0).toNat + 1 from by omega,List.replicate_succ']
theorem rep_all {n m c:Int} (h:m≤0):std.toS (List.replicate (n-max m 0).toNat c)=repC n (u8 c):=by
 have h1:n-max m 0=n:=by omega
 rw [h1]
 unfold repC u8
 show toSl (List.replicate n.toNat c)=_
 unfold toSl
 rw [List.map_replicate]
def sp_s_l02Repeat (p:Pr):FSpec:=fsp (ac aC (a1 aI)) (fun (c,n)=>p.leP n 200∧p.inK .u8 c) (fun (c,n)=>.s (repC n (u8 c)))
theorem ok_s_l02Repeat:FOk Tryz.prog 158 (sp_s_l02Repeat std):=by
 refine FOk.go (c:=cx std [] [] 0) (cx_ok .nil .nil) mixed Tryz.func158 rfl rfl rfl (by kernel_rfl) ?_
 rintro ⟨c,n⟩ hp
 dsimp only at hp
 refine⟨rfl,?_⟩
 obtain⟨H,hH⟩ : ∃H:Hd (Int×List Int),H=⟨fun (m,L)=>m≤n∧L=List.replicate (n-max m 0).toNat c,fun (m,L)=>m.toNat,(· < ·)⟩:=⟨_,rfl⟩
 have hl : ∀m n,H.lt m n→m<n:=by subst hH;exact fun _ _ h=>h
 generalize hP:std=p,hB0:repC=B0,hB1:u8=B1
 cbv
 repeat' first
  | (refine fun (_:Unit)=>?_;cbv)
  | (refine Or.inr ⟨7,[],[.s 1 (.i .i64),.o 0 [.i .u8]],[.s 5],[],H,rfl,hl,?_,fun ((m,L):Int×List Int) hk=>?_⟩<;>cbv)
  | (refine aI2 (fun h=>?_) (fun h=>?_)<;>cbv)
  | (refine aI2 ?_ ?_)
 all_goals subst hP hB0 hB1 hH
 all_goals clear hl
 all_goals try dsimp only at hk
 all_goals try dsimp only
 all_goals try exact fin
 ·simp [std,hk.2] at *;lia
 ·exact⟨by simp [std] at *;lia,by rw [hk.2];exact rep_snoc (lt_of h) hk.1⟩
 ·have:=ge_of h
  obtain⟨q0,rfl⟩:=hk
  exact rep_all this
def sp_s_l02Own (p:Pr):FSpec:=fsp (a1 (aP aTs)) (fun t=>p.ltM (p.len t.values)∧p.ltM (p.len t.counts)) (fun t=>.agg (tsK t (.osl 0) (.osl 1))) (fun t=>[(0,.own [.i .i64] t.values 2),(1,.own [.i .i64] t.counts 2)])
theorem ok_s_l02Own:FOk Tryz.prog 175 (sp_s_l02Own std):=by
 refine FOk.go (c:=cx std [(194,sp_s_l00Own std)] [] 0) (cx_ok (.cons ok_s_l00Own .nil) .nil) mixed Tryz.func175 rfl rfl rfl (by kernel_rfl) ?_
 rintro t hp
 refine⟨rfl,?_⟩
 unfold sp_s_l00Own
 generalize hP:std=p
 cbv
 repeat' first
  | (refine fun (_:Unit)=>?_;cbv)
  | (refine aI2 (fun h=>?_) (fun h=>?_)<;>cbv)
  | (refine aI2 ?_ ?_)
  | (refine Or.inl (fun (_:Unit)=>?_);cbv)
 all_goals subst hP
 all_goals try exact fin
def repD (t:TS) (k:Int):List UInt8:=repT (t.letters.drop k.toNat) (t.counts.drop k.toNat)
theorem repD_step {t:TS} {k:Int} (h0:0≤k) (h:k<t.letters.length) (h2:t.counts.length=t.letters.length):repD t k=repC (t.counts.getD k.toNat 0) (t.letters.getD k.toNat 0)++repD t (k+1):=by
 unfold repD
 rw [dc h0 h 0,dc (L:=t.counts) h0 (by omega) 0]
 rfl
structure AllP (t:TS):Prop where
 ok:TsOk t
 bl:t.blanks≤4
 hi : ∀k:Nat,t.counts.getD k 0≤20
theorem repC_len (n:Int) (c:UInt8) (h:n≤20):(repC n c).length ≤20:=by simp [repC];omega
def sp_s_l02All (p:Pr):FSpec:=fsp (a1 (aP aTs)) (fun t=>AllP t) (fun t=>.s (allT t))
theorem ok_s_l02All:FOk Tryz.prog 65 (sp_s_l02All std):=by
 refine FOk.go (c:=cx std [(158,sp_s_l02Repeat std)] [] 0) (cx_ok (.cons ok_s_l02Repeat .nil) .nil) mixed Tryz.func65 rfl rfl rfl (by kernel_rfl) ?_
 rintro t hp
 refine⟨rfl,?_⟩
 unfold sp_s_l02Repeat
 obtain⟨H,hH⟩ : ∃H:Hd (List UInt8×Int),H=⟨fun (s,k)=>0≤k∧k≤t.letters.length∧allT t=s++repD t k∧(s.length:Int)≤20+20*k,fun (s,k)=>(t.letters.length-k).toNat,(· < ·)⟩:=⟨_,rfl⟩
 have hl : ∀m n,H.lt m n→m<n:=by subst hH;exact fun _ _ h=>h
 generalize hP:std=p,hB0:allT=B0,hB1:repC=B1,hB2:u8=B2
 cbv
 repeat' first
  | (refine fun (_:Unit)=>?_;cbv)
  | (refine Or.inr ⟨10,[],[.s 3 .s,.s 4 (.i .i64)],[],[],H,rfl,hl,?_,fun ((s,k):List UInt8×Int) hk=>?_⟩<;>cbv)
  | (refine aI2 (fun h=>?_) (fun h=>?_)<;>cbv)
  | (refine aI2 ?_ ?_)
 all_goals subst hP hB0 hB1 hB2 hH
 all_goals clear hl
 all_goals try dsimp only at hk
 all_goals try dsimp only
 all_goals try exact fin
 ·exact Int.le_trans hp.bl (by decide)
 ·refine⟨Int.le_refl 0,Int.natCast_nonneg _,rfl,?_⟩
  have:=repC_len t.blanks (u8 63) (Int.le_trans hp.bl (by decide))
  show (((repC t.blanks (u8 63)).length : Nat):Int)≤_
  omega
 ·exact⟨hk.1,by have:=hp.ok.cnts;have:=lt_of h;simp [std] at *;lia⟩
 ·exact Int.le_trans (hp.hi k.toNat) (by decide)
 ·have h1:=repC_len _ (u8 (std.byte t.letters k)) (hp.hi k.toNat)
  have h2:=hp.ok.len
  have h3:=lt_of h
  exact in64 (by simp [std] at *;lia)
 ·have h2:=hp.ok.len
  have h3:=lt_of h
  exact in64 (by simp [std] at *;lia)
 ·obtain⟨q0,q1,e,q2⟩:=hk
  have h1:=repC_len _ (u8 (std.byte t.letters k)) (hp.hi k.toNat)
  have h3:=lt_of h
  refine⟨by simp;omega,by simp [std] at *;lia,?_,by simp [std] at *;lia⟩
  rw [e,repD_step q0 h3 hp.ok.cnts,u8_byte]
  simp
 ·obtain⟨q0,q1,e,q2⟩:=hk
  rw [e]
  unfold repD
  rw [dn (ge_of h)]
  exact (List.append_nil s).symm
theorem smallB_i (c:UInt8):smallB c=inR (c.toNat:Int) 97 122:=rfl
theorem capB_i (c:UInt8):capB c=inR (c.toNat:Int) 65 90:=rfl
theorem byte_lit {c:UInt8} {n:Nat} (h:n<256):(c==UInt8.ofNat n)=((c.toNat:Int)==(n:Int)):=by
 rw [Bool.eq_iff_iff,beq_iff_eq,beq_iff_eq,←UInt8.toNat_inj,UInt8.toNat_ofNat',Nat.mod_eq_of_lt h]
 omega
theorem tileB_i (c:UInt8):tileB c=((c.toNat:Int)==63||inR (c.toNat:Int) 97 122):=by
 unfold tileB
 rw [show (63:UInt8)=UInt8.ofNat 63 from rfl,byte_lit (by decide),smallB_i]
 rfl
theorem leB_i (a b:UInt8):leB a b=decide ((a.toNat:Int)≤b.toNat):=by unfold leB;simp
def sp_s_l03Tile (p:Pr):FSpec:=fsp (a1 aC) (fun n=>True) (fun n=>.b (n==63||inR n 97 122))
theorem ok_s_l03Tile:FOk Tryz.prog 174 (sp_s_l03Tile std):=by
 refine FOk.go (c:=cx std [(236,sp_s_l01Small std)] [] 0) (cx_ok (.cons ok_s_l01Small .nil) .nil) mixed Tryz.func174 rfl rfl rfl (by kernel_rfl) ?_
 rintro n hp
 refine⟨rfl,?_⟩
 unfold sp_s_l01Small
 generalize hP:std=p,hB0:inR=B0
 cbv
 repeat' first
  | (refine fun (_:Unit)=>?_;cbv)
  | (refine aI2 (fun h=>?_) (fun h=>?_)<;>cbv)
  | (refine aI2 ?_ ?_)
  | (refine Or.inl (fun (_:Unit)=>?_);cbv)
 all_goals subst hP hB0
 all_goals try exact fin
def sp_s_l03Capital (p:Pr):FSpec:=fsp (a1 aC) (fun n=>True) (fun n=>.b (inR n 65 90))
theorem ok_s_l03Capital:FOk Tryz.prog 219 (sp_s_l03Capital std):=by
 refine FOk.go (c:=cx std [] [] 0) (cx_ok .nil .nil) mixed Tryz.func219 rfl rfl rfl (by kernel_rfl) ?_
 rintro n hp
 refine⟨rfl,?_⟩
 generalize hP:std=p,hB0:inR=B0
 cbv
 repeat' first
  | (refine fun (_:Unit)=>?_;cbv)
  | (refine aI2 (fun h=>?_) (fun h=>?_)<;>cbv)
  | (refine aI2 ?_ ?_)
  | (refine Or.inl (fun (_:Unit)=>?_);cbv)
 all_goals subst hP hB0
 all_goals try exact fin
 all_goals (simp [std,inR] at * <;>first | lia | (simp_all;done))
def pileK (s:List UInt8) (k:Int):Bool:=pileFrom (if k≤0 then none else some (s.getD (k-1).toNat 0)) (s.drop k.toNat)
theorem pileK_step {s:List UInt8} {k:Int} (h0:0≤k) (h:k<s.length):pileK s k=(tileB (s.getD k.toNat 0)&&((decide (k≤0)||leB (s.getD (k-1).toNat 0) (s.getD k.toNat 0))&&pileK s (k+1))):=by
 unfold pileK
 rw [dc h0 h 0,if_neg (show ¬k+1≤0 by omega),show k+1-1=k from by omega]
 by_cases hk:k≤0
 ·simp [hk,pileFrom]
 ·simp [hk,pileFrom,Bool.and_assoc]
theorem pileK_end {s:List UInt8} {k:Int} (h:(s.length:Int)≤k):pileK s k=true:=by unfold pileK;rw [dn h];cases (if k≤0 then none else some (s.getD (k-1).toNat 0))<;>rfl
def sp_s_l03Pile (p:Pr):FSpec:=fsp (a1 aS) (fun s=>p.ltM (p.lenS s)) (fun s=>.b (pileB s))
theorem ok_s_l03Pile:FOk Tryz.prog 106 (sp_s_l03Pile std):=by
 refine FOk.go (c:=cx std [(174,sp_s_l03Tile std)] [] 0) (cx_ok (.cons ok_s_l03Tile .nil) .nil) mixed Tryz.func106 rfl rfl rfl (by kernel_rfl) ?_
 rintro s hp
 refine⟨rfl,?_⟩
 unfold sp_s_l03Tile
 obtain⟨H,hH⟩ : ∃H:Hd (Int),H=⟨fun k=>0≤k∧k≤s.length∧pileB s=(pileK s k&&decide (s.length≤120)),fun k=>(s.length-k).toNat,(· < ·)⟩:=⟨_,rfl⟩
 have hl : ∀m n,H.lt m n→m<n:=by subst hH;exact fun _ _ h=>h
 generalize hP:std=p,hB0:pileB=B0,hB1:inR=B1
 cbv
 repeat' first
  | (refine fun (_:Unit)=>?_;cbv)
  | (refine Or.inr ⟨4,[],[.s 3 (.i .i64)],[],[],H,rfl,hl,?_,fun (k:Int) hk=>?_⟩<;>cbv)
  | (refine aI2 (fun h=>?_) (fun h=>?_)<;>cbv)
  | (refine aI2 ?_ ?_)
 all_goals subst hP hB0 hB1 hH
 all_goals clear hl
 all_goals try dsimp only at hk
 all_goals try dsimp only
 all_goals try exact fin
 all_goals try first
  | exact⟨Int.le_refl 0,Int.natCast_nonneg _,rfl⟩
  | (simp [pileB,tileB_i,leB_i];done)
  | (obtain⟨q0,q1,e⟩:=hk;refine⟨by simp [std] at *;lia,by simp [std] at *;lia,?_⟩;rw [e,pileK_step q0 (lt_of ‹_›)];clear e;simp_all [std,pileB,tileB_i,leB_i];done)
  | (obtain⟨q0,q1,e⟩:=hk;refine⟨by simp [std] at *;lia,by simp [std] at *;lia,?_⟩;rw [e,pileK_step q0 (lt_of ‹_›)];clear e;simp_all [std,pileB,tileB_i,leB_i]<;>grind;done)
  | (obtain⟨q0,q1,e⟩:=hk;rw [e,pileK_step q0 (lt_of ‹_›)];clear e;simp_all [std,pileB,tileB_i,leB_i];done)
  | (obtain⟨q0,q1,e⟩:=hk;rw [e,pileK_step q0 (lt_of ‹_›)];clear e;simp_all [std,pileB,tileB_i,leB_i]<;>grind;done)
  | (obtain⟨q0,q1,e⟩:=hk;rw [e,pileK_end (ge_of ‹_›)];clear e;simp_all [std,pileB,tileB_i,leB_i];done)
  | (obtain⟨q0,q1,e⟩:=hk;rw [e,pileK_end (ge_of ‹_›)];clear e;simp_all [std,pileB,tileB_i,leB_i]<;>grind;done)
end Ax
namespace Ax
set_option maxRecDepth 100000
def sp_s_l03Rack (p:Pr):FSpec:=fsp (a1 aS) (fun s=>p.ltM (p.lenS s)) (fun s=>.b (rackB s))
theorem ok_s_l03Rack:FOk Tryz.prog 185 (sp_s_l03Rack std):=by
 refine FOk.go (c:=cx std [(106,sp_s_l03Pile std)] [] 0) (cx_ok (.cons ok_s_l03Pile .nil) .nil) mixed Tryz.func185 rfl rfl rfl (by kernel_rfl) ?_
 rintro s hp
 refine⟨rfl,?_⟩
 unfold sp_s_l03Pile
 generalize hP:std=p,hB0:rackB=B0,hB1:pileB=B1
 cbv
 repeat' first
  | (refine fun (_:Unit)=>?_;cbv)
  | (refine aI2 (fun h=>?_) (fun h=>?_)<;>cbv)
  | (refine aI2 ?_ ?_)
  | (refine Or.inl (fun (_:Unit)=>?_);cbv)
 all_goals subst hP hB0 hB1
 all_goals try exact fin
 all_goals (simp [std,rackB] at * <;>first | lia | (simp_all;done))
def shf (S:List UInt8) (c:UInt8) (k:Int):List UInt8:=(S++[c]).take (k.toNat+1)++S.drop k.toNat
section
variable {S:List UInt8} {c:UInt8} {k:Int}
theorem shf_len (h0:0≤k) (h:k≤S.length):(shf S c k).length =S.length+1:=by unfold shf;simp;omega
theorem shf_get (h0:1≤k) (h:k≤S.length):(shf S c k).getD (k-1).toNat 0=S.getD (k-1).toNat 0:=by
 have h1:(k-1).toNat < S.length:=by omega
 unfold shf
 rw [List.getD_eq_getElem?_getD,List.getElem?_append_left (by simp;omega),List.getElem?_take,if_pos (by omega),List.getElem?_append_left h1,List.getD_eq_getElem?_getD]
theorem shf_set (h0:1≤k) (h:k≤S.length):(shf S c k).set k.toNat (S.getD (k-1).toNat 0)=shf S c (k-1):=by
 have h1:(k-1).toNat < S.length:=by omega
 have h2:k.toNat=(k-1).toNat + 1:=by omega
 apply List.ext_getElem?
 intro i
 unfold shf
 rw [List.getElem?_set,h2]
 by_cases hi:(k-1).toNat + 1=i
 ·subst hi
  rw [if_pos rfl,if_pos (by simp;omega),List.getElem?_append_right (by simp only [List.length_take,List.length_append,List.length_singleton];omega),List.getElem?_drop,List.getD_eq_getElem?_getD]
  simp only [List.length_take,List.length_append,List.length_singleton]
  rw [show (k-1).toNat + ((k-1).toNat + 1-min ((k-1).toNat + 1) (S.length+1))=(k-1).toNat from by omega,List.getElem?_eq_getElem h1]
  rfl
 ·rw [if_neg hi]
  by_cases hlt:i<(k-1).toNat + 1
  ·rw [List.getElem?_append_left (by simp;omega),List.getElem?_append_left (by simp only [List.length_take,List.length_append,List.length_singleton];omega),List.getElem?_take,List.getElem?_take,if_pos (by omega),if_pos hlt]
  ·rw [List.getElem?_append_right (by simp;omega),List.getElem?_append_right (by simp only [List.length_take,List.length_append,List.length_singleton];omega),List.getElem?_drop,List.getElem?_drop]
   simp only [List.length_take,List.length_append,List.length_singleton]
   congr 1
   omega
theorem shf_fin (h0:0≤k) (h:k≤S.length) (hk:insK S c S.length=k.toNat):(shf S c k).set k.toNat c=insR S c:=by
 unfold insR shf
 rw [hk]
 apply List.ext_getElem?
 intro i
 rw [List.getElem?_set]
 by_cases hi:k.toNat=i
 ·subst hi
  rw [if_pos rfl,if_pos (by simp;omega),List.getElem?_append_right (by simp;omega)]
  simp only [List.length_take]
  rw [show k.toNat-min k.toNat S.length=0 from by omega]
  rfl
 ·rw [if_neg hi]
  by_cases hlt:i<k.toNat
  ·rw [List.getElem?_append_left (by simp;omega),List.getElem?_append_left (by simp;omega),List.getElem?_take,List.getElem?_take,if_pos (by omega),if_pos hlt,List.getElem?_append_left (by omega)]
  ·rw [List.getElem?_append_right (by simp;omega),List.getElem?_append_right (by simp;omega),List.getElem?_drop,show i-(List.take k.toNat S).length =(i-k.toNat-1)+1 from by simp;omega,List.getElem?_cons_succ,List.getElem?_drop]
   simp only [List.length_take,List.length_append,List.length_singleton]
   congr 1
   omega
theorem shf_all (h:k=S.length):shf S c k=S++[c]:=by subst h;unfold shf;simp [List.take_of_length_le]
theorem insK_step (h0:1≤k):insK S c k.toNat=if (c.toNat:Int)<((S.getD (k-1).toNat 0).toNat : Int) then insK S c (k-1).toNat else k.toNat:=by
 obtain⟨n,hn⟩ : ∃n,k.toNat=n+1:=⟨k.toNat-1,by omega⟩
 rw [hn,show (k-1).toNat =n from by omega]
 show (if c.toNat<(S[n]?.getD 0).toNat then insK S c n else n+1)=_
 rw [List.getD_eq_getElem?_getD]
 simp only [Int.ofNat_lt]
end
theorem sort_take {s:List UInt8} {i:Int} (h0:0≤i) (h:i<s.length):isort (s.take (i+1).toNat)=insR (isort (s.take i.toNat)) (s.getD i.toNat 0):=by
 rw [tk h0 h 0]
 simp [isort,List.foldl_append]
theorem sort_len {s:List UInt8} {i:Int} (h0:0≤i) (h:i≤s.length):((isort (s.take i.toNat)).length : Int)=i:=by rw [isort_length,List.length_take];omega
def sp_s_l03Sort (p:Pr):FSpec:=fsp (a1 aS) (fun s=>p.ltM (p.lenS s)) (fun s=>.s (isort s))
theorem ok_s_l03Sort:FOk Tryz.prog 74 (sp_s_l03Sort std):=by
 refine FOk.go (c:=cx std [] [] 0) (cx_ok .nil .nil) mixed Tryz.func74 rfl rfl rfl (by kernel_rfl) ?_
 rintro s hp
 refine⟨rfl,?_⟩
 obtain⟨H,hH⟩ : ∃H:Hd (Int×List Int),H=⟨fun (i,L)=>0≤i∧i≤s.length∧L=toBl (isort (s.take i.toNat)),fun (i,L)=>(s.length-i).toNat,(· < ·)⟩:=⟨_,rfl⟩
 have hl : ∀m n,H.lt m n→m<n:=by subst hH;exact fun _ _ h=>h
 obtain⟨H2,hH2⟩ : ∃H:(Int×List Int)→Hd (Int×List Int),H=fun (i,L)=>⟨fun (k,M)=>0≤k∧k≤i∧M=toBl (shf (isort (s.take i.toNat)) (s.getD i.toNat 0) k)∧insK (isort (s.take i.toNat)) (s.getD i.toNat 0) (isort (s.take i.toNat)).length =insK (isort (s.take i.toNat)) (s.getD i.toNat 0) k.toNat,fun (k,M)=>k.toNat,(· < ·)⟩:=⟨_,rfl⟩
 have hl2 : ∀x m n,(H2 x).lt m n→m<n:=by subst hH2;exact fun _ _ _ h=>h
 generalize hP:std=p,hB0:isort=B0
 cbv
 repeat' first
  | (refine fun (_:Unit)=>?_;cbv)
  | (refine Or.inr ⟨7,[],[.s 4 (.i .i64),.o 0 [.i .u8]],[.s 3],[],H,rfl,hl,?_,fun ((i,L):Int×List Int) hk=>?_⟩<;>cbv)
  | (refine Or.inr ⟨21,[],[.s 5 (.i .i64),.o 2 [.i .u8]],[],[],H2 (i,L),rfl,hl2 _,?_,fun ((k,M):Int×List Int) hk2=>?_⟩<;>cbv)
  | (refine aI2 (fun h=>?_) (fun h=>?_)<;>cbv)
  | (refine aI2 ?_ ?_)
 all_goals subst hP hB0 hH hH2
 all_goals clear hl
 all_goals try dsimp only at hk
 all_goals clear hl2
 all_goals try dsimp only at hk2
 all_goals try dsimp only
 all_goals try exact fin
 all_goals try (have hn:((isort (s.take i.toNat)).length : Int)=i:=sort_len hk.1 hk.2.1)
 all_goals try (have hL:(L.length:Int)=i:=by rw [hk.2.2,toB_len];exact hn)
 all_goals try (have hM:(M.length:Int)=i+1:=by rw [hk2.2.2.1,toB_len,shf_len hk2.1 (by omega)];omega)
 all_goals try first
  | exact⟨Int.le_refl 0,Int.natCast_nonneg _,rfl⟩
  | (simp [std] at *;lia)
 all_goals simp only [std] at *
 ·refine⟨by omega,by omega,?_,?_⟩
  ·rw [hk.2.2] at hL ⊢
   rw [shf_all (by rw [toB_len]),toB_snoc]
  ·rw [hk.2.2,toB_len];rfl
 ·obtain⟨q0,q1,q2,q3⟩:=hk2
  have h1:0<k:=by simpa using ‹decide (0<k)=true›
  subst q2
  rw [toB_get,shf_get (k:=k) (by omega) (by omega)] at h
  refine⟨by omega,by omega,by rw [toB_get,shf_get (k:=k) (by omega) (by omega),toB_set,shf_set (k:=k) (by omega) (by omega)],?_⟩
  rw [q3,insK_step (k:=k) (by omega),if_pos (by simpa using h)]
 ·obtain⟨q0,q1,q2,q3⟩:=hk2
  have h1:0<k:=by simpa using ‹decide (0<k)=true›
  have h2:i<s.length:=by simpa using ‹decide (i<_)=true›
  subst q2
  rw [toB_get,shf_get (k:=k) (by omega) (by omega)] at h
  have g2:i+1≤(s.length:Int):=by omega
  refine⟨by omega,g2,?_⟩
  rw [toB_set,shf_fin q0 (by omega) (by rw [q3,insK_step (k:=k) (by omega),if_neg (by simpa using h)]),sort_take hk.1 h2]
 ·obtain⟨q0,q1,q2,q3⟩:=hk2
  have h1:k≤0:=by simpa using h
  have h2:i<s.length:=by simpa using ‹decide (i<_)=true›
  subst q2
  have g2:i+1≤(s.length:Int):=by omega
  refine⟨by omega,g2,?_⟩
  rw [toB_set,shf_fin q0 (by omega) (by rw [q3,show k.toNat=0 from by omega];rfl),sort_take hk.1 h2]
 ·rw [hk.2.2,toS_toB,tk_all (by simpa using h)]
theorem take_eq {x:UInt8} {a b:List UInt8} : takeGo (x::a) (x::b)=takeGo a b:=by rw [takeGo,if_pos rfl]
theorem take_ne {x y:UInt8} {a b:List UInt8} (h:y≠x):takeGo (x::a) (y::b)=(x::(takeGo a (y::b)).1,(takeGo a (y::b)).2):=by rw [takeGo,if_neg h]
theorem take_nil {x:UInt8} {a:List UInt8} : takeGo (x::a) []=(x::(takeGo a []).1,(takeGo a []).2):=by rw [takeGo,takeGo_nil]
def sp_s_l03Take (p:Pr):FSpec:=fsp (ac aS (a1 aS)) (fun (a,b)=>p.ltM (p.lenS a)∧p.ltM (p.lenS b)) (fun (a,b)=>.tup [.s (takeS a b),.b (takeB a b)])
theorem ok_s_l03Take:FOk Tryz.prog 126 (sp_s_l03Take std):=by
 refine FOk.go (c:=cx std [] [] 0) (cx_ok .nil .nil) mixed Tryz.func126 rfl rfl rfl (by kernel_rfl) ?_
 rintro ⟨a,b⟩ hp
 dsimp only at hp
 refine⟨rfl,?_⟩
 obtain⟨H,hH⟩ : ∃H:Hd (Int×Int×List Int),H=⟨fun (k,i,L)=>0≤i∧i≤a.length∧0≤k∧k≤b.length∧∃X,L=toBl X∧(X.length:Int)≤i∧takeGo a b=(X++(takeGo (a.drop i.toNat) (b.drop k.toNat)).1,(takeGo (a.drop i.toNat) (b.drop k.toNat)).2),fun (k,i,L)=>(a.length-i).toNat,(· < ·)⟩:=⟨_,rfl⟩
 have hl : ∀m n,H.lt m n→m<n:=by subst hH;exact fun _ _ h=>h
 generalize hP:std=p,hB0:takeS=B0,hB1:takeB=B1
 cbv
 repeat' first
  | (refine fun (_:Unit)=>?_;cbv)
  | (refine Or.inr ⟨10,[],[.s 7 (.i .i64),.s 8 (.i .i64),.o 0 [.i .u8]],[.s 6],[],H,rfl,hl,?_,fun ((k,i,L):Int×Int×List Int) hk=>?_⟩<;>cbv)
  | (refine aI2 (fun h=>?_) (fun h=>?_)<;>cbv)
  | (refine aI2 ?_ ?_)
 all_goals subst hP hB0 hB1 hH
 all_goals clear hl
 all_goals try dsimp only at hk
 all_goals try dsimp only
 all_goals try exact fin
 ·exact⟨Int.le_refl 0,Int.natCast_nonneg _,Int.le_refl 0,Int.natCast_nonneg _,[],rfl,Int.le_refl 0,rfl⟩
 all_goals obtain⟨q0,q1,q2,q3,X,rfl,q5,q4⟩:=hk
 all_goals simp only [std] at *
 all_goals try (simp only [toB_len] at *;simp at *;lia)
 ·have h1:i<a.length:=by simpa using ‹decide (i<_)=true›
  have h2:k<b.length:=by simpa using ‹decide (k<_)=true›
  have h3:b.getD k.toNat 0=a.getD i.toNat 0:=by rw [beq_iff_eq] at h;exact UInt8.toNat_inj.1 (by lia)
  have g1:i+1≤(a.length:Int):=by lia
  have g2:k+1≤(b.length:Int):=by lia
  have g3:(X.length:Int)≤i+1:=by lia
  refine⟨by lia,g1,by lia,g2,X,rfl,g3,?_⟩
  rw [q4,dc q0 h1 0,dc q2 h2 0,h3,take_eq]
 ·have h1:i<a.length:=by simpa using ‹decide (i<_)=true›
  have h2:k<b.length:=by simpa using ‹decide (k<_)=true›
  have h3:b.getD k.toNat 0≠a.getD i.toNat 0:=fun hh=>by rw [hh] at h;simp at h
  have g1:i+1≤(a.length:Int):=by lia
  have g2:((X++[a.getD i.toNat 0]).length : Int)≤i+1:=by simp only [List.length_append,List.length_singleton];lia
  refine⟨by lia,g1,q2,q3,X++[a.getD i.toNat 0],toB_snoc _ _,g2,?_⟩
  rw [q4,dc q0 h1 0,dc q2 h2 0,take_ne h3]
  simp
 ·have h1:i<a.length:=by simpa using ‹decide (i<_)=true›
  have h2:(b.length:Int)≤k:=by simpa using h
  have g1:i+1≤(a.length:Int):=by lia
  have g2:((X++[a.getD i.toNat 0]).length : Int)≤i+1:=by simp only [List.length_append,List.length_singleton];lia
  refine⟨by lia,g1,q2,q3,X++[a.getD i.toNat 0],toB_snoc _ _,g2,?_⟩
  rw [q4,dc q0 h1 0,dn h2,take_nil]
  simp
 ·have h2:(a.length:Int)≤i:=by simpa using h
  rw [takeS,q4,dn h2,toS_toB]
  simp [takeGo]
 ·have h2:(a.length:Int)≤i:=by simpa using h
  rw [takeB,q4,dn h2]
  have h3:((b.drop k.toNat).isEmpty =true)↔k=b.length:=by
   rw [List.isEmpty_iff,List.drop_eq_nil_iff]
   lia
  rw [Bool.eq_iff_iff]
  simp only [takeGo]
  rw [h3,beq_iff_eq]
def sp_s_l03Placed (p:Pr):FSpec:=fsp (a1 aS) (fun s=>p.ltM (p.lenS s)) (fun s=>.b (placedB s))
theorem ok_s_l03Placed:FOk Tryz.prog 306 (sp_s_l03Placed std):=by
 refine FOk.go (c:=cx std [(89,sp_s_l00In std),(236,sp_s_l01Small std),(219,sp_s_l03Capital std)] [] 0) (cx_ok (.cons ok_s_l00In (.cons ok_s_l01Small (.cons ok_s_l03Capital .nil))) .nil) mixed Tryz.func306 rfl rfl rfl (by kernel_rfl) ?_
 rintro s hp
 refine⟨rfl,?_⟩
 unfold sp_s_l00In sp_s_l01Small sp_s_l03Capital
 obtain⟨H,hH⟩ : ∃H:Hd (Int),H=⟨fun k=>0≤k∧k≤s.length∧placedB s=((s.drop k.toNat).all (fun c=>smallB c||capB c)&&inR s.length 1 12),fun k=>(s.length-k).toNat,(· < ·)⟩:=⟨_,rfl⟩
 have hl : ∀m n,H.lt m n→m<n:=by subst hH;exact fun _ _ h=>h
 generalize hP:std=p,hB0:placedB=B0,hB1:inR=B1
 cbv
 repeat' first
  | (refine fun (_:Unit)=>?_;cbv)
  | (refine Or.inr ⟨4,[],[.s 3 (.i .i64)],[],[],H,rfl,hl,?_,fun (k:Int) hk=>?_⟩<;>cbv)
  | (refine aI2 (fun h=>?_) (fun h=>?_)<;>cbv)
  | (refine aI2 ?_ ?_)
 all_goals subst hP hB0 hB1 hH
 all_goals clear hl
 all_goals try dsimp only at hk
 all_goals try dsimp only
 all_goals try exact fin
 all_goals try first
  | exact⟨Int.le_refl 0,Int.natCast_nonneg _,rfl⟩
  | (simp [placedB,smallB_i,capB_i];done)
  | (obtain⟨q0,q1,e⟩:=hk;refine⟨by simp [std] at *;lia,by simp [std] at *;lia,?_⟩;rw [e,dc q0 (lt_of ‹_›) 0];clear e;simp_all [std,placedB,smallB_i,capB_i];done)
  | (obtain⟨q0,q1,e⟩:=hk;refine⟨by simp [std] at *;lia,by simp [std] at *;lia,?_⟩;rw [e,dc q0 (lt_of ‹_›) 0];clear e;simp_all [std,placedB,smallB_i,capB_i]<;>grind;done)
  | (obtain⟨q0,q1,e⟩:=hk;rw [e,dc q0 (lt_of ‹_›) 0];clear e;simp_all [std,placedB,smallB_i,capB_i];done)
  | (obtain⟨q0,q1,e⟩:=hk;rw [e,dc q0 (lt_of ‹_›) 0];clear e;simp_all [std,placedB,smallB_i,capB_i]<;>grind;done)
  | (obtain⟨q0,q1,e⟩:=hk;rw [e,dn (ge_of ‹_›)];clear e;simp_all [std,placedB,smallB_i,capB_i];done)
  | (obtain⟨q0,q1,e⟩:=hk;rw [e,dn (ge_of ‹_›)];clear e;simp_all [std,placedB,smallB_i,capB_i]<;>grind;done)
def sp_s_l17Ok (p:Pr):FSpec:=fsp (a1 aS) (fun s=>p.ltM (p.lenS s)) (fun s=>.b (bagB s))
theorem ok_s_l17Ok:FOk Tryz.prog 73 (sp_s_l17Ok std):=by
 refine FOk.go (c:=cx std [(174,sp_s_l03Tile std)] [] 0) (cx_ok (.cons ok_s_l03Tile .nil) .nil) mixed Tryz.func73 rfl rfl rfl (by kernel_rfl) ?_
 rintro s hp
 refine⟨rfl,?_⟩
 unfold sp_s_l03Tile
 obtain⟨H,hH⟩ : ∃H:Hd (Int),H=⟨fun k=>0≤k∧k≤s.length∧bagB s=((s.drop k.toNat).all tileB&&decide (s.length≤120)),fun k=>(s.length-k).toNat,(· < ·)⟩:=⟨_,rfl⟩
 have hl : ∀m n,H.lt m n→m<n:=by subst hH;exact fun _ _ h=>h
 generalize hP:std=p,hB0:bagB=B0,hB1:inR=B1
 cbv
 repeat' first
  | (refine fun (_:Unit)=>?_;cbv)
  | (refine Or.inr ⟨4,[],[.s 3 (.i .i64)],[],[],H,rfl,hl,?_,fun (k:Int) hk=>?_⟩<;>cbv)
  | (refine aI2 (fun h=>?_) (fun h=>?_)<;>cbv)
  | (refine aI2 ?_ ?_)
 all_goals subst hP hB0 hB1 hH
 all_goals clear hl
 all_goals try dsimp only at hk
 all_goals try dsimp only
 all_goals try exact fin
 all_goals try first
  | exact⟨Int.le_refl 0,Int.natCast_nonneg _,rfl⟩
  | (simp [bagB,tileB_i];done)
  | (obtain⟨q0,q1,e⟩:=hk;refine⟨by simp [std] at *;lia,by simp [std] at *;lia,?_⟩;rw [e,dc q0 (lt_of ‹_›) 0];clear e;simp_all [std,bagB,tileB_i];done)
  | (obtain⟨q0,q1,e⟩:=hk;refine⟨by simp [std] at *;lia,by simp [std] at *;lia,?_⟩;rw [e,dc q0 (lt_of ‹_›) 0];clear e;simp_all [std,bagB,tileB_i]<;>grind;done)
  | (obtain⟨q0,q1,e⟩:=hk;rw [e,dc q0 (lt_of ‹_›) 0];clear e;simp_all [std,bagB,tileB_i];done)
  | (obtain⟨q0,q1,e⟩:=hk;rw [e,dc q0 (lt_of ‹_›) 0];clear e;simp_all [std,bagB,tileB_i]<;>grind;done)
  | (obtain⟨q0,q1,e⟩:=hk;rw [e,dn (ge_of ‹_›)];clear e;simp_all [std,bagB,tileB_i];done)
  | (obtain⟨q0,q1,e⟩:=hk;rw [e,dn (ge_of ‹_›)];clear e;simp_all [std,bagB,tileB_i]<;>grind;done)
def sp_s_l17Fill (p:Pr):FSpec:=fsp (ac aS (a1 aS)) (fun (bag,rack)=>(p.ltM (p.lenS bag)∧p.ltM (p.lenS rack))∧p.leP (p.lenS rack) 7) (fun (bag,rack)=>.i .i64 (drawN bag rack))
theorem ok_s_l17Fill:FOk Tryz.prog 129 (sp_s_l17Fill std):=by
 refine FOk.go (c:=cx std [] [] 0) (cx_ok .nil .nil) mixed Tryz.func129 rfl rfl rfl (by kernel_rfl) ?_
 rintro ⟨bag,rack⟩ hp
 dsimp only at hp
 refine⟨rfl,?_⟩
 generalize hP:std=p,hB0:drawN=B0
 cbv
 repeat' first
  | (refine fun (_:Unit)=>?_;cbv)
  | (refine aI2 (fun h=>?_) (fun h=>?_)<;>cbv)
  | (refine aI2 ?_ ?_)
  | (refine Or.inl (fun (_:Unit)=>?_);cbv)
 all_goals subst hP hB0
 all_goals try exact fin
 all_goals (simp [std,drawN] at * <;>lia)
theorem low_cap {c:UInt8} (h:inR (c.toNat:Int) 65 90=true):((lowC c).toNat : Int)=c.toNat+32∧blankC c=63:=by
 have h1:capB c=true:=h
 unfold lowC blankC
 rw [if_pos h1,if_pos h1]
 simp [inR] at h
 refine⟨?_,rfl⟩
 rw [UInt8.toNat_add]
 have : (32:UInt8).toNat =32:=rfl
 omega
theorem low_no {c:UInt8} (h:inR (c.toNat:Int) 65 90=false):lowC c=c∧blankC c=c:=by
 have h1:capB c=false:=h
 unfold lowC blankC
 rw [h1]
 exact⟨rfl,rfl⟩
def mapK (f:UInt8→UInt8) (s:List UInt8) (k:Int):List UInt8:=(s.take k.toNat).map f++s.drop k.toNat
section
variable {f:UInt8→UInt8} {s:List UInt8} {k:Int}
theorem mapK_len:(mapK f s k).length =s.length:=by unfold mapK;simp;omega
theorem mapK_get (h0:0≤k) (h:k<s.length):(mapK f s k).getD k.toNat 0=s.getD k.toNat 0:=by
 unfold mapK
 rw [List.getD_eq_getElem?_getD,List.getElem?_append_right (by simp only [List.length_map,List.length_take];omega),List.getElem?_drop,List.getD_eq_getElem?_getD]
 congr 2
 simp;omega
theorem mapK_set (h0:0≤k) (h:k<s.length) {c:UInt8} (hc:f (s.getD k.toNat 0)=c):(mapK f s k).set k.toNat c=mapK f s (k+1):=by
 unfold mapK
 rw [tk h0 h 0,dc h0 h 0,List.map_append,List.append_assoc,List.set_append_right _ _ (by simp;omega)]
 simp only [List.length_map,List.length_take,List.map_cons,List.map_nil,List.singleton_append]
 rw [show k.toNat-min k.toNat s.length=0 from by omega,List.set_cons_zero,hc]
theorem mapK_no (h0:0≤k) (h:k<s.length) (hc:f (s.getD k.toNat 0)=s.getD k.toNat 0):mapK f s k=mapK f s (k+1):=by
 rw [←mapK_set h0 h hc]
 unfold mapK
 rw [dc h0 h 0,List.set_append_right _ _ (by simp;omega)]
 simp only [List.length_map,List.length_take]
 rw [show k.toNat-min k.toNat s.length=0 from by omega,List.set_cons_zero]
theorem mapK_end (h:(s.length:Int)≤k):mapK f s k=s.map f:=by unfold mapK;rw [tk_all h,dn h,List.append_nil]
end
def sp_s_l03Small (p:Pr):FSpec:=fsp (a1 aS) (fun s=>p.ltM (p.lenS s)) (fun s=>.s (lowS s))
theorem ok_s_l03Small:FOk Tryz.prog 198 (sp_s_l03Small std):=by
 refine FOk.go (c:=cx std [(219,sp_s_l03Capital std)] [] 0) (cx_ok (.cons ok_s_l03Capital .nil) .nil) mixed Tryz.func198 rfl rfl rfl (by kernel_rfl) ?_
 rintro s hp
 refine⟨rfl,?_⟩
 unfold sp_s_l03Capital
 obtain⟨H,hH⟩ : ∃H:Hd (Int×List Int),H=⟨fun (k,L)=>0≤k∧k≤s.length∧L=toBl (mapK lowC s k),fun (k,L)=>(s.length-k).toNat,(· < ·)⟩:=⟨_,rfl⟩
 have hl : ∀m n,H.lt m n→m<n:=by subst hH;exact fun _ _ h=>h
 generalize hP:std=p,hB0:lowS=B0,hB1:inR=B1
 cbv
 repeat' first
  | (refine fun (_:Unit)=>?_;cbv)
  | (refine Or.inr ⟨7,[],[.s 4 (.i .i64),.o 0 [.i .u8]],[],[],H,rfl,hl,?_,fun ((k,L):Int×List Int) hk=>?_⟩<;>cbv)
  | (refine aI2 (fun h=>?_) (fun h=>?_)<;>cbv)
  | (refine aI2 ?_ ?_)
 all_goals subst hP hB0 hB1 hH
 all_goals clear hl
 all_goals try dsimp only at hk
 all_goals try dsimp only
 all_goals try exact fin
 ·exact⟨Int.le_refl 0,Int.natCast_nonneg _,rfl⟩
 all_goals obtain⟨q0,q1,rfl⟩:=hk
 all_goals simp only [std] at *
 all_goals have h1:=toB_len (mapK lowC s k)
 all_goals rw [mapK_len] at h1
 all_goals try (have h2:k<s.length:=by have h3:=of_decide_eq_true ‹decide (k<((toBl (mapK lowC s k)).length : Int))=true›;rwa [h1] at h3)
 all_goals try rw [toB_get,mapK_get q0 h2] at h
 all_goals try (simp only [mapK_len,toB_len,toB_get] at *;simp at *;lia)
 ·rw [toB_get,mapK_get q0 h2]
  have:=(low_cap h).1
  have:=(lowC (s.getD k.toNat 0)).toNat_lt
  refine⟨?_,?_⟩
  ·show (0:Int)≤_;omega
  ·show _≤(255:Int);omega
 ·have g1:k+1≤(s.length:Int):=by lia
  refine⟨by lia,g1,?_⟩
  rw [toB_get,mapK_get q0 h2,←(low_cap h).1,toB_set,mapK_set q0 h2 rfl]
 ·have g1:k+1≤(s.length:Int):=by lia
  exact⟨by lia,g1,by rw [←mapK_no q0 h2 (low_no h).1]⟩
 ·rw [toS_toB,mapK_end (by simpa [mapK_len] using h)];rfl
def sp_s_l03Tiles (p:Pr):FSpec:=fsp (a1 aS) (fun s=>p.ltM (p.lenS s)) (fun s=>.s (tilesS s))
theorem ok_s_l03Tiles:FOk Tryz.prog 127 (sp_s_l03Tiles std):=by
 refine FOk.go (c:=cx std [(219,sp_s_l03Capital std),(74,sp_s_l03Sort std)] [] 0) (cx_ok (.cons ok_s_l03Capital (.cons ok_s_l03Sort .nil)) .nil) mixed Tryz.func127 rfl rfl rfl (by kernel_rfl) ?_
 rintro s hp
 refine⟨rfl,?_⟩
 unfold sp_s_l03Capital sp_s_l03Sort
 obtain⟨H,hH⟩ : ∃H:Hd (Int×List Int),H=⟨fun (k,L)=>0≤k∧k≤s.length∧L=toBl (mapK blankC s k),fun (k,L)=>(s.length-k).toNat,(· < ·)⟩:=⟨_,rfl⟩
 have hl : ∀m n,H.lt m n→m<n:=by subst hH;exact fun _ _ h=>h
 generalize hP:std=p,hB0:tilesS=B0,hB1:inR=B1,hB2:isort=B2
 cbv
 repeat' first
  | (refine fun (_:Unit)=>?_;cbv)
  | (refine Or.inr ⟨7,[],[.s 4 (.i .i64),.o 0 [.i .u8]],[],[],H,rfl,hl,?_,fun ((k,L):Int×List Int) hk=>?_⟩<;>cbv)
  | (refine aI2 (fun h=>?_) (fun h=>?_)<;>cbv)
  | (refine aI2 ?_ ?_)
 all_goals subst hP hB0 hB1 hB2 hH
 all_goals clear hl
 all_goals try dsimp only at hk
 all_goals try dsimp only
 all_goals try exact fin
 ·exact⟨Int.le_refl 0,Int.natCast_nonneg _,rfl⟩
 all_goals obtain⟨q0,q1,rfl⟩:=hk
 all_goals simp only [std] at *
 all_goals have h1:=toB_len (mapK blankC s k)
 all_goals rw [mapK_len] at h1
 all_goals try (have h2:k<s.length:=by have h3:=of_decide_eq_true ‹decide (k<((toBl (mapK blankC s k)).length : Int))=true›;rwa [h1] at h3)
 all_goals try rw [toB_get,mapK_get q0 h2] at h
 all_goals try (simp only [mapK_len,toB_len,toB_get,toS_toB] at *;simp at *;lia)
 ·have g1:k+1≤(s.length:Int):=by lia
  refine⟨by lia,g1,?_⟩
  rw [←mapK_set q0 h2 (low_cap h).2,←toB_set];rfl
 ·have g1:k+1≤(s.length:Int):=by lia
  exact⟨by lia,g1,by rw [←mapK_no q0 h2 (low_no h).2]⟩
 ·rw [toS_toB,mapK_end (by simpa [mapK_len] using h)];rfl
def sp_s_l05Long (p:Pr):FSpec:=fsp (a1 aS) (fun s=>p.ltM (p.lenS s)) (fun s=>.b (longB s))
theorem ok_s_l05Long:FOk Tryz.prog 244 (sp_s_l05Long std):=by
 refine FOk.go (c:=cx std [(293,sp_s_IsWord std)] [] 0) (cx_ok (.cons ok_s_IsWord .nil) .nil) mixed Tryz.func244 rfl rfl rfl (by kernel_rfl) ?_
 rintro s hp
 refine⟨rfl,?_⟩
 unfold sp_s_IsWord
 generalize hP:std=p,hB0:longB=B0,hB1:isWordB=B1
 cbv
 repeat' first
  | (refine fun (_:Unit)=>?_;cbv)
  | (refine aI2 (fun h=>?_) (fun h=>?_)<;>cbv)
  | (refine aI2 ?_ ?_)
  | (refine Or.inl (fun (_:Unit)=>?_);cbv)
 all_goals subst hP hB0 hB1
 all_goals try exact fin
 all_goals (simp [std,longB] at * <;>first | lia | (simp_all;done))
end Ax
namespace Ax
set_option maxRecDepth 100000
structure WsP (ws:List (List UInt8)):Prop where
 len:ws.length≤274877906944
 all : ∀k:Nat,(ws.getD k []).length ≤274877906944
def lexK (ws:List (List UInt8)) (k:Int):Bool:=lexFrom (if k≤0 then none else some (ws.getD (k-1).toNat [])) (ws.drop k.toNat)
theorem lexK_step {s:List (List UInt8)} {k:Int} (h0:0≤k) (h:k<s.length):lexK s k=(longB (s.getD k.toNat [])&&((decide (k≤0)||sLt (s.getD (k-1).toNat []) (s.getD k.toNat []))&&lexK s (k+1))):=by
 unfold lexK
 rw [dc h0 h [],if_neg (show ¬k+1≤0 by omega),show k+1-1=k from by omega]
 by_cases hk:k≤0
 ·simp [hk,lexFrom]
 ·simp [hk,lexFrom,Bool.and_assoc]
theorem lexK_end {s:List (List UInt8)} {k:Int} (h:(s.length:Int)≤k):lexK s k=true:=by unfold lexK;rw [dn h];cases (if k≤0 then none else some (s.getD (k-1).toNat []))<;>rfl
theorem wsP_lt {ws:List (List UInt8)} (h:WsP ws) (k:Int):std.ltM (std.lenS (std.get [] ws k)):=ltM_of (h.all k.toNat)
def sp_s_l05Ok (p:Pr):FSpec:=fsp (a1 (aP aLex)) (fun ws=>WsP ws) (fun ws=>.b (lexB ws))
theorem ok_s_l05Ok:FOk Tryz.prog 172 (sp_s_l05Ok std):=by
 refine FOk.go (c:=cx std [(244,sp_s_l05Long std)] [] 0) (cx_ok (.cons ok_s_l05Long .nil) .nil) mixed Tryz.func172 rfl rfl rfl (by kernel_rfl) ?_
 rintro ws hp
 refine⟨rfl,?_⟩
 unfold sp_s_l05Long
 obtain⟨H,hH⟩ : ∃H:Hd (Int),H=⟨fun k=>0≤k∧k≤ws.length∧lexB ws=(lexK ws k&&decide (ws.length≤200)),fun k=>(ws.length-k).toNat,(· < ·)⟩:=⟨_,rfl⟩
 have hl : ∀m n,H.lt m n→m<n:=by subst hH;exact fun _ _ h=>h
 generalize hP:std=p,hB0:lexB=B0,hB1:longB=B1
 cbv
 repeat' first
  | (refine fun (_:Unit)=>?_;cbv)
  | (refine Or.inr ⟨4,[],[.s 3 (.i .i64)],[],[],H,rfl,hl,?_,fun (k:Int) hk=>?_⟩<;>cbv)
  | (refine aI2 (fun h=>?_) (fun h=>?_)<;>cbv)
  | (refine aI2 ?_ ?_)
 all_goals subst hP hB0 hB1 hH
 all_goals clear hl
 all_goals try dsimp only at hk
 all_goals try dsimp only
 all_goals have f1:=hp.len
 all_goals try exact fin
 all_goals try first
  | exact⟨Int.le_refl 0,Int.natCast_nonneg _,rfl⟩
  | (simp [lexB,sLt];done)
  | (obtain⟨q0,q1,e⟩:=hk;refine⟨by simp [std] at *;lia,by simp [std] at *;lia,?_⟩;rw [e,lexK_step q0 (lt_of ‹_›)];clear e;simp_all [std,lexB,sLt];done)
  | (obtain⟨q0,q1,e⟩:=hk;refine⟨by simp [std] at *;lia,by simp [std] at *;lia,?_⟩;rw [e,lexK_step q0 (lt_of ‹_›)];clear e;simp_all [std,lexB,sLt]<;>grind;done)
  | (obtain⟨q0,q1,e⟩:=hk;rw [e,lexK_step q0 (lt_of ‹_›)];clear e;simp_all [std,lexB,sLt];done)
  | (obtain⟨q0,q1,e⟩:=hk;rw [e,lexK_step q0 (lt_of ‹_›)];clear e;simp_all [std,lexB,sLt]<;>grind;done)
  | (obtain⟨q0,q1,e⟩:=hk;rw [e,lexK_end (ge_of ‹_›)];clear e;simp_all [std,lexB,sLt];done)
  | (obtain⟨q0,q1,e⟩:=hk;rw [e,lexK_end (ge_of ‹_›)];clear e;simp_all [std,lexB,sLt]<;>grind;done)
 ·exact wsP_lt hp _
def firI (ws:List (List UInt8)) (s:List UInt8):Int:=firstK ws s
def sp_s_l05First (p:Pr):FSpec:=fsp (ac aW (a1 aS)) (fun (ws,s)=>WsP ws) (fun (ws,s)=>.i .i64 (firI ws s))
theorem ok_s_l05First:FOk Tryz.prog 307 (sp_s_l05First std):=by
 refine FOk.go (c:=cx std [] [] 0) (cx_ok .nil .nil) mixed Tryz.func307 rfl rfl rfl (by kernel_rfl) ?_
 rintro ⟨ws,s⟩ hp
 dsimp only at hp
 refine⟨rfl,?_⟩
 obtain⟨H,hH⟩ : ∃H:Hd (Int),H=⟨fun k=>0≤k∧k≤ws.length∧firI ws s=k+firI (ws.drop k.toNat) s,fun k=>(ws.length-k).toNat,(· < ·)⟩:=⟨_,rfl⟩
 have hl : ∀m n,H.lt m n→m<n:=by subst hH;exact fun _ _ h=>h
 generalize hP:std=p,hB0:firI=B0
 cbv
 repeat' first
  | (refine fun (_:Unit)=>?_;cbv)
  | (refine Or.inr ⟨6,[],[.s 5 (.i .i64)],[],[],H,rfl,hl,?_,fun (k:Int) hk=>?_⟩<;>cbv)
  | (refine aI2 (fun h=>?_) (fun h=>?_)<;>cbv)
  | (refine aI2 ?_ ?_)
 all_goals subst hP hB0 hH
 all_goals clear hl
 all_goals try dsimp only at hk
 all_goals try dsimp only
 all_goals have f1:=hp.len
 all_goals try exact fin
 ·obtain⟨q0,q1,e⟩:=hk
  have h1:k<ws.length:=lt_of ‹std.ltI k _=true›
  have g1:k+1≤(ws.length:Int):=by lia
  have h2:sLt (ws.getD k.toNat []) s=true:=h
  refine⟨by show 0≤k+1;omega,g1,?_⟩
  rw [e,dc q0 h1 []]
  show k+(firstK (_::_) s:Int)=(k+1)+(firstK (ws.drop (k+1).toNat) s:Int)
  rw [firstK,if_pos h2]
  omega
 ·obtain⟨q0,q1,e⟩:=hk
  have h1:k<ws.length:=lt_of ‹std.ltI k _=true›
  have h2:sLt (ws.getD k.toNat []) s=false:=h
  rw [e,dc q0 h1 []]
  show k=k+(firstK (_::_) s:Int)
  rw [firstK,h2]
  simp
 ·obtain⟨q0,q1,e⟩:=hk
  have h1:(ws.length:Int)≤k:=by simpa using h
  rw [e,dn h1]
  simp [firI,firstK]
def sp_s_l05Has (p:Pr):FSpec:=fsp (ac aW (a1 aS)) (fun (ws,s)=>WsP ws) (fun (ws,s)=>.b (hasB ws s))
theorem ok_s_l05Has:FOk Tryz.prog 272 (sp_s_l05Has std):=by
 refine FOk.go (c:=cx std [(307,sp_s_l05First std)] [] 0) (cx_ok (.cons ok_s_l05First .nil) .nil) mixed Tryz.func272 rfl rfl rfl (by kernel_rfl) ?_
 rintro ⟨ws,s⟩ hp
 dsimp only at hp
 refine⟨rfl,?_⟩
 unfold sp_s_l05First
 generalize hP:std=p,hB0:firI=B0,hB1:hasB=B1
 cbv
 repeat' first
  | (refine fun (_:Unit)=>?_;cbv)
  | (refine aI2 (fun h=>?_) (fun h=>?_)<;>cbv)
  | (refine aI2 ?_ ?_)
  | (refine Or.inl (fun (_:Unit)=>?_);cbv)
 all_goals subst hP hB0 hB1
 all_goals have f1:=hp.len
 all_goals try exact fin
 ·exact⟨Int.natCast_nonneg _,lt_of h⟩
 ·have h1:firI ws s<ws.length:=lt_of h
  unfold firI at h1 ⊢
  unfold hasB
  show (ws.getD (firstK ws s) []==s)=_
  rw [List.getD_eq_getElem?_getD,List.getElem?_eq_getElem (by omega)]
  rfl
 ·have h1:(ws.length:Int)≤firI ws s:=by simpa using h
  unfold firI at h1
  unfold hasB
  rw [List.getElem?_eq_none (by omega)]
  rfl
def sp_s_l11Size (p:Pr):FSpec:=fsp (a1 aI) (fun n=>True) (fun n=>.b (inR n 5 15))
theorem ok_s_l11Size:FOk Tryz.prog 231 (sp_s_l11Size std):=by
 refine FOk.go (c:=cx std [(89,sp_s_l00In std)] [] 0) (cx_ok (.cons ok_s_l00In .nil) .nil) mixed Tryz.func231 rfl rfl rfl (by kernel_rfl) ?_
 rintro n hp
 refine⟨rfl,?_⟩
 unfold sp_s_l00In
 generalize hP:std=p,hB0:inR=B0
 cbv
 repeat' first
  | (refine fun (_:Unit)=>?_;cbv)
  | (refine aI2 (fun h=>?_) (fun h=>?_)<;>cbv)
  | (refine aI2 ?_ ?_)
  | (refine Or.inl (fun (_:Unit)=>?_);cbv)
 all_goals subst hP hB0
 all_goals try exact fin
def cellI (n:Int):Bool:=n==46||(inR n 97 122||inR n 65 90)
def premI (n:Int):Bool:=n==46||(n==50||(n==51||(n==100||n==116)))
def sp_s_l11Cell (p:Pr):FSpec:=fsp (a1 aC) (fun n=>True) (fun n=>.b (cellI n))
theorem ok_s_l11Cell:FOk Tryz.prog 161 (sp_s_l11Cell std):=by
 refine FOk.go (c:=cx std [(236,sp_s_l01Small std),(219,sp_s_l03Capital std)] [] 0) (cx_ok (.cons ok_s_l01Small (.cons ok_s_l03Capital .nil)) .nil) mixed Tryz.func161 rfl rfl rfl (by kernel_rfl) ?_
 rintro n hp
 refine⟨rfl,?_⟩
 unfold sp_s_l01Small sp_s_l03Capital
 generalize hP:std=p,hB0:inR=B0,hB1:cellI=B1
 cbv
 repeat' first
  | (refine fun (_:Unit)=>?_;cbv)
  | (refine aI2 (fun h=>?_) (fun h=>?_)<;>cbv)
  | (refine aI2 ?_ ?_)
  | (refine Or.inl (fun (_:Unit)=>?_);cbv)
 all_goals subst hP hB0 hB1
 all_goals try exact fin
 all_goals (simp [std,cellI] at * <;>first | lia | (simp_all;done))
def sp_s_l11Premium (p:Pr):FSpec:=fsp (a1 aC) (fun n=>True) (fun n=>.b (premI n))
theorem ok_s_l11Premium:FOk Tryz.prog 235 (sp_s_l11Premium std):=by
 refine FOk.go (c:=cx std [] [] 0) (cx_ok .nil .nil) mixed Tryz.func235 rfl rfl rfl (by kernel_rfl) ?_
 rintro n hp
 refine⟨rfl,?_⟩
 generalize hP:std=p,hB0:premI=B0
 cbv
 repeat' first
  | (refine fun (_:Unit)=>?_;cbv)
  | (refine aI2 (fun h=>?_) (fun h=>?_)<;>cbv)
  | (refine aI2 ?_ ?_)
  | (refine Or.inl (fun (_:Unit)=>?_);cbv)
 all_goals subst hP hB0
 all_goals try exact fin
 all_goals (simp [std,premI] at * <;>first | lia | (simp_all;done))
structure BdP (b:Bd):Prop where
 p:b.prem.length≤274877906944
 c:b.cells.length≤274877906944
structure AtP (b:Bd) (r c:Int):Prop where
 fit:b.Fit
 inn:b.inB r c=true
def atI (b:Bd) (r c:Int):Int:=(b.at_ r c).toNat
theorem atP_bd {b:Bd} {r c:Int} (h:AtP b r c):(0≤r*b.size∧r*b.size≤225)∧(0≤r*b.size+c∧r*b.size+c<b.cells.length∧(b.cells.length:Int)≤225):=by
 obtain⟨⟨h1,h2⟩,h3,h4⟩:=inB_iff.1 h.inn
 have h5:=mul_bounds h.fit.lo h.fit.hi h1 h2 h3 h4
 have h6:=h.fit.cells
 have h7:=h.fit.hi
 have h8:r*b.size≤15*15:=Int.mul_le_mul (by omega) h7 (by have:=h.fit.lo;omega) (by omega)
 have h9:0≤r*b.size:=Int.mul_nonneg h1 (by have:=h.fit.lo;omega)
 refine⟨⟨h9,h8⟩,by omega,?_⟩
 rw [h6]
 omega
theorem at_i (b:Bd) (r c:Int) (n:Nat) (h:n<256):(b.at_ r c==UInt8.ofNat n)=(atI b r c==(n:Int)):=byte_lit h
def sp_s_l11In (p:Pr):FSpec:=fsp (ac (aP aBd) (ac aI (a1 aI))) (fun (b,r,c)=>p.inK .i64 (p.sub b.size 1)) (fun (b,r,c)=>.b (b.inB r c))
theorem ok_s_l11In:FOk Tryz.prog 160 (sp_s_l11In std):=by
 refine FOk.go (c:=cx std [(89,sp_s_l00In std)] [] 0) (cx_ok (.cons ok_s_l00In .nil) .nil) mixed Tryz.func160 rfl rfl rfl (by kernel_rfl) ?_
 rintro ⟨b,r,c⟩ hp
 dsimp only at hp
 refine⟨rfl,?_⟩
 unfold sp_s_l00In
 generalize hP:std=p,hB0:Bd.inB=B0,hB1:inR=B1
 cbv
 repeat' first
  | (refine fun (_:Unit)=>?_;cbv)
  | (refine aI2 (fun h=>?_) (fun h=>?_)<;>cbv)
  | (refine aI2 ?_ ?_)
  | (refine Or.inl (fun (_:Unit)=>?_);cbv)
 all_goals subst hP hB0 hB1
 all_goals try exact fin
 ·unfold Bd.inB;rw [show inR r 0 (b.size-1)=true from h];rfl
 ·unfold Bd.inB;rw [show inR r 0 (b.size-1)=false from h];rfl
def sp_s_l11At (p:Pr):FSpec:=fsp (ac (aP aBd) (ac aI (a1 aI))) (fun (b,r,c)=>AtP b r c) (fun (b,r,c)=>.i .u8 (atI b r c))
theorem ok_s_l11At:FOk Tryz.prog 197 (sp_s_l11At std):=by
 refine FOk.go (c:=cx std [] [] 0) (cx_ok .nil .nil) mixed Tryz.func197 rfl rfl rfl (by kernel_rfl) ?_
 rintro ⟨b,r,c⟩ hp
 dsimp only at hp
 refine⟨rfl,?_⟩
 generalize hP:std=p,hB0:atI=B0
 cbv
 repeat' first
  | (refine fun (_:Unit)=>?_;cbv)
  | (refine aI2 (fun h=>?_) (fun h=>?_)<;>cbv)
  | (refine aI2 ?_ ?_)
  | (refine Or.inl (fun (_:Unit)=>?_);cbv)
 all_goals subst hP hB0
 all_goals have f1:=atP_bd hp
 all_goals try exact fin
def sp_s_l11Full (p:Pr):FSpec:=fsp (ac (aP aBd) (ac aI (a1 aI))) (fun (b,r,c)=>b.Fit) (fun (b,r,c)=>.b (b.full r c))
theorem ok_s_l11Full:FOk Tryz.prog 196 (sp_s_l11Full std):=by
 refine FOk.go (c:=cx std [(160,sp_s_l11In std),(197,sp_s_l11At std)] [] 0) (cx_ok (.cons ok_s_l11In (.cons ok_s_l11At .nil)) .nil) mixed Tryz.func196 rfl rfl rfl (by kernel_rfl) ?_
 rintro ⟨b,r,c⟩ hp
 dsimp only at hp
 refine⟨rfl,?_⟩
 unfold sp_s_l11In sp_s_l11At
 generalize hP:std=p,hB0:Bd.full=B0,hB1:Bd.inB=B1,hB2:atI=B2
 cbv
 repeat' first
  | (refine fun (_:Unit)=>?_;cbv)
  | (refine aI2 (fun h=>?_) (fun h=>?_)<;>cbv)
  | (refine aI2 ?_ ?_)
  | (refine Or.inl (fun (_:Unit)=>?_);cbv)
 all_goals subst hP hB0 hB1 hB2
 all_goals have f1:=hp.lo
 all_goals have f2:=hp.hi
 all_goals try exact fin
 ·exact⟨hp,h⟩
 ·unfold Bd.full
  rw [show b.inB r c=true from h,show (46:UInt8)=UInt8.ofNat 46 from rfl,at_i _ _ _ _ (by decide)]
  show (!_)=_
  simp
 ·unfold Bd.full;rw [show b.inB r c=false from h];rfl
end Ax
end Go.Proofs.YtjjonmhpgkahoaaGreatDoor
