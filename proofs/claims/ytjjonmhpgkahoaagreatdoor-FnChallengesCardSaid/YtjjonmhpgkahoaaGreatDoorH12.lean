/-
  Placements of the spec package.
  Conditions: none.
-/
import Derived.Test.YtjjonmhpgkahoaaGreatDoorH11
set_option linter.unusedSimpArgs false
set_option linter.unusedVariables false
namespace Go.Proofs.YtjjonmhpgkahoaaGreatDoor
namespace Ax
set_option maxRecDepth 100000
def nv (p:Pr):aa:=fsp (a1 aS) (fun s=>p.ltM (p.lenS s)) (fun s=>.b (eJ s))
theorem A7:FOk Tryz.prog 269 (nv std):=by
 refine FOk.go (c:=cx std [(306,ll std)] [] 0) (ae (.cons xZ .nil) .nil) mixed Tryz.func269 rfl rfl rfl (by kernel_rfl) ?_
 rintro s hp
 refine⟨rfl,?_⟩
 unfold ll
 generalize hP:std=p,hB0:eJ=B0,hB1:cE=B1
 cbv
 repeat' first|refine fun (_:Unit)=>?_;cbv|refine aI2 (fun h=>?_) (fun h=>?_)<;>cbv|refine aI2 ?_ ?_|refine Or.inl (fun (_:Unit)=>?_);cbv
 all_goals subst hP hB0 hB1
 all_goals try exact fin
 all_goals (simp [std,eJ] at * <;>first | lia | (simp_all;done))
structure OnR (b:Bd) (q:Pl):Prop where
 fit:b.Fit
 len:q.word.length≤15
 inn:b.inB q.row q.col=true
 out:q.col+q.word.length≤b.size
theorem OnR.at {b:Bd} {q:Pl} (h:OnR b q) {i:Int} (h0:0≤i) (h1:i<q.word.length):AtP b q.row (q.col+i):=by
 obtain⟨⟨a1,a2⟩,a3,a4⟩:=cK.1 h.inn
 have:=h.out
 exact⟨h.fit,cK.2 ⟨⟨a1,a2⟩,by omega,by omega⟩⟩
theorem OnR.col {b:Bd} {q:Pl} (h:OnR b q):0≤q.col∧q.col≤14∧0≤q.row∧q.row≤14:=by
 obtain⟨⟨a1,a2⟩,a3,a4⟩:=cK.1 h.inn
 have:=h.fit.hi
 omega
structure O2 (b:Bd) (q:Pl):Prop where
 fit:b.Fit
 len:q.word.length≤15
theorem MV {b:Bd} {q:Pl} (h:b.inB q.row q.col=false):jb b q=false:=by simp [jb,h]
theorem Og {b:Bd} {q:Pl} (h:std.ltI b.size (std.add q.col (std.lenS q.word))=true):jb b q=false:=by
 have h : ¬q.col+(q.word.length:Int)≤b.size:=by simp [std] at h;omega
 simp [jb,h]
theorem Ok {b:Bd} {q:Pl} (h:b.full q.row (std.sub q.col 1)=true):jb b q=false:=by
 have h:b.full q.row (q.col-1)=true:=h
 simp [jb,h]
theorem Ms {b:Bd} {q:Pl} (h:b.full q.row (std.add q.col (std.lenS q.word))=true):jb b q=false:=by
 have h:b.full q.row (q.col+q.word.length)=true:=h
 simp [jb,h]
theorem QR {b:Bd} {q:Pl} (hp:O2 b q) (h1:b.inB q.row q.col=true) (h2:std.ltI b.size (std.add q.col (std.lenS q.word))=false) (h3:b.full q.row (std.sub q.col 1)=false) (h4:b.full q.row (std.add q.col (std.lenS q.word))=false):jb b q=kA b q.row false q.word q.col∧OnR b q:=by
 have h2:q.col+(q.word.length:Int)≤b.size:=by simp [std] at h2;omega
 have h3:b.full q.row (q.col-1)=false:=h3
 have h4:b.full q.row (q.col+q.word.length)=false:=h4
 exact⟨by simp [jb,h1,h2,h3,h4],hp.fit,hp.len,h1,h2⟩
theorem JR {b:Bd} {r c:Int} (hf:b.Fit) (h:b.inB r c=true):0≤c∧c≤14∧0≤r∧r≤14:=by
 obtain⟨⟨a1,a2⟩,a3,a4⟩:=cK.1 h
 have:=hf.hi
 omega
section
variable {b:Bd} {q:Pl} {f:Bool} {i:Int}
theorem NR (h0:0≤i) (h1:i<q.word.length) (h:std.eqI (atI b q.row (std.add q.col i)) 46=true):kA b q.row f (q.word.drop i.toNat) (q.col+i)=kA b q.row true (q.word.drop (i+1).toNat) (q.col+(i+1)):=by
 rw [dc h0 h1 0,kA,show (46:UInt8)=UInt8.ofNat 46 from rfl,JA _ _ _ _ (by decide),if_pos (show (atI b q.row (q.col+i)==((46:Nat):Int))=true from h),Int.add_assoc]
theorem Oe (h0:0≤i) (h1:i<q.word.length) (h:std.eqI (atI b q.row (std.add q.col i)) 46=false) (h2:std.eqI (atI b q.row (std.add q.col i)) (std.byte q.word i)=true):kA b q.row f (q.word.drop i.toNat) (q.col+i)=kA b q.row f (q.word.drop (i+1).toNat) (q.col+(i+1)):=by
 have h3:((((b.at_ q.row (q.col+i)).toNat : Nat):Int)==(((q.word.getD i.toNat 0).toNat : Nat):Int))=true:=h2
 have h4:b.at_ q.row (q.col+i)=q.word.getD i.toNat 0:=UInt8.toNat_inj.1 (by rw [beq_iff_eq] at h3;omega)
 rw [dc h0 h1 0,kA,show (46:UInt8)=UInt8.ofNat 46 from rfl,JA _ _ _ _ (by decide),if_neg (by rw [show (atI b q.row (q.col+i)==((46:Nat):Int))=false from h];exact Bool.false_ne_true),h4,if_pos (by simp),Int.add_assoc]
theorem Tp (h0:0≤i) (h1:i<q.word.length) (h:std.eqI (atI b q.row (std.add q.col i)) 46=false) (h2:std.eqI (atI b q.row (std.add q.col i)) (std.byte q.word i)=false):kA b q.row f (q.word.drop i.toNat) (q.col+i)=false:=by
 have h3:((((b.at_ q.row (q.col+i)).toNat : Nat):Int)==(((q.word.getD i.toNat 0).toNat : Nat):Int))=false:=h2
 have h4 : ¬b.at_ q.row (q.col+i)=q.word.getD i.toNat 0:=fun hh=>by rw [hh] at h3;simp at h3
 rw [dc h0 h1 0,kA,show (46:UInt8)=UInt8.ofNat 46 from rfl,JA _ _ _ _ (by decide),if_neg (by rw [show (atI b q.row (q.col+i)==((46:Nat):Int))=false from h];exact Bool.false_ne_true),if_neg (by simpa using h4)]
end
def nB (p:Pr):aa:=fsp (ac (aP aBd) (a1 (aA aPl))) (fun (b,q)=>O2 b q) (fun (b,q)=>.b (jb b q))
theorem Bz:FOk Tryz.prog 270 (nB std):=by
 refine FOk.go (c:=cx std [(160,kV std),(196,iK std),(197,dw std)] [] 0) (ae (.cons wQ (.cons s7 (.cons lA .nil))) .nil) mixed Tryz.func270 rfl rfl rfl (by kernel_rfl) ?_
 rintro ⟨b,q⟩ hp
 dsimp only at hp
 refine⟨rfl,?_⟩
 unfold kV iK dw
 obtain⟨H,hH⟩ : ∃H:Hd (Bool×Int),H=⟨fun (f,i)=>0≤i∧i≤q.word.length∧jb b q=kA b q.row f (q.word.drop i.toNat) (q.col+i),fun (f,i)=>(q.word.length-i).toNat,(· < ·)⟩:=⟨_,rfl⟩
 have hl:=hdl hH
 generalize hP:std=p,hB0:jb=B0,hB1:Bd.inB=B1,hB2:Bd.full=B2,hB3:atI=B3
 cbv
 repeat' first|refine fun (_:Unit)=>?_;cbv|refine Or.inr ⟨49,[],[.s 6 .b,.s 7 (.i .i64)],[],[],H,rfl,hl,?_,fun ((f,i):Bool×Int) hk=>?_⟩<;>cbv|refine aI2 (fun h=>?_) (fun h=>?_)<;>cbv|refine aI2 ?_ ?_
 all_goals subst hP hB0 hB1 hB2 hB3 hH
 all_goals clear hl
 all_goals try dsimp only at hk
 all_goals try dsimp only
 all_goals have f1:=hp.fit.lo
 all_goals have f2:=hp.fit.hi
 all_goals have f3:=hp.len
 all_goals try exact fin
 all_goals try first
  | exact MV (show b.inB q.row q.col=false by assumption)
  | exact Og ‹_›
  | exact Ok (show b.full q.row (std.sub q.col 1)=true by assumption)
  | exact Ms (show b.full q.row (std.add q.col (std.lenS q.word))=true by assumption)
 all_goals have hc:=JR hp.fit (show b.inB q.row q.col=true by assumption)
 all_goals try (simp [std] at *;lia)
 all_goals obtain⟨e0,ho⟩:=QR hp (show b.inB q.row q.col=true by assumption) ‹_› (show b.full q.row (std.sub q.col 1)=false by assumption) (show b.full q.row (std.add q.col (std.lenS q.word))=false by assumption)
 all_goals first
  | (exact⟨Int.le_refl 0,Int.natCast_nonneg _,by rw [e0,Int.add_zero];rfl⟩;done)
  | (obtain⟨q0,q1,e⟩:=hk
     first
      | (rw [e,dn (ao ‹_›)];rfl)
      | (have h1:i<q.word.length:=ah ‹_›
         first
          | (exact ho.at q0 h1;done)
          | (exact e.trans (Tp q0 h1 ‹_› ‹_›);done)
          | (have g1:i+1≤(q.word.length:Int):=by omega
             exact⟨by show 0≤i+1;omega,g1,e.trans (NR q0 h1 ‹_›)⟩;done)
          | (have g1:i+1≤(q.word.length:Int):=by omega
             exact⟨by show 0≤i+1;omega,g1,e.trans (Oe q0 h1 ‹_› ‹_›)⟩;done)))
structure OkP (b:Bd) (q:Pl):Prop where
 bd:BdP b
 len:q.word.length≤274877906944
theorem CP {s:List UInt8} (h:eJ s=true):2≤s.length∧s.length≤12:=by
 simp only [eJ,cE,inR,Bool.and_eq_true,decide_eq_true_eq] at h
 omega
theorem Qd {b:Bd} {q:Pl} (h:bdB b=false):okB b q=false:=by simp [okB,h]
theorem Rl {b:Bd} {q:Pl} (h:eJ q.word=false):okB b q=false:=by simp [okB,h]
def k8 (p:Pr):aa:=fsp (ac (aP aBd) (a1 (aA aPl))) (fun (b,q)=>OkP b q) (fun (b,q)=>.b (okB b q))
theorem yD:FOk Tryz.prog 212 (k8 std):=by
 refine FOk.go (c:=cx std [(159,gY std),(269,nv std),(125,aJ std),(270,nB std)] [] 0) (ae (.cons rB (.cons A7 (.cons cB (.cons Bz .nil)))) .nil) mixed Tryz.func212 rfl rfl rfl (by kernel_rfl) ?_
 rintro ⟨b,q⟩ hp
 dsimp only at hp
 refine⟨rfl,?_⟩
 unfold gY nv aJ nB
 generalize hP:std=p,hB0:okB=B0,hB1:bdB=B1,hB2:eJ=B2,hB3:af=B3,hB4:ab=B4,hB5:jb=B5
 cbv
 repeat' first|refine fun (_:Unit)=>?_;cbv|refine aI2 (fun h=>?_) (fun h=>?_)<;>cbv|refine aI2 ?_ ?_|refine Or.inl (fun (_:Unit)=>?_);cbv
 all_goals subst hP hB0 hB1 hB2 hB3 hB4 hB5
 all_goals try exact fin
 ·exact aR hp.len
 ·exact Rl ‹_›
 ·exact bdB.fit (show bdB b=true by assumption)
 ·have h2:=CP (show eJ q.word=true by assumption)
  exact⟨qi (bdB.fit (show bdB b=true by assumption)) q,by show (ab q).word.length ≤15;rw [da];omega⟩
 ·show jb (af b q) (ab q)=_
  rw [okB,show bdB b=true by assumption,show eJ q.word=true by assumption];rfl
 ·exact Qd (show bdB b=false by assumption)
def frI (b:Bd) (q:Pl):List Int:=(dv b q).map fun i:Nat=>(i:Int)
def frK (b:Bd) (q:Pl) (k:Int):List Int:=(r5 b q k.toNat).map fun i:Nat=>(i:Int)
theorem GJ (b:Bd) (q:Pl) (k:Int):(frK b q k).length ≤k.toNat:=by
 unfold frK r5
 rw [List.length_map]
 exact Nat.le_trans (List.length_filter_le _ _) (by simp)
theorem C9 {b:Bd} {q:Pl} {k:Int} (h0:0≤k):frK b q (k+1)=frK b q k++(if (atI b q.row (q.col+k)==46)=true then [k] else []):=by
 have e:((k.toNat:Nat):Int)=k:=by omega
 unfold frK r5
 rw [show (k+1).toNat =k.toNat+1 from by omega,List.range_succ,List.filter_append,List.map_append,List.filter_cons,e,show (46:UInt8)=UInt8.ofNat 46 from rfl,JA _ _ _ _ (by decide)]
 rw [show ((46:Nat):Int)=46 from rfl]
 by_cases h:(atI b q.row (q.col+k)==46)=true
 ·rw [if_pos h,if_pos h];simp [e]
 ·rw [if_neg h,if_neg h];simp
def aU (p:Pr):aa:=fsp (ac (aP aBd) (a1 (aA aPl))) (fun (b,q)=>OnR b q) (fun (b,q)=>.osl 0) (fun (b,q)=>[(0,.own [.i .i64] (frI b q) 2)])
theorem dj:FOk Tryz.prog 217 (aU std):=by
 refine FOk.go (c:=cx std [(197,dw std)] [] 0) (ae (.cons lA .nil) .nil) mixed Tryz.func217 rfl rfl rfl (by kernel_rfl) ?_
 rintro ⟨b,q⟩ hp
 dsimp only at hp
 refine⟨rfl,?_⟩
 unfold dw
 obtain⟨H,hH⟩ : ∃H:Hd (Int×List Int),H=⟨fun (k,L)=>0≤k∧k≤q.word.length∧L=frK b q k,fun (k,L)=>(q.word.length-k).toNat,(· < ·)⟩:=⟨_,rfl⟩
 have hl:=hdl hH
 generalize hP:std=p,hB0:frI=B0,hB1:atI=B1
 cbv
 repeat' first|refine fun (_:Unit)=>?_;cbv|refine Or.inr ⟨8,[],[.s 6 (.i .i64),.o 1 [.i .i64]],[.s 5],[],H,rfl,hl,?_,fun ((k,L):Int×List Int) hk=>?_⟩<;>cbv|refine aI2 (fun h=>?_) (fun h=>?_)<;>cbv|refine aI2 ?_ ?_
 all_goals subst hP hB0 hB1 hH
 all_goals clear hl
 all_goals try dsimp only at hk
 all_goals try dsimp only
 all_goals have f1:=hp.col
 all_goals have f2:=hp.len
 all_goals try exact fin
 ·exact⟨Int.le_refl 0,Int.natCast_nonneg _,rfl⟩
 all_goals obtain⟨q0,q1,rfl⟩:=hk
 all_goals have h2:=GJ b q k
 all_goals try (have h1:k<q.word.length:=ah ‹_›)
 ·exact hp.at q0 h1
 ·simp [std] at *;lia
 ·have g1:k+1≤(q.word.length:Int):=by omega
  refine⟨by show 0≤k+1;omega,g1,?_⟩
  show frK b q k++[k]=frK b q (k+1)
  rw [C9 q0,if_pos (show (atI b q.row (q.col+k)==46)=true from h)]
 ·have g1:k+1≤(q.word.length:Int):=by omega
  refine⟨by show 0≤k+1;omega,g1,?_⟩
  show frK b q k=frK b q (k+1)
  rw [C9 q0,if_neg (by rw [show (atI b q.row (q.col+k)==46)=false from h];exact Bool.false_ne_true),List.append_nil]
 ·have h3:k=(q.word.length:Int):=by have h4:(q.word.length:Int)≤k:=ao h;exact Int.le_antisymm q1 h4
  subst h3
  rfl
def BR (b:Bd) (q:Pl) (k:Int):List UInt8:=((frI b q).take k.toNat).map fun i:Int=>q.word.getD i.toNat 0
theorem Be {b:Bd} {q:Pl} {k:Int} (h0:0≤k) (h:k<(frI b q).length):0≤(frI b q).getD k.toNat 0∧(frI b q).getD k.toNat 0<q.word.length:=by
 have h1:k.toNat<(frI b q).length :=by omega
 rw [List.getD_eq_getElem?_getD,List.getElem?_eq_getElem h1]
 obtain⟨i,hi,he⟩:=List.mem_map.1 (List.getElem_mem h1)
 have h2:i∈List.range q.word.length:=(List.mem_filter.1 hi).1
 have h2:=List.mem_range.1 h2
 show 0≤(frI b q)[k.toNat]∧(frI b q)[k.toNat]<_
 have he:((i:Nat):Int)=(frI b q)[k.toNat]:=he
 omega
theorem kG (b:Bd) (q:Pl):(frI b q).length ≤q.word.length:=by
 have:=GJ b q q.word.length
 unfold frK at this
 simpa [frI,dv] using this
theorem Ii {b:Bd} {q:Pl} {k:Int} (h0:0≤k) (h:k<(frI b q).length):BR b q (k+1)=BR b q k++[q.word.getD ((frI b q).getD k.toNat 0).toNat 0]:=by
 unfold BR
 rw [tk h0 h 0,List.map_append]
 rfl
theorem I6 {b:Bd} {q:Pl} {k:Int} (h:((frI b q).length : Int)≤k):BR b q k=bB b q:=by
 unfold BR bB
 rw [bZ h]
 unfold frI
 rw [List.map_map]
 rfl
def cD (p:Pr):aa:=fsp (ac (aP aBd) (a1 (aA aPl))) (fun (b,q)=>OnR b q) (fun (b,q)=>.s (bB b q))
theorem iW:FOk Tryz.prog 128 (cD std):=by
 refine FOk.go (c:=cx std [(217,aU std)] [] 0) (ae (.cons dj .nil) .nil) mixed Tryz.func128 rfl rfl rfl (by kernel_rfl) ?_
 rintro ⟨b,q⟩ hp
 dsimp only at hp
 refine⟨rfl,?_⟩
 unfold aU
 obtain⟨H,hH⟩ : ∃H:Hd (Int×List Int),H=⟨fun (k,L)=>0≤k∧k≤(frI b q).length ∧L=aq (BR b q k),fun (k,L)=>((frI b q).length - k).toNat,(· < ·)⟩:=⟨_,rfl⟩
 have hl:=hdl hH
 generalize hP:std=p,hB0:bB=B0,hB1:frI=B1
 cbv
 repeat' first|refine fun (_:Unit)=>?_;cbv|refine Or.inr ⟨12,[],[.s 7 (.i .i64),.o 2 [.i .u8]],[.s 6],[],H,rfl,hl,?_,fun ((k,L):Int×List Int) hk=>?_⟩<;>cbv|refine aI2 (fun h=>?_) (fun h=>?_)<;>cbv|refine aI2 ?_ ?_
 all_goals subst hP hB0 hB1 hH
 all_goals clear hl
 all_goals try dsimp only at hk
 all_goals try dsimp only
 all_goals have f1:=hp.len
 all_goals have f2:=kG b q
 all_goals try exact fin
 ·exact⟨Int.le_refl 0,Int.natCast_nonneg _,rfl⟩
 all_goals obtain⟨q0,q1,rfl⟩:=hk
 all_goals have h2:(BR b q k).length ≤(frI b q).length :=by unfold BR;rw [List.length_map,List.length_take];exact Nat.min_le_right _ _
 all_goals try (have h1:k<(frI b q).length :=ah ‹_›)
 ·exact Be q0 h1
 ·simp [std] at *;lia
 ·have g1:k+1≤((frI b q).length : Int):=by omega
  refine⟨by show 0≤k+1;omega,g1,?_⟩
  show aq _++[((q.word.getD ((frI b q).getD k.toNat 0).toNat 0).toNat : Int)]=aq (BR b q (k+1))
  rw [Ii q0 h1,i6]
 ·show fZ (aq _)=_
  rw [cJ,I6 (ao ‹_›)]
theorem o1 {b:Bd} (hf:b.Fit) {r c:Int} (h:b.full r c=true):0≤r∧r<b.size:=by
 unfold Bd.full at h
 rw [Bool.and_eq_true] at h
 obtain⟨⟨a1,a2⟩, -⟩:=cK.1 h.1
 omega
theorem Na {b:Bd} (hf:b.Fit) {r c:Int} (h:b.full r c=true):AtP b r c:=by
 unfold Bd.full at h
 rw [Bool.and_eq_true] at h
 exact⟨hf,h.1⟩
def upI (b:Bd) (col row:Int):Int:=oB b col row.toNat
theorem LA {b:Bd} {c r:Int} (hf:b.Fit) (h:b.full (r-1) c=true):upI b c r=upI b c (r-1):=by
 have h1:=o1 hf h
 unfold upI
 rw [show r.toNat=(r-1).toNat + 1 from by omega,oB,show (((r-1).toNat : Nat):Int)=r-1 from by omega,if_pos h]
theorem Gc {b:Bd} {c r:Int} (h0:0≤r) (h:b.full (r-1) c=false):upI b c r=r:=by
 unfold upI
 by_cases hr:r=0
 ·subst hr;rfl
 ·rw [show r.toNat=(r-1).toNat + 1 from by omega,oB,show (((r-1).toNat : Nat):Int)=r-1 from by omega,h]
  simp
  omega
theorem Jr (b:Bd) {c r:Int} (h0:0≤r):0≤upI b c r∧upI b c r≤r:=by
 have : ∀n:Nat,oB b c n≤n:=by
  intro n
  induction n with
  | zero=>exact Nat.le_refl 0
  | succ n ih=>unfold oB;split<;>omega
 have:=this r.toNat
 unfold upI
 omega
def crK (b:Bd) (row col letter r:Int):List UInt8:=fF b row.toNat col (u8 letter) (16-r).toNat r.toNat
section
variable {b:Bd} {row col l r:Int}
theorem Jb (h0:0≤row) (h15:row≤14):crK b row col l row=u8 l::crK b row col l (row+1):=by
 unfold crK
 rw [show (16-row).toNat =(16-(row+1)).toNat + 1 from by omega,fF,if_pos rfl,show (row+1).toNat =row.toNat+1 from by omega]
theorem Qq (hf:b.Fit) (h1:r≠row) (h0:0≤row) (h:b.full r col=true):crK b row col l r=b.at_ r col::crK b row col l (r+1):=by
 have h2:=o1 hf h
 have h3:=hf.hi
 unfold crK
 rw [show (16-r).toNat =(16-(r+1)).toNat + 1 from by omega,fF,if_neg (by omega),show ((r.toNat:Nat):Int)=r from by omega,if_pos h,show (r+1).toNat =r.toNat+1 from by omega]
theorem NO (h1:r≠row) (h0:0≤row) (hr:0≤r) (h:b.full r col=false):crK b row col l r=[]:=by
 unfold crK
 cases hn:(16-r).toNat with
 | zero=>rfl
 | succ n=>rw [fF,if_neg (by omega),show ((r.toNat:Nat):Int)=r from by omega,h];rfl
end
theorem Eh {l:Int} (h:std.inK .u8 l):((u8 l).toNat : Int)=l:=by
 obtain⟨h1,h2⟩:=h
 have h1:0≤l:=h1
 have h2:l≤255:=h2
 unfold u8
 rw [UInt8.toNat_ofNat']
 omega
def mc (b:Bd) (row col letter:Int):List UInt8:=crK b row col letter (upI b col row)
structure CrP (b:Bd) (row col:Int):Prop where
 fit:b.Fit
 inn:b.inB row col=true
def gx (p:Pr):aa:=fsp (ac (aP aBd) (ac aI (ac aI (a1 aC)))) (fun (b,row,col,l)=>CrP b row col∧p.inK .u8 l) (fun (b,row,col,l)=>.tup [.s (mc b row col l),.i .i64 (upI b col row)])
theorem qJ:FOk Tryz.prog 275 (gx std):=by
 refine FOk.go (c:=cx std [(196,iK std),(197,dw std)] [] 0) (ae (.cons s7 (.cons lA .nil)) .nil) mixed Tryz.func275 rfl rfl rfl (by kernel_rfl) ?_
 rintro ⟨b,row,col,l⟩ hp
 dsimp only at hp
 refine⟨rfl,?_⟩
 unfold iK dw
 obtain⟨H,hH⟩ : ∃H:Hd (Int),H=⟨fun f=>0≤f∧f≤row∧upI b col row=upI b col f,fun f=>f.toNat,(· < ·)⟩:=⟨_,rfl⟩
 have hl:=hdl hH
 obtain⟨H2,hH2⟩ : ∃H:Hd (Int×List Int),H=⟨fun (r,L)=>(0≤r∧r≤15)∧upI b col row≤r∧∃X,L=aq X∧X.length≤r.toNat∧mc b row col l=X++crK b row col l r,fun (r,L)=>(16-r).toNat,(· < ·)⟩:=⟨_,rfl⟩
 have hl2 : ∀m n,H2.lt m n→m<n:=by subst hH2;exact fun _ _ h=>h
 generalize hP:std=p,hB0:mc=B0,hB1:upI=B1,hB2:Bd.full=B2,hB3:atI=B3
 cbv
 repeat' first|refine fun (_:Unit)=>?_;cbv|refine Or.inr ⟨14,[],[.s 10 (.i .i64)],[],[],H,rfl,hl,?_,fun (f:Int) hk=>?_⟩<;>cbv|refine Or.inr ⟨23,[],[.s 12 (.i .i64),.o 0 [.i .u8]],[.s 11],[],H2,rfl,hl2,?_,fun ((r,L):Int×List Int) hk2=>?_⟩<;>cbv|refine aI2 (fun h=>?_) (fun h=>?_)<;>cbv|refine aI2 ?_ ?_
 all_goals subst hP hB0 hB1 hB2 hB3 hH hH2
 all_goals clear hl
 all_goals try dsimp only at hk
 all_goals clear hl2
 all_goals try dsimp only at hk2
 all_goals try dsimp only
 all_goals have f1:=hp.1.fit.lo
 all_goals have f2:=hp.1.fit.hi
 all_goals have f3:=JR hp.1.fit hp.1.inn
 all_goals try exact fin
 ·exact hp.1.fit
 ·have h1:=o1 hp.1.fit (show b.full (f-1) col=true from h)
  refine⟨h1.1,by show f-1≤row;omega,?_⟩
  rw [hk.2.2]
  exact LA hp.1.fit (show b.full (f-1) col=true from h)
 ·have h1:=o1 hp.1.fit (show b.full (f-1) col=true from h)
  show (f-1).toNat < f.toNat
  omega
 ·have h1:=Gc hk.1 (show b.full (f-1) col=false from h)
  refine⟨⟨hk.1,by omega⟩,by rw [hk.2.2,h1];exact Int.le_refl f,[],rfl,Nat.zero_le _,?_⟩
  unfold mc
  rw [hk.2.2,h1];rfl
 all_goals try (obtain⟨⟨r0,r1⟩,r2,X,rfl,r3,e⟩:=hk2)
 all_goals have h5:=Jr b (c:=col) (r:=row) (by omega)
 ·exact hp.1.fit
 ·exact Na hp.1.fit ‹_›
 ·simp [std] at *;lia
 ·have h1:b.full r col=true:=by assumption
  have h2:r≠row:=by intro hh;have h3:std.eqI r row=false:=‹_›;rw [hh] at h3;simp at h3
  have h4:=o1 hp.1.fit h1
  have g1:r+1≤15:=by omega
  have g2:(X++[b.at_ r col]).length ≤(r+1).toNat :=by simp only [List.length_append,List.length_singleton];omega
  refine⟨⟨by show 0≤r+1;omega,g1⟩,by show _≤r+1;omega,X++[b.at_ r col],i6 X (b.at_ r col),g2,?_⟩
  rw [e,Qq hp.1.fit h2 (by omega) h1]
  simp [std]
 ·have h1:b.full r col=false:=by assumption
  have h2:r≠row:=by intro hh;have h3:std.eqI r row=false:=‹_›;rw [hh] at h3;simp at h3
  show fZ (aq X)=_
  rw [cJ,e,NO h2 (by omega) r0 h1,List.append_nil]
 ·rw [hk.2.2,Gc hk.1 ‹_›]
 ·simp [std] at *;lia
 ·have h2:r=row:=by have h3:std.eqI r row=true:=‹_›;simpa using h3
  subst h2
  have g1:r+1≤15:=by omega
  have g2:(X++[u8 l]).length ≤(r+1).toNat :=by simp only [List.length_append,List.length_singleton];omega
  refine⟨⟨by show 0≤r+1;omega,g1⟩,by show _≤r+1;omega,X++[u8 l],?_,g2,?_⟩
  ·rw [←i6,Eh hp.2];rfl
  ·rw [e,Jb r0 (by omega)]
   simp [std]
def DK (l:List (List UInt8)):List (List UInt8):=l.filter fun s=>decide (1<s.length)
def bN (b:Bd) (q:Pl):List (List UInt8):=q.word::DK ((dv b q).map (bq b q))
def oo (b:Bd) (q:Pl) (k:Int):List (List UInt8):=q.word::DK (((frI b q).take k.toNat).map fun i=>bq b q i.toNat)
theorem Oc (b:Bd) (row col l:Int):mc b row col l=xO b row.toNat col (u8 l):=by
 unfold mc crK xO upI
 rw [Int.toNat_natCast,show ((16:Int)-((oB b col row.toNat:Nat):Int)).toNat =16-oB b col row.toNat from by omega]
theorem D1 (b:Bd) (q:Pl) (k:Int):(oo b q k).length ≤q.word.length+1:=by
 have h1:=kG b q
 have h2:=List.length_filter_le (fun s:List UInt8=>decide (1<s.length)) (((frI b q).take k.toNat).map fun i=>bq b q i.toNat)
 rw [List.length_map,List.length_take] at h2
 unfold oo DK
 rw [List.length_cons]
 omega
theorem zH {b:Bd} {q:Pl} {k:Int} (h0:0≤k) (h:k<(frI b q).length):oo b q (k+1)=oo b q k++(if 1<(bq b q ((frI b q).getD k.toNat 0).toNat).length then [bq b q ((frI b q).getD k.toNat 0).toNat] else []):=by
 unfold oo DK
 rw [tk h0 h 0,List.map_append,List.filter_append,List.cons_append]
 congr 2
 simp only [List.map_cons,List.map_nil,List.filter_cons,List.filter_nil,decide_eq_true_eq]
theorem Da {b:Bd} {q:Pl} {k:Int} (h:((frI b q).length : Int)≤k):oo b q k=bN b q:=by
 unfold oo bN
 rw [bZ h]
 unfold frI
 rw [List.map_map]
 rfl
theorem FY {b:Bd} {q:Pl} {i:Int} (h:0≤i):mc b q.row (q.col+i) (std.byte q.word i)=bq b q i.toNat:=by
 rw [Oc,jM]
 unfold bq
 rw [show ((i.toNat:Nat):Int)=i from by omega]
def dq (p:Pr):aa:=fsp (ac (aP aBd) (a1 (aA aPl))) (fun (b,q)=>OnR b q) (fun (b,q)=>.osl 0) (fun (b,q)=>[(0,.own [.s] (bN b q) 9)])
theorem lg:FOk Tryz.prog 271 (dq std):=by
 refine FOk.go (c:=cx std [(217,aU std),(275,gx std)] [] 0) (ae (.cons dj (.cons qJ .nil)) .nil) mixed Tryz.func271 rfl rfl rfl (by kernel_rfl) ?_
 rintro ⟨b,q⟩ hp
 dsimp only at hp
 refine⟨rfl,?_⟩
 unfold aU gx
 obtain⟨H,hH⟩ : ∃H:Hd (Int×List (List UInt8)),H=⟨fun (k,L)=>0≤k∧k≤(frI b q).length ∧L=oo b q k,fun (k,L)=>((frI b q).length - k).toNat,(· < ·)⟩:=⟨_,rfl⟩
 have hl:=hdl hH
 generalize hP:std=p,hB0:bN=B0,hB1:frI=B1,hB2:mc=B2,hB3:upI=B3
 cbv
 repeat' first|refine fun (_:Unit)=>?_;cbv|refine Or.inr ⟨16,[],[.s 7 (.i .i64),.o 1 [.s]],[.s 5],[],H,rfl,hl,?_,fun ((k,L):Int×List (List UInt8)) hk=>?_⟩<;>cbv|refine aI2 (fun h=>?_) (fun h=>?_)<;>cbv|refine aI2 ?_ ?_
 all_goals subst hP hB0 hB1 hB2 hB3 hH
 all_goals clear hl
 all_goals try dsimp only at hk
 all_goals try dsimp only
 all_goals have f1:=hp.len
 all_goals have f2:=hp.col
 all_goals have f3:=kG b q
 all_goals try exact fin
 ·exact⟨Int.le_refl 0,Int.natCast_nonneg _,rfl⟩
 all_goals obtain⟨q0,q1,rfl⟩:=hk
 all_goals have h2:=D1 b q k
 all_goals try (have h1:k<(frI b q).length :=ah ‹_›)
 all_goals try (have h3:=Be q0 h1)
 all_goals try (have h4:=FY (b:=b) (q:=q) h3.1)
 all_goals try (have g1:k+1≤((frI b q).length : Int):=by omega)
 ·exact an (by show _≤q.col+(frI b q).getD k.toNat 0∧q.col+(frI b q).getD k.toNat 0≤_;omega)
 ·exact h3
 ·have h5:=hp.at h3.1 h3.2
  exact⟨hp.fit,h5.inn⟩
 ·simp [std] at *;lia
 ·refine⟨by show 0≤k+1;omega,g1,?_⟩
  have h6:std.ltI 1 (std.lenS (mc b q.row (q.col+(frI b q).getD k.toNat 0) (std.byte q.word ((frI b q).getD k.toNat 0))))=true:=by assumption
  rw [h4] at h6
  show oo b q k++[mc b q.row (q.col+(frI b q).getD k.toNat 0) (std.byte q.word ((frI b q).getD k.toNat 0))]=oo b q (k+1)
  rw [zH q0 h1,h4,if_pos (by have h7:=ah h6;simp only [gG] at h7;omega)]
 ·refine⟨by show 0≤k+1;omega,g1,?_⟩
  have h6:std.ltI 1 (std.lenS (mc b q.row (q.col+(frI b q).getD k.toNat 0) (std.byte q.word ((frI b q).getD k.toNat 0))))=false:=by assumption
  rw [h4] at h6
  show oo b q k=oo b q (k+1)
  rw [zH q0 h1,if_neg (by have h7:=ao h6;simp only [gG] at h7;omega),List.append_nil]
 ·rw [Da (ao ‹_›)]
theorem ui (b:Bd) (q:Pl) (i:Nat):(bq b q i).length ≤16:=by
 have : ∀(f r:Nat) (row:Nat) (c:Int) (l:UInt8),(fF b row c l f r).length ≤f:=by
  intro f
  induction f with
  | zero=>intro r row c l;exact Nat.le_refl 0
  | succ f ih=>
    intro r row c l
    unfold fF
    split
    ·rw [List.length_cons];have:=ih (r+1) row c l;omega
    ·split
     ·rw [List.length_cons];have:=ih (r+1) row c l;omega
     ·exact Nat.zero_le _
 unfold bq xO
 exact Nat.le_trans (this _ _ _ _ _) (Nat.sub_le _ _)
theorem EQ {b:Bd} {q:Pl} (h:q.word.length≤15) : ∀w∈bN b q,w.length≤16:=by
 intro w hw
 rcases List.mem_cons.1 hw with rfl | hw
 ·omega
 ·obtain⟨i, -,rfl⟩:=List.mem_map.1 (List.mem_filter.1 hw).1
  exact ui b q i
theorem Iq {b:Bd} {q:Pl} (h:q.word.length≤15) (k:Int):((bN b q).getD k.toNat []).length ≤16:=by
 rw [List.getD_eq_getElem?_getD]
 cases hk:(bN b q)[k.toNat]? with
 | none=>simp
 | some w=>exact EQ h w (List.mem_of_getElem? hk)
theorem DY (b:Bd) (q:Pl):(bN b q).length ≤q.word.length+1:=by
 have h1:=D1 b q (frI b q).length
 rwa [Da (Int.le_refl _)] at h1
def c7 (b:Bd) (q:Pl):List (List UInt8):=(bN (af b q) (ab q)).map nu
structure PlP (b:Bd) (q:Pl):Prop where
 fit:b.Fit
 on:OnR (af b q) (ab q)
def gg (p:Pr):aa:=fsp (ac (aP aBd) (a1 (aA aPl))) (fun (b,q)=>PlP b q) (fun (b,q)=>.osl 0) (fun (b,q)=>[(0,.own [.s] (c7 b q) 9)])
theorem qN:FOk Tryz.prog 225 (gg std):=by
 refine FOk.go (c:=cx std [(125,aJ std),(271,dq std),(198,mf std)] [] 0) (ae (.cons cB (.cons lg (.cons yU .nil))) .nil) mixed Tryz.func225 rfl rfl rfl (by kernel_rfl) ?_
 rintro ⟨b,q⟩ hp
 dsimp only at hp
 refine⟨rfl,?_⟩
 unfold aJ dq mf
 obtain⟨H,hH⟩ : ∃H:Hd (Int×List (List UInt8)),H=⟨fun (k,L)=>0≤k∧k≤(bN (af b q) (ab q)).length ∧L=((bN (af b q) (ab q)).take k.toNat).map nu,fun (k,L)=>((bN (af b q) (ab q)).length - k).toNat,(· < ·)⟩:=⟨_,rfl⟩
 have hl:=hdl hH
 generalize hP:std=p,hB0:c7=B0,hB1:bN=B1,hB2:nu=B2,hB3:af=B3,hB4:ab=B4
 cbv
 repeat' first|refine fun (_:Unit)=>?_;cbv|refine Or.inr ⟨19,[],[.s 9 (.i .i64),.o 4 [.s]],[.s 8],[],H,rfl,hl,?_,fun ((k,L):Int×List (List UInt8)) hk=>?_⟩<;>cbv|refine aI2 (fun h=>?_) (fun h=>?_)<;>cbv|refine aI2 ?_ ?_
 all_goals subst hP hB0 hB1 hB2 hB3 hB4 hH
 all_goals clear hl
 all_goals try dsimp only at hk
 all_goals try dsimp only
 all_goals have f1:=hp.on.len
 all_goals have f2:=DY (af b q) (ab q)
 all_goals try exact fin
 all_goals obtain⟨q0,q1,rfl⟩:=hk
 all_goals try (have h1:k<(bN (af b q) (ab q)).length :=ah ‹_›)
 ·exact aR (Nat.le_trans (Iq f1 k) (by decide))
 ·show ((((bN (af b q) (ab q)).take k.toNat).map nu).length : Int)+1≤274877906944
  rw [List.length_map,List.length_take]
  omega
 ·have g1:k+1≤((bN (af b q) (ab q)).length : Int):=by omega
  refine⟨by show 0≤k+1;omega,g1,?_⟩
  show (((bN (af b q) (ab q)).take k.toNat).map nu)++[nu ((bN (af b q) (ab q)).getD k.toNat [])]=((bN (af b q) (ab q)).take (k+1).toNat).map nu
  rw [tk q0 h1 [],List.map_append];rfl
 ·rw [bZ (ao ‹_›)];rfl
def kn (b:Bd) (ws:List (List UInt8)) (q:Pl):List (List UInt8):=(c7 b q).filter fun s=>!hasB ws s
structure WrP (b:Bd) (ws:List (List UInt8)) (q:Pl):Prop where
 pl:PlP b q
 ws:WsP ws
theorem pU (b:Bd) (q:Pl):(c7 b q).length ≤(ab q).word.length + 1:=by
 unfold c7
 rw [List.length_map]
 exact DY _ _
theorem kK {L:List (List UInt8)} {f:List UInt8→Bool} {k:Int} (h0:0≤k) (h:k<L.length):(L.take (k+1).toNat).filter f=(L.take k.toNat).filter f++(if f (L.getD k.toNat []) then [L.getD k.toNat []] else []):=by
 rw [tk h0 h [],List.filter_append]
 congr 1
 simp only [List.filter_cons,List.filter_nil]
def f0 (p:Pr):aa:=fsp (ac (aP aBd) (ac (aP wN) (a1 (aA aPl)))) (fun (b,ws,q)=>WrP b ws q) (fun (b,ws,q)=>.osl 0) (fun (b,ws,q)=>[(0,.own [.s] (kn b ws q) 9)])
theorem qU:FOk Tryz.prog 215 (f0 std):=by
 refine FOk.go (c:=cx std [(225,gg std),(272,po std)] [] 0) (ae (.cons qN (.cons Ef .nil)) .nil) mixed Tryz.func215 rfl rfl rfl (by kernel_rfl) ?_
 rintro ⟨b,ws,q⟩ hp
 dsimp only at hp
 refine⟨rfl,?_⟩
 unfold gg po
 obtain⟨H,hH⟩ : ∃H:Hd (Int×List (List UInt8)),H=⟨fun (k,L)=>0≤k∧k≤(c7 b q).length ∧L=((c7 b q).take k.toNat).filter (fun s=>!hasB ws s),fun (k,L)=>((c7 b q).length - k).toNat,(· < ·)⟩:=⟨_,rfl⟩
 have hl:=hdl hH
 generalize hP:std=p,hB0:kn=B0,hB1:c7=B1,hB2:hasB=B2
 cbv
 repeat' first|refine fun (_:Unit)=>?_;cbv|refine Or.inr ⟨14,[],[.s 9 (.i .i64),.o 2 [.s]],[.s 8],[],H,rfl,hl,?_,fun ((k,L):Int×List (List UInt8)) hk=>?_⟩<;>cbv|refine aI2 (fun h=>?_) (fun h=>?_)<;>cbv|refine aI2 ?_ ?_
 all_goals subst hP hB0 hB1 hB2 hH
 all_goals clear hl
 all_goals try dsimp only at hk
 all_goals try dsimp only
 all_goals have f1:=hp.pl.on.len
 all_goals have f2:=pU b q
 all_goals try exact fin
 all_goals obtain⟨q0,q1,rfl⟩:=hk
 all_goals have h2:=List.length_filter_le (fun s:List UInt8=>!hasB ws s) ((c7 b q).take k.toNat)
 all_goals rw [List.length_take] at h2
 all_goals try (have h1:k<(c7 b q).length :=ah ‹_›)
 all_goals try (have g1:k+1≤((c7 b q).length : Int):=by omega)
 ·simp [std] at *;lia
 ·refine⟨by show 0≤k+1;omega,g1,?_⟩
  have h6:hasB ws ((c7 b q).getD k.toNat [])=false:=by assumption
  show _++[(c7 b q).getD k.toNat []]=((c7 b q).take (k+1).toNat).filter fun s=>!hasB ws s
  rw [kK q0 h1,h6];rfl
 ·refine⟨by show 0≤k+1;omega,g1,?_⟩
  have h6:hasB ws ((c7 b q).getD k.toNat [])=true:=by assumption
  show _=((c7 b q).take (k+1).toNat).filter fun s=>!hasB ws s
  rw [kK q0 h1,h6];simp
 ·rw [bZ (ao ‹_›)];rfl
def eU (b:Bd) (q:Pl):Bool:=
 if ag b=[] then (decide ((ab q).row =b.size/2)&&(decide ((ab q).col ≤b.size/2)&&decide (b.size/2<(ab q).col + q.word.length)))
 else decide ((dv (af b q) (ab q)).length < q.word.length)||decide (1<(bN (af b q) (ab q)).length)
def eZ (b:Bd) (q:Pl):Bool:=q.down&&(decide ((dv (af b q) (ab q)).length =1)&&decide (1<(bN (af b q) (ab q)).length))
def bK (b:Bd) (ws:List (List UInt8)) (rack:List UInt8) (q:Pl):Int:=
 if okB b q then if takeB rack (av (bB (af b q) (ab q))) then if eU b q then if eZ b q then 4 else if 0<(kn b ws q).length then 9 else 0 else 6 else 3 else 2
theorem N9 {b:Bd} (hf:b.Fit):BdP b:=by
 have h1:=GZ (n:=b.size) (by simp [inR,hf.lo,hf.hi])
 have h2:=hf.prem
 have h3:=hf.cells
 exact⟨by omega,by omega⟩
section
variable {b:Bd} {q:Pl}
theorem AY (hf:b.Fit):std.quo b.size 2=b.size/2:=yg (by have:=hf.lo;omega)
theorem QW (h:std.eqS (ag b) []=true):ag b=[]:=by simpa using h
theorem Vm (h:std.eqS (ag b) []=false) : ¬ag b=[]:=by simpa using h
theorem QZ (hf:b.Fit) (h:std.eqS (ag b) []=true) (h1:std.eqI (ab q).row (std.quo b.size 2)=false):eU b q=false:=by
 rw [AY hf] at h1
 unfold eU
 rw [if_pos (QW h)]
 have h1 : ¬(ab q).row =b.size/2:=by simpa using h1
 simp [h1]
theorem Rj (hf:b.Fit) (h:std.eqS (ag b) []=true) (h1:std.leI (ab q).col (std.quo b.size 2)=false):eU b q=false:=by
 rw [AY hf] at h1
 unfold eU
 rw [if_pos (QW h)]
 have h1 : ¬(ab q).col ≤b.size/2:=by simpa using h1
 simp [h1]
theorem Q7 (hf:b.Fit) (h:std.eqS (ag b) []=true) (h1:std.eqI (ab q).row (std.quo b.size 2)=true) (h2:std.leI (ab q).col (std.quo b.size 2)=true):std.ltI (std.quo b.size 2) (std.add (ab q).col (std.lenS (ab q).word))=eU b q:=by
 rw [AY hf] at h1 h2 ⊢
 unfold eU
 rw [if_pos (QW h)]
 have h1:(ab q).row =b.size/2:=by simpa using h1
 have h2:(ab q).col ≤b.size/2:=by simpa using h2
 simp [h1,h2,da]
theorem HQ (b:Bd) (q:Pl):(frI b q).length =(dv b q).length :=by unfold frI;rw [List.length_map]
theorem JO (h:std.eqS (ag b) []=false):eU b q=(std.ltI (std.len (frI (af b q) (ab q))) (std.lenS (ab q).word)||std.ltI 1 (std.len (bN (af b q) (ab q)))):=by
 unfold eU
 rw [if_neg (Vm h),da]
 simp only [Lb,nZ,gG,HQ]
 congr 1
 ·simp
 ·simp [←Int.ofNat_lt]
theorem LQ:eZ b q=(q.down&&(std.eqI (std.len (frI (af b q) (ab q))) 1&&std.ltI 1 (std.len (bN (af b q) (ab q))))):=by
 unfold eZ
 simp only [Lb,nZ,lu,HQ]
 congr 2
 ·rw [Bool.eq_iff_iff,beq_iff_eq,decide_eq_true_eq];omega
 ·simp [←Int.ofNat_lt]
theorem UZ (h:q.down=false):eZ b q=false:=by unfold eZ;rw [h];rfl
theorem Vf (h:q.down=true) (h1:std.eqI (std.len (frI (af b q) (ab q))) 1=true):std.ltI 1 (std.len (bN (af b q) (ab q)))=eZ b q:=by rw [LQ,h,h1];rfl
theorem Ug (h:q.down=true) (h1:std.eqI (std.len (frI (af b q) (ab q))) 1=false):false=eZ b q:=by rw [LQ,h,h1];rfl
end
def kr (p:Pr):aa:=fsp (ac (aP aBd) (a1 (aA aPl))) (fun (b,q)=>PlP b q) (fun (b,q)=>.b (eU b q))
theorem vU:FOk Tryz.prog 213 (kr std):=by
 refine FOk.go (c:=cx std [(125,aJ std),(271,dq std),(217,aU std),(173,bn std)] [] 0) (ae (.cons cB (.cons lg (.cons dj (.cons dF .nil)))) .nil) mixed Tryz.func213 rfl rfl rfl (by kernel_rfl) ?_
 rintro ⟨b,q⟩ hp
 dsimp only at hp
 refine⟨rfl,?_⟩
 unfold aJ dq aU bn
 generalize hP:std=p,hB0:eU=B0,hB1:bN=B1,hB2:af=B2,hB3:ab=B3,hB4:frI=B4,hB5:ag=B5
 cbv
 repeat' first|refine fun (_:Unit)=>?_;cbv|refine aI2 (fun h=>?_) (fun h=>?_)<;>cbv|refine aI2 ?_ ?_|refine Or.inl (fun (_:Unit)=>?_);cbv
 all_goals subst hP hB0 hB1 hB2 hB3 hB4 hB5
 all_goals have f1:=hp.fit.lo
 all_goals have f2:=hp.fit.hi
 all_goals have f3:=hp.on.col
 all_goals have f4:=hp.on.len
 all_goals try exact fin
 ·exact N9 hp.fit
 ·exact Q7 hp.fit ‹_› ‹_› ‹_›
 ·exact Rj hp.fit ‹_› ‹_›
 ·exact QZ hp.fit ‹_› ‹_›
 ·rw [JO (b:=b) (q:=q) ‹_›,show std.ltI (std.len (frI (af b q) (ab q))) (std.lenS (ab q).word)=false by assumption];rfl
 ·rw [JO (b:=b) (q:=q) ‹_›,show std.ltI (std.len (frI (af b q) (ab q))) (std.lenS (ab q).word)=true by assumption];rfl
def lm (p:Pr):aa:=fsp (ac (aP aBd) (a1 (aA aPl))) (fun (b,q)=>PlP b q) (fun (b,q)=>.b (eZ b q))
theorem wW:FOk Tryz.prog 214 (lm std):=by
 refine FOk.go (c:=cx std [(125,aJ std),(271,dq std),(217,aU std)] [] 0) (ae (.cons cB (.cons lg (.cons dj .nil))) .nil) mixed Tryz.func214 rfl rfl rfl (by kernel_rfl) ?_
 rintro ⟨b,q⟩ hp
 dsimp only at hp
 refine⟨rfl,?_⟩
 unfold aJ dq aU
 generalize hP:std=p,hB0:eZ=B0,hB1:bN=B1,hB2:af=B2,hB3:ab=B3,hB4:frI=B4
 cbv
 repeat' first|refine fun (_:Unit)=>?_;cbv|refine aI2 (fun h=>?_) (fun h=>?_)<;>cbv|refine aI2 ?_ ?_|refine Or.inl (fun (_:Unit)=>?_);cbv
 all_goals subst hP hB0 hB1 hB2 hB3 hB4
 all_goals try exact fin
 ·exact UZ ‹_›
 ·exact Vf ‹_› ‹_›
 ·exact (Ug ‹_› ‹_›).symm
structure LeP (b:Bd) (ws:List (List UInt8)) (rack:List UInt8) (q:Pl):Prop where
 bd:BdP b
 ws:WsP ws
 rk:rack.length≤274877906944
 wd:q.word.length≤274877906944
theorem my {b:Bd} {q:Pl} (h:okB b q=true):PlP b q:=by
 unfold okB at h
 rw [Bool.and_eq_true,Bool.and_eq_true] at h
 obtain⟨h1,h2,h3⟩:=h
 have hf:=bdB.fit h1
 have h4:=CP h2
 unfold jb at h3
 simp only [Bool.and_eq_true,decide_eq_true_eq] at h3
 exact⟨hf,qi hf q,by rw [da];omega,h3.1,h3.2.1⟩
section
variable {b:Bd} {ws:List (List UInt8)} {rack:List UInt8} {q:Pl}
theorem lU (b:Bd) (q:Pl):(bB b q).length ≤q.word.length:=by
 have:=kG b q
 unfold bB
 rw [List.length_map]
 rwa [HQ] at this
theorem gM (s:List UInt8):(av s).length =s.length:=by
 unfold av
 rw [ax,List.length_map]
theorem Vo (h:okB b q=false):2=bK b ws rack q:=by unfold bK;rw [h];rfl
theorem VN (h:okB b q=true) (h1:takeB rack (av (bB (af b q) (ab q)))=false):3=bK b ws rack q:=by unfold bK;rw [h,h1];rfl
theorem Uv (h:okB b q=true) (h1:takeB rack (av (bB (af b q) (ab q)))=true) (h2:eU b q=false):6=bK b ws rack q:=by unfold bK;rw [h,h1,h2];rfl
theorem Vr (h:okB b q=true) (h1:takeB rack (av (bB (af b q) (ab q)))=true) (h2:eU b q=true) (h3:eZ b q=true):4=bK b ws rack q:=by unfold bK;rw [h,h1,h2,h3];rfl
theorem UH (h:okB b q=true) (h1:takeB rack (av (bB (af b q) (ab q)))=true) (h2:eU b q=true) (h3:eZ b q=false) (h4:std.ltI 0 (std.len (kn b ws q))=true):9=bK b ws rack q:=by
 have h5:=ah h4
 unfold bK;rw [h,h1,h2,h3,if_pos rfl,if_pos rfl,if_pos rfl,if_neg (by decide),if_pos (by simp only [nZ] at h5;omega)]
theorem Uu (h:okB b q=true) (h1:takeB rack (av (bB (af b q) (ab q)))=true) (h2:eU b q=true) (h3:eZ b q=false) (h4:std.ltI 0 (std.len (kn b ws q))=false):0=bK b ws rack q:=by
 have h5:=ao h4
 unfold bK;rw [h,h1,h2,h3,if_pos rfl,if_pos rfl,if_pos rfl,if_neg (by decide),if_neg (by simp only [nZ] at h5;omega)]
end
def cW (p:Pr):aa:=fsp (ac (aP aBd) (ac (aP wN) (ac aS (a1 (aA aPl))))) (fun (b,ws,rack,q)=>LeP b ws rack q) (fun (b,ws,rack,q)=>.i .i64 (bK b ws rack q))
theorem jN:FOk Tryz.prog 122 (cW std):=by
 refine FOk.go (c:=cx std [(212,k8 std),(125,aJ std),(126,bo std),(127,bG std),(128,cD std),(213,kr std),(214,lm std),(215,f0 std)] [] 0) (ae (.cons yD (.cons cB (.cons dR (.cons eQ (.cons iW (.cons vU (.cons wW (.cons qU .nil)))))))) .nil) mixed Tryz.func122 rfl rfl rfl (by kernel_rfl) ?_
 rintro ⟨b,ws,rack,q⟩ hp
 dsimp only at hp
 refine⟨rfl,?_⟩
 unfold k8 aJ bo bG cD kr lm f0
 generalize hP:std=p,hB0:bK=B0,hB1:okB=B1,hB2:takeB=B2,hB3:bR=B3,hB4:av=B4,hB5:bB=B5,hB6:eU=B6,hB7:eZ=B7,hB8:kn=B8,hB9:af=B9,hB10:ab=B10
 cbv
 repeat' first|refine fun (_:Unit)=>?_;cbv|refine aI2 (fun h=>?_) (fun h=>?_)<;>cbv|refine aI2 ?_ ?_|refine Or.inl (fun (_:Unit)=>?_);cbv
 all_goals subst hP hB0 hB1 hB2 hB3 hB4 hB5 hB6 hB7 hB8 hB9 hB10
 all_goals try exact fin
 ·exact⟨hp.bd,hp.wd⟩
 ·exact Vo ‹_›
 all_goals have h1:okB b q=true:=by assumption
 all_goals have h2:=my h1
 all_goals have h3:=lU (af b q) (ab q)
 all_goals have h4:=gM (bB (af b q) (ab q))
 all_goals have h5:=h2.on.len
 ·exact h2.fit
 ·exact h2.on
 ·exact aR (Nat.le_trans h3 (Nat.le_trans h5 (by decide)))
 ·exact aR hp.rk
 ·exact aR (Nat.le_trans (Nat.le_of_eq h4) (Nat.le_trans h3 (Nat.le_trans h5 (by decide))))
 ·exact VN h1 ‹_›
 all_goals have h6:takeB rack (av (bB (af b q) (ab q)))=true:=by assumption
 ·exact h2
 ·exact Uv h1 h6 ‹_›
 ·exact h2
 ·exact Vr h1 h6 ‹_› ‹_›
 ·exact⟨h2,hp.ws⟩
 ·exact UH h1 h6 ‹_› ‹_› ‹_›
 ·exact Uu h1 h6 ‹_› ‹_› ‹_›
end Ax
end Go.Proofs.YtjjonmhpgkahoaaGreatDoor
