/-
  Boards of the spec package: validity, letters, boards that are turned; Placements of the spec package; Words that a play forms, of the spec package.
  Conditions: none.
-/
import Derived.Test.YtjjonmhpgkahoaaGreatDoorS11
set_option linter.unusedSimpArgs false
set_option linter.unusedVariables false
namespace Go.Proofs.YtjjonmhpgkahoaaGreatDoor
namespace Ax
set_option maxRecDepth 100000
theorem cellB_i (c:UInt8):cellB c=cellI c.toNat:=by
 unfold cellB cellI
 rw [show (46:UInt8)=UInt8.ofNat 46 from rfl,byte_lit (by decide),smallB_i,capB_i,Bool.or_assoc]
 rfl
theorem premB_i (c:UInt8):premB c=premI c.toNat:=by
 unfold premB premI
 rw [show (46:UInt8)=UInt8.ofNat 46 from rfl,show (50:UInt8)=UInt8.ofNat 50 from rfl,show (51:UInt8)=UInt8.ofNat 51 from rfl,show (100:UInt8)=UInt8.ofNat 100 from rfl,show (116:UInt8)=UInt8.ofNat 116 from rfl]
 simp only [byte_lit (show 46<256 by decide),byte_lit (show 50<256 by decide),byte_lit (show 51<256 by decide),byte_lit (show 100<256 by decide),byte_lit (show 116<256 by decide),Bool.or_assoc]
 rfl
theorem okFrom_step {c p:List UInt8} {k:Int} (h0:0≤k) (h:k<c.length) (hp:k<p.length):okFrom (c.drop k.toNat) (p.drop k.toNat)=(cellB (c.getD k.toNat 0)&&(premB (p.getD k.toNat 0)&&okFrom (c.drop (k+1).toNat) (p.drop (k+1).toNat))):=by
 rw [dc h0 h 0,dc h0 hp 0,okFrom,Bool.and_assoc]
theorem sq_bd {n:Int} (h:inR n 5 15=true):5≤n∧n≤15∧0≤n*n∧n*n≤225:=by
 simp [inR] at h
 have h1:n*n≤15*n:=Int.mul_le_mul_of_nonneg_right h.2 (by omega)
 have h2:0≤n*n:=Int.mul_nonneg (by omega) (by omega)
 omega
section
variable {b:Bd}
theorem bd_no1 (h:inR b.size 5 15=false):bdB b=false:=by simp [bdB,sizeB,h]
theorem bd_no2 (h:std.eqI (std.lenS b.prem) (std.mul b.size b.size)=false):bdB b=false:=by
 have h : ¬(b.prem.length:Int)=b.size*b.size:=by simpa [std] using h
 simp [bdB,h]
theorem bd_no3 (h:std.eqI (std.lenS b.cells) (std.mul b.size b.size)=false):bdB b=false:=by
 have h : ¬(b.cells.length:Int)=b.size*b.size:=by simpa [std] using h
 simp [bdB,h]
theorem bd_go (h1:inR b.size 5 15=true) (h2:std.eqI (std.lenS b.prem) (std.mul b.size b.size)=true) (h3:std.eqI (std.lenS b.cells) (std.mul b.size b.size)=true):bdB b=okFrom b.cells b.prem∧b.prem.length=b.cells.length∧b.cells.length≤225:=by
 have h2:(b.prem.length:Int)=b.size*b.size:=by simpa [std] using h2
 have h3:(b.cells.length:Int)=b.size*b.size:=by simpa [std] using h3
 have h4:=sq_bd h1
 refine⟨by simp [bdB,sizeB,h1,h2,h3],by omega,by omega⟩
end
def sp_s_l11Ok (p:Pr):FSpec:=fsp (a1 (aP aBd)) (fun b=>BdP b) (fun b=>.b (bdB b))
theorem ok_s_l11Ok:FOk Tryz.prog 159 (sp_s_l11Ok std):=by
 refine FOk.go (c:=cx std [(231,sp_s_l11Size std),(161,sp_s_l11Cell std),(235,sp_s_l11Premium std)] [] 0) (cx_ok (.cons ok_s_l11Size (.cons ok_s_l11Cell (.cons ok_s_l11Premium .nil))) .nil) mixed Tryz.func159 rfl rfl rfl (by kernel_rfl) ?_
 rintro b hp
 refine⟨rfl,?_⟩
 unfold sp_s_l11Size sp_s_l11Cell sp_s_l11Premium
 obtain⟨H,hH⟩ : ∃H:Hd (Int),H=⟨fun k=>0≤k∧k≤b.cells.length∧bdB b=okFrom (b.cells.drop k.toNat) (b.prem.drop k.toNat),fun k=>(b.cells.length-k).toNat,(· < ·)⟩:=⟨_,rfl⟩
 have hl : ∀m n,H.lt m n→m<n:=by subst hH;exact fun _ _ h=>h
 generalize hP:std=p,hB0:bdB=B0,hB1:inR=B1,hB2:cellI=B2,hB3:premI=B3
 cbv
 repeat' first
  | (refine fun (_:Unit)=>?_;cbv)
  | (refine Or.inr ⟨44,[],[.s 3 (.i .i64)],[],[],H,rfl,hl,?_,fun (k:Int) hk=>?_⟩<;>cbv)
  | (refine aI2 (fun h=>?_) (fun h=>?_)<;>cbv)
  | (refine aI2 ?_ ?_)
 all_goals subst hP hB0 hB1 hB2 hB3 hH
 all_goals clear hl
 all_goals try dsimp only at hk
 all_goals try dsimp only
 all_goals try exact fin
 all_goals try first
  | exact bd_no1 ‹_›
  | exact bd_no2 ‹_›
  | exact bd_no3 ‹_›
  | exact in64 (by have:=sq_bd (show inR b.size 5 15=true by assumption);show _≤b.size*b.size∧b.size*b.size≤_;omega)
 all_goals obtain⟨e0,e1,e2⟩:=bd_go (show inR b.size 5 15=true by assumption) ‹_› ‹_›
 ·exact⟨Int.le_refl 0,Int.natCast_nonneg _,e0⟩
 all_goals obtain⟨q0,q1,e⟩:=hk
 all_goals clear e0
 all_goals try (simp [std] at *;lia)
 all_goals first
  | (rw [e,dn (ge_of ‹_›)];rfl)
  | (have h1:k<b.cells.length:=lt_of ‹_›
     rw [e,okFrom_step q0 h1 (by omega),cellB_i,premB_i]
     clear e
     simp_all [std];done)
  | (have h1:k<b.cells.length:=lt_of ‹_›
     have g1:k+1≤(b.cells.length:Int):=by omega
     refine⟨by show 0≤k+1;omega,g1,?_⟩
     rw [e,okFrom_step q0 h1 (by omega),cellB_i,premB_i]
     clear e
     simp_all [std];done)
theorem lett_step {s:List UInt8} {k:Int} (h0:0≤k) (h:k<s.length):(s.take (k+1).toNat).filter (fun c=>!(c==46))=(s.take k.toNat).filter (fun c=>!(c==46))++(if (((s.getD k.toNat 0).toNat : Int)==46)=true then [] else [s.getD k.toNat 0]):=by
 rw [tk h0 h 0,List.filter_append]
 congr 1
 have:=byte_lit (c:=s.getD k.toNat 0) (show 46<256 by decide)
 rw [List.filter_cons,show (46:UInt8)=UInt8.ofNat 46 from rfl,this]
 rw [show ((46:Nat):Int)=46 from rfl]
 cases h:(((s.getD k.toNat 0).toNat : Int)==46)<;>simp
def sp_s_l11Letters (p:Pr):FSpec:=fsp (a1 (aP aBd)) (fun b=>BdP b) (fun b=>.s (lettersS b))
theorem ok_s_l11Letters:FOk Tryz.prog 173 (sp_s_l11Letters std):=by
 refine FOk.go (c:=cx std [] [] 0) (cx_ok .nil .nil) mixed Tryz.func173 rfl rfl rfl (by kernel_rfl) ?_
 rintro b hp
 refine⟨rfl,?_⟩
 obtain⟨H,hH⟩ : ∃H:Hd (Int×List Int),H=⟨fun (k,L)=>0≤k∧k≤b.cells.length∧L=toBl ((b.cells.take k.toNat).filter fun c=>!(c==46)),fun (k,L)=>(b.cells.length-k).toNat,(· < ·)⟩:=⟨_,rfl⟩
 have hl : ∀m n,H.lt m n→m<n:=by subst hH;exact fun _ _ h=>h
 generalize hP:std=p,hB0:lettersS=B0
 cbv
 repeat' first
  | (refine fun (_:Unit)=>?_;cbv)
  | (refine Or.inr ⟨6,[],[.s 4 (.i .i64),.o 0 [.i .u8]],[.s 3],[],H,rfl,hl,?_,fun ((k,L):Int×List Int) hk=>?_⟩<;>cbv)
  | (refine aI2 (fun h=>?_) (fun h=>?_)<;>cbv)
  | (refine aI2 ?_ ?_)
 all_goals subst hP hB0 hH
 all_goals clear hl
 all_goals try dsimp only at hk
 all_goals try dsimp only
 all_goals have f1:=hp.c
 all_goals try exact fin
 ·exact⟨Int.le_refl 0,Int.natCast_nonneg _,rfl⟩
 all_goals obtain⟨q0,q1,rfl⟩:=hk
 all_goals have h2:=List.length_filter_le (fun c:UInt8=>!(c==46)) (b.cells.take k.toNat)
 all_goals rw [List.length_take] at h2
 all_goals try (have h1:k<b.cells.length:=lt_of ‹_›)
 all_goals try (simp only [std,toB_len] at *;simp at *;lia)
 ·have g1:k+1≤(b.cells.length:Int):=by omega
  refine⟨by show 0≤k+1;omega,g1,?_⟩
  show toBl _++[((b.cells.getD k.toNat 0).toNat : Int)]=toBl ((b.cells.take (k+1).toNat).filter fun c=>!(c==46))
  rw [lett_step q0 h1,if_neg (by rw [show (((b.cells.getD k.toNat 0).toNat : Int)==46)=false from h];exact Bool.false_ne_true),toB_snoc]
 ·have g1:k+1≤(b.cells.length:Int):=by omega
  refine⟨by show 0≤k+1;omega,g1,?_⟩
  show toBl _=toBl ((b.cells.take (k+1).toNat).filter fun c=>!(c==46))
  rw [lett_step q0 h1,if_pos (show (((b.cells.getD k.toNat 0).toNat : Int)==46)=true from h),List.append_nil]
 ·show toSl (toBl _)=_
  rw [toS_toB,tk_all (ge_of h)];rfl
theorem turn_step {n:Int} {s:List UInt8} {c r:Int} (hn:0<n) (c0:0≤c) (r0:0≤r) (hr:r<n):turnTo n.toNat s (c*n+r+1).toNat =turnTo n.toNat s (c*n+r).toNat ++[s.getD (r*n+c).toNat 0]:=by
 have h0:0≤c*n:=Int.mul_nonneg c0 (by omega)
 obtain⟨N,rfl⟩ : ∃N:Nat,n=N:=⟨n.toNat,by omega⟩
 obtain⟨C,rfl⟩ : ∃C:Nat,c=C:=⟨c.toNat,by omega⟩
 obtain⟨R,rfl⟩ : ∃R:Nat,r=R:=⟨r.toNat,by omega⟩
 have e1:((C:Int)*N+R).toNat =C*N+R:=by omega
 have e2:((C:Int)*N+R+1).toNat =C*N+R+1:=by omega
 have e3:((R:Int)*N+C).toNat =R*N+C:=by omega
 have hR:R<N:=by omega
 have e4:(C*N+R)%N=R:=by rw [Nat.mul_comm,Nat.mul_add_mod,Nat.mod_eq_of_lt hR]
 have e5:(C*N+R)/N=C:=by rw [Nat.mul_comm,Nat.mul_add_div (by omega),Nat.div_eq_of_lt hR,Nat.add_zero]
 rw [e1,e2,e3]
 unfold turnTo
 rw [List.range_succ,List.map_append,Int.toNat_natCast]
 simp [e4,e5]
structure TurnP (n:Int) (s:List UInt8):Prop where
 lo:5≤n
 hi:n≤15
 len:(s.length:Int)=n*n
theorem turnP_bd {n r c:Int} {s:List UInt8} (h:TurnP n s) (r0:0≤r) (r1:r<n) (c0:0≤c) (c1:c<n):0≤r*n∧r*n≤210∧0≤r*n+c∧r*n+c<s.length:=by
 have:=mul_bounds h.lo h.hi r0 (by omega) c0 (by omega)
 have:=h.len
 omega
theorem turnP_end {n c:Int} {s:List UInt8} (h:TurnP n s) (c1:c=n):turnTo n.toNat s (c*n).toNat =turnS n.toNat s:=by
 subst c1
 unfold turnS
 congr 1
 have:=h.lo
 obtain⟨N,rfl⟩ : ∃N:Nat,c=N:=⟨c.toNat,by omega⟩
 rw [Int.toNat_natCast,←Int.natCast_mul,Int.toNat_natCast]
def turnI (n:Int) (s:List UInt8):List UInt8:=turnS n.toNat s
def sp_s_l11Turn (p:Pr):FSpec:=fsp (ac aI (a1 aS)) (fun (n,s)=>TurnP n s) (fun (n,s)=>.s (turnI n s))
theorem ok_s_l11Turn:FOk Tryz.prog 254 (sp_s_l11Turn std):=by
 refine FOk.go (c:=cx std [] [] 0) (cx_ok .nil .nil) mixed Tryz.func254 rfl rfl rfl (by kernel_rfl) ?_
 rintro ⟨n,s⟩ hp
 dsimp only at hp
 refine⟨rfl,?_⟩
 obtain⟨H,hH⟩ : ∃H:Hd (Int×List Int),H=⟨fun (c,L)=>0≤c∧c≤n∧L=toBl (turnTo n.toNat s (c*n).toNat),fun (c,L)=>(n-c).toNat,(· < ·)⟩:=⟨_,rfl⟩
 have hl : ∀m n,H.lt m n→m<n:=by subst hH;exact fun _ _ h=>h
 obtain⟨H2,hH2⟩ : ∃H:(Int×List Int)→Hd (Int×List Int),H=fun (c,L)=>⟨fun (r,M)=>0≤r∧r≤n∧M=toBl (turnTo n.toNat s (c*n+r).toNat),fun (r,M)=>(n-r).toNat,(· < ·)⟩:=⟨_,rfl⟩
 have hl2 : ∀x m n,(H2 x).lt m n→m<n:=by subst hH2;exact fun _ _ _ h=>h
 generalize hP:std=p,hB0:turnI=B0
 cbv
 repeat' first
  | (refine fun (_:Unit)=>?_;cbv)
  | (refine Or.inr ⟨9,[],[.s 6 (.i .i64),.o 0 [.i .u8]],[.s 5],[],H,rfl,hl,?_,fun ((c,L):Int×List Int) hk=>?_⟩<;>cbv)
  | (refine Or.inr ⟨14,[],[.s 7 (.i .i64),.o 0 [.i .u8]],[.s 5],[],H2 (c,L),rfl,hl2 _,?_,fun ((r,M):Int×List Int) hk2=>?_⟩<;>cbv)
  | (refine aI2 (fun h=>?_) (fun h=>?_)<;>cbv)
  | (refine aI2 ?_ ?_)
 all_goals subst hP hB0 hH hH2
 all_goals clear hl
 all_goals try dsimp only at hk
 all_goals clear hl2
 all_goals try dsimp only at hk2
 all_goals try dsimp only
 all_goals have f1:=hp.lo
 all_goals have f2:=hp.hi
 all_goals try exact fin
 ·exact⟨Int.le_refl 0,by omega,by simp [turnTo];rfl⟩
 all_goals obtain⟨q0,q1,rfl⟩:=hk
 all_goals try (have h2:c<n:=lt_of ‹_›)
 all_goals try (obtain⟨r0,r1,rfl⟩:=hk2)
 all_goals try (have h3:r<n:=lt_of ‹_›)
 all_goals try (have h4:=turnP_bd hp r0 h3 q0 h2)
 all_goals try (have h5:=turnP_bd hp q0 h2 r0 h3)
 all_goals try (have h6:((toBl (turnTo n.toNat s (c*n+r).toNat)).length : Int)=c*n+r:=by rw [toB_len,turnTo_length];omega)
 all_goals have h7:=hp.len
 all_goals try (simp [std] at *;lia)
 ·have g1:r+1≤n:=by omega
  refine⟨by show 0≤r+1;omega,g1,?_⟩
  show toBl _++[((s.getD (r*n+c).toNat 0).toNat : Int)]=toBl (turnTo n.toNat s (c*n+(r+1)).toNat)
  rw [toB_snoc,←Int.add_assoc,turn_step (by omega) q0 r0 h3]
 ·have h8:r=n:=by have:=ge_of h;omega
  subst h8
  have g1:c+1≤r:=by omega
  refine⟨by show 0≤c+1;omega,g1,?_⟩
  show toBl (turnTo _ s (c*r+r).toNat)=toBl (turnTo _ s ((c+1)*r).toNat)
  rw [Int.add_mul,Int.one_mul]
 ·show toSl (toBl _)=_
  rw [toS_toB,turnP_end hp (by have:=ge_of h;omega)];rfl
def sp_s_l11Transpose (p:Pr):FSpec:=fsp (a1 (aP aBd)) (fun b=>b.Fit) (fun b=>.agg [.i .i64 b.size,.s (turnI b.size b.prem),.s (turnI b.size b.cells)])
theorem ok_s_l11Transpose:FOk Tryz.prog 195 (sp_s_l11Transpose std):=by
 refine FOk.go (c:=cx std [(254,sp_s_l11Turn std)] [] 0) (cx_ok (.cons ok_s_l11Turn .nil) .nil) mixed Tryz.func195 rfl rfl rfl (by kernel_rfl) ?_
 rintro b hp
 refine⟨rfl,?_⟩
 unfold sp_s_l11Turn
 generalize hP:std=p,hB0:turnI=B0
 cbv
 repeat' first
  | (refine fun (_:Unit)=>?_;cbv)
  | (refine aI2 (fun h=>?_) (fun h=>?_)<;>cbv)
  | (refine aI2 ?_ ?_)
  | (refine Or.inl (fun (_:Unit)=>?_);cbv)
 all_goals subst hP hB0
 all_goals try exact fin
 ·exact⟨hp.lo,hp.hi,hp.prem⟩
 ·exact⟨hp.lo,hp.hi,hp.cells⟩
theorem flat_y {b:Bd} {q:Pl} (h:q.down=true):flatB b q=⟨b.size,turnI b.size b.prem,turnI b.size b.cells⟩∧flatP q=⟨q.col,q.row,false,q.word⟩:=by
 unfold flatB flatP Pl.tr
 rw [if_pos h,if_pos h,h]
 exact⟨rfl,rfl⟩
theorem flat_n {b:Bd} {q:Pl} (h:q.down=false):flatB b q=b∧flatP q=q:=by
 unfold flatB flatP
 rw [if_neg (by rw [h];exact Bool.false_ne_true),if_neg (by rw [h];exact Bool.false_ne_true)]
 exact⟨rfl,rfl⟩
def sp_s_l12Turn (p:Pr):FSpec:=fsp (a1 (aA aPl)) (fun q=>True) (fun q=>.agg (plK q.tr))
theorem ok_s_l12Turn:FOk Tryz.prog 218 (sp_s_l12Turn std):=by
 refine FOk.go (c:=cx std [] [] 0) (cx_ok .nil .nil) mixed Tryz.func218 rfl rfl rfl (by kernel_rfl) ?_
 rintro q hp
 refine⟨rfl,?_⟩
 generalize hP:std=p
 cbv
 repeat' first
  | (refine fun (_:Unit)=>?_;cbv)
  | (refine aI2 (fun h=>?_) (fun h=>?_)<;>cbv)
  | (refine aI2 ?_ ?_)
  | (refine Or.inl (fun (_:Unit)=>?_);cbv)
 all_goals subst hP
 all_goals try exact fin
def sp_s_l12Flat (p:Pr):FSpec:=fsp (ac (aP aBd) (a1 (aA aPl))) (fun (b,q)=>b.Fit) (fun (b,q)=>.tup [.agg (bdK (flatB b q)),.agg (plK (flatP q))])
theorem ok_s_l12Flat:FOk Tryz.prog 125 (sp_s_l12Flat std):=by
 refine FOk.go (c:=cx std [(195,sp_s_l11Transpose std),(218,sp_s_l12Turn std)] [] 0) (cx_ok (.cons ok_s_l11Transpose (.cons ok_s_l12Turn .nil)) .nil) mixed Tryz.func125 rfl rfl rfl (by kernel_rfl) ?_
 rintro ⟨b,q⟩ hp
 dsimp only at hp
 refine⟨rfl,?_⟩
 unfold sp_s_l11Transpose sp_s_l12Turn
 generalize hP:std=p,hB0:flatB=B0,hB1:flatP=B1,hB2:turnI=B2
 cbv
 repeat' first
  | (refine fun (_:Unit)=>?_;cbv)
  | (refine aI2 (fun h=>?_) (fun h=>?_)<;>cbv)
  | (refine aI2 ?_ ?_)
  | (refine Or.inl (fun (_:Unit)=>?_);cbv)
 all_goals subst hP hB0 hB1 hB2
 all_goals try exact fin
 all_goals first
  | (rw [(flat_y (b:=b) (show q.down=true from h)).1]<;>rfl)
  | (rw [(flat_n (b:=b) (show q.down=false from h)).1]<;>rfl)
  | (rw [(flat_n (b:=b) (show q.down=false from h)).2]<;>rfl)
  | (rw [(flat_y (b:=b) (show q.down=true from h)).2];show (!q.down)=false;rw [show q.down=true from h];rfl)
  | (rw [(flat_y (b:=b) (show q.down=true from h)).2]<;>rfl)
end Ax
namespace Ax
set_option maxRecDepth 100000
def sp_s_l12Word (p:Pr):FSpec:=fsp (a1 aS) (fun s=>p.ltM (p.lenS s)) (fun s=>.b (wordB s))
theorem ok_s_l12Word:FOk Tryz.prog 269 (sp_s_l12Word std):=by
 refine FOk.go (c:=cx std [(306,sp_s_l03Placed std)] [] 0) (cx_ok (.cons ok_s_l03Placed .nil) .nil) mixed Tryz.func269 rfl rfl rfl (by kernel_rfl) ?_
 rintro s hp
 refine⟨rfl,?_⟩
 unfold sp_s_l03Placed
 generalize hP:std=p,hB0:wordB=B0,hB1:placedB=B1
 cbv
 repeat' first
  | (refine fun (_:Unit)=>?_;cbv)
  | (refine aI2 (fun h=>?_) (fun h=>?_)<;>cbv)
  | (refine aI2 ?_ ?_)
  | (refine Or.inl (fun (_:Unit)=>?_);cbv)
 all_goals subst hP hB0 hB1
 all_goals try exact fin
 all_goals (simp [std,wordB] at * <;>first | lia | (simp_all;done))
structure OnR (b:Bd) (q:Pl):Prop where
 fit:b.Fit
 len:q.word.length≤15
 inn:b.inB q.row q.col=true
 out:q.col+q.word.length≤b.size
theorem OnR.at {b:Bd} {q:Pl} (h:OnR b q) {i:Int} (h0:0≤i) (h1:i<q.word.length):AtP b q.row (q.col+i):=by
 obtain⟨⟨a1,a2⟩,a3,a4⟩:=inB_iff.1 h.inn
 have:=h.out
 exact⟨h.fit,inB_iff.2 ⟨⟨a1,a2⟩,by omega,by omega⟩⟩
theorem OnR.col {b:Bd} {q:Pl} (h:OnR b q):0≤q.col∧q.col≤14∧0≤q.row∧q.row≤14:=by
 obtain⟨⟨a1,a2⟩,a3,a4⟩:=inB_iff.1 h.inn
 have:=h.fit.hi
 omega
structure FitsP (b:Bd) (q:Pl):Prop where
 fit:b.Fit
 len:q.word.length≤15
theorem fit_no1 {b:Bd} {q:Pl} (h:b.inB q.row q.col=false):fitsB b q=false:=by simp [fitsB,h]
theorem fit_no2 {b:Bd} {q:Pl} (h:std.ltI b.size (std.add q.col (std.lenS q.word))=true):fitsB b q=false:=by
 have h : ¬q.col+(q.word.length:Int)≤b.size:=by simp [std] at h;omega
 simp [fitsB,h]
theorem fit_no3 {b:Bd} {q:Pl} (h:b.full q.row (std.sub q.col 1)=true):fitsB b q=false:=by
 have h:b.full q.row (q.col-1)=true:=h
 simp [fitsB,h]
theorem fit_no4 {b:Bd} {q:Pl} (h:b.full q.row (std.add q.col (std.lenS q.word))=true):fitsB b q=false:=by
 have h:b.full q.row (q.col+q.word.length)=true:=h
 simp [fitsB,h]
theorem fit_go {b:Bd} {q:Pl} (hp:FitsP b q) (h1:b.inB q.row q.col=true) (h2:std.ltI b.size (std.add q.col (std.lenS q.word))=false) (h3:b.full q.row (std.sub q.col 1)=false) (h4:b.full q.row (std.add q.col (std.lenS q.word))=false):fitsB b q=fitGo b q.row false q.word q.col∧OnR b q:=by
 have h2:q.col+(q.word.length:Int)≤b.size:=by simp [std] at h2;omega
 have h3:b.full q.row (q.col-1)=false:=h3
 have h4:b.full q.row (q.col+q.word.length)=false:=h4
 exact⟨by simp [fitsB,h1,h2,h3,h4],hp.fit,hp.len,h1,h2⟩
theorem col_of {b:Bd} {r c:Int} (hf:b.Fit) (h:b.inB r c=true):0≤c∧c≤14∧0≤r∧r≤14:=by
 obtain⟨⟨a1,a2⟩,a3,a4⟩:=inB_iff.1 h
 have:=hf.hi
 omega
section
variable {b:Bd} {q:Pl} {f:Bool} {i:Int}
theorem fg_free (h0:0≤i) (h1:i<q.word.length) (h:std.eqI (atI b q.row (std.add q.col i)) 46=true):fitGo b q.row f (q.word.drop i.toNat) (q.col+i)=fitGo b q.row true (q.word.drop (i+1).toNat) (q.col+(i+1)):=by
 rw [dc h0 h1 0,fitGo,show (46:UInt8)=UInt8.ofNat 46 from rfl,at_i _ _ _ _ (by decide),if_pos (show (atI b q.row (q.col+i)==((46:Nat):Int))=true from h),Int.add_assoc]
theorem fg_same (h0:0≤i) (h1:i<q.word.length) (h:std.eqI (atI b q.row (std.add q.col i)) 46=false) (h2:std.eqI (atI b q.row (std.add q.col i)) (std.byte q.word i)=true):fitGo b q.row f (q.word.drop i.toNat) (q.col+i)=fitGo b q.row f (q.word.drop (i+1).toNat) (q.col+(i+1)):=by
 have h3:((((b.at_ q.row (q.col+i)).toNat : Nat):Int)==(((q.word.getD i.toNat 0).toNat : Nat):Int))=true:=h2
 have h4:b.at_ q.row (q.col+i)=q.word.getD i.toNat 0:=UInt8.toNat_inj.1 (by rw [beq_iff_eq] at h3;omega)
 rw [dc h0 h1 0,fitGo,show (46:UInt8)=UInt8.ofNat 46 from rfl,at_i _ _ _ _ (by decide),if_neg (by rw [show (atI b q.row (q.col+i)==((46:Nat):Int))=false from h];exact Bool.false_ne_true),h4,if_pos (by simp),Int.add_assoc]
theorem fg_no (h0:0≤i) (h1:i<q.word.length) (h:std.eqI (atI b q.row (std.add q.col i)) 46=false) (h2:std.eqI (atI b q.row (std.add q.col i)) (std.byte q.word i)=false):fitGo b q.row f (q.word.drop i.toNat) (q.col+i)=false:=by
 have h3:((((b.at_ q.row (q.col+i)).toNat : Nat):Int)==(((q.word.getD i.toNat 0).toNat : Nat):Int))=false:=h2
 have h4 : ¬b.at_ q.row (q.col+i)=q.word.getD i.toNat 0:=fun hh=>by rw [hh] at h3;simp at h3
 rw [dc h0 h1 0,fitGo,show (46:UInt8)=UInt8.ofNat 46 from rfl,at_i _ _ _ _ (by decide),if_neg (by rw [show (atI b q.row (q.col+i)==((46:Nat):Int))=false from h];exact Bool.false_ne_true),if_neg (by simpa using h4)]
end
def sp_s_l12Fits (p:Pr):FSpec:=fsp (ac (aP aBd) (a1 (aA aPl))) (fun (b,q)=>FitsP b q) (fun (b,q)=>.b (fitsB b q))
theorem ok_s_l12Fits:FOk Tryz.prog 270 (sp_s_l12Fits std):=by
 refine FOk.go (c:=cx std [(160,sp_s_l11In std),(196,sp_s_l11Full std),(197,sp_s_l11At std)] [] 0) (cx_ok (.cons ok_s_l11In (.cons ok_s_l11Full (.cons ok_s_l11At .nil))) .nil) mixed Tryz.func270 rfl rfl rfl (by kernel_rfl) ?_
 rintro ⟨b,q⟩ hp
 dsimp only at hp
 refine⟨rfl,?_⟩
 unfold sp_s_l11In sp_s_l11Full sp_s_l11At
 obtain⟨H,hH⟩ : ∃H:Hd (Bool×Int),H=⟨fun (f,i)=>0≤i∧i≤q.word.length∧fitsB b q=fitGo b q.row f (q.word.drop i.toNat) (q.col+i),fun (f,i)=>(q.word.length-i).toNat,(· < ·)⟩:=⟨_,rfl⟩
 have hl : ∀m n,H.lt m n→m<n:=by subst hH;exact fun _ _ h=>h
 generalize hP:std=p,hB0:fitsB=B0,hB1:Bd.inB=B1,hB2:Bd.full=B2,hB3:atI=B3
 cbv
 repeat' first
  | (refine fun (_:Unit)=>?_;cbv)
  | (refine Or.inr ⟨49,[],[.s 6 .b,.s 7 (.i .i64)],[],[],H,rfl,hl,?_,fun ((f,i):Bool×Int) hk=>?_⟩<;>cbv)
  | (refine aI2 (fun h=>?_) (fun h=>?_)<;>cbv)
  | (refine aI2 ?_ ?_)
 all_goals subst hP hB0 hB1 hB2 hB3 hH
 all_goals clear hl
 all_goals try dsimp only at hk
 all_goals try dsimp only
 all_goals have f1:=hp.fit.lo
 all_goals have f2:=hp.fit.hi
 all_goals have f3:=hp.len
 all_goals try exact fin
 all_goals try first
  | exact fit_no1 (show b.inB q.row q.col=false by assumption)
  | exact fit_no2 ‹_›
  | exact fit_no3 (show b.full q.row (std.sub q.col 1)=true by assumption)
  | exact fit_no4 (show b.full q.row (std.add q.col (std.lenS q.word))=true by assumption)
 all_goals have hc:=col_of hp.fit (show b.inB q.row q.col=true by assumption)
 all_goals try (simp [std] at *;lia)
 all_goals obtain⟨e0,ho⟩:=fit_go hp (show b.inB q.row q.col=true by assumption) ‹_› (show b.full q.row (std.sub q.col 1)=false by assumption) (show b.full q.row (std.add q.col (std.lenS q.word))=false by assumption)
 all_goals first
  | (exact⟨Int.le_refl 0,Int.natCast_nonneg _,by rw [e0,Int.add_zero];rfl⟩;done)
  | (obtain⟨q0,q1,e⟩:=hk
     first
      | (rw [e,dn (ge_of ‹_›)];rfl)
      | (have h1:i<q.word.length:=lt_of ‹_›
         first
          | (exact ho.at q0 h1;done)
          | (exact e.trans (fg_no q0 h1 ‹_› ‹_›);done)
          | (have g1:i+1≤(q.word.length:Int):=by omega
             exact⟨by show 0≤i+1;omega,g1,e.trans (fg_free q0 h1 ‹_›)⟩;done)
          | (have g1:i+1≤(q.word.length:Int):=by omega
             exact⟨by show 0≤i+1;omega,g1,e.trans (fg_same q0 h1 ‹_› ‹_›)⟩;done)))
structure OkP (b:Bd) (q:Pl):Prop where
 bd:BdP b
 len:q.word.length≤274877906944
theorem word_len {s:List UInt8} (h:wordB s=true):2≤s.length∧s.length≤12:=by
 simp only [wordB,placedB,inR,Bool.and_eq_true,decide_eq_true_eq] at h
 omega
theorem ok_no1 {b:Bd} {q:Pl} (h:bdB b=false):okB b q=false:=by simp [okB,h]
theorem ok_no2 {b:Bd} {q:Pl} (h:wordB q.word=false):okB b q=false:=by simp [okB,h]
def sp_s_l12Ok (p:Pr):FSpec:=fsp (ac (aP aBd) (a1 (aA aPl))) (fun (b,q)=>OkP b q) (fun (b,q)=>.b (okB b q))
theorem ok_s_l12Ok:FOk Tryz.prog 212 (sp_s_l12Ok std):=by
 refine FOk.go (c:=cx std [(159,sp_s_l11Ok std),(269,sp_s_l12Word std),(125,sp_s_l12Flat std),(270,sp_s_l12Fits std)] [] 0) (cx_ok (.cons ok_s_l11Ok (.cons ok_s_l12Word (.cons ok_s_l12Flat (.cons ok_s_l12Fits .nil)))) .nil) mixed Tryz.func212 rfl rfl rfl (by kernel_rfl) ?_
 rintro ⟨b,q⟩ hp
 dsimp only at hp
 refine⟨rfl,?_⟩
 unfold sp_s_l11Ok sp_s_l12Word sp_s_l12Flat sp_s_l12Fits
 generalize hP:std=p,hB0:okB=B0,hB1:bdB=B1,hB2:wordB=B2,hB3:flatB=B3,hB4:flatP=B4,hB5:fitsB=B5
 cbv
 repeat' first
  | (refine fun (_:Unit)=>?_;cbv)
  | (refine aI2 (fun h=>?_) (fun h=>?_)<;>cbv)
  | (refine aI2 ?_ ?_)
  | (refine Or.inl (fun (_:Unit)=>?_);cbv)
 all_goals subst hP hB0 hB1 hB2 hB3 hB4 hB5
 all_goals try exact fin
 ·exact ltM_of hp.len
 ·exact ok_no2 ‹_›
 ·exact bdB.fit (show bdB b=true by assumption)
 ·have h2:=word_len (show wordB q.word=true by assumption)
  exact⟨flat_fit' (bdB.fit (show bdB b=true by assumption)) q,by show (flatP q).word.length ≤15;rw [flatP_word];omega⟩
 ·show fitsB (flatB b q) (flatP q)=_
  rw [okB,show bdB b=true by assumption,show wordB q.word=true by assumption];rfl
 ·exact ok_no1 (show bdB b=false by assumption)
def frI (b:Bd) (q:Pl):List Int:=(freshL b q).map fun i:Nat=>(i:Int)
def frK (b:Bd) (q:Pl) (k:Int):List Int:=(freshTo b q k.toNat).map fun i:Nat=>(i:Int)
theorem frK_len (b:Bd) (q:Pl) (k:Int):(frK b q k).length ≤k.toNat:=by
 unfold frK freshTo
 rw [List.length_map]
 exact Nat.le_trans (List.length_filter_le _ _) (by simp)
theorem frK_step {b:Bd} {q:Pl} {k:Int} (h0:0≤k):frK b q (k+1)=frK b q k++(if (atI b q.row (q.col+k)==46)=true then [k] else []):=by
 have e:((k.toNat:Nat):Int)=k:=by omega
 unfold frK freshTo
 rw [show (k+1).toNat =k.toNat+1 from by omega,List.range_succ,List.filter_append,List.map_append,List.filter_cons,e,show (46:UInt8)=UInt8.ofNat 46 from rfl,at_i _ _ _ _ (by decide)]
 rw [show ((46:Nat):Int)=46 from rfl]
 by_cases h:(atI b q.row (q.col+k)==46)=true
 ·rw [if_pos h,if_pos h];simp [e]
 ·rw [if_neg h,if_neg h];simp
def sp_s_l12Fresh (p:Pr):FSpec:=fsp (ac (aP aBd) (a1 (aA aPl))) (fun (b,q)=>OnR b q) (fun (b,q)=>.osl 0) (fun (b,q)=>[(0,.own [.i .i64] (frI b q) 2)])
theorem ok_s_l12Fresh:FOk Tryz.prog 217 (sp_s_l12Fresh std):=by
 refine FOk.go (c:=cx std [(197,sp_s_l11At std)] [] 0) (cx_ok (.cons ok_s_l11At .nil) .nil) mixed Tryz.func217 rfl rfl rfl (by kernel_rfl) ?_
 rintro ⟨b,q⟩ hp
 dsimp only at hp
 refine⟨rfl,?_⟩
 unfold sp_s_l11At
 obtain⟨H,hH⟩ : ∃H:Hd (Int×List Int),H=⟨fun (k,L)=>0≤k∧k≤q.word.length∧L=frK b q k,fun (k,L)=>(q.word.length-k).toNat,(· < ·)⟩:=⟨_,rfl⟩
 have hl : ∀m n,H.lt m n→m<n:=by subst hH;exact fun _ _ h=>h
 generalize hP:std=p,hB0:frI=B0,hB1:atI=B1
 cbv
 repeat' first
  | (refine fun (_:Unit)=>?_;cbv)
  | (refine Or.inr ⟨8,[],[.s 6 (.i .i64),.o 1 [.i .i64]],[.s 5],[],H,rfl,hl,?_,fun ((k,L):Int×List Int) hk=>?_⟩<;>cbv)
  | (refine aI2 (fun h=>?_) (fun h=>?_)<;>cbv)
  | (refine aI2 ?_ ?_)
 all_goals subst hP hB0 hB1 hH
 all_goals clear hl
 all_goals try dsimp only at hk
 all_goals try dsimp only
 all_goals have f1:=hp.col
 all_goals have f2:=hp.len
 all_goals try exact fin
 ·exact⟨Int.le_refl 0,Int.natCast_nonneg _,rfl⟩
 all_goals obtain⟨q0,q1,rfl⟩:=hk
 all_goals have h2:=frK_len b q k
 all_goals try (have h1:k<q.word.length:=lt_of ‹_›)
 ·exact hp.at q0 h1
 ·simp [std] at *;lia
 ·have g1:k+1≤(q.word.length:Int):=by omega
  refine⟨by show 0≤k+1;omega,g1,?_⟩
  show frK b q k++[k]=frK b q (k+1)
  rw [frK_step q0,if_pos (show (atI b q.row (q.col+k)==46)=true from h)]
 ·have g1:k+1≤(q.word.length:Int):=by omega
  refine⟨by show 0≤k+1;omega,g1,?_⟩
  show frK b q k=frK b q (k+1)
  rw [frK_step q0,if_neg (by rw [show (atI b q.row (q.col+k)==46)=false from h];exact Bool.false_ne_true),List.append_nil]
 ·have h3:k=(q.word.length:Int):=by have h4:(q.word.length:Int)≤k:=ge_of h;exact Int.le_antisymm q1 h4
  subst h3
  rfl
def plcK (b:Bd) (q:Pl) (k:Int):List UInt8:=((frI b q).take k.toNat).map fun i:Int=>q.word.getD i.toNat 0
theorem frI_bd {b:Bd} {q:Pl} {k:Int} (h0:0≤k) (h:k<(frI b q).length):0≤(frI b q).getD k.toNat 0∧(frI b q).getD k.toNat 0<q.word.length:=by
 have h1:k.toNat<(frI b q).length :=by omega
 rw [List.getD_eq_getElem?_getD,List.getElem?_eq_getElem h1]
 obtain⟨i,hi,he⟩:=List.mem_map.1 (List.getElem_mem h1)
 have h2:i∈List.range q.word.length:=(List.mem_filter.1 hi).1
 have h2:=List.mem_range.1 h2
 show 0≤(frI b q)[k.toNat]∧(frI b q)[k.toNat]<_
 have he:((i:Nat):Int)=(frI b q)[k.toNat]:=he
 omega
theorem frI_len (b:Bd) (q:Pl):(frI b q).length ≤q.word.length:=by
 have:=frK_len b q q.word.length
 unfold frK at this
 simpa [frI,freshL] using this
theorem plcK_step {b:Bd} {q:Pl} {k:Int} (h0:0≤k) (h:k<(frI b q).length):plcK b q (k+1)=plcK b q k++[q.word.getD ((frI b q).getD k.toNat 0).toNat 0]:=by
 unfold plcK
 rw [tk h0 h 0,List.map_append]
 rfl
theorem plcK_end {b:Bd} {q:Pl} {k:Int} (h:((frI b q).length : Int)≤k):plcK b q k=placedS b q:=by
 unfold plcK placedS
 rw [tk_all h]
 unfold frI
 rw [List.map_map]
 rfl
def sp_s_l12Placed (p:Pr):FSpec:=fsp (ac (aP aBd) (a1 (aA aPl))) (fun (b,q)=>OnR b q) (fun (b,q)=>.s (placedS b q))
theorem ok_s_l12Placed:FOk Tryz.prog 128 (sp_s_l12Placed std):=by
 refine FOk.go (c:=cx std [(217,sp_s_l12Fresh std)] [] 0) (cx_ok (.cons ok_s_l12Fresh .nil) .nil) mixed Tryz.func128 rfl rfl rfl (by kernel_rfl) ?_
 rintro ⟨b,q⟩ hp
 dsimp only at hp
 refine⟨rfl,?_⟩
 unfold sp_s_l12Fresh
 obtain⟨H,hH⟩ : ∃H:Hd (Int×List Int),H=⟨fun (k,L)=>0≤k∧k≤(frI b q).length ∧L=toBl (plcK b q k),fun (k,L)=>((frI b q).length - k).toNat,(· < ·)⟩:=⟨_,rfl⟩
 have hl : ∀m n,H.lt m n→m<n:=by subst hH;exact fun _ _ h=>h
 generalize hP:std=p,hB0:placedS=B0,hB1:frI=B1
 cbv
 repeat' first
  | (refine fun (_:Unit)=>?_;cbv)
  | (refine Or.inr ⟨12,[],[.s 7 (.i .i64),.o 2 [.i .u8]],[.s 6],[],H,rfl,hl,?_,fun ((k,L):Int×List Int) hk=>?_⟩<;>cbv)
  | (refine aI2 (fun h=>?_) (fun h=>?_)<;>cbv)
  | (refine aI2 ?_ ?_)
 all_goals subst hP hB0 hB1 hH
 all_goals clear hl
 all_goals try dsimp only at hk
 all_goals try dsimp only
 all_goals have f1:=hp.len
 all_goals have f2:=frI_len b q
 all_goals try exact fin
 ·exact⟨Int.le_refl 0,Int.natCast_nonneg _,rfl⟩
 all_goals obtain⟨q0,q1,rfl⟩:=hk
 all_goals have h2:(plcK b q k).length ≤(frI b q).length :=by unfold plcK;rw [List.length_map,List.length_take];exact Nat.min_le_right _ _
 all_goals try (have h1:k<(frI b q).length :=lt_of ‹_›)
 ·exact frI_bd q0 h1
 ·simp [std] at *;lia
 ·have g1:k+1≤((frI b q).length : Int):=by omega
  refine⟨by show 0≤k+1;omega,g1,?_⟩
  show toBl _++[((q.word.getD ((frI b q).getD k.toNat 0).toNat 0).toNat : Int)]=toBl (plcK b q (k+1))
  rw [plcK_step q0 h1,toB_snoc]
 ·show toSl (toBl _)=_
  rw [toS_toB,plcK_end (ge_of ‹_›)]
theorem full_bd' {b:Bd} (hf:b.Fit) {r c:Int} (h:b.full r c=true):0≤r∧r<b.size:=by
 unfold Bd.full at h
 rw [Bool.and_eq_true] at h
 obtain⟨⟨a1,a2⟩, -⟩:=inB_iff.1 h.1
 omega
theorem full_at {b:Bd} (hf:b.Fit) {r c:Int} (h:b.full r c=true):AtP b r c:=by
 unfold Bd.full at h
 rw [Bool.and_eq_true] at h
 exact⟨hf,h.1⟩
def upI (b:Bd) (col row:Int):Int:=upTo b col row.toNat
theorem upI_step {b:Bd} {c r:Int} (hf:b.Fit) (h:b.full (r-1) c=true):upI b c r=upI b c (r-1):=by
 have h1:=full_bd' hf h
 unfold upI
 rw [show r.toNat=(r-1).toNat + 1 from by omega,upTo,show (((r-1).toNat : Nat):Int)=r-1 from by omega,if_pos h]
theorem upI_end {b:Bd} {c r:Int} (h0:0≤r) (h:b.full (r-1) c=false):upI b c r=r:=by
 unfold upI
 by_cases hr:r=0
 ·subst hr;rfl
 ·rw [show r.toNat=(r-1).toNat + 1 from by omega,upTo,show (((r-1).toNat : Nat):Int)=r-1 from by omega,h]
  simp
  omega
theorem upI_bd (b:Bd) {c r:Int} (h0:0≤r):0≤upI b c r∧upI b c r≤r:=by
 have : ∀n:Nat,upTo b c n≤n:=by
  intro n
  induction n with
  | zero=>exact Nat.le_refl 0
  | succ n ih=>unfold upTo;split<;>omega
 have:=this r.toNat
 unfold upI
 omega
def crK (b:Bd) (row col letter r:Int):List UInt8:=crossGo b row.toNat col (u8 letter) (16-r).toNat r.toNat
section
variable {b:Bd} {row col l r:Int}
theorem crK_here (h0:0≤row) (h15:row≤14):crK b row col l row=u8 l::crK b row col l (row+1):=by
 unfold crK
 rw [show (16-row).toNat =(16-(row+1)).toNat + 1 from by omega,crossGo,if_pos rfl,show (row+1).toNat =row.toNat+1 from by omega]
theorem crK_on (hf:b.Fit) (h1:r≠row) (h0:0≤row) (h:b.full r col=true):crK b row col l r=b.at_ r col::crK b row col l (r+1):=by
 have h2:=full_bd' hf h
 have h3:=hf.hi
 unfold crK
 rw [show (16-r).toNat =(16-(r+1)).toNat + 1 from by omega,crossGo,if_neg (by omega),show ((r.toNat:Nat):Int)=r from by omega,if_pos h,show (r+1).toNat =r.toNat+1 from by omega]
theorem crK_end (h1:r≠row) (h0:0≤row) (hr:0≤r) (h:b.full r col=false):crK b row col l r=[]:=by
 unfold crK
 cases hn:(16-r).toNat with
 | zero=>rfl
 | succ n=>rw [crossGo,if_neg (by omega),show ((r.toNat:Nat):Int)=r from by omega,h];rfl
end
theorem u8_nat {l:Int} (h:std.inK .u8 l):((u8 l).toNat : Int)=l:=by
 obtain⟨h1,h2⟩:=h
 have h1:0≤l:=h1
 have h2:l≤255:=h2
 unfold u8
 rw [UInt8.toNat_ofNat']
 omega
def crI' (b:Bd) (row col letter:Int):List UInt8:=crK b row col letter (upI b col row)
structure CrP (b:Bd) (row col:Int):Prop where
 fit:b.Fit
 inn:b.inB row col=true
def sp_s_l12Cross (p:Pr):FSpec:=fsp (ac (aP aBd) (ac aI (ac aI (a1 aC)))) (fun (b,row,col,l)=>CrP b row col∧p.inK .u8 l) (fun (b,row,col,l)=>.tup [.s (crI' b row col l),.i .i64 (upI b col row)])
theorem ok_s_l12Cross:FOk Tryz.prog 275 (sp_s_l12Cross std):=by
 refine FOk.go (c:=cx std [(196,sp_s_l11Full std),(197,sp_s_l11At std)] [] 0) (cx_ok (.cons ok_s_l11Full (.cons ok_s_l11At .nil)) .nil) mixed Tryz.func275 rfl rfl rfl (by kernel_rfl) ?_
 rintro ⟨b,row,col,l⟩ hp
 dsimp only at hp
 refine⟨rfl,?_⟩
 unfold sp_s_l11Full sp_s_l11At
 obtain⟨H,hH⟩ : ∃H:Hd (Int),H=⟨fun f=>0≤f∧f≤row∧upI b col row=upI b col f,fun f=>f.toNat,(· < ·)⟩:=⟨_,rfl⟩
 have hl : ∀m n,H.lt m n→m<n:=by subst hH;exact fun _ _ h=>h
 obtain⟨H2,hH2⟩ : ∃H:Hd (Int×List Int),H=⟨fun (r,L)=>(0≤r∧r≤15)∧upI b col row≤r∧∃X,L=toBl X∧X.length≤r.toNat∧crI' b row col l=X++crK b row col l r,fun (r,L)=>(16-r).toNat,(· < ·)⟩:=⟨_,rfl⟩
 have hl2 : ∀m n,H2.lt m n→m<n:=by subst hH2;exact fun _ _ h=>h
 generalize hP:std=p,hB0:crI'=B0,hB1:upI=B1,hB2:Bd.full=B2,hB3:atI=B3
 cbv
 repeat' first
  | (refine fun (_:Unit)=>?_;cbv)
  | (refine Or.inr ⟨14,[],[.s 10 (.i .i64)],[],[],H,rfl,hl,?_,fun (f:Int) hk=>?_⟩<;>cbv)
  | (refine Or.inr ⟨23,[],[.s 12 (.i .i64),.o 0 [.i .u8]],[.s 11],[],H2,rfl,hl2,?_,fun ((r,L):Int×List Int) hk2=>?_⟩<;>cbv)
  | (refine aI2 (fun h=>?_) (fun h=>?_)<;>cbv)
  | (refine aI2 ?_ ?_)
 all_goals subst hP hB0 hB1 hB2 hB3 hH hH2
 all_goals clear hl
 all_goals try dsimp only at hk
 all_goals clear hl2
 all_goals try dsimp only at hk2
 all_goals try dsimp only
 all_goals have f1:=hp.1.fit.lo
 all_goals have f2:=hp.1.fit.hi
 all_goals have f3:=col_of hp.1.fit hp.1.inn
 all_goals try exact fin
 ·exact hp.1.fit
 ·have h1:=full_bd' hp.1.fit (show b.full (f-1) col=true from h)
  refine⟨h1.1,by show f-1≤row;omega,?_⟩
  rw [hk.2.2]
  exact upI_step hp.1.fit (show b.full (f-1) col=true from h)
 ·have h1:=full_bd' hp.1.fit (show b.full (f-1) col=true from h)
  show (f-1).toNat < f.toNat
  omega
 ·have h1:=upI_end hk.1 (show b.full (f-1) col=false from h)
  refine⟨⟨hk.1,by omega⟩,by rw [hk.2.2,h1];exact Int.le_refl f,[],rfl,Nat.zero_le _,?_⟩
  unfold crI'
  rw [hk.2.2,h1];rfl
 all_goals try (obtain⟨⟨r0,r1⟩,r2,X,rfl,r3,e⟩:=hk2)
 all_goals have h5:=upI_bd b (c:=col) (r:=row) (by omega)
 ·exact hp.1.fit
 ·exact full_at hp.1.fit ‹_›
 ·simp [std] at *;lia
 ·have h1:b.full r col=true:=by assumption
  have h2:r≠row:=by intro hh;have h3:std.eqI r row=false:=‹_›;rw [hh] at h3;simp at h3
  have h4:=full_bd' hp.1.fit h1
  have g1:r+1≤15:=by omega
  have g2:(X++[b.at_ r col]).length ≤(r+1).toNat :=by simp only [List.length_append,List.length_singleton];omega
  refine⟨⟨by show 0≤r+1;omega,g1⟩,by show _≤r+1;omega,X++[b.at_ r col],toB_snoc X (b.at_ r col),g2,?_⟩
  rw [e,crK_on hp.1.fit h2 (by omega) h1]
  simp [std]
 ·have h1:b.full r col=false:=by assumption
  have h2:r≠row:=by intro hh;have h3:std.eqI r row=false:=‹_›;rw [hh] at h3;simp at h3
  show toSl (toBl X)=_
  rw [toS_toB,e,crK_end h2 (by omega) r0 h1,List.append_nil]
 ·rw [hk.2.2,upI_end hk.1 ‹_›]
 ·simp [std] at *;lia
 ·have h2:r=row:=by have h3:std.eqI r row=true:=‹_›;simpa using h3
  subst h2
  have g1:r+1≤15:=by omega
  have g2:(X++[u8 l]).length ≤(r+1).toNat :=by simp only [List.length_append,List.length_singleton];omega
  refine⟨⟨by show 0≤r+1;omega,g1⟩,by show _≤r+1;omega,X++[u8 l],?_,g2,?_⟩
  ·rw [←toB_snoc,u8_nat hp.2];rfl
  ·rw [e,crK_here r0 (by omega)]
   simp [std]
end Ax
namespace Ax
set_option maxRecDepth 100000
def keepL (l:List (List UInt8)):List (List UInt8):=l.filter fun s=>decide (1<s.length)
def formedL (b:Bd) (q:Pl):List (List UInt8):=q.word::keepL ((freshL b q).map (crossAt b q))
def formK (b:Bd) (q:Pl) (k:Int):List (List UInt8):=q.word::keepL (((frI b q).take k.toNat).map fun i=>crossAt b q i.toNat)
theorem crI'_eq (b:Bd) (row col l:Int):crI' b row col l=crossS b row.toNat col (u8 l):=by
 unfold crI' crK crossS upI
 rw [Int.toNat_natCast,show ((16:Int)-((upTo b col row.toNat:Nat):Int)).toNat =16-upTo b col row.toNat from by omega]
theorem form_len (b:Bd) (q:Pl) (k:Int):(formK b q k).length ≤q.word.length+1:=by
 have h1:=frI_len b q
 have h2:=List.length_filter_le (fun s:List UInt8=>decide (1<s.length)) (((frI b q).take k.toNat).map fun i=>crossAt b q i.toNat)
 rw [List.length_map,List.length_take] at h2
 unfold formK keepL
 rw [List.length_cons]
 omega
theorem form_step {b:Bd} {q:Pl} {k:Int} (h0:0≤k) (h:k<(frI b q).length):formK b q (k+1)=formK b q k++(if 1<(crossAt b q ((frI b q).getD k.toNat 0).toNat).length then [crossAt b q ((frI b q).getD k.toNat 0).toNat] else []):=by
 unfold formK keepL
 rw [tk h0 h 0,List.map_append,List.filter_append,List.cons_append]
 congr 2
 simp only [List.map_cons,List.map_nil,List.filter_cons,List.filter_nil,decide_eq_true_eq]
theorem form_end {b:Bd} {q:Pl} {k:Int} (h:((frI b q).length : Int)≤k):formK b q k=formedL b q:=by
 unfold formK formedL
 rw [tk_all h]
 unfold frI
 rw [List.map_map]
 rfl
theorem cross_q {b:Bd} {q:Pl} {i:Int} (h:0≤i):crI' b q.row (q.col+i) (std.byte q.word i)=crossAt b q i.toNat:=by
 rw [crI'_eq,u8_byte]
 unfold crossAt
 rw [show ((i.toNat:Nat):Int)=i from by omega]
def sp_s_l12Formed (p:Pr):FSpec:=fsp (ac (aP aBd) (a1 (aA aPl))) (fun (b,q)=>OnR b q) (fun (b,q)=>.osl 0) (fun (b,q)=>[(0,.own [.s] (formedL b q) 9)])
theorem ok_s_l12Formed:FOk Tryz.prog 271 (sp_s_l12Formed std):=by
 refine FOk.go (c:=cx std [(217,sp_s_l12Fresh std),(275,sp_s_l12Cross std)] [] 0) (cx_ok (.cons ok_s_l12Fresh (.cons ok_s_l12Cross .nil)) .nil) mixed Tryz.func271 rfl rfl rfl (by kernel_rfl) ?_
 rintro ⟨b,q⟩ hp
 dsimp only at hp
 refine⟨rfl,?_⟩
 unfold sp_s_l12Fresh sp_s_l12Cross
 obtain⟨H,hH⟩ : ∃H:Hd (Int×List (List UInt8)),H=⟨fun (k,L)=>0≤k∧k≤(frI b q).length ∧L=formK b q k,fun (k,L)=>((frI b q).length - k).toNat,(· < ·)⟩:=⟨_,rfl⟩
 have hl : ∀m n,H.lt m n→m<n:=by subst hH;exact fun _ _ h=>h
 generalize hP:std=p,hB0:formedL=B0,hB1:frI=B1,hB2:crI'=B2,hB3:upI=B3
 cbv
 repeat' first
  | (refine fun (_:Unit)=>?_;cbv)
  | (refine Or.inr ⟨16,[],[.s 7 (.i .i64),.o 1 [.s]],[.s 5],[],H,rfl,hl,?_,fun ((k,L):Int×List (List UInt8)) hk=>?_⟩<;>cbv)
  | (refine aI2 (fun h=>?_) (fun h=>?_)<;>cbv)
  | (refine aI2 ?_ ?_)
 all_goals subst hP hB0 hB1 hB2 hB3 hH
 all_goals clear hl
 all_goals try dsimp only at hk
 all_goals try dsimp only
 all_goals have f1:=hp.len
 all_goals have f2:=hp.col
 all_goals have f3:=frI_len b q
 all_goals try exact fin
 ·exact⟨Int.le_refl 0,Int.natCast_nonneg _,rfl⟩
 all_goals obtain⟨q0,q1,rfl⟩:=hk
 all_goals have h2:=form_len b q k
 all_goals try (have h1:k<(frI b q).length :=lt_of ‹_›)
 all_goals try (have h3:=frI_bd q0 h1)
 all_goals try (have h4:=cross_q (b:=b) (q:=q) h3.1)
 all_goals try (have g1:k+1≤((frI b q).length : Int):=by omega)
 ·exact in64 (by show _≤q.col+(frI b q).getD k.toNat 0∧q.col+(frI b q).getD k.toNat 0≤_;omega)
 ·exact h3
 ·have h5:=hp.at h3.1 h3.2
  exact⟨hp.fit,h5.inn⟩
 ·simp [std] at *;lia
 ·refine⟨by show 0≤k+1;omega,g1,?_⟩
  have h6:std.ltI 1 (std.lenS (crI' b q.row (q.col+(frI b q).getD k.toNat 0) (std.byte q.word ((frI b q).getD k.toNat 0))))=true:=by assumption
  rw [h4] at h6
  show formK b q k++[crI' b q.row (q.col+(frI b q).getD k.toNat 0) (std.byte q.word ((frI b q).getD k.toNat 0))]=formK b q (k+1)
  rw [form_step q0 h1,h4,if_pos (by have h7:=lt_of h6;simp only [sd_lenS] at h7;omega)]
 ·refine⟨by show 0≤k+1;omega,g1,?_⟩
  have h6:std.ltI 1 (std.lenS (crI' b q.row (q.col+(frI b q).getD k.toNat 0) (std.byte q.word ((frI b q).getD k.toNat 0))))=false:=by assumption
  rw [h4] at h6
  show formK b q k=formK b q (k+1)
  rw [form_step q0 h1,if_neg (by have h7:=ge_of h6;simp only [sd_lenS] at h7;omega),List.append_nil]
 ·rw [form_end (ge_of ‹_›)]
theorem cross_len (b:Bd) (q:Pl) (i:Nat):(crossAt b q i).length ≤16:=by
 have : ∀(f r:Nat) (row:Nat) (c:Int) (l:UInt8),(crossGo b row c l f r).length ≤f:=by
  intro f
  induction f with
  | zero=>intro r row c l;exact Nat.le_refl 0
  | succ f ih=>
    intro r row c l
    unfold crossGo
    split
    ·rw [List.length_cons];have:=ih (r+1) row c l;omega
    ·split
     ·rw [List.length_cons];have:=ih (r+1) row c l;omega
     ·exact Nat.zero_le _
 unfold crossAt crossS
 exact Nat.le_trans (this _ _ _ _ _) (Nat.sub_le _ _)
theorem formed_len {b:Bd} {q:Pl} (h:q.word.length≤15) : ∀w∈formedL b q,w.length≤16:=by
 intro w hw
 rcases List.mem_cons.1 hw with rfl | hw
 ·omega
 ·obtain⟨i, -,rfl⟩:=List.mem_map.1 (List.mem_filter.1 hw).1
  exact cross_len b q i
theorem formed_at {b:Bd} {q:Pl} (h:q.word.length≤15) (k:Int):((formedL b q).getD k.toNat []).length ≤16:=by
 rw [List.getD_eq_getElem?_getD]
 cases hk:(formedL b q)[k.toNat]? with
 | none=>simp
 | some w=>exact formed_len h w (List.mem_of_getElem? hk)
theorem formed_n (b:Bd) (q:Pl):(formedL b q).length ≤q.word.length+1:=by
 have h1:=form_len b q (frI b q).length
 rwa [form_end (Int.le_refl _)] at h1
def wordsL (b:Bd) (q:Pl):List (List UInt8):=(formedL (flatB b q) (flatP q)).map lowS
structure PlP (b:Bd) (q:Pl):Prop where
 fit:b.Fit
 on:OnR (flatB b q) (flatP q)
def sp_s_l12Words (p:Pr):FSpec:=fsp (ac (aP aBd) (a1 (aA aPl))) (fun (b,q)=>PlP b q) (fun (b,q)=>.osl 0) (fun (b,q)=>[(0,.own [.s] (wordsL b q) 9)])
theorem ok_s_l12Words:FOk Tryz.prog 225 (sp_s_l12Words std):=by
 refine FOk.go (c:=cx std [(125,sp_s_l12Flat std),(271,sp_s_l12Formed std),(198,sp_s_l03Small std)] [] 0) (cx_ok (.cons ok_s_l12Flat (.cons ok_s_l12Formed (.cons ok_s_l03Small .nil))) .nil) mixed Tryz.func225 rfl rfl rfl (by kernel_rfl) ?_
 rintro ⟨b,q⟩ hp
 dsimp only at hp
 refine⟨rfl,?_⟩
 unfold sp_s_l12Flat sp_s_l12Formed sp_s_l03Small
 obtain⟨H,hH⟩ : ∃H:Hd (Int×List (List UInt8)),H=⟨fun (k,L)=>0≤k∧k≤(formedL (flatB b q) (flatP q)).length ∧L=((formedL (flatB b q) (flatP q)).take k.toNat).map lowS,fun (k,L)=>((formedL (flatB b q) (flatP q)).length - k).toNat,(· < ·)⟩:=⟨_,rfl⟩
 have hl : ∀m n,H.lt m n→m<n:=by subst hH;exact fun _ _ h=>h
 generalize hP:std=p,hB0:wordsL=B0,hB1:formedL=B1,hB2:lowS=B2,hB3:flatB=B3,hB4:flatP=B4
 cbv
 repeat' first
  | (refine fun (_:Unit)=>?_;cbv)
  | (refine Or.inr ⟨19,[],[.s 9 (.i .i64),.o 4 [.s]],[.s 8],[],H,rfl,hl,?_,fun ((k,L):Int×List (List UInt8)) hk=>?_⟩<;>cbv)
  | (refine aI2 (fun h=>?_) (fun h=>?_)<;>cbv)
  | (refine aI2 ?_ ?_)
 all_goals subst hP hB0 hB1 hB2 hB3 hB4 hH
 all_goals clear hl
 all_goals try dsimp only at hk
 all_goals try dsimp only
 all_goals have f1:=hp.on.len
 all_goals have f2:=formed_n (flatB b q) (flatP q)
 all_goals try exact fin
 all_goals obtain⟨q0,q1,rfl⟩:=hk
 all_goals try (have h1:k<(formedL (flatB b q) (flatP q)).length :=lt_of ‹_›)
 ·exact ltM_of (Nat.le_trans (formed_at f1 k) (by decide))
 ·show ((((formedL (flatB b q) (flatP q)).take k.toNat).map lowS).length : Int)+1≤274877906944
  rw [List.length_map,List.length_take]
  omega
 ·have g1:k+1≤((formedL (flatB b q) (flatP q)).length : Int):=by omega
  refine⟨by show 0≤k+1;omega,g1,?_⟩
  show (((formedL (flatB b q) (flatP q)).take k.toNat).map lowS)++[lowS ((formedL (flatB b q) (flatP q)).getD k.toNat [])]=((formedL (flatB b q) (flatP q)).take (k+1).toNat).map lowS
  rw [tk q0 h1 [],List.map_append];rfl
 ·rw [tk_all (ge_of ‹_›)];rfl
def wrongL (b:Bd) (ws:List (List UInt8)) (q:Pl):List (List UInt8):=(wordsL b q).filter fun s=>!hasB ws s
structure WrP (b:Bd) (ws:List (List UInt8)) (q:Pl):Prop where
 pl:PlP b q
 ws:WsP ws
theorem words_n (b:Bd) (q:Pl):(wordsL b q).length ≤(flatP q).word.length + 1:=by
 unfold wordsL
 rw [List.length_map]
 exact formed_n _ _
theorem filt_step {L:List (List UInt8)} {f:List UInt8→Bool} {k:Int} (h0:0≤k) (h:k<L.length):(L.take (k+1).toNat).filter f=(L.take k.toNat).filter f++(if f (L.getD k.toNat []) then [L.getD k.toNat []] else []):=by
 rw [tk h0 h [],List.filter_append]
 congr 1
 simp only [List.filter_cons,List.filter_nil]
def sp_s_l12Wrong (p:Pr):FSpec:=fsp (ac (aP aBd) (ac (aP aLex) (a1 (aA aPl)))) (fun (b,ws,q)=>WrP b ws q) (fun (b,ws,q)=>.osl 0) (fun (b,ws,q)=>[(0,.own [.s] (wrongL b ws q) 9)])
theorem ok_s_l12Wrong:FOk Tryz.prog 215 (sp_s_l12Wrong std):=by
 refine FOk.go (c:=cx std [(225,sp_s_l12Words std),(272,sp_s_l05Has std)] [] 0) (cx_ok (.cons ok_s_l12Words (.cons ok_s_l05Has .nil)) .nil) mixed Tryz.func215 rfl rfl rfl (by kernel_rfl) ?_
 rintro ⟨b,ws,q⟩ hp
 dsimp only at hp
 refine⟨rfl,?_⟩
 unfold sp_s_l12Words sp_s_l05Has
 obtain⟨H,hH⟩ : ∃H:Hd (Int×List (List UInt8)),H=⟨fun (k,L)=>0≤k∧k≤(wordsL b q).length ∧L=((wordsL b q).take k.toNat).filter (fun s=>!hasB ws s),fun (k,L)=>((wordsL b q).length - k).toNat,(· < ·)⟩:=⟨_,rfl⟩
 have hl : ∀m n,H.lt m n→m<n:=by subst hH;exact fun _ _ h=>h
 generalize hP:std=p,hB0:wrongL=B0,hB1:wordsL=B1,hB2:hasB=B2
 cbv
 repeat' first
  | (refine fun (_:Unit)=>?_;cbv)
  | (refine Or.inr ⟨14,[],[.s 9 (.i .i64),.o 2 [.s]],[.s 8],[],H,rfl,hl,?_,fun ((k,L):Int×List (List UInt8)) hk=>?_⟩<;>cbv)
  | (refine aI2 (fun h=>?_) (fun h=>?_)<;>cbv)
  | (refine aI2 ?_ ?_)
 all_goals subst hP hB0 hB1 hB2 hH
 all_goals clear hl
 all_goals try dsimp only at hk
 all_goals try dsimp only
 all_goals have f1:=hp.pl.on.len
 all_goals have f2:=words_n b q
 all_goals try exact fin
 all_goals obtain⟨q0,q1,rfl⟩:=hk
 all_goals have h2:=List.length_filter_le (fun s:List UInt8=>!hasB ws s) ((wordsL b q).take k.toNat)
 all_goals rw [List.length_take] at h2
 all_goals try (have h1:k<(wordsL b q).length :=lt_of ‹_›)
 all_goals try (have g1:k+1≤((wordsL b q).length : Int):=by omega)
 ·simp [std] at *;lia
 ·refine⟨by show 0≤k+1;omega,g1,?_⟩
  have h6:hasB ws ((wordsL b q).getD k.toNat [])=false:=by assumption
  show _++[(wordsL b q).getD k.toNat []]=((wordsL b q).take (k+1).toNat).filter fun s=>!hasB ws s
  rw [filt_step q0 h1,h6];rfl
 ·refine⟨by show 0≤k+1;omega,g1,?_⟩
  have h6:hasB ws ((wordsL b q).getD k.toNat [])=true:=by assumption
  show _=((wordsL b q).take (k+1).toNat).filter fun s=>!hasB ws s
  rw [filt_step q0 h1,h6];simp
 ·rw [tk_all (ge_of ‹_›)];rfl
def touchB (b:Bd) (q:Pl):Bool:=
 if lettersS b=[] then (decide ((flatP q).row =b.size/2)&&(decide ((flatP q).col ≤b.size/2)&&decide (b.size/2<(flatP q).col + q.word.length)))
 else decide ((freshL (flatB b q) (flatP q)).length < q.word.length)||decide (1<(formedL (flatB b q) (flatP q)).length)
def doubleB (b:Bd) (q:Pl):Bool:=q.down&&(decide ((freshL (flatB b q) (flatP q)).length =1)&&decide (1<(formedL (flatB b q) (flatP q)).length))
def legalC (b:Bd) (ws:List (List UInt8)) (rack:List UInt8) (q:Pl):Int:=
 if okB b q then if takeB rack (tilesS (placedS (flatB b q) (flatP q))) then if touchB b q then if doubleB b q then 4 else if 0<(wrongL b ws q).length then 9 else 0 else 6 else 3 else 2
theorem fit_bdP {b:Bd} (hf:b.Fit):BdP b:=by
 have h1:=sq_bd (n:=b.size) (by simp [inR,hf.lo,hf.hi])
 have h2:=hf.prem
 have h3:=hf.cells
 exact⟨by omega,by omega⟩
section
variable {b:Bd} {q:Pl}
theorem to_half (hf:b.Fit):std.quo b.size 2=b.size/2:=quo_nn (by have:=hf.lo;omega)
theorem to_e (h:std.eqS (lettersS b) []=true):lettersS b=[]:=by simpa using h
theorem to_n (h:std.eqS (lettersS b) []=false) : ¬lettersS b=[]:=by simpa using h
theorem to_no1 (hf:b.Fit) (h:std.eqS (lettersS b) []=true) (h1:std.eqI (flatP q).row (std.quo b.size 2)=false):touchB b q=false:=by
 rw [to_half hf] at h1
 unfold touchB
 rw [if_pos (to_e h)]
 have h1 : ¬(flatP q).row =b.size/2:=by simpa using h1
 simp [h1]
theorem to_no2 (hf:b.Fit) (h:std.eqS (lettersS b) []=true) (h1:std.leI (flatP q).col (std.quo b.size 2)=false):touchB b q=false:=by
 rw [to_half hf] at h1
 unfold touchB
 rw [if_pos (to_e h)]
 have h1 : ¬(flatP q).col ≤b.size/2:=by simpa using h1
 simp [h1]
theorem to_yes (hf:b.Fit) (h:std.eqS (lettersS b) []=true) (h1:std.eqI (flatP q).row (std.quo b.size 2)=true) (h2:std.leI (flatP q).col (std.quo b.size 2)=true):std.ltI (std.quo b.size 2) (std.add (flatP q).col (std.lenS (flatP q).word))=touchB b q:=by
 rw [to_half hf] at h1 h2 ⊢
 unfold touchB
 rw [if_pos (to_e h)]
 have h1:(flatP q).row =b.size/2:=by simpa using h1
 have h2:(flatP q).col ≤b.size/2:=by simpa using h2
 simp [h1,h2,flatP_word]
theorem fr_n (b:Bd) (q:Pl):(frI b q).length =(freshL b q).length :=by unfold frI;rw [List.length_map]
theorem to_any (h:std.eqS (lettersS b) []=false):touchB b q=(std.ltI (std.len (frI (flatB b q) (flatP q))) (std.lenS (flatP q).word)||std.ltI 1 (std.len (formedL (flatB b q) (flatP q)))):=by
 unfold touchB
 rw [if_neg (to_n h),flatP_word]
 simp only [sd_ltI,sd_len,sd_lenS,fr_n]
 congr 1
 ·simp
 ·simp [←Int.ofNat_lt]
theorem do_any:doubleB b q=(q.down&&(std.eqI (std.len (frI (flatB b q) (flatP q))) 1&&std.ltI 1 (std.len (formedL (flatB b q) (flatP q))))):=by
 unfold doubleB
 simp only [sd_ltI,sd_len,sd_eqI,fr_n]
 congr 2
 ·rw [Bool.eq_iff_iff,beq_iff_eq,decide_eq_true_eq];omega
 ·simp [←Int.ofNat_lt]
theorem do_f (h:q.down=false):doubleB b q=false:=by unfold doubleB;rw [h];rfl
theorem do_t (h:q.down=true) (h1:std.eqI (std.len (frI (flatB b q) (flatP q))) 1=true):std.ltI 1 (std.len (formedL (flatB b q) (flatP q)))=doubleB b q:=by rw [do_any,h,h1];rfl
theorem do_t0 (h:q.down=true) (h1:std.eqI (std.len (frI (flatB b q) (flatP q))) 1=false):false=doubleB b q:=by rw [do_any,h,h1];rfl
end
def sp_s_l12Touches (p:Pr):FSpec:=fsp (ac (aP aBd) (a1 (aA aPl))) (fun (b,q)=>PlP b q) (fun (b,q)=>.b (touchB b q))
theorem ok_s_l12Touches:FOk Tryz.prog 213 (sp_s_l12Touches std):=by
 refine FOk.go (c:=cx std [(125,sp_s_l12Flat std),(271,sp_s_l12Formed std),(217,sp_s_l12Fresh std),(173,sp_s_l11Letters std)] [] 0) (cx_ok (.cons ok_s_l12Flat (.cons ok_s_l12Formed (.cons ok_s_l12Fresh (.cons ok_s_l11Letters .nil)))) .nil) mixed Tryz.func213 rfl rfl rfl (by kernel_rfl) ?_
 rintro ⟨b,q⟩ hp
 dsimp only at hp
 refine⟨rfl,?_⟩
 unfold sp_s_l12Flat sp_s_l12Formed sp_s_l12Fresh sp_s_l11Letters
 generalize hP:std=p,hB0:touchB=B0,hB1:formedL=B1,hB2:flatB=B2,hB3:flatP=B3,hB4:frI=B4,hB5:lettersS=B5
 cbv
 repeat' first
  | (refine fun (_:Unit)=>?_;cbv)
  | (refine aI2 (fun h=>?_) (fun h=>?_)<;>cbv)
  | (refine aI2 ?_ ?_)
  | (refine Or.inl (fun (_:Unit)=>?_);cbv)
 all_goals subst hP hB0 hB1 hB2 hB3 hB4 hB5
 all_goals have f1:=hp.fit.lo
 all_goals have f2:=hp.fit.hi
 all_goals have f3:=hp.on.col
 all_goals have f4:=hp.on.len
 all_goals try exact fin
 ·exact fit_bdP hp.fit
 ·exact to_yes hp.fit ‹_› ‹_› ‹_›
 ·exact to_no2 hp.fit ‹_› ‹_›
 ·exact to_no1 hp.fit ‹_› ‹_›
 ·rw [to_any (b:=b) (q:=q) ‹_›,show std.ltI (std.len (frI (flatB b q) (flatP q))) (std.lenS (flatP q).word)=false by assumption];rfl
 ·rw [to_any (b:=b) (q:=q) ‹_›,show std.ltI (std.len (frI (flatB b q) (flatP q))) (std.lenS (flatP q).word)=true by assumption];rfl
def sp_s_l12Double (p:Pr):FSpec:=fsp (ac (aP aBd) (a1 (aA aPl))) (fun (b,q)=>PlP b q) (fun (b,q)=>.b (doubleB b q))
theorem ok_s_l12Double:FOk Tryz.prog 214 (sp_s_l12Double std):=by
 refine FOk.go (c:=cx std [(125,sp_s_l12Flat std),(271,sp_s_l12Formed std),(217,sp_s_l12Fresh std)] [] 0) (cx_ok (.cons ok_s_l12Flat (.cons ok_s_l12Formed (.cons ok_s_l12Fresh .nil))) .nil) mixed Tryz.func214 rfl rfl rfl (by kernel_rfl) ?_
 rintro ⟨b,q⟩ hp
 dsimp only at hp
 refine⟨rfl,?_⟩
 unfold sp_s_l12Flat sp_s_l12Formed sp_s_l12Fresh
 generalize hP:std=p,hB0:doubleB=B0,hB1:formedL=B1,hB2:flatB=B2,hB3:flatP=B3,hB4:frI=B4
 cbv
 repeat' first
  | (refine fun (_:Unit)=>?_;cbv)
  | (refine aI2 (fun h=>?_) (fun h=>?_)<;>cbv)
  | (refine aI2 ?_ ?_)
  | (refine Or.inl (fun (_:Unit)=>?_);cbv)
 all_goals subst hP hB0 hB1 hB2 hB3 hB4
 all_goals try exact fin
 ·exact do_f ‹_›
 ·exact do_t ‹_› ‹_›
 ·exact (do_t0 ‹_› ‹_›).symm
structure LeP (b:Bd) (ws:List (List UInt8)) (rack:List UInt8) (q:Pl):Prop where
 bd:BdP b
 ws:WsP ws
 rk:rack.length≤274877906944
 wd:q.word.length≤274877906944
theorem okB_on {b:Bd} {q:Pl} (h:okB b q=true):PlP b q:=by
 unfold okB at h
 rw [Bool.and_eq_true,Bool.and_eq_true] at h
 obtain⟨h1,h2,h3⟩:=h
 have hf:=bdB.fit h1
 have h4:=word_len h2
 unfold fitsB at h3
 simp only [Bool.and_eq_true,decide_eq_true_eq] at h3
 exact⟨hf,flat_fit' hf q,by rw [flatP_word];omega,h3.1,h3.2.1⟩
section
variable {b:Bd} {ws:List (List UInt8)} {rack:List UInt8} {q:Pl}
theorem placedS_len (b:Bd) (q:Pl):(placedS b q).length ≤q.word.length:=by
 have:=frI_len b q
 unfold placedS
 rw [List.length_map]
 rwa [fr_n] at this
theorem tilesS_len (s:List UInt8):(tilesS s).length =s.length:=by
 unfold tilesS
 rw [isort_length,List.length_map]
theorem le_2 (h:okB b q=false):2=legalC b ws rack q:=by unfold legalC;rw [h];rfl
theorem le_3 (h:okB b q=true) (h1:takeB rack (tilesS (placedS (flatB b q) (flatP q)))=false):3=legalC b ws rack q:=by unfold legalC;rw [h,h1];rfl
theorem le_6 (h:okB b q=true) (h1:takeB rack (tilesS (placedS (flatB b q) (flatP q)))=true) (h2:touchB b q=false):6=legalC b ws rack q:=by unfold legalC;rw [h,h1,h2];rfl
theorem le_4 (h:okB b q=true) (h1:takeB rack (tilesS (placedS (flatB b q) (flatP q)))=true) (h2:touchB b q=true) (h3:doubleB b q=true):4=legalC b ws rack q:=by unfold legalC;rw [h,h1,h2,h3];rfl
theorem le_9 (h:okB b q=true) (h1:takeB rack (tilesS (placedS (flatB b q) (flatP q)))=true) (h2:touchB b q=true) (h3:doubleB b q=false) (h4:std.ltI 0 (std.len (wrongL b ws q))=true):9=legalC b ws rack q:=by
 have h5:=lt_of h4
 unfold legalC;rw [h,h1,h2,h3,if_pos rfl,if_pos rfl,if_pos rfl,if_neg (by decide),if_pos (by simp only [sd_len] at h5;omega)]
theorem le_0 (h:okB b q=true) (h1:takeB rack (tilesS (placedS (flatB b q) (flatP q)))=true) (h2:touchB b q=true) (h3:doubleB b q=false) (h4:std.ltI 0 (std.len (wrongL b ws q))=false):0=legalC b ws rack q:=by
 have h5:=ge_of h4
 unfold legalC;rw [h,h1,h2,h3,if_pos rfl,if_pos rfl,if_pos rfl,if_neg (by decide),if_neg (by simp only [sd_len] at h5;omega)]
end
def sp_s_l12Legal (p:Pr):FSpec:=fsp (ac (aP aBd) (ac (aP aLex) (ac aS (a1 (aA aPl))))) (fun (b,ws,rack,q)=>LeP b ws rack q) (fun (b,ws,rack,q)=>.i .i64 (legalC b ws rack q))
theorem ok_s_l12Legal:FOk Tryz.prog 122 (sp_s_l12Legal std):=by
 refine FOk.go (c:=cx std [(212,sp_s_l12Ok std),(125,sp_s_l12Flat std),(126,sp_s_l03Take std),(127,sp_s_l03Tiles std),(128,sp_s_l12Placed std),(213,sp_s_l12Touches std),(214,sp_s_l12Double std),(215,sp_s_l12Wrong std)] [] 0) (cx_ok (.cons ok_s_l12Ok (.cons ok_s_l12Flat (.cons ok_s_l03Take (.cons ok_s_l03Tiles (.cons ok_s_l12Placed (.cons ok_s_l12Touches (.cons ok_s_l12Double (.cons ok_s_l12Wrong .nil)))))))) .nil) mixed Tryz.func122 rfl rfl rfl (by kernel_rfl) ?_
 rintro ⟨b,ws,rack,q⟩ hp
 dsimp only at hp
 refine⟨rfl,?_⟩
 unfold sp_s_l12Ok sp_s_l12Flat sp_s_l03Take sp_s_l03Tiles sp_s_l12Placed sp_s_l12Touches sp_s_l12Double sp_s_l12Wrong
 generalize hP:std=p,hB0:legalC=B0,hB1:okB=B1,hB2:takeB=B2,hB3:takeS=B3,hB4:tilesS=B4,hB5:placedS=B5,hB6:touchB=B6,hB7:doubleB=B7,hB8:wrongL=B8,hB9:flatB=B9,hB10:flatP=B10
 cbv
 repeat' first
  | (refine fun (_:Unit)=>?_;cbv)
  | (refine aI2 (fun h=>?_) (fun h=>?_)<;>cbv)
  | (refine aI2 ?_ ?_)
  | (refine Or.inl (fun (_:Unit)=>?_);cbv)
 all_goals subst hP hB0 hB1 hB2 hB3 hB4 hB5 hB6 hB7 hB8 hB9 hB10
 all_goals try exact fin
 ·exact⟨hp.bd,hp.wd⟩
 ·exact le_2 ‹_›
 all_goals have h1:okB b q=true:=by assumption
 all_goals have h2:=okB_on h1
 all_goals have h3:=placedS_len (flatB b q) (flatP q)
 all_goals have h4:=tilesS_len (placedS (flatB b q) (flatP q))
 all_goals have h5:=h2.on.len
 ·exact h2.fit
 ·exact h2.on
 ·exact ltM_of (Nat.le_trans h3 (Nat.le_trans h5 (by decide)))
 ·exact ltM_of hp.rk
 ·exact ltM_of (Nat.le_trans (Nat.le_of_eq h4) (Nat.le_trans h3 (Nat.le_trans h5 (by decide))))
 ·exact le_3 h1 ‹_›
 all_goals have h6:takeB rack (tilesS (placedS (flatB b q) (flatP q)))=true:=by assumption
 ·exact h2
 ·exact le_6 h1 h6 ‹_›
 ·exact h2
 ·exact le_4 h1 h6 ‹_› ‹_›
 ·exact⟨h2,hp.ws⟩
 ·exact le_9 h1 h6 ‹_› ‹_› ‹_›
 ·exact le_0 h1 h6 ‹_› ‹_› ‹_›
end Ax
end Go.Proofs.YtjjonmhpgkahoaaGreatDoor
