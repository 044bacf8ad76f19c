/-
  Actions: which are valid, what they lead to, of the impl package.
  Conditions: none.
-/
import Derived.Test.YtghmphmbpdiflaaGreatDoorE36
import Derived.Test.YtghmphmbpdiflaaGreatDoorE38
import Derived.Test.YtghmphmbpdiflaaGreatDoorE41
import Derived.Test.YtghmphmbpdiflaaGreatDoorE28
set_option linter.unusedSimpArgs false
set_option linter.unusedVariables false
namespace Go.Proofs.YtghmphmbpdiflaaGreatDoor
namespace Ax
set_option maxRecDepth 100000
set_option maxHeartbeats 20000000
def dgS (n:Int):List UInt8:=if n<10 then [UInt8.ofNat (48+n.toNat)] else [UInt8.ofNat (48+n.toNat/10),UInt8.ofNat (48+n.toNat%10)]
structure DgP (n:Int):Prop where
 lo:0≤n
 hi:n<100
structure DgB (n b:Int):Prop where
 n:DgP n
 b:b=10
theorem dg_len (n:Int):(dgS n).length ≤2:=by unfold dgS;split<;>simp
theorem dg_m {n:Int} (h:DgP n) : ∃m:Fin 100,n=(m.val:Int):=⟨⟨n.toNat,by have:=h.lo;have:=h.hi;omega⟩,by have:=h.lo;show n=(n.toNat:Int);omega⟩
def sp_cv_small (p:Pr):FSpec:=fsp (a1 aI) (fun n=>DgP n) (fun n=>.s (dgS n))
theorem ok_cv_small:FOk Tryz.prog 358 (sp_cv_small std):=by
 refine FOk.go (c:=cx std [] [] 0) (cx_ok .nil .nil) mixed Tryz.func358 rfl rfl rfl (by kernel_rfl) ?_
 rintro n hp
 refine⟨rfl,?_⟩
 generalize hP:std=p,hB0:dgS=B0
 cbv
 repeat' first
  | (refine fun (_:Unit)=>?_;cbv)
  | (refine aI2 (fun h=>?_) (fun h=>?_)<;>cbv)
  | (refine aI2 ?_ ?_)
  | (refine Or.inl (fun (_:Unit)=>?_);cbv)
 all_goals subst hP hB0
 all_goals try exact fin
 all_goals have h1:=hp.lo
 all_goals have h2:=hp.hi
 all_goals first
  | exact in64 (by show _≤n+1∧n+1≤_;omega)
  | exact in64 (by show _≤n*2∧n*2≤_;omega)
  | exact in64 (by show _≤n*2+2∧n*2+2≤_;omega)
  | exact h1
  | (show n*2+2≤200;omega)
  | (clear h1 h2;obtain⟨m,rfl⟩:=dg_m hp;clear hp;revert m;decide +kernel)
theorem db1 {n b:Int} (h:DgB n b) (h2:std.eqI b 10=false):False:=eqI_f h2 h.b
theorem db2 {n b:Int} (h:DgB n b) (h2:std.leI 0 n=false):False:=by
 have:=h.n.lo
 have h3 : ¬(0≤n):=of_decide_eq_false h2
 omega
theorem db3 {n b:Int} (h:DgB n b) (h2:std.ltI n 100=false):False:=by
 have:=h.n.hi
 have:=ge_of h2
 omega
def sp_cv_int (p:Pr):FSpec:=fsp (ac aI (a1 aI)) (fun (n,b)=>DgB n b) (fun (n,b)=>.s (dgS n))
theorem ok_cv_int:FOk Tryz.prog 352 (sp_cv_int std):=by
 refine FOk.go (c:=cx std [(358,sp_cv_small std)] [] 0) (cx_ok (.cons ok_cv_small .nil) .nil) mixed Tryz.func352 rfl rfl rfl (by kernel_rfl) ?_
 rintro ⟨n,b⟩ hp
 dsimp only at hp
 refine⟨rfl,?_⟩
 unfold sp_cv_small
 generalize hP:std=p,hB0:dgS=B0
 cbv
 repeat' first
  | (refine fun (_:Unit)=>?_;cbv)
  | (refine aI2 (fun h=>?_) (fun h=>?_)<;>cbv)
  | (refine aI2 ?_ ?_)
  | (refine Or.inl (fun (_:Unit)=>?_);cbv)
 all_goals subst hP hB0
 all_goals try (exfalso;exact db1 hp ‹_›)
 all_goals try (exfalso;exact db2 hp ‹_›)
 all_goals try (exfalso;exact db3 hp ‹_›)
 all_goals try exact fin
 all_goals first
  | exact hp.n
  | skip
def sp_cv_fmt (p:Pr):FSpec:=fsp (ac aI (a1 aI)) (fun (n,b)=>DgB n b) (fun (n,b)=>.s (dgS n))
theorem ok_cv_fmt:FOk Tryz.prog 345 (sp_cv_fmt std):=by
 refine FOk.go (c:=cx std [(352,sp_cv_int std)] [] 0) (cx_ok (.cons ok_cv_int .nil) .nil) mixed Tryz.func345 rfl rfl rfl (by kernel_rfl) ?_
 rintro ⟨n,b⟩ hp
 dsimp only at hp
 refine⟨rfl,?_⟩
 unfold sp_cv_int
 generalize hP:std=p,hB0:dgS=B0
 cbv
 repeat' first
  | (refine fun (_:Unit)=>?_;cbv)
  | (refine aI2 (fun h=>?_) (fun h=>?_)<;>cbv)
  | (refine aI2 ?_ ?_)
  | (refine Or.inl (fun (_:Unit)=>?_);cbv)
 all_goals subst hP hB0
 all_goals try exact fin
 all_goals first
  | exact hp
  | skip
def sp_i_Decimal (p:Pr):FSpec:=fsp (a1 aI) (fun n=>DgP n) (fun n=>.s (dgS n))
theorem ok_i_Decimal:FOk Tryz.prog 333 (sp_i_Decimal std):=by
 refine FOk.go (c:=cx std [(345,sp_cv_fmt std)] [] 0) (cx_ok (.cons ok_cv_fmt .nil) .nil) mixed Tryz.func333 rfl rfl rfl (by kernel_rfl) ?_
 rintro n hp
 refine⟨rfl,?_⟩
 unfold sp_cv_fmt
 generalize hP:std=p,hB0:dgS=B0
 cbv
 repeat' first
  | (refine fun (_:Unit)=>?_;cbv)
  | (refine aI2 (fun h=>?_) (fun h=>?_)<;>cbv)
  | (refine aI2 ?_ ?_)
  | (refine Or.inl (fun (_:Unit)=>?_);cbv)
 all_goals subst hP hB0
 all_goals try exact fin
 all_goals first
  | exact⟨hp,rfl⟩
  | skip
def plS (q:Pl):List UInt8:=if plainB q then (if q.down then ((toSl [97+q.col]++dgS (q.row+1))++[32])++q.word else ((dgS (q.row+1)++toSl [97+q.col])++[32])++q.word) else []
section
variable {q:Pl}
theorem pl_no (h:plainB q=false) : []=plS q:=by unfold plS;rw [h];rfl
theorem pl_dn (h:plainB q=true) (hd:q.down=true):((toSl [97+q.col]++dgS (q.row+1))++[32])++q.word=plS q:=by unfold plS;rw [if_pos h,if_pos hd]
theorem pl_ac (h:plainB q=true) (hd:q.down=false):((dgS (q.row+1)++toSl [97+q.col])++[32])++q.word=plS q:=by unfold plS;rw [if_pos h,if_neg (by rw [hd];simp)]
theorem pl_e (q:Pl):std.eqS (plS q) []=!plainB q:=by
 cases h:plainB q with
 | false=>rw [←pl_no h];rfl
 | true=>
   cases hd:q.down with
   | true=>rw [←pl_dn h hd];show (_==_)=false;simp
   | false=>rw [←pl_ac h hd];show (_==_)=false;simp
theorem pl_t (h:std.eqS (plS q) []=false):plainB q=true:=by rw [pl_e] at h;simpa using h
theorem pl_f (h:std.eqS (plS q) []=true):plainB q=false:=by rw [pl_e] at h;simpa using h
end
def sp_i_PlayText (p:Pr):FSpec:=fsp (a1 (aA aPl)) (fun q=>p.leP (p.lenS q.word) 1073741824) (fun q=>.s (plS q))
theorem ok_i_PlayText:FOk Tryz.prog 303 (sp_i_PlayText std):=by
 refine FOk.go (c:=cx std [(72,sp_i_within std),(276,sp_i_isMain std),(333,sp_i_Decimal std)] [] 0) (cx_ok (.cons ok_i_within (.cons ok_i_isMain (.cons ok_i_Decimal .nil))) .nil) mixed Tryz.func303 rfl rfl rfl (by kernel_rfl) ?_
 rintro q hp
 refine⟨rfl,?_⟩
 unfold sp_i_within sp_i_isMain sp_i_Decimal
 generalize hP:std=p,hB0:plS=B0,hB1:plainB=B1,hB2:wordB=B2,hB3:inR=B3,hB4:dgS=B4
 cbv
 repeat' first
  | (refine fun (_:Unit)=>?_;cbv)
  | (refine aI2 (fun h=>?_) (fun h=>?_)<;>cbv)
  | (refine aI2 ?_ ?_)
  | (refine Or.inl (fun (_:Unit)=>?_);cbv)
 all_goals subst hP hB0 hB1 hB2 hB3 hB4
 all_goals try exact fin
 all_goals (try simp only [eta_pl] at *)
 all_goals try (have hr:=in_bd (show inR q.row 0 14=true by assumption))
 all_goals try (have hc:=in_bd (show inR q.col 0 14=true by assumption))
 all_goals try (have hpl:plainB q=true:=by unfold plainB;simp only [*]<;>simp)
 all_goals have hw:(q.word.length:Int)≤1073741824:=hp
 all_goals have hdl:=dg_len (q.row+1)
 all_goals first
  | exact pl_no (by unfold plainB;simp only [*]<;>simp)
  | exact in64 (by show _≤q.row+1∧q.row+1≤_;omega)
  | exact (⟨by show 0≤q.row+1;omega,by show q.row+1<100;omega⟩:DgP (q.row+1))
  | exact in64 (by show _≤97+q.col∧97+q.col≤_;omega)
  | exact (⟨by show (-2147483648:Int)≤97+q.col;omega,by show 97+q.col≤2147483647;omega⟩:std.inK .i32 (97+q.col))
  | exact (⟨by show 0≤97+q.col;omega,by show 97+q.col<128;omega⟩:std.inL (97+q.col) 128)
  | exact pl_dn hpl ‹_›
  | exact pl_ac hpl ‹_›
  | exact in64 (by show _≤(((toSl [97+q.col]).length : Nat):Int)+((dgS (q.row+1)).length : Int)∧(((toSl [97+q.col]).length : Nat):Int)+((dgS (q.row+1)).length : Int)≤_;rw [show (toSl [97+q.col]).length =1 from rfl];omega)
  | exact in64 (by show _≤((dgS (q.row+1)).length : Int)+(((toSl [97+q.col]).length : Nat):Int)∧((dgS (q.row+1)).length : Int)+(((toSl [97+q.col]).length : Nat):Int)≤_;rw [show (toSl [97+q.col]).length =1 from rfl];omega)
  | exact in64 (by show _≤(((toSl [97+q.col]++dgS (q.row+1)).length : Nat):Int)+1∧(((toSl [97+q.col]++dgS (q.row+1)).length : Nat):Int)+1≤_;rw [List.length_append,show (toSl [97+q.col]).length =1 from rfl];omega)
  | exact in64 (by show _≤(((dgS (q.row+1)++toSl [97+q.col]).length : Nat):Int)+1∧(((dgS (q.row+1)++toSl [97+q.col]).length : Nat):Int)+1≤_;rw [List.length_append,show (toSl [97+q.col]).length =1 from rfl];omega)
  | exact in64 (by show _≤((((toSl [97+q.col]++dgS (q.row+1))++[32]).length : Nat):Int)+(q.word.length:Int)∧((((toSl [97+q.col]++dgS (q.row+1))++[32]).length : Nat):Int)+(q.word.length:Int)≤_;rw [List.length_append,List.length_append,show (toSl [97+q.col]).length =1 from rfl,List.length_singleton];omega)
  | exact in64 (by show _≤((((dgS (q.row+1)++toSl [97+q.col])++[32]).length : Nat):Int)+(q.word.length:Int)∧((((dgS (q.row+1)++toSl [97+q.col])++[32]).length : Nat):Int)+(q.word.length:Int)≤_;rw [List.length_append,List.length_append,show (toSl [97+q.col]).length =1 from rfl,List.length_singleton];omega)
  | skip
structure AcQ (a:Ac):Prop where
 w:(a.play.word.length:Int)≤1073741824
 t:(a.tiles.length:Int)≤1073741824
def sp_i_ValidAction (p:Pr):FSpec:=fsp (a1 (aA aAc)) (fun a=>AcQ a) (fun a=>.b (actB a))
theorem ok_i_ValidAction:FOk Tryz.prog 268 (sp_i_ValidAction std):=by
 refine FOk.go (c:=cx std [(72,sp_i_within std),(303,sp_i_PlayText std),(73,sp_i_ValidRack std)] [] 0) (cx_ok (.cons ok_i_within (.cons ok_i_PlayText (.cons ok_i_ValidRack .nil))) .nil) mixed Tryz.func268 rfl rfl rfl (by kernel_rfl) ?_
 rintro a hp
 refine⟨rfl,?_⟩
 unfold sp_i_within sp_i_PlayText sp_i_ValidRack
 generalize hP:std=p,hB0:actB=B0,hB1:plS=B1,hB2:rackB=B2,hB3:inR=B3
 cbv
 repeat' first
  | (refine fun (_:Unit)=>?_;cbv)
  | (refine aI2 (fun h=>?_) (fun h=>?_)<;>cbv)
  | (refine aI2 ?_ ?_)
  | (refine Or.inl (fun (_:Unit)=>?_);cbv)
 all_goals subst hP hB0 hB1 hB2 hB3
 all_goals try exact fin
 all_goals (try simp only [eta_pl] at *)
 all_goals try (have hpl:plainB a.play=true:=pl_t ‹_›)
 all_goals try (have hpl:plainB a.play=false:=pl_f ‹_›)
 all_goals first
  | exact hp.w
  | exact ltM_of (Int.ofNat_le.1 (Int.le_trans hp.t (by decide)))
  | exact ac_n ‹_›
  | exact ac_o ‹_› ‹_› ‹_› ‹_›
  | (rw [ac_1 ‹_› ‹_›];simp only [*]<;>simp;done)
  | (rw [ac_2 ‹_› ‹_› ‹_›,eqP0];simp only [*]<;>simp;done)
  | (rw [ac_34 ‹_› ‹_› ‹_› (Or.inl ‹_›),eqP0];simp only [*]<;>simp;done)
  | (rw [ac_34 ‹_› ‹_› ‹_› (Or.inr ‹_›),eqP0];simp only [*]<;>simp;done)
  | skip
structure DiP (g:Gm) (a:Ac):Prop where
 gm:GmQ g
 cp:GcL g
 w:(a.play.word.length:Int)≤1073741824
 t:(a.tiles.length:Int)≤1073741824
structure DiY (g:Gm) (a:Ac):Prop where
 b:DiP g a
 g:gameB g=true
 a:actB a=true
structure DiN (g:Gm) (a:Ac):Prop where
 b:DiP g a
 n:(gameB g&&actB a)=false
def sp_i_DoAction_y (p:Pr):FSpec:=fsp (ac (aA aGm) (a1 (aA aAc))) (fun (g,a)=>DiY g a) (fun (g,a)=>.tup [.agg (gmO6 (doG g a)),.i .i64 (doP g a),.i .i64 (doC g a)]) (fun (g,a)=>gmH6 (doG g a))
theorem ok_i_DoAction_y:FOk Tryz.prog 231 (sp_i_DoAction_y std):=by
 refine FOk.go (c:=cx std [(14,sp_i_ValidGame std),(268,sp_i_ValidAction std),(270,sp_PlayTurn std),(33,sp_i_ExchangeTurn std),(31,sp_i_PassTurn std),(271,sp_i_ChallengeTurn std)] [] 0) (cx_ok (.cons ok_i_ValidGame (.cons ok_i_ValidAction (.cons ok_PlayTurn (.cons ok_i_ExchangeTurn (.cons ok_i_PassTurn (.cons ok_i_ChallengeTurn .nil)))))) .nil) mixed Tryz.func231 rfl rfl rfl (by kernel_rfl) ?_
 rintro ⟨g,a⟩ hp
 dsimp only at hp
 refine⟨rfl,?_⟩
 unfold sp_i_ValidGame sp_i_ValidAction sp_PlayTurn sp_i_ExchangeTurn sp_i_PassTurn sp_i_ChallengeTurn
 generalize hP:std=p,hB0:doG=B0,hB1:doP=B1,hB2:doC=B2,hB3:turnR=B3,hB4:turnS'=B4,hB5:turnC=B5,hB6:xtR=B6,hB7:xtC=B7,hB8:passR=B8,hB9:actC=B9,hB10:chR=B10,hB11:chP=B11,hB12:chC=B12,hB13:chU=B13,hB14:chW=B14,hB15:chX=B15,hB16:gameB=B16,hB17:actB=B17
 cbv
 repeat' first
  | (refine fun (_:Unit)=>?_;cbv)
  | (refine aI2 (fun h=>?_) (fun h=>?_)<;>cbv)
  | (refine aI2 ?_ ?_)
  | (refine Or.inl (fun (_:Unit)=>?_);cbv)
 all_goals subst hP hB0 hB1 hB2 hB3 hB4 hB5 hB6 hB7 hB8 hB9 hB10 hB11 hB12 hB13 hB14 hB15 hB16 hB17
 all_goals try (exfalso;exact dy1 hp.g ‹_›)
 all_goals try (exfalso;exact dy1 hp.a ‹_›)
 all_goals try exact fin
 all_goals (try simp only [eta_ts,eta_bd,eta_pl,eta_la,eta_ac,eta_gma] at *)
 all_goals first
  | exact hp.b.gm
  | exact (⟨hp.b.w,hp.b.t⟩:AcQ a)
  | exact (⟨hp.b.gm,hp.b.w,hp.b.cp⟩:PtP g a.play)
  | exact (⟨hp.b.gm,hp.b.cp,Int.ofNat_le.1 (Int.le_trans hp.b.t (by decide))⟩:XiP g a.tiles)
  | exact (⟨hp.b.gm,hp.b.cp⟩:PiP g)
  | exact (⟨hp.b.gm,hp.b.cp⟩:ChP g)
  | (have e:=do_1 (g:=g) (a:=a) ‹_›;first | (rw [e.1];done) | (rw [e.2.1];done) | (rw [e.2.2];done))
  | (have e:=do_2 (g:=g) (a:=a) ‹_› ‹_›;first | (rw [e.1];done) | (rw [e.2.1];done) | (rw [e.2.2];done))
  | (have e:=do_3 (g:=g) (a:=a) ‹_› ‹_› ‹_›;first | (rw [e.1];done) | (rw [e.2.1];done) | (rw [e.2.2];done))
  | (have e:=do_4 (g:=g) (a:=a) ‹_› ‹_› ‹_›;first | (rw [e.1];done) | (rw [e.2.1];done) | (rw [e.2.2];done))
  | skip
def sp_i_DoAction_n (p:Pr):FSpec:=fsp (ac (aA aGm) (a1 (aA aAc))) (fun (g,a)=>DiN g a) (fun (g,a)=>.tup [.agg (gmK gm0 .esl .esl .esl .esl .esl .esl),.i .i64 0,.i .i64 1])
theorem ok_i_DoAction_n:FOk Tryz.prog 231 (sp_i_DoAction_n std):=by
 refine FOk.go (c:=cx std [(14,sp_i_ValidGame std),(268,sp_i_ValidAction std),(270,sp_PlayTurn std),(33,sp_i_ExchangeTurn std),(31,sp_i_PassTurn std),(271,sp_i_ChallengeTurn std)] [] 0) (cx_ok (.cons ok_i_ValidGame (.cons ok_i_ValidAction (.cons ok_PlayTurn (.cons ok_i_ExchangeTurn (.cons ok_i_PassTurn (.cons ok_i_ChallengeTurn .nil)))))) .nil) mixed Tryz.func231 rfl rfl rfl (by kernel_rfl) ?_
 rintro ⟨g,a⟩ hp
 dsimp only at hp
 refine⟨rfl,?_⟩
 unfold sp_i_ValidGame sp_i_ValidAction sp_PlayTurn sp_i_ExchangeTurn sp_i_PassTurn sp_i_ChallengeTurn
 generalize hP:std=p,hB0:doG=B0,hB1:doP=B1,hB2:doC=B2,hB3:turnR=B3,hB4:turnS'=B4,hB5:turnC=B5,hB6:xtR=B6,hB7:xtC=B7,hB8:passR=B8,hB9:actC=B9,hB10:chR=B10,hB11:chP=B11,hB12:chC=B12,hB13:chU=B13,hB14:chW=B14,hB15:chX=B15,hB16:gameB=B16,hB17:actB=B17
 cbv
 repeat' first
  | (refine fun (_:Unit)=>?_;cbv)
  | (refine aI2 (fun h=>?_) (fun h=>?_)<;>cbv)
  | (refine aI2 ?_ ?_)
  | (refine Or.inl (fun (_:Unit)=>?_);cbv)
 all_goals subst hP hB0 hB1 hB2 hB3 hB4 hB5 hB6 hB7 hB8 hB9 hB10 hB11 hB12 hB13 hB14 hB15 hB16 hB17
 all_goals try (exfalso;exact dn1 hp.n ‹_› ‹_›)
 all_goals try exact fin
 all_goals (try simp only [eta_ts,eta_bd,eta_pl,eta_la,eta_ac,eta_gma] at *)
 all_goals first
  | exact hp.b.gm
  | exact (⟨hp.b.w,hp.b.t⟩:AcQ a)
  | skip
end Ax
end Go.Proofs.YtghmphmbpdiflaaGreatDoor
