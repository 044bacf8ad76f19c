/-
  Piles, lexicons, boards, placed words, tile sets of the impl package: whether they are valid; Squares, directions, plays of the impl package: whether a play is valid, its new squares, the board after it; A region that draws its order, the third form: an operation may yield a value that hangs on the world ("free"); S tells what is known of it.
  Conditions: as each part below says.
-/
import Derived.Test.YtpmakcfjdkaegaaGreatDoorD22
import Derived.Test.YtpmakcfjdkaegaaGreatDoorD08
set_option linter.unusedSimpArgs false
set_option linter.unusedVariables false
namespace Go.Proofs.YtpmakcfjdkaegaaGreatDoor
namespace Ax
set_option maxRecDepth 100000
set_option maxHeartbeats 2000000
def ascS (s:List UInt8) (k:Int):Bool:=adjB leB (s.drop (k-1).toNat)
theorem le_byte (s:List UInt8) (j k:Int):leB (s.getD j.toNat 0) (s.getD k.toNat 0)=!std.ltI (std.byte s k) (std.byte s j):=by
 unfold leB
 rw [Bool.eq_iff_iff]
 simp [std]
def sp_i_ValidPile (p:Pr):FSpec:=fsp (a1 aS) (fun s=>p.ltM (p.lenS s)) (fun s=>.b (pileB s))
theorem ok_i_ValidPile:FOk Tryz.prog 118 (sp_i_ValidPile std):=by
 refine FOk.go (c:=cx std [(174,sp_i_onlyTiles std)] [] 0) (cx_ok (.cons ok_i_onlyTiles .nil) .nil) mixed Tryz.func118 rfl rfl rfl (by kernel_rfl) ?_
 rintro s hp
 refine⟨rfl,?_⟩
 unfold sp_i_onlyTiles
 obtain⟨H,hH⟩ : ∃H:Hd (Int),H=⟨fun k=>1≤k∧pileB s=ascS s k,fun k=>(s.length-k).toNat,(· < ·)⟩:=⟨_,rfl⟩
 have hl : ∀m n,H.lt m n→m<n:=by subst hH;exact fun _ _ h=>h
 generalize hP:std=p
 generalize hB0:pileB=B0
 generalize hB1:tiS=B1
 cbv
 repeat' first
  | (refine fun (_:Unit)=>?_;cbv)
  | (refine Or.inr ⟨12,[],[.s 3 (.i .i64)],[],[],H,rfl,hl,?_,fun (k:Int) hk=>?_⟩<;>cbv)
  | (refine And.intro (fun h=>?_) (fun h=>?_)<;>cbv)
  | (refine And.intro ?_ ?_)
 all_goals subst hP hB0 hB1 hH
 all_goals clear hl
 all_goals try dsimp only at hk
 all_goals try dsimp only
 all_goals try exact fin
 ·rw [pile_adj,show s.all tileB=false by assumption,Bool.false_and,Bool.and_false]
 ·refine⟨Int.le_refl 1,?_⟩
  have h1:(s.length:Int)≤120:=ge_of (by assumption)
  rw [pile_adj,show s.all tileB=true by assumption,decide_eq_true (by omega)];rfl
 ·obtain⟨q0,e⟩:=hk
  rw [e,ascS,adj_step q0 (lt_of (by assumption)) 0,le_byte,show std.ltI (std.byte s k) (std.byte s (k-1))=true by assumption];rfl
 ·obtain⟨q0,e⟩:=hk
  refine⟨by show 1≤k+1;omega,?_⟩
  rw [e,ascS,adj_step q0 (lt_of (by assumption)) 0,le_byte,show std.ltI (std.byte s k) (std.byte s (k-1))=false by assumption];rfl
 ·obtain⟨q0,e⟩:=hk
  rw [e,ascS,adj_end (ge_of (by assumption))]
 ·rw [pile_adj];simp at *;intros;omega
def sp_i_ValidRack (p:Pr):FSpec:=fsp (a1 aS) (fun s=>p.ltM (p.lenS s)) (fun s=>.b (rackB s))
theorem ok_i_ValidRack:FOk Tryz.prog 102 (sp_i_ValidRack std):=by
 refine FOk.go (c:=cx std [(118,sp_i_ValidPile std)] [] 0) (cx_ok (.cons ok_i_ValidPile .nil) .nil) mixed Tryz.func102 rfl rfl rfl (by kernel_rfl) ?_
 rintro s hp
 refine⟨rfl,?_⟩
 unfold sp_i_ValidPile
 generalize hP:std=p
 generalize hB0:rackB=B0
 generalize hB1:pileB=B1
 cbv
 repeat' first
  | (refine fun (_:Unit)=>?_;cbv)
  | (refine And.intro (fun h=>?_) (fun h=>?_)<;>cbv)
  | (refine And.intro ?_ ?_)
  | (refine Or.inl (fun (_:Unit)=>?_);cbv)
 all_goals subst hP hB0 hB1
 all_goals try exact fin
 all_goals (unfold rackB;simp at *;intros;first | omega | simp_all)
def sp_i_ValidBag (p:Pr):FSpec:=fsp (a1 aS) (fun s=>p.ltM (p.lenS s)) (fun s=>.b (bagB s))
theorem ok_i_ValidBag:FOk Tryz.prog 100 (sp_i_ValidBag std):=by
 refine FOk.go (c:=cx std [(174,sp_i_onlyTiles std)] [] 0) (cx_ok (.cons ok_i_onlyTiles .nil) .nil) mixed Tryz.func100 rfl rfl rfl (by kernel_rfl) ?_
 rintro s hp
 refine⟨rfl,?_⟩
 unfold sp_i_onlyTiles
 generalize hP:std=p
 generalize hB0:bagB=B0
 generalize hB1:tiS=B1
 cbv
 repeat' first
  | (refine fun (_:Unit)=>?_;cbv)
  | (refine And.intro (fun h=>?_) (fun h=>?_)<;>cbv)
  | (refine And.intro ?_ ?_)
  | (refine Or.inl (fun (_:Unit)=>?_);cbv)
 all_goals subst hP hB0 hB1
 all_goals try exact fin
 ·have h1:s.length≤120:=by simp at h;omega
  unfold bagB;rw [decide_eq_true h1,Bool.and_true];rfl
 ·have h1 : ¬s.length≤120:=by simp at h;omega
  unfold bagB;rw [decide_eq_false h1,Bool.and_false]
def incS (ws:List (List UInt8)) (k:Int):Bool:=adjB sLt (ws.drop (k-1).toNat)
def sp_i_increasing (p:Pr):FSpec:=fsp (a1 aW) (fun ws=>p.ltM (p.len ws)) (fun ws=>.b (incB ws))
theorem ok_i_increasing:FOk Tryz.prog 212 (sp_i_increasing std):=by
 refine FOk.go (c:=cx std [] [] 0) (cx_ok .nil .nil) mixed Tryz.func212 rfl rfl rfl (by kernel_rfl) ?_
 rintro ws hp
 refine⟨rfl,?_⟩
 obtain⟨H,hH⟩ : ∃H:Hd (Int),H=⟨fun k=>1≤k∧incB ws=incS ws k,fun k=>(ws.length-k).toNat,(· < ·)⟩:=⟨_,rfl⟩
 have hl : ∀m n,H.lt m n→m<n:=by subst hH;exact fun _ _ h=>h
 generalize hP:std=p
 generalize hB0:incB=B0
 cbv
 repeat' first
  | (refine fun (_:Unit)=>?_;cbv)
  | (refine Or.inr ⟨4,[],[.s 3 (.i .i64)],[],[],H,rfl,hl,?_,fun (k:Int) hk=>?_⟩<;>cbv)
  | (refine And.intro (fun h=>?_) (fun h=>?_)<;>cbv)
  | (refine And.intro ?_ ?_)
 all_goals subst hP hB0 hH
 all_goals clear hl
 all_goals try dsimp only at hk
 all_goals try dsimp only
 all_goals try exact fin
 ·exact⟨Int.le_refl 1,by rw [inc_adj];rfl⟩
 ·obtain⟨q0,e⟩:=hk
  have h3:sLt (ws.getD (k-1).toNat []) (ws.getD k.toNat [])=false:=by simpa [std,sLt] using h
  rw [e,incS,adj_step q0 (lt_of (by assumption)) [],h3];rfl
 ·obtain⟨q0,e⟩:=hk
  have h3:sLt (ws.getD (k-1).toNat []) (ws.getD k.toNat [])=true:=by simpa [std,sLt] using h
  refine⟨by show 1≤k+1;omega,?_⟩
  rw [e,incS,adj_step q0 (lt_of (by assumption)) [],h3];rfl
 ·obtain⟨q0,e⟩:=hk
  rw [e,incS,adj_end (ge_of (by assumption))]
def loS (ws:List (List UInt8)) (k:Int):Bool:=(ws.drop k.toNat).all longB
theorem lexB_eq (ws:List (List UInt8)):lexB ws=(incB ws&&ws.all longB&&decide (ws.length≤200)):=by
 unfold lexB
 rw [lex_adj,inc_adj]
structure WsL (ws:List (List UInt8)):Prop where
 n:ws.length≤274877906944
 w : ∀k:Int,(ws.getD k.toNat []).length ≤274877906944
def sp_i_ValidLexicon (p:Pr):FSpec:=fsp (a1 (aA aLex)) (fun ws=>WsL ws) (fun ws=>.b (lexB ws))
theorem ok_i_ValidLexicon:FOk Tryz.prog 168 (sp_i_ValidLexicon std):=by
 refine FOk.go (c:=cx std [(212,sp_i_increasing std),(213,sp_i_isLong std)] [] 0) (cx_ok (.cons ok_i_increasing (.cons ok_i_isLong .nil)) .nil) mixed Tryz.func168 rfl rfl rfl (by kernel_rfl) ?_
 rintro ws hp
 refine⟨rfl,?_⟩
 unfold sp_i_increasing sp_i_isLong
 obtain⟨H,hH⟩ : ∃H:Hd (Int),H=⟨fun k=>0≤k∧k≤ws.length∧lexB ws=loS ws k,fun k=>(ws.length-k).toNat,(· < ·)⟩:=⟨_,rfl⟩
 have hl : ∀m n,H.lt m n→m<n:=by subst hH;exact fun _ _ h=>h
 generalize hP:std=p
 generalize hB0:lexB=B0
 generalize hB1:incB=B1
 generalize hB2:longB=B2
 cbv
 repeat' first
  | (refine fun (_:Unit)=>?_;cbv)
  | (refine Or.inr ⟨19,[],[.s 18 (.i .i64)],[],[],H,rfl,hl,?_,fun (k:Int) hk=>?_⟩<;>cbv)
  | (refine And.intro (fun h=>?_) (fun h=>?_)<;>cbv)
  | (refine And.intro ?_ ?_)
 all_goals subst hP hB0 hB1 hB2 hH
 all_goals clear hl
 all_goals try dsimp only at hk
 all_goals try dsimp only
 all_goals try exact fin
 ·rw [lexB_eq,show incB ws=false by assumption];rfl
 ·refine⟨Int.le_refl 0,Int.natCast_nonneg _,?_⟩
  have h1:(ws.length:Int)≤200:=ge_of (by assumption)
  rw [lexB_eq,show incB ws=true by assumption,decide_eq_true (by omega),Bool.and_true];rfl
 ·exact ltM_of (hp.w k)
 ·obtain⟨q0,q1,e⟩:=hk
  rw [e,loS,dc q0 (lt_of (by assumption)) [],List.all_cons,show longB (ws.getD k.toNat [])=false by assumption];rfl
 ·obtain⟨q0,q1,e⟩:=hk
  have h2:k<(ws.length:Int):=lt_of (by assumption)
  refine⟨by show 0≤k+1;omega,by show k+1≤(ws.length:Int);omega,?_⟩
  rw [e,loS,dc q0 h2 [],List.all_cons,show longB (ws.getD k.toNat [])=true by assumption];rfl
 ·obtain⟨q0,q1,e⟩:=hk
  rw [e,loS,dn (ge_of (by assumption))];rfl
 ·have h1 : ¬ws.length≤200:=by simp at h;omega
  rw [lexB_eq,decide_eq_false h1,Bool.and_false]
def celI (c:Int):Bool:=c==46||(inR c 97 122||inR c 65 90)
def sp_i_cellOk (p:Pr):FSpec:=fsp (a1 aC) (fun c=>p.inK .u8 c) (fun c=>.b (celI c))
theorem ok_i_cellOk:FOk Tryz.prog 173 (sp_i_cellOk std):=by
 refine FOk.go (c:=cx std [(215,sp_i_small std),(216,sp_i_capital std)] [] 0) (cx_ok (.cons ok_i_small (.cons ok_i_capital .nil)) .nil) mixed Tryz.func173 rfl rfl rfl (by kernel_rfl) ?_
 rintro c hp
 refine⟨rfl,?_⟩
 unfold sp_i_small sp_i_capital
 generalize hP:std=p
 generalize hB0:celI=B0
 generalize hB1:inR=B1
 cbv
 repeat' first
  | (refine fun (_:Unit)=>?_;cbv)
  | (refine And.intro (fun h=>?_) (fun h=>?_)<;>cbv)
  | (refine And.intro ?_ ?_)
  | (refine Or.inl (fun (_:Unit)=>?_);cbv)
 all_goals subst hP hB0 hB1
 all_goals try exact fin
 all_goals (unfold celI;simp at *;simp [*])
def preI (c:Int):Bool:=decide (0≤findI [50,51,100,116,46] (u8 c))
def sp_i_premiumOk (p:Pr):FSpec:=fsp (a1 aC) (fun c=>p.inK .u8 c) (fun c=>.b (preI c))
theorem ok_i_premiumOk:FOk Tryz.prog 172 (sp_i_premiumOk std):=by
 refine FOk.go (c:=cx std [(214,sp_index std)] [] 0) (cx_ok (.cons ok_index .nil) .nil) mixed Tryz.func172 rfl rfl rfl (by kernel_rfl) ?_
 rintro c hp
 refine⟨rfl,?_⟩
 unfold sp_index
 generalize hP:std=p
 generalize hB0:preI=B0
 generalize hB1:findI=B1
 generalize hB2:u8=B2
 cbv
 repeat' first
  | (refine fun (_:Unit)=>?_;cbv)
  | (refine And.intro (fun h=>?_) (fun h=>?_)<;>cbv)
  | (refine And.intro ?_ ?_)
  | (refine Or.inl (fun (_:Unit)=>?_);cbv)
 all_goals subst hP hB0 hB1 hB2
 all_goals try exact fin
def aFn (f:FuncId):Arg Unit:=⟨fun | .fn g []=>if Nat.beq g f then some () else none | _=>none,fun _=>.fn f [],fun x a h=>by
 split at h
 ·split at h
  ·rename_i g hg
   rw [Nat.eq_of_beq_eq_true hg]
  ·cases h
 ·cases h⟩
theorem byte_is {c:UInt8} {n:Int} {m:UInt8} (hm:(m.toNat:Int)=n):((c.toNat:Int)==n)=(c==m):=by
 subst hm
 rw [Bool.eq_iff_iff,beq_iff_eq,beq_iff_eq]
 constructor
 ·intro h;exact UInt8.toNat_inj.1 (by omega)
 ·rintro rfl;rfl
@[simp] theorem celI_c (c:UInt8):celI (c.toNat:Int)=cellB c:=by
  unfold celI cellB
  rw [show ((c.toNat:Int)==46)=(c==46) from byte_is (m:=46) rfl,Bool.or_assoc]
  rfl
@[simp] theorem preI_c (c:UInt8):preI (c.toNat:Int)=premB c:=by
  unfold preI
  rw [show u8 (c.toNat:Int)=c by simp [u8]]
  simp only [findI]
  unfold premB
  by_cases h1:c=50
  ·subst h1;rfl
  by_cases h2:c=51
  ·subst h2;rfl
  by_cases h3:c=100
  ·subst h3;rfl
  by_cases h4:c=116
  ·subst h4;rfl
  by_cases h5:c=46
  ·subst h5;rfl
  simp [h1,h2,h3,h4,h5,Ne.symm h1,Ne.symm h2,Ne.symm h3,Ne.symm h4,Ne.symm h5]
def alC (s:List UInt8):Bool:=s.all cellB
def alP (s:List UInt8):Bool:=s.all premB
def sp_i_allCell (p:Pr):FSpec:=fsp (ac aS (a1 (aFn 173))) (fun (s,_u)=>p.ltM (p.lenS s)) (fun (s,_u)=>.b (alC s))
theorem ok_i_allCell:FOk Tryz.prog 171 (sp_i_allCell std):=by
 refine FOk.go (c:=cx std [(173,sp_i_cellOk std)] [] 0) (cx_ok (.cons ok_i_cellOk .nil) .nil) mixed Tryz.func171 rfl rfl rfl (by kernel_rfl) ?_
 rintro ⟨s,_u⟩ hp
 dsimp only at hp
 refine⟨rfl,?_⟩
 unfold sp_i_cellOk
 obtain⟨H,hH⟩ : ∃H:Hd (Int),H=⟨fun k=>0≤k∧k≤s.length∧alC s=alC (s.drop k.toNat),fun k=>(s.length-k).toNat,(· < ·)⟩:=⟨_,rfl⟩
 have hl : ∀m n,H.lt m n→m<n:=by subst hH;exact fun _ _ h=>h
 generalize hP:std=p
 generalize hB0:alC=B0
 generalize hB1:celI=B1
 cbv
 repeat' first
  | (refine fun (_:Unit)=>?_;cbv)
  | (refine Or.inr ⟨6,[],[.s 5 (.i .i64)],[],[],H,rfl,hl,?_,fun (k:Int) hk=>?_⟩<;>cbv)
  | (refine And.intro (fun h=>?_) (fun h=>?_)<;>cbv)
  | (refine And.intro ?_ ?_)
 all_goals subst hP hB0 hB1 hH
 all_goals clear hl
 all_goals try dsimp only at hk
 all_goals try dsimp only
 all_goals try exact fin
 all_goals try first
  | exact⟨Int.le_refl 0,Int.natCast_nonneg _,rfl⟩
  | (simp [alC,celI_c];done)
  | (obtain⟨q0,q1,e⟩:=hk;refine⟨by simp [std] at *;lia,by simp [std] at *;lia,?_⟩;rw [e,dc q0 (lt_of (by assumption)) 0];clear e;simp_all [std,alC,celI_c];done)
  | (obtain⟨q0,q1,e⟩:=hk;refine⟨by simp [std] at *;lia,by simp [std] at *;lia,?_⟩;rw [e,dc q0 (lt_of (by assumption)) 0];clear e;simp_all [std,alC,celI_c]<;>grind;done)
  | (obtain⟨q0,q1,e⟩:=hk;rw [e,dc q0 (lt_of (by assumption)) 0];clear e;simp_all [std,alC,celI_c];done)
  | (obtain⟨q0,q1,e⟩:=hk;rw [e,dc q0 (lt_of (by assumption)) 0];clear e;simp_all [std,alC,celI_c]<;>grind;done)
  | (obtain⟨q0,q1,e⟩:=hk;rw [e,dn (ge_of (by assumption))];clear e;simp_all [std,alC,celI_c];done)
  | (obtain⟨q0,q1,e⟩:=hk;rw [e,dn (ge_of (by assumption))];clear e;simp_all [std,alC,celI_c]<;>grind;done)
def sp_i_allPrem (p:Pr):FSpec:=fsp (ac aS (a1 (aFn 172))) (fun (s,_u)=>p.ltM (p.lenS s)) (fun (s,_u)=>.b (alP s))
theorem ok_i_allPrem:FOk Tryz.prog 171 (sp_i_allPrem std):=by
 refine FOk.go (c:=cx std [(172,sp_i_premiumOk std)] [] 0) (cx_ok (.cons ok_i_premiumOk .nil) .nil) mixed Tryz.func171 rfl rfl rfl (by kernel_rfl) ?_
 rintro ⟨s,_u⟩ hp
 dsimp only at hp
 refine⟨rfl,?_⟩
 unfold sp_i_premiumOk
 obtain⟨H,hH⟩ : ∃H:Hd (Int),H=⟨fun k=>0≤k∧k≤s.length∧alP s=alP (s.drop k.toNat),fun k=>(s.length-k).toNat,(· < ·)⟩:=⟨_,rfl⟩
 have hl : ∀m n,H.lt m n→m<n:=by subst hH;exact fun _ _ h=>h
 generalize hP:std=p
 generalize hB0:alP=B0
 generalize hB1:preI=B1
 cbv
 repeat' first
  | (refine fun (_:Unit)=>?_;cbv)
  | (refine Or.inr ⟨6,[],[.s 5 (.i .i64)],[],[],H,rfl,hl,?_,fun (k:Int) hk=>?_⟩<;>cbv)
  | (refine And.intro (fun h=>?_) (fun h=>?_)<;>cbv)
  | (refine And.intro ?_ ?_)
 all_goals subst hP hB0 hB1 hH
 all_goals clear hl
 all_goals try dsimp only at hk
 all_goals try dsimp only
 all_goals try exact fin
 all_goals try first
  | exact⟨Int.le_refl 0,Int.natCast_nonneg _,rfl⟩
  | (simp [alP,preI_c];done)
  | (obtain⟨q0,q1,e⟩:=hk;refine⟨by simp [std] at *;lia,by simp [std] at *;lia,?_⟩;rw [e,dc q0 (lt_of (by assumption)) 0];clear e;simp_all [std,alP,preI_c];done)
  | (obtain⟨q0,q1,e⟩:=hk;refine⟨by simp [std] at *;lia,by simp [std] at *;lia,?_⟩;rw [e,dc q0 (lt_of (by assumption)) 0];clear e;simp_all [std,alP,preI_c]<;>grind;done)
  | (obtain⟨q0,q1,e⟩:=hk;rw [e,dc q0 (lt_of (by assumption)) 0];clear e;simp_all [std,alP,preI_c];done)
  | (obtain⟨q0,q1,e⟩:=hk;rw [e,dc q0 (lt_of (by assumption)) 0];clear e;simp_all [std,alP,preI_c]<;>grind;done)
  | (obtain⟨q0,q1,e⟩:=hk;rw [e,dn (ge_of (by assumption))];clear e;simp_all [std,alP,preI_c];done)
  | (obtain⟨q0,q1,e⟩:=hk;rw [e,dn (ge_of (by assumption))];clear e;simp_all [std,alP,preI_c]<;>grind;done)
def sp_allBytes (p:Pr):FSpec:=FSpec.or (fsp (ac aS (a1 (aFn 172))) (fun (s,_)=>p.ltM (p.lenS s)) (fun (s,_)=>.b (alP s))) (fsp (ac aS (a1 (aFn 173))) (fun (s,_)=>p.ltM (p.lenS s)) (fun (s,_)=>.b (alC s)))
theorem ok_allBytes:FOk Tryz.prog 171 (sp_allBytes std):=FOk.or ok_i_allPrem ok_i_allCell
def sp_i_sizeOk (p:Pr):FSpec:=fsp (a1 aI) (fun n=>True) (fun n=>.b (sizeB n))
theorem ok_i_sizeOk:FOk Tryz.prog 170 (sp_i_sizeOk std):=by
 refine FOk.go (c:=cx std [(101,sp_i_within std)] [] 0) (cx_ok (.cons ok_i_within .nil) .nil) mixed Tryz.func170 rfl rfl rfl (by kernel_rfl) ?_
 rintro n hp
 refine⟨rfl,?_⟩
 unfold sp_i_within
 generalize hP:std=p
 generalize hB0:sizeB=B0
 generalize hB1:inR=B1
 cbv
 repeat' first
  | (refine fun (_:Unit)=>?_;cbv)
  | (refine And.intro (fun h=>?_) (fun h=>?_)<;>cbv)
  | (refine And.intro ?_ ?_)
  | (refine Or.inl (fun (_:Unit)=>?_);cbv)
 all_goals subst hP hB0 hB1
 all_goals try exact fin
theorem sizeB_in {n:Int} (h:sizeB n=true):5≤n∧n≤15:=by
 unfold sizeB inR at h
 simpa using h
theorem bdB_eq (b:Bd):bdB b=(sizeB b.size&&(decide ((b.prem.length:Int)=b.size*b.size)&&(decide ((b.cells.length:Int)=b.prem.length)&&(alP b.prem&&alC b.cells)))):=by
 unfold bdB alP alC
 by_cases h1:(b.prem.length:Int)=b.size*b.size
 ·by_cases h2:(b.cells.length:Int)=b.prem.length
  ·rw [okFrom_eq _ _ (by omega),decide_eq_true h1,decide_eq_true h2,decide_eq_true (show (b.cells.length:Int)=b.size*b.size by omega)]
  ·rw [decide_eq_false h2,decide_eq_false (show ¬(b.cells.length:Int)=b.size*b.size by omega)];simp
 ·rw [decide_eq_false h1];simp
def sp_i_ValidBoard (p:Pr):FSpec:=fsp (a1 (aA aBd)) (fun b=>BdP b) (fun b=>.b (bdB b))
theorem ok_i_ValidBoard:FOk Tryz.prog 99 (sp_i_ValidBoard std):=by
 refine FOk.go (c:=cx std [(170,sp_i_sizeOk std),(171,sp_allBytes std)] [] 0) (cx_ok (.cons ok_i_sizeOk (.cons ok_allBytes .nil)) .nil) mixed Tryz.func99 rfl rfl rfl (by kernel_rfl) ?_
 rintro b hp
 refine⟨rfl,?_⟩
 unfold sp_i_sizeOk sp_allBytes
 generalize hP:std=p
 generalize hB0:bdB=B0
 generalize hB1:sizeB=B1
 generalize hB2:alC=B2
 generalize hB3:alP=B3
 cbv
 repeat' first
  | (refine fun (_:Unit)=>?_;cbv)
  | (refine And.intro (fun h=>?_) (fun h=>?_)<;>cbv)
  | (refine And.intro ?_ ?_)
  | (refine Or.inl (fun (_:Unit)=>?_);cbv)
 all_goals subst hP hB0 hB1 hB2 hB3
 all_goals try exact fin
 ·have h1:=sizeB_in (show sizeB b.size=true by assumption)
  have h2:b.size*b.size≤15*15:=Int.mul_le_mul h1.2 h1.2 (by omega) (by omega)
  have h3:0≤b.size*b.size:=Int.mul_nonneg (by omega) (by omega)
  exact in64 (by show _≤b.size*b.size∧b.size*b.size≤_;omega)
 ·rw [bdB_eq];simp at *;intros;simp_all
 ·exact ltM_of hp.p
 ·exact ltM_of hp.c
 ·show alC b.cells=_
  rw [bdB_eq];simp at *;simp [*]
 ·rw [bdB_eq];simp at *;intros;simp_all
 ·rw [bdB_eq];simp at *;simp [*]
 ·rw [bdB_eq];simp at *;simp [*]
def sp_i_lower (p:Pr):FSpec:=fsp (a1 aS) (fun s=>p.leP (p.lenS s) 1073741824) (fun s=>.s (lowU s))
theorem ok_i_lower:FOk Tryz.prog 228 (sp_i_lower std):=by
 refine FOk.go (c:=cx std [(272,sp_toLower std)] [] 0) (cx_ok (.cons ok_toLower .nil) .nil) mixed Tryz.func228 rfl rfl rfl (by kernel_rfl) ?_
 rintro s hp
 refine⟨rfl,?_⟩
 unfold sp_toLower
 generalize hP:std=p
 generalize hB0:lowU=B0
 cbv
 repeat' first
  | (refine fun (_:Unit)=>?_;cbv)
  | (refine And.intro (fun h=>?_) (fun h=>?_)<;>cbv)
  | (refine And.intro ?_ ?_)
  | (refine Or.inl (fun (_:Unit)=>?_);cbv)
 all_goals subst hP hB0
 all_goals try exact fin
theorem lowU_len {s:List UInt8} (h:std.leP (std.lenS s) 1073741824):(lowU s).length ≤274877906944:=by
 have h1:=low_4 _ s (Nat.le_refl _)
 have h2:(s.length:Int)≤1073741824:=h
 unfold lowU
 omega
def sp_i_isPlaced (p:Pr):FSpec:=fsp (a1 aS) (fun s=>p.leP (p.lenS s) 1073741824) (fun s=>.b (placedB s))
theorem ok_i_isPlaced:FOk Tryz.prog 223 (sp_i_isPlaced std):=by
 refine FOk.go (c:=cx std [(272,sp_toLower std),(264,sp_i_IsWord std)] [] 0) (cx_ok (.cons ok_toLower (.cons ok_i_IsWord .nil)) .nil) mixed Tryz.func223 rfl rfl rfl (by kernel_rfl) ?_
 rintro s hp
 refine⟨rfl,?_⟩
 unfold sp_toLower sp_i_IsWord
 generalize hP:std=p
 generalize hB0:lowU=B0
 generalize hB1:placedB=B1
 generalize hB2:isWordB=B2
 cbv
 repeat' first
  | (refine fun (_:Unit)=>?_;cbv)
  | (refine And.intro (fun h=>?_) (fun h=>?_)<;>cbv)
  | (refine And.intro ?_ ?_)
  | (refine Or.inl (fun (_:Unit)=>?_);cbv)
 all_goals subst hP hB0 hB1 hB2
 all_goals try exact fin
 ·exact ltM_of (lowU_len hp)
 ·rw [←placed_low]
  show _=(isWordB (lowU s)&&_)
  rw [show isWordB (lowU s)=true by assumption,Bool.true_and,Bool.eq_iff_iff,decide_eq_true_eq]
  simp only [sd_eqI,sd_lenS,beq_iff_eq,Int.natCast_inj]
  rfl
 ·rw [←placed_low]
  show (isWordB (lowU s)&&_)=_
  rw [show isWordB (lowU s)=false by assumption];rfl
def sp_i_isMain (p:Pr):FSpec:=fsp (a1 aS) (fun s=>p.leP (p.lenS s) 1073741824) (fun s=>.b (wordB s))
theorem ok_i_isMain:FOk Tryz.prog 180 (sp_i_isMain std):=by
 refine FOk.go (c:=cx std [(223,sp_i_isPlaced std)] [] 0) (cx_ok (.cons ok_i_isPlaced .nil) .nil) mixed Tryz.func180 rfl rfl rfl (by kernel_rfl) ?_
 rintro s hp
 refine⟨rfl,?_⟩
 unfold sp_i_isPlaced
 generalize hP:std=p
 generalize hB0:wordB=B0
 generalize hB1:placedB=B1
 cbv
 repeat' first
  | (refine fun (_:Unit)=>?_;cbv)
  | (refine And.intro (fun h=>?_) (fun h=>?_)<;>cbv)
  | (refine And.intro ?_ ?_)
  | (refine Or.inl (fun (_:Unit)=>?_);cbv)
 all_goals subst hP hB0 hB1
 all_goals try exact fin
 ·have h1:1<s.length:=by simp at h;omega
  unfold wordB;rw [decide_eq_true h1,Bool.true_and]
 ·have h1 : ¬1<s.length:=by simp at h;omega
  unfold wordB;rw [decide_eq_false h1,Bool.false_and]
def sp_i_Lexicon_has (p:Pr):FSpec:=fsp (ac (aA aLex) (a1 aS)) (fun (ws,s)=>incB ws=true∧p.leP (p.len ws) 1073741824) (fun (ws,s)=>.b (hasB ws s))
theorem ok_i_Lexicon_has:FOk Tryz.prog 232 (sp_i_Lexicon_has std):=by
 refine FOk.go (c:=cx std [(276,sp_search std)] [] 0) (cx_ok (.cons ok_search .nil) .nil) mixed Tryz.func232 rfl rfl rfl (by kernel_rfl) ?_
 rintro ⟨ws,s⟩ hp
 dsimp only at hp
 refine⟨rfl,?_⟩
 unfold sp_search
 generalize hP:std=p
 generalize hB0:hasB=B0
 generalize hB1:incB=B1
 generalize hB2:fstI=B2
 cbv
 repeat' first
  | (refine fun (_:Unit)=>?_;cbv)
  | (refine And.intro (fun h=>?_) (fun h=>?_)<;>cbv)
  | (refine And.intro ?_ ?_)
  | (refine Or.inl (fun (_:Unit)=>?_);cbv)
 all_goals subst hP hB0 hB1 hB2
 all_goals try exact fin
end Ax
end Go.Proofs.YtpmakcfjdkaegaaGreatDoor
namespace Go.Proofs.YtpmakcfjdkaegaaGreatDoor
namespace Ax
set_option maxRecDepth 100000
set_option maxHeartbeats 2000000
def aE:Args Unit:=a0
def aSq:Args (Int×Int):=ac aI (a1 aI)
def celV (b:Bd) (r c:Int):Int:=(b.cell r c).toNat
def prmV (b:Bd) (r c:Int):Int:=(b.prm r c).toNat
def srI (q:Pl) (n:Int):Int:=q.sr n
def scI (q:Pl) (n:Int):Int:=q.sc n
theorem ix_in {b:Bd} {r c:Int} (hf:b.Fit) (h:b.inB r c=true):(0≤r*b.size∧r*b.size≤225)∧(0≤r*b.size+c∧r*b.size+c<b.cells.length∧r*b.size+c<b.prem.length∧(b.cells.length:Int)≤225):=by
 have h1:=atP_bd ⟨hf,h⟩
 have h2:=hf.prem
 have h3:=hf.cells
 omega
def sp_i_Board_inside (p:Pr):FSpec:=fsp (ac (aA aBd) (ac aI (a1 aI))) (fun (b,r,c)=>b.Fit) (fun (b,r,c)=>.b (b.inB r c))
theorem ok_i_Board_inside:FOk Tryz.prog 225 (sp_i_Board_inside std):=by
 refine FOk.go (c:=cx std [(101,sp_i_within std)] [] 0) (cx_ok (.cons ok_i_within .nil) .nil) mixed Tryz.func225 rfl rfl rfl (by kernel_rfl) ?_
 rintro ⟨b,r,c⟩ hp
 dsimp only at hp
 refine⟨rfl,?_⟩
 unfold sp_i_within
 generalize hP:std=p
 generalize hB0:Bd.inB=B0
 generalize hB1:inR=B1
 cbv
 repeat' first
  | (refine fun (_:Unit)=>?_;cbv)
  | (refine And.intro (fun h=>?_) (fun h=>?_)<;>cbv)
  | (refine And.intro ?_ ?_)
  | (refine Or.inl (fun (_:Unit)=>?_);cbv)
 all_goals subst hP hB0 hB1
 all_goals try exact fin
 ·exact in64 (by have:=hp.lo;have:=hp.hi;show _≤b.size-1∧b.size-1≤_;omega)
 ·exact in64 (by have:=hp.lo;have:=hp.hi;show _≤b.size-1∧b.size-1≤_;omega)
 ·show inR c 0 (b.size-1)=_
  unfold Bd.inB;rw [show inR r 0 (b.size-1)=true from h];rfl
 ·unfold Bd.inB;rw [show inR r 0 (b.size-1)=false from h];rfl
def sp_i_Board_cell (p:Pr):FSpec:=fsp (ac (aA aBd) (ac aI (a1 aI))) (fun (b,r,c)=>b.Fit) (fun (b,r,c)=>.i .u8 (celV b r c))
theorem ok_i_Board_cell:FOk Tryz.prog 227 (sp_i_Board_cell std):=by
 refine FOk.go (c:=cx std [(225,sp_i_Board_inside std)] [] 0) (cx_ok (.cons ok_i_Board_inside .nil) .nil) mixed Tryz.func227 rfl rfl rfl (by kernel_rfl) ?_
 rintro ⟨b,r,c⟩ hp
 dsimp only at hp
 refine⟨rfl,?_⟩
 unfold sp_i_Board_inside
 generalize hP:std=p
 generalize hB0:celV=B0
 generalize hB1:Bd.inB=B1
 cbv
 repeat' first
  | (refine fun (_:Unit)=>?_;cbv)
  | (refine And.intro (fun h=>?_) (fun h=>?_)<;>cbv)
  | (refine And.intro ?_ ?_)
  | (refine Or.inl (fun (_:Unit)=>?_);cbv)
 all_goals subst hP hB0 hB1
 all_goals try exact fin
 ·unfold celV Bd.cell;rw [if_neg (by rw [show b.inB r c=false from h];simp)];rfl
 all_goals have f:=ix_in hp (show b.inB r c=true from h)
 ·exact in64 (by show _≤r*b.size∧r*b.size≤_;omega)
 ·exact in64 (by show _≤r*b.size+c∧r*b.size+c≤_;omega)
 ·exact⟨f.2.1,f.2.2.1⟩
 ·unfold celV Bd.cell;rw [if_pos h];rfl
def sp_i_Board_premium (p:Pr):FSpec:=fsp (ac (aA aBd) (ac aI (a1 aI))) (fun (b,r,c)=>b.Fit∧b.inB r c=true) (fun (b,r,c)=>.i .u8 (prmV b r c))
theorem ok_i_Board_premium:FOk Tryz.prog 236 (sp_i_Board_premium std):=by
 refine FOk.go (c:=cx std [] [] 0) (cx_ok .nil .nil) mixed Tryz.func236 rfl rfl rfl (by kernel_rfl) ?_
 rintro ⟨b,r,c⟩ hp
 dsimp only at hp
 refine⟨rfl,?_⟩
 generalize hP:std=p
 generalize hB0:prmV=B0
 cbv
 repeat' first
  | (refine fun (_:Unit)=>?_;cbv)
  | (refine And.intro (fun h=>?_) (fun h=>?_)<;>cbv)
  | (refine And.intro ?_ ?_)
  | (refine Or.inl (fun (_:Unit)=>?_);cbv)
 all_goals subst hP hB0
 all_goals try exact fin
 all_goals have f:=ix_in hp.1 hp.2
 ·exact in64 (by show _≤r*b.size∧r*b.size≤_;omega)
 ·exact in64 (by show _≤r*b.size+c∧r*b.size+c≤_;omega)
 ·exact⟨f.2.1,f.2.2.2.1⟩
def sp_i_Board_letter (p:Pr):FSpec:=fsp (ac (aA aBd) (ac aI (a1 aI))) (fun (b,r,c)=>b.Fit) (fun (b,r,c)=>.b (b.let_ r c))
theorem ok_i_Board_letter:FOk Tryz.prog 274 (sp_i_Board_letter std):=by
 refine FOk.go (c:=cx std [(227,sp_i_Board_cell std)] [] 0) (cx_ok (.cons ok_i_Board_cell .nil) .nil) mixed Tryz.func274 rfl rfl rfl (by kernel_rfl) ?_
 rintro ⟨b,r,c⟩ hp
 dsimp only at hp
 refine⟨rfl,?_⟩
 unfold sp_i_Board_cell
 generalize hP:std=p
 generalize hB0:celV=B0
 generalize hB1:Bd.let_=B1
 cbv
 repeat' first
  | (refine fun (_:Unit)=>?_;cbv)
  | (refine And.intro (fun h=>?_) (fun h=>?_)<;>cbv)
  | (refine And.intro ?_ ?_)
  | (refine Or.inl (fun (_:Unit)=>?_);cbv)
 all_goals subst hP hB0 hB1
 all_goals try exact fin
 ·have h1:celV b r c≠0:=by simpa using h
  have h2:(b.cell r c==0)=false:=by
   rw [←byte_is (n:=0) (m:=0) rfl,beq_eq_false_iff_ne];exact h1
  show (match (celV b r c==46) with | true=>false | false=>true)=_
  unfold Bd.let_
  rw [h2,←byte_is (c:=b.cell r c) (n:=46) (m:=46) rfl]
  show (match (celV b r c==46) with | true=>false | false=>true)=(!false&&!(celV b r c==46))
  cases (celV b r c==46)<;>rfl
 ·have h1:celV b r c=0:=by simpa using h
  have h2:(b.cell r c==0)=true:=by
   rw [←byte_is (n:=0) (m:=0) rfl,beq_iff_eq];exact h1
  unfold Bd.let_
  rw [h2];rfl
def sp_i_Board_on (p:Pr):FSpec:=fsp (ac (aA aBd) (a1 (aA aSq))) (fun (b,s)=>b.Fit) (fun (b,s)=>.b (b.let_ s.1 s.2))
theorem ok_i_Board_on:FOk Tryz.prog 226 (sp_i_Board_on std):=by
 refine FOk.go (c:=cx std [(274,sp_i_Board_letter std)] [] 0) (cx_ok (.cons ok_i_Board_letter .nil) .nil) mixed Tryz.func226 rfl rfl rfl (by kernel_rfl) ?_
 rintro ⟨b,s⟩ hp
 dsimp only at hp
 refine⟨rfl,?_⟩
 unfold sp_i_Board_letter
 generalize hP:std=p
 generalize hB0:Bd.let_=B0
 cbv
 repeat' first
  | (refine fun (_:Unit)=>?_;cbv)
  | (refine And.intro (fun h=>?_) (fun h=>?_)<;>cbv)
  | (refine And.intro ?_ ?_)
  | (refine Or.inl (fun (_:Unit)=>?_);cbv)
 all_goals subst hP hB0
 all_goals try exact fin
def sp_i_right_at (p:Pr):FSpec:=fsp (ac (aA aE) (ac aI (ac aI (a1 aI)))) (fun (_u,r,c,n)=>p.inK .i64 (p.add c n)) (fun (_u,r,c,n)=>.agg [.i .i64 r,.i .i64 (p.add c n)])
theorem ok_i_right_at:FOk Tryz.prog 346 (sp_i_right_at std):=by
 refine FOk.go (c:=cx std [] [] 0) (cx_ok .nil .nil) mixed Tryz.func346 rfl rfl rfl (by kernel_rfl) ?_
 rintro ⟨_u,r,c,n⟩ hp
 dsimp only at hp
 refine⟨rfl,?_⟩
 generalize hP:std=p
 cbv
 repeat' first
  | (refine fun (_:Unit)=>?_;cbv)
  | (refine And.intro (fun h=>?_) (fun h=>?_)<;>cbv)
  | (refine And.intro ?_ ?_)
  | (refine Or.inl (fun (_:Unit)=>?_);cbv)
 all_goals subst hP
 all_goals try exact fin
def sp_i_downwards_at (p:Pr):FSpec:=fsp (ac (aA aE) (ac aI (ac aI (a1 aI)))) (fun (_u,r,c,n)=>p.inK .i64 (p.add r n)) (fun (_u,r,c,n)=>.agg [.i .i64 (p.add r n),.i .i64 c])
theorem ok_i_downwards_at:FOk Tryz.prog 344 (sp_i_downwards_at std):=by
 refine FOk.go (c:=cx std [] [] 0) (cx_ok .nil .nil) mixed Tryz.func344 rfl rfl rfl (by kernel_rfl) ?_
 rintro ⟨_u,r,c,n⟩ hp
 dsimp only at hp
 refine⟨rfl,?_⟩
 generalize hP:std=p
 cbv
 repeat' first
  | (refine fun (_:Unit)=>?_;cbv)
  | (refine And.intro (fun h=>?_) (fun h=>?_)<;>cbv)
  | (refine And.intro ?_ ?_)
  | (refine Or.inl (fun (_:Unit)=>?_);cbv)
 all_goals subst hP
 all_goals try exact fin
def dirV:Bool→PV
 | true=>.raw (.iface 294 (.agg ⟨[]⟩))
 | false=>.raw (.iface 295 (.agg ⟨[]⟩))
def sp_i_right_cross (p:Pr):FSpec:=fsp (a1 (aA aE)) (fun _u=>True) (fun _u=>dirV true)
theorem ok_i_right_cross:FOk Tryz.prog 347 (sp_i_right_cross std):=by
 refine FOk.go (c:=cx std [] [] 0) (cx_ok .nil .nil) mixed Tryz.func347 rfl rfl rfl (by kernel_rfl) ?_
 rintro _u hp
 refine⟨rfl,?_⟩
 generalize hP:std=p
 cbv
 repeat' first
  | (refine fun (_:Unit)=>?_;cbv)
  | (refine And.intro (fun h=>?_) (fun h=>?_)<;>cbv)
  | (refine And.intro ?_ ?_)
  | (refine Or.inl (fun (_:Unit)=>?_);cbv)
 all_goals subst hP
 all_goals try exact fin
def sp_i_downwards_cross (p:Pr):FSpec:=fsp (a1 (aA aE)) (fun _u=>True) (fun _u=>dirV false)
theorem ok_i_downwards_cross:FOk Tryz.prog 345 (sp_i_downwards_cross std):=by
 refine FOk.go (c:=cx std [] [] 0) (cx_ok .nil .nil) mixed Tryz.func345 rfl rfl rfl (by kernel_rfl) ?_
 rintro _u hp
 refine⟨rfl,?_⟩
 generalize hP:std=p
 cbv
 repeat' first
  | (refine fun (_:Unit)=>?_;cbv)
  | (refine And.intro (fun h=>?_) (fun h=>?_)<;>cbv)
  | (refine And.intro ?_ ?_)
  | (refine Or.inl (fun (_:Unit)=>?_);cbv)
 all_goals subst hP
 all_goals try exact fin
def sp_i_directionOf (p:Pr):FSpec:=fsp (a1 aB) (fun d=>True) (fun d=>dirV d)
theorem ok_i_directionOf:FOk Tryz.prog 243 (sp_i_directionOf std):=by
 refine FOk.go (c:=cx std [] [] 0) (cx_ok .nil .nil) mixed Tryz.func243 rfl rfl rfl (by kernel_rfl) ?_
 rintro d hp
 cases d
 all_goals
  refine⟨rfl,?_⟩
  generalize hP:std=p
  cbv
  repeat' first
   | (refine fun (_:Unit)=>?_;cbv)
   | (refine And.intro (fun h=>?_) (fun h=>?_)<;>cbv)
   | (refine And.intro ?_ ?_)
   | (refine Or.inl (fun (_:Unit)=>?_);cbv)
 all_goals subst hP
 all_goals try exact fin
structure SqP (q:Pl) (n:Int):Prop where
 r:std.inK .i64 (q.row+n)
 c:std.inK .i64 (q.col+n)
def sp_i_Play_square (p:Pr):FSpec:=fsp (ac (aA aPl) (a1 aI)) (fun (q,n)=>SqP q n) (fun (q,n)=>.agg [.i .i64 (srI q n),.i .i64 (scI q n)])
theorem ok_i_Play_square:FOk Tryz.prog 193 (sp_i_Play_square std):=by
 refine FOk.go (c:=cx std [(243,sp_i_directionOf std),(346,sp_i_right_at std),(344,sp_i_downwards_at std)] [] 0) (cx_ok (.cons ok_i_directionOf (.cons ok_i_right_at (.cons ok_i_downwards_at .nil))) .nil) mixed Tryz.func193 rfl rfl rfl (by kernel_rfl) ?_
 rintro ⟨q,n⟩ hp
 dsimp only at hp
 obtain⟨row,col,dn,wd⟩:=q
 cases dn
 all_goals
  refine⟨rfl,?_⟩
  unfold sp_i_directionOf sp_i_right_at sp_i_downwards_at
  generalize hP:std=p
  cbv
  repeat' first
   | (refine fun (_:Unit)=>?_;cbv)
   | (refine And.intro (fun h=>?_) (fun h=>?_)<;>cbv)
   | (refine And.intro ?_ ?_)
   | (refine Or.inl (fun (_:Unit)=>?_);cbv)
 all_goals subst hP
 all_goals try exact fin
 ·exact hp.c
 ·exact hp.r
theorem fit_step (b:Bd) (q:Pl) (k:Nat):fitTo b q (k+1)=(fitTo b q k&&fitQ b q k):=by
 unfold fitTo
 rw [List.range_succ,List.all_append]
 simp
theorem free_step (b:Bd) (q:Pl) (k:Nat):freeTo b q (k+1)=(freeTo b q k||(cellQ b q k==46)):=by
 unfold freeTo
 rw [List.range_succ,List.any_append]
 simp
theorem fit_no {b:Bd} {q:Pl} {k n:Nat} (h:fitQ b q k=false) (hk:k<n):fitTo b q n=false:=by
 unfold fitTo
 rw [List.all_eq_false]
 exact⟨k,List.mem_range.2 hk,by rw [h];simp⟩
theorem byte_both (c d:UInt8):((c.toNat:Int)==(d.toNat:Int))=(c==d):=byte_is rfl
theorem wordB_len {s:List UInt8} (h:wordB s=true):2≤s.length∧s.length≤12:=by
 unfold wordB placedB inR at h
 simp at h
 omega
theorem Fit_in {b:Bd} (hf:b.Fit) {r c:Int} (h:b.inB r c=true):(0≤r∧r≤14)∧(0≤c∧c≤14):=by
 have h1:=inB_iff.1 h
 have h2:=hf.hi
 omega
theorem sqP_of {q:Pl} {n:Int} (h1 : -1000≤q.row∧q.row≤1000) (h2 : -1000≤q.col∧q.col≤1000) (h3 : -1000≤n∧n≤1000):SqP q n:=
 ⟨in64 (by omega),in64 (by omega)⟩
theorem k_suc {k:Int} (h:0≤k):(std.add k 1).toNat =k.toNat+1:=by show (k+1).toNat =_;omega
theorem vk_cell {b:Bd} {q:Pl} {k:Int} (h:0≤k):celV b (srI q k) (scI q k)=((cellQ b q k.toNat).toNat : Int):=by
 unfold celV srI scI cellQ
 rw [Int.toNat_of_nonneg h]
theorem vk_dot {b:Bd} {q:Pl} {k:Int} {x:Bool} (h0:0≤k) (h:std.eqI (celV b (srI q k) (scI q k)) 46=x):(cellQ b q k.toNat==46)=x:=by
 rw [←h,vk_cell h0]
 exact (byte_is (n:=46) (m:=46) rfl).symm
theorem vk_let {b:Bd} {q:Pl} {k:Int} {x:Bool} (h0:0≤k) (h:std.eqI (celV b (srI q k) (scI q k)) (std.byte q.word k)=x):(cellQ b q k.toNat==q.word.getD k.toNat 0)=x:=by
 rw [←h,vk_cell h0]
 exact (byte_both _ _).symm
theorem valid_eq {b:Bd} {q:Pl} (h1:wordB q.word=true) (h2:b.inB q.row q.col=true) (h3:b.inB (srI q (std.sub (std.lenS q.word) 1)) (scI q (std.sub (std.lenS q.word) 1))=true) (h4:b.let_ (srI q (-1)) (scI q (-1))=false) (h5:b.let_ (srI q (std.lenS q.word)) (scI q (std.lenS q.word))=false) :
 validI b q=(fitTo b q q.word.length&&freeTo b q q.word.length):=by
 have h3:b.inB (q.sr ((q.word.length:Int)-1)) (q.sc ((q.word.length:Int)-1))=true:=h3
 have h4:b.let_ (q.sr (-1)) (q.sc (-1))=false:=h4
 have h5:b.let_ (q.sr q.word.length) (q.sc q.word.length)=false:=h5
 unfold validI
 rw [h1,h2,h3,h4,h5]
 simp
def sp_i_Play_validOn (p:Pr):FSpec:=fsp (ac (aA aPl) (a1 (aA aBd))) (fun (q,b)=>b.Fit∧p.leP (p.lenS q.word) 1073741824) (fun (q,b)=>.b (validI b q))
theorem ok_i_Play_validOn:FOk Tryz.prog 182 (sp_i_Play_validOn std):=by
 refine FOk.go (c:=cx std [(180,sp_i_isMain std),(225,sp_i_Board_inside std),(193,sp_i_Play_square std),(226,sp_i_Board_on std),(227,sp_i_Board_cell std)] [] 0) (cx_ok (.cons ok_i_isMain (.cons ok_i_Board_inside (.cons ok_i_Play_square (.cons ok_i_Board_on (.cons ok_i_Board_cell .nil))))) .nil) mixed Tryz.func182 rfl rfl rfl (by kernel_rfl) ?_
 rintro ⟨q,b⟩ hp
 dsimp only at hp
 refine⟨rfl,?_⟩
 unfold sp_i_isMain sp_i_Board_inside sp_i_Play_square sp_i_Board_on sp_i_Board_cell
 obtain⟨H,hH⟩ : ∃H:Hd (Int×Bool),H=⟨fun (k,fr)=>0≤k∧k≤q.word.length∧fitTo b q k.toNat=true∧fr=freeTo b q k.toNat,fun (k,fr)=>(q.word.length-k).toNat,(· < ·)⟩:=⟨_,rfl⟩
 have hl : ∀m n,H.lt m n→m<n:=by subst hH;exact fun _ _ h=>h
 generalize hP:std=p
 generalize hB0:validI=B0
 generalize hB1:wordB=B1
 generalize hB2:Bd.inB=B2
 generalize hB3:Bd.let_=B3
 generalize hB4:srI=B4
 generalize hB5:scI=B5
 generalize hB6:celV=B6
 cbv
 repeat' first
  | (refine fun (_:Unit)=>?_;cbv)
  | (refine Or.inr ⟨51,[],[.s 7 (.i .i64),.s 6 .b],[],[],H,rfl,hl,?_,fun ((k,fr):Int×Bool) hk=>?_⟩<;>cbv)
  | (refine And.intro (fun h=>?_) (fun h=>?_)<;>cbv)
  | (refine And.intro ?_ ?_)
 all_goals subst hP hB0 hB1 hB2 hB3 hB4 hB5 hB6 hH
 all_goals clear hl
 all_goals try dsimp only at hk
 all_goals try dsimp only
 all_goals try exact fin
 all_goals (try simp only [eta_bd,eta_pl] at *)
 all_goals try (have hw:=wordB_len (show wordB q.word=true by assumption))
 all_goals try (have hi:=Fit_in hp.1 (show b.inB q.row q.col=true by assumption))
 ·unfold validI;simp [*]
 ·exact sqP_of (by omega) (by omega) (by show _≤(q.word.length:Int)-1∧(q.word.length:Int)-1≤_;omega)
 ·exact sqP_of (by omega) (by omega) (by omega)
 ·exact sqP_of (by omega) (by omega) (by show _≤(q.word.length:Int)∧(q.word.length:Int)≤_;omega)
 ·unfold validI;simp only [srI,scI,sd_sub,sd_lenS] at *;simp [*]
 ·exact⟨Int.le_refl 0,Int.natCast_nonneg _,rfl,rfl⟩
 ·obtain⟨q0,q1, -, -⟩:=hk
  have q1:k≤(q.word.length:Int):=q1
  exact sqP_of (by omega) (by omega) (by omega)
 all_goals try obtain⟨q0,q1,q2,q3⟩:=hk
 all_goals try (have q1:k≤(q.word.length:Int):=q1)
 all_goals try (have hlt:k<(q.word.length:Int):=lt_of (by assumption))
 ·refine⟨by show 0≤k+1;omega,by show k+1≤(q.word.length:Int);omega,?_⟩
  rw [k_suc q0,fit_step,free_step,q2,vk_dot q0 h,Bool.or_true]
  refine⟨?_,rfl⟩
  unfold fitQ;rw [vk_dot q0 h];rfl
 ·rw [valid_eq (by assumption) (by assumption) (by assumption) (by assumption) (by assumption),fit_no (k:=k.toNat) ?_ (by omega),Bool.false_and]
  unfold fitQ
  rw [vk_dot q0 (show std.eqI (celV b (srI q k) (scI q k)) 46=false by assumption),vk_let q0 (by assumption)];rfl
 ·refine⟨by show 0≤k+1;omega,by show k+1≤(q.word.length:Int);omega,?_⟩
  have hd:=vk_dot q0 (show std.eqI (celV b (srI q k) (scI q k)) 46=false by assumption)
  rw [k_suc q0,fit_step,free_step,q2,hd,Bool.or_false]
  refine⟨?_,q3⟩
  unfold fitQ
  rw [vk_let q0 (by assumption),Bool.or_true];rfl
 ·have hge:=ge_of (show std.ltI k (std.lenS q.word)=false by assumption)
  have e:k.toNat=q.word.length:=by have : (q.word.length:Int)≤k:=hge;omega
  rw [valid_eq (by assumption) (by assumption) (by assumption) (by assumption) (by assumption),q3,←e,q2];rfl
 ·unfold validI;simp only [srI,scI,sd_sub,sd_lenS] at *;simp [*]
 ·unfold validI;simp only [srI,scI,sd_sub,sd_lenS] at *;simp [*]
 ·unfold validI;rw [show wordB q.word=false by assumption];simp
def okI (b:Bd) (q:Pl):Bool:=bdB b&&validI b q
def sp_i_ValidPlay (p:Pr):FSpec:=fsp (ac (aA aBd) (a1 (aA aPl))) (fun (b,q)=>BdP b∧p.leP (p.lenS q.word) 1073741824) (fun (b,q)=>.b (okI b q))
theorem ok_i_ValidPlay:FOk Tryz.prog 222 (sp_i_ValidPlay std):=by
 refine FOk.go (c:=cx std [(99,sp_i_ValidBoard std),(182,sp_i_Play_validOn std)] [] 0) (cx_ok (.cons ok_i_ValidBoard (.cons ok_i_Play_validOn .nil)) .nil) mixed Tryz.func222 rfl rfl rfl (by kernel_rfl) ?_
 rintro ⟨b,q⟩ hp
 dsimp only at hp
 refine⟨rfl,?_⟩
 unfold sp_i_ValidBoard sp_i_Play_validOn
 generalize hP:std=p
 generalize hB0:okI=B0
 generalize hB1:bdB=B1
 generalize hB2:validI=B2
 cbv
 repeat' first
  | (refine fun (_:Unit)=>?_;cbv)
  | (refine And.intro (fun h=>?_) (fun h=>?_)<;>cbv)
  | (refine And.intro ?_ ?_)
  | (refine Or.inl (fun (_:Unit)=>?_);cbv)
 all_goals subst hP hB0 hB1 hB2
 all_goals try exact fin
 ·exact bdB.fit (show bdB b=true from h)
 ·unfold okI;rw [show bdB b=true from h,Bool.true_and]
 ·unfold okI;rw [show bdB b=false from h,Bool.false_and]
structure VP (b:Bd) (q:Pl):Prop where
 bd:bdB b=true
 fit:b.Fit
 on:OnQ b q
 lett:lettB q.word=true
 lo:2≤q.word.length
 hi:q.word.length≤12
 r:0≤q.row∧q.row≤14
 c:0≤q.col∧q.col≤14
theorem VP.of {b:Bd} {q:Pl} (hb:bdB b=true) (h:validI b q=true):VP b q:=by
 have hf:=bdB.fit hb
 obtain⟨h1,h2,h3,h4⟩:=validI_facts h
 have h5:=h1 0 (by omega)
 have h6:q.sr ((0:Nat):Int)=q.row:=by unfold Pl.sr;split<;>simp
 have h7:q.sc ((0:Nat):Int)=q.col:=by unfold Pl.sc;split<;>simp
 rw [h6,h7] at h5
 exact⟨hb,hf,h1,h2,h3,h4,(Fit_in hf h5).1,(Fit_in hf h5).2⟩
theorem asc_of {s:List UInt8} (h:lettB s=true):std.asc s:=fun c hc=>by
 have:=List.all_eq_true.1 (lettB_ascii h) c hc
 simpa using this
def nsTo (b:Bd) (q:Pl) (k:Int):List (Int×Int):=sqL q (newTo b q k.toNat)
def npTo (b:Bd) (q:Pl) (k:Int):List Int:=(newTo b q k.toNat).map fun i:Nat=>(i:Int)
def nsI (b:Bd) (q:Pl):List (Int×Int):=sqL q (newL b q)
def npI (b:Bd) (q:Pl):List Int:=(newL b q).map fun i:Nat=>(i:Int)
theorem new_no {b:Bd} {q:Pl} {k:Nat} (h:b.let_ (q.sr k) (q.sc k)=false):newTo b q (k+1)=newTo b q k++[k]:=by
 unfold newTo
 rw [List.range_succ,List.filter_append]
 simp [h]
theorem new_yes {b:Bd} {q:Pl} {k:Nat} (h:b.let_ (q.sr k) (q.sc k)=true):newTo b q (k+1)=newTo b q k:=by
 unfold newTo
 rw [List.range_succ,List.filter_append]
 simp [h]
def sp_i_newSquares (p:Pr):FSpec:=fsp (ac (aA aBd) (a1 (aA aPl))) (fun (b,q)=>VP b q) (fun (b,q)=>.tup [.rsl [.i .i64,.i .i64] (nsI b q),.rsl [.i .i64] (npI b q)])
def sp_i_newSquares_o (p:Pr):FSpec:=fsp (ac (aA aBd) (a1 (aA aPl))) (fun (b,q)=>VP b q) (fun (b,q)=>.tup [.osl 0,.osl 1]) (fun (b,q)=>[(0,.own [.i .i64,.i .i64] (nsI b q) 219),(1,.own [.i .i64] (npI b q) 3)])
theorem ok_i_newSquares_o:FOk Tryz.prog 183 (sp_i_newSquares_o std):=by
 refine FOk.go (c:=cx std [(193,sp_i_Play_square std),(226,sp_i_Board_on std)] [] 0) (cx_ok (.cons ok_i_Play_square (.cons ok_i_Board_on .nil)) .nil) mixed Tryz.func183 rfl rfl rfl (by kernel_rfl) ?_
 rintro ⟨b,q⟩ hp
 dsimp only at hp
 refine⟨rfl,?_⟩
 unfold sp_i_Play_square sp_i_Board_on
 obtain⟨H,hH⟩ : ∃H:Hd (Int×List (Int×Int)×List Int),H=⟨fun (k,S,P)=>0≤k∧k≤q.word.length∧S=nsTo b q k∧P=npTo b q k,fun (k,S,P)=>(q.word.length-k).toNat,(· < ·)⟩:=⟨_,rfl⟩
 have hl : ∀m n,H.lt m n→m<n:=by subst hH;exact fun _ _ h=>h
 generalize hP:std=p
 generalize hB0:nsI=B0
 generalize hB1:npI=B1
 generalize hB2:Bd.let_=B2
 generalize hB3:srI=B3
 generalize hB4:scI=B4
 cbv
 repeat' first
  | (refine fun (_:Unit)=>?_;cbv)
  | (refine Or.inr ⟨15,[],[.c 4 0 (.i .i64),.o 2 [.i .i64,.i .i64],.o 3 [.i .i64]],[.s 6,.s 7],[],H,rfl,hl,?_,fun ((k,S,P):Int×List (Int×Int)×List Int) hk=>?_⟩<;>cbv)
  | (refine And.intro (fun h=>?_) (fun h=>?_)<;>cbv)
  | (refine And.intro ?_ ?_)
 all_goals subst hP hB0 hB1 hB2 hB3 hB4 hH
 all_goals clear hl
 all_goals try dsimp only at hk
 all_goals try dsimp only
 all_goals try exact fin
 ·exact asc_of hp.lett
 ·exact⟨Int.le_refl 0,Int.natCast_nonneg _,rfl,rfl⟩
 all_goals obtain⟨q0,q1,rfl,rfl⟩:=hk
 all_goals have q1:k≤(q.word.length:Int):=q1
 all_goals have a1:=hp.r
 all_goals have a2:=hp.c
 all_goals have a3:=hp.hi
 all_goals have a4:=newTo_length b q k.toNat
 all_goals try (have hlt:k<(q.word.length:Int):=lt_of (by assumption))
 ·show SqP q k;exact sqP_of (by omega) (by omega) (by omega)
 ·show ((nsTo b q k).length : Int)+1≤_
  unfold nsTo sqL;rw [List.length_map];omega
 ·show ((npTo b q k).length : Int)+1≤_
  unfold npTo;rw [List.length_map];omega
 ·refine⟨by show 0≤k+1;omega,by show k+1≤(q.word.length:Int);omega,?_,?_⟩
  ·show nsTo b q k++[(q.sr k,q.sc k)]=_
   unfold nsTo
   rw [k_suc q0,new_no (by rw [Int.toNat_of_nonneg q0];assumption)]
   simp [sqL,Int.toNat_of_nonneg q0]
  ·show npTo b q k++[k]=_
   unfold npTo
   rw [k_suc q0,new_no (by rw [Int.toNat_of_nonneg q0];assumption)]
   simp [Int.toNat_of_nonneg q0]
 ·refine⟨by show 0≤k+1;omega,by show k+1≤(q.word.length:Int);omega,?_,?_⟩
  ·unfold nsTo;rw [k_suc q0,new_yes (by rw [Int.toNat_of_nonneg q0];assumption)]
  ·unfold npTo;rw [k_suc q0,new_yes (by rw [Int.toNat_of_nonneg q0];assumption)]
 all_goals
  have hge:(q.word.length:Int)≤k:=ge_of (by assumption)
  have e:k.toNat=q.word.length:=by omega
 ·unfold nsTo;rw [e];rfl
 ·unfold npTo;rw [e];rfl
theorem ok_i_newSquares:FOk Tryz.prog 183 (sp_i_newSquares std):=FOk.frz ok_i_newSquares_o fun ⟨b,q⟩=>⟨by simp [deep,deeps,AH.get],by simp [PV.idIn,idInL]⟩
theorem made_suc (b:Bd) (q:Pl) (k:Nat):madeTo b q (k+1)=(madeTo b q k).set (idxOf b q k) (q.word.getD k 0):=by
 unfold madeTo
 rw [List.range_succ,List.foldl_append]
 rfl
theorem made_len (b:Bd) (q:Pl) : ∀k,(madeTo b q k).length =b.cells.length
 | 0=>rfl
 | k+1=>by rw [made_suc,List.length_set,made_len b q k]
def sp_i_made (p:Pr):FSpec:=fsp (ac (aA aBd) (a1 (aA aPl))) (fun (b,q)=>VP b q) (fun (b,q)=>.agg [.i .i64 (madeB b q).size,.s (madeB b q).prem,.s (madeB b q).cells])
theorem ok_i_made:FOk Tryz.prog 115 (sp_i_made std):=by
 refine FOk.go (c:=cx std [(193,sp_i_Play_square std)] [] 0) (cx_ok (.cons ok_i_Play_square .nil) .nil) mixed Tryz.func115 rfl rfl rfl (by kernel_rfl) ?_
 rintro ⟨b,q⟩ hp
 dsimp only at hp
 refine⟨rfl,?_⟩
 unfold sp_i_Play_square
 obtain⟨H,hH⟩ : ∃H:Hd (Int×List Int),H=⟨fun (k,L)=>0≤k∧k≤q.word.length∧L=toBl (madeTo b q k.toNat),fun (k,L)=>(q.word.length-k).toNat,(· < ·)⟩:=⟨_,rfl⟩
 have hl : ∀m n,H.lt m n→m<n:=by subst hH;exact fun _ _ h=>h
 generalize hP:std=p
 generalize hB0:madeB=B0
 generalize hB1:srI=B1
 generalize hB2:scI=B2
 cbv
 repeat' first
  | (refine fun (_:Unit)=>?_;cbv)
  | (refine Or.inr ⟨14,[],[.c 4 0 (.i .i64),.o 3 [.i .u8]],[],[],H,rfl,hl,?_,fun ((k,L):Int×List Int) hk=>?_⟩<;>cbv)
  | (refine And.intro (fun h=>?_) (fun h=>?_)<;>cbv)
  | (refine And.intro ?_ ?_)
 all_goals subst hP hB0 hB1 hB2 hH
 all_goals clear hl
 all_goals try dsimp only at hk
 all_goals try dsimp only
 all_goals try exact fin
 ·exact asc_of hp.lett
 ·exact⟨Int.le_refl 0,Int.natCast_nonneg _,rfl⟩
 all_goals obtain⟨q0,q1,rfl⟩:=hk
 all_goals have q1:k≤(q.word.length:Int):=q1
 all_goals have a1:=hp.r
 all_goals have a2:=hp.c
 all_goals have a3:=hp.hi
 all_goals have a4:=made_len b q k.toNat
 all_goals try (have hlt:k<(q.word.length:Int):=lt_of (by assumption))
 all_goals try (have hix:=ix_in hp.fit (hp.on k.toNat (by omega));rw [Int.toNat_of_nonneg q0] at hix)
 ·show SqP q k;exact sqP_of (by omega) (by omega) (by omega)
 ·exact in64 (by show _≤q.sr k*b.size∧q.sr k*b.size≤_;omega)
 ·exact in64 (by show _≤q.sr k*b.size+q.sc k∧q.sr k*b.size+q.sc k≤_;omega)
 ·refine⟨hix.2.1,?_⟩
  show q.sr k*b.size+q.sc k<((toBl (madeTo b q k.toNat)).length : Int)
  rw [toB_len];omega
 ·refine⟨hix.2.1,?_⟩
  show q.sr k*b.size+q.sc k<((toBl (madeTo b q k.toNat)).length : Int)
  rw [toB_len];omega
 ·refine⟨by show 0≤k+1;omega,by show k+1≤(q.word.length:Int);omega,?_⟩
  show (toBl (madeTo b q k.toNat)).set (q.sr k*b.size+q.sc k).toNat (((q.word.getD k.toNat 0).toNat : Nat):Int)=_
  rw [toB_set,k_suc q0,made_suc]
  unfold idxOf
  rw [Int.toNat_of_nonneg q0]
 ·have hge:(q.word.length:Int)≤k:=ge_of (by assumption)
  have e:k.toNat=q.word.length:=by omega
  show toSl (toBl (madeTo b q k.toNat))=madeTo b q q.word.length
  rw [toS_toB,e]
end Ax
end Go.Proofs.YtpmakcfjdkaegaaGreatDoor
namespace Go.Proofs.YtpmakcfjdkaegaaGreatDoor
namespace RegV
open RegP RegL
section
variable {P:Program} {ops:Array Oper} {Q:Exit→Act→World→Prop} {S:(Nat→Value)→(Nat→Bool)→World→Prop}
def sub (σ:Nat→Value) (i:Nat) (u:Value):Nat→Value:=fun j=>if j=i then u else σ j
end
open Go.RowKit in
section
open Go.RowKit
variable {W w1 w2:World} {fs:List (Nat×Nat)} {σ:Nat→Value} {L:Nat→Bool} {i n:Nat}
end
end RegV
end Go.Proofs.YtpmakcfjdkaegaaGreatDoor
