/-
  Words, piles, lexicons, tile sets of the impl package: whether they are valid; Piles, lexicons, boards, placed words, tile sets of the impl package: whether they are valid.
  Conditions: none.
-/
import Derived.Test.YtjjonmhpgkahoaaGreatDoorS15
set_option linter.unusedSimpArgs false
set_option linter.unusedVariables false
namespace Go.Proofs.YtjjonmhpgkahoaaGreatDoor
namespace Ax
set_option maxRecDepth 100000
set_option maxHeartbeats 2000000
def adjB {α:Type} (r:α→α→Bool):List α→Bool
 | a::b::l=>r a b&&adjB r (b::l)
 | _=>true
theorem adj_step {α:Type} {r:α→α→Bool} {L:List α} {k:Int} (h1:1≤k) (h2:k<L.length) (d:α):adjB r (L.drop (k-1).toNat)=(r (L.getD (k-1).toNat d) (L.getD k.toNat d)&&adjB r (L.drop (k+1-1).toNat)):=by
 have e1:L.drop (k-1).toNat =L.getD (k-1).toNat d::L.drop k.toNat:=by
  have:=dc (L:=L) (a:=k-1) (by omega) (by omega) d
  rw [show k-1+1=k from by omega] at this
  exact this
 have e2:L.drop k.toNat=L.getD k.toNat d::L.drop (k+1).toNat :=dc (L:=L) (a:=k) (by omega) (by omega) d
 rw [show k+1-1=k from by omega,e1,e2,adjB]
theorem adj_end {α:Type} {r:α→α→Bool} {L:List α} {k:Int} (h2:(L.length:Int)≤k):adjB r (L.drop (k-1).toNat)=true:=by
 have : (L.drop (k-1).toNat).length ≤1:=by rw [List.length_drop];omega
 match hL:L.drop (k-1).toNat,this with
 | [],_=>rfl
 | [_],_=>rfl
 | _::_::_,h=>simp at h
theorem adj_some (q:UInt8) : ∀s:List UInt8,pileFrom (some q) s=(s.all tileB&&adjB leB (q::s))
 | []=>rfl
 | a::r=>by
   rw [pileFrom,adj_some a r,adjB,List.all_cons]
   cases tileB a<;>cases leB q a<;>cases r.all tileB<;>simp
theorem pile_adj (s:List UInt8):pileB s=(decide (s.length≤120)&&(s.all tileB&&adjB leB s)):=by
 unfold pileB
 rw [Bool.and_comm]
 congr 1
 cases s with
 | nil=>rfl
 | cons a r=>rw [pileFrom,adj_some,List.all_cons,Bool.and_assoc]
theorem sm_some (q:UInt8) : ∀s:List UInt8,smFrom (some q) s=(adjB (fun a b=>decide (a.toNat<b.toNat)) (q::s)&&s.all smallB)
 | []=>rfl
 | a::r=>by
   rw [smFrom,sm_some a r,adjB,List.all_cons]
   cases smallB a<;>simp [aftB,Bool.and_assoc]
theorem sm_adj (s:List UInt8):smFrom none s=(adjB (fun a b=>decide (a.toNat<b.toNat)) s&&s.all smallB):=by
 cases s with
 | nil=>rfl
 | cons a r=>
   rw [smFrom,sm_some,List.all_cons]
   cases smallB a<;>simp [aftB]
theorem lex_some (q:List UInt8) : ∀s:List (List UInt8),lexFrom (some q) s=(adjB sLt (q::s)&&s.all longB)
 | []=>rfl
 | a::r=>by
   rw [lexFrom,lex_some a r,adjB,List.all_cons]
   cases longB a<;>cases sLt q a<;>simp
theorem lex_adj (s:List (List UInt8)):lexFrom none s=(adjB sLt s&&s.all longB):=by
 cases s with
 | nil=>rfl
 | cons a r=>
   rw [lexFrom,lex_some,List.all_cons]
   cases longB a<;>simp
theorem inc_adj : ∀s:List (List UInt8),incB s=adjB sLt s
 | []=>rfl
 | [_]=>rfl
 | a::b::r=>by rw [incB,adjB,inc_adj (b::r)]
theorem tb_get (l:List UInt8) (k:Int):std.get 0 (std.toB l) k=std.byte l k:=by
 show (toBl l).getD k.toNat 0=_
 unfold toBl
 rw [List.getD_eq_getElem?_getD,List.getElem?_map,sd_byte,List.getD_eq_getElem?_getD]
 cases l[k.toNat]? <;>rfl
theorem tb_len (l:List UInt8):std.len (std.toB l)=l.length:=by simp [toBl]
def sp_i_small (p:Pr):FSpec:=fsp (a1 aC) (fun n=>True) (fun n=>.b (inR n 97 122))
theorem ok_i_small:FOk Tryz.prog 248 (sp_i_small std):=by
 refine FOk.go (c:=cx std [] [] 0) (cx_ok .nil .nil) mixed Tryz.func248 rfl rfl rfl (by kernel_rfl) ?_
 rintro n hp
 refine⟨rfl,?_⟩
 generalize hP:std=p,hB0:inR=B0
 cbv
 repeat' first
  | (refine fun (_:Unit)=>?_;cbv)
  | (refine aI2 (fun h=>?_) (fun h=>?_)<;>cbv)
  | (refine aI2 ?_ ?_)
  | (refine Or.inl (fun (_:Unit)=>?_);cbv)
 all_goals subst hP hB0
 all_goals try exact fin
 all_goals (simp [std,inR] at * <;>first | lia | (simp_all;done))
def sp_i_capital (p:Pr):FSpec:=fsp (a1 aC) (fun n=>True) (fun n=>.b (inR n 65 90))
theorem ok_i_capital:FOk Tryz.prog 188 (sp_i_capital std):=by
 refine FOk.go (c:=cx std [] [] 0) (cx_ok .nil .nil) mixed Tryz.func188 rfl rfl rfl (by kernel_rfl) ?_
 rintro n hp
 refine⟨rfl,?_⟩
 generalize hP:std=p,hB0:inR=B0
 cbv
 repeat' first
  | (refine fun (_:Unit)=>?_;cbv)
  | (refine aI2 (fun h=>?_) (fun h=>?_)<;>cbv)
  | (refine aI2 ?_ ?_)
  | (refine Or.inl (fun (_:Unit)=>?_);cbv)
 all_goals subst hP hB0
 all_goals try exact fin
 all_goals (simp [std,inR] at * <;>first | lia | (simp_all;done))
def sp_i_within (p:Pr):FSpec:=fsp (ac aI (ac aI (a1 aI))) (fun (n,lo,hi)=>True) (fun (n,lo,hi)=>.b (inR n lo hi))
theorem ok_i_within:FOk Tryz.prog 83 (sp_i_within std):=by
 refine FOk.go (c:=cx std [] [] 0) (cx_ok .nil .nil) mixed Tryz.func83 rfl rfl rfl (by kernel_rfl) ?_
 rintro ⟨n,lo,hi⟩ hp
 dsimp only at hp
 refine⟨rfl,?_⟩
 generalize hP:std=p,hB0:inR=B0
 cbv
 repeat' first
  | (refine fun (_:Unit)=>?_;cbv)
  | (refine aI2 (fun h=>?_) (fun h=>?_)<;>cbv)
  | (refine aI2 ?_ ?_)
  | (refine Or.inl (fun (_:Unit)=>?_);cbv)
 all_goals subst hP hB0
 all_goals try exact fin
 all_goals (simp [std,inR] at * <;>first | lia | (simp_all;done))
theorem small_byte (s:List UInt8) (k:Int):inR (std.byte s k) 97 122=smallB (s.getD k.toNat 0):=rfl
theorem cap_byte (s:List UInt8) (k:Int):inR (std.byte s k) 65 90=capB (s.getD k.toNat 0):=rfl
def plcI (c:Int):Int:=if c=63 then 0 else if inR c 97 122=true then c-96 else -1
def tiS (s:List UInt8):Bool:=s.all tileB
theorem plc_tile (s:List UInt8) (k:Int):tileB (s.getD k.toNat 0)=decide (0≤plcI (std.byte s k)):=by
 show _=decide (0≤plcI ((s.getD k.toNat 0).toNat : Int))
 generalize s.getD k.toNat 0=c
 unfold tileB plcI inR smallB
 have e:(c==63)=decide ((c.toNat:Int)=63):=by
  rw [Bool.eq_iff_iff,beq_iff_eq,decide_eq_true_eq]
  constructor
  ·rintro rfl;rfl
  ·intro h;exact UInt8.toNat_inj.1 (by show c.toNat=63;omega)
 rw [e]
 by_cases h:(c.toNat:Int)=63
 ·rw [if_pos h,decide_eq_true h];rfl
 ·rw [if_neg h,decide_eq_false h,Bool.false_or]
  by_cases h2:97≤(c.toNat:Int)∧(c.toNat:Int)≤122
  ·rw [decide_eq_true h2.1,decide_eq_true h2.2,if_pos (by rfl),decide_eq_true (by omega)];rfl
  ·have : (decide (97≤(c.toNat:Int))&&decide ((c.toNat:Int)≤122))=false:=by
    rw [Bool.eq_false_iff];intro h3;simp only [Bool.and_eq_true,decide_eq_true_eq] at h3;exact h2 h3
   rw [this,if_neg (by simp)];rfl
theorem plc_no {s:List UInt8} {k:Int} (h:std.ltI (plcI (std.byte s k)) 0=true):tileB (s.getD k.toNat 0)=false:=by
 rw [plc_tile,decide_eq_false];have:=lt_of h;omega
theorem plc_yes {s:List UInt8} {k:Int} (h:std.ltI (plcI (std.byte s k)) 0=false):tileB (s.getD k.toNat 0)=true:=by
 rw [plc_tile,decide_eq_true];exact ge_of h
def riseB (s:List UInt8):Bool:=adjB (fun a b=>decide (a.toNat<b.toNat)) s&&s.all smallB
def smS (s:List UInt8):Bool:=s.all smallB
def sp_i_onlySmall (p:Pr):FSpec:=fsp (a1 aS) (fun s=>p.ltM (p.lenS s)) (fun s=>.b (smS s))
theorem ok_i_onlySmall:FOk Tryz.prog 245 (sp_i_onlySmall std):=by
 refine FOk.go (c:=cx std [(248,sp_i_small std)] [] 0) (cx_ok (.cons ok_i_small .nil) .nil) mixed Tryz.func245 rfl rfl rfl (by kernel_rfl) ?_
 rintro s hp
 refine⟨rfl,?_⟩
 unfold sp_i_small
 obtain⟨H,hH⟩ : ∃H:Hd (Int),H=⟨fun k=>0≤k∧k≤s.length∧smS s=smS (s.drop k.toNat),fun k=>(s.length-k).toNat,(· < ·)⟩:=⟨_,rfl⟩
 have hl : ∀m n,H.lt m n→m<n:=by subst hH;exact fun _ _ h=>h
 generalize hP:std=p,hB0:smS=B0,hB1:inR=B1
 cbv
 repeat' first
  | (refine fun (_:Unit)=>?_;cbv)
  | (refine Or.inr ⟨9,[],[.s 8 (.i .i64)],[],[],H,rfl,hl,?_,fun (k:Int) hk=>?_⟩<;>cbv)
  | (refine aI2 (fun h=>?_) (fun h=>?_)<;>cbv)
  | (refine aI2 ?_ ?_)
 all_goals subst hP hB0 hB1 hH
 all_goals clear hl
 all_goals try dsimp only at hk
 all_goals try dsimp only
 all_goals try exact fin
 all_goals obtain⟨q0,q1,e⟩:=hk
 all_goals (try rw [tb_get,small_byte] at h)
 all_goals (try rw [tb_len] at *)
 all_goals have hp:(s.length:Int)≤274877906944:=hp
 ·rw [e,dc q0 (lt_of ‹_›) 0,smS,List.all_cons,h];rfl
 ·have h2:k<(s.length:Int):=lt_of ‹_›
  refine⟨by show 0≤k+1;omega,by show k+1≤(s.length:Int);omega,?_⟩
  rw [e,dc q0 h2 0,smS,List.all_cons,h];rfl
 ·rw [e,dn (ge_of ‹_›)];rfl
def sp_i_IsWord (p:Pr):FSpec:=fsp (a1 aS) (fun s=>p.ltM (p.lenS s)) (fun s=>.b (isWordB s))
theorem ok_i_IsWord:FOk Tryz.prog 246 (sp_i_IsWord std):=by
 refine FOk.go (c:=cx std [(245,sp_i_onlySmall std)] [] 0) (cx_ok (.cons ok_i_onlySmall .nil) .nil) mixed Tryz.func246 rfl rfl rfl (by kernel_rfl) ?_
 rintro s hp
 refine⟨rfl,?_⟩
 unfold sp_i_onlySmall
 generalize hP:std=p,hB0:isWordB=B0,hB1:smS=B1
 cbv
 repeat' first
  | (refine fun (_:Unit)=>?_;cbv)
  | (refine aI2 (fun h=>?_) (fun h=>?_)<;>cbv)
  | (refine aI2 ?_ ?_)
  | (refine Or.inl (fun (_:Unit)=>?_);cbv)
 all_goals subst hP hB0 hB1
 all_goals try exact fin
 ·unfold isWordB inR smS;simp at *;intros;omega
 all_goals (unfold isWordB inR;simp at *;intros;omega)
def sp_i_isLong (p:Pr):FSpec:=fsp (a1 aS) (fun s=>p.ltM (p.lenS s)) (fun s=>.b (longB s))
theorem ok_i_isLong:FOk Tryz.prog 178 (sp_i_isLong std):=by
 refine FOk.go (c:=cx std [(246,sp_i_IsWord std)] [] 0) (cx_ok (.cons ok_i_IsWord .nil) .nil) mixed Tryz.func178 rfl rfl rfl (by kernel_rfl) ?_
 rintro s hp
 refine⟨rfl,?_⟩
 unfold sp_i_IsWord
 generalize hP:std=p,hB0:longB=B0,hB1:isWordB=B1
 cbv
 repeat' first
  | (refine fun (_:Unit)=>?_;cbv)
  | (refine aI2 (fun h=>?_) (fun h=>?_)<;>cbv)
  | (refine aI2 ?_ ?_)
  | (refine Or.inl (fun (_:Unit)=>?_);cbv)
 all_goals subst hP hB0 hB1
 all_goals try exact fin
 all_goals (unfold longB;simp at *;try (intros;omega))
def sp_i_rising (p:Pr):FSpec:=fsp (a1 aS) (fun s=>p.ltM (p.lenS s)) (fun s=>.b (riseB s))
theorem ok_i_rising:FOk Tryz.prog 176 (sp_i_rising std):=by
 refine FOk.go (c:=cx std [(245,sp_i_onlySmall std)] [] 0) (cx_ok (.cons ok_i_onlySmall .nil) .nil) mixed Tryz.func176 rfl rfl rfl (by kernel_rfl) ?_
 rintro s hp
 refine⟨rfl,?_⟩
 unfold sp_i_onlySmall
 obtain⟨H,hH⟩ : ∃H:Hd (Int),H=⟨fun k=>1≤k∧riseB s=(adjB (fun a b=>decide (a.toNat<b.toNat)) (s.drop (k-1).toNat)&&smS s),fun k=>(s.length-k).toNat,(· < ·)⟩:=⟨_,rfl⟩
 have hl : ∀m n,H.lt m n→m<n:=by subst hH;exact fun _ _ h=>h
 generalize hP:std=p,hB0:riseB=B0,hB1:smS=B1
 cbv
 repeat' first
  | (refine fun (_:Unit)=>?_;cbv)
  | (refine Or.inr ⟨4,[],[.s 3 (.i .i64)],[],[],H,rfl,hl,?_,fun (k:Int) hk=>?_⟩<;>cbv)
  | (refine aI2 (fun h=>?_) (fun h=>?_)<;>cbv)
  | (refine aI2 ?_ ?_)
 all_goals subst hP hB0 hB1 hH
 all_goals clear hl
 all_goals try dsimp only at hk
 all_goals try dsimp only
 all_goals try exact fin
 ·exact⟨Int.le_refl 1,rfl⟩
 ·obtain⟨q0,e⟩:=hk
  rw [e,adj_step q0 (lt_of ‹_›) 0]
  have h3:decide ((s.getD (k-1).toNat 0).toNat < (s.getD k.toNat 0).toNat)=false:=by simp [std] at h ⊢;omega
  rw [h3];rfl
 ·obtain⟨q0,e⟩:=hk
  refine⟨by show 1≤k+1;omega,?_⟩
  rw [e,adj_step q0 (lt_of ‹_›) 0]
  have h3:decide ((s.getD (k-1).toNat 0).toNat < (s.getD k.toNat 0).toNat)=true:=by simp [std] at h ⊢;omega
  rw [h3];rfl
 ·obtain⟨q0,e⟩:=hk
  rw [e,adj_end (ge_of h)];rfl
def sp_i_place (p:Pr):FSpec:=fsp (a1 aC) (fun c=>p.inK .u8 c) (fun c=>.i .i64 (plcI c))
theorem ok_i_place:FOk Tryz.prog 189 (sp_i_place std):=by
 refine FOk.go (c:=cx std [(248,sp_i_small std)] [] 0) (cx_ok (.cons ok_i_small .nil) .nil) mixed Tryz.func189 rfl rfl rfl (by kernel_rfl) ?_
 rintro c hp
 refine⟨rfl,?_⟩
 unfold sp_i_small
 generalize hP:std=p,hB0:plcI=B0,hB1:inR=B1
 cbv
 repeat' first
  | (refine fun (_:Unit)=>?_;cbv)
  | (refine aI2 (fun h=>?_) (fun h=>?_)<;>cbv)
  | (refine aI2 ?_ ?_)
  | (refine Or.inl (fun (_:Unit)=>?_);cbv)
 all_goals subst hP hB0 hB1
 all_goals try exact fin
 ·have : c=63:=by simpa using h
  rw [this];rfl
 ·unfold inR at h
  simp at h hp
  exact⟨by show 0≤c-97;omega,by show c-97≤255;omega⟩
 ·have h2 : ¬c=63:=by simpa using ‹std.eqI c 63=false›
  unfold plcI
  rw [if_neg h2,if_pos h];show c-97+1=c-96;omega
 ·have h2 : ¬c=63:=by simpa using ‹std.eqI c 63=false›
  unfold plcI
  rw [if_neg h2,h];rfl
def sp_i_onlyTiles (p:Pr):FSpec:=fsp (a1 aS) (fun s=>p.ltM (p.lenS s)) (fun s=>.b (tiS s))
theorem ok_i_onlyTiles:FOk Tryz.prog 163 (sp_i_onlyTiles std):=by
 refine FOk.go (c:=cx std [(189,sp_i_place std)] [] 0) (cx_ok (.cons ok_i_place .nil) .nil) mixed Tryz.func163 rfl rfl rfl (by kernel_rfl) ?_
 rintro s hp
 refine⟨rfl,?_⟩
 unfold sp_i_place
 obtain⟨H,hH⟩ : ∃H:Hd (Int),H=⟨fun k=>0≤k∧k≤s.length∧tiS s=tiS (s.drop k.toNat),fun k=>(s.length-k).toNat,(· < ·)⟩:=⟨_,rfl⟩
 have hl : ∀m n,H.lt m n→m<n:=by subst hH;exact fun _ _ h=>h
 generalize hP:std=p,hB0:tiS=B0,hB1:plcI=B1
 cbv
 repeat' first
  | (refine fun (_:Unit)=>?_;cbv)
  | (refine Or.inr ⟨4,[],[.s 3 (.i .i64)],[],[],H,rfl,hl,?_,fun (k:Int) hk=>?_⟩<;>cbv)
  | (refine aI2 (fun h=>?_) (fun h=>?_)<;>cbv)
  | (refine aI2 ?_ ?_)
 all_goals subst hP hB0 hB1 hH
 all_goals clear hl
 all_goals try dsimp only at hk
 all_goals try dsimp only
 all_goals try exact fin
 all_goals obtain⟨q0,q1,e⟩:=hk
 ·rw [e,dc q0 (lt_of ‹_›) 0,tiS,List.all_cons,plc_no h];rfl
 ·have h2:k<(s.length:Int):=lt_of ‹_›
  refine⟨by show 0≤k+1;omega,by show k+1≤(s.length:Int);omega,?_⟩
  rw [e,dc q0 h2 0,tiS,List.all_cons,plc_yes h];rfl
 ·rw [e,dn (ge_of ‹_›)];rfl
end Ax
namespace Ax
set_option maxRecDepth 100000
set_option maxHeartbeats 2000000
def ascS (s:List UInt8) (k:Int):Bool:=adjB leB (s.drop (k-1).toNat)
theorem le_byte (s:List UInt8) (j k:Int):leB (s.getD j.toNat 0) (s.getD k.toNat 0)=!std.ltI (std.byte s k) (std.byte s j):=by
 unfold leB
 rw [Bool.eq_iff_iff]
 simp [std]
def sp_i_ValidPile (p:Pr):FSpec:=fsp (a1 aS) (fun s=>p.ltM (p.lenS s)) (fun s=>.b (pileB s))
theorem ok_i_ValidPile:FOk Tryz.prog 92 (sp_i_ValidPile std):=by
 refine FOk.go (c:=cx std [(163,sp_i_onlyTiles std)] [] 0) (cx_ok (.cons ok_i_onlyTiles .nil) .nil) mixed Tryz.func92 rfl rfl rfl (by kernel_rfl) ?_
 rintro s hp
 refine⟨rfl,?_⟩
 unfold sp_i_onlyTiles
 obtain⟨H,hH⟩ : ∃H:Hd (Int),H=⟨fun k=>1≤k∧pileB s=ascS s k,fun k=>(s.length-k).toNat,(· < ·)⟩:=⟨_,rfl⟩
 have hl : ∀m n,H.lt m n→m<n:=by subst hH;exact fun _ _ h=>h
 generalize hP:std=p,hB0:pileB=B0,hB1:tiS=B1
 cbv
 repeat' first
  | (refine fun (_:Unit)=>?_;cbv)
  | (refine Or.inr ⟨12,[],[.s 3 (.i .i64)],[],[],H,rfl,hl,?_,fun (k:Int) hk=>?_⟩<;>cbv)
  | (refine aI2 (fun h=>?_) (fun h=>?_)<;>cbv)
  | (refine aI2 ?_ ?_)
 all_goals subst hP hB0 hB1 hH
 all_goals clear hl
 all_goals try dsimp only at hk
 all_goals try dsimp only
 all_goals try exact fin
 ·rw [pile_adj,show s.all tileB=false by assumption,Bool.false_and,Bool.and_false]
 ·refine⟨Int.le_refl 1,?_⟩
  have h1:(s.length:Int)≤120:=ge_of ‹_›
  rw [pile_adj,show s.all tileB=true by assumption,decide_eq_true (by omega)];rfl
 ·obtain⟨q0,e⟩:=hk
  rw [e,ascS,adj_step q0 (lt_of ‹_›) 0,le_byte,show std.ltI (std.byte s k) (std.byte s (k-1))=true by assumption];rfl
 ·obtain⟨q0,e⟩:=hk
  refine⟨by show 1≤k+1;omega,?_⟩
  rw [e,ascS,adj_step q0 (lt_of ‹_›) 0,le_byte,show std.ltI (std.byte s k) (std.byte s (k-1))=false by assumption];rfl
 ·obtain⟨q0,e⟩:=hk
  rw [e,ascS,adj_end (ge_of ‹_›)]
 ·rw [pile_adj];simp at *;intros;omega
def sp_i_ValidRack (p:Pr):FSpec:=fsp (a1 aS) (fun s=>p.ltM (p.lenS s)) (fun s=>.b (rackB s))
theorem ok_i_ValidRack:FOk Tryz.prog 84 (sp_i_ValidRack std):=by
 refine FOk.go (c:=cx std [(92,sp_i_ValidPile std)] [] 0) (cx_ok (.cons ok_i_ValidPile .nil) .nil) mixed Tryz.func84 rfl rfl rfl (by kernel_rfl) ?_
 rintro s hp
 refine⟨rfl,?_⟩
 unfold sp_i_ValidPile
 generalize hP:std=p,hB0:rackB=B0,hB1:pileB=B1
 cbv
 repeat' first
  | (refine fun (_:Unit)=>?_;cbv)
  | (refine aI2 (fun h=>?_) (fun h=>?_)<;>cbv)
  | (refine aI2 ?_ ?_)
  | (refine Or.inl (fun (_:Unit)=>?_);cbv)
 all_goals subst hP hB0 hB1
 all_goals try exact fin
 all_goals (unfold rackB;simp at *;intros;first | omega | simp_all)
def sp_i_ValidBag (p:Pr):FSpec:=fsp (a1 aS) (fun s=>p.ltM (p.lenS s)) (fun s=>.b (bagB s))
theorem ok_i_ValidBag:FOk Tryz.prog 68 (sp_i_ValidBag std):=by
 refine FOk.go (c:=cx std [(163,sp_i_onlyTiles std)] [] 0) (cx_ok (.cons ok_i_onlyTiles .nil) .nil) mixed Tryz.func68 rfl rfl rfl (by kernel_rfl) ?_
 rintro s hp
 refine⟨rfl,?_⟩
 unfold sp_i_onlyTiles
 generalize hP:std=p,hB0:bagB=B0,hB1:tiS=B1
 cbv
 repeat' first
  | (refine fun (_:Unit)=>?_;cbv)
  | (refine aI2 (fun h=>?_) (fun h=>?_)<;>cbv)
  | (refine aI2 ?_ ?_)
  | (refine Or.inl (fun (_:Unit)=>?_);cbv)
 all_goals subst hP hB0 hB1
 all_goals try exact fin
 ·have h1:s.length≤120:=by simp at h;omega
  unfold bagB;rw [decide_eq_true h1,Bool.and_true];rfl
 ·have h1 : ¬s.length≤120:=by simp at h;omega
  unfold bagB;rw [decide_eq_false h1,Bool.and_false]
def incS (ws:List (List UInt8)) (k:Int):Bool:=adjB sLt (ws.drop (k-1).toNat)
def sp_i_increasing (p:Pr):FSpec:=fsp (a1 aW) (fun ws=>p.ltM (p.len ws)) (fun ws=>.b (incB ws))
theorem ok_i_increasing:FOk Tryz.prog 177 (sp_i_increasing std):=by
 refine FOk.go (c:=cx std [] [] 0) (cx_ok .nil .nil) mixed Tryz.func177 rfl rfl rfl (by kernel_rfl) ?_
 rintro ws hp
 refine⟨rfl,?_⟩
 obtain⟨H,hH⟩ : ∃H:Hd (Int),H=⟨fun k=>1≤k∧incB ws=incS ws k,fun k=>(ws.length-k).toNat,(· < ·)⟩:=⟨_,rfl⟩
 have hl : ∀m n,H.lt m n→m<n:=by subst hH;exact fun _ _ h=>h
 generalize hP:std=p,hB0:incB=B0
 cbv
 repeat' first
  | (refine fun (_:Unit)=>?_;cbv)
  | (refine Or.inr ⟨4,[],[.s 3 (.i .i64)],[],[],H,rfl,hl,?_,fun (k:Int) hk=>?_⟩<;>cbv)
  | (refine aI2 (fun h=>?_) (fun h=>?_)<;>cbv)
  | (refine aI2 ?_ ?_)
 all_goals subst hP hB0 hH
 all_goals clear hl
 all_goals try dsimp only at hk
 all_goals try dsimp only
 all_goals try exact fin
 ·exact⟨Int.le_refl 1,by rw [inc_adj];rfl⟩
 ·obtain⟨q0,e⟩:=hk
  have h3:sLt (ws.getD (k-1).toNat []) (ws.getD k.toNat [])=false:=by simpa [std,sLt] using h
  rw [e,incS,adj_step q0 (lt_of ‹_›) [],h3];rfl
 ·obtain⟨q0,e⟩:=hk
  have h3:sLt (ws.getD (k-1).toNat []) (ws.getD k.toNat [])=true:=by simpa [std,sLt] using h
  refine⟨by show 1≤k+1;omega,?_⟩
  rw [e,incS,adj_step q0 (lt_of ‹_›) [],h3];rfl
 ·obtain⟨q0,e⟩:=hk
  rw [e,incS,adj_end (ge_of ‹_›)]
def loS (ws:List (List UInt8)) (k:Int):Bool:=(ws.drop k.toNat).all longB
theorem lexB_eq (ws:List (List UInt8)):lexB ws=(incB ws&&ws.all longB&&decide (ws.length≤200)):=by
 unfold lexB
 rw [lex_adj,inc_adj]
structure WsL (ws:List (List UInt8)):Prop where
 n:ws.length≤274877906944
 w : ∀k:Int,(ws.getD k.toNat []).length ≤274877906944
def sp_i_ValidLexicon (p:Pr):FSpec:=fsp (a1 (aA aLex)) (fun ws=>WsL ws) (fun ws=>.b (lexB ws))
theorem ok_i_ValidLexicon:FOk Tryz.prog 80 (sp_i_ValidLexicon std):=by
 refine FOk.go (c:=cx std [(177,sp_i_increasing std),(178,sp_i_isLong std)] [] 0) (cx_ok (.cons ok_i_increasing (.cons ok_i_isLong .nil)) .nil) mixed Tryz.func80 rfl rfl rfl (by kernel_rfl) ?_
 rintro ws hp
 refine⟨rfl,?_⟩
 unfold sp_i_increasing sp_i_isLong
 obtain⟨H,hH⟩ : ∃H:Hd (Int),H=⟨fun k=>0≤k∧k≤ws.length∧lexB ws=loS ws k,fun k=>(ws.length-k).toNat,(· < ·)⟩:=⟨_,rfl⟩
 have hl : ∀m n,H.lt m n→m<n:=by subst hH;exact fun _ _ h=>h
 generalize hP:std=p,hB0:lexB=B0,hB1:incB=B1,hB2:longB=B2
 cbv
 repeat' first
  | (refine fun (_:Unit)=>?_;cbv)
  | (refine Or.inr ⟨19,[],[.s 18 (.i .i64)],[],[],H,rfl,hl,?_,fun (k:Int) hk=>?_⟩<;>cbv)
  | (refine aI2 (fun h=>?_) (fun h=>?_)<;>cbv)
  | (refine aI2 ?_ ?_)
 all_goals subst hP hB0 hB1 hB2 hH
 all_goals clear hl
 all_goals try dsimp only at hk
 all_goals try dsimp only
 all_goals try exact fin
 ·rw [lexB_eq,show incB ws=false by assumption];rfl
 ·refine⟨Int.le_refl 0,Int.natCast_nonneg _,?_⟩
  have h1:(ws.length:Int)≤200:=ge_of ‹_›
  rw [lexB_eq,show incB ws=true by assumption,decide_eq_true (by omega),Bool.and_true];rfl
 ·exact ltM_of (hp.w k)
 ·obtain⟨q0,q1,e⟩:=hk
  rw [e,loS,dc q0 (lt_of ‹_›) [],List.all_cons,show longB (ws.getD k.toNat [])=false by assumption];rfl
 ·obtain⟨q0,q1,e⟩:=hk
  have h2:k<(ws.length:Int):=lt_of ‹_›
  refine⟨by show 0≤k+1;omega,by show k+1≤(ws.length:Int);omega,?_⟩
  rw [e,loS,dc q0 h2 [],List.all_cons,show longB (ws.getD k.toNat [])=true by assumption];rfl
 ·obtain⟨q0,q1,e⟩:=hk
  rw [e,loS,dn (ge_of ‹_›)];rfl
 ·have h1 : ¬ws.length≤200:=by simp at h;omega
  rw [lexB_eq,decide_eq_false h1,Bool.and_false]
def celI (c:Int):Bool:=c==46||(inR c 97 122||inR c 65 90)
def sp_i_cellOk (p:Pr):FSpec:=fsp (a1 aC) (fun c=>p.inK .u8 c) (fun c=>.b (celI c))
theorem ok_i_cellOk:FOk Tryz.prog 182 (sp_i_cellOk std):=by
 refine FOk.go (c:=cx std [(248,sp_i_small std),(188,sp_i_capital std)] [] 0) (cx_ok (.cons ok_i_small (.cons ok_i_capital .nil)) .nil) mixed Tryz.func182 rfl rfl rfl (by kernel_rfl) ?_
 rintro c hp
 refine⟨rfl,?_⟩
 unfold sp_i_small sp_i_capital
 generalize hP:std=p,hB0:celI=B0,hB1:inR=B1
 cbv
 repeat' first
  | (refine fun (_:Unit)=>?_;cbv)
  | (refine aI2 (fun h=>?_) (fun h=>?_)<;>cbv)
  | (refine aI2 ?_ ?_)
  | (refine Or.inl (fun (_:Unit)=>?_);cbv)
 all_goals subst hP hB0 hB1
 all_goals try exact fin
 all_goals (unfold celI;simp at *;simp [*])
def preI (c:Int):Bool:=decide (0≤findI [50,51,100,116,46] (u8 c))
def sp_i_premiumOk (p:Pr):FSpec:=fsp (a1 aC) (fun c=>p.inK .u8 c) (fun c=>.b (preI c))
theorem ok_i_premiumOk:FOk Tryz.prog 181 (sp_i_premiumOk std):=by
 refine FOk.go (c:=cx std [(247,sp_index std)] [] 0) (cx_ok (.cons ok_index .nil) .nil) mixed Tryz.func181 rfl rfl rfl (by kernel_rfl) ?_
 rintro c hp
 refine⟨rfl,?_⟩
 unfold sp_index
 generalize hP:std=p,hB0:preI=B0,hB1:findI=B1,hB2:u8=B2
 cbv
 repeat' first
  | (refine fun (_:Unit)=>?_;cbv)
  | (refine aI2 (fun h=>?_) (fun h=>?_)<;>cbv)
  | (refine aI2 ?_ ?_)
  | (refine Or.inl (fun (_:Unit)=>?_);cbv)
 all_goals subst hP hB0 hB1 hB2
 all_goals try exact fin
def aFn (f:FuncId):Arg Unit:=⟨fun | .fn g []=>if Nat.beq g f then some () else none | _=>none,fun _=>.fn f [],fun x a h=>by
 split at h
 ·split at h
  ·rename_i g hg
   rw [Nat.eq_of_beq_eq_true hg]
  ·cases h
 ·cases h⟩
theorem byte_is {c:UInt8} {n:Int} {m:UInt8} (hm:(m.toNat:Int)=n):((c.toNat:Int)==n)=(c==m):=by
 subst hm
 rw [Bool.eq_iff_iff,beq_iff_eq,beq_iff_eq]
 constructor
 ·intro h;exact UInt8.toNat_inj.1 (by omega)
 ·rintro rfl;rfl
@[simp] theorem celI_c (c:UInt8):celI (c.toNat:Int)=cellB c:=by
 unfold celI cellB
 rw [show ((c.toNat:Int)==46)=(c==46) from byte_is (m:=46) rfl,Bool.or_assoc]
 rfl
@[simp] theorem preI_c (c:UInt8):preI (c.toNat:Int)=premB c:=by
 unfold preI
 rw [show u8 (c.toNat:Int)=c by simp [u8]]
 simp only [findI]
 unfold premB
 by_cases h1:c=50
 ·subst h1;rfl
 by_cases h2:c=51
 ·subst h2;rfl
 by_cases h3:c=100
 ·subst h3;rfl
 by_cases h4:c=116
 ·subst h4;rfl
 by_cases h5:c=46
 ·subst h5;rfl
 simp [h1,h2,h3,h4,h5,Ne.symm h1,Ne.symm h2,Ne.symm h3,Ne.symm h4,Ne.symm h5]
def alC (s:List UInt8):Bool:=s.all cellB
def alP (s:List UInt8):Bool:=s.all premB
def sp_i_allCell (p:Pr):FSpec:=fsp (ac aS (a1 (aFn 182))) (fun (s,_u)=>p.ltM (p.lenS s)) (fun (s,_u)=>.b (alC s))
theorem ok_i_allCell:FOk Tryz.prog 180 (sp_i_allCell std):=by
 refine FOk.go (c:=cx std [(182,sp_i_cellOk std)] [] 0) (cx_ok (.cons ok_i_cellOk .nil) .nil) mixed Tryz.func180 rfl rfl rfl (by kernel_rfl) ?_
 rintro ⟨s,_u⟩ hp
 dsimp only at hp
 refine⟨rfl,?_⟩
 unfold sp_i_cellOk
 obtain⟨H,hH⟩ : ∃H:Hd (Int),H=⟨fun k=>0≤k∧k≤s.length∧alC s=alC (s.drop k.toNat),fun k=>(s.length-k).toNat,(· < ·)⟩:=⟨_,rfl⟩
 have hl : ∀m n,H.lt m n→m<n:=by subst hH;exact fun _ _ h=>h
 generalize hP:std=p,hB0:alC=B0,hB1:celI=B1
 cbv
 repeat' first
  | (refine fun (_:Unit)=>?_;cbv)
  | (refine Or.inr ⟨6,[],[.s 5 (.i .i64)],[],[],H,rfl,hl,?_,fun (k:Int) hk=>?_⟩<;>cbv)
  | (refine aI2 (fun h=>?_) (fun h=>?_)<;>cbv)
  | (refine aI2 ?_ ?_)
 all_goals subst hP hB0 hB1 hH
 all_goals clear hl
 all_goals try dsimp only at hk
 all_goals try dsimp only
 all_goals try exact fin
 all_goals try first
  | exact⟨Int.le_refl 0,Int.natCast_nonneg _,rfl⟩
  | (simp [alC,celI_c];done)
  | (obtain⟨q0,q1,e⟩:=hk;refine⟨by simp [std] at *;lia,by simp [std] at *;lia,?_⟩;rw [e,dc q0 (lt_of ‹_›) 0];clear e;simp_all [std,alC,celI_c];done)
  | (obtain⟨q0,q1,e⟩:=hk;refine⟨by simp [std] at *;lia,by simp [std] at *;lia,?_⟩;rw [e,dc q0 (lt_of ‹_›) 0];clear e;simp_all [std,alC,celI_c]<;>grind;done)
  | (obtain⟨q0,q1,e⟩:=hk;rw [e,dc q0 (lt_of ‹_›) 0];clear e;simp_all [std,alC,celI_c];done)
  | (obtain⟨q0,q1,e⟩:=hk;rw [e,dc q0 (lt_of ‹_›) 0];clear e;simp_all [std,alC,celI_c]<;>grind;done)
  | (obtain⟨q0,q1,e⟩:=hk;rw [e,dn (ge_of ‹_›)];clear e;simp_all [std,alC,celI_c];done)
  | (obtain⟨q0,q1,e⟩:=hk;rw [e,dn (ge_of ‹_›)];clear e;simp_all [std,alC,celI_c]<;>grind;done)
def sp_i_allPrem (p:Pr):FSpec:=fsp (ac aS (a1 (aFn 181))) (fun (s,_u)=>p.ltM (p.lenS s)) (fun (s,_u)=>.b (alP s))
theorem ok_i_allPrem:FOk Tryz.prog 180 (sp_i_allPrem std):=by
 refine FOk.go (c:=cx std [(181,sp_i_premiumOk std)] [] 0) (cx_ok (.cons ok_i_premiumOk .nil) .nil) mixed Tryz.func180 rfl rfl rfl (by kernel_rfl) ?_
 rintro ⟨s,_u⟩ hp
 dsimp only at hp
 refine⟨rfl,?_⟩
 unfold sp_i_premiumOk
 obtain⟨H,hH⟩ : ∃H:Hd (Int),H=⟨fun k=>0≤k∧k≤s.length∧alP s=alP (s.drop k.toNat),fun k=>(s.length-k).toNat,(· < ·)⟩:=⟨_,rfl⟩
 have hl : ∀m n,H.lt m n→m<n:=by subst hH;exact fun _ _ h=>h
 generalize hP:std=p,hB0:alP=B0,hB1:preI=B1
 cbv
 repeat' first
  | (refine fun (_:Unit)=>?_;cbv)
  | (refine Or.inr ⟨6,[],[.s 5 (.i .i64)],[],[],H,rfl,hl,?_,fun (k:Int) hk=>?_⟩<;>cbv)
  | (refine aI2 (fun h=>?_) (fun h=>?_)<;>cbv)
  | (refine aI2 ?_ ?_)
 all_goals subst hP hB0 hB1 hH
 all_goals clear hl
 all_goals try dsimp only at hk
 all_goals try dsimp only
 all_goals try exact fin
 all_goals try first
  | exact⟨Int.le_refl 0,Int.natCast_nonneg _,rfl⟩
  | (simp [alP,preI_c];done)
  | (obtain⟨q0,q1,e⟩:=hk;refine⟨by simp [std] at *;lia,by simp [std] at *;lia,?_⟩;rw [e,dc q0 (lt_of ‹_›) 0];clear e;simp_all [std,alP,preI_c];done)
  | (obtain⟨q0,q1,e⟩:=hk;refine⟨by simp [std] at *;lia,by simp [std] at *;lia,?_⟩;rw [e,dc q0 (lt_of ‹_›) 0];clear e;simp_all [std,alP,preI_c]<;>grind;done)
  | (obtain⟨q0,q1,e⟩:=hk;rw [e,dc q0 (lt_of ‹_›) 0];clear e;simp_all [std,alP,preI_c];done)
  | (obtain⟨q0,q1,e⟩:=hk;rw [e,dc q0 (lt_of ‹_›) 0];clear e;simp_all [std,alP,preI_c]<;>grind;done)
  | (obtain⟨q0,q1,e⟩:=hk;rw [e,dn (ge_of ‹_›)];clear e;simp_all [std,alP,preI_c];done)
  | (obtain⟨q0,q1,e⟩:=hk;rw [e,dn (ge_of ‹_›)];clear e;simp_all [std,alP,preI_c]<;>grind;done)
def sp_allBytes (p:Pr):FSpec:=FSpec.or (fsp (ac aS (a1 (aFn 181))) (fun (s,_)=>p.ltM (p.lenS s)) (fun (s,_)=>.b (alP s))) (fsp (ac aS (a1 (aFn 182))) (fun (s,_)=>p.ltM (p.lenS s)) (fun (s,_)=>.b (alC s)))
theorem ok_allBytes:FOk Tryz.prog 180 (sp_allBytes std):=FOk.or ok_i_allPrem ok_i_allCell
def sp_i_sizeOk (p:Pr):FSpec:=fsp (a1 aI) (fun n=>True) (fun n=>.b (sizeB n))
theorem ok_i_sizeOk:FOk Tryz.prog 179 (sp_i_sizeOk std):=by
 refine FOk.go (c:=cx std [(83,sp_i_within std)] [] 0) (cx_ok (.cons ok_i_within .nil) .nil) mixed Tryz.func179 rfl rfl rfl (by kernel_rfl) ?_
 rintro n hp
 refine⟨rfl,?_⟩
 unfold sp_i_within
 generalize hP:std=p,hB0:sizeB=B0,hB1:inR=B1
 cbv
 repeat' first
  | (refine fun (_:Unit)=>?_;cbv)
  | (refine aI2 (fun h=>?_) (fun h=>?_)<;>cbv)
  | (refine aI2 ?_ ?_)
  | (refine Or.inl (fun (_:Unit)=>?_);cbv)
 all_goals subst hP hB0 hB1
 all_goals try exact fin
theorem sizeB_in {n:Int} (h:sizeB n=true):5≤n∧n≤15:=by
 unfold sizeB inR at h
 simpa using h
theorem bdB_eq (b:Bd):bdB b=(sizeB b.size&&(decide ((b.prem.length:Int)=b.size*b.size)&&(decide ((b.cells.length:Int)=b.prem.length)&&(alP b.prem&&alC b.cells)))):=by
 unfold bdB alP alC
 by_cases h1:(b.prem.length:Int)=b.size*b.size
 ·by_cases h2:(b.cells.length:Int)=b.prem.length
  ·rw [okFrom_eq _ _ (by omega),decide_eq_true h1,decide_eq_true h2,decide_eq_true (show (b.cells.length:Int)=b.size*b.size by omega)]
  ·rw [decide_eq_false h2,decide_eq_false (show ¬(b.cells.length:Int)=b.size*b.size by omega)];simp
 ·rw [decide_eq_false h1];simp
def sp_i_ValidBoard (p:Pr):FSpec:=fsp (a1 (aA aBd)) (fun b=>BdP b) (fun b=>.b (bdB b))
theorem ok_i_ValidBoard:FOk Tryz.prog 81 (sp_i_ValidBoard std):=by
 refine FOk.go (c:=cx std [(179,sp_i_sizeOk std),(180,sp_allBytes std)] [] 0) (cx_ok (.cons ok_i_sizeOk (.cons ok_allBytes .nil)) .nil) mixed Tryz.func81 rfl rfl rfl (by kernel_rfl) ?_
 rintro b hp
 refine⟨rfl,?_⟩
 unfold sp_i_sizeOk sp_allBytes
 generalize hP:std=p,hB0:bdB=B0,hB1:sizeB=B1,hB2:alC=B2,hB3:alP=B3
 cbv
 repeat' first
  | (refine fun (_:Unit)=>?_;cbv)
  | (refine aI2 (fun h=>?_) (fun h=>?_)<;>cbv)
  | (refine aI2 ?_ ?_)
  | (refine Or.inl (fun (_:Unit)=>?_);cbv)
 all_goals subst hP hB0 hB1 hB2 hB3
 all_goals try exact fin
 ·have h1:=sizeB_in (show sizeB b.size=true by assumption)
  have h2:b.size*b.size≤15*15:=Int.mul_le_mul h1.2 h1.2 (by omega) (by omega)
  have h3:0≤b.size*b.size:=Int.mul_nonneg (by omega) (by omega)
  exact in64 (by show _≤b.size*b.size∧b.size*b.size≤_;omega)
 ·rw [bdB_eq];simp at *;intros;simp_all
 ·exact ltM_of hp.p
 ·exact ltM_of hp.c
 ·show alC b.cells=_
  rw [bdB_eq];simp at *;simp [*]
 ·rw [bdB_eq];simp at *;intros;simp_all
 ·rw [bdB_eq];simp at *;simp [*]
 ·rw [bdB_eq];simp at *;simp [*]
theorem lowU_len {s:List UInt8} (h:std.leP (std.lenS s) 1073741824):(lowU s).length ≤274877906944:=by
 have h1:=low_4 _ s (Nat.le_refl _)
 have h2:(s.length:Int)≤1073741824:=h
 unfold lowU
 omega
def sp_i_isPlaced (p:Pr):FSpec:=fsp (a1 aS) (fun s=>p.leP (p.lenS s) 1073741824) (fun s=>.b (placedB s))
theorem ok_i_isPlaced:FOk Tryz.prog 301 (sp_i_isPlaced std):=by
 refine FOk.go (c:=cx std [(303,sp_toLower std),(246,sp_i_IsWord std)] [] 0) (cx_ok (.cons ok_toLower (.cons ok_i_IsWord .nil)) .nil) mixed Tryz.func301 rfl rfl rfl (by kernel_rfl) ?_
 rintro s hp
 refine⟨rfl,?_⟩
 unfold sp_toLower sp_i_IsWord
 generalize hP:std=p,hB0:lowU=B0,hB1:placedB=B1,hB2:isWordB=B2
 cbv
 repeat' first
  | (refine fun (_:Unit)=>?_;cbv)
  | (refine aI2 (fun h=>?_) (fun h=>?_)<;>cbv)
  | (refine aI2 ?_ ?_)
  | (refine Or.inl (fun (_:Unit)=>?_);cbv)
 all_goals subst hP hB0 hB1 hB2
 all_goals try exact fin
 ·exact ltM_of (lowU_len hp)
 ·rw [←placed_low]
  show _=(isWordB (lowU s)&&_)
  rw [show isWordB (lowU s)=true by assumption,Bool.true_and,Bool.eq_iff_iff,decide_eq_true_eq]
  simp only [sd_eqI,sd_lenS,beq_iff_eq,Int.natCast_inj]
  rfl
 ·rw [←placed_low]
  show (isWordB (lowU s)&&_)=_
  rw [show isWordB (lowU s)=false by assumption];rfl
def sp_i_isMain (p:Pr):FSpec:=fsp (a1 aS) (fun s=>p.leP (p.lenS s) 1073741824) (fun s=>.b (wordB s))
theorem ok_i_isMain:FOk Tryz.prog 256 (sp_i_isMain std):=by
 refine FOk.go (c:=cx std [(301,sp_i_isPlaced std)] [] 0) (cx_ok (.cons ok_i_isPlaced .nil) .nil) mixed Tryz.func256 rfl rfl rfl (by kernel_rfl) ?_
 rintro s hp
 refine⟨rfl,?_⟩
 unfold sp_i_isPlaced
 generalize hP:std=p,hB0:wordB=B0,hB1:placedB=B1
 cbv
 repeat' first
  | (refine fun (_:Unit)=>?_;cbv)
  | (refine aI2 (fun h=>?_) (fun h=>?_)<;>cbv)
  | (refine aI2 ?_ ?_)
  | (refine Or.inl (fun (_:Unit)=>?_);cbv)
 all_goals subst hP hB0 hB1
 all_goals try exact fin
 ·have h1:1<s.length:=by simp at h;omega
  unfold wordB;rw [decide_eq_true h1,Bool.true_and]
 ·have h1 : ¬1<s.length:=by simp at h;omega
  unfold wordB;rw [decide_eq_false h1,Bool.false_and]
end Ax
end Go.Proofs.YtjjonmhpgkahoaaGreatDoor
