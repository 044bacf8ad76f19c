/-
  The plain walker: regions that draw their order (lists of waits, effects laid over one another); A region that draws its order, the second form: what the world is may depend on which operations have been carried out ('S L w', L: which ones), and the operations behind number n are forced by their edges, direct or not; The plain walker: regions that draw their order; The plain walker: a drawn region, step by step in any order; The plain walker: a drawn region, whole.
  Conditions: none; the closed check regCkL of the region's own edges; the closed check drawOk of the region's own edges.
-/
import Derived.Test.YtjjonmhpgkahoaaGreatDoorS06
import Derived.Test.YtjjonmhpgkahoaaGreatDoorS01
set_option linter.unusedSimpArgs false
set_option linter.unusedVariables false
namespace Go.Proofs.YtjjonmhpgkahoaaGreatDoor
namespace Ax
open Go.RowKit RegP
def ovl (L:Nat→Bool):Nat→List AH→AH→AH
 | _,[],h=>h
 | i,x::r,h=>ovl L (i+1) r (if L i then x++h else h)
theorem viewAt_ovl (p:List Nat) : ∀(i:Nat) (effs:List AH) (h:AH),viewAt p i effs h=ovl (p.contains ·) i effs h
 | _,[],_=>rfl
 | i,[]::r,h=>by unfold viewAt ovl;rw [viewAt_ovl p (i+1) r _];congr 1;split<;>rfl
 | i,(q::e)::r,h=>by unfold viewAt ovl;exact viewAt_ovl p (i+1) r _
theorem ovl_take {L:Nat→Bool} : ∀(effs:List AH) (i k:Nat) (h:AH),(∀j,k≤j→L (i+j)=false)→ovl L i (effs.take k) h=ovl L i effs h
 | [],i,k,h,_=>by simp
 | x::r,i,0,h,hL=>by
   have h1 : ∀(r:List AH) (i:Nat) (h:AH),(∀j,L (i+j)=false)→ovl L i r h=h:=by
    intro r
    induction r with
    | nil=>intro i h _;rfl
    | cons y r ih=>
      intro i h hh
      unfold ovl
      rw [if_neg (by have:=hh 0;simpa using this)]
      exact ih (i+1) h fun j=>by have:=hh (j+1);rwa [show i+(j+1)=i+1+j from by omega] at this
   rw [h1 (x::r) i h fun j=>hL j (Nat.zero_le _)]
   rfl
 | x::r,i,k+1,h,hL=>by
   rw [List.take_succ_cons]
   unfold ovl
   exact ovl_take r (i+1) k _ fun j hj=>by have:=hL (j+1) (by omega);rwa [show i+(j+1)=i+1+j from by omega] at this
theorem ovl_agree {L M:Nat→Bool} {id:Nat} : ∀(effs:List AH) (i:Nat) (h h':AH),h.get id=h'.get id→(∀j x,effs[j]? =some x→(x.get id).isSome =true→L (i+j)=M (i+j))→(ovl L i effs h).get id=(ovl M i effs h').get id
 | [],i,h,h',hh,_=>hh
 | x::r,i,h,h',hh,hL=>by
   unfold ovl
   refine ovl_agree r (i+1) _ _ ?_ fun j y hj hy=>by have:=hL (j+1) y (by simpa using hj) hy;rwa [show i+(j+1)=i+1+j from by omega] at this
   have e1 : ∀(b:Bool) (z:AH),AH.get (if b then x++z else z) id=if b then (match x.get id with | some o=>some o | none=>z.get id) else z.get id:=fun b z=>by
    cases b
    ·rfl
    ·exact get_app x z id
   rw [e1,e1]
   cases hx:x.get id with
   | none=>simp [hh]
   | some o=>
     have:=hL 0 x rfl (by rw [hx];rfl)
     rw [Nat.add_zero] at this
     rw [this]
     cases M i<;>simp [hh]
theorem ovl_last {L:Nat→Bool} {id:Nat} {o:Ob} : ∀(effs:List AH) (i k:Nat) (h:AH) (x:AH),effs[k]? =some x→x.get id=some o→L (i+k)=true→(∀j y,k<j→effs[j]? =some y→L (i+j)=true→y.get id=none)→(ovl L i effs h).get id=some o
 | [],i,k,h,x,hk,_,_,_=>by simp at hk
 | y::r,i,0,h,x,hk,hx,hL,hn=>by
   simp at hk
   subst hk
   unfold ovl
   rw [Nat.add_zero] at hL
   rw [if_pos hL]
   have h1 : ∀(r:List AH) (i:Nat) (h:AH),(∀j y,r[j]? =some y→L (i+j)=true→y.get id=none)→(ovl L i r h).get id=h.get id:=by
    intro r
    induction r with
    | nil=>intro i h _;rfl
    | cons z r ih=>
      intro i h hh
      unfold ovl
      rw [ih (i+1) _ fun j y hj hy=>hh (j+1) y (by simpa using hj) (by rw [show i+(j+1)=i+1+j from by omega];exact hy)]
      split
      ·rename_i hLi
       rw [get_app,hh 0 z rfl (by rw [Nat.add_zero];exact hLi)]
      ·rfl
   rw [h1 r (i+1) _ fun j z hj hz=>hn (j+1) z (by omega) (by simpa using hj) (by rw [show i+(j+1)=i+1+j from by omega];exact hz),get_app,hx]
 | y::r,i,k+1,h,x,hk,hx,hL,hn=>by
   unfold ovl
   exact ovl_last r (i+1) k _ x (by simpa using hk) hx (by rw [show i+1+k=i+(k+1) from by omega];exact hL) fun j z hj hz hLz=>hn (j+1) z (by omega) (by simpa using hz) (by rw [show i+(j+1)=i+1+j from by omega];exact hLz)
theorem foldl_ovl : ∀(effs:List AH) (i:Nat) (h:AH),effs.foldl (fun h e=>e++h) h=ovl (fun _=>true) i effs h
 | [],_,_=>rfl
 | x::r,i,h=>by unfold ovl;exact foldl_ovl r (i+1) _
theorem ok_eff {v:PV} {out:Out} (h:ok v=some out):out.eff=[]:=by cases h;rfl
theorem okp_eff {q:List Prop} {v:PV} {out:Out} (h:okp q v=some out):out.eff=[]:=by cases h;rfl
theorem bok_eff {x:Option PV} {out:Out} (h:x.bind ok=some out):out.eff=[]:=by
 obtain⟨v, -,h⟩:=Option.bind_eq_some_iff.1 h
 exact ok_eff h
theorem bin_eff {p:Pr} {op:BinOp} {x y:PV} {out:Out} (h:bin p op x y=some out):out.eff=[]:=by
 unfold bin at h
 split at h
 ·split at h
  ·unfold binI at h
   split at h<;>first | exact ok_eff h | exact okp_eff h | cases h
  ·cases h
 ·unfold binS at h
  split at h<;>first | exact ok_eff h | exact okp_eff h | cases h
 ·cases h
theorem binB_eff {p:Pr} {op:BinOp} {x y:PV} {out:Out} (h:binB p op x y=some out):out.eff=[]:=by
 unfold binB at h
 split at h
 ·exact bok_eff h
 ·obtain⟨v, -,h⟩:=Option.bind_eq_some_iff.1 h
  exact bok_eff h
 ·cases h
theorem aop0_eff {c:Cx} {o:Op} {ρ:Operand→PV} {h:AH} {nx:Nat} {out:Out} (hs:aop0 c o ρ h nx=some out) {id:Nat} (hid:(out.eff.get id).isSome =true):nx≤id∨(h.get id).isSome =true:=by
 have hone : ∀{k:Nat} {x:Ob},(AH.get [(k,x)] id).isSome =true→id=k:=fun {k x} hh=>by
  unfold AH.get at hh
  split at hh
  ·rename_i hk;exact (by simpa using hk:k=id).symm
  ·cases hh
 have hsh : ∀{x:AH},((rnH (mv [] nx) x).get id).isSome =true→nx≤id:=fun {x} hh=>by
  obtain⟨o,ho⟩:=Option.isSome_iff_exists.1 hh
  obtain⟨k',_,rfl,_⟩:=rnH_get ho
  rw [mv_ge (Nat.zero_le _)]
  omega
 unfold aop0 at hs
 split at hs
 case h_4=>split at hs<;>first | (cases hs;done) | (cases hs;exact .inl (Nat.le_of_eq (hone hid).symm))
 case h_5=>split at hs<;>first | (cases hs;done) | (cases hs;exact .inl (Nat.le_of_eq (hone hid).symm))
 case h_7=>
  repeat' (split at hs)
  all_goals first | (cases hs;done) | (cases hs;exact .inl (Nat.le_of_eq (hone hid).symm))
 case h_9 t a x=>
  split at hs
  ·split at hs
   ·rename_i l ty hg
    split at hs
    ·split at hs
     ·cases hs
      have:=hone hid
      subst this
      exact .inr (by rw [hg];rfl)
     ·cases hs
    ·cases hs
   ·cases hs
  ·split at hs
   ·rename_i sh L ty hg
    split at hs
    ·split at hs
     ·split at hs
      ·cases hs
       have:=hone hid
       subst this
       exact .inr (by rw [hg];rfl)
      ·cases hs
     ·cases hs
    ·cases hs
   ·cases hs
  ·cases hs
 case h_20 k=>
  unfold acall at hs
  split at hs
  case h_1=>
   have hno:out.eff=[]:=by
    repeat' (split at hs)
    all_goals first | exact ok_eff hs | cases hs
   rw [hno] at hid
   cases hid
  case h_2 x y t t'=>
   split at hs
   ·split at hs
    ·split at hs
     ·split at hs
      ·cases hs;exact .inl (Nat.le_of_eq (hone hid).symm)
      ·cases hs
     ·split at hs
      ·rename_i sh L ty hg
       split at hs
       ·split at hs
        ·cases hs
         unfold AH.get at hid
         split at hid
         ·rename_i hk
          exact .inl (Nat.le_of_eq (by simpa using hk))
         ·have:=hone hid
          subst this
          exact .inr (by rw [hg];rfl)
        ·cases hs
       ·cases hs
      ·cases hs
     ·cases hs
    ·cases hs
   ·cases hs
  case h_3 f args ts=>
   split at hs
   ·split at hs
    ·rename_i S hS
     simp only at hs
     split at hs
     ·rename_i hcl
      split at hs
      ·cases hs
       generalize reach h 60 (idsL (trims c ts.toList (args.toList.map ρ++_))) []=r at hid hcl
       obtain⟨x,ho⟩:=Option.isSome_iff_exists.1 hid
       obtain⟨k',_,rfl,_⟩:=rnH_get ho
       by_cases hk:k'<r.length
       ·right
        rw [mv_lt hk]
        unfold closed at hcl
        simp only [Bool.and_eq_true,List.all_eq_true] at hcl
        have hm:look r k'∈r:=by
         unfold look
         rw [List.getD_eq_getElem?_getD,List.getElem?_eq_getElem hk]
         exact List.getElem_mem hk
        have:=(hcl.2.1 _ hm).2
        split at this
        ·rename_i hx;rw [hx];rfl
        ·cases this
       ·exact .inl (by rw [mv_ge (Nat.le_of_not_lt hk)];omega)
      ·cases hs
     ·cases hs
    ·split at hs
     ·simp only at hs
      split at hs
      ·split at hs
       ·split at hs
        ·cases hs
        ·split at hs
         ·split at hs
          ·split at hs
           ·cases hs;simp [AH.get] at hid
           ·cases hs
          ·cases hs
         ·cases hs;exact .inl (hsh hid)
       ·cases hs
      ·split at hs
       ·cases hs;exact .inl (hsh hid)
       ·cases hs
     ·cases hs
   ·cases hs
  case h_4=>cases hs
 case h_21=>cases hs
 all_goals
  have hno:out.eff=[]:=by
   repeat' (split at hs)
   all_goals first | exact ok_eff hs | exact okp_eff hs | exact bok_eff hs | exact bin_eff hs | exact binB_eff hs | cases hs
  rw [hno] at hid
  cases hid
theorem aopX_eff {c:Cx} {o:Op} {ρ:Operand→PV} {h:AH} {nx:Nat} {out:Out} (hs:aopX c o ρ h nx=some out) {id:Nat} (hid:(out.eff.get id).isSome =true):nx≤id∨(h.get id).isSome =true:=by
 have hone : ∀{k:Nat} {x:Ob},(AH.get [(k,x)] id).isSome =true→id=k:=fun {k x} hh=>by
  unfold AH.get at hh
  split at hh
  ·rename_i hk;exact (by simpa using hk:k=id).symm
  ·cases hh
 unfold aopX at hs
 split at hs
 case h_6 t a x=>
  repeat' (split at hs)
  all_goals first
   | (cases hs;done)
   | (cases hs
      have:=hone hid
      subst this
      right
      rename_i hg _ _ _ _
      first | (rw [hg];rfl) | simp_all)
 all_goals
  repeat' (split at hs)
  all_goals first
   | (cases hs;done)
   | (cases hs;exact .inl (Nat.le_of_eq (hone hid).symm))
   | (have hno:out.eff=[]:=by first | exact ok_eff hs | exact okp_eff hs
      rw [hno] at hid
      cases hid)
theorem aopY_eff {c:Cx} {o:Op} {ρ:Operand→PV} {h:AH} {nx:Nat} {out:Out} (hs:aopY c o ρ h nx=some out) {id:Nat} (hid:(out.eff.get id).isSome =true):nx≤id∨(h.get id).isSome =true:=by
 have hone : ∀{k:Nat} {x:Ob},(AH.get [(k,x)] id).isSome =true→id=k:=fun {k x} hh=>by
  unfold AH.get at hh
  split at hh
  ·rename_i hk;exact (by simpa using hk:k=id).symm
  ·cases hh
 unfold aopY at hs
 split at hs
 case h_2 x=>
  split at hs
  ·split at hs
   ·rename_i hg
    cases hs
    have:=hone hid
    subst this
    exact .inr (by rw [hg];rfl)
   ·cases hs
  ·cases hs
 case h_8 x args ts=>
  repeat' (split at hs)
  all_goals first
   | (cases hs;done)
   | (cases hs
      obtain⟨x,ho⟩:=Option.isSome_iff_exists.1 hid
      obtain⟨k',_,rfl,_⟩:=rnH_get ho
      exact .inl (by rw [mv_ge (Nat.zero_le _)];omega))
 case h_9 x m args ts=>
  repeat' (split at hs)
  all_goals first
   | (cases hs;done)
   | (cases hs
      obtain⟨x,ho⟩:=Option.isSome_iff_exists.1 hid
      obtain⟨k',_,rfl,_⟩:=rnH_get ho
      exact .inl (by rw [mv_ge (Nat.zero_le _)];omega))
 case h_10 x y t t'=>
  repeat' (split at hs)
  all_goals first
   | (cases hs;done)
   | (cases hs;exact .inl (Nat.le_of_eq (hone hid).symm))
   | (rename_i hg _ _ _ _
      cases hs
      unfold AH.get at hid
      split at hid
      ·rename_i hk
       exact .inl (Nat.le_of_eq (by simpa using hk))
      ·have:=hone hid
       subst this
       exact .inr (by rw [hg];rfl))
 all_goals
  repeat' (split at hs)
  all_goals first
   | (cases hs;done)
   | (cases hs;exact .inl (Nat.le_of_eq (hone hid).symm))
   | (have hno:out.eff=[]:=by first | exact ok_eff hs | exact okp_eff hs
      rw [hno] at hid
      cases hid)
theorem cpyTo_eff {c:Cx} {h:AH} {te k:Nat} {q:Int} {l:List UInt8} {out:Out} (hs:cpyTo c h te k q l=some out) {id:Nat} (hid:(out.eff.get id).isSome =true):(h.get id).isSome =true:=by
 unfold cpyTo at hs
 split at hs
 ·rename_i hg
  split at hs
  ·split at hs
   ·cases hs
    unfold AH.get at hid
    split at hid
    ·rename_i hk
     rw [←(by simpa using hk:k=id),hg];rfl
    ·cases hid
   ·cases hs
  ·cases hs
 ·cases hs
theorem aopZ_eff {c:Cx} {o:Op} {ρ:Operand→PV} {h:AH} {nx:Nat} {out:Out} (hs:aopZ c o ρ h=some out) {id:Nat} (hid:(out.eff.get id).isSome =true):nx≤id∨(h.get id).isSome =true:=by
 have hno : ∀{v:PV} {p:List Prop},some (⟨p,v,[]⟩:Out)=some out→False:=fun hh=>by cases hh;cases hid
 unfold aopZ at hs
 split at hs
 ·split at hs
  ·exact (hno hs).elim
  ·cases hs
 ·repeat' (split at hs)
  all_goals first
   | (cases hs;done)
   | exact (hno hs).elim
 ·repeat' (split at hs)
  all_goals first
   | (cases hs;done)
   | exact .inr (cpyTo_eff hs hid)
 ·split at hs
  ·exact (hno hs).elim
  ·cases hs
 ·cases hs
theorem aopV_eff {c:Cx} {o:Op} {ρ:Operand→PV} {h:AH} {nx:Nat} {out:Out} (hs:aopV c o ρ h nx=some out) {id:Nat} (hid:(out.eff.get id).isSome =true):nx≤id∨(h.get id).isSome =true:=by
 have hno : ∀{v:PV} {p:List Prop},some (⟨p,v,[]⟩:Out)=some out→False:=fun hh=>by cases hh;cases hid
 unfold aopV at hs
 split at hs
 ·repeat' (split at hs)
  all_goals first
   | (cases hs;done)
   | exact (hno hs).elim
 ·repeat' (split at hs)
  all_goals first
   | (cases hs;done)
   | exact (hno hs).elim
 ·split at hs
  ·split at hs
   ·exact (hno hs).elim
   ·cases hs
  ·split at hs
   ·rename_i hg
    cases hs
    unfold AH.get at hid
    split at hid
    ·rename_i hk
     exact .inl (by rw [←(by simpa using hk:nx=id)];exact Nat.le_refl _)
    ·unfold AH.get at hid
     split at hid
     ·rename_i hk
      rw [←(by simpa using hk:_=id),hg]
      exact .inr rfl
     ·cases hid
   ·cases hs
  ·cases hs
 ·split at hs
  ·split at hs
   ·rename_i hg
    split at hs
    ·split at hs
     ·split at hs
      ·cases hs
       unfold AH.get at hid
       split at hid
       ·rename_i hk
        rw [←(by simpa using hk:_=id),hg]
        exact .inr rfl
       ·cases hid
      ·cases hs
     ·cases hs
    ·cases hs
   ·cases hs
  ·cases hs
 ·cases hs
theorem aopU_eff {c:Cx} {o:Op} {ρ:Operand→PV} {out:Out} (hs:aopU c o ρ=some out):out.eff=[]:=by
 unfold aopU binU at hs
 repeat' (split at hs)
 all_goals first | exact okp_eff hs | cases hs
theorem aop_eff {c:Cx} {o:Op} {ρ:Operand→PV} {h:AH} {nx:Nat} {out:Out} (hs:aop c o ρ h nx=some out) {id:Nat} (hid:(out.eff.get id).isSome =true):nx≤id∨(h.get id).isSome =true:=by
 unfold aop at hs
 split at hs
 ·rename_i h1
  cases hs
  rw [aopU_eff h1] at hid
  cases hid
 split at hs
 ·rename_i h1
  cases hs
  exact aopX_eff h1 hid
 ·split at hs
  ·rename_i h1
   cases hs
   exact aopY_eff h1 hid
  ·split at hs
   ·rename_i h1
    cases hs
    exact aop0_eff h1 hid
   ·split at hs
    ·rename_i h1
     cases hs
     exact aopZ_eff h1 hid
    ·exact aopV_eff hs hid
end Ax
namespace RegL
open RegP
section
variable {P:Program} {ops:Array Oper} {Q:Exit→Act→World→Prop} {S:(Nat→Bool)→World→Prop}
def upd (L:Nat→Bool) (i:Nat):Nat→Bool:=fun j=>decide (j=i)||L j
theorem upd_same (L:Nat→Bool) (i:Nat):upd L i i=true:=by simp [upd]
theorem upd_ne (L:Nat→Bool) {i j:Nat} (h:j≠i):upd L i j=L j:=by simp [upd,h]
inductive Anc (ops:Array Oper):Nat→Nat→Prop
 | one {j k:Nat} {o:Oper} : ops[k]? =some o→j∈bindsOn o→Anc ops j k
 | more {j m k:Nat} {o:Oper} : ops[k]? =some o→m∈bindsOn o→Anc ops j m→Anc ops j k
end
section
variable {a b c i:Nat} {W W1 W2 w:World} {L:Nat→Bool}
end
end RegL
namespace Ax
open Go.RowKit RegP RegL
def opCk2 (ops:Array Oper) (cl:List (List Nat)) (i:Nat) (o:Oper):Bool:=
 notSel o&&(bindsOn o).all (fun e=>decide (e<i))&&
 ops.toList.zipIdx.all fun (p,j)=>match p.dst with
  | none=>true
  | some t=>(!(o.looksAt ops).contains t||((bindsOn o).contains j&&decide (j<i)||(cl.getD j []).contains i))&&(decide (j=i)||o.dst !=some t)
def drawOk (ops:Array Oper):Bool:=let cl:=clsGo ops.toList [];ops.toList.zipIdx.all fun (o,i)=>opCk2 ops cl i o
theorem get_cut {T:List Nat} {id:Nat} : ∀(h:AH),(cut T h).get id=if T.contains id then h.get id else none
 | []=>by simp [cut,AH.get]
 | (k,o)::r=>by
   have e1 : ∀(x:AH),AH.get ((k,o)::x) id=if k==id then some o else AH.get x id:=fun _=>rfl
   unfold cut
   cases hk:k==id
   ·split
    ·rw [e1,e1,hk,get_cut r];rfl
    ·rw [e1,hk,get_cut r];rfl
   ·have hk:k=id:=by simpa using hk
    subst hk
    split
    ·rename_i h1;rw [e1,e1];simp
    ·rename_i h1;rw [get_cut r,if_neg h1]
theorem free_ok {ts ps:List (List Nat)} {j:Nat} {ks:List Nat} : ∀{n:Nat},free ts ps j ks n=true→∀i,i<n→i≠j→(∀x∈ts.getD i [],x ∉ ks)∨i∈ps.getD j []∨j∈ps.getD i []
 | 0,_,i,hi,_=>by omega
 | n+1,h,i,hi,hij=>by
   unfold free at h
   rw [Bool.and_eq_true] at h
   by_cases hin:i=n
   ·subst hin
    have h:=h.1
    simp only [Bool.or_eq_true,Nat.beq_eq,hij,false_or,List.all_eq_true,Bool.not_eq_true',List.contains_eq_mem,decide_eq_false_iff_not,decide_eq_true_eq] at h
    exact h
   ·exact free_ok h.2 i (by omega) hij
theorem apart_ok {ts ps:List (List Nat)} : ∀{effs:List AH} {j0:Nat},apart ts ps effs j0=true→∀j x id,effs[j]? =some x→(x.get id).isSome =true→∀i,i<ts.length→i≠j0+j→id∈ts.getD i []→i∈ps.getD (j0+j) []∨(j0+j)∈ps.getD i []
 | [],_,_,j,x,id,hx,_,_,_,_,_=>by simp at hx
 | []::r,j0,h,0,x,id,hx,hid,_,_,_,_=>by simp at hx;subst hx;cases hid
 | []::r,j0,h,j+1,x,id,hx,hid,i,hi,hij,hT=>by
   unfold apart at h
   have:=apart_ok h j x id (by simpa using hx) hid i hi (by omega) hT
   rwa [show j0+1+j=j0+(j+1) from by omega] at this
 | (q::y)::r,j0,h,0,x,id,hx,hid,i,hi,hij,hT=>by
   unfold apart at h
   rw [Bool.and_eq_true] at h
   simp at hx
   subst hx
   have hm:id∈(q::y).map (·.1):=by
    obtain⟨o,ho⟩:=Option.isSome_iff_exists.1 hid
    have : ∀(z:AH),z.get id=some o→id∈z.map (·.1):=by
     intro z
     induction z with
     | nil=>intro hz;cases hz
     | cons c z ihz=>
       obtain⟨k,o'⟩:=c
       intro hz
       unfold AH.get at hz
       split at hz
       ·rename_i hk
        have hk:k=id:=by simpa using hk
        simp [hk]
       ·exact List.mem_cons_of_mem _ (ihz hz)
    exact this _ ho
   rcases free_ok h.1 i hi (by omega) with h1 | h1
   ·exact absurd hm (h1 id hT)
   ·exact h1
 | (q::y)::r,j0,h,j+1,x,id,hx,hid,i,hi,hij,hT=>by
   unfold apart at h
   rw [Bool.and_eq_true] at h
   have:=apart_ok h.2 j x id (by simpa using hx) hid i hi (by omega) hT
   rwa [show j0+1+j=j0+(j+1) from by omega] at this
theorem fold_put_no {t:Nat} : ∀(l:List (Option Nat×PV)) (tm:List PV),(∀d v,(d,v)∈l→d≠some t)→(l.foldl (fun tm x=>put tm x.1 x.2) tm)[t]? =tm[t]?
 | [],_,_=>rfl
 | (d,v)::l,tm,h=>by
   rw [List.foldl_cons,fold_put_no l _ fun d' v' hm=>h d' v' (by simp [hm])]
   have:=h d v (by simp)
   cases d with
   | none=>rfl
   | some d=>simp only [put];rw [List.getElem?_set,if_neg (fun hh=>this (by rw [hh]))]
theorem fold_put_yes {t:Nat} {v:PV} : ∀(l:List (Option Nat×PV)) (tm:List PV),(some t,v)∈l→(∀v',(some t,v')∈l→v'=v)→(l.foldl (fun tm x=>put tm x.1 x.2) tm)[t]? =tm[t]?.map fun _=>v
 | [],_,h,_=>by cases h
 | (d,u)::l,tm,h,hu=>by
   rw [List.foldl_cons]
   by_cases hl:(some t,v)∈l
   ·rw [fold_put_yes l _ hl fun v' hv'=>hu v' (by simp [hv'])]
    cases d with
    | none=>rfl
    | some d=>
      simp only [put,List.getElem?_set]
      split
      ·split
       ·rename_i hd hlt;subst hd;rw [List.getElem?_eq_getElem hlt];rfl
       ·rename_i hd hlt;subst hd;rw [List.getElem?_eq_none (by omega)]
      ·rfl
   ·have he:(some t,v)=(d,u):=by
     rcases List.mem_cons.1 h with h | h
     ·exact h
     ·exact absurd h hl
    cases he
    rw [fold_put_no l _ fun d' v' hm hd'=>by subst hd';have:=hu v' (by simp [hm]);subst this;exact hl hm]
    simp only [put,List.getElem?_set,if_true]
    split
    ·rename_i hlt;rw [List.getElem?_eq_getElem hlt];rfl
    ·rename_i hlt;rw [List.getElem?_eq_none (by omega)];rfl
theorem mem_uniGo {a:Nat} {l:List Nat} {f:List Nat→List Nat} (hf : ∀m x,x∈f m↔x∈l∨x∈m) : ∀{m:List Nat} {x:Nat},x∈uniGo a l f m↔x∈a::l∨x∈m
 | [],x=>by simp [uniGo]
 | b::m,x=>by
   unfold uniGo
   split
   ·rename_i h
    rw [Nat.eq_of_beq_eq_true h,List.mem_cons,hf,List.mem_cons,List.mem_cons]
    constructor
    ·rintro (h1 | h1 | h1)
     ·exact .inl (.inl h1)
     ·exact .inl (.inr h1)
     ·exact .inr (.inr h1)
    ·rintro ((h1 | h1) | h1 | h1)
     ·exact .inl h1
     ·exact .inr (.inl h1)
     ·exact .inl h1
     ·exact .inr (.inr h1)
   ·split
    ·rw [List.mem_cons,mem_uniGo hf,List.mem_cons,List.mem_cons]
     constructor
     ·rintro (h1 | h1 | h1)
      ·exact .inr (.inl h1)
      ·exact .inl h1
      ·exact .inr (.inr h1)
     ·rintro (h1 | h1 | h1)
      ·exact .inr (.inl h1)
      ·exact .inl h1
      ·exact .inr (.inr h1)
    ·rw [List.mem_cons,hf,List.mem_cons (a:=x) (b:=a)]
     constructor
     ·rintro (h1 | h1 | h1)
      ·exact .inl (.inl h1)
      ·exact .inl (.inr h1)
      ·exact .inr h1
     ·rintro ((h1 | h1) | h1)
      ·exact .inl h1
      ·exact .inr (.inl h1)
      ·exact .inr (.inr h1)
theorem mem_uni : ∀{a l:List Nat} {x:Nat},x∈uni a l↔x∈a∨x∈l
 | [],l,x=>by simp [uni]
 | a::r,l,x=>by
   unfold uni
   exact mem_uniGo fun m y=>mem_uni
theorem mem_unis {ps:List (List Nat)} : ∀{es:List Edge} {l:List Nat} {x:Nat},x∈unis ps es l↔x∈l∨∃e∈es,Region.binds .any e=true∧(x=e.on∨x∈ps.getD e.on [])
 | [],l,x=>by simp [unis]
 | e::es,l,x=>by
   unfold unis
   rw [mem_unis]
   split
   ·rename_i hb
    rw [mem_uni,List.mem_cons]
    constructor
    ·rintro ((h1 | h1) | ⟨e',h1,h2⟩)
     ·exact .inr ⟨e,List.mem_cons_self,hb,h1⟩
     ·exact .inl h1
     ·exact .inr ⟨e',List.mem_cons_of_mem _ h1,h2⟩
    ·rintro (h1 | ⟨e',h1,h2,h3⟩)
     ·exact .inl (.inr h1)
     ·rcases List.mem_cons.1 h1 with rfl | h1
      ·exact .inl (.inl h3)
      ·exact .inr ⟨e',h1,h2,h3⟩
   ·rename_i hb
    constructor
    ·rintro (h1 | ⟨e',h1,h2⟩)
     ·exact .inl h1
     ·exact .inr ⟨e',List.mem_cons_of_mem _ h1,h2⟩
    ·rintro (h1 | ⟨e',h1,h2,h3⟩)
     ·exact .inl h1
     ·rcases List.mem_cons.1 h1 with rfl | h1
      ·exact absurd h2 hb
      ·exact .inr ⟨e',h1,h2,h3⟩
theorem mem_closure {ps:List (List Nat)} {o:Oper} {x:Nat} : x∈closure ps o↔∃e∈o.after.toList,Region.binds .any e=true∧(x=e.on∨x∈ps.getD e.on []):=by
 unfold closure
 rw [mem_unis]
 simp
theorem clsGo_get : ∀(l:List Oper) (ps:List (List Nat)) (i:Nat) (o:Oper),l[i]? =some o→(clsGo l ps).getD (ps.length+i) []=closure ((clsGo l ps).take (ps.length+i)) o
 | [],ps,i,o,h=>by simp at h
 | x::l,ps,0,o,h=>by
   simp at h
   subst h
   have h1 : ∀(l:List Oper) (qs:List (List Nat)),∃rs,clsGo l qs=qs++rs:=by
    intro l
    induction l with
    | nil=>intro qs;exact⟨[],by simp [clsGo]⟩
    | cons y l ih=>intro qs;obtain⟨rs,h⟩:=ih (qs++[closure qs y]);exact⟨closure qs y::rs,by rw [clsGo,h];simp⟩
   rw [clsGo]
   obtain⟨rs,hrs⟩:=h1 l (ps++[closure ps x])
   rw [hrs,Nat.add_zero]
   simp [List.getD_eq_getElem?_getD]
 | x::l,ps,i+1,o,h=>by
   rw [clsGo]
   have:=clsGo_get l (ps++[closure ps x]) i o (by simpa using h)
   rw [List.length_append,List.length_singleton] at this
   rwa [show ps.length+(i+1)=ps.length+1+i from by omega]
section
variable {ops:Array Oper}
theorem cl_mem (hlt : ∀i o,ops[i]? =some o→∀e∈bindsOn o,e<i) {i:Nat} {o:Oper} (ho:ops[i]? =some o) {j:Nat} : j∈(clsGo ops.toList []).getD i []↔∃e∈bindsOn o,j=e∨j∈(clsGo ops.toList []).getD e []:=by
 have h:=clsGo_get ops.toList [] i o (by simpa using ho)
 rw [List.length_nil,Nat.zero_add] at h
 rw [h]
 rw [mem_closure]
 have hg : ∀e,e<i→((clsGo ops.toList []).take i).getD e []=(clsGo ops.toList []).getD e []:=fun e he=>by
  rw [List.getD_eq_getElem?_getD,List.getD_eq_getElem?_getD,List.getElem?_take,if_pos he]
 constructor
 ·rintro ⟨x,hx,hb,hj⟩
  have hm:x.on∈bindsOn o:=mem_bindsOn.2 ⟨x,by simpa using hx,hb,rfl⟩
  rw [hg _ (hlt i o ho _ hm)] at hj
  exact⟨x.on,hm,hj⟩
 ·rintro ⟨e,he,hj⟩
  obtain⟨x,hx,hb,rfl⟩:=mem_bindsOn.1 he
  exact⟨x,by simpa using hx,hb,by rw [hg _ (hlt i o ho _ he)];exact hj⟩
theorem cl_lt (hlt : ∀i o,ops[i]? =some o→∀e∈bindsOn o,e<i) : ∀(i j:Nat),j∈(clsGo ops.toList []).getD i []→j<i∧i<ops.size:=by
 intro i
 induction i using Nat.strongRecOn with
 | _ i ih=>
   intro j hj
   by_cases hi:i<ops.size
   ·have ho:ops[i]? =some ops[i]:=Array.getElem?_eq_getElem hi
    obtain⟨e,he,h⟩:=(cl_mem hlt ho).1 hj
    have:=hlt i _ ho e he
    refine⟨?_,hi⟩
    rcases h with rfl | h
    ·exact this
    ·have:=(ih e this j h).1;omega
   ·exfalso
    have hlen : ∀(l:List Oper) (ps:List (List Nat)),(clsGo l ps).length =ps.length+l.length:=by
     intro l
     induction l with
     | nil=>intro ps;simp [clsGo]
     | cons x l ihl=>intro ps;rw [clsGo,ihl];simp;omega
    rw [List.getD_eq_getElem?_getD,List.getElem?_eq_none (by rw [hlen];simp;omega)] at hj
    cases hj
theorem cl_listed (hlt : ∀i o,ops[i]? =some o→∀e∈bindsOn o,e<i) {L:Nat→Bool} (hc : ∀i o,ops[i]? =some o→L i=true→∀e∈bindsOn o,L e=true) : ∀(i j:Nat),(∀o,ops[i]? =some o→∀e∈bindsOn o,L e=true)→j∈(clsGo ops.toList []).getD i []→L j=true:=by
 intro i
 induction i using Nat.strongRecOn with
 | _ i ih=>
   intro j hb hj
   have hi:=(cl_lt hlt i j hj).2
   have ho:ops[i]? =some ops[i]:=Array.getElem?_eq_getElem hi
   obtain⟨e,he,h⟩:=(cl_mem hlt ho).1 hj
   have hLe:=hb _ ho e he
   rcases h with rfl | h
   ·exact hLe
   ·exact ih e (hlt i _ ho e he) j (fun o' ho'=>hc e o' ho' hLe) h
end
structure Inv (g:Rg) (ops:Array Oper) (tm0:List PV) (nx0:Nat) (w0:World) (fz:Nat→Prop) (M:Root) (vals:List PV) (effs:List AH) (nxs:List Nat) (L:Nat→Bool) (a:Act) (w:World) (e:Env):Prop where
 size:a.tmps.size=tm0.length
 yes : ∀(j:Nat) (o:Oper) (t:Nat) (v:PV),ops[j]? =some o→o.dst=some t→L j=true→vals[j]? =some v→t<tm0.length→R w e v (a.tmps.getD t undef)
 no : ∀(t:Nat) (p:PV),(∀(j:Nat) (o:Oper),ops[j]? =some o→o.dst=some t→L j=false)→tm0[t]? =some p→R w e p (a.tmps.getD t undef)
 ob : ∀id o,(ovl L 0 effs g.h0).get id=some o→OR w e id o∧e.on id∧(o.gn=false→e.lv id)
 lo : ∀k,e.lv k→e.on k
 on : ∀id,e.on id→id<nx0∨∃j,j<vals.length∧L j=true∧nxs.getD j 0≤id∧id<nxs.getD (j+1) 0
 dis : ∀k k' b,e.lv k→e.lv k'→e.blk k b→e.blk k' b→k=k'
 bd : ∀k b,e.lv k→e.blk k b→(w0.heap.size≤b∨M b)∧b<w.heap.size
 ez:FzS w0 w fz e
 fzb:FzB w0 fz M
 low:Chg M w0 w
 root : ∀k,k<M.n→M.e.on k→e.on k∧e.adr k=M.e.adr k∧e.cap k=M.e.cap k∧e.len k=M.e.len k
 defers:a.defers=M.d
structure Fx (P:Program) (g:Rg) (ops:Array Oper) (tm0:List PV) (nx0:Nat) (vals:List PV) (effs:List AH) (nxs:List Nat) (ts:List (List Nat)):Prop where
 hc:CxOk P g.c
 dst:g.dsts=ops.toList.map (·.dst)
 ck : ∀i o,ops[i]? =some o→opCk2 ops (clsGo ops.toList []) i o=true
 ap:apart ts (clsGo ops.toList []) effs 0=true
 len:vals.length=ops.size
 tr:Tr g ops.toList tm0 nx0 (clsGo ops.toList []) vals effs nxs ts
section
variable {P:Program} {g:Rg} {ops:Array Oper} {tm0:List PV} {nx0:Nat} {w0 w:World} {fz:Nat→Prop} {M:Root} {vals:List PV} {effs:List AH} {nxs:List Nat} {ts:List (List Nat)} {L:Nat→Bool} {a:Act} {e:Env}
theorem Fx.lt (h:Fx P g ops tm0 nx0 vals effs nxs ts) : ∀i o,ops[i]? =some o→∀e∈bindsOn o,e<i:=fun i o ho e he=>by
 have:=h.ck i o ho
 simp only [opCk2,Bool.and_eq_true,List.all_eq_true,decide_eq_true_eq] at this
 exact this.1.2 e he
theorem Fx.dep (h:Fx P g ops tm0 nx0 vals effs nxs ts) {i j t:Nat} {o oj:Oper} (ho:ops[i]? =some o) (hj:ops[j]? =some oj) (hd:oj.dst=some t) (ht:t∈o.looksAt ops):(j∈bindsOn o∧j<i)∨i∈(clsGo ops.toList []).getD j []:=by
 have:=h.ck i o ho
 simp only [opCk2,Bool.and_eq_true,List.all_eq_true] at this
 have h2:=this.2 (oj,j) (List.mem_zipIdx_iff_getElem?.2 (by simpa using hj))
 simp only [hd,Bool.and_eq_true,Bool.or_eq_true,Bool.not_eq_true',List.contains_eq_mem,decide_eq_true_eq,decide_eq_false_iff_not] at h2
 rcases h2.1 with h3 | h3
 ·exact absurd ht h3
 ·exact h3
theorem Fx.uniq (h:Fx P g ops tm0 nx0 vals effs nxs ts) {i j t:Nat} {oi oj:Oper} (hi:ops[i]? =some oi) (hj:ops[j]? =some oj) (hdi:oi.dst=some t) (hdj:oj.dst=some t):i=j:=by
 have:=h.ck i oi hi
 simp only [opCk2,Bool.and_eq_true,List.all_eq_true] at this
 have h2:=this.2 (oj,j) (List.mem_zipIdx_iff_getElem?.2 (by simpa using hj))
 simp only [hdj,Bool.and_eq_true,Bool.or_eq_true,decide_eq_true_eq] at h2
 rcases h2.2 with e | e
 ·exact e.symm
 ·simp [hdi] at e
theorem Fx.step (h:Fx P g ops tm0 nx0 vals effs nxs ts) {i:Nat} {o:Oper} (ho:ops[i]? =some o):StepOk g tm0 (clsGo ops.toList []) vals effs nxs ts i o:=
 h.tr.step i o (by rw [h.len];exact (Array.getElem?_eq_some_iff.1 ho).1) (by simpa using ho)
theorem Fx.nxs_le (h:Fx P g ops tm0 nx0 vals effs nxs ts) {i:Nat} (hi:i<ops.size):nxs.getD i 0≤nxs.getD (i+1) 0:=by
 have ho:ops[i]? =some ops[i]:=Array.getElem?_eq_getElem hi
 rcases h.step ho with ⟨out,tm, -, -, -, -,h5, -⟩ | ⟨-, -,h5, -⟩
 ·rw [List.getD_eq_getElem?_getD (i:=i+1),h5];exact newIds_le _ _
 ·rw [List.getD_eq_getElem?_getD (i:=i+1),h5];exact Nat.le_refl _
theorem Fx.nxs_mono (h:Fx P g ops tm0 nx0 vals effs nxs ts) : ∀{i j:Nat},i≤j→j≤ops.size→nxs.getD i 0≤nxs.getD j 0:=by
 intro i j hij
 obtain⟨d,rfl⟩:=Nat.exists_eq_add_of_le hij
 clear hij
 induction d with
 | zero=>intro _;exact Nat.le_refl _
 | succ d ih=>intro hj;exact Nat.le_trans (ih (by omega)) (h.nxs_le (by omega))
theorem Fx.eff (h:Fx P g ops tm0 nx0 vals effs nxs ts) {i:Nat} {x:AH} {id:Nat} (hx:effs[i]? =some x) (hid:(x.get id).isSome =true):i<ops.size∧id<nxs.getD (i+1) 0∧(nxs.getD i 0≤id∨id∈ts.getD i []):=by
 have hi:i<ops.size:=by rw [←h.len,←h.tr.lenE];exact (List.getElem?_eq_some_iff.1 hx).1
 have ho:ops[i]? =some ops[i]:=Array.getElem?_eq_getElem hi
 refine⟨hi,?_⟩
 rcases h.step ho with ⟨out,tm,h1,h2,h3,h4,h5,h6⟩ | ⟨h3,h4,h5,h6⟩
 ·rw [hx] at h4
  cases h4
  refine⟨?_,(aop_eff h1 hid).imp_right fun h7=>?_⟩
  ·rw [List.getD_eq_getElem?_getD,h5];exact newIds_lt hid
  ·rw [get_cut] at h7
   split at h7
   ·rename_i h8;simpa using h8
   ·cases h7
 ·rw [hx] at h4
  cases h4
  cases hid
theorem Fx.apart (h:Fx P g ops tm0 nx0 vals effs nxs ts) {i j id:Nat} {y:AH} (hi:i<ops.size) (hT:id∈ts.getD i []) (hy:effs[j]? =some y) (h2:(y.get id).isSome =true) (hij:i≠j) :
 i∈(clsGo ops.toList []).getD j []∨j∈(clsGo ops.toList []).getD i []:=by
 have:=apart_ok h.ap j y id hy h2 i (by rw [h.tr.lenT,h.len];exact hi) (by omega) hT
 rwa [Nat.zero_add] at this
theorem Fx.far (h:Fx P g ops tm0 nx0 vals effs nxs ts) {i j id:Nat} (hi:i<ops.size) (hj:j<ops.size) (h1:nxs.getD i 0≤id) (h2:id<nxs.getD (i+1) 0) (h3:nxs.getD j 0≤id) (h4:id<nxs.getD (j+1) 0):i=j:=by
 rcases Nat.lt_trichotomy i j with hlt | rfl | hlt
 ·have:=h.nxs_mono (i:=i+1) (j:=j) hlt (by omega);omega
 ·rfl
 ·have:=h.nxs_mono (i:=j+1) (j:=i) hlt (by omega);omega
theorem Fx.order (h:Fx P g ops tm0 nx0 vals effs nxs ts) {i j id:Nat} {x y:AH} (hx:effs[i]? =some x) (hy:effs[j]? =some y) (h1:(x.get id).isSome =true) (h2:(y.get id).isSome =true) (hij:i≠j) :
 i∈(clsGo ops.toList []).getD j []∨j∈(clsGo ops.toList []).getD i []:=by
 obtain⟨hi,hli,hni⟩:=h.eff hx h1
 obtain⟨hj,hlj,hnj⟩:=h.eff hy h2
 rcases hni with hni | hni
 ·rcases hnj with hnj | hnj
  ·exact absurd (h.far hi hj hni hli hnj hlj) hij
  ·exact (h.apart hj hnj hx h1 (Ne.symm hij)).symm
 ·exact h.apart hi hni hy h2 hij
theorem Fx.seen (h:Fx P g ops tm0 nx0 vals effs nxs ts) {i:Nat} {o:Oper} (ho:ops[i]? =some o) (hLi:L i=false) (hcl : ∀j∈(clsGo ops.toList []).getD i [],L j=true) (hback : ∀j,L j=true→i ∉ (clsGo ops.toList []).getD j [])
 {id:Nat} {ob:Ob} (hg:(cut (ts.getD i []) (viewAt ((clsGo ops.toList []).getD i []) 0 (effs.take i) g.h0)).get id=some ob):(ovl L 0 effs g.h0).get id=some ob:=by
 rw [get_cut] at hg
 split at hg
 case isFalse=>cases hg
 case isTrue hT=>
 have hT:id∈ts.getD i []:=by simpa using hT
 rw [viewAt_ovl,ovl_take _ _ _ _ (fun j hj=>by
  rw [Nat.zero_add]
  cases hc:((clsGo ops.toList []).getD i []).contains j with
  | false=>rfl
  | true=>have:=(cl_lt h.lt i j (by simpa using hc)).1;omega)] at hg
 rw [←hg]
 refine (ovl_agree effs 0 g.h0 g.h0 rfl fun j x hx hs=>?_).symm
 simp only [Nat.zero_add]
 cases hc:((clsGo ops.toList []).getD i []).contains j with
 | true=>exact (hcl j (by simpa using hc)).symm
 | false=>
   cases hLj:L j with
   | false=>rfl
   | true=>
     exfalso
     have hnc:j ∉ (clsGo ops.toList []).getD i []:=by simpa using hc
     have hij:i≠j:=fun hh=>by subst hh;rw [hLi] at hLj;cases hLj
     rcases h.apart (Array.getElem?_eq_some_iff.1 ho).1 hT hx hs hij with h3 | h3
     ·exact hback j hLj h3
     ·exact hnc h3
end
end Ax
namespace Ax
open Go.RowKit RegP RegL
section
variable {P:Program} {g:Rg} {ops:Array Oper} {tm0:List PV} {nx0:Nat} {w0 w:World} {fz:Nat→Prop} {M:Root} {vals:List PV} {effs:List AH} {nxs:List Nat} {ts:List (List Nat)} {L:Nat→Bool} {a:Act} {e:Env}
theorem Inv.tv (h:Fx P g ops tm0 nx0 vals effs nxs ts) (hv:Inv g ops tm0 nx0 w0 fz M vals effs nxs L a w e) {i:Nat} {o:Oper} (ho:ops[i]? =some o) (hb : ∀j∈bindsOn o,L j=true) (hback : ∀j,L j=true→i ∉ (clsGo ops.toList []).getD j []) {t:Nat} (ht:t∈o.looksAt ops) :
 ∀p,(TV g.dsts tm0 (vals.take i))[t]? =some p→R w e p (a.tmps.getD t undef):=by
 intro p hp
 unfold TV at hp
 have hmem : ∀(d:Option Nat) (v:PV),(d,v)∈g.dsts.zip (vals.take i)→∃j oj,j<i∧ops[j]? =some oj∧oj.dst=d∧vals[j]? =some v:=fun d v hm=>by
  obtain⟨j,hj⟩:=List.mem_iff_getElem?.1 hm
  rw [List.getElem?_zip_eq_some] at hj
  obtain⟨h1,h2⟩:=hj
  rw [h.dst,List.getElem?_map] at h1
  obtain⟨oj,h3,h4⟩:=Option.map_eq_some_iff.1 h1
  rw [List.getElem?_take] at h2
  split at h2
  ·rename_i hji;exact⟨j,oj,hji,by simpa using h3,h4,h2⟩
  ·cases h2
 by_cases hex : ∃(j:Nat) (oj:Oper),ops[j]? =some oj∧oj.dst=some t
 ·obtain⟨j,oj,hoj,hdj⟩:=hex
  rcases h.dep ho hoj hdj ht with ⟨hjb,hji⟩ | hij
  case inr=>
   rw [fold_put_no (t:=t)] at hp
   ·refine hv.no t p (fun j' oj' h1 h2=>?_) hp
    have:=h.uniq h1 hoj h2 hdj
    subst this
    cases hL:L j' with
    | false=>rfl
    | true=>exact absurd hij (hback j' hL)
   ·intro d v hm hd
    obtain⟨j',oj',h1,h2,h3, -⟩:=hmem _ _ hm
    have:=h.uniq h2 hoj (by rw [h3,hd]) hdj
    subst this
    have:=(cl_lt h.lt j' i hij).1
    omega
  have hjl:j<vals.length:=by rw [h.len];exact (Array.getElem?_eq_some_iff.1 hoj).1
  have hvj:vals[j]? =some vals[j]:=List.getElem?_eq_getElem hjl
  rw [fold_put_yes (t:=t) (v:=vals[j])] at hp
  ·obtain⟨q,hq,rfl⟩:=Option.map_eq_some_iff.1 hp
   exact hv.yes j oj t _ hoj hdj (hb j hjb) hvj (List.getElem?_eq_some_iff.1 hq).1
  ·refine List.mem_iff_getElem?.2 ⟨j,?_⟩
   rw [List.getElem?_zip_eq_some]
   exact⟨by rw [h.dst,List.getElem?_map,Array.getElem?_toList,hoj];exact congrArg some hdj,by rw [List.getElem?_take,if_pos hji];exact hvj⟩
  ·intro v' hm
   obtain⟨j',oj', -,h2,h3,h4⟩:=hmem _ _ hm
   have:=h.uniq h2 hoj h3 hdj
   subst this
   rw [hvj] at h4
   cases h4
   rfl
 ·rw [fold_put_no (t:=t)] at hp
  ·exact hv.no t p (fun j oj h1 h2=>absurd ⟨j,oj,h1,h2⟩ hex) hp
  ·intro d v hm hd
   obtain⟨j',oj', -,h2,h3, -⟩:=hmem _ _ hm
   exact hex ⟨j',oj',h2,by rw [h3,hd]⟩
theorem TV_len (dsts:List (Option Nat)) (tm0 vals:List PV):(TV dsts tm0 vals).length =tm0.length:=by
 unfold TV
 generalize dsts.zip vals=l
 induction l generalizing tm0 with
 | nil=>rfl
 | cons x l ih=>rw [List.foldl_cons,ih,put_len]
theorem Inv.guard (h:Fx P g ops tm0 nx0 vals effs nxs ts) (hv:Inv g ops tm0 nx0 w0 fz M vals effs nxs L a w e) {i:Nat} {o:Oper} (ho:ops[i]? =some o) (hb : ∀j∈bindsOn o,L j=true) (hback : ∀j,L j=true→i ∉ (clsGo ops.toList []).getD j []) {b:Bool} (hg:GuardIs g.dsts o (TV g.dsts tm0 (vals.take i)) b) :
 Region.wanted o (yielded ops a.tmps)=b:=by
 unfold GuardIs at hg
 unfold Region.wanted
 split at hg
 ·rename_i hgd;rw [hgd];exact hg.symm
 ·rename_i k want hgd
  rw [hgd]
  obtain⟨t,hk,hh⟩:=hg
  have hlook:t∈o.looksAt ops:=by
   have : (ops[k]?).bind (·.dst)=some t:=by
    rw [h.dst,List.getD_eq_getElem?_getD,List.getElem?_map,Array.getElem?_toList] at hk
    cases hok:ops[k]? with
    | none=>rw [hok] at hk;cases hk
    | some o=>rw [hok] at hk;exact hk
   unfold Oper.looksAt
   rw [hgd]
   simp [this]
  have hat : ∀p:PV,(TV g.dsts tm0 (vals.take i)).getD t .dead =p→p≠.dead →∃u,a.tmps[t]? =some u∧R w e p u:=fun p hp hd=>by
   rw [List.getD_eq_getElem?_getD] at hp
   cases ht:(TV g.dsts tm0 (vals.take i))[t]? with
   | none=>rw [ht] at hp;exact absurd hp.symm hd
   | some q=>
     rw [ht] at hp
     simp only [Option.getD_some] at hp
     subst hp
     have hlt:t<a.tmps.size:=by rw [hv.size,←TV_len g.dsts tm0 (vals.take i)];exact (List.getElem?_eq_some_iff.1 ht).1
     refine⟨a.tmps[t],Array.getElem?_eq_getElem hlt,?_⟩
     have:=hv.tv h ho hb hback hlook q ht
     rwa [Array.getD_eq_getD_getElem?,Array.getElem?_eq_getElem hlt] at this
  have hy:=yield_at h.dst hk a.tmps
  simp only [hy]
  rcases hh with ⟨x,hx,rfl⟩ | ⟨hx,rfl⟩
  ·obtain⟨u,h1,h2⟩:=hat _ rfl (fun hh=>by rw [hh] at hx;cases hx)
   rw [isB_ok hx] at h2
   subst h2
   rw [h1]
   cases x<;>cases want<;>rfl
  ·obtain⟨u,h1,h2⟩:=hat _ rfl (fun hh=>by rw [hx] at hh;cases hh)
   rw [hx] at h2
   unfold R at h2
   obtain⟨vs,rfl, -⟩:=h2
   rw [h1]
   rfl
theorem Inv.put (h:Fx P g ops tm0 nx0 vals effs nxs ts) (hv:Inv g ops tm0 nx0 w0 fz M vals effs nxs L a w e) {i:Nat} {o:Oper} (ho:ops[i]? =some o) {v:PV} (hvi:vals[i]? =some v) {u:Value} {w':World} {e':Env}
 (hm : ∀p x,R w e p x→R w' e' p x) (hu:R w' e' v u):(a.put o.dst u).tmps.size =tm0.length∧(a.put o.dst u).defers =M.d∧
 (∀(j:Nat) (oj:Oper) (t:Nat) (v:PV),ops[j]? =some oj→oj.dst=some t→upd L i j=true→vals[j]? =some v→t<tm0.length→R w' e' v ((a.put o.dst u).tmps.getD t undef))∧
 (∀(t:Nat) (p:PV),(∀(j:Nat) (oj:Oper),ops[j]? =some oj→oj.dst=some t→upd L i j=false)→tm0[t]? =some p→R w' e' p ((a.put o.dst u).tmps.getD t undef)):=by
 have hgd : ∀t:Nat,t<tm0.length→(a.put o.dst u).tmps.getD t undef=if o.dst=some t then u else a.tmps.getD t undef:=fun t ht=>by
  rw [Array.getD_eq_getD_getElem?,RegP.put_get,Array.getD_eq_getD_getElem?]
  split
  ·rw [Array.getElem?_eq_getElem (by rw [hv.size];exact ht)];rfl
  ·rfl
 refine⟨by rw [RegP.put_size];exact hv.size,by rw [RegP.put_defers'];exact hv.defers,fun j oj t v' hoj hdj hL hvj ht=>?_,fun t p hno hp=>?_⟩
 ·rw [hgd t ht]
  by_cases hji:j=i
  ·subst hji
   rw [ho] at hoj;cases hoj
   rw [hvi] at hvj;cases hvj
   rw [if_pos hdj]
   exact hu
  ·rw [if_neg fun hd=>hji (h.uniq hoj ho hdj hd)]
   rw [upd_ne L hji] at hL
   exact hm _ _ (hv.yes j oj t v' hoj hdj hL hvj ht)
 ·have ht:=(List.getElem?_eq_some_iff.1 hp).1
  rw [hgd t ht]
  rw [if_neg fun hd=>by have:=hno i o ho hd;rw [upd_same] at this;cases this]
  refine hm _ _ (hv.no t p (fun j oj h1 h2=>?_) hp)
  have:=hno j oj h1 h2
  by_cases hji:j=i
  ·subst hji;rw [upd_same] at this;cases this
  ·rwa [upd_ne L hji] at this
theorem Inv.step (h:Fx P g ops tm0 nx0 vals effs nxs ts) (hv:Inv g ops tm0 nx0 w0 fz M vals effs nxs L a w e) {i:Nat} {o:Oper} (ho:ops[i]? =some o) (hLi:L i=false) (hb : ∀j∈bindsOn o,L j=true)
 (hcl : ∀j oj,ops[j]? =some oj→L j=true→∀k∈bindsOn oj,L k=true) {Q:Exit→Act→World→Prop} {K:Act→World→Prop} (hK : ∀a' w' e',Inv g ops tm0 nx0 w0 fz M vals effs nxs (upd L i) a' w' e'→K a' w'):wpOp P ops Q i K a w:=by
 have hlist : ∀j∈(clsGo ops.toList []).getD i [],L j=true:=fun j hj=>cl_listed h.lt hcl i j (fun o' ho'=>by rw [ho] at ho';cases ho';exact hb) hj
 have hback : ∀j,L j=true→i ∉ (clsGo ops.toList []).getD j []:=fun j hj hi=>by
  have:=cl_listed h.lt hcl j i (fun o' ho'=>hcl j o' ho' hj) hi
  rw [hLi] at this
  cases this
 have hi:i<ops.size:=(Array.getElem?_eq_some_iff.1 ho).1
 unfold wpOp
 simp only [ho]
 rcases h.step ho with ⟨out,tm,h1,h2,h3,h4,h5,h6,h7⟩ | ⟨h3,h4,h5,h7⟩
 ·rw [if_pos (hv.guard h ho hb hback h7)]
  refine .inl (wp_never ?_)
  have hρ : ∀x∈o.op.operands,R w e (ev tm x) (a.eval x):=fun x hx=>by
   cases x with
   | tmp t=>
     have ht:t∈o.looksAt ops:=List.mem_append_left _ (List.mem_filterMap.2 ⟨.tmp t,by simpa using hx,rfl⟩)
     show R w e (tm.getD t .dead) (a.tmps.getD t undef)
     have he:=h6.getD t
     rw [he.R,List.getD_eq_getElem?_getD]
     cases hp:(TV g.dsts tm0 (vals.take i))[t]? with
     | none=>simp only [Option.getD_none];unfold R;trivial
     | some p=>exact hv.tv h ho hb hback ht p hp
   | const v=>exact R_const v
   | global g=>unfold ev R;trivial
   | func f=>unfold ev R;exact⟨#[],rfl,by unfold Rs;rfl⟩
  have hzw:FzW w e.fz:=hv.ez.fw hv.fzb hv.low
  have hz:=hzw.lt
  have hn1:nxs.getD (i+1) 0=newIds (nxs.getD i 0) out.eff:=by rw [List.getD_eq_getElem?_getD,h5];rfl
  have hn0:nx0≤nxs.getD i 0:=by have:=h.nxs_mono (Nat.zero_le i) (by omega);rwa [h.tr.st] at this
  have hfresh : ∀k,nxs.getD i 0≤k→(out.eff.get k).isSome =true→¬e.on k:=fun k hk hs hon=>by
   have hlt:k<nxs.getD (i+1) 0:=by rw [hn1];exact newIds_lt hs
   rcases hv.on k hon with h8 | ⟨j,hj,hLj,h8,h9⟩
   ·omega
   ·have : i=j:=h.far hi (by rw [←h.len];exact hj) hk hlt h8 h9
    subst this
    rw [hLi] at hLj
    cases hLj
  have hdone:Done P o a w e (nxs.getD i 0) out:=aop_ok h.hc h1 h2 hρ ⟨fun id o' hid=>hv.ob id o' (h.seen ho hLi hlist hback hid),hzw,hv.dis⟩ hfresh
  refine Oper.wp_mono ?_ hdone
  intro a' w' hpost
  obtain⟨u,e',rfl,hp⟩:=hpost
  have hlowblk : ∀b,b<w0.heap.size→¬M b→w'.heap[b]? =w.heap[b]? :=fun b hb' hM=>hp.chg.block b (Nat.lt_of_lt_of_le hb' hv.low.size) fun ⟨k,hk,_,hkb⟩=>by
   rcases (hv.bd k b hk hkb).1 with q | q
   ·omega
   ·exact hM q
  have hsame:Same e.fz w w':=hv.ez.same hz hp
  obtain⟨p1,p2,p3,p4⟩:=hv.put h ho h3 (fun p x=>R_mono hsame hp.le p x) hp.val
  obtain⟨hd',hb''⟩:=hp.keep (X:=fun b=>w0.heap.size≤b∨M b) (fun b hb=>.inl (Nat.le_trans hv.low.size hb)) hv.lo hv.dis hv.bd
  refine hK _ w' e' ⟨p1,p3,p4,?_,hp.lo hv.lo,?_,hd',hb'',hv.ez.post hz hv.low.size hv.lo (fun k b q r=>(hv.bd k b q r).2) hp,hv.fzb,⟨hp.chg.os.trans hv.low.os,hp.chg.tape.trans hv.low.tape,hp.chg.output.trans hv.low.output,Nat.le_trans hv.low.size hp.chg.size,fun b hb hM=>(hlowblk b hb hM).trans (hv.low.block b hb hM)⟩,root_le hv.root hp.le,p2⟩
  ·intro id ob hid
   cases hx:out.eff.get id with
   | some o'=>
     have hl:=ovl_last (L:=upd L i) (id:=id) (o:=o') effs 0 i g.h0 out.eff h4 hx (by rw [Nat.zero_add,upd_same]) (fun j y hij hy hLj=>by
      rw [Nat.zero_add,upd_ne L (by omega)] at hLj
      cases hy2:y.get id with
      | none=>rfl
      | some o''=>
        exfalso
        rcases h.order h4 hy (by rw [hx];rfl) (by rw [hy2];rfl) (by omega) with h8 | h8
        ·exact hback j hLj h8
        ·have:=(cl_lt h.lt i j h8).1;omega)
     rw [hl] at hid
     cases hid
     exact hp.eff id _ hx
   | none=>
     have hag:(ovl (upd L i) 0 effs g.h0).get id=(ovl L 0 effs g.h0).get id:=ovl_agree effs 0 g.h0 g.h0 rfl fun j x hj hs=>by
      rw [Nat.zero_add]
      refine upd_ne L fun hji=>?_
      subst hji
      rw [h4] at hj
      cases hj
      rw [hx] at hs
      cases hs
     rw [hag] at hid
     exact hp.ob hsame hv.dis hx (hv.ob id ob hid)
  ·intro id hid
   rcases hp.new id hid with h8 | ⟨h8,h9⟩
   ·rcases hv.on id h8 with h10 | ⟨j,hj,hLj,h10⟩
    ·exact .inl h10
    ·exact .inr ⟨j,hj,by unfold upd;rw [hLj,Bool.or_true],h10⟩
   ·exact .inr ⟨i,by rw [h.len];exact hi,upd_same L i,h8,by rw [hn1];exact newIds_lt h9⟩
 ·rw [if_neg (by rw [hv.guard h ho hb hback h7];exact Bool.false_ne_true)]
  obtain⟨p1,p2,p3,p4⟩:=hv.put h ho h3 (w':=w) (e':=e) (u:=undef) (fun _ _ hr=>hr) (by unfold R;exact⟨#[],rfl,by unfold Rs;rfl⟩)
  refine hK _ w e ⟨p1,p3,p4,?_,hv.lo,?_,hv.dis,hv.bd,hv.ez,hv.fzb,hv.low,hv.root,p2⟩
  ·intro id ob hid
   have hag:(ovl (upd L i) 0 effs g.h0).get id=(ovl L 0 effs g.h0).get id:=ovl_agree effs 0 g.h0 g.h0 rfl fun j x hj hs=>by
    rw [Nat.zero_add]
    refine upd_ne L fun hji=>?_
    subst hji
    rw [h4] at hj
    cases hj
    cases hs
   rw [hag] at hid
   exact hv.ob id ob hid
  ·intro id hid
   rcases hv.on id hid with h10 | ⟨j,hj,hLj,h10⟩
   ·exact .inl h10
   ·exact .inr ⟨j,hj,by unfold upd;rw [hLj,Bool.or_true],h10⟩
end
end Ax
namespace Ax
open Go.RowKit RegP RegL
section
variable {P:Program} {g:Rg} {ops:Array Oper} {tm0:List PV} {nx0:Nat} {w0 w:World} {fz:Nat→Prop} {M:Root} {vals:List PV} {effs:List AH} {nxs:List Nat} {ts:List (List Nat)} {L:Nat→Bool} {a:Act} {e:Env}
theorem Inv.all (h:Fx P g ops tm0 nx0 vals effs nxs ts) (hv:Inv g ops tm0 nx0 w0 fz M vals effs nxs L a w e) (hL : ∀i,i<ops.size→L i=true) {tm':List PV} (he:Eqv tm' (TV g.dsts tm0 vals)) :
 SR w0 fz M ⟨tm',effs.foldl (fun h e=>e++h) g.h0,nxs.getD ops.size 0⟩ a w e:=by
 refine⟨by rw [hv.size];show _=tm'.length;rw [he.1,TV_len],?_,?_,hv.lo,?_,hv.dis,hv.bd,hv.ez,hv.fzb,hv.low,hv.root,hv.defers⟩
 ·intro t p hp
  have hlt:=(List.getElem?_eq_some_iff.1 hp).1
  obtain⟨q,hq⟩ : ∃q,(TV g.dsts tm0 vals)[t]? =some q:=⟨_,List.getElem?_eq_getElem (by rw [←he.1];exact hlt)⟩
  rw [(he.2 t p q hp hq).R]
  unfold TV at hq
  have hmem : ∀(d:Option Nat) (v:PV),(d,v)∈g.dsts.zip vals→∃(j:Nat) (oj:Oper),ops[j]? =some oj∧oj.dst=d∧vals[j]? =some v:=fun d v hm=>by
   obtain⟨j,hj⟩:=List.mem_iff_getElem?.1 hm
   rw [List.getElem?_zip_eq_some] at hj
   obtain⟨h1,h2⟩:=hj
   rw [h.dst,List.getElem?_map] at h1
   obtain⟨oj,h3,h4⟩:=Option.map_eq_some_iff.1 h1
   exact⟨j,oj,by simpa using h3,h4,h2⟩
  by_cases hex : ∃(j:Nat) (oj:Oper),ops[j]? =some oj∧oj.dst=some t
  ·obtain⟨j,oj,hoj,hdj⟩:=hex
   have hjl:j<ops.size:=(Array.getElem?_eq_some_iff.1 hoj).1
   have hvj:vals[j]? =some (vals[j]'(by rw [h.len];exact hjl)):=List.getElem?_eq_getElem _
   generalize vals[j]'(by rw [h.len];exact hjl)=vj at hvj
   rw [fold_put_yes (t:=t) (v:=vj)] at hq
   ·obtain⟨q',hq',rfl⟩:=Option.map_eq_some_iff.1 hq
    exact hv.yes j oj t _ hoj hdj (hL j hjl) hvj (List.getElem?_eq_some_iff.1 hq').1
   ·refine List.mem_iff_getElem?.2 ⟨j,?_⟩
    rw [List.getElem?_zip_eq_some]
    exact⟨by rw [h.dst,List.getElem?_map,Array.getElem?_toList,hoj];exact congrArg some hdj,hvj⟩
   ·intro v' hm
    obtain⟨j',oj',h2,h3,h4⟩:=hmem _ _ hm
    have:=h.uniq h2 hoj h3 hdj
    subst this
    rw [hvj] at h4
    cases h4
    rfl
  ·rw [fold_put_no (t:=t)] at hq
   ·exact hv.no t q (fun j oj h1 h2=>absurd ⟨j,oj,h1,h2⟩ hex) hq
   ·intro d v hm hd
    obtain⟨j',oj',h2,h3, -⟩:=hmem _ _ hm
    exact hex ⟨j',oj',h2,by rw [h3,hd]⟩
 ·intro id o hid
  refine hv.ob id o ?_
  rw [foldl_ovl effs 0] at hid
  rw [←hid]
  refine ovl_agree effs 0 g.h0 g.h0 rfl fun j x hj _=>?_
  rw [Nat.zero_add]
  exact hL j (by rw [←h.len,←h.tr.lenE];exact (List.getElem?_eq_some_iff.1 hj).1)
 ·intro id hid
  show id<nxs.getD ops.size 0
  rcases hv.on id hid with h1 | ⟨j,hj, -, -,h2⟩
  ·have:=h.nxs_mono (Nat.zero_le ops.size) (Nat.le_refl _)
   rw [h.tr.st] at this
   omega
  ·have:=h.nxs_mono (i:=j+1) (j:=ops.size) (by rw [←h.len];exact hj) (Nat.le_refl _)
   omega
theorem draw_any (h:Fx P g ops tm0 nx0 vals effs nxs ts) {tm':List PV} (he:Eqv tm' (TV g.dsts tm0 vals)) {Q':Exit→Act→World→Prop} (hQ : ∀a w e,SR w0 fz M ⟨tm',effs.foldl (fun h e=>e++h) g.h0,nxs.getD ops.size 0⟩ a w e→Q' .normal a w) :
 ∀(m:Nat) (listed:Array Bool) (a:Act) (w:World) (e:Env),unl listed ops.size=m→listed.size=ops.size→(∀i o,ops[i]? =some o→listed.getD i false=true→∀e∈bindsOn o,listed.getD e false=true)→
  Inv g ops tm0 nx0 w0 fz M vals effs nxs (fun i=>listed.getD i false) a w e→wpAny P .any ops Q' m listed a w:=by
 intro m
 induction m with
 | zero=>
   intro listed a w e hm hsz hcl hv
   have hall:=unl_zero hm
   refine⟨?_,hQ a w e (hv.all h hall he)⟩
   rw [List.eq_nil_iff_forall_not_mem]
   intro i hi
   obtain⟨hun,o,hoi, -⟩:=ready_iff.1 hi
   have:=hall i (Array.getElem?_eq_some_iff.1 hoi).1
   have hlt:i<listed.size:=by rw [hsz];exact (Array.getElem?_eq_some_iff.1 hoi).1
   simp only [Array.getD_eq_getD_getElem?,Array.getElem?_eq_getElem hlt,Option.getD_some] at this hun
   rw [this] at hun
   cases hun
 | succ m ih=>
   intro listed a w e hm hsz hcl hv
   obtain⟨i0,hi0,hu0,hb0⟩:=unl_pos (n:=ops.size) (listed:=listed) (by omega)
   refine⟨fun hnil=>?_,fun i hi=>?_⟩
   ·exfalso
    have ho:ops[i0]? =some ops[i0]:=Array.getElem?_eq_getElem hi0
    have : i0∈Region.ready .any ops listed:=ready_iff.2 ⟨by
     have : i0<listed.size:=by omega
     simpa [Array.getD_eq_getD_getElem?,Array.getElem?_eq_getElem this] using hu0,_,ho,fun e he=>hb0 e (h.lt i0 _ ho e he)⟩
    rw [hnil] at this
    cases this
   ·obtain⟨hun,o,hoi,hall⟩:=ready_iff.1 hi
    have his:i<ops.size:=(Array.getElem?_eq_some_iff.1 hoi).1
    have hilt:i<listed.size:=by omega
    have hun':listed.getD i false=false:=by
     simpa [Array.getD_eq_getD_getElem?,Array.getElem?_eq_getElem hilt] using hun
    have hupd:(fun j=>(listed.setIfInBounds i true).getD j false)=upd (fun j=>listed.getD j false) i:=by
     funext j
     by_cases hji:j=i
     ·subst hji
      rw [upd_same]
      simp [hilt]
     ·rw [upd_ne _ hji];exact getD_set_ne false (fun e=>hji e.symm)
    refine hv.step h hoi hun' hall hcl fun a' w' e' hv'=>ih _ a' w' e' ?_ (by simpa using hsz) ?_ (by rw [hupd];exact hv')
    ·have:=unl_set (n:=ops.size) (listed:=listed) (i:=i) hilt hun' his
     omega
    ·intro j oj hj hLj e he
     by_cases hji:j=i
     ·subst hji
      rw [hoi] at hj;cases hj
      exact getD_set_true (hall e he)
     ·rw [getD_set_ne false (fun e=>hji e.symm)] at hLj
      exact getD_set_true (hcl j oj hj hLj e he)
end
theorem region_draw {P:Program} {c:Cx} {w0 w:World} {fz:Nat→Prop} {M:Root} {st:AS} {a:Act} {e:Env} {id:Nat} {ops:Array Oper} {Q:AS→Prop} {Q':Exit→Act→World→Prop} (hc:CxOk P c) (hm:P.follows .mixedOrders =true) (hck:drawOk ops=true)
 (hQ : ∀st a w e,Q st→SR w0 fz M st a w e→Q' .normal a w) (h:regW ⟨c,true,ops.toList.map (·.dst),st.h⟩ Q ops.toList 0 [] [] [] st.tm st.nx) (hs:SR w0 fz M st a w e):(Code.region id ops true).wp P Q' a w:=by
 obtain⟨vals,effs,nxs,ts,tm',h1,h2,hap,h3,h4⟩:=regW_trace (g:=⟨c,true,ops.toList.map (·.dst),st.h⟩) rfl (ops:=ops.toList) rfl (tm0:=st.tm) (n0:=st.nx) (cl:=clsGo ops.toList []) ops.toList [] [] [] [] [st.nx] st.tm st.nx ⟨[],rfl,rfl⟩ rfl rfl
  ⟨rfl,rfl,rfl,rfl,fun j o hj=>by simp at hj⟩ rfl ⟨by rw [TV_len],fun t p q hp hq=>by
    have : TV (ops.toList.map (·.dst)) st.tm []=st.tm:=by unfold TV;simp
    rw [this,hp] at hq
    cases hq
    exact .refl _⟩ h
 have h1':vals.length=ops.size:=by rw [h1];simp
 unfold drawOk at hck
 rw [List.all_eq_true] at hck
 have hfx:Fx P ⟨c,true,ops.toList.map (·.dst),st.h⟩ ops st.tm st.nx vals effs nxs ts:=⟨hc,rfl,fun i o ho=>hck (o,i) (List.mem_zipIdx_iff_getElem?.2 (by simpa using ho)),hap,h1',h2⟩
 refine wp_region_any hm ?_
 have hfalse : ∀k,(Array.replicate ops.size false).getD k false=false:=fun k=>by
  by_cases h:k<ops.size<;>simp [h]
 have hu:unl (Array.replicate ops.size false) ops.size=ops.size:=by
  have : ∀m,unl (Array.replicate ops.size false) m=m:=by
   intro m
   induction m with
   | zero=>rfl
   | succ m ih=>
     unfold unl at *
     rw [List.range_succ,List.countP_append,ih]
     by_cases h:m<ops.size<;>simp [h]
  exact this _
 refine draw_any hfx h3 (fun a w e hsr=>hQ _ a w e (by simpa using h4) hsr) ops.size (Array.replicate ops.size false) a _ e hu (by simp) (fun i o _ h=>by rw [hfalse i] at h;cases h) ?_
 refine⟨hs.size,fun j o t v _ _ hL=>absurd hL (by rw [hfalse j];exact Bool.false_ne_true),fun t p _ hp=>R_mono (w:=w) (w':=w.drew) (fun _ _=>rfl) (.refl e) p _ (hs.tm t p hp),?_,hs.lo,fun id hid=>.inl (hs.lt id hid),hs.dis,hs.bd,⟨hs.ez.sub,hs.ez.sup,hs.ez.nf⟩,hs.fzb,⟨hs.low.os,hs.low.tape,hs.low.output,hs.low.size,hs.low.block⟩,hs.root,hs.defers⟩
 intro id o hid
 have hag:(ovl (fun i=>(Array.replicate ops.size false).getD i false) 0 effs st.h).get id=st.h.get id:=by
  rw [show (fun i=>(Array.replicate ops.size false).getD i false)=fun _=>false from funext hfalse]
  have : ∀(effs:List AH) (i:Nat),ovl (fun _=>false) i effs st.h=st.h:=by
   intro effs
   induction effs with
   | nil=>intro i;rfl
   | cons x r ih=>intro i;unfold ovl;exact ih (i+1)
  rw [this]
 obtain⟨q1,q2,q3⟩:=hs.ob id o (by rw [←hag];exact hid)
 exact⟨OR_mono (w:=w) (w':=w.drew) (fun _ _=>rfl) (.refl e) q2 (fun b _=>⟨fun h=>h,rfl⟩) q1,q2,q3⟩
end Ax
end Go.Proofs.YtjjonmhpgkahoaaGreatDoor
