/-
  The plain walker: regions that draw their order (lists of waits, effects laid over one another).
  Conditions: none; the closed check drawOk of the region's own edges; the closed check codeOk of the drawn regions' edges.
-/
import Derived.Test.YtjjonmhpgkahoaaGreatDoorH07
import Derived.Test.YtjjonmhpgkahoaaGreatDoorH04
import Derived.Deep.LoopGhost
set_option linter.unusedSimpArgs false
set_option linter.unusedVariables false
namespace Go.Proofs.YtjjonmhpgkahoaaGreatDoor
namespace Ax
open Go.RowKit RegP
def ovl (L:Nat→Bool):Nat→List AH→AH→AH
 | _,[],h=>h
 | i,x::r,h=>ovl L (i+1) r (if L i then x++h else h)
theorem rG (p:List Nat) : ∀(i:Nat) (effs:List AH) (h:AH),viewAt p i effs h=ovl (p.contains ·) i effs h
 | _,[],_=>rfl
 | i,[]::r,h=>by unfold viewAt ovl;rw [rG p (i+1) r _];congr 1;split<;>rfl
 | i,(q::e)::r,h=>by unfold viewAt ovl;exact rG p (i+1) r _
theorem DR {L:Nat→Bool} : ∀(effs:List AH) (i k:Nat) (h:AH),(∀j,k≤j→L (i+j)=false)→ovl L i (effs.take k) h=ovl L i effs h
 | [],i,k,h,_=>by simp
 | x::r,i,0,h,hL=>by
   have h1 : ∀(r:List AH) (i:Nat) (h:AH),(∀j,L (i+j)=false)→ovl L i r h=h:=by
    intro r
    induction r with
    | nil=>intro i h _;rfl
    | cons y r ih=>
      intro i h hh
      unfold ovl
      rw [if_neg (by have:=hh 0;simpa using this)]
      exact ih (i+1) h fun j=>by have:=hh (j+1);rwa [show i+(j+1)=i+1+j from by omega] at this
   rw [h1 (x::r) i h fun j=>hL j (Nat.zero_le _)]
   rfl
 | x::r,i,k+1,h,hL=>by
   rw [List.take_succ_cons]
   unfold ovl
   exact DR r (i+1) k _ fun j hj=>by have:=hL (j+1) (by omega);rwa [show i+(j+1)=i+1+j from by omega] at this
theorem m8 {L M:Nat→Bool} {id:Nat} : ∀(effs:List AH) (i:Nat) (h h':AH),h.get id=h'.get id→(∀j x,effs[j]? =some x→(x.get id).isSome =true→L (i+j)=M (i+j))→(ovl L i effs h).get id=(ovl M i effs h').get id
 | [],i,h,h',hh,_=>hh
 | x::r,i,h,h',hh,hL=>by
   unfold ovl
   refine m8 r (i+1) _ _ ?_ fun j y hj hy=>by have:=hL (j+1) y (by simpa using hj) hy;rwa [show i+(j+1)=i+1+j from by omega] at this
   have e1 : ∀(b:Bool) (z:AH),AH.get (if b then x++z else z) id=if b then (match x.get id with | some o=>some o | none=>z.get id) else z.get id:=fun b z=>by
    cases b
    ·rfl
    ·exact p8 x z id
   rw [e1,e1]
   cases hx:x.get id with
   | none=>simp [hh]
   | some o=>
     have:=hL 0 x rfl (by rw [hx];rfl)
     rw [Nat.add_zero] at this
     rw [this]
     cases M i<;>simp [hh]
theorem Cj {L:Nat→Bool} {id:Nat} {o:Ob} : ∀(effs:List AH) (i k:Nat) (h:AH) (x:AH),effs[k]? =some x→x.get id=some o→L (i+k)=true→(∀j y,k<j→effs[j]? =some y→L (i+j)=true→y.get id=none)→(ovl L i effs h).get id=some o
 | [],i,k,h,x,hk,_,_,_=>by simp at hk
 | y::r,i,0,h,x,hk,hx,hL,hn=>by
   simp at hk
   subst hk
   unfold ovl
   rw [Nat.add_zero] at hL
   rw [if_pos hL]
   have h1 : ∀(r:List AH) (i:Nat) (h:AH),(∀j y,r[j]? =some y→L (i+j)=true→y.get id=none)→(ovl L i r h).get id=h.get id:=by
    intro r
    induction r with
    | nil=>intro i h _;rfl
    | cons z r ih=>
      intro i h hh
      unfold ovl
      rw [ih (i+1) _ fun j y hj hy=>hh (j+1) y (by simpa using hj) (by rw [show i+(j+1)=i+1+j from by omega];exact hy)]
      split
      ·rename_i hLi
       rw [p8,hh 0 z rfl (by rw [Nat.add_zero];exact hLi)]
      ·rfl
   rw [h1 r (i+1) _ fun j z hj hz=>hn (j+1) z (by omega) (by simpa using hj) (by rw [show i+(j+1)=i+1+j from by omega];exact hz),p8,hx]
 | y::r,i,k+1,h,x,hk,hx,hL,hn=>by
   unfold ovl
   exact Cj r (i+1) k _ x (by simpa using hk) hx (by rw [show i+1+k=i+(k+1) from by omega];exact hL) fun j z hj hz hLz=>hn (j+1) z (by omega) (by simpa using hz) (by rw [show i+(j+1)=i+1+j from by omega];exact hLz)
theorem Aj : ∀(effs:List AH) (i:Nat) (h:AH),effs.foldl (fun h e=>e++h) h=ovl (fun _=>true) i effs h
 | [],_,_=>rfl
 | x::r,i,h=>by unfold ovl;exact Aj r (i+1) _
theorem rt {v:PV} {out:Out} (h:ok v=some out):out.eff=[]:=by cases h;rfl
theorem p5 {q:List Prop} {v:PV} {out:Out} (h:okp q v=some out):out.eff=[]:=by cases h;rfl
theorem A5 {x:Option PV} {out:Out} (h:x.bind ok=some out):out.eff=[]:=by
 obtain⟨v, -,h⟩:=Option.bind_eq_some_iff.1 h
 exact rt h
theorem N7 {p:Pr} {op:BinOp} {x y:PV} {out:Out} (h:bin p op x y=some out):out.eff=[]:=by
 unfold bin at h
 split at h
 ·split at h
  ·unfold Nk at h
   split at h<;>first | exact rt h | exact p5 h | cases h
  ·cases h
 ·unfold L5 at h
  split at h<;>first | exact rt h | exact p5 h | cases h
 ·cases h
theorem LP {p:Pr} {op:BinOp} {x y:PV} {out:Out} (h:Kg p op x y=some out):out.eff=[]:=by
 unfold Kg at h
 split at h
 ·exact A5 h
 ·obtain⟨v, -,h⟩:=Option.bind_eq_some_iff.1 h
  exact A5 h
 ·cases h
theorem JI {c:Cx} {o:Op} {ρ:Operand→PV} {h:AH} {nx:Nat} {out:Out} (hs:Jq c o ρ h nx=some out) {id:Nat} (hid:(out.eff.get id).isSome =true):nx≤id∨(h.get id).isSome =true:=by
 have hone : ∀{k:Nat} {x:Ob},(AH.get [(k,x)] id).isSome =true→id=k:=fun {k x} hh=>by
  unfold AH.get at hh
  split at hh
  ·rename_i hk;exact (by simpa using hk:k=id).symm
  ·cases hh
 have hsh : ∀{x:AH},((rnH (mv [] nx) x).get id).isSome =true→nx≤id:=fun {x} hh=>by
  obtain⟨o,ho⟩:=Option.isSome_iff_exists.1 hh
  obtain⟨k',_,rfl,_⟩:=pY ho
  rw [tC (Nat.zero_le _)]
  omega
 unfold Jq at hs
 split at hs
 case h_4=>split at hs<;>first | (cases hs;done) | (cases hs;exact .inl (Nat.le_of_eq (hone hid).symm))
 case h_5=>split at hs<;>first | (cases hs;done) | (cases hs;exact .inl (Nat.le_of_eq (hone hid).symm))
 case h_7=>
  repeat' (split at hs)
  all_goals first | (cases hs;done) | (cases hs;exact .inl (Nat.le_of_eq (hone hid).symm))
 case h_9 t a x=>
  split at hs
  ·split at hs
   ·rename_i l ty hg
    split at hs
    ·split at hs
     ·cases hs
      have:=hone hid
      subst this
      exact .inr (by rw [hg];rfl)
     ·cases hs
    ·cases hs
   ·cases hs
  ·split at hs
   ·rename_i sh L ty hg
    split at hs
    ·split at hs
     ·split at hs
      ·cases hs
       have:=hone hid
       subst this
       exact .inr (by rw [hg];rfl)
      ·cases hs
     ·cases hs
    ·cases hs
   ·cases hs
  ·cases hs
 case h_20 k=>
  unfold JY at hs
  split at hs
  case h_1=>
   have hno:out.eff=[]:=by
    repeat' (split at hs)
    all_goals first | exact rt hs | cases hs
   rw [hno] at hid
   cases hid
  case h_2 x y t t'=>
   split at hs
   ·split at hs
    ·split at hs
     ·split at hs
      ·cases hs;exact .inl (Nat.le_of_eq (hone hid).symm)
      ·cases hs
     ·split at hs
      ·rename_i sh L ty hg
       split at hs
       ·split at hs
        ·cases hs
         unfold AH.get at hid
         split at hid
         ·rename_i hk
          exact .inl (Nat.le_of_eq (by simpa using hk))
         ·have:=hone hid
          subst this
          exact .inr (by rw [hg];rfl)
        ·cases hs
       ·cases hs
      ·cases hs
     ·cases hs
    ·cases hs
   ·cases hs
  case h_3 f args ts=>
   split at hs
   ·split at hs
    ·rename_i S hS
     simp only at hs
     split at hs
     ·rename_i hcl
      split at hs
      ·cases hs
       generalize reach h 60 (oa (pj c ts.toList (args.toList.map ρ++_))) []=r at hid hcl
       obtain⟨x,ho⟩:=Option.isSome_iff_exists.1 hid
       obtain⟨k',_,rfl,_⟩:=pY ho
       by_cases hk:k'<r.length
       ·right
        rw [sQ hk]
        unfold closed at hcl
        simp only [Bool.and_eq_true,List.all_eq_true] at hcl
        have hm:look r k'∈r:=by
         unfold look
         rw [List.getD_eq_getElem?_getD,List.getElem?_eq_getElem hk]
         exact List.getElem_mem hk
        have:=(hcl.2.1 _ hm).2
        split at this
        ·rename_i hx;rw [hx];rfl
        ·cases this
       ·exact .inl (by rw [tC (Nat.le_of_not_lt hk)];omega)
      ·cases hs
     ·cases hs
    ·split at hs
     ·simp only at hs
      split at hs
      ·split at hs
       ·split at hs
        ·cases hs
        ·split at hs
         ·split at hs
          ·split at hs
           ·cases hs;simp [AH.get] at hid
           ·cases hs
          ·cases hs
         ·cases hs;exact .inl (hsh hid)
       ·cases hs
      ·split at hs
       ·cases hs;exact .inl (hsh hid)
       ·cases hs
     ·cases hs
   ·cases hs
  case h_4=>cases hs
 case h_21=>cases hs
 all_goals
  have hno:out.eff=[]:=by
   repeat' (split at hs)
   all_goals first | exact rt hs | exact p5 hs | exact A5 hs | exact N7 hs | exact LP hs | cases hs
  rw [hno] at hid
  cases hid
theorem Kc {c:Cx} {o:Op} {ρ:Operand→PV} {h:AH} {nx:Nat} {out:Out} (hs:JT c o ρ h nx=some out) {id:Nat} (hid:(out.eff.get id).isSome =true):nx≤id∨(h.get id).isSome =true:=by
 have hone : ∀{k:Nat} {x:Ob},(AH.get [(k,x)] id).isSome =true→id=k:=fun {k x} hh=>by
  unfold AH.get at hh
  split at hh
  ·rename_i hk;exact (by simpa using hk:k=id).symm
  ·cases hh
 unfold JT at hs
 split at hs
 case h_6 t a x=>
  repeat' (split at hs)
  all_goals first
   | (cases hs;done)
   | (cases hs
      have:=hone hid
      subst this
      right
      rename_i hg _ _ _ _
      first | (rw [hg];rfl) | simp_all)
 all_goals
  repeat' (split at hs)
  all_goals first
   | (cases hs;done)
   | (cases hs;exact .inl (Nat.le_of_eq (hone hid).symm))
   | (have hno:out.eff=[]:=by first | exact rt hs | exact p5 hs
      rw [hno] at hid
      cases hid)
theorem LG {c:Cx} {o:Op} {ρ:Operand→PV} {h:AH} {nx:Nat} {out:Out} (hs:IU c o ρ h nx=some out) {id:Nat} (hid:(out.eff.get id).isSome =true):nx≤id∨(h.get id).isSome =true:=by
 have hone : ∀{k:Nat} {x:Ob},(AH.get [(k,x)] id).isSome =true→id=k:=fun {k x} hh=>by
  unfold AH.get at hh
  split at hh
  ·rename_i hk;exact (by simpa using hk:k=id).symm
  ·cases hh
 unfold IU at hs
 split at hs
 case h_2 x=>
  split at hs
  ·split at hs
   ·rename_i hg
    cases hs
    have:=hone hid
    subst this
    exact .inr (by rw [hg];rfl)
   ·cases hs
  ·cases hs
 case h_8 x args ts=>
  repeat' (split at hs)
  all_goals first
   | (cases hs;done)
   | (cases hs
      obtain⟨x,ho⟩:=Option.isSome_iff_exists.1 hid
      obtain⟨k',_,rfl,_⟩:=pY ho
      exact .inl (by rw [tC (Nat.zero_le _)];omega))
 case h_9 x m args ts=>
  repeat' (split at hs)
  all_goals first
   | (cases hs;done)
   | (cases hs
      obtain⟨x,ho⟩:=Option.isSome_iff_exists.1 hid
      obtain⟨k',_,rfl,_⟩:=pY ho
      exact .inl (by rw [tC (Nat.zero_le _)];omega))
 case h_10 x y t t'=>
  repeat' (split at hs)
  all_goals first
   | (cases hs;done)
   | (cases hs;exact .inl (Nat.le_of_eq (hone hid).symm))
   | (rename_i hg _ _ _ _
      cases hs
      unfold AH.get at hid
      split at hid
      ·rename_i hk
       exact .inl (Nat.le_of_eq (by simpa using hk))
      ·have:=hone hid
       subst this
       exact .inr (by rw [hg];rfl))
 all_goals
  repeat' (split at hs)
  all_goals first
   | (cases hs;done)
   | (cases hs;exact .inl (Nat.le_of_eq (hone hid).symm))
   | (have hno:out.eff=[]:=by first | exact rt hs | exact p5 hs
      rw [hno] at hid
      cases hid)
theorem Ir {c:Cx} {h:AH} {te k:Nat} {q:Int} {l:List UInt8} {out:Out} (hs:zd c h te k q l=some out) {id:Nat} (hid:(out.eff.get id).isSome =true):(h.get id).isSome =true:=by
 unfold zd at hs
 split at hs
 ·rename_i hg
  split at hs
  ·split at hs
   ·cases hs
    unfold AH.get at hid
    split at hid
    ·rename_i hk
     rw [←(by simpa using hk:k=id),hg];rfl
    ·cases hid
   ·cases hs
  ·cases hs
 ·cases hs
theorem LM {c:Cx} {o:Op} {ρ:Operand→PV} {h:AH} {nx:Nat} {out:Out} (hs:J6 c o ρ h=some out) {id:Nat} (hid:(out.eff.get id).isSome =true):nx≤id∨(h.get id).isSome =true:=by
 have hno : ∀{v:PV} {p:List Prop},some (⟨p,v,[]⟩:Out)=some out→False:=fun hh=>by cases hh;cases hid
 unfold J6 at hs
 split at hs
 ·split at hs
  ·exact (hno hs).elim
  ·cases hs
 ·repeat' (split at hs)
  all_goals first
   | (cases hs;done)
   | exact (hno hs).elim
 ·repeat' (split at hs)
  all_goals first
   | (cases hs;done)
   | exact .inr (Ir hs hid)
 ·split at hs
  ·exact (hno hs).elim
  ·cases hs
 ·cases hs
theorem Lg {c:Cx} {o:Op} {ρ:Operand→PV} {h:AH} {nx:Nat} {out:Out} (hs:JL c o ρ h nx=some out) {id:Nat} (hid:(out.eff.get id).isSome =true):nx≤id∨(h.get id).isSome =true:=by
 have hno : ∀{v:PV} {p:List Prop},some (⟨p,v,[]⟩:Out)=some out→False:=fun hh=>by cases hh;cases hid
 unfold JL at hs
 split at hs
 ·repeat' (split at hs)
  all_goals first
   | (cases hs;done)
   | exact (hno hs).elim
 ·repeat' (split at hs)
  all_goals first
   | (cases hs;done)
   | exact (hno hs).elim
 ·split at hs
  ·split at hs
   ·exact (hno hs).elim
   ·cases hs
  ·split at hs
   ·rename_i hg
    cases hs
    unfold AH.get at hid
    split at hid
    ·rename_i hk
     exact .inl (by rw [←(by simpa using hk:nx=id)];exact Nat.le_refl _)
    ·unfold AH.get at hid
     split at hid
     ·rename_i hk
      rw [←(by simpa using hk:_=id),hg]
      exact .inr rfl
     ·cases hid
   ·cases hs
  ·cases hs
 ·split at hs
  ·split at hs
   ·rename_i hg
    split at hs
    ·split at hs
     ·split at hs
      ·cases hs
       unfold AH.get at hid
       split at hid
       ·rename_i hk
        rw [←(by simpa using hk:_=id),hg]
        exact .inr rfl
       ·cases hid
      ·cases hs
     ·cases hs
    ·cases hs
   ·cases hs
  ·cases hs
 ·cases hs
theorem Je {c:Cx} {o:Op} {ρ:Operand→PV} {out:Out} (hs:Ev c o ρ=some out):out.eff=[]:=by
 unfold Ev N2 at hs
 repeat' (split at hs)
 all_goals first | exact p5 hs | cases hs
theorem Nq {c:Cx} {o:Op} {ρ:Operand→PV} {h:AH} {nx:Nat} {out:Out} (hs:aop c o ρ h nx=some out) {id:Nat} (hid:(out.eff.get id).isSome =true):nx≤id∨(h.get id).isSome =true:=by
 unfold aop at hs
 split at hs
 ·rename_i h1
  cases hs
  rw [Je h1] at hid
  cases hid
 split at hs
 ·rename_i h1
  cases hs
  exact Kc h1 hid
 ·split at hs
  ·rename_i h1
   cases hs
   exact LG h1 hid
  ·split at hs
   ·rename_i h1
    cases hs
    exact JI h1 hid
   ·split at hs
    ·rename_i h1
     cases hs
     exact LM h1 hid
    ·exact Lg hs hid
open Go.RowKit RegP RegL
def DF (ops:Array Oper) (cl:List (List Nat)) (i:Nat) (o:Oper):Bool:=
 PG o&&(cS o).all (fun e=>decide (e<i))&&
 ops.toList.zipIdx.all fun (p,j)=>match p.dst with
  | none=>true
  | some t=>(!(o.looksAt ops).contains t||((cS o).contains j&&decide (j<i)||(cl.getD j []).contains i))&&(decide (j=i)||o.dst !=some t)
def E7 (ops:Array Oper):Bool:=let cl:=ci ops.toList [];ops.toList.zipIdx.all fun (o,i)=>DF ops cl i o
theorem sx {T:List Nat} {id:Nat} : ∀(h:AH),(cut T h).get id=if T.contains id then h.get id else none
 | []=>by simp [cut,AH.get]
 | (k,o)::r=>by
   have e1 : ∀(x:AH),AH.get ((k,o)::x) id=if k==id then some o else AH.get x id:=fun _=>rfl
   unfold cut
   cases hk:k==id
   ·split
    ·rw [e1,e1,hk,sx r];rfl
    ·rw [e1,hk,sx r];rfl
   ·have hk:k=id:=by simpa using hk
    subst hk
    split
    ·rename_i h1;rw [e1,e1];simp
    ·rename_i h1;rw [sx r,if_neg h1]
theorem F0 {ts ps:List (List Nat)} {j:Nat} {ks:List Nat} : ∀{n:Nat},free ts ps j ks n=true→∀i,i<n→i≠j→(∀x∈ts.getD i [],x ∉ ks)∨i∈ps.getD j []∨j∈ps.getD i []
 | 0,_,i,hi,_=>by omega
 | n+1,h,i,hi,hij=>by
   unfold free at h
   rw [Bool.and_eq_true] at h
   by_cases hin:i=n
   ·subst hin
    have h:=h.1
    simp only [Bool.or_eq_true,Nat.beq_eq,hij,false_or,List.all_eq_true,Bool.not_eq_true',List.contains_eq_mem,decide_eq_false_iff_not,decide_eq_true_eq] at h
    exact h
   ·exact F0 h.2 i (by omega) hij
theorem xn {ts ps:List (List Nat)} : ∀{effs:List AH} {j0:Nat},apart ts ps effs j0=true→∀j x id,effs[j]? =some x→(x.get id).isSome =true→∀i,i<ts.length→i≠j0+j→id∈ts.getD i []→i∈ps.getD (j0+j) []∨(j0+j)∈ps.getD i []
 | [],_,_,j,x,id,hx,_,_,_,_,_=>by simp at hx
 | []::r,j0,h,0,x,id,hx,hid,_,_,_,_=>by simp at hx;subst hx;cases hid
 | []::r,j0,h,j+1,x,id,hx,hid,i,hi,hij,hT=>by
   unfold apart at h
   have:=xn h j x id (by simpa using hx) hid i hi (by omega) hT
   rwa [show j0+1+j=j0+(j+1) from by omega] at this
 | (q::y)::r,j0,h,0,x,id,hx,hid,i,hi,hij,hT=>by
   unfold apart at h
   rw [Bool.and_eq_true] at h
   simp at hx
   subst hx
   have hm:id∈(q::y).map (·.1):=by
    obtain⟨o,ho⟩:=Option.isSome_iff_exists.1 hid
    have : ∀(z:AH),z.get id=some o→id∈z.map (·.1):=by
     intro z
     induction z with
     | nil=>intro hz;cases hz
     | cons c z ihz=>
       obtain⟨k,o'⟩:=c
       intro hz
       unfold AH.get at hz
       split at hz
       ·rename_i hk
        have hk:k=id:=by simpa using hk
        simp [hk]
       ·exact List.mem_cons_of_mem _ (ihz hz)
    exact this _ ho
   rcases F0 h.1 i hi (by omega) with h1 | h1
   ·exact absurd hm (h1 id hT)
   ·exact h1
 | (q::y)::r,j0,h,j+1,x,id,hx,hid,i,hi,hij,hT=>by
   unfold apart at h
   rw [Bool.and_eq_true] at h
   have:=xn h.2 j x id (by simpa using hx) hid i hi (by omega) hT
   rwa [show j0+1+j=j0+(j+1) from by omega] at this
theorem jV {t:Nat} : ∀(l:List (Option Nat×PV)) (tm:List PV),(∀d v,(d,v)∈l→d≠some t)→(l.foldl (fun tm x=>put tm x.1 x.2) tm)[t]? =tm[t]?
 | [],_,_=>rfl
 | (d,v)::l,tm,h=>by
   rw [List.foldl_cons,jV l _ fun d' v' hm=>h d' v' (by simp [hm])]
   have:=h d v (by simp)
   cases d with
   | none=>rfl
   | some d=>simp only [put];rw [List.getElem?_set,if_neg (fun hh=>this (by rw [hh]))]
theorem nP {t:Nat} {v:PV} : ∀(l:List (Option Nat×PV)) (tm:List PV),(some t,v)∈l→(∀v',(some t,v')∈l→v'=v)→(l.foldl (fun tm x=>put tm x.1 x.2) tm)[t]? =tm[t]?.map fun _=>v
 | [],_,h,_=>by cases h
 | (d,u)::l,tm,h,hu=>by
   rw [List.foldl_cons]
   by_cases hl:(some t,v)∈l
   ·rw [nP l _ hl fun v' hv'=>hu v' (by simp [hv'])]
    cases d with
    | none=>rfl
    | some d=>
      simp only [put,List.getElem?_set]
      split
      ·split
       ·rename_i hd hlt;subst hd;rw [List.getElem?_eq_getElem hlt];rfl
       ·rename_i hd hlt;subst hd;rw [List.getElem?_eq_none (by omega)]
      ·rfl
   ·have he:(some t,v)=(d,u):=by
     rcases List.mem_cons.1 h with h | h
     ·exact h
     ·exact absurd h hl
    cases he
    rw [jV l _ fun d' v' hm hd'=>by subst hd';have:=hu v' (by simp [hm]);subst this;exact hl hm]
    simp only [put,List.getElem?_set,if_true]
    split
    ·rename_i hlt;rw [List.getElem?_eq_getElem hlt];rfl
    ·rename_i hlt;rw [List.getElem?_eq_none (by omega)];rfl
theorem y7 {a:Nat} {l:List Nat} {f:List Nat→List Nat} (hf : ∀m x,x∈f m↔x∈l∨x∈m) : ∀{m:List Nat} {x:Nat},x∈CB a l f m↔x∈a::l∨x∈m
 | [],x=>by simp [CB]
 | b::m,x=>by
   unfold CB
   split
   ·rename_i h
    rw [Nat.eq_of_beq_eq_true h,List.mem_cons,hf,List.mem_cons,List.mem_cons]
    constructor
    ·rintro (h1 | h1 | h1)
     ·exact .inl (.inl h1)
     ·exact .inl (.inr h1)
     ·exact .inr (.inr h1)
    ·rintro ((h1 | h1) | h1 | h1)
     ·exact .inl h1
     ·exact .inr (.inl h1)
     ·exact .inl h1
     ·exact .inr (.inr h1)
   ·split
    ·rw [List.mem_cons,y7 hf,List.mem_cons,List.mem_cons]
     constructor
     ·rintro (h1 | h1 | h1)
      ·exact .inr (.inl h1)
      ·exact .inl h1
      ·exact .inr (.inr h1)
     ·rintro (h1 | h1 | h1)
      ·exact .inr (.inl h1)
      ·exact .inl h1
      ·exact .inr (.inr h1)
    ·rw [List.mem_cons,hf,List.mem_cons (a:=x) (b:=a)]
     constructor
     ·rintro (h1 | h1 | h1)
      ·exact .inl (.inl h1)
      ·exact .inl (.inr h1)
      ·exact .inr h1
     ·rintro ((h1 | h1) | h1)
      ·exact .inl h1
      ·exact .inr (.inl h1)
      ·exact .inr (.inr h1)
theorem FO : ∀{a l:List Nat} {x:Nat},x∈uni a l↔x∈a∨x∈l
 | [],l,x=>by simp [uni]
 | a::r,l,x=>by
   unfold uni
   exact y7 fun m y=>FO
theorem Cg {ps:List (List Nat)} : ∀{es:List Edge} {l:List Nat} {x:Nat},x∈IS ps es l↔x∈l∨∃e∈es,Region.binds .any e=true∧(x=e.on∨x∈ps.getD e.on [])
 | [],l,x=>by simp [IS]
 | e::es,l,x=>by
   unfold IS
   rw [Cg]
   split
   ·rename_i hb
    rw [FO,List.mem_cons]
    constructor
    ·rintro ((h1 | h1) | ⟨e',h1,h2⟩)
     ·exact .inr ⟨e,List.mem_cons_self,hb,h1⟩
     ·exact .inl h1
     ·exact .inr ⟨e',List.mem_cons_of_mem _ h1,h2⟩
    ·rintro (h1 | ⟨e',h1,h2,h3⟩)
     ·exact .inl (.inr h1)
     ·rcases List.mem_cons.1 h1 with rfl | h1
      ·exact .inl (.inl h3)
      ·exact .inr ⟨e',h1,h2,h3⟩
   ·rename_i hb
    constructor
    ·rintro (h1 | ⟨e',h1,h2⟩)
     ·exact .inl h1
     ·exact .inr ⟨e',List.mem_cons_of_mem _ h1,h2⟩
    ·rintro (h1 | ⟨e',h1,h2,h3⟩)
     ·exact .inl h1
     ·rcases List.mem_cons.1 h1 with rfl | h1
      ·exact absurd h2 hb
      ·exact .inr ⟨e',h1,h2,h3⟩
theorem Ct {ps:List (List Nat)} {o:Oper} {x:Nat} : x∈closure ps o↔∃e∈o.after.toList,Region.binds .any e=true∧(x=e.on∨x∈ps.getD e.on []):=by
 unfold closure
 rw [Cg]
 simp
theorem zx : ∀(l:List Oper) (ps:List (List Nat)) (i:Nat) (o:Oper),l[i]? =some o→(ci l ps).getD (ps.length+i) []=closure ((ci l ps).take (ps.length+i)) o
 | [],ps,i,o,h=>by simp at h
 | x::l,ps,0,o,h=>by
   simp at h
   subst h
   have h1 : ∀(l:List Oper) (qs:List (List Nat)),∃rs,ci l qs=qs++rs:=by
    intro l
    induction l with
    | nil=>intro qs;exact⟨[],by simp [ci]⟩
    | cons y l ih=>intro qs;obtain⟨rs,h⟩:=ih (qs++[closure qs y]);exact⟨closure qs y::rs,by rw [ci,h];simp⟩
   rw [ci]
   obtain⟨rs,hrs⟩:=h1 l (ps++[closure ps x])
   rw [hrs,Nat.add_zero]
   simp [List.getD_eq_getElem?_getD]
 | x::l,ps,i+1,o,h=>by
   rw [ci]
   have:=zx l (ps++[closure ps x]) i o (by simpa using h)
   rw [List.length_append,List.length_singleton] at this
   rwa [show ps.length+(i+1)=ps.length+1+i from by omega]
section
variable {ops:Array Oper}
theorem Js (hlt : ∀i o,ops[i]? =some o→∀e∈cS o,e<i) {i:Nat} {o:Oper} (ho:ops[i]? =some o) {j:Nat} : j∈(ci ops.toList []).getD i []↔∃e∈cS o,j=e∨j∈(ci ops.toList []).getD e []:=by
 have h:=zx ops.toList [] i o (by simpa using ho)
 rw [List.length_nil,Nat.zero_add] at h
 rw [h]
 rw [Ct]
 have hg : ∀e,e<i→((ci ops.toList []).take i).getD e []=(ci ops.toList []).getD e []:=fun e he=>by
  rw [List.getD_eq_getElem?_getD,List.getD_eq_getElem?_getD,List.getElem?_take,if_pos he]
 constructor
 ·rintro ⟨x,hx,hb,hj⟩
  have hm:x.on∈cS o:=lZ.2 ⟨x,by simpa using hx,hb,rfl⟩
  rw [hg _ (hlt i o ho _ hm)] at hj
  exact⟨x.on,hm,hj⟩
 ·rintro ⟨e,he,hj⟩
  obtain⟨x,hx,hb,rfl⟩:=lZ.1 he
  exact⟨x,by simpa using hx,hb,by rw [hg _ (hlt i o ho _ he)];exact hj⟩
theorem Hp (hlt : ∀i o,ops[i]? =some o→∀e∈cS o,e<i) : ∀(i j:Nat),j∈(ci ops.toList []).getD i []→j<i∧i<ops.size:=by
 intro i
 induction i using Nat.strongRecOn with
 | _ i ih=>
   intro j hj
   by_cases hi:i<ops.size
   ·have ho:ops[i]? =some ops[i]:=Array.getElem?_eq_getElem hi
    obtain⟨e,he,h⟩:=(Js hlt ho).1 hj
    have:=hlt i _ ho e he
    refine⟨?_,hi⟩
    rcases h with rfl | h
    ·exact this
    ·have:=(ih e this j h).1;omega
   ·exfalso
    have hlen : ∀(l:List Oper) (ps:List (List Nat)),(ci l ps).length =ps.length+l.length:=by
     intro l
     induction l with
     | nil=>intro ps;simp [ci]
     | cons x l ihl=>intro ps;rw [ci,ihl];simp;omega
    rw [List.getD_eq_getElem?_getD,List.getElem?_eq_none (by rw [hlen];simp;omega)] at hj
    cases hj
theorem zZ (hlt : ∀i o,ops[i]? =some o→∀e∈cS o,e<i) {L:Nat→Bool} (hc : ∀i o,ops[i]? =some o→L i=true→∀e∈cS o,L e=true) : ∀(i j:Nat),(∀o,ops[i]? =some o→∀e∈cS o,L e=true)→j∈(ci ops.toList []).getD i []→L j=true:=by
 intro i
 induction i using Nat.strongRecOn with
 | _ i ih=>
   intro j hb hj
   have hi:=(Hp hlt i j hj).2
   have ho:ops[i]? =some ops[i]:=Array.getElem?_eq_getElem hi
   obtain⟨e,he,h⟩:=(Js hlt ho).1 hj
   have hLe:=hb _ ho e he
   rcases h with rfl | h
   ·exact hLe
   ·exact ih e (hlt i _ ho e he) j (fun o' ho'=>hc e o' ho' hLe) h
end
structure Inv (g:Rg) (ops:Array Oper) (tm0:List PV) (nx0:Nat) (w0:World) (fz:Nat→Prop) (M:ij) (vals:List PV) (effs:List AH) (nxs:List Nat) (L:Nat→Bool) (a:Act) (w:World) (e:Env):Prop where
 size:a.tmps.size=tm0.length
 yes : ∀(j:Nat) (o:Oper) (t:Nat) (v:PV),ops[j]? =some o→o.dst=some t→L j=true→vals[j]? =some v→t<tm0.length→R w e v (a.tmps.getD t undef)
 no : ∀(t:Nat) (p:PV),(∀(j:Nat) (o:Oper),ops[j]? =some o→o.dst=some t→L j=false)→tm0[t]? =some p→R w e p (a.tmps.getD t undef)
 ob : ∀id o,(ovl L 0 effs g.h0).get id=some o→OR w e id o∧e.on id∧(o.gn=false→e.lv id)
 lo : ∀k,e.lv k→e.on k
 on : ∀id,e.on id→id<nx0∨∃j,j<vals.length∧L j=true∧nxs.getD j 0≤id∧id<nxs.getD (j+1) 0
 dis : ∀k k' b,e.lv k→e.lv k'→e.blk k b→e.blk k' b→k=k'
 bd : ∀k b,e.lv k→e.blk k b→(w0.heap.size≤b∨M b)∧b<w.heap.size
 ez:FzS w0 w fz e
 fzb:FzB w0 fz M
 low:Chg M w0 w
 root : ∀k,k<M.n→M.e.on k→e.on k∧e.adr k=M.e.adr k∧e.cap k=M.e.cap k∧e.len k=M.e.len k
 defers:a.defers=M.d
structure Fx (P:Program) (g:Rg) (ops:Array Oper) (tm0:List PV) (nx0:Nat) (vals:List PV) (effs:List AH) (nxs:List Nat) (ts:List (List Nat)):Prop where
 hc:dD P g.c
 dst:g.dsts=ops.toList.map (·.dst)
 ck : ∀i o,ops[i]? =some o→DF ops (ci ops.toList []) i o=true
 ap:apart ts (ci ops.toList []) effs 0=true
 len:vals.length=ops.size
 tr:Tr g ops.toList tm0 nx0 (ci ops.toList []) vals effs nxs ts
section
variable {P:Program} {g:Rg} {ops:Array Oper} {tm0:List PV} {nx0:Nat} {w0 w:World} {fz:Nat→Prop} {M:ij} {vals:List PV} {effs:List AH} {nxs:List Nat} {ts:List (List Nat)} {L:Nat→Bool} {a:Act} {e:Env}
theorem Fx.lt (h:Fx P g ops tm0 nx0 vals effs nxs ts) : ∀i o,ops[i]? =some o→∀e∈cS o,e<i:=fun i o ho e he=>by
 have:=h.ck i o ho
 simp only [DF,Bool.and_eq_true,List.all_eq_true,decide_eq_true_eq] at this
 exact this.1.2 e he
theorem Fx.dep (h:Fx P g ops tm0 nx0 vals effs nxs ts) {i j t:Nat} {o oj:Oper} (ho:ops[i]? =some o) (hj:ops[j]? =some oj) (hd:oj.dst=some t) (ht:t∈o.looksAt ops):(j∈cS o∧j<i)∨i∈(ci ops.toList []).getD j []:=by
 have:=h.ck i o ho
 simp only [DF,Bool.and_eq_true,List.all_eq_true] at this
 have h2:=this.2 (oj,j) (List.mem_zipIdx_iff_getElem?.2 (by simpa using hj))
 simp only [hd,Bool.and_eq_true,Bool.or_eq_true,Bool.not_eq_true',List.contains_eq_mem,decide_eq_true_eq,decide_eq_false_iff_not] at h2
 rcases h2.1 with h3 | h3
 ·exact absurd ht h3
 ·exact h3
theorem Fx.uniq (h:Fx P g ops tm0 nx0 vals effs nxs ts) {i j t:Nat} {oi oj:Oper} (hi:ops[i]? =some oi) (hj:ops[j]? =some oj) (hdi:oi.dst=some t) (hdj:oj.dst=some t):i=j:=by
 have:=h.ck i oi hi
 simp only [DF,Bool.and_eq_true,List.all_eq_true] at this
 have h2:=this.2 (oj,j) (List.mem_zipIdx_iff_getElem?.2 (by simpa using hj))
 simp only [hdj,Bool.and_eq_true,Bool.or_eq_true,decide_eq_true_eq] at h2
 rcases h2.2 with e | e
 ·exact e.symm
 ·simp [hdi] at e
theorem Fx.step (h:Fx P g ops tm0 nx0 vals effs nxs ts) {i:Nat} {o:Oper} (ho:ops[i]? =some o):rJ g tm0 (ci ops.toList []) vals effs nxs ts i o:=
 h.tr.step i o (by rw [h.len];exact (Array.getElem?_eq_some_iff.1 ho).1) (by simpa using ho)
theorem Fx.nxs_le (h:Fx P g ops tm0 nx0 vals effs nxs ts) {i:Nat} (hi:i<ops.size):nxs.getD i 0≤nxs.getD (i+1) 0:=by
 have ho:ops[i]? =some ops[i]:=Array.getElem?_eq_getElem hi
 rcases h.step ho with ⟨out,tm, -, -, -, -,h5, -⟩ | ⟨-, -,h5, -⟩
 ·rw [List.getD_eq_getElem?_getD (i:=i+1),h5];exact pS _ _
 ·rw [List.getD_eq_getElem?_getD (i:=i+1),h5];exact Nat.le_refl _
theorem Fx.nxs_mono (h:Fx P g ops tm0 nx0 vals effs nxs ts) : ∀{i j:Nat},i≤j→j≤ops.size→nxs.getD i 0≤nxs.getD j 0:=by
 intro i j hij
 obtain⟨d,rfl⟩:=Nat.exists_eq_add_of_le hij
 clear hij
 induction d with
 | zero=>intro _;exact Nat.le_refl _
 | succ d ih=>intro hj;exact Nat.le_trans (ih (by omega)) (h.nxs_le (by omega))
theorem Fx.eff (h:Fx P g ops tm0 nx0 vals effs nxs ts) {i:Nat} {x:AH} {id:Nat} (hx:effs[i]? =some x) (hid:(x.get id).isSome =true):i<ops.size∧id<nxs.getD (i+1) 0∧(nxs.getD i 0≤id∨id∈ts.getD i []):=by
 have hi:i<ops.size:=by rw [←h.len,←h.tr.lenE];exact (List.getElem?_eq_some_iff.1 hx).1
 have ho:ops[i]? =some ops[i]:=Array.getElem?_eq_getElem hi
 refine⟨hi,?_⟩
 rcases h.step ho with ⟨out,tm,h1,h2,h3,h4,h5,h6⟩ | ⟨h3,h4,h5,h6⟩
 ·rw [hx] at h4
  cases h4
  refine⟨?_,(Nq h1 hid).imp_right fun h7=>?_⟩
  ·rw [List.getD_eq_getElem?_getD,h5];exact mQ hid
  ·rw [sx] at h7
   split at h7
   ·rename_i h8;simpa using h8
   ·cases h7
 ·rw [hx] at h4
  cases h4
  cases hid
theorem Fx.apart (h:Fx P g ops tm0 nx0 vals effs nxs ts) {i j id:Nat} {y:AH} (hi:i<ops.size) (hT:id∈ts.getD i []) (hy:effs[j]? =some y) (h2:(y.get id).isSome =true) (hij:i≠j) :
 i∈(ci ops.toList []).getD j []∨j∈(ci ops.toList []).getD i []:=by
 have:=xn h.ap j y id hy h2 i (by rw [h.tr.lenT,h.len];exact hi) (by omega) hT
 rwa [Nat.zero_add] at this
theorem Fx.far (h:Fx P g ops tm0 nx0 vals effs nxs ts) {i j id:Nat} (hi:i<ops.size) (hj:j<ops.size) (h1:nxs.getD i 0≤id) (h2:id<nxs.getD (i+1) 0) (h3:nxs.getD j 0≤id) (h4:id<nxs.getD (j+1) 0):i=j:=by
 rcases Nat.lt_trichotomy i j with hlt | rfl | hlt
 ·have:=h.nxs_mono (i:=i+1) (j:=j) hlt (by omega);omega
 ·rfl
 ·have:=h.nxs_mono (i:=j+1) (j:=i) hlt (by omega);omega
theorem Fx.order (h:Fx P g ops tm0 nx0 vals effs nxs ts) {i j id:Nat} {x y:AH} (hx:effs[i]? =some x) (hy:effs[j]? =some y) (h1:(x.get id).isSome =true) (h2:(y.get id).isSome =true) (hij:i≠j) :
 i∈(ci ops.toList []).getD j []∨j∈(ci ops.toList []).getD i []:=by
 obtain⟨hi,hli,hni⟩:=h.eff hx h1
 obtain⟨hj,hlj,hnj⟩:=h.eff hy h2
 rcases hni with hni | hni
 ·rcases hnj with hnj | hnj
  ·exact absurd (h.far hi hj hni hli hnj hlj) hij
  ·exact (h.apart hj hnj hx h1 (Ne.symm hij)).symm
 ·exact h.apart hi hni hy h2 hij
theorem Fx.seen (h:Fx P g ops tm0 nx0 vals effs nxs ts) {i:Nat} {o:Oper} (ho:ops[i]? =some o) (hLi:L i=false) (hcl : ∀j∈(ci ops.toList []).getD i [],L j=true) (hback : ∀j,L j=true→i ∉ (ci ops.toList []).getD j [])
 {id:Nat} {ob:Ob} (hg:(cut (ts.getD i []) (viewAt ((ci ops.toList []).getD i []) 0 (effs.take i) g.h0)).get id=some ob):(ovl L 0 effs g.h0).get id=some ob:=by
 rw [sx] at hg
 split at hg
 case isFalse=>cases hg
 case isTrue hT=>
 have hT:id∈ts.getD i []:=by simpa using hT
 rw [rG,DR _ _ _ _ (fun j hj=>by
  rw [Nat.zero_add]
  cases hc:((ci ops.toList []).getD i []).contains j with
  | false=>rfl
  | true=>have:=(Hp h.lt i j (by simpa using hc)).1;omega)] at hg
 rw [←hg]
 refine (m8 effs 0 g.h0 g.h0 rfl fun j x hx hs=>?_).symm
 simp only [Nat.zero_add]
 cases hc:((ci ops.toList []).getD i []).contains j with
 | true=>exact (hcl j (by simpa using hc)).symm
 | false=>
   cases hLj:L j with
   | false=>rfl
   | true=>
     exfalso
     have hnc:j ∉ (ci ops.toList []).getD i []:=by simpa using hc
     have hij:i≠j:=fun hh=>by subst hh;rw [hLi] at hLj;cases hLj
     rcases h.apart (Array.getElem?_eq_some_iff.1 ho).1 hT hx hs hij with h3 | h3
     ·exact hback j hLj h3
     ·exact hnc h3
end
open Go.RowKit RegP RegL
section
variable {P:Program} {g:Rg} {ops:Array Oper} {tm0:List PV} {nx0:Nat} {w0 w:World} {fz:Nat→Prop} {M:ij} {vals:List PV} {effs:List AH} {nxs:List Nat} {ts:List (List Nat)} {L:Nat→Bool} {a:Act} {e:Env}
theorem Inv.tv (h:Fx P g ops tm0 nx0 vals effs nxs ts) (hv:Inv g ops tm0 nx0 w0 fz M vals effs nxs L a w e) {i:Nat} {o:Oper} (ho:ops[i]? =some o) (hb : ∀j∈cS o,L j=true) (hback : ∀j,L j=true→i ∉ (ci ops.toList []).getD j []) {t:Nat} (ht:t∈o.looksAt ops) :
 ∀p,(TV g.dsts tm0 (vals.take i))[t]? =some p→R w e p (a.tmps.getD t undef):=by
 intro p hp
 unfold TV at hp
 have hmem : ∀(d:Option Nat) (v:PV),(d,v)∈g.dsts.zip (vals.take i)→∃j oj,j<i∧ops[j]? =some oj∧oj.dst=d∧vals[j]? =some v:=fun d v hm=>by
  obtain⟨j,hj⟩:=List.mem_iff_getElem?.1 hm
  rw [List.getElem?_zip_eq_some] at hj
  obtain⟨h1,h2⟩:=hj
  rw [h.dst,List.getElem?_map] at h1
  obtain⟨oj,h3,h4⟩:=Option.map_eq_some_iff.1 h1
  rw [List.getElem?_take] at h2
  split at h2
  ·rename_i hji;exact⟨j,oj,hji,by simpa using h3,h4,h2⟩
  ·cases h2
 by_cases hex : ∃(j:Nat) (oj:Oper),ops[j]? =some oj∧oj.dst=some t
 ·obtain⟨j,oj,hoj,hdj⟩:=hex
  rcases h.dep ho hoj hdj ht with ⟨hjb,hji⟩ | hij
  case inr=>
   rw [jV (t:=t)] at hp
   ·refine hv.no t p (fun j' oj' h1 h2=>?_) hp
    have:=h.uniq h1 hoj h2 hdj
    subst this
    cases hL:L j' with
    | false=>rfl
    | true=>exact absurd hij (hback j' hL)
   ·intro d v hm hd
    obtain⟨j',oj',h1,h2,h3, -⟩:=hmem _ _ hm
    have:=h.uniq h2 hoj (by rw [h3,hd]) hdj
    subst this
    have:=(Hp h.lt j' i hij).1
    omega
  have hjl:j<vals.length:=by rw [h.len];exact (Array.getElem?_eq_some_iff.1 hoj).1
  have hvj:vals[j]? =some vals[j]:=List.getElem?_eq_getElem hjl
  rw [nP (t:=t) (v:=vals[j])] at hp
  ·obtain⟨q,hq,rfl⟩:=Option.map_eq_some_iff.1 hp
   exact hv.yes j oj t _ hoj hdj (hb j hjb) hvj (List.getElem?_eq_some_iff.1 hq).1
  ·refine List.mem_iff_getElem?.2 ⟨j,?_⟩
   rw [List.getElem?_zip_eq_some]
   exact⟨by rw [h.dst,List.getElem?_map,Array.getElem?_toList,hoj];exact congrArg some hdj,by rw [List.getElem?_take,if_pos hji];exact hvj⟩
  ·intro v' hm
   obtain⟨j',oj', -,h2,h3,h4⟩:=hmem _ _ hm
   have:=h.uniq h2 hoj h3 hdj
   subst this
   rw [hvj] at h4
   cases h4
   rfl
 ·rw [jV (t:=t)] at hp
  ·exact hv.no t p (fun j oj h1 h2=>absurd ⟨j,oj,h1,h2⟩ hex) hp
  ·intro d v hm hd
   obtain⟨j',oj', -,h2,h3, -⟩:=hmem _ _ hm
   exact hex ⟨j',oj',h2,by rw [h3,hd]⟩
theorem Fi (dsts:List (Option Nat)) (tm0 vals:List PV):(TV dsts tm0 vals).length =tm0.length:=by
 unfold TV
 generalize dsts.zip vals=l
 induction l generalizing tm0 with
 | nil=>rfl
 | cons x l ih=>rw [List.foldl_cons,ih,Bg]
theorem Inv.guard (h:Fx P g ops tm0 nx0 vals effs nxs ts) (hv:Inv g ops tm0 nx0 w0 fz M vals effs nxs L a w e) {i:Nat} {o:Oper} (ho:ops[i]? =some o) (hb : ∀j∈cS o,L j=true) (hback : ∀j,L j=true→i ∉ (ci ops.toList []).getD j []) {b:Bool} (hg:iE g.dsts o (TV g.dsts tm0 (vals.take i)) b) :
 Region.wanted o (yielded ops a.tmps)=b:=by
 unfold iE at hg
 unfold Region.wanted
 split at hg
 ·rename_i hgd;rw [hgd];exact hg.symm
 ·rename_i k want hgd
  rw [hgd]
  obtain⟨t,hk,hh⟩:=hg
  have hlook:t∈o.looksAt ops:=by
   have : (ops[k]?).bind (·.dst)=some t:=by
    rw [h.dst,List.getD_eq_getElem?_getD,List.getElem?_map,Array.getElem?_toList] at hk
    cases hok:ops[k]? with
    | none=>rw [hok] at hk;cases hk
    | some o=>rw [hok] at hk;exact hk
   unfold Oper.looksAt
   rw [hgd]
   simp [this]
  have hat : ∀p:PV,(TV g.dsts tm0 (vals.take i)).getD t .dead =p→p≠.dead →∃u,a.tmps[t]? =some u∧R w e p u:=fun p hp hd=>by
   rw [List.getD_eq_getElem?_getD] at hp
   cases ht:(TV g.dsts tm0 (vals.take i))[t]? with
   | none=>rw [ht] at hp;exact absurd hp.symm hd
   | some q=>
     rw [ht] at hp
     simp only [Option.getD_some] at hp
     subst hp
     have hlt:t<a.tmps.size:=by rw [hv.size,←Fi g.dsts tm0 (vals.take i)];exact (List.getElem?_eq_some_iff.1 ht).1
     refine⟨a.tmps[t],Array.getElem?_eq_getElem hlt,?_⟩
     have:=hv.tv h ho hb hback hlook q ht
     rwa [Array.getD_eq_getD_getElem?,Array.getElem?_eq_getElem hlt] at this
  have hy:=wB h.dst hk a.tmps
  simp only [hy]
  rcases hh with ⟨x,hx,rfl⟩ | ⟨hx,rfl⟩
  ·obtain⟨u,h1,h2⟩:=hat _ rfl (fun hh=>by rw [hh] at hx;cases hx)
   rw [ka hx] at h2
   subst h2
   rw [h1]
   cases x<;>cases want<;>rfl
  ·obtain⟨u,h1,h2⟩:=hat _ rfl (fun hh=>by rw [hx] at hh;cases hh)
   rw [hx] at h2
   unfold R at h2
   obtain⟨vs,rfl, -⟩:=h2
   rw [h1]
   rfl
theorem Inv.put (h:Fx P g ops tm0 nx0 vals effs nxs ts) (hv:Inv g ops tm0 nx0 w0 fz M vals effs nxs L a w e) {i:Nat} {o:Oper} (ho:ops[i]? =some o) {v:PV} (hvi:vals[i]? =some v) {u:Value} {w':World} {e':Env}
 (hm : ∀p x,R w e p x→R w' e' p x) (hu:R w' e' v u):(a.put o.dst u).tmps.size =tm0.length∧(a.put o.dst u).defers =M.d∧
 (∀(j:Nat) (oj:Oper) (t:Nat) (v:PV),ops[j]? =some oj→oj.dst=some t→upd L i j=true→vals[j]? =some v→t<tm0.length→R w' e' v ((a.put o.dst u).tmps.getD t undef))∧
 (∀(t:Nat) (p:PV),(∀(j:Nat) (oj:Oper),ops[j]? =some oj→oj.dst=some t→upd L i j=false)→tm0[t]? =some p→R w' e' p ((a.put o.dst u).tmps.getD t undef)):=by
 have hgd : ∀t:Nat,t<tm0.length→(a.put o.dst u).tmps.getD t undef=if o.dst=some t then u else a.tmps.getD t undef:=fun t ht=>by
  rw [Array.getD_eq_getD_getElem?,RegP.put_get,Array.getD_eq_getD_getElem?]
  split
  ·rw [Array.getElem?_eq_getElem (by rw [hv.size];exact ht)];rfl
  ·rfl
 refine⟨by rw [RegP.put_size];exact hv.size,by rw [RegP.put_defers'];exact hv.defers,fun j oj t v' hoj hdj hL hvj ht=>?_,fun t p hno hp=>?_⟩
 ·rw [hgd t ht]
  by_cases hji:j=i
  ·subst hji
   rw [ho] at hoj;cases hoj
   rw [hvi] at hvj;cases hvj
   rw [if_pos hdj]
   exact hu
  ·rw [if_neg fun hd=>hji (h.uniq hoj ho hdj hd)]
   rw [tQ L hji] at hL
   exact hm _ _ (hv.yes j oj t v' hoj hdj hL hvj ht)
 ·have ht:=(List.getElem?_eq_some_iff.1 hp).1
  rw [hgd t ht]
  rw [if_neg fun hd=>by have:=hno i o ho hd;rw [pp] at this;cases this]
  refine hm _ _ (hv.no t p (fun j oj h1 h2=>?_) hp)
  have:=hno j oj h1 h2
  by_cases hji:j=i
  ·subst hji;rw [pp] at this;cases this
  ·rwa [tQ L hji] at this
theorem Inv.step (h:Fx P g ops tm0 nx0 vals effs nxs ts) (hv:Inv g ops tm0 nx0 w0 fz M vals effs nxs L a w e) {i:Nat} {o:Oper} (ho:ops[i]? =some o) (hLi:L i=false) (hb : ∀j∈cS o,L j=true)
 (hcl : ∀j oj,ops[j]? =some oj→L j=true→∀k∈cS oj,L k=true) {Q:Exit→Act→World→Prop} {K:Act→World→Prop} (hK : ∀a' w' e',Inv g ops tm0 nx0 w0 fz M vals effs nxs (upd L i) a' w' e'→K a' w'):wpOp P ops Q i K a w:=by
 have hlist : ∀j∈(ci ops.toList []).getD i [],L j=true:=fun j hj=>zZ h.lt hcl i j (fun o' ho'=>by rw [ho] at ho';cases ho';exact hb) hj
 have hback : ∀j,L j=true→i ∉ (ci ops.toList []).getD j []:=fun j hj hi=>by
  have:=zZ h.lt hcl j i (fun o' ho'=>hcl j o' ho' hj) hi
  rw [hLi] at this
  cases this
 have hi:i<ops.size:=(Array.getElem?_eq_some_iff.1 ho).1
 unfold wpOp
 simp only [ho]
 rcases h.step ho with ⟨out,tm,h1,h2,h3,h4,h5,h6,h7⟩ | ⟨h3,h4,h5,h7⟩
 ·rw [if_pos (hv.guard h ho hb hback h7)]
  refine .inl (sB ?_)
  have hρ : ∀x∈o.op.operands,R w e (ev tm x) (a.eval x):=fun x hx=>by
   cases x with
   | tmp t=>
     have ht:t∈o.looksAt ops:=List.mem_append_left _ (List.mem_filterMap.2 ⟨.tmp t,by simpa using hx,rfl⟩)
     show R w e (tm.getD t .dead) (a.tmps.getD t undef)
     have he:=h6.getD t
     rw [he.R,List.getD_eq_getElem?_getD]
     cases hp:(TV g.dsts tm0 (vals.take i))[t]? with
     | none=>simp only [Option.getD_none];unfold R;trivial
     | some p=>exact hv.tv h ho hb hback ht p hp
   | const v=>exact GK v
   | global g=>unfold ev R;trivial
   | func f=>unfold ev R;exact⟨#[],rfl,by unfold Rs;rfl⟩
  have hzw:FzW w e.fz:=hv.ez.fw hv.fzb hv.low
  have hz:=hzw.lt
  have hn1:nxs.getD (i+1) 0=fO (nxs.getD i 0) out.eff:=by rw [List.getD_eq_getElem?_getD,h5];rfl
  have hn0:nx0≤nxs.getD i 0:=by have:=h.nxs_mono (Nat.zero_le i) (by omega);rwa [h.tr.st] at this
  have hfresh : ∀k,nxs.getD i 0≤k→(out.eff.get k).isSome =true→¬e.on k:=fun k hk hs hon=>by
   have hlt:k<nxs.getD (i+1) 0:=by rw [hn1];exact mQ hs
   rcases hv.on k hon with h8 | ⟨j,hj,hLj,h8,h9⟩
   ·omega
   ·have : i=j:=h.far hi (by rw [←h.len];exact hj) hk hlt h8 h9
    subst this
    rw [hLi] at hLj
    cases hLj
  have hdone:dZ P o a w e (nxs.getD i 0) out:=KW h.hc h1 h2 hρ ⟨fun id o' hid=>hv.ob id o' (h.seen ho hLi hlist hback hid),hzw,hv.dis⟩ hfresh
  refine Oper.wp_mono ?_ hdone
  intro a' w' hpost
  obtain⟨u,e',rfl,hp⟩:=hpost
  have hlowblk : ∀b,b<w0.heap.size→¬M b→w'.heap[b]? =w.heap[b]? :=fun b hb' hM=>hp.chg.block b (Nat.lt_of_lt_of_le hb' hv.low.size) fun ⟨k,hk,_,hkb⟩=>by
   rcases (hv.bd k b hk hkb).1 with q | q
   ·omega
   ·exact hM q
  have hsame:Same e.fz w w':=hv.ez.same hz hp
  obtain⟨p1,p2,p3,p4⟩:=hv.put h ho h3 (fun p x=>jt hsame hp.le p x) hp.val
  obtain⟨hd',hb''⟩:=hp.keep (X:=fun b=>w0.heap.size≤b∨M b) (fun b hb=>.inl (Nat.le_trans hv.low.size hb)) hv.lo hv.dis hv.bd
  refine hK _ w' e' ⟨p1,p3,p4,?_,hp.lo hv.lo,?_,hd',hb'',hv.ez.post hz hv.low.size hv.lo (fun k b q r=>(hv.bd k b q r).2) hp,hv.fzb,⟨hp.chg.os.trans hv.low.os,hp.chg.tape.trans hv.low.tape,hp.chg.output.trans hv.low.output,Nat.le_trans hv.low.size hp.chg.size,fun b hb hM=>(hlowblk b hb hM).trans (hv.low.block b hb hM)⟩,we hv.root hp.le,p2⟩
  ·intro id ob hid
   cases hx:out.eff.get id with
   | some o'=>
     have hl:=Cj (L:=upd L i) (id:=id) (o:=o') effs 0 i g.h0 out.eff h4 hx (by rw [Nat.zero_add,pp]) (fun j y hij hy hLj=>by
      rw [Nat.zero_add,tQ L (by omega)] at hLj
      cases hy2:y.get id with
      | none=>rfl
      | some o''=>
        exfalso
        rcases h.order h4 hy (by rw [hx];rfl) (by rw [hy2];rfl) (by omega) with h8 | h8
        ·exact hback j hLj h8
        ·have:=(Hp h.lt i j h8).1;omega)
     rw [hl] at hid
     cases hid
     exact hp.eff id _ hx
   | none=>
     have hag:(ovl (upd L i) 0 effs g.h0).get id=(ovl L 0 effs g.h0).get id:=m8 effs 0 g.h0 g.h0 rfl fun j x hj hs=>by
      rw [Nat.zero_add]
      refine tQ L fun hji=>?_
      subst hji
      rw [h4] at hj
      cases hj
      rw [hx] at hs
      cases hs
     rw [hag] at hid
     exact hp.ob hsame hv.dis hx (hv.ob id ob hid)
  ·intro id hid
   rcases hp.new id hid with h8 | ⟨h8,h9⟩
   ·rcases hv.on id h8 with h10 | ⟨j,hj,hLj,h10⟩
    ·exact .inl h10
    ·exact .inr ⟨j,hj,by unfold upd;rw [hLj,Bool.or_true],h10⟩
   ·exact .inr ⟨i,by rw [h.len];exact hi,pp L i,h8,by rw [hn1];exact mQ h9⟩
 ·rw [if_neg (by rw [hv.guard h ho hb hback h7];exact Bool.false_ne_true)]
  obtain⟨p1,p2,p3,p4⟩:=hv.put h ho h3 (w':=w) (e':=e) (u:=undef) (fun _ _ hr=>hr) (by unfold R;exact⟨#[],rfl,by unfold Rs;rfl⟩)
  refine hK _ w e ⟨p1,p3,p4,?_,hv.lo,?_,hv.dis,hv.bd,hv.ez,hv.fzb,hv.low,hv.root,p2⟩
  ·intro id ob hid
   have hag:(ovl (upd L i) 0 effs g.h0).get id=(ovl L 0 effs g.h0).get id:=m8 effs 0 g.h0 g.h0 rfl fun j x hj hs=>by
    rw [Nat.zero_add]
    refine tQ L fun hji=>?_
    subst hji
    rw [h4] at hj
    cases hj
    cases hs
   rw [hag] at hid
   exact hv.ob id ob hid
  ·intro id hid
   rcases hv.on id hid with h10 | ⟨j,hj,hLj,h10⟩
   ·exact .inl h10
   ·exact .inr ⟨j,hj,by unfold upd;rw [hLj,Bool.or_true],h10⟩
end
open Go.RowKit RegP RegL
section
variable {P:Program} {g:Rg} {ops:Array Oper} {tm0:List PV} {nx0:Nat} {w0 w:World} {fz:Nat→Prop} {M:ij} {vals:List PV} {effs:List AH} {nxs:List Nat} {ts:List (List Nat)} {L:Nat→Bool} {a:Act} {e:Env}
theorem Inv.all (h:Fx P g ops tm0 nx0 vals effs nxs ts) (hv:Inv g ops tm0 nx0 w0 fz M vals effs nxs L a w e) (hL : ∀i,i<ops.size→L i=true) {tm':List PV} (he:Eqv tm' (TV g.dsts tm0 vals)) :
 SR w0 fz M ⟨tm',effs.foldl (fun h e=>e++h) g.h0,nxs.getD ops.size 0⟩ a w e:=by
 refine⟨by rw [hv.size];show _=tm'.length;rw [he.1,Fi],?_,?_,hv.lo,?_,hv.dis,hv.bd,hv.ez,hv.fzb,hv.low,hv.root,hv.defers⟩
 ·intro t p hp
  have hlt:=(List.getElem?_eq_some_iff.1 hp).1
  obtain⟨q,hq⟩ : ∃q,(TV g.dsts tm0 vals)[t]? =some q:=⟨_,List.getElem?_eq_getElem (by rw [←he.1];exact hlt)⟩
  rw [(he.2 t p q hp hq).R]
  unfold TV at hq
  have hmem : ∀(d:Option Nat) (v:PV),(d,v)∈g.dsts.zip vals→∃(j:Nat) (oj:Oper),ops[j]? =some oj∧oj.dst=d∧vals[j]? =some v:=fun d v hm=>by
   obtain⟨j,hj⟩:=List.mem_iff_getElem?.1 hm
   rw [List.getElem?_zip_eq_some] at hj
   obtain⟨h1,h2⟩:=hj
   rw [h.dst,List.getElem?_map] at h1
   obtain⟨oj,h3,h4⟩:=Option.map_eq_some_iff.1 h1
   exact⟨j,oj,by simpa using h3,h4,h2⟩
  by_cases hex : ∃(j:Nat) (oj:Oper),ops[j]? =some oj∧oj.dst=some t
  ·obtain⟨j,oj,hoj,hdj⟩:=hex
   have hjl:j<ops.size:=(Array.getElem?_eq_some_iff.1 hoj).1
   have hvj:vals[j]? =some (vals[j]'(by rw [h.len];exact hjl)):=List.getElem?_eq_getElem _
   generalize vals[j]'(by rw [h.len];exact hjl)=vj at hvj
   rw [nP (t:=t) (v:=vj)] at hq
   ·obtain⟨q',hq',rfl⟩:=Option.map_eq_some_iff.1 hq
    exact hv.yes j oj t _ hoj hdj (hL j hjl) hvj (List.getElem?_eq_some_iff.1 hq').1
   ·refine List.mem_iff_getElem?.2 ⟨j,?_⟩
    rw [List.getElem?_zip_eq_some]
    exact⟨by rw [h.dst,List.getElem?_map,Array.getElem?_toList,hoj];exact congrArg some hdj,hvj⟩
   ·intro v' hm
    obtain⟨j',oj',h2,h3,h4⟩:=hmem _ _ hm
    have:=h.uniq h2 hoj h3 hdj
    subst this
    rw [hvj] at h4
    cases h4
    rfl
  ·rw [jV (t:=t)] at hq
   ·exact hv.no t q (fun j oj h1 h2=>absurd ⟨j,oj,h1,h2⟩ hex) hq
   ·intro d v hm hd
    obtain⟨j',oj',h2,h3, -⟩:=hmem _ _ hm
    exact hex ⟨j',oj',h2,by rw [h3,hd]⟩
 ·intro id o hid
  refine hv.ob id o ?_
  rw [Aj effs 0] at hid
  rw [←hid]
  refine m8 effs 0 g.h0 g.h0 rfl fun j x hj _=>?_
  rw [Nat.zero_add]
  exact hL j (by rw [←h.len,←h.tr.lenE];exact (List.getElem?_eq_some_iff.1 hj).1)
 ·intro id hid
  show id<nxs.getD ops.size 0
  rcases hv.on id hid with h1 | ⟨j,hj, -, -,h2⟩
  ·have:=h.nxs_mono (Nat.zero_le ops.size) (Nat.le_refl _)
   rw [h.tr.st] at this
   omega
  ·have:=h.nxs_mono (i:=j+1) (j:=ops.size) (by rw [←h.len];exact hj) (Nat.le_refl _)
   omega
theorem Kr (h:Fx P g ops tm0 nx0 vals effs nxs ts) {tm':List PV} (he:Eqv tm' (TV g.dsts tm0 vals)) {Q':Exit→Act→World→Prop} (hQ : ∀a w e,SR w0 fz M ⟨tm',effs.foldl (fun h e=>e++h) g.h0,nxs.getD ops.size 0⟩ a w e→Q' .normal a w) :
 ∀(m:Nat) (listed:Array Bool) (a:Act) (w:World) (e:Env),unl listed ops.size=m→listed.size=ops.size→(∀i o,ops[i]? =some o→listed.getD i false=true→∀e∈cS o,listed.getD e false=true)→
  Inv g ops tm0 nx0 w0 fz M vals effs nxs (fun i=>listed.getD i false) a w e→wpAny P .any ops Q' m listed a w:=by
 intro m
 induction m with
 | zero=>
   intro listed a w e hm hsz hcl hv
   have hall:=CD hm
   refine⟨?_,hQ a w e (hv.all h hall he)⟩
   rw [List.eq_nil_iff_forall_not_mem]
   intro i hi
   obtain⟨hun,o,hoi, -⟩:=tZ.1 hi
   have:=hall i (Array.getElem?_eq_some_iff.1 hoi).1
   have hlt:i<listed.size:=by rw [hsz];exact (Array.getElem?_eq_some_iff.1 hoi).1
   simp only [Array.getD_eq_getD_getElem?,Array.getElem?_eq_getElem hlt,Option.getD_some] at this hun
   rw [this] at hun
   cases hun
 | succ m ih=>
   intro listed a w e hm hsz hcl hv
   obtain⟨i0,hi0,hu0,hb0⟩:=Ou (n:=ops.size) (listed:=listed) (by omega)
   refine⟨fun hnil=>?_,fun i hi=>?_⟩
   ·exfalso
    have ho:ops[i0]? =some ops[i0]:=Array.getElem?_eq_getElem hi0
    have : i0∈Region.ready .any ops listed:=tZ.2 ⟨by
     have : i0<listed.size:=by omega
     simpa [Array.getD_eq_getD_getElem?,Array.getElem?_eq_getElem this] using hu0,_,ho,fun e he=>hb0 e (h.lt i0 _ ho e he)⟩
    rw [hnil] at this
    cases this
   ·obtain⟨hun,o,hoi,hall⟩:=tZ.1 hi
    have his:i<ops.size:=(Array.getElem?_eq_some_iff.1 hoi).1
    have hilt:i<listed.size:=by omega
    have hun':listed.getD i false=false:=by
     simpa [Array.getD_eq_getD_getElem?,Array.getElem?_eq_getElem hilt] using hun
    have hupd:(fun j=>(listed.setIfInBounds i true).getD j false)=upd (fun j=>listed.getD j false) i:=by
     funext j
     by_cases hji:j=i
     ·subst hji
      rw [pp]
      simp [hilt]
     ·rw [tQ _ hji];exact getD_set_ne false (fun e=>hji e.symm)
    refine hv.step h hoi hun' hall hcl fun a' w' e' hv'=>ih _ a' w' e' ?_ (by simpa using hsz) ?_ (by rw [hupd];exact hv')
    ·have:=M5 (n:=ops.size) (listed:=listed) (i:=i) hilt hun' his
     omega
    ·intro j oj hj hLj e he
     by_cases hji:j=i
     ·subst hji
      rw [hoi] at hj;cases hj
      exact getD_set_true (hall e he)
     ·rw [getD_set_ne false (fun e=>hji e.symm)] at hLj
      exact getD_set_true (hcl j oj hj hLj e he)
end
theorem DA {P:Program} {c:Cx} {w0 w:World} {fz:Nat→Prop} {M:ij} {st:AS} {a:Act} {e:Env} {id:Nat} {ops:Array Oper} {Q:AS→Prop} {Q':Exit→Act→World→Prop} (hc:dD P c) (hm:P.follows .mixedOrders =true) (hck:E7 ops=true)
 (hQ : ∀st a w e,Q st→SR w0 fz M st a w e→Q' .normal a w) (h:o3 ⟨c,true,ops.toList.map (·.dst),st.h⟩ Q ops.toList 0 [] [] [] st.tm st.nx) (hs:SR w0 fz M st a w e):(Code.region id ops true).wp P Q' a w:=by
 obtain⟨vals,effs,nxs,ts,tm',h1,h2,hap,h3,h4⟩:=E8 (g:=⟨c,true,ops.toList.map (·.dst),st.h⟩) rfl (ops:=ops.toList) rfl (tm0:=st.tm) (n0:=st.nx) (cl:=ci ops.toList []) ops.toList [] [] [] [] [st.nx] st.tm st.nx ⟨[],rfl,rfl⟩ rfl rfl
  ⟨rfl,rfl,rfl,rfl,fun j o hj=>by simp at hj⟩ rfl ⟨by rw [Fi],fun t p q hp hq=>by
    have : TV (ops.toList.map (·.dst)) st.tm []=st.tm:=by unfold TV;simp
    rw [this,hp] at hq
    cases hq
    exact .refl _⟩ h
 have h1':vals.length=ops.size:=by rw [h1];simp
 unfold E7 at hck
 rw [List.all_eq_true] at hck
 have hfx:Fx P ⟨c,true,ops.toList.map (·.dst),st.h⟩ ops st.tm st.nx vals effs nxs ts:=⟨hc,rfl,fun i o ho=>hck (o,i) (List.mem_zipIdx_iff_getElem?.2 (by simpa using ho)),hap,h1',h2⟩
 refine wp_region_any hm ?_
 have hfalse : ∀k,(Array.replicate ops.size false).getD k false=false:=fun k=>by
  by_cases h:k<ops.size<;>simp [h]
 have hu:unl (Array.replicate ops.size false) ops.size=ops.size:=by
  have : ∀m,unl (Array.replicate ops.size false) m=m:=by
   intro m
   induction m with
   | zero=>rfl
   | succ m ih=>
     unfold unl at *
     rw [List.range_succ,List.countP_append,ih]
     by_cases h:m<ops.size<;>simp [h]
  exact this _
 refine Kr hfx h3 (fun a w e hsr=>hQ _ a w e (by simpa using h4) hsr) ops.size (Array.replicate ops.size false) a _ e hu (by simp) (fun i o _ h=>by rw [hfalse i] at h;cases h) ?_
 refine⟨hs.size,fun j o t v _ _ hL=>absurd hL (by rw [hfalse j];exact Bool.false_ne_true),fun t p _ hp=>jt (w:=w) (w':=w.drew) (fun _ _=>rfl) (.refl e) p _ (hs.tm t p hp),?_,hs.lo,fun id hid=>.inl (hs.lt id hid),hs.dis,hs.bd,⟨hs.ez.sub,hs.ez.sup,hs.ez.nf⟩,hs.fzb,⟨hs.low.os,hs.low.tape,hs.low.output,hs.low.size,hs.low.block⟩,hs.root,hs.defers⟩
 intro id o hid
 have hag:(ovl (fun i=>(Array.replicate ops.size false).getD i false) 0 effs st.h).get id=st.h.get id:=by
  rw [show (fun i=>(Array.replicate ops.size false).getD i false)=fun _=>false from funext hfalse]
  have : ∀(effs:List AH) (i:Nat),ovl (fun _=>false) i effs st.h=st.h:=by
   intro effs
   induction effs with
   | nil=>intro i;rfl
   | cons x r ih=>intro i;unfold ovl;exact ih (i+1)
  rw [this]
 obtain⟨q1,q2,q3⟩:=hs.ob id o (by rw [←hag];exact hid)
 exact⟨rV (w:=w) (w':=w.drew) (fun _ _=>rfl) (.refl e) q2 (fun b _=>⟨fun h=>h,rfl⟩) q1,q2,q3⟩
open Go.RowKit
def chk (ρ:List Nat) (h:AH) (n:Nat):Bool:=nodupB ρ&&(Nat.beq ρ.length n&&h.all fun q=>Nat.blt q.1 n&&q.2.idIn (List.range n))
mutual
def tj:PV→PV→Prop
 | .bt,.b y=>y=true
 | .bf,.b y=>y=false
 | .b x,.b y=>x=y
 | .nb x,.b y=>(!x)=y
 | .i k a,.i k' b=>k=k'∧a=b
 | .s a,.s b=>a=b
 | .tup l,.tup m=>zV l m
 | .agg l,.agg m=>zV l m
 | .esl,.rsl _ L=>L=[]
 | p,q=>p=q
def zV:List PV→List PV→Prop
 | [],[]=>True
 | [p],[q]=>tj p q
 | p::ps,q::qs=>tj p q∧zV ps qs
 | _,_=>False
end
def qH:Ob→Ob→Prop
 | .cells l ty,.cells m ty'=>zV l m∧ty=ty'
 | .it l k,.it l' k'=>l=l'∧k=k'
 | o,o'=>o=o'
def obs (ρ:List Nat) (st:AH):AH→Prop→Prop
 | [],r=>r
 | (k,o)::l,r=>(match st.get (look ρ k) with | some x=>qH x (o.rn (look ρ)) | none=>False)∧obs ρ st l r
def tms (ρ:List Nat) (tm:List PV):List (Nat×PV)→Prop→Prop
 | [],r=>r
 | (t,p)::l,r=>tj (tm.getD t .dead) (p.rn (look ρ))∧tms ρ tm l r
def keep (n0:Nat) (ρ:List Nat):Bool:=Nat.ble n0 ρ.length&&(List.range n0).all fun k=>Nat.beq (look ρ k) k
def meets (n n0:Nat) (ρ:List Nat) (st:AS) (li:LI) (r:Prop):Prop:=
 (Nat.beq st.tm.length n&&keep n0 ρ&&chk ρ li.h li.nx&&li.tm.all fun q=>q.2.idIn (List.range li.nx))=true∧tms ρ st.tm li.tm (obs ρ st.h li.h r)
abbrev WP:=(AEx→AS→Prop)→AS→Prop
def unr (b:WP):Nat→WP
 | 0,_,_=>False
 | n+1,Q,st=>b (fun e st'=>match e with | .normal =>unr b n Q st' | e=>Q e st') st
inductive LV where
 | s (t:Nat) (k:aw) | c (id off:Nat) (k:aw) | o (id:Nat) (sh:List aw)
@[reducible] def LV.k:LV→aw
 | .s _ k=>k
 | .c _ _ k=>k
 | .o _ sh=>.r sh
@[reducible] def St2 (x:Type):List LV→Type
 | []=>x
 | v::r=>x×St2 v.k.Ty r
@[reducible] def St:List LV→Type
 | []=>Unit
 | v::r=>St2 v.k.Ty r
inductive Pt where
 | s (t:Nat) | c (id off:Nat)
def Pt.at (st:AS):Pt→PV
 | .s t=>st.tm.getD t .dead
 | .c id off=>match st.h.get id with
   | some (.cells l _)=>l.getD off .dead
   | some (.it _ k)=>.i .i64 k
   | _=>.dead
def rid:PV→Nat
 | .osl id=>id
 | .ptr id _=>id
 | _=>0
def OF (st st':AS) (k:Nat):List Pt→Nat
 | []=>k
 | p::r=>if Nat.beq (rid (p.at st)) k then rid (p.at st') else OF st st' k r
def rho (st st':AS) (al:List Pt):List Nat:=(List.range st.nx).map fun k=>OF st st' k al
def gI:PV→Int
 | .i _ n=>n
 | _=>0
def gB:PV→Bool
 | .bt =>true
 | .b x=>x
 | .nb x=>!x
 | _=>false
def gS:PV→List UInt8
 | .s l=>l
 | _=>[]
def gR (sh:List aw):PV→List (El sh)
 | .rsl sh' L=>(kE sh' sh L).getD []
 | _=>[]
def gv:(t:aw)→PV→t.Ty
 | .i _,v=>gI v
 | .b,v=>gB v
 | .s,v=>gS v
 | .r sh,v=>gR sh v
def UK (sh:List aw):Option Ob→List (El sh)
 | some (.own sh' L _)=>(kE sh' sh L).getD []
 | some (.arr k _ L _)=>(kE [k] sh L).getD []
 | _=>[]
def SC (ρ:List Nat) (st:AS):(v:LV)→v.k.Ty
 | .s t k=>gv k (st.tm.getD t .dead)
 | .c id off k=>gv k (Pt.at st (.c (look ρ id) off))
 | .o id sh=>UK sh (st.h.get (look ρ id))
def Pn (ρ:List Nat) (st:AS) {x:Type} (a:x):(r:List LV)→St2 x r
 | []=>a
 | v::r=>(a,Pn ρ st (SC ρ st v) r)
def T3 (ρ:List Nat) (st:AS):(vs:List LV)→St vs
 | []=>()
 | v::r=>Pn ρ st (SC ρ st v) r
def Uj {x:Type} (f:x→PV) (v0:LV):(r:List LV)→St2 x r→List (LV×PV)
 | [],a=>[(v0,f a)]
 | v::r,p=>(v0,f p.1)::Uj v.k.pv v r p.2
def pvs:(vs:List LV)→St vs→List (LV×PV)
 | [],_=>[]
 | v::r,s=>Uj v.k.pv v r s
def Hc:List (LV×PV)→List (Nat×PV)
 | []=>[]
 | (.s t _,p)::r=>(t,p)::Hc r
 | _::r=>Hc r
def UG (sh:List aw) (L:List (El sh)):Ob→Ob
 | .own _ _ ty=>.own sh L ty
 | .arr k n M ty=>match kE sh [k] L with
   | some L'=>.arr k n L' ty
   | none=>.arr k n M ty
 | o=>o
def Nc (k:Nat) (o:Ob):List (LV×PV)→Ob
 | []=>o
 | (.c id off _,p)::r=>Nc k (if Nat.beq id k then (match o with | .cells l ty=>.cells (l.set off p) ty | .it l _=>.it l (gI p) | o=>o) else o) r
 | (.o id _,.rsl sh L)::r=>Nc k (if Nat.beq id k then (UG sh L o) else o) r
 | _::r=>Nc k o r
def kept (ds al vt mv:List Nat):Nat→List PV→List (Nat×PV)
 | _,[]=>[]
 | t,.dead ::r=>kept ds al vt mv (t+1) r
 | t,p::r=>if !vt.contains t&&(al.contains t||(!ds.contains t&&p.ids.all fun k=>!mv.contains k)) then (t,p)::kept ds al vt mv (t+1) r else kept ds al vt mv (t+1) r
def ptS:List Pt→List Nat
 | []=>[]
 | .s t::r=>t::ptS r
 | _::r=>ptS r
def C5 (h:AH) (dr:List Nat) (vl:List (LV×PV)):Nat→AH
 | 0=>[]
 | k+1=>if dr.contains k then C5 h dr vl k else match h.get k with
   | some (.gone)=>C5 h dr vl k
   | some o=>(k,Nc k o vl)::C5 h dr vl k
   | none=>C5 h dr vl k
def hd (st:AS) (ds:List Nat) (al:List Pt) (dr:List Nat) (vl:List (LV×PV)):LI:=
 ⟨Hc vl++kept ds (ptS al) ((Hc vl).map (·.1)) (al.map fun p=>rid (p.at st)) 0 st.tm,C5 st.h dr vl st.nx,st.nx⟩
def nil1 (st:AS) (p:Pt) (sh:List aw) (ty:TypeId):AS:=match p with
 | .s t=>match st.tm.getD t .dead with
   | .esl =>⟨st.tm.set t (.osl st.nx),(st.nx,.own sh [] ty)::st.h,st.nx+1⟩
   | _=>st
 | .c id off=>match st.h.get id with
   | some (.cells l tc)=>match l.getD off .dead with
     | .esl =>⟨st.tm,(st.nx,.own sh [] ty)::(id,.cells (l.set off (.osl st.nx)) tc)::st.h,st.nx+1⟩
     | _=>st
   | _=>st
def nils:List (Pt×List aw×TypeId)→AS→AS
 | [],st=>st
 | (p,sh,ty)::r,st=>nils r (nil1 st p sh ty)
structure Hd (σ:Type) where
 J:σ→Prop
 μ:σ→Nat
 lt:Nat→Nat→Prop
theorem hdl {σ:Type} {H:Hd σ} {a:σ→Prop} {b:σ→Nat} (h:H=⟨a,b,(· < ·)⟩):∀m n,H.lt m n→m<n:=by subst h;exact fun _ _ h=>h
def Sc (n0:Nat) (ds:List Nat) (al:List Pt) (dr:List Nat) (vs:List LV) (st st':AS) (K:St vs→Prop) (ρ:List Nat) (s:St vs):Prop:=meets st.tm.length n0 ρ st' (hd st ds al dr (pvs vs s)) (K s)
def Pi (n0:Nat) (ds:List Nat) (al:List Pt) (dr:List Nat) (vs:List LV) (st st':AS) (K:St vs→Prop) (ρ:List Nat):Prop:=Sc n0 ds al dr vs st st' K ρ (T3 ρ st' vs)
def SP (n0:Nat) (ds:List Nat) (b:WP) (Q:AEx→AS→Prop) (vs:List LV) (al:List Pt) (dr:List Nat) (H:Hd (St vs)) (st:AS):Prop:=
 Pi n0 ds al dr vs st st (fun s=>H.J s) (List.range st.nx)∧∀s,H.J s→b (fun e st'=>match e with
  | .normal =>Pi n0 ds al dr vs st st' (fun s'=>H.J s'∧H.lt (H.μ s') (H.μ s)) (rho st st' al)
  | e=>Q e st') ((hd st ds al dr (pvs vs s)).as st.tm.length)
def TX (n0:Nat) (ds:List Nat) (b:WP) (Q:AEx→AS→Prop) (st0:AS):Prop:=
 ∃(key:Nat) (nw:List (Pt×List aw×TypeId)) (vs:List LV) (al:List Pt) (dr:List Nat) (H:Hd (St vs)),Nat.beq key (ds.headD 0)=true∧(∀m n,H.lt m n→m<n)∧SP n0 ds b Q vs al dr H (nils nw st0)
def OG (n0:Nat) (ds:List Nat) (b:WP) (Q:AEx→AS→Prop) (st:AS):Prop:=
 (∀_:Unit,unr b 8 Q st)∨TX n0 ds b Q st
def dsO:List Oper→List Nat
 | []=>[]
 | o::r=>match o.dst with
   | some t=>t::dsO r
   | none=>dsO r
def Ft:Code→List Nat
 | .region _ ops _=>dsO ops.toList
 | .seq a b=>Ft a++Ft b
 | .cond _ a b=>Ft a++Ft b
 | .block _ a=>Ft a
 | .loop a=>Ft a
 | _=>[]
def setB (st:AS) (x:Operand) (v:PV):AS:=match x with
 | .tmp t=>⟨st.tm.set t v,st.h,st.nx⟩
 | _=>st
def awp (c:Cx):Code→WP
 | .skip,Q,st=>Q .normal st
 | .region id ops draw,Q,st=>o3 ⟨c,draw,ops.toList.map (·.dst),st.h⟩ (fun st'=>Q .normal (O9 (c.K id) st')) ops.toList 0 [] [] [] st.tm st.nx
 | .seq a b,Q,st=>awp c a (fun e st'=>match e with | .normal =>awp c b Q st' | e=>Q e st') st
 | .cond x t e,Q,st=>match ev st.tm x with
   | .bt =>awp c t Q st
   | .bf =>awp c e Q st
   | .b v=>(v=true→awp c t Q (setB st x .bt))∧(v=false→awp c e Q (setB st x .bf))
   | .nb v=>(v=false→awp c t Q (setB st x .bt))∧(v=true→awp c e Q (setB st x .bf))
   | _=>False
 | .block id body,Q,st=>awp c body (fun e st'=>match e with | .exit k=>if k=id then Q .normal st' else Q (.exit k) st' | e=>Q e st') st
 | .loop body,Q,st=>OG c.n0 (Ft body) (awp c body) Q st
 | .exit id,Q,st=>Q (.exit id) st
 | .ret,Q,st=>Q .ret st
 | _,_,_=>False
def codeOk:Code→Bool
 | .region _ ops draw=>!draw||E7 ops
 | .seq a b=>codeOk a&&codeOk b
 | .cond _ a b=>codeOk a&&codeOk b
 | .block _ a=>codeOk a
 | .loop a=>codeOk a
 | .skip | .exit _ | .ret =>true
 | _=>false
section
variable {w w' w0:World} {e e':Env} {fz:Nat→Prop} {M:ij} {P:Program} {c:Cx} {st:AS} {a:Act}
mutual
theorem py : ∀(p q:PV) (v:Value),tj p q→R w e p v→R w e q v:=by
 intro p q v h hr
 unfold tj at h
 split at h
 ·subst h;rw [HA] at hr;rw [R_b];exact hr
 ·subst h;rw [Io] at hr;rw [R_b];exact hr
 ·subst h;exact hr
 ·subst h;rw [DE] at hr;rw [R_b];exact hr
 ·obtain⟨rfl,rfl⟩:=h;exact hr
 ·subst h;exact hr
 ·unfold R at *;obtain⟨vs,h1,h2⟩:=hr;exact⟨vs,h1,rQ _ _ _ h h2⟩
 ·unfold R at *;obtain⟨vs,h1,h2⟩:=hr;exact⟨vs,h1,rQ _ _ _ h h2⟩
 ·subst h;unfold R at *;exact⟨none,0,hr,Nat.le_refl _,fun i x hx=>by simp at hx⟩
 ·subst h;exact hr
theorem rQ : ∀(l m:List PV) (vs:List Value),zV l m→Rs w e l vs→Rs w e m vs:=by
 intro l m vs h hr
 unfold zV at h
 split at h
 ·exact hr
 ·unfold Rs at *;obtain⟨u,us,h1,h2,h3⟩:=hr;exact⟨u,us,h1,py _ _ _ h h2,h3⟩
 ·unfold Rs at *;obtain⟨u,us,h1,h2,h3⟩:=hr;exact⟨u,us,h1,py _ _ _ h.1 h2,rQ _ _ _ h.2 h3⟩
 ·exact h.elim
end
theorem xE {o o':Ob} {id:Nat} (h:qH o o') (hr:OR w e id o):OR w e id o':=by
 unfold qH at h
 split at h
 ·obtain⟨h1,rfl⟩:=h
  obtain⟨b,vs,h2,h3,h4,h5⟩:=hr
  exact⟨b,vs,h2,h3,h4,rQ _ _ _ h1 h5⟩
 ·obtain⟨rfl,rfl⟩:=h;exact hr
 ·subst h;exact hr
theorem kF {o o':Ob} (h:qH o o'):o.gn=o'.gn:=by
 unfold qH at h
 split at h
 ·rfl
 ·rfl
 ·subst h;rfl
theorem pR {ρ:List Nat} {st:AH} {r:Prop} : ∀{h:AH},obs ρ st h r→r∧∀q∈h,∃x,st.get (look ρ q.1)=some x∧qH x (q.2.rn (look ρ))
 | [],h=>⟨h,fun q hq=>absurd hq (by simp)⟩
 | (k,o)::l,h=>by
   unfold obs at h
   obtain⟨h1,h2⟩:=h
   obtain⟨h3,h4⟩:=pR h2
   refine⟨h3,fun q hq=>?_⟩
   rcases List.mem_cons.1 hq with rfl | hq
   ·split at h1
    ·rename_i x hx;exact⟨x,hx,h1⟩
    ·exact h1.elim
   ·exact h4 q hq
theorem FP {ρ:List Nat} {tm:List PV} {r:Prop} : ∀{l:List (Nat×PV)},tms ρ tm l r→r∧∀q∈l,tj (tm.getD q.1 .dead) (q.2.rn (look ρ))
 | [],h=>⟨h,fun q hq=>absurd hq (by simp)⟩
 | (t,p)::l,h=>by
   unfold tms at h
   obtain⟨h1,h2⟩:=h
   obtain⟨h3,h4⟩:=FP h2
   refine⟨h3,fun q hq=>?_⟩
   rcases List.mem_cons.1 hq with rfl | hq
   ·exact h1
   ·exact h4 q hq
theorem get_mem : ∀{h:AH} {k:Nat} {o:Ob},h.get k=some o→(k,o)∈h
 | [],k,o,h=>by simp [AH.get] at h
 | (j,x)::r,k,o,h=>by
   unfold AH.get at h
   split at h
   ·rename_i hj
    cases h
    have : j=k:=by simpa using hj
    subst this
    exact List.mem_cons_self
   ·exact List.mem_cons_of_mem _ (get_mem h)
theorem zi : ∀{l:List (Nat×PV)} {t:Nat} {p:PV},Hu t l=p→p≠.dead →(t,p)∈l
 | [],t,p,h,hd=>absurd h.symm hd
 | (k,v)::l,t,p,h,hd=>by
   unfold Hu at h
   split at h
   ·rename_i hk
    have : k=t:=by simpa using hk
    subst this;subst h
    exact List.mem_cons_self
   ·exact List.mem_cons_of_mem _ (zi h hd)
theorem SR.meets {n n0:Nat} {ρ:List Nat} {li:LI} {r:Prop} (hn0:M.n=n0) (hs:SR w0 fz M st a w e) (hm:Ax.meets n n0 ρ st li r):r∧∃e',SR w0 fz M (li.as n) a w e':=by
 obtain⟨hck,hm⟩:=hm
 obtain⟨h1,h2⟩:=FP hm
 obtain⟨hr,h3⟩:=pR h1
 unfold chk at hck
 simp only [Bool.and_eq_true,List.all_eq_true,Nat.blt_eq] at hck
 obtain⟨⟨⟨hn,hkeep⟩,hnd,hlen,hob⟩,htm⟩:=hck
 have hn:st.tm.length=n:=by simpa using hn
 subst hn
 have hlen:ρ.length=li.nx:=by simpa using hlen
 have hrn:=e.rn_ok (look ρ) li.nx
 refine⟨hr,e.rn (look ρ) li.nx,?_,?_,?_,fun id h=>⟨h.1,hs.lo _ h.2⟩,fun id h=>h.1,?_,fun k b h hb=>hs.bd (look ρ k) b h.2 hb,⟨hs.ez.sub,hs.ez.sup,fun k b h hb=>hs.ez.nf (look ρ k) b h.2 hb⟩,hs.fzb,hs.low,fun k hk ho=>?_,hs.defers⟩
 ·rw [hs.size];simp [LI.as]
 ·intro t p hp
  simp only [LI.as,List.getElem?_map,Option.map_eq_some_iff] at hp
  obtain⟨t',ht,h4⟩:=hp
  obtain⟨hlt,heq⟩:=List.getElem?_eq_some_iff.1 ht
  have heq:t=t':=by simpa using heq
  subst heq
  by_cases hd:p=.dead
  ·subst hd;unfold R;trivial
  ·have hmem:=zi h4 hd
   have h5:=h2 _ hmem
   exact yK hrn p _ (htm _ hmem) (py _ _ _ h5 (CU hs.tm (.tmp t)))
 ·intro id o hid
  have hmem:=get_mem hid
  obtain⟨h4,h5⟩:=hob _ hmem
  obtain⟨x,hx,hxo⟩:=h3 _ hmem
  obtain⟨h6,h7,h8⟩:=hs.ob _ _ hx
  exact⟨yo hrn h5 (xE hxo h6),⟨h4,h7⟩,fun hg=>⟨h4,h8 (by rw [kF hxo,mz];exact hg)⟩⟩
 ·intro k k' b hk hk' hb hb'
  exact iA hnd (by rw [hlen];exact hk.1) (by rw [hlen];exact hk'.1) (hs.dis _ _ b hk.2 hk'.2 hb hb')
 ·unfold keep at hkeep
  simp only [Bool.and_eq_true,Nat.ble_eq,List.all_eq_true,List.mem_range] at hkeep
  have hk1:look ρ k=k:=Nat.eq_of_beq_eq_true (hkeep.2 k (by omega))
  obtain⟨q1,q2,q3,q4⟩:=hs.root k hk ho
  refine⟨⟨by omega,by rw [hk1];exact q1⟩,?_,?_,?_⟩
  ·show e.adr (look ρ k)=_;rw [hk1];exact q2
  ·show e.cap (look ρ k)=_;rw [hk1];exact q3
  ·show e.len (look ρ k)=_;rw [hk1];exact q4
theorem SR.setB (hs:SR w0 fz M st a w e) {x:Operand} {p q:PV} (hx:ev st.tm x=p) (hq : ∀u,R w e p u→R w e q u):SR w0 fz M (setB st x q) a w e:=by
 cases x with
 | tmp t=>exact hs.refine_ hx hq
 | const v=>exact hs
 | global g=>exact hs
 | func f=>exact hs
def AQ (w0:World) (fz:Nat→Prop) (M:ij) (Q:AEx→AS→Prop):Exit→Act→World→Prop
 | .normal,a,w=>∃st e,SR w0 fz M st a w e∧Q .normal st
 | .exit id,a,w=>∃st e,SR w0 fz M st a w e∧Q (.exit id) st
 | .ret,a,w=>∃st e,SR w0 fz M st a w e∧Q .ret st
 | _,_,_=>False
def WOk (P:Program) (w0:World) (fz:Nat→Prop) (M:ij) (body:Code) (b:WP):Prop:=∀(Q:AEx→AS→Prop) (st:AS) (a:Act) (w:World) (e:Env),b Q st→SR w0 fz M st a w e→body.wp P (AQ w0 fz M Q) a w
theorem SR.nilp_ (hs:SR w0 fz M st a w e) {sh:List aw} {ty:TypeId} {tm:List PV} {x:AH} (htl:tm.length=st.tm.length)
 (htm : ∀e',e.Le e'→e'.fz=e.fz→e'.on st.nx→e'.adr st.nx=none∧e'.len st.nx=0∧e'.cap st.nx=0→∀(t:Nat) (p:PV),tm[t]? =some p→st.tm[t]? =some p∨R w e' p (a.tmps.getD t undef))
 (hx : ∀e',e.Le e'→e'.fz=e.fz→e'.on st.nx→e'.adr st.nx=none∧e'.len st.nx=0∧e'.cap st.nx=0→∀id o,x.get id=some o→st.h.get id=some o∨OR w e' id o∧e.on id∧e.lv id) :
 ∃e',SR w0 fz M ⟨tm,(st.nx,.own sh [] ty)::x,st.nx+1⟩ a w e':=by
 have hno : ¬e.on st.nx:=fun h=>absurd (hs.lt _ h) (Nat.lt_irrefl _)
 obtain⟨E,hE⟩ : ∃E:Env,E={ e with adr:=fun k=>if k=st.nx then none else e.adr k,cap:=fun k=>if k=st.nx then 0 else e.cap k,len:=fun k=>if k=st.nx then 0 else e.len k,on:=fun k=>e.on k∨k=st.nx,lv:=fun k=>e.lv k∨k=st.nx }:=⟨_,rfl⟩
 have hne : ∀k,e.on k→k≠st.nx:=fun k hk h=>hno (h ▸ hk)
 have hle:e.Le E:=by
  subst hE
  exact⟨fun _ h=>.inl h,fun k hk=>if_neg (hne k hk),fun k hk=>if_neg (hne k hk),fun k hk=>if_neg (hne k hk),fun _ h=>h⟩
 have hz:E.adr st.nx=none∧E.len st.nx=0∧E.cap st.nx=0:=by subst hE;exact⟨if_pos rfl,if_pos rfl,if_pos rfl⟩
 have hon:E.on st.nx:=by subst hE;exact .inr rfl
 have hblk : ∀k b,E.blk k b→k≠st.nx∧e.blk k b:=fun k b hb=>by
  obtain⟨y,hy,hb⟩:=hb
  have hk:k≠st.nx:=fun h=>by subst h;rw [hz.1] at hy;cases hy
  refine⟨hk,y,?_,hb⟩
  subst hE
  simpa [hk] using hy
 have hlv : ∀k,k≠st.nx→E.lv k→e.lv k:=fun k hk h=>by subst hE;exact h.resolve_right hk
 have hfz:E.fz=e.fz:=by subst hE;rfl
 refine⟨E,by rw [hs.size];exact htl.symm,?_,?_,?_,?_,?_,?_,⟨fun b h=>by rw [hfz];exact hs.ez.sub b h,fun b h=>by rw [hfz] at h;exact hs.ez.sup b h,fun k b h hb=>by rw [hfz];obtain⟨n1,hb⟩:=hblk k b hb;exact hs.ez.nf k b (hlv k n1 h) hb⟩,hs.fzb,hs.low,we hs.root hle,hs.defers⟩
 ·intro t p hp
  rcases htm E hle hfz hon hz t p hp with h | h
  ·exact jt (w:=w) (w':=w) (fun _ _=>rfl) hle p _ (hs.tm t p h)
  ·exact h
 ·intro id o hid
  have e1:AH.get ((st.nx,.own sh [] ty)::x) id=if st.nx==id then some (.own sh [] ty) else x.get id:=rfl
  have hid:AH.get ((st.nx,.own sh [] ty)::x) id=some o:=hid
  rw [e1] at hid
  by_cases hk:st.nx=id
  ·subst hk
   rw [if_pos (by simp)] at hid
   cases hid
   exact⟨⟨hz.2.1,.inl ⟨hz.1,rfl,hz.2.2⟩⟩,hon,fun _=>by subst hE;exact .inr rfl⟩
  ·rw [if_neg (by simpa using hk)] at hid
   rcases hx E hle hfz hon hz id o hid with h | ⟨h1,h2,h3⟩
   ·obtain⟨h1,h2,h3⟩:=hs.ob id o h
    refine⟨rV (w:=w) (w':=w) (fun _ _=>rfl) hle h2 (fun b _=>⟨fun h=>by rw [hfz] at h;exact h,rfl⟩) h1,hle.on _ h2,fun hg=>by subst hE;exact .inl (h3 hg)⟩
   ·exact⟨h1,hle.on _ h2,fun _=>by subst hE;exact .inl h3⟩
 ·intro k hk
  subst hE
  exact hk.imp_left (hs.lo k)
 ·intro k hk
  show k<st.nx+1
  subst hE
  rcases hk with hk | rfl
  ·have:=hs.lt k hk;omega
  ·omega
 ·intro k k' b hk hk' hb hb'
  obtain⟨n1,hb⟩:=hblk k b hb
  obtain⟨n2,hb'⟩:=hblk k' b hb'
  exact hs.dis k k' b (hlv k n1 hk) (hlv k' n2 hk') hb hb'
 ·intro k b hk hb
  obtain⟨n1,hb⟩:=hblk k b hb
  exact hs.bd k b (hlv k n1 hk) hb
theorem SR.nil1 (hs:SR w0 fz M st a w e) (p:Pt) (sh:List aw) (ty:TypeId) : ∃e',SR w0 fz M (Ax.nil1 st p sh ty) a w e':=by
 have hval : ∀{e':Env} {u:Value},e'.on st.nx→e'.adr st.nx=none∧e'.len st.nx=0∧e'.cap st.nx=0→R w e .esl u→R w e' (.osl st.nx) u:=fun {e' u} h1 h2 h=>by
  unfold R at h ⊢
  obtain⟨h3,h4,h5⟩:=h2
  rw [h3,h4,h5]
  exact⟨h1,h⟩
 cases p with
 | s t=>
   unfold Ax.nil1
   simp only
   split
   ·rename_i ht
    refine hs.nilp_ (by simp) (fun e' _ _ hon hz s r hr=>?_) fun e' _ _ _ _ id o h=>.inl h
    rw [List.getElem?_set] at hr
    split at hr
    ·rename_i hts
     subst hts
     split at hr
     ·cases hr
      right
      refine hval hon hz ?_
      have:=CU hs.tm (.tmp t)
      change R w e (st.tm.getD t .dead) (a.tmps.getD t undef) at this
      rwa [ht] at this
     ·cases hr
    ·exact .inl hr
   ·exact⟨e,hs⟩
 | c id off=>
   unfold Ax.nil1
   simp only
   split
   ·rename_i l tc hg
    split
    ·rename_i hl
     refine hs.nilp_ rfl (fun e' _ _ _ _ t p h=>.inl h) fun e' hle hf hon hz k o hk=>?_
     have e1:AH.get ((id,.cells (l.set off (.osl st.nx)) tc)::st.h) k=if id==k then some (.cells (l.set off (.osl st.nx)) tc) else st.h.get k:=rfl
     rw [e1] at hk
     split at hk
     ·rename_i hik
      have hik:id=k:=by simpa using hik
      subst hik
      cases hk
      obtain⟨h1,h2,h3⟩:=hs.ob id _ hg
      obtain⟨b,vs,q1,q2,q3,q4⟩:=h1
      refine .inr ⟨⟨b,vs,by rw [hle.adr id h2];exact q1,fun h=>q2 (by rw [hf] at h;exact h),q3,pM (by rw [List.length_set];exact bm q4) fun i p u hp hu=>?_⟩,h2,h3 rfl⟩
      rw [List.getElem?_set] at hp
      split at hp
      ·rename_i hoi
       subst hoi
       split at hp
       ·rename_i hlt
        cases hp
        rw [List.getD_eq_getElem?_getD,List.getElem?_eq_getElem hlt] at hl
        obtain⟨v,hv,hr⟩:=mB q4 (List.getElem?_eq_getElem hlt)
        rw [hu] at hv
        cases hv
        exact hval hon hz (by have hl:l[off]=.esl :=hl;rwa [hl] at hr)
       ·cases hp
      ·obtain⟨v,hv,hr⟩:=mB q4 hp
       rw [hu] at hv
       cases hv
       exact jt (w:=w) (w':=w) (fun _ _=>rfl) hle p _ hr
     ·exact .inl hk
    ·exact⟨e,hs⟩
   ·exact⟨e,hs⟩
theorem SR.nils (hs:SR w0 fz M st a w e) : ∀nw:List (Pt×List aw×TypeId),∃e',SR w0 fz M (Ax.nils nw st) a w e':=by
 intro nw
 induction nw generalizing st e with
 | nil=>exact⟨e,hs⟩
 | cons x r ih=>
   obtain⟨p,sh,ty⟩:=x
   obtain⟨e',h⟩:=hs.nil1 p sh ty
   exact ih h
theorem N3 {body:Code} {b:WP} {n0:Nat} {ds:List Nat} (hn0:M.n=n0) (hb:WOk P w0 fz M body b):WOk P w0 fz M (.loop body) (OG n0 ds b):=by
 intro Q st a w e h hs
 rcases h with h | ⟨-,nw,vs,al,dr,H, -,hlt,h⟩
 ·refine wp_loop_ghost (fun k a' w'=>∃st' e',SR w0 fz M st' a' w' e'∧unr b k Q st') 8 ⟨st,e,hs,h ()⟩ ?_
  rintro k a' w' ⟨st',e',hs',hu⟩
  cases k with
  | zero=>exact hu.elim
  | succ k=>
    unfold unr at hu
    refine wp_mono (hb _ st' a' w' e' hu hs') ?_
    intro x a'' w'' hq
    cases x with
    | normal=>
      obtain⟨st2,e2,h3,h4⟩:=hq
      exact⟨k,Nat.lt_succ_self k,st2,e2,h3,h4⟩
    | exit id=>exact hq
    | ret=>exact hq
    | goto l=>exact hq.elim
    | panic ch=>exact hq.elim
    | outgrown=>exact hq.elim
 ·obtain⟨e1,hs1⟩:=hs.nils nw
  generalize Ax.nils nw st=st1 at h hs1
  obtain⟨h0,h1⟩:=h
  refine wp_loop_ghost (fun k a' w'=>∃s e',H.J s∧H.μ s=k∧SR w0 fz M ((hd st1 ds al dr (pvs vs s)).as st1.tm.length) a' w' e') (H.μ (T3 (List.range st1.nx) st1 vs)) ?_ ?_
  ·obtain⟨hJ,e',h2⟩:=SR.meets hn0 hs1 h0
   exact⟨_,e',hJ,rfl,h2⟩
  ·rintro k a' w' ⟨s,e',hJ,rfl,hs'⟩
   refine wp_mono (hb _ _ a' w' e' (h1 s hJ) hs') ?_
   intro y a'' w'' hq
   cases y with
   | normal=>
     obtain⟨st2,e2,h4,h5⟩:=hq
     obtain⟨⟨h6,h7⟩,e3,h8⟩:=SR.meets hn0 h4 h5
     exact⟨_,hlt _ _ h7,_,e3,h6,rfl,h8⟩
   | exit id=>exact hq
   | ret=>exact hq
   | goto l=>exact hq.elim
   | panic ch=>exact hq.elim
   | outgrown=>exact hq.elim
theorem Af : ∀(l:List Nat) (tm:List PV),(CC l tm).length =tm.length
 | [],_=>rfl
 | t::r,tm=>by unfold CC;rw [Af r];exact List.length_set
theorem CZ : ∀(l:List Nat) (tm:List PV) (t:Nat) (p:PV),(CC l tm)[t]? =some p→p=.dead ∨tm[t]? =some p
 | [],_,_,_,h=>.inr h
 | u::r,tm,t,p,h=>by
   rcases CZ r _ t p h with h1 | h1
   ·exact .inl h1
   ·rw [List.getElem?_set] at h1
    split at h1
    ·split at h1
     ·cases h1;exact .inl rfl
     ·cases h1
    ·exact .inr h1
theorem EN {k j:Nat} (hne:j≠k) : ∀h:AH,(rmO k h).get j=h.get j
 | []=>rfl
 | (i,o)::r=>by
   unfold rmO
   cases hb:Nat.beq i k with
   | true=>
     have hi:i=k:=Nat.eq_of_beq_eq_true hb
     rw [if_pos rfl,EN hne r]
     conv=>rhs;unfold AH.get
     rw [if_neg (by simp;omega)]
   | false=>
     rw [if_neg (by decide)]
     unfold AH.get
     rw [EN hne r]
theorem Cm (j:Nat) : ∀h:AH,(KH h).get j=h.get j
 | []=>rfl
 | (k,o)::r=>by
   unfold KH AH.get
   by_cases h:k=j
   ·subst h;simp
   ·have h1:(k==j)=false:=beq_eq_false_iff_ne.2 h
    rw [h1]
    show AH.get (rmO k (KH r)) j=AH.get r j
    rw [EN (fun e=>h e.symm),Cm j r]
theorem SR.kill (hs:SR w0 fz M st a w e) : ∀l,SR w0 fz M (O9 l st) a w e
 | []=>hs
 | t::r=>by
   refine⟨?_,fun u p hp=>?_,fun id o ho=>hs.ob id o ?_,hs.lo,hs.lt,hs.dis,hs.bd,hs.ez,hs.fzb,hs.low,hs.root,hs.defers⟩
   ·rw [hs.size];exact (Af (t::r) st.tm).symm
   ·rcases CZ _ _ u p hp with h1 | h1
    ·subst h1;unfold R;trivial
    ·exact hs.tm u p h1
   ·rw [←Cm id st.h];exact ho
theorem fS (hc:dD P c) (hm:P.follows .mixedOrders =true) (hn0:M.n=c.n0) : ∀(body:Code),codeOk body=true→WOk P w0 fz M body (awp c body)
 | .skip,_=>fun Q st a w e h hs=>wp_skip ⟨st,e,hs,h⟩
 | .exit id,_=>fun Q st a w e h hs=>wp_exit ⟨st,e,hs,h⟩
 | .ret,_=>fun Q st a w e h hs=>wp_ret ⟨st,e,hs,h⟩
 | .region id ops draw,hk=>fun Q st a w e h hs=>by
   unfold awp at h
   cases draw with
   | true=>exact DA hc hm (by unfold codeOk at hk;simpa using hk) (fun st a w e h hs=>⟨_,e,hs.kill (c.K id),h⟩) h hs
   | false=>exact wp_region_list (Lh (g:=⟨c,false,ops.toList.map (·.dst),st.h⟩) hc rfl rfl (fun st a w e h hs=>⟨_,e,hs.kill (c.K id),h⟩) _ _ _ _ _ _ _ _ _ e h hs)
 | .seq x y,hk=>fun Q st a w e h hs=>by
   unfold codeOk at hk
   rw [Bool.and_eq_true] at hk
   unfold awp at h
   refine wp_seq (wp_mono (fS hc hm hn0 x hk.1 _ st a w e h hs) ?_)
   intro x' a' w' hq
   cases x' with
   | normal=>obtain⟨st',e',h1,h2⟩:=hq;exact fS hc hm hn0 y hk.2 Q st' a' w' e' h2 h1
   | exit id=>exact hq
   | ret=>exact hq
   | goto l=>exact hq.elim
   | panic ch=>exact hq.elim
   | outgrown=>exact hq.elim
 | .cond x t f,hk=>fun Q st a w e h hs=>by
   unfold codeOk at hk
   rw [Bool.and_eq_true] at hk
   unfold awp at h
   have hx:=CU hs.tm x
   split at h
   ·rename_i hv
    rw [hv,HA] at hx
    exact wp_cond_true hx (fS hc hm hn0 t hk.1 Q st a w e h hs)
   ·rename_i hv
    rw [hv,Io] at hx
    exact wp_cond_false hx (fS hc hm hn0 f hk.2 Q st a w e h hs)
   ·rename_i v hv
    rw [hv,R_b] at hx
    cases v
    ·exact wp_cond_false hx (fS hc hm hn0 f hk.2 Q _ a w e (h.2 rfl) (hs.setB hv (DS (x:=false) rfl)))
    ·exact wp_cond_true hx (fS hc hm hn0 t hk.1 Q _ a w e (h.1 rfl) (hs.setB hv (DS (x:=true) rfl)))
   ·rename_i v hv
    rw [hv,DE] at hx
    cases v
    ·exact wp_cond_true hx (fS hc hm hn0 t hk.1 Q _ a w e (h.1 rfl) (hs.setB hv (DS (x:=true) rfl)))
    ·exact wp_cond_false hx (fS hc hm hn0 f hk.2 Q _ a w e (h.2 rfl) (hs.setB hv (DS (x:=false) rfl)))
   ·exact h.elim
 | .block id body,hk=>fun Q st a w e h hs=>by
   unfold codeOk at hk
   unfold awp at h
   refine wp_block (wp_mono (fS hc hm hn0 body hk _ st a w e h hs) ?_)
   intro x' a' w' hq
   cases x' with
   | normal=>exact hq
   | exit k=>
     obtain⟨st',e',h1,h2⟩:=hq
     unfold Exit.inBlock
     simp only at h2 ⊢
     split
     ·rename_i hk';rw [if_pos hk'] at h2;exact⟨st',e',h1,h2⟩
     ·rename_i hk';rw [if_neg hk'] at h2;exact⟨st',e',h1,h2⟩
   | ret=>exact hq
   | goto l=>exact hq.elim
   | panic ch=>exact hq.elim
   | outgrown=>exact hq.elim
 | .loop body,hk=>fun Q st a w e h hs=>by
   unfold codeOk at hk
   unfold awp at h
   exact N3 hn0 (fS hc hm hn0 body hk) Q st a w e h hs
 | .rangeFunc _ _ _ _,hk=>by unfold codeOk at hk;cases hk
 | .scope _,hk=>by unfold codeOk at hk;cases hk
 | .label _,hk=>by unfold codeOk at hk;cases hk
 | .goto _,hk=>by unfold codeOk at hk;cases hk
 | .refuse _,hk=>by unfold codeOk at hk;cases hk
end
end Ax
end Go.Proofs.YtjjonmhpgkahoaaGreatDoor
