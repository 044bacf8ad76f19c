/-
  Results told in other words: nil as an empty row; two preconditions joined.
  Conditions: none.
-/
import Derived.Test.YtjjonmhpgkahoaaGreatDoorE19
set_option linter.unusedSimpArgs false
set_option linter.unusedVariables false
namespace Go.Proofs.YtjjonmhpgkahoaaGreatDoor
namespace Ax
set_option maxRecDepth 100000
set_option maxHeartbeats 2000000
section
variable {P:Program} {f:FuncId} {α:Type}
theorem FOk.casesE {A:Args α} {pre1 pre2 pre:α→Prop} {v1 v2 v:α→PV} {e1 e2 e:α→AH} (h1:FOk P f (fsp A pre1 v1 e1)) (h2:FOk P f (fsp A pre2 v2 e2)) (hd : ∀a,pre a→(pre1 a∧v1 a=v a∧e1 a=e a)∨(pre2 a∧v2 a=v a∧e2 a=e a)):FOk P f (fsp A pre v e):=by
 refine⟨h1.fn,fun args out hs hp=>?_⟩
 unfold fsp at hs
 split at hs
 ·rename_i a ha
  cases hs
  rcases hd a (hp _ (List.mem_cons_self ..)) with ⟨g1,g2,g3⟩ | ⟨g1,g2,g3⟩
  ·have:=h1.run args ⟨[pre1 a],v1 a,e1 a⟩ (by unfold fsp;rw [ha]) (fun p hm=>by rw [List.mem_singleton.1 hm];exact g1)
   rw [g2,g3] at this
   intro w e vals hz hl
   refine (this w e vals hz hl).mono ?_
   rintro en w' ⟨u,e',rfl,hP⟩
   exact⟨u,e',rfl,by cases hP;constructor<;>assumption⟩
  ·have:=h2.run args ⟨[pre2 a],v2 a,e2 a⟩ (by unfold fsp;rw [ha]) (fun p hm=>by rw [List.mem_singleton.1 hm];exact g1)
   rw [g2,g3] at this
   intro w e vals hz hl
   refine (this w e vals hz hl).mono ?_
   rintro en w' ⟨u,e',rfl,hP⟩
   exact⟨u,e',rfl,by cases hP;constructor<;>assumption⟩
 ·cases hs
def nilH:List (Nat×Ob)→Bool
 | []=>true
 | (_,.own _ [] _)::r=>nilH r
 | _=>false
theorem nilH_get : ∀{H:AH} {k:Nat} {o:Ob},nilH H=true→H.get k=some o→∃sh t,o=.own sh [] t
 | [],k,o,_,h=>by simp [AH.get] at h
 | (j,x)::r,k,o,hn,h=>by
   unfold nilH at hn
   unfold AH.get at h
   split at hn
   ·rename_i h0;cases h0
   ·rename_i h0
    cases h0
    split at h
    ·cases h;exact⟨_,_,rfl⟩
    ·exact nilH_get hn h
   ·cases hn
theorem FOk.own {A:Args α} {pre:α→Prop} {v v':α→PV} {H:AH} (h:FOk P f (fsp A pre v)) (hH:nilH H=true)
 (hd : ∀a w e u,(∀k,(H.get k).isSome =true→e.on k∧e.adr k=none∧e.len k=0∧e.cap k=0)→R w e (v a) u→R w e (v' a) u):FOk P f (fsp A pre v' fun _=>H):=by
 refine⟨h.fn,fun args out hs hp w e vals hz hl=>?_⟩
 unfold fsp at hs
 split at hs
 ·rename_i a ha
  cases hs
  refine (h.run args ⟨[pre a],v a,[]⟩ (by unfold fsp;rw [ha]) hp w e vals hz hl).mono ?_
  rintro en w' ⟨u,e',rfl,hP⟩
  have hoff : ∀k,¬e'.on k:=fun k hk=>(hP.new k hk).elim (fun h=>h) (fun h=>by have h2:=h.2;simp [AH.get] at h2)
  have hle:e'.Le ⟨fun _=>none,fun _=>0,fun _=>0,e'.fz,fun k=>(H.get k).isSome =true,fun k=>(H.get k).isSome =true⟩:=⟨fun k hk=>(hoff k hk).elim,fun k hk=>(hoff k hk).elim,fun k hk=>(hoff k hk).elim,fun k hk=>(hoff k hk).elim,fun _ h=>h⟩
  have hb : ∀k b,¬Env.blk ⟨fun _=>none,fun _=>0,fun _=>0,e'.fz,fun k=>(H.get k).isSome =true,fun k=>(H.get k).isSome =true⟩ k b:=fun k b ⟨x,hx,_⟩=>by cases hx
  refine⟨u,_,rfl,hd a _ _ _ (fun k hk=>⟨hk,rfl,rfl,rfl⟩) (R_mono (fun _ _=>rfl) hle _ _ hP.val),⟨fun k hk=>hk.elim,fun k hk=>hk.elim,fun k hk=>hk.elim,fun k hk=>hk.elim,fun b hb=>hP.le.fz b hb⟩,
   ⟨fun b hb=>hP.fz.fz b hb,fun k b _ _ hk=>(hb k b hk).elim⟩,fun k o ho=>?_,fun k hk=>.inr ⟨Nat.zero_le _,hk⟩,fun k hk=>.inr ⟨fun h=>h,hk,fun b h=>(hb k b h).elim⟩,fun k hk=>hk.elim,fun k k' b _ _ _ _ hk=>(hb k b hk).elim,⟨hP.chg.os,hP.chg.tape,hP.chg.output,hP.chg.size,fun b hb _=>hP.chg.block b hb fun ⟨k,hk,_⟩=>hk.elim⟩⟩
  obtain⟨sh,t,rfl⟩:=nilH_get hH ho
  exact⟨⟨rfl,.inl ⟨rfl,rfl,rfl⟩⟩,by show (H.get k).isSome =true;rw [ho];rfl,fun _=>by show (H.get k).isSome =true;rw [ho];rfl⟩
 ·cases hs
theorem nil_O {w:World} {e:Env} {k:Nat} {u:Value} (h:e.on k∧e.adr k=none∧e.len k=0∧e.cap k=0) (hr:R w e .esl u):R w e (.osl k) u:=by
 unfold R at *
 exact⟨h.1,by rw [h.2.1,h.2.2.1,h.2.2.2];exact hr⟩
inductive Fol (w:World) (e:Env):List PV→List PV→Prop
 | nil:Fol w e [] []
 | cons {p q:PV} {l r:List PV} (h : ∀u,R w e p u→R w e q u) (t:Fol w e l r):Fol w e (p::l) (q::r)
theorem Rs_fol {w:World} {e:Env} : ∀{l r:List PV},Fol w e l r→∀{vs:List Value},Rs w e l vs→Rs w e r vs
 | _,_,.nil,_,h=>h
 | _,_,.cons h t,vs,hs=>by
   unfold Rs at hs ⊢
   obtain⟨u,us,rfl,h1,h2⟩:=hs
   exact⟨u,us,rfl,h u h1,Rs_fol t h2⟩
theorem agg_fol {w:World} {e:Env} {l r:List PV} (h:Fol w e l r) : ∀u,R w e (.agg l) u→R w e (.agg r) u:=fun u hr=>by
 unfold R at hr ⊢
 obtain⟨vs,rfl,h1⟩:=hr
 exact⟨vs,rfl,Rs_fol h h1⟩
theorem tup_fol {w:World} {e:Env} {l r:List PV} (h:Fol w e l r) : ∀u,R w e (.tup l) u→R w e (.tup r) u:=fun u hr=>by
 unfold R at hr ⊢
 obtain⟨vs,rfl,h1⟩:=hr
 exact⟨vs,rfl,Rs_fol h h1⟩
end
theorem esl_fol {w:World} {e:Env} (h : ∀k,((gmH6 gm0).get k).isSome =true→e.on k∧e.adr k=none∧e.len k=0∧e.cap k=0):Fol w e (gmK gm0 .esl .esl .esl .esl .esl .esl) (gmO6 gm0):=by
 unfold gmO6 gmK
 repeat' first
  | exact .nil
  | refine .cons ?_ ?_
  | exact fun _ h=>h
  | exact fun _ hr=>nil_O (h _ rfl) hr
end Ax
end Go.Proofs.YtjjonmhpgkahoaaGreatDoor
