/-
  Records, of the spec package: the last state.
  Conditions: none.
-/
import Derived.Test.YtghmphmbpdiflaaGreatDoorE43
import Derived.Test.YtghmphmbpdiflaaGreatDoorE44
import Derived.Test.YtghmphmbpdiflaaGreatDoorE45
set_option linter.unusedSimpArgs false
set_option linter.unusedVariables false
namespace Go.Proofs.YtghmphmbpdiflaaGreatDoor
namespace Ax
set_option maxRecDepth 100000
set_option maxHeartbeats 20000000
def rrC (u:Su) (r:Rcd):Int:=if bgC u r=0 then ruC (bgG u r) r else bgC u r
def rrG (u:Su) (r:Rcd):Gm:=if rrC u r=0 then rpZ (bgG u r) r else gm0
section
variable {u:Su} {r:Rcd}
theorem rr_n (h : ¬bgC u r=0):rrC u r=bgC u r∧rrG u r=gm0:=by
 have e:rrC u r=bgC u r:=if_neg h
 exact⟨e,if_neg (by rw [e];exact h)⟩
theorem rr_f (h:bgC u r=0) (h2 : ¬ruC (bgG u r) r=0):rrC u r=ruC (bgG u r) r∧rrG u r=gm0:=by
 have e:rrC u r=ruC (bgG u r) r:=if_pos h
 exact⟨e,if_neg (by rw [e];exact h2)⟩
theorem rr_z (h:bgC u r=0) (h2:ruC (bgG u r) r=0):rrC u r=0∧rrG u r=rpZ (bgG u r) r:=by
 have e:rrC u r=0:=(if_pos h).trans h2
 exact⟨e,if_pos e⟩
theorem run_last : ∀(g:Gm) (l:List (El shAc)),((runR g l).1=[]→(runR g l).2.2=0→runZ g l=g)∧((runR g l).1≠[]→((runR g l).1.getLast?)=some (runZ g l))
 | g,[]=>⟨fun _ _=>rfl,fun h=>absurd (show (runR g []).1=[] by rw [runR]) h⟩
 | g,x::l=>by
   rw [runR_cons,runZ_cons]
   by_cases hc:doC g (acE x)=0
   ·rw [if_pos hc,if_pos hc]
    have h2:=(run_last (doG g (acE x)) l).2
    refine⟨fun h=>absurd h (List.cons_ne_nil _ _),fun _=>?_⟩
    show (doG g (acE x)::(runR (doG g (acE x)) l).1).getLast? =_
    cases hl:(runR (doG g (acE x)) l).1 with
    | nil=>
      show some (doG g (acE x))=_
      cases l with
      | nil=>rfl
      | cons y l=>
        rw [runR_cons] at hl
        rw [runZ_cons]
        split at hl
        ·cases hl
        ·rename_i hc2
         rw [if_neg hc2]
    | cons y m=>
      rw [hl] at h2
      rw [List.getLast?_cons_cons]
      exact h2 (by simp)
   ·rw [if_neg hc,if_neg hc]
    exact⟨fun _ h=>absurd h hc,fun h=>absurd rfl h⟩
theorem rr_last (h:bgC u r=0) (h2:ruC (bgR u r) r=0) (h3 : ¬((ruL (bgR u r) r).length : Int)=0):(ruL (bgR u r) r).getD (((ruL (bgR u r) r).length : Int)-1).toNat (dE shG)=gE (rrG u r):=by
 rw [bg_eq h] at h2 h3 ⊢
 rw [(rr_z h h2).2]
 have h4:(runR (bgG u r) r.acts).1≠[]:=fun e=>h3 (by unfold ruL;rw [e];rfl)
 have h5:=(run_last (bgG u r) r.acts).2 h4
 unfold ruL rpZ
 rw [List.length_map,List.getD_eq_getElem?_getD,List.getElem?_map,show (((runR (bgG u r) r.acts).1.length : Int)-1).toNat =(runR (bgG u r) r.acts).1.length - 1 by omega,←List.getLast?_eq_getElem?,h5]
 rfl
theorem rr_first (h:bgC u r=0) (h2:ruC (bgR u r) r=0) (h3:((ruL (bgR u r) r).length : Int)=0):rrG u r=bgR u r:=by
 rw [bg_eq h] at h2 h3 ⊢
 rw [(rr_z h h2).2]
 refine (run_last (bgG u r) r.acts).1 (List.map_eq_nil_iff.1 (List.length_eq_zero_iff.1 (by exact Int.natCast_eq_zero.1 h3))) h2
theorem ruL_n {g:Gm} (h:RcL r):((ruL g r).length : Int)≤1048576:=by
 have h1 : ∀(g:Gm) (l:List (El shAc)),(runR g l).1.length ≤l.length:=by
  intro g l
  induction l generalizing g with
  | nil=>exact Nat.le_refl 0
  | cons x l ih=>
    rw [runR_cons]
    split
    ·have:=ih (doG g (acE x))
     show ((runR (doG g (acE x)) l).1.length + 1)≤l.length+1
     omega
    ·exact Nat.zero_le _
 have h2:=h1 g r.acts
 have h3:=h.n
 unfold ruL
 rw [List.length_map]
 omega
end
def sp_s_ReplayRecord (p:Pr):FSpec:=fsp (ac (aA aSu) (a1 (aA aRcd))) (fun (u,r)=>RpL u r) (fun (u,r)=>.tup [.agg (gmR (rrG u r)),.i .i64 (rrC u r)])
theorem ok_s_ReplayRecord:FOk Tryz.prog 39 (sp_s_ReplayRecord std):=by
 refine FOk.goK [2] (c:=cx std [(103,sp_s_l20Start std),(104,sp_s_l20Run std)] [] 0) (cx_ok (.cons ok_s_l20Start (.cons ok_s_l20Run .nil)) .nil) mixed Tryz.func39 rfl rfl rfl (by kernel_rfl) ?_
 rintro ⟨u,r⟩ hp
 dsimp only at hp
 refine⟨rfl,?_⟩
 unfold sp_s_l20Start sp_s_l20Run
 generalize hP:std=p,hB0:bgR=B0,hB1:bgC=B1,hB2:ruL=B2,hB3:ruP=B3,hB4:ruC=B4,hB5:rrG=B5,hB6:rrC=B6
 cbv
 repeat' first
  | (refine fun (_:Unit)=>?_;cbv)
  | (refine aI2 (fun h=>?_) (fun h=>?_)<;>cbv)
  | (refine aI2 ?_ ?_)
  | (refine Or.inl (fun (_:Unit)=>?_);cbv)
 all_goals subst hP hB0 hB1 hB2 hB3 hB4 hB5 hB6
 all_goals try exact fin
 all_goals (try simp only [eta_ts,eta_bd,eta_suw,eta_rcd] at *)
 all_goals try (have hc:bgC u r=0:=eqI_t ‹_›)
 all_goals try (have hc : ¬bgC u r=0:=eqI_f ‹_›)
 all_goals try (have hr:ruC (bgR u r) r=0:=eqI_t ‹_›)
 all_goals try (have hr : ¬ruC (bgR u r) r=0:=eqI_f ‹_›)
 all_goals try (have h0:((ruL (bgR u r) r).length : Int)=0:=eqI_t ‹_›)
 all_goals try (have h0 : ¬((ruL (bgR u r) r).length : Int)=0:=eqI_f ‹_›)
 all_goals try (have e:rrG u r=gm0:=(rr_n hc).2)
 all_goals try (have e:rrG u r=gm0:=(rr_f hc (by rw [←bg_eq hc];exact hr)).2)
 all_goals try (have e:rrG u r=bgR u r:=rr_first hc hr h0)
 all_goals try (have el:=rr_last hc hr h0)
 all_goals try (rw [e];rfl)
 all_goals try (rw [e];done)
 ·exact hp.bg
 ·exact (rr_n hc).1.symm
 ·exact run_l hp hc
 ·show ruC (bgR u r) r=_
  rw [(rr_f hc (by rw [←bg_eq hc];exact hr)).1,bg_eq hc]
 ·exact (rr_z hc (by rw [←bg_eq hc];exact hr)).1.symm
 ·have h9:=ruL_n (g:=bgR u r) hp.rc
  have h8:std.inK .i64 (((ruL (bgR u r) r).length : Int)-1):=in64 (by omega)
  exact h8
 ·have h9:=Int.natCast_nonneg (ruL (bgR u r) r).length
  have h8:std.inL (((ruL (bgR u r) r).length : Int)-1) ((ruL (bgR u r) r).length : Int):=(⟨by omega,by omega⟩:0≤((ruL (bgR u r) r).length : Int)-1∧((ruL (bgR u r) r).length : Int)-1<((ruL (bgR u r) r).length : Int))
  exact h8
 ·exact congrArg (fun x:El shG=>x.1) el
 ·exact congrArg (fun x:El shG=>PV.rsl [.i .i64] x.2.1) el
 ·exact congrArg (fun x:El shG=>PV.rsl [.i .i64] x.2.2.1) el
 ·exact congrArg (fun x:El shG=>x.2.2.2.1) el
 ·exact congrArg (fun x:El shG=>PV.rsl [.s] x.2.2.2.2.1) el
 ·exact congrArg (fun x:El shG=>x.2.2.2.2.2.1) el
 ·exact congrArg (fun x:El shG=>x.2.2.2.2.2.2.1) el
 ·exact congrArg (fun x:El shG=>x.2.2.2.2.2.2.2.1) el
 ·exact congrArg (fun x:El shG=>x.2.2.2.2.2.2.2.2.1) el
 ·exact congrArg (fun x:El shG=>x.2.2.2.2.2.2.2.2.2.1) el
 ·exact congrArg (fun x:El shG=>x.2.2.2.2.2.2.2.2.2.2.1) el
 ·exact congrArg (fun x:El shG=>x.2.2.2.2.2.2.2.2.2.2.2.1) el
 ·exact congrArg (fun x:El shG=>x.2.2.2.2.2.2.2.2.2.2.2.2.1) el
 ·exact congrArg (fun x:El shG=>x.2.2.2.2.2.2.2.2.2.2.2.2.2.1) el
 ·exact congrArg (fun x:El shG=>PV.rsl [.s] x.2.2.2.2.2.2.2.2.2.2.2.2.2.2.1) el
 ·exact congrArg (fun x:El shG=>PV.rsl [.i .i64] x.2.2.2.2.2.2.2.2.2.2.2.2.2.2.2.1) el
 ·exact congrArg (fun x:El shG=>PV.rsl [.i .i64] x.2.2.2.2.2.2.2.2.2.2.2.2.2.2.2.2.1) el
 ·exact congrArg (fun x:El shG=>x.2.2.2.2.2.2.2.2.2.2.2.2.2.2.2.2.2.1) el
 ·exact congrArg (fun x:El shG=>x.2.2.2.2.2.2.2.2.2.2.2.2.2.2.2.2.2.2.1) el
 ·exact congrArg (fun x:El shG=>x.2.2.2.2.2.2.2.2.2.2.2.2.2.2.2.2.2.2.2.1) el
 ·exact congrArg (fun x:El shG=>x.2.2.2.2.2.2.2.2.2.2.2.2.2.2.2.2.2.2.2.2.1) el
 ·exact congrArg (fun x:El shG=>x.2.2.2.2.2.2.2.2.2.2.2.2.2.2.2.2.2.2.2.2.2.1) el
 ·exact congrArg (fun x:El shG=>x.2.2.2.2.2.2.2.2.2.2.2.2.2.2.2.2.2.2.2.2.2.2.1) el
 ·exact congrArg (fun x:El shG=>x.2.2.2.2.2.2.2.2.2.2.2.2.2.2.2.2.2.2.2.2.2.2.2.1) el
 ·exact congrArg (fun x:El shG=>x.2.2.2.2.2.2.2.2.2.2.2.2.2.2.2.2.2.2.2.2.2.2.2.2.1) el
 ·exact congrArg (fun x:El shG=>x.2.2.2.2.2.2.2.2.2.2.2.2.2.2.2.2.2.2.2.2.2.2.2.2.2.1) el
 ·exact congrArg (fun x:El shG=>x.2.2.2.2.2.2.2.2.2.2.2.2.2.2.2.2.2.2.2.2.2.2.2.2.2.2.1) el
 ·exact congrArg (fun x:El shG=>x.2.2.2.2.2.2.2.2.2.2.2.2.2.2.2.2.2.2.2.2.2.2.2.2.2.2.2.1) el
 ·exact congrArg (fun x:El shG=>x.2.2.2.2.2.2.2.2.2.2.2.2.2.2.2.2.2.2.2.2.2.2.2.2.2.2.2.2.1) el
 ·exact congrArg (fun x:El shG=>x.2.2.2.2.2.2.2.2.2.2.2.2.2.2.2.2.2.2.2.2.2.2.2.2.2.2.2.2.2) el
 ·exact (rr_z hc (by rw [←bg_eq hc];exact hr)).1.symm
end Ax
end Go.Proofs.YtghmphmbpdiflaaGreatDoor
