/-
  What passes and exchanges answer, of the impl package; Challenges of the impl package: verdicts, plays taken back, plays that stand; Challenges: both packages decide the same; A challenge that may be made, of the impl package; What a challenge answers, of the impl package; A turn with a play, of the impl package; A turn with a play that fails, of the impl package; What a turn with a play answers, of the impl package; Actions: which are valid, what they lead to, of the impl package; What an action leads to, of the impl package; Records, of the impl package: generators, bags shuffled, valid records; Records, of the impl package: beginnings.
  Conditions: none.
-/
import Derived.Test.YtjjonmhpgkahoaaGreatDoorS36
import Derived.Test.YtjjonmhpgkahoaaGreatDoorS22
import Derived.Test.YtjjonmhpgkahoaaGreatDoorS21
import Derived.Test.YtjjonmhpgkahoaaGreatDoorS29
import Derived.Test.YtjjonmhpgkahoaaGreatDoorS28
set_option linter.unusedSimpArgs false
set_option linter.unusedVariables false
namespace Go.Proofs.YtjjonmhpgkahoaaGreatDoor
namespace Ax
set_option maxRecDepth 100000
set_option maxHeartbeats 2000000
end Ax
namespace Ax
set_option maxRecDepth 100000
set_option maxHeartbeats 4000000
section
variable {g:Gm} {k:Int}
end
end Ax
namespace Ax
set_option maxRecDepth 100000
set_option maxHeartbeats 2000000
section
variable {g:Gm} {n:Int}
end
end Ax
namespace Ax
set_option maxRecDepth 100000
set_option maxHeartbeats 20000000
section
variable {g:Gm} {n:Int}
end
end Ax
namespace Ax
set_option maxRecDepth 100000
set_option maxHeartbeats 20000000
end Ax
namespace Ax
set_option maxRecDepth 100000
set_option maxHeartbeats 2000000
end Ax
namespace Ax
set_option maxRecDepth 100000
set_option maxHeartbeats 20000000
section
variable {g:Gm} {q:Pl} {n:Int}
end
end Ax
namespace Ax
set_option maxRecDepth 100000
set_option maxHeartbeats 2000000
section
variable {g:Gm} {q:Pl} {n:Int}
end
end Ax
namespace Ax
set_option maxRecDepth 100000
set_option maxHeartbeats 20000000
section
variable {q:Pl}
end
end Ax
namespace Ax
set_option maxRecDepth 100000
set_option maxHeartbeats 2000000
end Ax
namespace Ax
set_option maxRecDepth 100000
set_option maxHeartbeats 20000000
section
variable {t:TS} {x:Int}
theorem sb_tl (h:tsB t=true):TlP t:=⟨(tsB_all h).1,(tsB_all h).2.1,(tsB_all h).2.2⟩
end
section
variable {t:TS} {x i y:Int} {L:List Int}
end
end Ax
namespace Ax
set_option maxRecDepth 100000
set_option maxHeartbeats 20000000
structure SiL (u:Su) (b:List UInt8):Prop where
 su:SuQ u
 cp:SuC u
 b:b.length≤274877906944
structure SiY (u:Su) (b:List UInt8):Prop where
 q:SiL u b
 c:bgnC u b=0
structure SiN (u:Su) (b:List UInt8):Prop where
 q:SiL u b
 c:bgnC u b≠0
def pil (s:List UInt8):List UInt8:=pileL (countsL s)
section
variable {u:Su} {b:List UInt8}
theorem pil_eq (h:bagB b=true):pil b=isort b:=sort_pile (bagB_tiles h)
theorem all_take {p:UInt8→Bool} {l:List UInt8} (n:Nat) (h:l.all p=true):(l.take n).all p=true:=List.all_eq_true.2 fun x hx=>List.all_eq_true.1 h x (List.mem_of_mem_take hx)
theorem all_drop {p:UInt8→Bool} {l:List UInt8} (n:Nat) (h:l.all p=true):(l.drop n).all p=true:=List.all_eq_true.2 fun x hx=>List.all_eq_true.1 h x (List.mem_of_mem_drop hx)
theorem st_p (h:bagB b=true):StP b:=⟨bagB_tiles h,by have:=bag_len h;omega⟩
theorem st_t (n:Nat) (h:bagB b=true):StP (b.take n):=⟨all_take n (bagB_tiles h),by have:=bag_len h;rw [List.length_take];omega⟩
theorem st_d (n m:Nat) (h:bagB b=true):StP ((b.take n).drop m):=⟨all_drop m (all_take n (bagB_tiles h)),by have:=bag_len h;rw [List.length_drop,List.length_take];omega⟩
theorem rks_p (h:bagB b=true) : [pil (b.take 7),pil ((b.take 14).drop 7)]=sgRks b:=by
 unfold sgRks pil
 rw [sort_pile (all_take 7 (bagB_tiles h)),sort_pile (all_drop 7 (all_take 14 (bagB_tiles h)))]
theorem si3 (h:bgnC u b=0) (h2:std.eqS (pil b) (allT u.ts)=false):False:=sg3 h (by rw [←pil_eq (sg_f h).bg];exact h2)
theorem si5 (h:bgnC u b≠0) (h1:suB u=true) (h2:bagB b=true) (h3:std.eqS (pil b) (allT u.ts)=true) (h4:std.ltI (std.lenS b) 14=false):False:=sg5 h h1 h2 (by rw [←pil_eq h2];exact h3) h4
theorem su_ts (h:suB u=true):tsB u.ts=true:=by
 unfold suB at h
 rw [Bool.and_eq_true] at h
 exact h.1
end
def sp_i_StartGame_y (p:Pr):FSpec:=fsp (ac (aA aSu) (a1 aS)) (fun (u,b)=>SiY u b) (fun (u,b)=>.tup [.agg (gmK ⟨u.ts,u.lex,u.bd,u.secs,u.rule,⟨u.bd.size,u.bd.prem,u.bd.cells⟩,sgBag b,[],[],[],0,0,⟨0,0,⟨0,0,false,[]⟩,[],[],0,0⟩,false⟩ (.osl 0) (.osl 1) (.osl 2) (.osl 3) (.osl 4) (.osl 5)),.i .i64 0]) (fun (u,b)=>[(0,.own [.i .i64] u.ts.values 2),(1,.own [.i .i64] u.ts.counts 2),(2,.own [.s] u.lex 9),(3,.own [.s] (sgRks b) 9),(4,.own [.i .i64] [0,0] 2),(5,.own [.i .i64] [u.secs,u.secs] 2)])
theorem ok_i_StartGame_y:FOk Tryz.prog 11 (sp_i_StartGame_y std):=by
 refine FOk.go (c:=cx std [(14,sp_i_ValidSetup std),(68,sp_i_ValidBag std),(69,sp_i_sorted std),(70,sp_i_allTiles std),(71,sp_i_copySetup std)] [] 0) (cx_ok (.cons ok_i_ValidSetup (.cons ok_i_ValidBag (.cons ok_i_sorted (.cons ok_i_allTiles (.cons ok_i_copySetup .nil))))) .nil) mixed Tryz.func11 rfl rfl rfl (by kernel_rfl) ?_
 rintro ⟨u,b⟩ hp
 dsimp only at hp
 refine⟨rfl,?_⟩
 unfold sp_i_ValidSetup sp_i_ValidBag sp_i_sorted sp_i_allTiles sp_i_copySetup
 generalize hP:std=p,hB0:suB=B0,hB1:bagB=B1,hB2:pileL=B2,hB3:countsL=B3,hB4:allT=B4,hB5:sgBag=B5,hB6:sgRks=B6
 cbv
 repeat' first
  | (refine fun (_:Unit)=>?_;cbv)
  | (refine aI2 (fun h=>?_) (fun h=>?_)<;>cbv)
  | (refine aI2 ?_ ?_)
  | (refine Or.inl (fun (_:Unit)=>?_);cbv)
 all_goals subst hP hB0 hB1 hB2 hB3 hB4 hB5 hB6
 all_goals try (exfalso;exact sg1 hp.c ‹_›)
 all_goals try (exfalso;exact sg2 hp.c ‹_›)
 all_goals try (exfalso;exact si3 hp.c ‹_›)
 all_goals try (exfalso;exact sg4 hp.c ‹_›)
 all_goals try exact fin
 all_goals have hF:=sg_f hp.c
 all_goals have h1:=hF.lo
 all_goals have h2:=hF.hi
 all_goals first
  | exact hp.q.su
  | exact hp.q.cp
  | exact ltM_of hp.q.b
  | exact st_p hF.bg
  | exact st_t 7 hF.bg
  | exact st_d 14 7 hF.bg
  | exact sb_tl (su_ts hF.su)
  | exact congrArg (fun z=>Ob.own [.s] z 9) (rks_p hF.bg)
  | skip
def sp_i_StartGame_n (p:Pr):FSpec:=fsp (ac (aA aSu) (a1 aS)) (fun (u,b)=>SiN u b) (fun (u,b)=>.tup [.agg (gmK gm0 .esl .esl .esl .esl .esl .esl),.i .i64 (bgnC u b)])
theorem ok_i_StartGame_n:FOk Tryz.prog 11 (sp_i_StartGame_n std):=by
 refine FOk.go (c:=cx std [(14,sp_i_ValidSetup std),(68,sp_i_ValidBag std),(69,sp_i_sorted std),(70,sp_i_allTiles std),(71,sp_i_copySetup std)] [] 0) (cx_ok (.cons ok_i_ValidSetup (.cons ok_i_ValidBag (.cons ok_i_sorted (.cons ok_i_allTiles (.cons ok_i_copySetup .nil))))) .nil) mixed Tryz.func11 rfl rfl rfl (by kernel_rfl) ?_
 rintro ⟨u,b⟩ hp
 dsimp only at hp
 refine⟨rfl,?_⟩
 unfold sp_i_ValidSetup sp_i_ValidBag sp_i_sorted sp_i_allTiles sp_i_copySetup
 generalize hP:std=p,hB0:suB=B0,hB1:bagB=B1,hB2:pileL=B2,hB3:countsL=B3,hB4:allT=B4,hB5:bgnC=B5
 cbv
 repeat' first
  | (refine fun (_:Unit)=>?_;cbv)
  | (refine aI2 (fun h=>?_) (fun h=>?_)<;>cbv)
  | (refine aI2 ?_ ?_)
  | (refine Or.inl (fun (_:Unit)=>?_);cbv)
 all_goals subst hP hB0 hB1 hB2 hB3 hB4 hB5
 all_goals try (exfalso;exact si5 hp.c ‹_› ‹_› ‹_› ‹_›)
 all_goals try exact fin
 all_goals first
  | exact hp.q.su
  | exact hp.q.cp
  | exact ltM_of hp.q.b
  | exact st_p ‹_›
  | exact sb_tl (su_ts ‹_›)
  | skip
 ·have h1:suB u=true:=by assumption
  have h2:bagB b=false:=by assumption
  rw [bgnC_std,h1,h2];rfl
 ·have h1:suB u=true:=by assumption
  have h2:bagB b=true:=by assumption
  have h3:std.eqS (pil b) (allT u.ts)=false:=by assumption
  rw [pil_eq h2] at h3
  rw [bgnC_std,h1,h2,h3];rfl
 ·have h1:suB u=true:=by assumption
  have h2:bagB b=true:=by assumption
  have h3:std.eqS (pil b) (allT u.ts)=true:=by assumption
  have h4:std.ltI (std.lenS b) 14=true:=by assumption
  rw [pil_eq h2] at h3
  rw [bgnC_std,h1,h2,h3,h4];rfl
 ·have h1:suB u=false:=by assumption
  rw [bgnC_std,h1];rfl
def sp_i_StartGame (p:Pr):FSpec:=fsp (ac (aA aSu) (a1 aS)) (fun (u,b)=>SiL u b) (fun (u,b)=>.tup [.agg (gmO6 (bgnR u b)),.i .i64 (bgnC u b)]) (fun (u,b)=>gmH6 (bgnR u b))
def spSiN (p:Pr):FSpec:=fsp (ac (aA aSu) (a1 aS)) (fun (u,b)=>SiN u b) (fun (u,b)=>.tup [.agg (gmO6 gm0),.i .i64 (bgnC u b)]) (fun _=>gmH6 gm0)
theorem okSiN:FOk Tryz.prog 11 (spSiN std):=FOk.own ok_i_StartGame_n rfl fun ⟨u,b⟩ w e v h hr=>
 tup_fol (.cons (agg_fol (esl_fol h)) (.cons (fun _ h=>h) .nil)) v hr
theorem ok_i_StartGame:FOk Tryz.prog 11 (sp_i_StartGame std):=FOk.casesE ok_i_StartGame_y okSiN fun ⟨u,b⟩ hp=>by
 by_cases hc:bgnC u b=0
 ·have e:bgnG u b=bgnR u b:=(if_pos hc).symm
  refine .inl ⟨⟨hp,hc⟩,?_,?_⟩
  ·show _=PV.tup [.agg (gmO6 (bgnR u b)),.i .i64 (bgnC u b)]
   rw [hc,←e];rfl
  ·show _=gmH6 (bgnR u b)
   rw [←e];rfl
 ·refine .inr ⟨⟨hp,hc⟩,?_,?_⟩
  ·show _=PV.tup [.agg (gmO6 (bgnR u b)),.i .i64 (bgnC u b)]
   unfold bgnR;rw [if_neg hc]
  ·show _=gmH6 (bgnR u b)
   unfold bgnR;rw [if_neg hc]
def sp_i_StartGameF (p:Pr):FSpec:=fsp (ac (aA aSu) (a1 aS)) (fun (u,b)=>SiL u b) (fun (u,b)=>.tup [.agg (gmR (bgnR u b)),.i .i64 (bgnC u b)])
theorem ok_i_StartGameF:FOk Tryz.prog 11 (sp_i_StartGameF std):=FOk.frz ok_i_StartGame fun ⟨u,b⟩=>by
 refine⟨?_,?_⟩
 ·simp [deep,deeps,AH.get,gmH6,gmO6,gmK,gmR]
 ·simp [PV.idIn,idInL,gmK,gmR]
end Ax
end Go.Proofs.YtjjonmhpgkahoaaGreatDoor
