/-
  Sequences of letters, words that a play forms, whether it touches the board, its code, of the impl package.
  Conditions: none.
-/
import Derived.Test.YtjjonmhpgkahoaaGreatDoorH20
set_option linter.unusedSimpArgs false
set_option linter.unusedVariables false
namespace Go.Proofs.YtjjonmhpgkahoaaGreatDoor
namespace Ax
set_option maxRecDepth 100000
set_option maxHeartbeats 2000000
def S6:Arg Bool:=⟨fun | .raw (.iface t (.agg ⟨[]⟩))=>if Nat.beq t 289 then some true else if Nat.beq t 290 then some false else none | _=>none,Md,fun x a h=>by
 split at h
 ·split at h
  ·rename_i ht
   cases h
   rw [Nat.eq_of_beq_eq_true ht];rfl
  ·split at h
   ·rename_i ht
    cases h
    rw [Nat.eq_of_beq_eq_true ht];rfl
   ·cases h
 ·cases h⟩
theorem Qs {b:Bd} {r c:Int} (h:b.let_ r c=true):b.inB r c=true:=by
 cases hi:b.inB r c
 ·unfold Bd.let_ Bd.cell at h
  rw [hi] at h
  simp at h
 ·rfl
structure Iy (b:Bd) (r c:Int):Prop where
 fit:b.Fit
 r:0≤r∧r≤14
 c:0≤c∧c≤14
theorem OY {b:Bd} {d:Bool} {r c n:Int} (h:Iy b r c) (ho:iq b d r c n=true) : -14≤n∧n≤14:=by
 have h1:=wE h.fit (Qs ho)
 have h2:=h.r
 have h3:=h.c
 unfold jR at h1
 cases d
 ·simp at h1;omega
 ·simp at h1;omega
theorem Qa {b:Bd} {d:Bool} {r c:Int} {f m:Nat} (h:iq b d r c (-(m:Int)-1)=true):lw b d r c (f+1) m=lw b d r c f (m+1):=by rw [lw,if_pos h]
theorem QK {b:Bd} {d:Bool} {r c:Int} {f m:Nat} (h:iq b d r c (-(m:Int)-1)=false):lw b d r c (f+1) m=m:=by rw [lw,if_neg (by rw [h];simp)]
theorem Rm {b:Bd} {d:Bool} {r c n:Int} {f:Nat} (h:iq b d r c n=true):jd b d r c (f+1) n=n::jd b d r c f (n+1):=by rw [jd,if_pos h]
theorem PQ {b:Bd} {d:Bool} {r c n:Int} {f:Nat} (h:iq b d r c n=false):jd b d r c f n=[]:=by
 cases f with
 | zero=>rfl
 | succ f=>rw [jd,if_neg (by rw [h];simp)]
def yV (b:Bd) (d:Bool) (r c:Int):Int:= -(lw b d r c 16 0:Int)
def Jt (b:Bd) (d:Bool) (r c n:Int):Prop:=n≤0∧ -15≤n∧lw b d r c 16 0=lw b d r c (16+n).toNat (-n).toNat
def HR (b:Bd) (d:Bool) (r c n:Int) (L:List (Int×Int)):Prop:=yV b d r c≤n∧n≤15∧fY b d r c=L++(jd b d r c (32-(n-yV b d r c).toNat) n).map (fun n=>jR d r c n)∧(L.length:Int)=n-yV b d r c
section
variable {b:Bd} {d:Bool} {r c n:Int} {L:List (Int×Int)}
theorem KR (b:Bd) (d:Bool) (r c:Int) : ∀f m,lw b d r c f m≤m+f
 | 0,m=>Nat.le_refl _
 | f+1,m=>by
   rw [lw]
   split
   ·have:=KR b d r c f (m+1);omega
   ·omega
theorem BB : -16≤yV b d r c∧yV b d r c≤0:=by
 have:=KR b d r c 16 0
 unfold yV;omega
theorem Dg:Jt b d r c 0:=⟨Int.le_refl 0,by decide,rfl⟩
theorem tI (hp:Iy b r c) (hk:Jt b d r c n) (h:iq b d r c (n-1)=true):Jt b d r c (n-1)∧(16+(n-1)).toNat < (16+n).toNat :=by
 obtain⟨h1,h2,h3⟩:=hk
 have h4:=OY hp h
 refine⟨⟨by omega,by omega,?_⟩,by omega⟩
 rw [h3,show (16+n).toNat =(16+(n-1)).toNat + 1 by omega,Qa (by rw [show -((-n).toNat : Int)-1=n-1 by omega];exact h)]
 congr 1;omega
theorem Gr (hk:Jt b d r c n) (h:iq b d r c (n-1)=false):HR b d r c n []:=by
 obtain⟨h1,h2,h3⟩:=hk
 have e:=QK (b:=b) (d:=d) (r:=r) (c:=c) (f:=(15+n).toNat) (m:=(-n).toNat) (by rw [show -((-n).toNat : Int)-1=n-1 by omega];exact h)
 rw [show (16+n).toNat =(15+n).toNat + 1 by omega,e] at h3
 have h4:yV b d r c=n:=by unfold yV;rw [h3];omega
 refine⟨by omega,by omega,?_,by rw [h4];simp⟩
 rw [h4,show 32-(n-n).toNat =32 by omega]
 unfold fY C6
 rw [show -(lw b d r c 16 0:Int)=n from h4]
 rfl
theorem tp (hp:Iy b r c) (hk:HR b d r c n L) (h:iq b d r c n=true):HR b d r c (n+1) (L++[jR d r c n])∧(16-(n+1)).toNat < (16-n).toNat :=by
 obtain⟨h1,h2,h3,h4⟩:=hk
 have h5:=OY hp h
 have h6:=BB (b:=b) (d:=d) (r:=r) (c:=c)
 refine⟨⟨by omega,by omega,?_,by rw [List.length_append,List.length_singleton];omega⟩,by omega⟩
 rw [h3,show 32-(n-yV b d r c).toNat =(32-(n+1-yV b d r c).toNat)+1 by omega,Rm h,List.map_cons,List.append_assoc]
 rfl
theorem Gt (hk:HR b d r c n L) (h:iq b d r c n=false):L=fY b d r c:=by
 obtain⟨h1,h2,h3,h4⟩:=hk
 rw [h3,PQ h];simp
theorem Gk (hk:HR b d r c n L):L.length≤32:=by
 obtain⟨h1,h2,h3,h4⟩:=hk
 have h6:=BB (b:=b) (d:=d) (r:=r) (c:=c)
 omega
end
def mE (p:Pr):aa:=fsp (ac (aA aBd) (ac (aA aSq) (a1 S6))) (fun (b,s,d)=>Iy b s.1 s.2) (fun (b,s,d)=>.rsl [.i .i64,.i .i64] (fY b d s.1 s.2))
def vu (p:Pr):aa:=fsp (ac (aA aBd) (ac (aA aSq) (a1 S6))) (fun (b,s,d)=>Iy b s.1 s.2) (fun (b,s,d)=>.osl 0) (fun (b,s,d)=>[(0,.own [.i .i64,.i .i64] (fY b d s.1 s.2) 211)])
theorem vr:FOk Tryz.prog 304 (vu std):=by
 refine FOk.go (c:=cx std [(364,gj std),(362,dH std),(258,cQ std)] [] 0) (ae (.cons qK (.cons lR (.cons jO .nil))) .nil) mixed Tryz.func304 rfl rfl rfl (by kernel_rfl) ?_
 rintro ⟨b,s,d⟩ hp
 dsimp only at hp
 obtain⟨dd,hd⟩ : ∃x,x=d:=⟨_,rfl⟩
 cases d
 all_goals
  refine⟨rfl,?_⟩
  unfold gj dH cQ
  obtain⟨H,hH⟩ : ∃H:Hd (Int),H=⟨fun n=>Jt b dd s.1 s.2 n,fun n=>(16+n).toNat,(· < ·)⟩:=⟨_,rfl⟩
  have hl:=hdl hH
  obtain⟨H2,hH2⟩ : ∃H:Hd (Int×List (Int×Int)),H=⟨fun (n,L)=>HR b dd s.1 s.2 n L,fun (n,L)=>(16-n).toNat,(· < ·)⟩:=⟨_,rfl⟩
  have hl2 : ∀m n,H2.lt m n→m<n:=by subst hH2;exact fun _ _ h=>h
  generalize hP:std=p,hB0:Bd.let_=B0,hB1:fY=B1
  cbv
  repeat' first|refine fun (_:Unit)=>?_;cbv|refine Or.inr ⟨10,[],[.s 7 (.i .i64)],[],[],H,rfl,hl,?_,fun (n:Int) hk=>?_⟩<;>cbv|refine Or.inr ⟨24,[],[.s 9 (.i .i64),.o 2 [.i .i64,.i .i64]],[.s 8],[],H2,rfl,hl2,?_,fun ((n,L):Int×List (Int×Int)) hk2=>?_⟩<;>cbv|refine aI2 (fun h=>?_) (fun h=>?_)<;>cbv|refine aI2 ?_ ?_
 all_goals subst hP hB0 hB1 hH hH2
 all_goals clear hl
 all_goals try dsimp only at hk
 all_goals clear hl2
 all_goals try dsimp only at hk2
 all_goals try dsimp only
 all_goals try exact fin
 all_goals subst hd
 all_goals have fb:=BB (b:=b) (d:=false) (r:=s.1) (c:=s.2)
 all_goals have fb':=BB (b:=b) (d:=true) (r:=s.1) (c:=s.2)
 all_goals have b1:=hp.r
 all_goals have b2:=hp.c
 ·exact Dg
 ·obtain⟨a1,a2,a3⟩:=hk;exact an (by show _≤n-1∧n-1≤_;omega)
 ·obtain⟨a1,a2,a3⟩:=hk;exact an (by show _≤s.2+(n-1)∧s.2+(n-1)≤_;omega)
 ·obtain⟨a1,a2,a3⟩:=hk;exact an (by show _≤n-1∧n-1≤_;omega)
 ·exact (tI hp hk (show iq b false s.1 s.2 (n-1)=true by assumption)).1
 ·exact (tI hp hk (show iq b false s.1 s.2 (n-1)=true by assumption)).2
 ·exact Gr hk (show iq b false s.1 s.2 (n-1)=false by assumption)
 ·obtain⟨a1,a2,a3,a4⟩:=hk2;exact an (by show _≤s.2+n∧s.2+n≤_;omega)
 ·obtain⟨a1,a2,a3,a4⟩:=hk2;exact an (by show _≤s.2+n∧s.2+n≤_;omega)
 ·have:=Gk hk2
  show (L.length:Int)+1≤_;omega
 ·obtain⟨a1,a2,a3,a4⟩:=hk2;exact an (by show _≤n+1∧n+1≤_;omega)
 ·exact (tp hp hk2 (show iq b false s.1 s.2 n=true by assumption)).1
 ·exact (tp hp hk2 (show iq b false s.1 s.2 n=true by assumption)).2
 ·rw [Gt hk2 (show iq b false s.1 s.2 n=false by assumption)]
 ·exact Dg
 ·obtain⟨a1,a2,a3⟩:=hk;exact an (by show _≤n-1∧n-1≤_;omega)
 ·obtain⟨a1,a2,a3⟩:=hk;exact an (by show _≤s.1+(n-1)∧s.1+(n-1)≤_;omega)
 ·obtain⟨a1,a2,a3⟩:=hk;exact an (by show _≤n-1∧n-1≤_;omega)
 ·exact (tI hp hk (show iq b true s.1 s.2 (n-1)=true by assumption)).1
 ·exact (tI hp hk (show iq b true s.1 s.2 (n-1)=true by assumption)).2
 ·exact Gr hk (show iq b true s.1 s.2 (n-1)=false by assumption)
 ·obtain⟨a1,a2,a3,a4⟩:=hk2;exact an (by show _≤s.1+n∧s.1+n≤_;omega)
 ·obtain⟨a1,a2,a3,a4⟩:=hk2;exact an (by show _≤s.1+n∧s.1+n≤_;omega)
 ·have:=Gk hk2
  show (L.length:Int)+1≤_;omega
 ·obtain⟨a1,a2,a3,a4⟩:=hk2;exact an (by show _≤n+1∧n+1≤_;omega)
 ·exact (tp hp hk2 (show iq b true s.1 s.2 n=true by assumption)).1
 ·exact (tp hp hk2 (show iq b true s.1 s.2 n=true by assumption)).2
 ·rw [Gt hk2 (show iq b true s.1 s.2 n=false by assumption)]
theorem yS:FOk Tryz.prog 304 (mE std):=FOk.frz vr fun ⟨b,s,d⟩=>⟨by simp [deep,eK,AH.get],by simp [PV.idIn,cP]⟩
end Ax
end Go.Proofs.YtjjonmhpgkahoaaGreatDoor
