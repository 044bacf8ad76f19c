/-
  Small numbers in decimal form, texts of verdicts, of the spec package.
  Conditions: none.
-/
import Derived.Test.YtjjonmhpgkahoaaGreatDoorH42
set_option linter.unusedSimpArgs false
set_option linter.unusedVariables false
namespace Go.Proofs.YtjjonmhpgkahoaaGreatDoor
namespace Ax
set_option maxRecDepth 100000
set_option maxHeartbeats 20000000
def dg2 (n:Int):List UInt8:=if n<10 then [UInt8.ofNat (48+n.toNat)] else [UInt8.ofNat (48+n.toNat/10),UInt8.ofNat (48+n.toNat%10)]
def dcS (n:Int):List UInt8:=if n<0 then 45::dg2 (0-n) else dg2 n
def DcP (n:Int):Prop:=n= -30∨n= -29∨n= -28∨n= -27∨n= -26∨n= -25∨n= -24∨n= -23∨n= -22∨n= -21∨n= -20∨n= -19∨n= -18∨n= -17∨n= -16∨n= -15∨n= -14∨n= -13∨n= -12∨n= -11∨n= -10∨n= -9∨n= -8∨n= -7∨n= -6∨n= -5∨n= -4∨n= -3∨n= -2∨n= -1∨n=0∨n=1∨n=2∨n=3∨n=4∨n=5∨n=6∨n=7∨n=8∨n=9∨n=10∨n=11∨n=12∨n=13∨n=14∨n=15∨n=16∨n=17∨n=18∨n=19∨n=20∨n=21∨n=22∨n=23∨n=24∨n=25∨n=26∨n=27∨n=28∨n=29∨n=30∨n=31
theorem TK {n:Int} (h : -30≤n∧n≤31):DcP n:=by unfold DcP;omega
theorem KL (n:Int):(dcS n).length ≤3:=by
 unfold dcS dg2
 split<;>split<;>simp
def mj (p:Pr):aa:=fsp (a1 aI) (fun n=>DcP n) (fun n=>.s (dcS n))
theorem yW:FOk Tryz.prog 149 (mj std):=by
 refine FOk.go (c:=cx std [] [] 0) (ae .nil .nil) mixed Tryz.func149 rfl rfl rfl (by kernel_rfl) ?_
 rintro n hp
 rcases hp with rfl | rfl | rfl | rfl | rfl | rfl | rfl | rfl | rfl | rfl | rfl | rfl | rfl | rfl | rfl | rfl | rfl | rfl | rfl | rfl | rfl | rfl | rfl | rfl | rfl | rfl | rfl | rfl | rfl | rfl | rfl | rfl | rfl | rfl | rfl | rfl | rfl | rfl | rfl | rfl | rfl | rfl | rfl | rfl | rfl | rfl | rfl | rfl | rfl | rfl | rfl | rfl | rfl | rfl | rfl | rfl | rfl | rfl | rfl | rfl | rfl | rfl
 all_goals
  refine⟨rfl,?_⟩
  cbv
  repeat' first|refine fun (_:Unit)=>?_;cbv|(refine aI2 (fun h=>?_) (fun h=>?_)<;>first | exact absurd h (by decide) | cbv)|refine aI2 ?_ ?_|refine Or.inl (fun (_:Unit)=>?_);cbv
 all_goals try exact Int.NonNeg.mk _
 all_goals try exact fin
def vtS (v:Vd):List UInt8:=if v.up then (([117,112,104,101,108,100,58,32]++jnS v.wrong)++[58,32])++dcS v.pts else (([114,101,102,117,115,101,100,58,32]++jnS v.words)++[58,32])++dcS v.pts
structure VtP (v:Vd):Prop where
 a:JnP v.words
 b:JnP v.wrong
 p:DcP v.pts
theorem Jj {l:List (List UInt8)} (h:JnP l):((jnS l).length : Int)≤1048576:=by
 have h1:=h.t l.length (Nat.le_refl _)
 rwa [List.take_length] at h1
theorem j6 {X Y:List UInt8} (h:(X.length:Int)+(Y.length:Int)≤4194304):std.inK .i64 (std.add (std.lenS X) (std.lenS Y)):=an (by show _≤(X.length:Int)+(Y.length:Int)∧(X.length:Int)+(Y.length:Int)≤_;omega)
def jj (p:Pr):aa:=fsp (a1 (aA aVd)) (fun v=>VtP v) (fun v=>.s (vtS v))
theorem uu:FOk Tryz.prog 59 (jj std):=by
 refine FOk.go (c:=cx std [(148,nL std),(149,mj std)] [] 0) (ae (.cons Bw (.cons yW .nil)) .nil) mixed Tryz.func59 rfl rfl rfl (by kernel_rfl) ?_
 rintro v hp
 refine⟨rfl,?_⟩
 unfold nL mj
 generalize hP:std=p,hB0:vtS=B0,hB1:jnS=B1,hB2:dcS=B2
 cbv
 repeat' first|refine fun (_:Unit)=>?_;cbv|refine aI2 (fun h=>?_) (fun h=>?_)<;>cbv|refine aI2 ?_ ?_|refine Or.inl (fun (_:Unit)=>?_);cbv
 all_goals subst hP hB0 hB1 hB2
 all_goals try exact fin
 all_goals have h1:=Jj hp.a
 all_goals have h2:=Jj hp.b
 all_goals have h3:=KL v.pts
 ·exact j6 (X:=[117,112,104,101,108,100,58,32]) (Y:=jnS v.wrong) (by simp only [List.length_cons,List.length_nil];omega)
 ·exact j6 (X:=[117,112,104,101,108,100,58,32]++jnS v.wrong) (Y:=[58,32]) (by simp only [List.length_append,List.length_cons,List.length_nil];omega)
 ·exact hp.p
 ·exact j6 (X:=([117,112,104,101,108,100,58,32]++jnS v.wrong)++[58,32]) (Y:=dcS v.pts) (by simp only [List.length_append,List.length_cons,List.length_nil];omega)
 ·unfold vtS
  rw [show v.up=true by assumption];rfl
 ·exact j6 (X:=[114,101,102,117,115,101,100,58,32]) (Y:=jnS v.words) (by simp only [List.length_cons,List.length_nil];omega)
 ·exact j6 (X:=[114,101,102,117,115,101,100,58,32]++jnS v.words) (Y:=[58,32]) (by simp only [List.length_append,List.length_cons,List.length_nil];omega)
 ·exact hp.p
 ·exact j6 (X:=([114,101,102,117,115,101,100,58,32]++jnS v.words)++[58,32]) (Y:=dcS v.pts) (by simp only [List.length_append,List.length_cons,List.length_nil];omega)
 ·unfold vtS
  rw [show v.up=false by assumption];rfl
end Ax
end Go.Proofs.YtjjonmhpgkahoaaGreatDoor
