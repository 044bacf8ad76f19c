/-
  A region that draws its order, the third form: an operation may yield a value that hangs on the world ("free").
  Conditions: the closed check regCkL of the region's own edges; none.
-/
import Derived.Test.YtjjonmhpgkahoaaGreatDoorH04
import Derived.Test.YtjjonmhpgkahoaaGreatDoorH18
import Derived.Lib.Builder
import Derived.Lib.UnsafeStr
import Derived.Lib.AppendStr
import Derived.Laws.Externs
import Derived.RegionTactic
import Derived.Laws.Rows
import Derived.Laws.Tables
set_option linter.unusedSimpArgs false
set_option linter.unusedVariables false
namespace Go.Proofs.YtjjonmhpgkahoaaGreatDoor
namespace RegV
open RegP RegL
section
variable {P:Program} {ops:Array Oper} {Q:Exit→Act→World→Prop} {S:(Nat→Value)→(Nat→Bool)→World→Prop}
def sub (σ:Nat→Value) (i:Nat) (u:Value):Nat→Value:=fun j=>if j=i then u else σ j
end
open Go.RowKit in
section
open Go.RowKit
variable {W w1 w2:World} {fs:List (Nat×Nat)} {σ:Nat→Value} {L:Nat→Bool} {i n:Nat}
end
end RegV
end Go.Proofs.YtjjonmhpgkahoaaGreatDoor
namespace Go.Proofs.YtjjonmhpgkahoaaGreatDoor
open Go.RowKit RegP RegL RegV
set_option maxHeartbeats 1000000
set_option maxRecDepth 100000
theorem Sk:SlT Tryz.prog 22 5 (.int .u8 0) 1 1:=⟨Tryz.underlying22,by kernel_rfl,rfl,by decide⟩
theorem IM {w w':World} {base e size n:Nat} {v:Value} {xs:List Value} (h:w.ownsRow base e size v n xs) (hk : ∀k,v.ownBlock=some k→w'.heap[k]? =w.heap[k]?):w'.ownsRow base e size v n xs:=by
 refine⟨h.1,h.2.imp id ?_⟩
 rintro ⟨g,cap,cur,rfl,h1,h2,h3⟩
 exact⟨g,cap,cur,rfl,h1,(hk g rfl).trans h2,h3⟩
theorem Hk {w:World} {base e size n:Nat} {v:Value} {xs:List Value} (h:w.ownsRow base e size v n xs) {p:Addr} (hp:v.ownBlock≠some p.block) (u:Value):(w.setCell p u).ownsRow base e size v n xs:=
 IM h fun k hk=>Below.heap_setCell w p u k (fun e=>hp (by rw [←e];exact hk))
theorem Blk.new1 (w:World) (o:Obj) (t:TypeId) (cs:Array Value):Blk ((w.alloc o).alloc (.cells cs t)) (w.heap.size+1) t cs:=by
 have:=Blk.new (w.alloc o) t cs
 rwa [show (w.alloc o).heap.size =w.heap.size+1 by simp] at this
def uT (w:World) (g base:Nat) (p:Value) (l:Str):Prop:=base≤g∧∃v,Blk w g 176 #[p,v]∧w.ownsRow base 5 1 v l.length (l.map bv)∧(l=[]→v=.slice none 0 0)
def Ab (g:Nat):Value:=.pointer (some ⟨g,0,none⟩)
theorem Blk.shape {w:World} {g:Nat} {t:TypeId} {cs:Array Value} (h:Blk w g t cs):w.shape? g=some (t,cs.size):=by
 unfold Blk at h
 simp [World.shape?,h]
theorem zI (g:Nat) (w:World) (h0:w.cell? ⟨g,0,none⟩=some (.pointer (some ⟨g,0,none⟩))) :
 Calls Tryz.prog 239 #[.pointer (some ⟨g,0,none⟩)] w fun e w'=>e=.returned (.tuple #[])∧w=w':=by
 obtain⟨j,hj,_⟩:=Option.map_eq_some_iff.1 (show (Tryz.prog.info? 176).map (·.size)=some 2 by kernel_rfl)
 have hq:=fun w=>Lib.run_neq_ptr_same (P:=Tryz.prog) w ⟨g,0,none⟩ Tryz.underlying174 hj
 go_enter Tryz.func239,Tryz.ntmps239
 go_wp2_with (fail)
 go_end0
 exact⟨rfl,rfl⟩
theorem yu (g:Nat) (w:World) (v:Value) (hb:Blk w g 176 #[.pointer none,v]) :
 Calls Tryz.prog 239 #[.pointer (some ⟨g,0,none⟩)] w fun e w'=>e=.returned (.tuple #[])∧w'=w.setCell ⟨g,0,none⟩ (.pointer (some ⟨g,0,none⟩)):=by
 obtain⟨j,hj,hjs⟩:=Option.map_eq_some_iff.1 (show (Tryz.prog.info? 176).map (·.size)=some 2 by kernel_rfl)
 have h0:w.cell? ⟨g,0,none⟩=some (.pointer none):=hb.cell 0
 have hz:w.frozen? ⟨g,0,none⟩=false:=hb.frozen 0
 have hs:w.shape? g=some (176,2):=hb.shape
 have k1:=Lib.run_to_unsafe (P:=Tryz.prog) (dst:=271) w ⟨g,0,none⟩ Tryz.underlying174 Tryz.underlying271 hj (by rw [hjs];decide) hs (Nat.zero_lt_succ 1)
 have k2:=Lib.run_from_unsafe (P:=Tryz.prog) w ⟨g,0,none⟩ Tryz.underlying271 Tryz.underlying174 hj hs (by kernel_rfl)
 have k3 : ∀x:Value,(callFunc 288 #[x]).run Tryz.prog w=.ok (.value x) w:=fun x=>by
  rw [run_callFunc_extern Tryz.func288 (by kernel_rfl) (by kernel_rfl) (by kernel_rfl) (e:=Extern.AbiNoEscape.same) (by kernel_rfl)]
  rfl
 go_enter Tryz.func239,Tryz.ntmps239
 go_wp2_with (fail)
 go_end0
 exact⟨rfl,rfl⟩
theorem yO (g base:Nat) (p:Value) (l:Str) (w:World) (hp:p=.pointer none∨p=Ab g) (h:uT w g base p l) :
 Calls Tryz.prog 239 #[.pointer (some ⟨g,0,none⟩)] w fun e w'=>e=.returned (.tuple #[])∧uT w' g base (Ab g) l∧Below base w w':=by
 obtain⟨hbg,v,hb,hown,hnil⟩:=h
 rcases hp with rfl | rfl
 ·refine (yu g w v hb).mono ?_
  rintro e w' ⟨rfl,rfl⟩
  exact⟨rfl,⟨hbg,v,hb.set_ 0 _,Hk hown (re hown hb (by decide)) _,hnil⟩,(Below.refl _ _).setCell hbg _⟩
 ·refine (zI g w (hb.cell 0)).mono ?_
  rintro e w' ⟨rfl,rfl⟩
  exact⟨rfl,⟨hbg,v,hb,hown,hnil⟩,Below.refl _ _⟩
theorem y2 (g base:Nat) (p:Value) (l:Str) (c:UInt8) (w:World) (hp:p=.pointer none∨p=Ab g) (h:uT w g base p l) (hl:l.length≤2 ^ 37) (hbw:base≤w.heap.size) :
 Calls Tryz.prog 237 #[.pointer (some ⟨g,0,none⟩),bv c] w fun e w'=>e=.returned .nilIface ∧uT w' g base (Ab g) (l++[c])∧Below base w w':=by
 have kc:=fun w h=>yO g base p l w hp h
 go_enter Tryz.func237,Tryz.ntmps237
 go_wp2_with (first
  | (go_at_call 239;refine (kc _ h).mono ?_;rintro e w1 ⟨rfl,⟨hbg,v,hb,hown,_⟩,hb1⟩
     obtain⟨A1,n1,rfl,_,_⟩:=KN hown
     have c1:w1.cell? ⟨g,1,none⟩=some (.slice A1 l.length n1):=hb.cell 1
     have hz1:=hb1.size)
  | (at_builtin;refine Ej Sk rfl (.tmp 11) (.tmp 13) rfl _ l.length (l.map bv) rfl base hown [bv c] rfl (by simp [Value.oneCell']) rfl (by omega) (by omega) (by omega) ?_;intro v2 w2 own2 hg2 hat2
     have hne:=re hown hb (by decide)
     have hB2:=hb.grown hg2 (fun h=>hne h.symm)
     have d1:w2.cell? ⟨g,1,none⟩=some (.slice A1 l.length n1):=hB2.cell 1
     have f1:w2.frozen? ⟨g,1,none⟩=false:=hB2.frozen 1
     have hb2:=Below.own hb1 (Nat.le_trans hbw hz1) hown (Nat.le_refl _) hg2
     obtain⟨A2,c2,rfl,_,_⟩:=KN own2))
 go_ret
 exact⟨rfl,⟨hbg,.slice A2 (l.length+1) c2,hB2.set_ 1 _,wY (Hk own2 (re (t:=176) own2 hB2 (by decide)) _) (by simp) (by simp),fun h=>by simp at h⟩,hb2.setCell hbg _⟩
theorem Fy (g base:Nat) (p:Value) (l:Str) (w:World) (h:uT w g base p l) :
 Calls Tryz.prog 168 #[.pointer (some ⟨g,0,none⟩)] w fun e w'=>e=.returned (sv l)∧Below base w w':=by
 obtain⟨hbg,v,hb,hown,hnil⟩:=h
 rcases hown.2 with ⟨rfl,h0⟩ | ⟨gv,cap,cur,rfl,hgv,hcur,hlc,hcm,hcs,htk⟩
 ·obtain rfl:l=[]:=List.eq_nil_of_length_eq_zero h0
  have c1:w.drew.cell? ⟨g,1,none⟩=some (.slice none 0 0):=hb.drew.cell 1
  have k1:=fun w=>Lib.run_unsafeString_none (P:=Tryz.prog) w 240 3 9 none
  have k2:(Builtin.unsafeSliceData_ #[22] 240 #[.slice none 0 0]).run Tryz.prog w.drew=.ok (.pointer none) w.drew:=rfl
  clear hown h0
  go_enter Tryz.func168,Tryz.ntmps168
  go_wp2_with (fail)
  go_region
  all_goals (go_wp2;go_ret;exact⟨rfl,(Below.refl _ _).drew⟩)
 ·have c1:w.drew.cell? ⟨g,1,none⟩=some (.slice (some ⟨gv,0,none⟩) l.length cap):=hb.drew.cell 1
  have hBc:Blk w gv 5 cur:=hcur
  by_cases hl:l=[]
  ·have:=hnil hl
   cases this
  ·have k2:(Builtin.unsafeSliceData_ #[22] 240 #[.slice (some ⟨gv,0,none⟩) l.length cap]).run Tryz.prog w.drew=.ok (.pointer (some ⟨gv,0,none⟩)) w.drew:=Lib.run_unsafeSliceData_row _ _ _ _ _ _ (by have:=List.length_pos_iff.2 hl;omega)
   have k3:(Builtin.unsafeString_ #[240,3] 9 #[.pointer (some ⟨gv,0,none⟩),.int .i64 l.length]).run Tryz.prog w.drew=.ok (.string ⟨l.toArray⟩) (w.drew.freeze ⟨gv,0,none⟩ l.length):=by
    refine Lib.run_unsafeString_row w.drew 240 3 9 5 Tryz.underlying240 (by kernel_rfl) gv cur.size hBc.drew.shape l hl (by omega) (by unfold maxLen at hcm;omega) ?_
    intro j x hx
    exact hown.cells (g:=gv) rfl j (.int .u8 x.toNat) (by rw [List.getElem?_map,hx];rfl)
   have hl':=Lib.hid hl
   clear hown hlc hcs htk hl
   go_enter Tryz.func168,Tryz.ntmps168
   go_wp2_with (fail)
   go_region
   all_goals (go_wp2;go_ret;exact⟨rfl,Lib.below_freeze (Below.refl _ _).drew (p:=⟨gv,0,none⟩) hgv _⟩)
def AA (c:List Int):Array Value:=(c.map (Value.int .i64)).toArray
theorem HO (c:List Int):(AA c).size =c.length:=by simp [AA]
theorem KB (c:List Int) (k:Nat) (h:k<c.length):(AA c)[k]? =some (.int .i64 (c.getD k 0)):=by
 simp [AA,List.getD_eq_getElem?_getD,List.getElem?_eq_getElem h]
theorem y3 (c:List Int) (k:Nat) (w:World) (h:k<27) (hc:c.length=27) :
 (Instr.index 172 (.agg (AA c)) (.int .i64 (k:Int))).run Tryz.prog w=.ok (.int .i64 (c.getD k 0)) w:=by
 have hg:=KB c k (by omega)
 have hu:Tryz.prog.underlying 172=some (.array 27 3):=Tryz.underlying172
 have hagg : ∀w,(isAgg 3).run Tryz.prog w=.ok false w:=fun w=>by kernel_rfl
 have hsz : ∀w,(Go.sizeOf 3).run Tryz.prog w=.ok 1 w:=fun w=>by kernel_rfl
 simp [Instr.index,asIntOf,run_underlying hu,hsz,hagg,hg,part,h]
theorem HJ (k:Nat) (h:k<27) (h0:k≠0):((fc k).toNat : Int)=96+k:=by
 unfold fc
 rw [if_neg h0,UInt8.toNat_ofNat']
 omega
theorem FH (k:Nat) (w:World) (h:k<27) :
 Calls Tryz.prog 238 #[.int .i64 (k:Int)] w fun e w'=>e=.returned (bv (fc k))∧w=w':=by
 by_cases h0:k=0
 ·subst h0
  go_enter Tryz.func238,Tryz.ntmps238
  go_wp2_with (fail)
  go_ret
  exact⟨rfl,rfl⟩
 ·have h0':((k:Int)==0)=false:=by simp [h0]
  have hn:=Lib.hid (HJ k h h0)
  have hk:(k:Int)<27:=by omega
  have hk1:(1:Int)≤(k:Int):=by omega
  clear h h0
  go_enter Tryz.func238,Tryz.ntmps238
  go_wp2_with (fail)
  go_ret
  exact⟨congrArg (fun n=>Ending.returned (.int .u8 n)) (by rw [hn.out];omega),rfl⟩
theorem pQ (c:List Int) (k:Nat):cO c (k+1)=cO c k++List.replicate (c.getD k 0).toNat (fc k):=by
 simp [cO,List.range_succ]
theorem zN (c:List Int) (k:Nat) : ∀d,(cO c k).length ≤(cO c (k+d)).length
 | 0=>Nat.le_refl _
 | d+1=>by
   have:=zN c k d
   rw [show k+(d+1)=(k+d)+1 by omega,pQ,List.length_append];omega
theorem I4 (c:List Int) (w:World) (hc:c.length=27) (hnn : ∀j,0≤c.getD j 0) (hs:(d6 c).length ≤2 ^ 37) :
 Calls Tryz.prog 165 #[.agg (AA c)] w fun e w'=>e=.returned (sv (d6 c))∧Below w.heap.size w w':=by
 have hidx:=fun (k:Nat) (h:k<27) (w:World)=>y3 c k w h hc
 have hsz:(AA c).size =27:=by rw [HO,hc]
 obtain⟨X,hX⟩ : ∃X,X=AA c:=⟨_,rfl⟩
 have hPL:Hid (d6 c=cO c 27):=Lib.hid rfl
 obtain⟨PL,hPLe⟩ : ∃PL,PL=d6 c:=⟨_,rfl⟩
 rw [←hPLe] at hPL hs ⊢
 rw [←hX] at hidx hsz ⊢
 clear hX hPLe
 have hs27:=Lib.hid hsz
 have hidx':=Lib.hid hidx
 clear hsz hidx hc
 go_enter Tryz.func165,Tryz.ntmps165
 go_wp2_with (refine wpList_load_row rfl 172 (.tmp 1) rfl w.heap.size rfl 172 X (0,0) _ ((Blk.new w 172 X).alloc _) Tryz.underlying172 rfl (by rw [hs27.out];kernel_rfl) ?_)
 have hB0:uT ((w.alloc (.cells X 172)).alloc (.cells #[.pointer none,.slice none 0 0] 176)) (w.heap.size+1) w.heap.size (.pointer none) []:=
  ⟨by omega,_,Blk.new1 w _ _ _,⟨rfl,.inl ⟨rfl,rfl⟩⟩,fun _=>rfl⟩
 have hb0:Below w.heap.size w ((w.alloc (.cells X 172)).alloc (.cells #[.pointer none,.slice none 0 0] 176)):=((Below.refl _ _).alloc (Nat.le_refl _) _).alloc (by simp) _
 have hn':=Lib.hid hnn
 clear hnn
 go_loopw [7] (fun i wr=>∃(k:Nat) (p:Value),k≤27∧i=.int .i64 k∧Hid (p=.pointer none∨p=Ab (w.heap.size+1))∧uT wr (w.heap.size+1) w.heap.size p (cO c k)∧Below w.heap.size w wr) (fun i _=>27-(intOf i).toNat)
 case atStart=>exact⟨0,_,by omega,rfl,.inl rfl,hB0,hb0⟩
 case round=>
  clear hB0 hb0
  obtain⟨k,p,hk,rfl,hp,hB,hb⟩:=hrel
  by_cases hlt:k<27
  ·have hkk:(k:Int)<27:=by omega
   have hk0:(0:Int)≤(k:Int):=by omega
   have hix:=hidx'.out k hlt
   have hsucc:=pQ c k
   have hle:=zN c (k+1) (26-k)
   rw [show k+1+(26-k)=27 by omega,←hPL.out] at hle
   have hsl:Hid ((cO c (k+1)).length =(cO c k).length + (c.getD k 0).toNat):=Lib.hid (by rw [hsucc,List.length_append,List.length_replicate])
   have hsc:=Lib.hid hsucc
   obtain⟨n,hn⟩ : ∃n:Nat,c.getD k 0=(n:Int):=⟨(c.getD k 0).toNat,by have:=hn'.out k;omega⟩
   have hsc2:Hid (cO c (k+1)=cO c k++List.replicate n (fc k)):=Lib.hid (by rw [hsc.out,hn];simp)
   have hlen:(cO c k).length + n≤137438953472:=by have h:=hsl.out;rw [hn] at h;simp at h;omega
   rw [hn] at hix
   have kt:=fun w=>FH k w hlt
   obtain⟨P0,hP0⟩ : ∃P0,P0=cO c k:=⟨_,rfl⟩
   rw [←hP0] at hB hsc2 hlen
   obtain⟨t,ht⟩ : ∃t,t=fc k:=⟨_,rfl⟩
   rw [←ht] at kt hsc2
   clear hsucc hsc hsl hn hP0 ht hle
   go_wp2_with (fail)
   obtain⟨wo,rfl⟩ : ∃wo:World,wo=wr:=⟨_,rfl⟩
   go_loopw [5] (fun i wr=>∃(m:Nat) (p:Value),m≤n∧i=.int .i64 m∧Hid (p=.pointer none∨p=Ab (w.heap.size+1))∧uT wr (w.heap.size+1) w.heap.size p (P0++List.replicate (n-m) t)∧Below w.heap.size w wr) (fun i _=>(intOf i).toNat)
   case atStart=>exact⟨n,p,Nat.le_refl _,rfl,hp,by simpa using hB,hb⟩
   case round=>
    clear hB hb hp
    obtain⟨m,p,hm,rfl,hp,hB,hb⟩:=hrel
    by_cases hm0:0<m
    ·have hm1:(0:Int)<(m:Int):=by omega
     have hln:(P0++List.replicate (n-m) t).length ≤2 ^ 37:=by simp;omega
     have hstep:Hid (P0++List.replicate (n-(m-1)) t=(P0++List.replicate (n-m) t)++[t]):=Lib.hid (by rw [show n-(m-1)=(n-m)+1 by omega,List.replicate_succ',List.append_assoc])
     have hz:=hb.size
     have hsub:Hid ((m:Int)-1=((m-1:Nat):Int)):=Lib.hid (by omega)
     obtain⟨L,hL⟩ : ∃L,L=P0++List.replicate (n-m) t:=⟨_,rfl⟩
     rw [←hL] at hB hln hstep
     clear hL
     go_wp2_with (first
      | (go_at_call 238;refine (kt _).mono ?_;rintro e w' ⟨rfl,rfl⟩)
      | (go_at_call 237;refine (y2 (w.heap.size+1) w.heap.size p L t _ hp.out hB hln hz).mono ?_;rintro e w2 ⟨rfl,hB2,hb2⟩))
     go_roundw
     case rel=>exact⟨m-1,_,by omega,by rw [hsub.out],.inr rfl,by rw [hstep.out];exact hB2,hb.trans hb2⟩
     case measure=>simp [intOf];omega
    ·obtain rfl:m=0:=by omega
     go_wp2_with (fail)
     go_roundw
     case rel=>exact⟨k+1,p,by omega,by go_num,hp,by rw [hsc2.out];simpa using hB,hb⟩
     case measure=>simp [intOf];omega
  ·obtain rfl:k=27:=by omega
   rw [←hPL.out] at hB
   go_wp2_with (go_at_call 168;refine (Fy (w.heap.size+1) w.heap.size p PL _ hB).mono ?_;rintro e w2 ⟨rfl,hb2⟩)
   go_ret
   exact⟨rfl,hb.trans hb2⟩
end Go.Proofs.YtjjonmhpgkahoaaGreatDoor
namespace Go.Proofs.YtjjonmhpgkahoaaGreatDoor
open Go.RowKit
set_option maxHeartbeats 2000000
set_option maxRecDepth 100000
theorem Eu (g gv cap:Nat) (p:Value) (l:List UInt8) (cur:Array Value) (w:World) (hb:Blk w g 176 #[p,.slice (some ⟨gv,0,none⟩) l.length cap]) (hBc:Blk w gv 5 cur) (hl:l≠[]) (hc:l.length≤cap) (hcm:cap≤maxLen) (hcs:cur.size=cap)
 (hat : ∀j x,l[j]? =some x→w.cell? ⟨gv,j,none⟩=some (.int .u8 x.toNat)) :
 Calls Tryz.prog 168 #[.pointer (some ⟨g,0,none⟩)] w fun e w'=>e=.returned (.string ⟨l.toArray⟩)∧w'=w.drew.freeze ⟨gv,0,none⟩ l.length:=by
 have c1:w.drew.cell? ⟨g,1,none⟩=some (.slice (some ⟨gv,0,none⟩) l.length cap):=hb.drew.cell 1
 have k2:(Builtin.unsafeSliceData_ #[22] 240 #[.slice (some ⟨gv,0,none⟩) l.length cap]).run Tryz.prog w.drew=.ok (.pointer (some ⟨gv,0,none⟩)) w.drew:=Lib.run_unsafeSliceData_row _ _ _ _ _ _ (by have:=List.length_pos_iff.2 hl;omega)
 have k3:(Builtin.unsafeString_ #[240,3] 9 #[.pointer (some ⟨gv,0,none⟩),.int .i64 l.length]).run Tryz.prog w.drew=.ok (.string ⟨l.toArray⟩) (w.drew.freeze ⟨gv,0,none⟩ l.length):=by
  refine Lib.run_unsafeString_row w.drew 240 3 9 5 Tryz.underlying240 (by kernel_rfl) gv cur.size hBc.drew.shape l hl (by omega) (by unfold maxLen at hcm;omega) ?_
  intro j x hx
  have hadd:(⟨gv,0,none⟩:Addr).add j=⟨gv,j,none⟩:=by unfold Addr.add;split<;>simp_all
  rw [hadd]
  exact hat j x hx
 have hl':=Lib.hid hl
 clear hc hcm hcs hl hat
 go_enter Tryz.func168,Tryz.ntmps168
 go_wp2_with (fail)
 go_region
 all_goals (go_wp2;go_ret;exact⟨rfl,rfl⟩)
namespace Ax
def blF:AH:=[(0,.cells [.nilp,.esl] 176)]
def blH:AH:=[(0,.cells [.ptr 0 0,.esl] 176)]
def blU (L:List Int):AH:=[(0,.cells [.ptr 0 0,.osl 1] 176),(1,.own [.i .u8] L 5)]
def rdF {β:Type} (B:gi β):AH→List PV→Option (Unit×β)
 | [(0,.cells [.nilp,.esl] t)],.ptr 0 0::r=>if Nat.beq t 176 then hZ (some ()) (B.rd r) else none
 | _,_=>none
def mBF {β:Type} (B:gi β):je (Unit×β):=⟨rdF B,fun _=>blF,fun a=>.ptr 0 0::B.enc a.2,fun H l a h=>by
 unfold rdF at h
 split at h
 ·split at h
  ·rename_i ht
   obtain⟨-,h2⟩:=mU h
   exact⟨by rw [Nat.eq_of_beq_eq_true ht];rfl,by rw [B.ok _ _ h2]⟩
  ·cases h
 ·cases h⟩
def rdU {β:Type} (B:gi β):AH→List PV→Option (List Int×β)
 | [(0,.cells [.ptr 0 0,.osl 1] t),(1,.own [.i .u8] L u)],.ptr 0 0::r=>if Nat.beq t 176&&Nat.beq u 5 then hZ (some L) (B.rd r) else none
 | _,_=>none
def mBU {β:Type} (B:gi β):je (List Int×β):=⟨rdU B,fun a=>blU a.1,fun a=>.ptr 0 0::B.enc a.2,fun H l a h=>by
 unfold rdU at h
 split at h
 ·split at h
  ·rename_i ht
   rw [Bool.and_eq_true] at ht
   obtain⟨h1,h2⟩:=mU h
   cases h1
   exact⟨by rw [Nat.eq_of_beq_eq_true ht.1,Nat.eq_of_beq_eq_true ht.2];rfl,by rw [B.ok _ _ h2]⟩
  ·cases h
 ·cases h⟩
theorem LW {k:Nat} {o:Ob} {j:Nat} {o':Ob} (h:AH.get [(k,o)] j=some o'):j=k∧o'=o:=by
 unfold AH.get at h
 split at h
 ·rename_i hk;exact⟨(by simpa using hk:k=j).symm,by cases h;rfl⟩
 ·cases h
theorem xr {w:World} {e:Env} {id:Nat} {l:List PV} {ty:TypeId} (h:OR w e id (.cells l ty)) : ∃b vs,e.adr id=some ⟨b,0,none⟩∧¬e.fz b∧w.heap[b]? =some (.cells vs ty (0,0))∧Rs w e l vs.toList:=by
 unfold OR at h;exact h
def CF (p:Pr):bX:=msp (mBF a0) (fun _=>True) (fun _=>.tup []) fun _=>blH
def Dc (p:Pr):bX:=msp (mBU a0) (fun _=>True) (fun _=>.tup []) fun _=>[]
theorem J5:MOk Tryz.prog 239 (CF std):=by
 refine⟨⟨_,Tryz.func239,rfl,rfl⟩,fun H args out hs hp w e vals hz hob hon hlv hbd hdis hl=>?_⟩
 unfold CF msp at hs
 split at hs
 ·rename_i a ha
  cases hs
  obtain⟨rfl,rfl⟩:=(mBF a0).ok _ _ _ ha
  obtain⟨hO,hn0⟩:=hob 0 _ (show AH.get blF 0=some _ from rfl)
  obtain⟨b,vs,h1,h2,h3,h4⟩:=xr hO
  obtain⟨x,y,h5,h6,h7⟩:=Rs2 h4
  have h6:x=.pointer none:=by unfold R at h6;exact h6
  have h7:y=.slice none 0 0:=by unfold R at h7;exact h7
  subst h6 h7
  obtain⟨u,hv,h8⟩:=Rs1 hl
  rw [eW hv]
  unfold R at h8
  obtain⟨-,b',h9,rfl⟩:=h8
  rw [h1] at h9
  cases h9
  have hB:Blk w b 176 #[.pointer none,.slice none 0 0]:=by unfold Blk;rw [h3,eW h5]
  refine (yu b w _ hB).mono ?_
  rintro en w' ⟨rfl,rfl⟩
  have hB':=hB.set_ 0 (.pointer (some ⟨b,0,none⟩))
  refine⟨_,e,rfl,by unfold R;exact⟨#[],rfl,by unfold Rs;rfl⟩,.refl e,.of fun _ h=>h,?_,fun k hk=>.inl hk,fun k hk=>.inl hk,fun k hk=>.inl hk,fun k _ _ h1 h2=>absurd h1 h2,⟨rfl,rfl,rfl,by rw [World.size_setCell];exact Nat.le_refl _,fun j _ hM=>heap_setCell_other w _ j _ fun hj=>hM ⟨0,(hlv 0).2 (Nat.zero_lt_succ _),rfl,_,h1,hj.symm⟩⟩⟩
  intro k o hk
  obtain⟨rfl,rfl⟩:=LW hk
  refine⟨?_,hn0,fun _=>(hlv 0).2 (Nat.zero_lt_succ _)⟩
  unfold OR
  refine⟨b,_,h1,h2,hB',?_⟩
  simp [Rs,R,h1,hn0]
 ·cases hs
theorem IT:MOk Tryz.prog 239 (Dc std):=by
 refine⟨⟨_,Tryz.func239,rfl,rfl⟩,fun H args out hs hp w e vals hz hob hon hlv hbd hdis hl=>?_⟩
 unfold Dc msp at hs
 split at hs
 ·rename_i a ha
  cases hs
  obtain⟨rfl,rfl⟩:=(mBU a0).ok _ _ _ ha
  obtain⟨hO,hn0⟩:=hob 0 _ (show AH.get (blU a.1) 0=some _ from rfl)
  obtain⟨b,vs,h1,h2,h3,h4⟩:=xr hO
  obtain⟨x,y,h5,h6,h7⟩:=Rs2 h4
  have h6:x=.pointer (some ⟨b,0,none⟩):=by
   unfold R at h6
   obtain⟨-,b',q1,q2⟩:=h6
   rw [h1] at q1;cases q1;exact q2
  subst h6
  obtain⟨u,hv,h8⟩:=Rs1 hl
  rw [eW hv]
  unfold R at h8
  obtain⟨-,b',h9,rfl⟩:=h8
  rw [h1] at h9
  cases h9
  have hB:Blk w b 176 #[.pointer (some ⟨b,0,none⟩),y]:=by unfold Blk;rw [h3,eW h5]
  refine (zI b w (hB.cell 0)).mono ?_
  rintro en w' ⟨rfl,rfl⟩
  exact⟨_,e,rfl,by unfold R;exact⟨#[],rfl,by unfold Rs;rfl⟩,.refl e,.of fun _ h=>h,fun k o hk=>by simp [AH.get] at hk,fun k hk=>.inl hk,fun k hk=>.inl hk,fun k hk=>.inl hk,fun k _ _ h1 h2=>absurd h1 h2,.refl _ _⟩
 ·cases hs
def sR (p:Pr):bX:=bX.or (msp (mBF a0) (fun _=>True) (fun _=>.tup []) fun _=>blH) (msp (mBU a0) (fun _=>True) (fun _=>.tup []) fun _=>[])
theorem Hz:MOk Tryz.prog 239 (sR std):=MOk.or J5 IT
def wn (p:Pr):bX:=msp (mBU a0) (fun (L,_)=>∀x∈L,0≤x∧x≤255) (fun (L,_)=>.s (p.toS L)) fun _=>[(1,.gone)]
theorem MJ {L:List Int} (h : ∀x∈L,0≤x∧x≤255):aq (fZ L)=L:=by
 unfold aq fZ
 rw [List.map_map]
 conv=>rhs;rw [←List.map_id L]
 refine List.map_congr_left fun x hx=>?_
 have:=h x hx
 show ((UInt8.ofNat x.toNat).toNat : Int)=x
 rw [UInt8.toNat_ofNat']
 omega
theorem Bi (w:World) (p:Addr) (n k:Nat) (h:k≠p.block):(w.freeze p n).heap[k]? =w.heap[k]? :=by
 unfold World.freeze
 split
 ·rfl
 ·simp only [Array.getElem?_modify]
  rw [if_neg (by omega)]
theorem MW:MOk Tryz.prog 168 (wn std):=by
 refine⟨⟨_,Tryz.func168,rfl,rfl⟩,fun H args out hs hp w e vals hz hob hon hlv hbd hdis hl=>?_⟩
 unfold wn msp at hs
 split at hs
 ·rename_i a ha
  cases hs
  obtain⟨rfl,rfl⟩:=(mBU a0).ok _ _ _ ha
  obtain⟨L,u0⟩:=a
  have hL : ∀x∈L,0≤x∧x≤255:=hp _ (by simp)
  obtain⟨hO,hn0⟩:=hob 0 _ (show AH.get (blU L) 0=some _ from rfl)
  obtain⟨hO1,hn1⟩:=hob 1 _ (show AH.get (blU L) 1=some (.own [.i .u8] L 5) from rfl)
  obtain⟨b,vs,h1,h2,h3,h4⟩:=xr hO
  obtain⟨x,y,h5,h6,h7⟩:=Rs2 h4
  have h7:y=.slice (e.adr 1) (e.len 1) (e.cap 1):=by unfold R at h7;exact h7.2
  subst h7
  obtain⟨u,hv,h8⟩:=Rs1 hl
  rw [eW hv]
  unfold R at h8
  obtain⟨-,b',h9,rfl⟩:=h8
  rw [h1] at h9
  cases h9
  have hB:Blk w b 176 #[x,.slice (e.adr 1) (e.len 1) (e.cap 1)]:=by unfold Blk;rw [h3,eW h5]
  have hfin : ∀w',w'.os=w.os→w'.tape=w.tape→w'.output=w.output→w.heap.size≤w'.heap.size→(∀j,j<w.heap.size→(∀ad,e.adr 1=some ad→ad.block≠j)→w'.heap[j]? =w.heap[j]?)→
   ∃v e',Ending.returned (.string ⟨(fZ L).toArray⟩)=.returned v∧fW w w' e e' (blU L).length ⟨[∀x∈L,0≤x∧x≤255],.s (std.toS L),[(1,.gone)]⟩ v:=fun w' q1 q2 q3 q4 q5=>by
   refine⟨_,{ e with lv:=fun k=>e.lv k∧k≠1 },rfl,by unfold R;rfl,⟨fun k h=>h,fun _ _=>rfl,fun _ _=>rfl,fun _ _=>rfl,fun _ h=>h⟩,.of fun _ h=>h,?_,fun k hk=>.inl hk,fun k hk=>.inl hk.1,fun k hk=>?_,fun k _ _ h1 h2=>absurd h1.1 h2,⟨q1,q2,q3,q4,fun j hj hM=>q5 j hj fun ad h h'=>hM ⟨1,(hlv 1).2 (Nat.lt_succ_self 1),rfl,ad,h,h'⟩⟩⟩
   ·intro k o hk
    obtain⟨rfl,rfl⟩:=LW hk
    exact⟨trivial,hn1,fun h=>by cases h⟩
   ·by_cases h:k=1
    ·subst h;exact .inr rfl
    ·exact .inl ⟨hk,h⟩
  unfold OR at hO1
  obtain⟨g1,g2⟩:=hO1
  rcases g2 with ⟨g3,rfl,g4⟩ | ⟨gv,cur,g3,g4,g5,g6,⟨g7,g8⟩,g9⟩
  ·rw [g3,g1,g4] at hB
   refine (Any.Builder_String_nil Tryz.lays169 Tryz.Builder_Extra_169 w.heap.size b x w hB).mono ?_
   rintro en w' ⟨rfl,hb⟩
   exact hfin w' hb.os hb.tape hb.output hb.size fun j hj _=>hb.block j hj
  ·rw [g3,g1] at hB
   by_cases h0:L=[]
   ·subst h0
    by_cases hc0:e.cap 1=0
    ·rw [hc0] at hB
     refine (Any.Builder_String_noroom Tryz.lays169 Tryz.Builder_Extra_169 w.heap.size b gv x cur w (Nat.le_refl _) hB g5).mono ?_
     rintro en w' ⟨rfl,hb⟩
     exact hfin w' hb.os hb.tape hb.output hb.size fun j hj _=>hb.block j hj
    ·refine (Any.Builder_String_room Tryz.lays169 Tryz.Builder_Extra_169 w.heap.size b gv (e.cap 1) x w hc0 hB).mono ?_
     rintro en w' ⟨rfl,hb⟩
     exact hfin w' hb.os hb.tape hb.output hb.size fun j hj _=>hb.block j hj
   ·have hll:(fZ L).length =L.length:=by simp [fZ]
    refine (Eu b gv (e.cap 1) x (fZ L) cur w (by rw [hll];exact hB) g5 (fun h=>h0 (List.eq_nil_of_length_eq_zero (by rw [←hll,h];rfl))) (by rw [hll];exact g7) g8 (by simpa using g6) fun j z hz=>?_).mono ?_
    ·have hz':L[j]? =some (z.toNat:Int):=by
      have:=congrArg (fun l=>l[j]?) (MJ hL)
      have:=(show (aq (fZ L))[j]? =L[j]? from this)
      rw [←this]
      unfold aq
      rw [List.getElem?_map,hz];rfl
     have:=g9 j _ hz'
     unfold RE REs RE2 at this
     obtain⟨q,q1,q2⟩:=this
     unfold RA at q2
     rw [q2] at q1
     simpa using q1
    ·rintro en w' ⟨rfl,rfl⟩
     have hsz:(w.drew.freeze ⟨gv,0,none⟩ (fZ L).length).heap.size =w.heap.size:=by
      unfold World.freeze;split
      ·rfl
      ·show (Array.modify _ _ _).size =_;rw [Array.size_modify];rfl
     refine hfin _ ?_ ?_ ?_ (by rw [hsz];exact Nat.le_refl _) fun j hj h=>Bi w.drew _ _ j fun h'=>h _ g3 h'.symm
     all_goals (unfold World.freeze;split<;>rfl)
 ·cases hs
def Jy (p:Pr):bX:=msp (mBF (a1 aS)) (fun (_u,s)=>p.ltM (p.lenS s)) (fun (_u,s)=>.tup [.i .i64 (p.lenS s),.raw .nilIface]) (fun (_u,s)=>[(0,.cells [.ptr 0 0,.osl 1] 176),(1,.own [.i .u8] (p.toB s) 5)])
theorem IX:MOk Tryz.prog 166 (Jy std):=by
 refine MOk.go (c:=cx std [] [(239,sR std)] 1) (ae .nil (.cons Hz .nil)) mixed Tryz.func166 rfl rfl (by kernel_rfl) ?_
 rintro ⟨_u,s⟩ hp
 dsimp only at hp
 refine⟨rfl,?_⟩
 unfold sR
 generalize hP:std=p
 cbv
 repeat' first|refine fun (_:Unit)=>?_;cbv|refine aI2 (fun h=>?_) (fun h=>?_)<;>cbv|refine aI2 ?_ ?_|refine Or.inl (fun (_:Unit)=>?_);cbv
 all_goals subst hP
 all_goals try exact fin
def Jk (p:Pr):bX:=msp (mBU (a1 aS)) (fun (L,s)=>p.ltM (p.add (p.len L) (p.lenS s))) (fun (L,s)=>.tup [.i .i64 (p.lenS s),.raw .nilIface]) (fun (L,s)=>[(0,.cells [.ptr 0 0,.osl 2] 176),(1,.gone),(2,.own [.i .u8] (p.snoc L (p.toB s)) 5)])
theorem JJ:MOk Tryz.prog 166 (Jk std):=by
 refine MOk.go (c:=cx std [] [(239,sR std)] 2) (ae .nil (.cons Hz .nil)) mixed Tryz.func166 rfl rfl (by kernel_rfl) ?_
 rintro ⟨L,s⟩ hp
 dsimp only at hp
 refine⟨rfl,?_⟩
 unfold sR
 generalize hP:std=p
 cbv
 repeat' first|refine fun (_:Unit)=>?_;cbv|refine aI2 (fun h=>?_) (fun h=>?_)<;>cbv|refine aI2 ?_ ?_|refine Or.inl (fun (_:Unit)=>?_);cbv
 all_goals subst hP
 all_goals try exact fin
def BT (p:Pr):bX:=bX.or (msp (mBF (a1 aS)) (fun (_,s)=>p.ltM (p.lenS s)) (fun (_,s)=>.tup [.i .i64 (p.lenS s),.raw .nilIface]) (fun (_,s)=>[(0,.cells [.ptr 0 0,.osl 1] 176),(1,.own [.i .u8] (p.toB s) 5)]))
 (msp (mBU (a1 aS)) (fun (L,s)=>p.ltM (p.add (p.len L) (p.lenS s))) (fun (_,s)=>.tup [.i .i64 (p.lenS s),.raw .nilIface]) (fun (L,s)=>[(0,.cells [.ptr 0 0,.osl 2] 176),(1,.gone),(2,.own [.i .u8] (p.snoc L (p.toB s)) 5)]))
theorem ML:MOk Tryz.prog 166 (BT std):=MOk.or IX JJ
end Ax
end Go.Proofs.YtjjonmhpgkahoaaGreatDoor
namespace Go.Proofs.YtjjonmhpgkahoaaGreatDoor
namespace Ax
open Go.RowKit
set_option maxRecDepth 100000
set_option maxHeartbeats 2000000
def aCt:Arg (List Int):=⟨fun | .arr (.i .i64) n L=>if Nat.beq n 27 then some L else none | _=>none,fun L=>.arr (.i .i64) 27 L,fun x a h=>by
 split at h
 ·split at h
  ·rename_i hn
   cases h
   rw [Nat.eq_of_beq_eq_true hn]
  ·cases h
 ·cases h⟩
structure CtP (c:List Int) (m:Int):Prop where
 len:c.length=27
 lo : ∀j,0≤c.getD j 0
 hi : ∀j,c.getD j 0≤m
theorem p7 {c:List Int} {m:Nat} (h : ∀j,c.getD j 0≤m) : ∀k,(cO c k).length ≤k*m
 | 0=>by simp [cO]
 | k+1=>by
   rw [pQ,List.length_append,List.length_replicate,Nat.succ_mul]
   have h1:=p7 h k
   have h2:=h k
   omega
def nD (p:Pr):aa:=fsp (a1 aCt) (fun c=>CtP c 1000000000) (fun c=>.s (d6 c))
theorem BD:FOk Tryz.prog 165 (nD std):=by
 refine FOk.of_calls Tryz.func165 rfl rfl fun c hp w e vals hz hl=>?_
 obtain⟨u,hv,h1⟩:=Rs1 hl
 rw [eW hv]
 have h1:u=.agg (AA c):=by unfold R at h1;exact h1.2.2
 subst h1
 have hp:CtP c 1000000000:=hp
 refine (I4 c w hp.len hp.lo ?_).mono ?_
 ·have h2:=p7 (m:=1000000000) hp.hi 27
  unfold d6;omega
 ·rintro en w' ⟨rfl,hb⟩
  exact⟨_,rfl,fun w e=>by unfold R;rfl,hb⟩
theorem OA {c:UInt8} (h:aK c=true):dQ (c.toNat:Int)=(dg c:Int)∧dg c<27:=by
 have h1:=jr h
 refine⟨?_,h1⟩
 rcases (jx c).1 h with rfl | ⟨h2,h3⟩
 ·rfl
 ·rw [eu h2]
  unfold dQ inR
  rw [if_neg (by omega),decide_eq_true (by omega),decide_eq_true (by omega),if_pos (by rfl)]
  omega
theorem PW {s:List UInt8} {k:Int} (h0:0≤k) (h:k<s.length):ay (s.take (k+1).toNat)=lP (ay (s.take k.toNat)) (dg (s.getD k.toNat 0)):=by
 rw [tk h0 h 0]
 simp [ay]
theorem Ij (c:List Int) (k:Nat):(lP c k).length =c.length:=by simp [lP]
theorem zM (c:List Int) (k j:Nat):(lP c k).getD j 0≤c.getD j 0+1∧c.getD j 0≤(lP c k).getD j 0:=by
 unfold lP
 rw [List.getD_eq_getElem?_getD,List.getElem?_set]
 split
 ·rename_i hk
  subst hk
  split
  ·rw [Option.getD_some];omega
  ·rename_i hl;simp [List.getD_eq_getElem?_getD,List.getElem?_eq_none (Nat.le_of_not_lt hl)]
 ·rw [←List.getD_eq_getElem?_getD];omega
theorem Mg (s:List UInt8) : ∀(c:List Int) (m:Int),CtP c m→CtP (s.foldl (fun c x=>lP c (dg x)) c) (m+s.length):=by
 induction s with
 | nil=>intro c m h;simpa using h
 | cons x r ih=>
   intro c m h
   have:=ih (lP c (dg x)) (m+1) ⟨by rw [Ij,h.len],fun j=>by have:=zM c (dg x) j;have:=h.lo j;omega,fun j=>by have:=zM c (dg x) j;have:=h.hi j;omega⟩
   rw [List.foldl_cons,List.length_cons]
   exact⟨this.len,this.lo,fun j=>by have:=this.hi j;omega⟩
theorem FU:CtP sW 0:=by
 have h : ∀j,sW.getD j 0=0:=fun j=>by
  unfold sW
  rw [List.getD_eq_getElem?_getD,List.getElem?_replicate]
  split<;>rfl
 exact⟨rfl,fun j=>by rw [h];omega,fun j=>by rw [h];omega⟩
theorem jq (s:List UInt8):CtP (ay s) s.length:=by
 have:=Mg s sW 0 FU
 rw [Int.zero_add] at this
 exact this
theorem CtP.mono {c:List Int} {m n:Int} (h:CtP c m) (hmn:m≤n):CtP c n:=⟨h.len,h.lo,fun j=>Int.le_trans (h.hi j) hmn⟩
theorem MS {s:List UInt8} {k:Int} (h:s.all aK=true) (h0:0≤k) (h1:k<s.length):aK (s.getD k.toNat 0)=true:=by
 rw [List.getD_eq_getElem?_getD,List.getElem?_eq_getElem (by omega)]
 exact List.all_eq_true.1 h _ (List.getElem_mem (by omega))
structure StP (s:List UInt8):Prop where
 ti:s.all aK=true
 len:s.length≤1000000
def gw (p:Pr):aa:=fsp (a1 aS) (fun s=>StP s) (fun s=>.arr (.i .i64) 27 (ay s))
theorem qL:FOk Tryz.prog 164 (gw std):=by
 refine FOk.go (c:=cx std [(189,gH std)] [] 0) (ae (.cons rg .nil) .nil) mixed Tryz.func164 rfl rfl rfl (by kernel_rfl) ?_
 rintro s hp
 refine⟨rfl,?_⟩
 unfold gH
 obtain⟨H,hH⟩ : ∃H:Hd (Int×List Int),H=⟨fun (k,L)=>0≤k∧k≤s.length∧L=ay (s.take k.toNat),fun (k,L)=>(s.length-k).toNat,(· < ·)⟩:=⟨_,rfl⟩
 have hl:=hdl hH
 generalize hP:std=p,hB0:ay=B0,hB1:dQ=B1
 cbv
 repeat' first|refine fun (_:Unit)=>?_;cbv|refine Or.inr ⟨5,[],[.s 4 (.i .i64),.o 1 [.i .i64]],[],[],H,rfl,hl,?_,fun ((k,L):Int×List Int) hk=>?_⟩<;>cbv|refine aI2 (fun h=>?_) (fun h=>?_)<;>cbv|refine aI2 ?_ ?_
 all_goals subst hP hB0 hB1 hH
 all_goals clear hl
 all_goals try dsimp only at hk
 all_goals try dsimp only
 all_goals try exact fin
 ·exact⟨Int.le_refl 0,Int.natCast_nonneg _,rfl⟩
 all_goals obtain⟨q0,q1,rfl⟩:=hk
 all_goals have q1:k≤(s.length:Int):=q1
 all_goals have hl:=hp.len
 all_goals have hC:=jq (s.take k.toNat)
 all_goals have hC2:((s.take k.toNat).length : Int)≤s.length:=by rw [List.length_take];omega
 all_goals try (have hlt:k<(s.length:Int):=ah ‹_›)
 all_goals try (have hT:=MS hp.ti q0 hlt;obtain⟨hK,hK2⟩:=OA hT;have hK:dQ (std.byte s k)=(dg (s.getD k.toNat 0):Int):=hK)
 ·show 0≤dQ (std.byte s k)∧dQ (std.byte s k)<27
  omega
 ·show 0≤dQ (std.byte s k)∧dQ (std.byte s k)<27
  omega
 ·have h1:=hC.lo (dQ (std.byte s k)).toNat
  have h2:=hC.hi (dQ (std.byte s k)).toNat
  exact an (by show _≤(ay (s.take k.toNat)).getD (dQ (std.byte s k)).toNat 0+1∧(ay (s.take k.toNat)).getD (dQ (std.byte s k)).toNat 0+1≤_;omega)
 ·show 0≤dQ (std.byte s k)∧dQ (std.byte s k)<27
  omega
 ·show 0≤dQ (std.byte s k)∧dQ (std.byte s k)<27
  omega
 ·exact an (by show _≤k+1∧k+1≤_;omega)
 ·refine⟨by show 0≤k+1;omega,by show k+1≤(s.length:Int);omega,?_⟩
  show (ay (s.take k.toNat)).set (dQ (std.byte s k)).toNat ((ay (s.take k.toNat)).getD (dQ (std.byte s k)).toNat 0+1)=_
  rw [hK,Int.toNat_natCast]
  exact (PW q0 hlt).symm
 ·rw [bZ (ao ‹_›)]
section
variable {c d:List Int}
theorem qa {k j:Nat} (hj:j<27):(ef c d k).getD j 0=if j<k then c.getD j 0-d.getD j 0 else c.getD j 0:=by
 unfold ef
 rw [List.getD_eq_getElem?_getD,List.getElem?_map,List.getElem?_range hj]
 rfl
theorem nT (k:Nat):(ef c d k).length =27:=by simp [ef]
theorem sub_zero (h:c.length=27):ef c d 0=c:=by
 refine List.ext_getElem (by rw [nT,h]) fun j h1 h2=>?_
 have:=qa (c:=c) (d:=d) (k:=0) (j:=j) (by omega)
 rw [if_neg (by omega),List.getD_eq_getElem?_getD,List.getElem?_eq_getElem h1,List.getD_eq_getElem?_getD,List.getElem?_eq_getElem h2] at this
 simpa using this
theorem NY {k:Nat} (hk:k<27):(ef c d k).set k (c.getD k 0-d.getD k 0)=ef c d (k+1):=by
 refine List.ext_getElem (by simp [nT]) fun j h1 h2=>?_
 rw [nT] at h2
 have e1:=qa (c:=c) (d:=d) (k:=k) (j:=j) h2
 have e2:=qa (c:=c) (d:=d) (k:=k+1) (j:=j) h2
 rw [List.getD_eq_getElem?_getD,List.getElem?_eq_getElem (by rw [nT];exact h2),Option.getD_some] at e1 e2
 rw [e2,List.getElem_set]
 split
 ·rename_i hh;subst hh;rw [if_pos (by omega)]
 ·rename_i hh
  rw [e1]
  by_cases h3:j<k
  ·rw [if_pos h3,if_pos (by omega)]
  ·rw [if_neg h3,if_neg (by omega)]
theorem Gp {k:Nat} (hk:k<27):std.get 0 (std.set (ef c d k) k (std.sub (std.get 0 (ef c d k) k) (std.get 0 d k))) k=c.getD k 0-d.getD k 0:=by
 show ((ef c d k).set k ((ef c d k).getD k 0-d.getD k 0)).getD k 0=_
 have:=qa (c:=c) (d:=d) (k:=k) (j:=k) hk
 rw [if_neg (by omega)] at this
 rw [this,List.getD_eq_getElem?_getD,List.getElem?_set,if_pos rfl,if_pos (by rw [nT];exact hk)]
 rfl
end
theorem G3 {c d:List Int} {k:Int} (hk:0≤k∧k<27) (h:std.ltI (std.get 0 (std.set (ef c d k.toNat) k (std.sub (std.get 0 (ef c d k.toNat) k) (std.get 0 d k))) k) 0=true):c.getD k.toNat 0<d.getD k.toNat 0:=by
 have h1:=ah h
 have h2:=Gp (c:=c) (d:=d) (k:=k.toNat) (by omega)
 rw [Int.toNat_of_nonneg hk.1] at h2
 rw [h2] at h1
 omega
theorem MB {c d:List Int} {k:Int} (hk:0≤k∧k<27) (h:std.ltI (std.get 0 (std.set (ef c d k.toNat) k (std.sub (std.get 0 (ef c d k.toNat) k) (std.get 0 d k))) k) 0=false):d.getD k.toNat 0≤c.getD k.toNat 0:=by
 have h1:=ao h
 have h2:=Gp (c:=c) (d:=d) (k:=k.toNat) (by omega)
 rw [Int.toNat_of_nonneg hk.1] at h2
 rw [h2] at h1
 omega
theorem zG {c d:List Int} {k:Nat} (hk:k<27) (h:c.getD k 0<d.getD k 0):iL c d=false:=by
 unfold iL
 rw [List.all_eq_false]
 exact⟨k,List.mem_range.2 hk,by simp;simpa using h⟩
theorem Mq {c d:List Int} {k:Nat} (hk:k<27) (h:c.getD k 0<d.getD k 0):oq c d=sW:=by
 unfold oq
 rw [zG hk h];rfl
theorem wJ {c d:List Int} (h : ∀j,j<27→d.getD j 0≤c.getD j 0):iL c d=true:=by
 unfold iL
 rw [List.all_eq_true]
 intro j hj
 exact decide_eq_true (h j (List.mem_range.1 hj))
theorem Lx {c d:List Int} (h : ∀j,j<27→d.getD j 0≤c.getD j 0):ef c d 27=oq c d:=by
 unfold oq
 rw [wJ h];rfl
theorem Mi {c d:List Int} {m:Int} (hc:CtP c m) (hd:CtP d m):CtP (oq c d) m:=by
 unfold oq
 by_cases h:iL c d=true
 ·rw [if_pos h]
  have h0 : ∀j,j<27→d.getD j 0≤c.getD j 0:=fun j hj=>by
   unfold iL at h
   have:=List.all_eq_true.1 h j (List.mem_range.2 hj)
   simpa using this
  have hg : ∀j,(ef c d 27).getD j 0=if j<27 then c.getD j 0-d.getD j 0 else 0:=fun j=>by
   by_cases hj:j<27
   ·rw [qa hj,if_pos hj];simp [hj]
   ·rw [if_neg hj,List.getD_eq_getElem?_getD,List.getElem?_eq_none (by rw [nT];omega)];rfl
  refine⟨nT 27,fun j=>?_,fun j=>?_⟩
  ·rw [hg];split
   ·have:=h0 j ‹_›;omega
   ·omega
  ·rw [hg]
   have h1:=hc.hi j;have h2:=hd.lo j;have h3:=hc.lo j
   split<;>omega
 ·rw [if_neg h]
  refine FU.mono ?_
  have h1:=hc.lo 0;have h2:=hc.hi 0
  omega
def jz (p:Pr):aa:=fsp (ac aCt (a1 aCt)) (fun (c,d)=>CtP c 1000000000∧CtP d 1000000000) (fun (c,d)=>.tup [.arr (.i .i64) 27 (oq c d),.b (iL c d)])
theorem tS:FOk Tryz.prog 210 (jz std):=by
 refine FOk.go (c:=cx std [] [] 0) (ae .nil .nil) mixed Tryz.func210 rfl rfl rfl (by kernel_rfl) ?_
 rintro ⟨c,d⟩ hp
 dsimp only at hp
 refine⟨rfl,?_⟩
 obtain⟨H,hH⟩ : ∃H:Hd (Int×List Int),H=⟨fun (k,L)=>0≤k∧k≤27∧L=ef c d k.toNat∧∀j,j<k.toNat→d.getD j 0≤c.getD j 0,fun (k,L)=>(27-k).toNat,(· < ·)⟩:=⟨_,rfl⟩
 have hl:=hdl hH
 generalize hP:std=p,hB0:oq=B0,hB1:iL=B1
 cbv
 repeat' first|refine fun (_:Unit)=>?_;cbv|refine Or.inr ⟨10,[],[.s 9 (.i .i64),.o 0 [.i .i64]],[],[],H,rfl,hl,?_,fun ((k,L):Int×List Int) hk=>?_⟩<;>cbv|refine aI2 (fun h=>?_) (fun h=>?_)<;>cbv|refine aI2 ?_ ?_
 all_goals subst hP hB0 hB1 hH
 all_goals clear hl
 all_goals try dsimp only at hk
 all_goals try dsimp only
 all_goals try exact fin
 ·exact⟨Int.le_refl 0,by decide,(sub_zero hp.1.len).symm,fun j hj=>by simp at hj⟩
 all_goals obtain⟨q0,q1,rfl,q3⟩:=hk
 all_goals have c1:=hp.1.lo k.toNat
 all_goals have c2:=hp.1.hi k.toNat
 all_goals have d1:=hp.2.lo k.toNat
 all_goals have d2:=hp.2.hi k.toNat
 all_goals try (have hlt:k<27:=ah ‹_›)
 all_goals try (have hg:=qa (c:=c) (d:=d) (k:=k.toNat) (j:=k.toNat) (by omega);rw [if_neg (by omega)] at hg)
 ·exact an (by show _≤(ef c d k.toNat).getD k.toNat 0-d.getD k.toNat 0∧(ef c d k.toNat).getD k.toNat 0-d.getD k.toNat 0≤_;omega)
 ·rw [Mq (k:=k.toNat) (by omega) (G3 ⟨by omega,by omega⟩ ‹_›)];rfl
 ·exact zG (k:=k.toNat) (by omega) (G3 ⟨by omega,by omega⟩ ‹_›)
 ·have h4:=MB (c:=c) (d:=d) (k:=k) ⟨q0,hlt⟩ (show std.ltI (std.get 0 (std.set (ef c d k.toNat) k (std.sub (std.get 0 (ef c d k.toNat) k) (std.get 0 d k))) k) 0=false by assumption)
  refine⟨by show 0≤k+1;omega,by show k+1≤27;omega,?_,fun j hj=>?_⟩
  ·show (ef c d k.toNat).set k.toNat ((ef c d k.toNat).getD k.toNat 0-d.getD k.toNat 0)=_
   rw [hg,si q0]
   exact NY (by omega)
  ·rw [si q0] at hj
   by_cases hjk:j<k.toNat
   ·exact q3 j hjk
   ·rw [show j=k.toNat by omega];exact h4
 all_goals
  have hge:27≤k:=ao ‹_›
  have e:k.toNat=27:=by omega
  rw [e] at q3
 ·rw [e,Lx q3]
 ·exact wJ q3
def jT (p:Pr):aa:=fsp (a1 aS) (fun s=>StP s) (fun s=>.s (d6 (ay s)))
theorem uU:FOk Tryz.prog 69 (jT std):=by
 refine FOk.go (c:=cx std [(164,gw std),(165,nD std)] [] 0) (ae (.cons qL (.cons BD .nil)) .nil) mixed Tryz.func69 rfl rfl rfl (by kernel_rfl) ?_
 rintro s hp
 refine⟨rfl,?_⟩
 unfold gw nD
 generalize hP:std=p,hB0:d6=B0,hB1:ay=B1
 cbv
 repeat' first|refine fun (_:Unit)=>?_;cbv|refine aI2 (fun h=>?_) (fun h=>?_)<;>cbv|refine aI2 ?_ ?_|refine Or.inl (fun (_:Unit)=>?_);cbv
 all_goals subst hP hB0 hB1
 all_goals try exact fin
 ·exact (jq s).mono (by have:=hp.len;omega)
def iS (p:Pr):aa:=fsp (ac aS (a1 aS)) (fun (a,b)=>StP a∧StP b) (fun (a,b)=>.tup [.s (lL a b),.b (cL a b)])
theorem sK:FOk Tryz.prog 116 (iS std):=by
 refine FOk.go (c:=cx std [(164,gw std),(210,jz std),(165,nD std)] [] 0) (ae (.cons qL (.cons tS (.cons BD .nil))) .nil) mixed Tryz.func116 rfl rfl rfl (by kernel_rfl) ?_
 rintro ⟨a,b⟩ hp
 dsimp only at hp
 refine⟨rfl,?_⟩
 unfold gw jz nD
 generalize hP:std=p,hB0:lL=B0,hB1:cL=B1,hB2:d6=B2,hB3:ay=B3,hB4:oq=B4,hB5:iL=B5
 cbv
 repeat' first|refine fun (_:Unit)=>?_;cbv|refine aI2 (fun h=>?_) (fun h=>?_)<;>cbv|refine aI2 ?_ ?_|refine Or.inl (fun (_:Unit)=>?_);cbv
 all_goals subst hP hB0 hB1 hB2 hB3 hB4 hB5
 all_goals try exact fin
 all_goals have ha:=(jq a).mono (n:=1000000000) (by have:=hp.1.len;omega)
 all_goals have hb:=(jq b).mono (n:=1000000000) (by have:=hp.2.len;omega)
 ·exact ha
 ·exact hb
 ·exact Mi ha hb
structure LlP (s:List UInt8):Prop where
 lt:ei s=true
 len:s.length≤1000000
theorem Ha {s:List UInt8} {k:Int} (h0:0≤k) (h:k<s.length):ay ((s.take (k+1).toNat).map aX)=lP (ay ((s.take k.toNat).map aX)) (dg (aX (s.getD k.toNat 0))):=by
 rw [tk h0 h 0]
 simp [ay]
theorem M9 {s:List UInt8} {k:Int} (h:ei s=true) (h0:0≤k) (h1:k<s.length):aZ (s.getD k.toNat 0)=true∨kw (s.getD k.toNat 0)=true:=by
 rw [List.getD_eq_getElem?_getD,List.getElem?_eq_getElem (by omega)]
 have:=List.all_eq_true.1 h _ (List.getElem_mem (l:=s) (n:=k.toNat) (by omega))
 simpa using this
theorem Id {c:UInt8} (h:aZ c=true∨kw c=true) (hc:kw c=false):aK c=true:=by
 have h1:=h.resolve_right (by rw [hc];simp)
 unfold aK;rw [h1,Bool.or_true]
def il (p:Pr):aa:=fsp (a1 aS) (fun s=>LlP s) (fun s=>.s (cb s))
theorem tJ:FOk Tryz.prog 91 (il std):=by
 refine FOk.go (c:=cx std [(188,iH std),(189,gH std),(165,nD std)] [] 0) (ae (.cons sZ (.cons rg (.cons BD .nil))) .nil) mixed Tryz.func91 rfl rfl rfl (by kernel_rfl) ?_
 rintro s hp
 refine⟨rfl,?_⟩
 unfold iH gH nD
 obtain⟨H,hH⟩ : ∃H:Hd (Int×List Int),H=⟨fun (k,L)=>0≤k∧k≤s.length∧L=ay ((s.take k.toNat).map aX),fun (k,L)=>(s.length-k).toNat,(· < ·)⟩:=⟨_,rfl⟩
 have hl:=hdl hH
 generalize hP:std=p,hB0:cb=B0,hB1:d6=B1,hB2:dQ=B2,hB3:inR=B3
 cbv
 repeat' first|refine fun (_:Unit)=>?_;cbv|refine Or.inr ⟨5,[],[.s 4 (.i .i64),.o 0 [.i .i64]],[],[],H,rfl,hl,?_,fun ((k,L):Int×List Int) hk=>?_⟩<;>cbv|refine aI2 (fun h=>?_) (fun h=>?_)<;>cbv|refine aI2 ?_ ?_
 all_goals subst hP hB0 hB1 hB2 hB3 hH
 all_goals clear hl
 all_goals try dsimp only at hk
 all_goals try dsimp only
 all_goals try exact fin
 ·exact⟨Int.le_refl 0,Int.natCast_nonneg _,rfl⟩
 all_goals obtain⟨q0,q1,rfl⟩:=hk
 all_goals have q1:k≤(s.length:Int):=q1
 all_goals have hl:=hp.len
 all_goals have hC:=jq ((s.take k.toNat).map aX)
 all_goals have hC2:(((s.take k.toNat).map aX).length : Int)≤s.length:=by rw [List.length_map,List.length_take];omega
 all_goals try (have hlt:k<(s.length:Int):=ah ‹_›)
 ·have h1:=hC.lo 0
  have h2:=hC.hi 0
  exact an (by show _≤(ay ((s.take k.toNat).map aX)).getD 0 0+1∧(ay ((s.take k.toNat).map aX)).getD 0 0+1≤_;omega)
 ·exact an (by show _≤k+1∧k+1≤_;omega)
 ·refine⟨by show 0≤k+1;omega,by show k+1≤(s.length:Int);omega,?_⟩
  have hc:kw (s.getD k.toNat 0)=true:=by rw [←DU];assumption
  have hb:aX (s.getD k.toNat 0)=63:=by unfold aX;rw [if_pos hc]
  show (ay ((s.take k.toNat).map aX)).set 0 ((ay ((s.take k.toNat).map aX)).getD 0 0+1)=_
  show _=ay ((s.take (k+1).toNat).map aX)
  rw [Ha q0 hlt,hb];rfl
 all_goals try (have hc:kw (s.getD k.toNat 0)=false:=by rw [←DU];assumption)
 all_goals try (have hb:aX (s.getD k.toNat 0)=s.getD k.toNat 0:=by unfold aX;rw [hc];rfl)
 all_goals try (have hT:=OA (Id (M9 hp.lt q0 hlt) hc);obtain⟨hK,hK2⟩:=hT;have hK:dQ (std.byte s k)=(dg (s.getD k.toNat 0):Int):=hK)
 ·show 0≤dQ (std.byte s k)∧dQ (std.byte s k)<27
  omega
 ·show 0≤dQ (std.byte s k)∧dQ (std.byte s k)<27
  omega
 ·have h1:=hC.lo (dQ (std.byte s k)).toNat
  have h2:=hC.hi (dQ (std.byte s k)).toNat
  exact an (by show _≤(ay ((s.take k.toNat).map aX)).getD (dQ (std.byte s k)).toNat 0+1∧(ay ((s.take k.toNat).map aX)).getD (dQ (std.byte s k)).toNat 0+1≤_;omega)
 ·show 0≤dQ (std.byte s k)∧dQ (std.byte s k)<27
  omega
 ·show 0≤dQ (std.byte s k)∧dQ (std.byte s k)<27
  omega
 ·exact an (by show _≤k+1∧k+1≤_;omega)
 ·refine⟨by show 0≤k+1;omega,by show k+1≤(s.length:Int);omega,?_⟩
  show (ay ((s.take k.toNat).map aX)).set (dQ (std.byte s k)).toNat ((ay ((s.take k.toNat).map aX)).getD (dQ (std.byte s k)).toNat 0+1)=_
  rw [hK,Int.toNat_natCast]
  show _=ay ((s.take (k+1).toNat).map aX)
  rw [Ha q0 hlt,hb];rfl
 ·exact hC.mono (by omega)
 ·rw [bZ (ao ‹_›)];rfl
section
variable {b:Bd} {q:Pl} {k:Int}
theorem Eo:(npI b q).length =(bC b q).length :=by simp [npI]
theorem Rz (h0:0≤k) (h:k<(npI b q).length) : ∃n:Nat,n<q.word.length∧(npI b q).getD k.toNat 0=(n:Int)∧(aD b q).take (k+1).toNat =(aD b q).take k.toNat++[q.word.getD n 0]:=by
 rw [Eo] at h
 have hk:k.toNat<(bC b q).length :=by omega
 have hm:(bC b q)[k.toNat]∈bC b q:=List.getElem_mem hk
 refine⟨(bC b q)[k.toNat],?_,?_,?_⟩
 ·unfold bC jS at hm
  exact List.mem_range.1 (List.mem_filter.1 hm).1
 ·unfold npI
  rw [List.getD_eq_getElem?_getD,List.getElem?_map,List.getElem?_eq_getElem hk];rfl
 ·rw [tk h0 (by rw [aD,List.length_map];omega) 0]
  congr 2
  unfold aD
  rw [List.getD_eq_getElem?_getD,List.getElem?_map,List.getElem?_eq_getElem hk];rfl
end
theorem IA (l:List UInt8) (c:UInt8):aq l++[(c.toNat:Int)]=aq (l++[c]):=by simp [aq]
def jw (p:Pr):aa:=fsp (ac (aA aBd) (a1 (aA aPl))) (fun (b,q)=>VP b q) (fun (b,q)=>.s (cb (aD b q)))
theorem ud:FOk Tryz.prog 117 (jw std):=by
 refine FOk.go (c:=cx std [(203,bD std),(91,il std)] [] 0) (ae (.cons eL (.cons tJ .nil)) .nil) mixed Tryz.func117 rfl rfl rfl (by kernel_rfl) ?_
 rintro ⟨b,q⟩ hp
 dsimp only at hp
 refine⟨rfl,?_⟩
 unfold bD il
 obtain⟨H,hH⟩ : ∃H:Hd (Int×List Int),H=⟨fun (k,L)=>0≤k∧k≤(npI b q).length ∧L=aq ((aD b q).take k.toNat),fun (k,L)=>((npI b q).length - k).toNat,(· < ·)⟩:=⟨_,rfl⟩
 have hl:=hdl hH
 generalize hP:std=p,hB0:cb=B0,hB1:aD=B1,hB2:nsI=B2,hB3:npI=B3
 cbv
 repeat' first|refine fun (_:Unit)=>?_;cbv|refine Or.inr ⟨20,[],[.s 19 (.i .i64),.o 2 [.i .u8]],[.s 7],[],H,rfl,hl,?_,fun ((k,L):Int×List Int) hk=>?_⟩<;>cbv|refine aI2 (fun h=>?_) (fun h=>?_)<;>cbv|refine aI2 ?_ ?_
 all_goals subst hP hB0 hB1 hB2 hB3 hH
 all_goals clear hl
 all_goals try dsimp only at hk
 all_goals try dsimp only
 all_goals try exact fin
 ·exact⟨Int.le_refl 0,Int.natCast_nonneg _,rfl⟩
 all_goals obtain⟨q0,q1,rfl⟩:=hk
 all_goals have q1:k≤((npI b q).length : Int):=q1
 all_goals have hn:=cF b q q.word.length
 all_goals have hn2:(npI b q).length ≤q.word.length:=by rw [Eo];exact hn
 all_goals have hw:=hp.hi
 all_goals have hll:((aD b q).take k.toNat).length ≤12:=by rw [List.length_take];unfold aD bC;rw [List.length_map];omega
 all_goals try (have hlt:k<((npI b q).length : Int):=ah ‹_›;obtain⟨n,n1,n2,n3⟩:=Rz q0 hlt)
 ·show 0≤(npI b q).getD k.toNat 0∧(npI b q).getD k.toNat 0<(q.word.length:Int)
  rw [n2];omega
 ·show ((aq ((aD b q).take k.toNat)).length : Int)+1≤_
  rw [bu];omega
 ·exact an (by show _≤k+1∧k+1≤_;omega)
 ·refine⟨by show 0≤k+1;omega,by show k+1≤((npI b q).length : Int);omega,?_⟩
  show aq ((aD b q).take k.toNat)++[((q.word.getD ((npI b q).getD k.toNat 0).toNat 0).toNat : Int)]=_
  rw [n2,Int.toNat_natCast,IA]
  show _=aq ((aD b q).take (k+1).toNat)
  rw [n3]
 all_goals have hge:((npI b q).length : Int)≤k:=ao ‹_›
 all_goals have e:(aD b q).take k.toNat=aD b q:=List.take_of_length_le (by unfold aD;rw [List.length_map];rw [Eo] at hge;omega)
 ·refine⟨?_,?_⟩
  ·show ei (fZ (aq ((aD b q).take k.toNat)))=true
   rw [cJ,e];exact eE hp.lett
  ·show (fZ (aq ((aD b q).take k.toNat))).length ≤1000000
   rw [cJ];omega
 ·show cb (fZ (aq ((aD b q).take k.toNat)))=_
  rw [cJ,e]
def iv (p:Pr):aa:=fsp (ac (aA aTs) (a1 aC)) (fun (t,n)=>p.inK .u8 n∧er t) (fun (t,n)=>.i .i64 (cI t (u8 n)))
theorem oe:FOk Tryz.prog 252 (iv std):=by
 refine FOk.go (c:=cx std [(247,pL std)] [] 0) (ae (.cons CI .nil) .nil) mixed Tryz.func252 rfl rfl rfl (by kernel_rfl) ?_
 rintro ⟨t,n⟩ hp
 dsimp only at hp
 refine⟨rfl,?_⟩
 unfold pL
 generalize hP:std=p,hB0:dz=B0,hB1:cI=B1,hB2:u8=B2
 cbv
 repeat' first|refine fun (_:Unit)=>?_;cbv|refine aI2 (fun h=>?_) (fun h=>?_)<;>cbv|refine aI2 ?_ ?_|refine Or.inl (fun (_:Unit)=>?_);cbv
 all_goals subst hP hB0 hB1 hB2
 all_goals try exact fin
 ·have h1:0≤dz t.letters (u8 n):=by simpa using h
  have h2:=sM t.letters (u8 n)
  have h3:=hp.2.vals
  refine⟨h1,?_⟩
  show dz t.letters (u8 n)<((t.values.length:Nat):Int)
  rw [h2] at h1 ⊢
  split at h1<;>omega
 ·have h1:0≤dz t.letters (u8 n):=by simpa using h
  rw [BF,if_neg (by omega)];rfl
 ·have h1:dz t.letters (u8 n)<0:=by simpa using h
  rw [BF,if_pos h1]
def iQ (p:Pr):aa:=fsp (ac (aA aTs) (a1 aS)) (fun (t,s)=>er t∧p.ltM (p.lenS s)) (fun (t,s)=>.i .i64 (dB t s))
theorem sE:FOk Tryz.prog 190 (iQ std):=by
 refine FOk.go (c:=cx std [(252,iv std)] [] 0) (ae (.cons oe .nil) .nil) mixed Tryz.func190 rfl rfl rfl (by kernel_rfl) ?_
 rintro ⟨t,s⟩ hp
 dsimp only at hp
 refine⟨rfl,?_⟩
 unfold iv
 obtain⟨H,hH⟩ : ∃H:Hd (Int×Int),H=⟨fun (m,k)=>0≤k∧k≤s.length∧dB t s=m+dB t (s.drop k.toNat)∧0≤m∧m≤20*k,fun (m,k)=>(s.length-k).toNat,(· < ·)⟩:=⟨_,rfl⟩
 have hl:=hdl hH
 generalize hP:std=p,hB0:cI=B0,hB1:dB=B1,hB2:u8=B2
 cbv
 repeat' first|refine fun (_:Unit)=>?_;cbv|refine Or.inr ⟨7,[],[.s 5 (.i .i64),.s 6 (.i .i64)],[],[],H,rfl,hl,?_,fun ((m,k):Int×Int) hk=>?_⟩<;>cbv|refine aI2 (fun h=>?_) (fun h=>?_)<;>cbv|refine aI2 ?_ ?_
 all_goals subst hP hB0 hB1 hB2 hH
 all_goals clear hl
 all_goals try dsimp only at hk
 all_goals try dsimp only
 all_goals try exact fin
 all_goals try simp only [iR] at *
 ·obtain⟨q0,q1,e,q2,q3⟩:=hk
  have h1:=ah h
  have h2:=hp.1.lo (u8 (std.byte s k))
  have h3:=hp.1.hi (u8 (std.byte s k))
  have h4:(s.length:Int)≤274877906944:=hp.2
  have h5:k<(s.length:Int):=h1
  exact an (by show _≤m+cI t (u8 (std.byte s k))∧m+cI t (u8 (std.byte s k))≤_;omega)
 ·obtain⟨q0,q1,e,q2,q3⟩:=hk
  have h1:k<(s.length:Int):=ah h
  have h2:=hp.1.lo (u8 (std.byte s k))
  have h3:=hp.1.hi (u8 (std.byte s k))
  refine⟨by show 0≤k+1;omega,by show k+1≤(s.length:Int);omega,?_,by show 0≤m+cI t (u8 (std.byte s k));omega,by show m+cI t (u8 (std.byte s k))≤20*(k+1);omega⟩
  rw [e,dc q0 h1 0,jM]
  simp [dB,Int.add_assoc]
 ·obtain⟨q0,q1,e,q2,q3⟩:=hk
  rw [e,dn (ao h)]
  simp [dB]
def mX (t:TS) (k:Nat):List UInt8:=List.replicate t.blanks.toNat 63++lN (t.letters.take k) (t.counts.take k)
structure TlP (t:TS):Prop where
 al:MM t
 b0:0≤t.blanks
 lo : ∀k:Nat,0≤t.counts.getD k 0
theorem wx (c:UInt8) (n:Int):CX [c] n=List.replicate n.toNat c:=by
 unfold CX
 generalize n.toNat=m
 induction m with
 | zero=>rfl
 | succ m ih=>rw [List.replicate_succ,←ih];rfl
theorem Ju {s:List UInt8} {k:Int} (h0:0≤k) (h:k<s.length):(s.take (k+1).toNat).drop k.toNat=[s.getD k.toNat 0]:=by
 rw [tk h0 h 0,List.drop_append_of_le_length (by rw [List.length_take];omega),List.drop_of_length_le (by rw [List.length_take];omega)]
 rfl
theorem zb : ∀(l:List UInt8) (c:List Int) (k:Nat),k<l.length→k<c.length→lN (l.take (k+1)) (c.take (k+1))=lN (l.take k) (c.take k)++List.replicate (c.getD k 0).toNat (l.getD k 0)
 | a::r,x::cs,0,_,_=>by simp [lN]
 | a::r,x::cs,k+1,h1,h2=>by
   have:=zb r cs k (by simpa using h1) (by simpa using h2)
   simp only [List.take_succ_cons,lN,List.getD_cons_succ,List.append_assoc] at this ⊢
   rw [this]
 | [],_,_,h,_=>by simp at h
 | _::_,[],_,_,h=>by simp at h
theorem GG {t:TS} {k:Int} (h0:0≤k) (h:k<t.counts.length) (h2:t.counts.length=t.letters.length):mX t (k+1).toNat =mX t k.toNat++List.replicate (t.counts.getD k.toNat 0).toNat (t.letters.getD k.toNat 0):=by
 unfold mX
 rw [show (k+1).toNat =k.toNat+1 by omega,zb _ _ _ (by omega) (by omega),List.append_assoc]
theorem LD {t:TS} (h:TlP t) : ∀k:Nat,k≤t.counts.length→(mX t k).length ≤4+20*k
 | 0,_=>by
   have:=h.al.bl
   unfold mX
   simp [lN];omega
 | k+1,hk=>by
   have h1:=LD h k (by omega)
   have h2:=GG (t:=t) (k:=k) (by omega) (by omega) h.al.ok.cnts
   have h3:=h.al.hi k
   rw [show ((k:Int)+1).toNat =k+1 by omega,Int.toNat_natCast] at h2
   rw [h2,List.length_append,List.length_replicate]
   omega
def mu (p:Pr):aa:=fsp (a1 (aA aTs)) (fun t=>TlP t) (fun t=>.s (bW t))
theorem yZ:FOk Tryz.prog 70 (mu std):=by
 refine FOk.go (c:=cx std [(167,tP std)] [(166,BT std),(168,wn std)] 0) (ae (.cons Ip .nil) (.cons ML (.cons MW .nil))) mixed Tryz.func70 rfl rfl rfl (by kernel_rfl) ?_
 rintro t hp
 refine⟨rfl,?_⟩
 unfold tP BT wn
 obtain⟨H,hH⟩ : ∃H:Hd (Int×List Int),H=⟨fun (k,L)=>0≤k∧k≤t.counts.length∧L=aq (mX t k.toNat),fun (k,L)=>(t.counts.length-k).toNat,(· < ·)⟩:=⟨_,rfl⟩
 have hl:=hdl hH
 generalize hP:std=p,hB0:bW=B0,hB1:CX=B1,hB2:mX=B2
 cbv
 repeat' first|refine fun (_:Unit)=>?_;cbv|refine Or.inr ⟨14,[],[.s 13 (.i .i64),.o 2 [.i .u8]],[.c 1 1],[],H,rfl,hl,?_,fun ((k,L):Int×List Int) hk=>?_⟩<;>cbv|refine aI2 (fun h=>?_) (fun h=>?_)<;>cbv|refine aI2 ?_ ?_
 all_goals subst hP hB0 hB1 hB2 hH
 all_goals clear hl
 all_goals try dsimp only at hk
 all_goals try dsimp only
 all_goals try exact fin
 ·exact hp.b0
 ·have:=hp.al.bl;show t.blanks≤65536;omega
 ·exact aR (by have:=hp.al.bl;show (CX [63] t.blanks).length ≤_;rw [wx,List.length_replicate];omega)
 ·refine⟨Int.le_refl 0,Int.natCast_nonneg _,?_⟩
  show aq (CX [63] t.blanks)=_
  rw [wx];simp [mX,lN]
 all_goals try obtain⟨q0,q1,rfl⟩:=hk
 all_goals try (have q1:k≤(t.counts.length:Int):=q1)
 all_goals have hc:=hp.al.ok.cnts
 all_goals have hll:=hp.al.ok.len
 all_goals try (have hlt:k<(t.counts.length:Int):=ah ‹_›)
 all_goals try (have hb:=LD hp k.toNat (by omega))
 all_goals try (have hlo:=hp.lo k.toNat;have hhi:=hp.al.hi k.toNat)
 ·exact an (by show _≤k+1∧k+1≤_;omega)
 ·show k+1≤(t.letters.length:Int);omega
 ·exact hlo
 ·show t.counts.getD k.toNat 0≤65536;omega
 ·show ((aq (mX t k.toNat)).length : Int)+((CX ((t.letters.take (k+1).toNat).drop k.toNat) (t.counts.getD k.toNat 0)).length : Int)≤_
  rw [Ju q0 (by omega),wx,List.length_replicate,bu];omega
 ·exact an (by show _≤k+1∧k+1≤_;omega)
 ·refine⟨by show 0≤k+1;omega,by show k+1≤(t.counts.length:Int);omega,?_⟩
  show aq (mX t k.toNat)++aq (CX ((t.letters.take (k+1).toNat).drop k.toNat) (t.counts.getD k.toNat 0))=_
  rw [Ju q0 (by omega),wx]
  show _=aq (mX t (k+1).toNat)
  rw [GG q0 hlt hc]
  simp [aq]
 ·intro hx
  unfold aq at hx
  obtain⟨c, -,rfl⟩:=List.mem_map.1 hx
  have:=c.toNat_lt
  omega
 ·have hge:(t.counts.length:Int)≤k:=ao ‹_›
  show fZ (aq (mX t k.toNat))=_
  rw [cJ]
  unfold mX bW
  rw [List.take_of_length_le (by omega),List.take_of_length_le (by omega)]
end Ax
end Go.Proofs.YtjjonmhpgkahoaaGreatDoor
