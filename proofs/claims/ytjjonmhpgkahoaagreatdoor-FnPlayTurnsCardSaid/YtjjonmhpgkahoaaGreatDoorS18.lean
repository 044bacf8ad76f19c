/-
  A region that draws its order, the third form: an operation may yield a value that hangs on the world ("free"); S tells what is known of it; strings.Builder; piles of counts, all tiles, of the impl package; strings.Builder as the plain walker sees it: written, read; all tiles of a set; Counts of tiles, piles, values of letters of the impl package; Sequences of letters, words that a play forms, whether it touches the board, its code, of the impl package.
  Conditions: the closed check regCkL of the region's own edges; none.
-/
import Derived.Test.YtjjonmhpgkahoaaGreatDoorS07
import Derived.Test.YtjjonmhpgkahoaaGreatDoorS15
import Derived.Lib.Builder
import Derived.Lib.UnsafeStr
import Derived.Lib.AppendStr
import Derived.Laws.Externs
import Derived.RegionTactic
import Derived.Laws.Rows
import Derived.Laws.Tables
import Derived.Test.YtjjonmhpgkahoaaGreatDoorS16
import Derived.Test.YtjjonmhpgkahoaaGreatDoorS17
set_option linter.unusedSimpArgs false
set_option linter.unusedVariables false
namespace Go.Proofs.YtjjonmhpgkahoaaGreatDoor
namespace RegV
open RegP RegL
section
variable {P:Program} {ops:Array Oper} {Q:Exit→Act→World→Prop} {S:(Nat→Value)→(Nat→Bool)→World→Prop}
def sub (σ:Nat→Value) (i:Nat) (u:Value):Nat→Value:=fun j=>if j=i then u else σ j
end
open Go.RowKit in
section
open Go.RowKit
variable {W w1 w2:World} {fs:List (Nat×Nat)} {σ:Nat→Value} {L:Nat→Bool} {i n:Nat}
end
end RegV
end Go.Proofs.YtjjonmhpgkahoaaGreatDoor
namespace Go.Proofs.YtjjonmhpgkahoaaGreatDoor
open Go.RowKit RegP RegL RegV
set_option maxHeartbeats 1000000
set_option maxRecDepth 100000
theorem byteT:SlT Tryz.prog 22 5 (.int .u8 0) 1 1:=⟨Tryz.underlying22,by kernel_rfl,rfl,by decide⟩
theorem own_keep {w w':World} {base e size n:Nat} {v:Value} {xs:List Value} (h:w.ownsRow base e size v n xs) (hk : ∀k,v.ownBlock=some k→w'.heap[k]? =w.heap[k]?):w'.ownsRow base e size v n xs:=by
 refine⟨h.1,h.2.imp id ?_⟩
 rintro ⟨g,cap,cur,rfl,h1,h2,h3⟩
 exact⟨g,cap,cur,rfl,h1,(hk g rfl).trans h2,h3⟩
theorem own_far {w:World} {base e size n:Nat} {v:Value} {xs:List Value} (h:w.ownsRow base e size v n xs) {p:Addr} (hp:v.ownBlock≠some p.block) (u:Value):(w.setCell p u).ownsRow base e size v n xs:=
 own_keep h fun k hk=>Below.heap_setCell w p u k (fun e=>hp (by rw [←e];exact hk))
theorem Blk.new1 (w:World) (o:Obj) (t:TypeId) (cs:Array Value):Blk ((w.alloc o).alloc (.cells cs t)) (w.heap.size+1) t cs:=by
 have:=Blk.new (w.alloc o) t cs
 rwa [show (w.alloc o).heap.size =w.heap.size+1 by simp] at this
def BldAt (w:World) (g base:Nat) (p:Value) (l:Str):Prop:=base≤g∧∃v,Blk w g 176 #[p,v]∧w.ownsRow base 5 1 v l.length (l.map bv)∧(l=[]→v=.slice none 0 0)
def selfP (g:Nat):Value:=.pointer (some ⟨g,0,none⟩)
theorem Blk.shape {w:World} {g:Nat} {t:TypeId} {cs:Array Value} (h:Blk w g t cs):w.shape? g=some (t,cs.size):=by
 unfold Blk at h
 simp [World.shape?,h]
theorem copy_used (g:Nat) (w:World) (h0:w.cell? ⟨g,0,none⟩=some (.pointer (some ⟨g,0,none⟩))) :
 Calls Tryz.prog 239 #[.pointer (some ⟨g,0,none⟩)] w fun e w'=>e=.returned (.tuple #[])∧w=w':=by
 obtain⟨j,hj,_⟩:=Option.map_eq_some_iff.1 (show (Tryz.prog.info? 176).map (·.size)=some 2 by kernel_rfl)
 have hq:=fun w=>Lib.run_neq_ptr_same (P:=Tryz.prog) w ⟨g,0,none⟩ Tryz.underlying174 hj
 go_enter Tryz.func239,Tryz.ntmps239
 go_wp2_with (fail)
 go_end0
 exact⟨rfl,rfl⟩
theorem copy_fresh (g:Nat) (w:World) (v:Value) (hb:Blk w g 176 #[.pointer none,v]) :
 Calls Tryz.prog 239 #[.pointer (some ⟨g,0,none⟩)] w fun e w'=>e=.returned (.tuple #[])∧w'=w.setCell ⟨g,0,none⟩ (.pointer (some ⟨g,0,none⟩)):=by
 obtain⟨j,hj,hjs⟩:=Option.map_eq_some_iff.1 (show (Tryz.prog.info? 176).map (·.size)=some 2 by kernel_rfl)
 have h0:w.cell? ⟨g,0,none⟩=some (.pointer none):=hb.cell 0
 have hz:w.frozen? ⟨g,0,none⟩=false:=hb.frozen 0
 have hs:w.shape? g=some (176,2):=hb.shape
 have k1:=Lib.run_to_unsafe (P:=Tryz.prog) (dst:=271) w ⟨g,0,none⟩ Tryz.underlying174 Tryz.underlying271 hj (by rw [hjs];decide) hs (Nat.zero_lt_succ 1)
 have k2:=Lib.run_from_unsafe (P:=Tryz.prog) w ⟨g,0,none⟩ Tryz.underlying271 Tryz.underlying174 hj hs (by kernel_rfl)
 have k3 : ∀x:Value,(callFunc 288 #[x]).run Tryz.prog w=.ok (.value x) w:=fun x=>by
  rw [run_callFunc_extern Tryz.func288 (by kernel_rfl) (by kernel_rfl) (by kernel_rfl) (e:=Extern.AbiNoEscape.same) (by kernel_rfl)]
  rfl
 go_enter Tryz.func239,Tryz.ntmps239
 go_wp2_with (fail)
 go_end0
 exact⟨rfl,rfl⟩
theorem copyCheck_any (g base:Nat) (p:Value) (l:Str) (w:World) (hp:p=.pointer none∨p=selfP g) (h:BldAt w g base p l) :
 Calls Tryz.prog 239 #[.pointer (some ⟨g,0,none⟩)] w fun e w'=>e=.returned (.tuple #[])∧BldAt w' g base (selfP g) l∧Below base w w':=by
 obtain⟨hbg,v,hb,hown,hnil⟩:=h
 rcases hp with rfl | rfl
 ·refine (copy_fresh g w v hb).mono ?_
  rintro e w' ⟨rfl,rfl⟩
  exact⟨rfl,⟨hbg,v,hb.set_ 0 _,own_far hown (own_blk_ne hown hb (by decide)) _,hnil⟩,(Below.refl _ _).setCell hbg _⟩
 ·refine (copy_used g w (hb.cell 0)).mono ?_
  rintro e w' ⟨rfl,rfl⟩
  exact⟨rfl,⟨hbg,v,hb,hown,hnil⟩,Below.refl _ _⟩
theorem WriteByte_any (g base:Nat) (p:Value) (l:Str) (c:UInt8) (w:World) (hp:p=.pointer none∨p=selfP g) (h:BldAt w g base p l) (hl:l.length≤2 ^ 37) (hbw:base≤w.heap.size) :
 Calls Tryz.prog 237 #[.pointer (some ⟨g,0,none⟩),bv c] w fun e w'=>e=.returned .nilIface ∧BldAt w' g base (selfP g) (l++[c])∧Below base w w':=by
 have kc:=fun w h=>copyCheck_any g base p l w hp h
 go_enter Tryz.func237,Tryz.ntmps237
 go_wp2_with (first
  | (go_at_call 239;refine (kc _ h).mono ?_;rintro e w1 ⟨rfl,⟨hbg,v,hb,hown,_⟩,hb1⟩
     obtain⟨A1,n1,rfl,_,_⟩:=own_sl hown
     have c1:w1.cell? ⟨g,1,none⟩=some (.slice A1 l.length n1):=hb.cell 1
     have hz1:=hb1.size)
  | (at_builtin;refine wpList_app byteT rfl (.tmp 11) (.tmp 13) rfl _ l.length (l.map bv) rfl base hown [bv c] rfl (by simp [Value.oneCell']) rfl (by omega) (by omega) (by omega) ?_;intro v2 w2 own2 hg2 hat2
     have hne:=own_blk_ne hown hb (by decide)
     have hB2:=hb.grown hg2 (fun h=>hne h.symm)
     have d1:w2.cell? ⟨g,1,none⟩=some (.slice A1 l.length n1):=hB2.cell 1
     have f1:w2.frozen? ⟨g,1,none⟩=false:=hB2.frozen 1
     have hb2:=Below.own hb1 (Nat.le_trans hbw hz1) hown (Nat.le_refl _) hg2
     obtain⟨A2,c2,rfl,_,_⟩:=own_sl own2))
 go_ret
 exact⟨rfl,⟨hbg,.slice A2 (l.length+1) c2,hB2.set_ 1 _,own_cast (own_far own2 (own_blk_ne (t:=176) own2 hB2 (by decide)) _) (by simp) (by simp),fun h=>by simp at h⟩,hb2.setCell hbg _⟩
theorem String_any (g base:Nat) (p:Value) (l:Str) (w:World) (h:BldAt w g base p l) :
 Calls Tryz.prog 168 #[.pointer (some ⟨g,0,none⟩)] w fun e w'=>e=.returned (sv l)∧Below base w w':=by
 obtain⟨hbg,v,hb,hown,hnil⟩:=h
 rcases hown.2 with ⟨rfl,h0⟩ | ⟨gv,cap,cur,rfl,hgv,hcur,hlc,hcm,hcs,htk⟩
 ·obtain rfl:l=[]:=List.eq_nil_of_length_eq_zero h0
  have c1:w.drew.cell? ⟨g,1,none⟩=some (.slice none 0 0):=hb.drew.cell 1
  have k1:=fun w=>Lib.run_unsafeString_none (P:=Tryz.prog) w 240 3 9 none
  have k2:(Builtin.unsafeSliceData_ #[22] 240 #[.slice none 0 0]).run Tryz.prog w.drew=.ok (.pointer none) w.drew:=rfl
  clear hown h0
  go_enter Tryz.func168,Tryz.ntmps168
  go_wp2_with (fail)
  go_region
  all_goals (go_wp2;go_ret;exact⟨rfl,(Below.refl _ _).drew⟩)
 ·have c1:w.drew.cell? ⟨g,1,none⟩=some (.slice (some ⟨gv,0,none⟩) l.length cap):=hb.drew.cell 1
  have hBc:Blk w gv 5 cur:=hcur
  by_cases hl:l=[]
  ·have:=hnil hl
   cases this
  ·have k2:(Builtin.unsafeSliceData_ #[22] 240 #[.slice (some ⟨gv,0,none⟩) l.length cap]).run Tryz.prog w.drew=.ok (.pointer (some ⟨gv,0,none⟩)) w.drew:=Lib.run_unsafeSliceData_row _ _ _ _ _ _ (by have:=List.length_pos_iff.2 hl;omega)
   have k3:(Builtin.unsafeString_ #[240,3] 9 #[.pointer (some ⟨gv,0,none⟩),.int .i64 l.length]).run Tryz.prog w.drew=.ok (.string ⟨l.toArray⟩) (w.drew.freeze ⟨gv,0,none⟩ l.length):=by
    refine Lib.run_unsafeString_row w.drew 240 3 9 5 Tryz.underlying240 (by kernel_rfl) gv cur.size hBc.drew.shape l hl (by omega) (by unfold maxLen at hcm;omega) ?_
    intro j x hx
    exact hown.cells (g:=gv) rfl j (.int .u8 x.toNat) (by rw [List.getElem?_map,hx];rfl)
   have hl':=Lib.hid hl
   clear hown hlc hcs htk hl
   go_enter Tryz.func168,Tryz.ntmps168
   go_wp2_with (fail)
   go_region
   all_goals (go_wp2;go_ret;exact⟨rfl,Lib.below_freeze (Below.refl _ _).drew (p:=⟨gv,0,none⟩) hgv _⟩)
def cntA (c:List Int):Array Value:=(c.map (Value.int .i64)).toArray
theorem cntA_size (c:List Int):(cntA c).size =c.length:=by simp [cntA]
theorem cntA_get (c:List Int) (k:Nat) (h:k<c.length):(cntA c)[k]? =some (.int .i64 (c.getD k 0)):=by
 simp [cntA,List.getD_eq_getElem?_getD,List.getElem?_eq_getElem h]
theorem run_index_cnt (c:List Int) (k:Nat) (w:World) (h:k<27) (hc:c.length=27) :
 (Instr.index 172 (.agg (cntA c)) (.int .i64 (k:Int))).run Tryz.prog w=.ok (.int .i64 (c.getD k 0)) w:=by
 have hg:=cntA_get c k (by omega)
 have hu:Tryz.prog.underlying 172=some (.array 27 3):=Tryz.underlying172
 have hagg : ∀w,(isAgg 3).run Tryz.prog w=.ok false w:=fun w=>by kernel_rfl
 have hsz : ∀w,(Go.sizeOf 3).run Tryz.prog w=.ok 1 w:=fun w=>by kernel_rfl
 simp [Instr.index,asIntOf,run_underlying hu,hsz,hagg,hg,part,h]
theorem tileC_nat (k:Nat) (h:k<27) (h0:k≠0):((tileC k).toNat : Int)=96+k:=by
 unfold tileC
 rw [if_neg h0,UInt8.toNat_ofNat']
 omega
theorem tileAt_any (k:Nat) (w:World) (h:k<27) :
 Calls Tryz.prog 238 #[.int .i64 (k:Int)] w fun e w'=>e=.returned (bv (tileC k))∧w=w':=by
 by_cases h0:k=0
 ·subst h0
  go_enter Tryz.func238,Tryz.ntmps238
  go_wp2_with (fail)
  go_ret
  exact⟨rfl,rfl⟩
 ·have h0':((k:Int)==0)=false:=by simp [h0]
  have hn:=Lib.hid (tileC_nat k h h0)
  have hk:(k:Int)<27:=by omega
  have hk1:(1:Int)≤(k:Int):=by omega
  clear h h0
  go_enter Tryz.func238,Tryz.ntmps238
  go_wp2_with (fail)
  go_ret
  exact⟨congrArg (fun n=>Ending.returned (.int .u8 n)) (by rw [hn.out];omega),rfl⟩
theorem pileTo_succ (c:List Int) (k:Nat):pileTo c (k+1)=pileTo c k++List.replicate (c.getD k 0).toNat (tileC k):=by
 simp [pileTo,List.range_succ]
theorem pileTo_le (c:List Int) (k:Nat) : ∀d,(pileTo c k).length ≤(pileTo c (k+d)).length
 | 0=>Nat.le_refl _
 | d+1=>by
   have:=pileTo_le c k d
   rw [show k+(d+1)=(k+d)+1 by omega,pileTo_succ,List.length_append];omega
theorem pile_any (c:List Int) (w:World) (hc:c.length=27) (hnn : ∀j,0≤c.getD j 0) (hs:(pileL c).length ≤2 ^ 37) :
 Calls Tryz.prog 165 #[.agg (cntA c)] w fun e w'=>e=.returned (sv (pileL c))∧Below w.heap.size w w':=by
 have hidx:=fun (k:Nat) (h:k<27) (w:World)=>run_index_cnt c k w h hc
 have hsz:(cntA c).size =27:=by rw [cntA_size,hc]
 obtain⟨X,hX⟩ : ∃X,X=cntA c:=⟨_,rfl⟩
 have hPL:Hid (pileL c=pileTo c 27):=Lib.hid rfl
 obtain⟨PL,hPLe⟩ : ∃PL,PL=pileL c:=⟨_,rfl⟩
 rw [←hPLe] at hPL hs ⊢
 rw [←hX] at hidx hsz ⊢
 clear hX hPLe
 have hs27:=Lib.hid hsz
 have hidx':=Lib.hid hidx
 clear hsz hidx hc
 go_enter Tryz.func165,Tryz.ntmps165
 go_wp2_with (refine wpList_load_row rfl 172 (.tmp 1) rfl w.heap.size rfl 172 X (0,0) _ ((Blk.new w 172 X).alloc _) Tryz.underlying172 rfl (by rw [hs27.out];kernel_rfl) ?_)
 have hB0:BldAt ((w.alloc (.cells X 172)).alloc (.cells #[.pointer none,.slice none 0 0] 176)) (w.heap.size+1) w.heap.size (.pointer none) []:=
  ⟨by omega,_,Blk.new1 w _ _ _,⟨rfl,.inl ⟨rfl,rfl⟩⟩,fun _=>rfl⟩
 have hb0:Below w.heap.size w ((w.alloc (.cells X 172)).alloc (.cells #[.pointer none,.slice none 0 0] 176)):=((Below.refl _ _).alloc (Nat.le_refl _) _).alloc (by simp) _
 have hn':=Lib.hid hnn
 clear hnn
 go_loopw [7] (fun i wr=>∃(k:Nat) (p:Value),k≤27∧i=.int .i64 k∧Hid (p=.pointer none∨p=selfP (w.heap.size+1))∧BldAt wr (w.heap.size+1) w.heap.size p (pileTo c k)∧Below w.heap.size w wr) (fun i _=>27-(intOf i).toNat)
 case atStart=>exact⟨0,_,by omega,rfl,.inl rfl,hB0,hb0⟩
 case round=>
  clear hB0 hb0
  obtain⟨k,p,hk,rfl,hp,hB,hb⟩:=hrel
  by_cases hlt:k<27
  ·have hkk:(k:Int)<27:=by omega
   have hk0:(0:Int)≤(k:Int):=by omega
   have hix:=hidx'.out k hlt
   have hsucc:=pileTo_succ c k
   have hle:=pileTo_le c (k+1) (26-k)
   rw [show k+1+(26-k)=27 by omega,←hPL.out] at hle
   have hsl:Hid ((pileTo c (k+1)).length =(pileTo c k).length + (c.getD k 0).toNat):=Lib.hid (by rw [hsucc,List.length_append,List.length_replicate])
   have hsc:=Lib.hid hsucc
   obtain⟨n,hn⟩ : ∃n:Nat,c.getD k 0=(n:Int):=⟨(c.getD k 0).toNat,by have:=hn'.out k;omega⟩
   have hsc2:Hid (pileTo c (k+1)=pileTo c k++List.replicate n (tileC k)):=Lib.hid (by rw [hsc.out,hn];simp)
   have hlen:(pileTo c k).length + n≤137438953472:=by have h:=hsl.out;rw [hn] at h;simp at h;omega
   rw [hn] at hix
   have kt:=fun w=>tileAt_any k w hlt
   obtain⟨P0,hP0⟩ : ∃P0,P0=pileTo c k:=⟨_,rfl⟩
   rw [←hP0] at hB hsc2 hlen
   obtain⟨t,ht⟩ : ∃t,t=tileC k:=⟨_,rfl⟩
   rw [←ht] at kt hsc2
   clear hsucc hsc hsl hn hP0 ht hle
   go_wp2_with (fail)
   obtain⟨wo,rfl⟩ : ∃wo:World,wo=wr:=⟨_,rfl⟩
   go_loopw [5] (fun i wr=>∃(m:Nat) (p:Value),m≤n∧i=.int .i64 m∧Hid (p=.pointer none∨p=selfP (w.heap.size+1))∧BldAt wr (w.heap.size+1) w.heap.size p (P0++List.replicate (n-m) t)∧Below w.heap.size w wr) (fun i _=>(intOf i).toNat)
   case atStart=>exact⟨n,p,Nat.le_refl _,rfl,hp,by simpa using hB,hb⟩
   case round=>
    clear hB hb hp
    obtain⟨m,p,hm,rfl,hp,hB,hb⟩:=hrel
    by_cases hm0:0<m
    ·have hm1:(0:Int)<(m:Int):=by omega
     have hln:(P0++List.replicate (n-m) t).length ≤2 ^ 37:=by simp;omega
     have hstep:Hid (P0++List.replicate (n-(m-1)) t=(P0++List.replicate (n-m) t)++[t]):=Lib.hid (by rw [show n-(m-1)=(n-m)+1 by omega,List.replicate_succ',List.append_assoc])
     have hz:=hb.size
     have hsub:Hid ((m:Int)-1=((m-1:Nat):Int)):=Lib.hid (by omega)
     obtain⟨L,hL⟩ : ∃L,L=P0++List.replicate (n-m) t:=⟨_,rfl⟩
     rw [←hL] at hB hln hstep
     clear hL
     go_wp2_with (first
      | (go_at_call 238;refine (kt _).mono ?_;rintro e w' ⟨rfl,rfl⟩)
      | (go_at_call 237;refine (WriteByte_any (w.heap.size+1) w.heap.size p L t _ hp.out hB hln hz).mono ?_;rintro e w2 ⟨rfl,hB2,hb2⟩))
     go_roundw
     case rel=>exact⟨m-1,_,by omega,by rw [hsub.out],.inr rfl,by rw [hstep.out];exact hB2,hb.trans hb2⟩
     case measure=>simp [intOf];omega
    ·obtain rfl:m=0:=by omega
     go_wp2_with (fail)
     go_roundw
     case rel=>exact⟨k+1,p,by omega,by go_num,hp,by rw [hsc2.out];simpa using hB,hb⟩
     case measure=>simp [intOf];omega
  ·obtain rfl:k=27:=by omega
   rw [←hPL.out] at hB
   go_wp2_with (go_at_call 168;refine (String_any (w.heap.size+1) w.heap.size p PL _ hB).mono ?_;rintro e w2 ⟨rfl,hb2⟩)
   go_ret
   exact⟨rfl,hb.trans hb2⟩
end Go.Proofs.YtjjonmhpgkahoaaGreatDoor
namespace Go.Proofs.YtjjonmhpgkahoaaGreatDoor
open Go.RowKit
set_option maxHeartbeats 2000000
set_option maxRecDepth 100000
theorem string_row (g gv cap:Nat) (p:Value) (l:List UInt8) (cur:Array Value) (w:World) (hb:Blk w g 176 #[p,.slice (some ⟨gv,0,none⟩) l.length cap]) (hBc:Blk w gv 5 cur) (hl:l≠[]) (hc:l.length≤cap) (hcm:cap≤maxLen) (hcs:cur.size=cap)
 (hat : ∀j x,l[j]? =some x→w.cell? ⟨gv,j,none⟩=some (.int .u8 x.toNat)) :
 Calls Tryz.prog 168 #[.pointer (some ⟨g,0,none⟩)] w fun e w'=>e=.returned (.string ⟨l.toArray⟩)∧w'=w.drew.freeze ⟨gv,0,none⟩ l.length:=by
 have c1:w.drew.cell? ⟨g,1,none⟩=some (.slice (some ⟨gv,0,none⟩) l.length cap):=hb.drew.cell 1
 have k2:(Builtin.unsafeSliceData_ #[22] 240 #[.slice (some ⟨gv,0,none⟩) l.length cap]).run Tryz.prog w.drew=.ok (.pointer (some ⟨gv,0,none⟩)) w.drew:=Lib.run_unsafeSliceData_row _ _ _ _ _ _ (by have:=List.length_pos_iff.2 hl;omega)
 have k3:(Builtin.unsafeString_ #[240,3] 9 #[.pointer (some ⟨gv,0,none⟩),.int .i64 l.length]).run Tryz.prog w.drew=.ok (.string ⟨l.toArray⟩) (w.drew.freeze ⟨gv,0,none⟩ l.length):=by
  refine Lib.run_unsafeString_row w.drew 240 3 9 5 Tryz.underlying240 (by kernel_rfl) gv cur.size hBc.drew.shape l hl (by omega) (by unfold maxLen at hcm;omega) ?_
  intro j x hx
  have hadd:(⟨gv,0,none⟩:Addr).add j=⟨gv,j,none⟩:=by unfold Addr.add;split<;>simp_all
  rw [hadd]
  exact hat j x hx
 have hl':=Lib.hid hl
 clear hc hcm hcs hl hat
 go_enter Tryz.func168,Tryz.ntmps168
 go_wp2_with (fail)
 go_region
 all_goals (go_wp2;go_ret;exact⟨rfl,rfl⟩)
namespace Ax
def blF:AH:=[(0,.cells [.nilp,.esl] 176)]
def blH:AH:=[(0,.cells [.ptr 0 0,.esl] 176)]
def blU (L:List Int):AH:=[(0,.cells [.ptr 0 0,.osl 1] 176),(1,.own [.i .u8] L 5)]
def rdF {β:Type} (B:Args β):AH→List PV→Option (Unit×β)
 | [(0,.cells [.nilp,.esl] t)],.ptr 0 0::r=>if Nat.beq t 176 then both' (some ()) (B.rd r) else none
 | _,_=>none
def mBF {β:Type} (B:Args β):MArgs (Unit×β):=⟨rdF B,fun _=>blF,fun a=>.ptr 0 0::B.enc a.2,fun H l a h=>by
 unfold rdF at h
 split at h
 ·split at h
  ·rename_i ht
   obtain⟨-,h2⟩:=both'_ok h
   exact⟨by rw [Nat.eq_of_beq_eq_true ht];rfl,by rw [B.ok _ _ h2]⟩
  ·cases h
 ·cases h⟩
def rdU {β:Type} (B:Args β):AH→List PV→Option (List Int×β)
 | [(0,.cells [.ptr 0 0,.osl 1] t),(1,.own [.i .u8] L u)],.ptr 0 0::r=>if Nat.beq t 176&&Nat.beq u 5 then both' (some L) (B.rd r) else none
 | _,_=>none
def mBU {β:Type} (B:Args β):MArgs (List Int×β):=⟨rdU B,fun a=>blU a.1,fun a=>.ptr 0 0::B.enc a.2,fun H l a h=>by
 unfold rdU at h
 split at h
 ·split at h
  ·rename_i ht
   rw [Bool.and_eq_true] at ht
   obtain⟨h1,h2⟩:=both'_ok h
   cases h1
   exact⟨by rw [Nat.eq_of_beq_eq_true ht.1,Nat.eq_of_beq_eq_true ht.2];rfl,by rw [B.ok _ _ h2]⟩
  ·cases h
 ·cases h⟩
theorem AH_one {k:Nat} {o:Ob} {j:Nat} {o':Ob} (h:AH.get [(k,o)] j=some o'):j=k∧o'=o:=by
 unfold AH.get at h
 split at h
 ·rename_i hk;exact⟨(by simpa using hk:k=j).symm,by cases h;rfl⟩
 ·cases h
theorem cells_at {w:World} {e:Env} {id:Nat} {l:List PV} {ty:TypeId} (h:OR w e id (.cells l ty)) : ∃b vs,e.adr id=some ⟨b,0,none⟩∧¬e.fz b∧w.heap[b]? =some (.cells vs ty (0,0))∧Rs w e l vs.toList:=by
 unfold OR at h;exact h
def sp_copyF (p:Pr):MSpec:=msp (mBF a0) (fun _=>True) (fun _=>.tup []) fun _=>blH
def sp_copyU (p:Pr):MSpec:=msp (mBU a0) (fun _=>True) (fun _=>.tup []) fun _=>[]
theorem ok_copyF:MOk Tryz.prog 239 (sp_copyF std):=by
 refine⟨⟨_,Tryz.func239,rfl,rfl⟩,fun H args out hs hp w e vals hz hob hon hlv hbd hdis hl=>?_⟩
 unfold sp_copyF msp at hs
 split at hs
 ·rename_i a ha
  cases hs
  obtain⟨rfl,rfl⟩:=(mBF a0).ok _ _ _ ha
  obtain⟨hO,hn0⟩:=hob 0 _ (show AH.get blF 0=some _ from rfl)
  obtain⟨b,vs,h1,h2,h3,h4⟩:=cells_at hO
  obtain⟨x,y,h5,h6,h7⟩:=Rs2 h4
  have h6:x=.pointer none:=by unfold R at h6;exact h6
  have h7:y=.slice none 0 0:=by unfold R at h7;exact h7
  subst h6 h7
  obtain⟨u,hv,h8⟩:=Rs1 hl
  rw [arr_of hv]
  unfold R at h8
  obtain⟨-,b',h9,rfl⟩:=h8
  rw [h1] at h9
  cases h9
  have hB:Blk w b 176 #[.pointer none,.slice none 0 0]:=by unfold Blk;rw [h3,arr_of h5]
  refine (copy_fresh b w _ hB).mono ?_
  rintro en w' ⟨rfl,rfl⟩
  have hB':=hB.set_ 0 (.pointer (some ⟨b,0,none⟩))
  refine⟨_,e,rfl,by unfold R;exact⟨#[],rfl,by unfold Rs;rfl⟩,.refl e,.of fun _ h=>h,?_,fun k hk=>.inl hk,fun k hk=>.inl hk,fun k hk=>.inl hk,fun k _ _ h1 h2=>absurd h1 h2,⟨rfl,rfl,rfl,by rw [World.size_setCell];exact Nat.le_refl _,fun j _ hM=>heap_setCell_other w _ j _ fun hj=>hM ⟨0,(hlv 0).2 (Nat.zero_lt_succ _),rfl,_,h1,hj.symm⟩⟩⟩
  intro k o hk
  obtain⟨rfl,rfl⟩:=AH_one hk
  refine⟨?_,hn0,fun _=>(hlv 0).2 (Nat.zero_lt_succ _)⟩
  unfold OR
  refine⟨b,_,h1,h2,hB',?_⟩
  simp [Rs,R,h1,hn0]
 ·cases hs
theorem ok_copyU:MOk Tryz.prog 239 (sp_copyU std):=by
 refine⟨⟨_,Tryz.func239,rfl,rfl⟩,fun H args out hs hp w e vals hz hob hon hlv hbd hdis hl=>?_⟩
 unfold sp_copyU msp at hs
 split at hs
 ·rename_i a ha
  cases hs
  obtain⟨rfl,rfl⟩:=(mBU a0).ok _ _ _ ha
  obtain⟨hO,hn0⟩:=hob 0 _ (show AH.get (blU a.1) 0=some _ from rfl)
  obtain⟨b,vs,h1,h2,h3,h4⟩:=cells_at hO
  obtain⟨x,y,h5,h6,h7⟩:=Rs2 h4
  have h6:x=.pointer (some ⟨b,0,none⟩):=by
   unfold R at h6
   obtain⟨-,b',q1,q2⟩:=h6
   rw [h1] at q1;cases q1;exact q2
  subst h6
  obtain⟨u,hv,h8⟩:=Rs1 hl
  rw [arr_of hv]
  unfold R at h8
  obtain⟨-,b',h9,rfl⟩:=h8
  rw [h1] at h9
  cases h9
  have hB:Blk w b 176 #[.pointer (some ⟨b,0,none⟩),y]:=by unfold Blk;rw [h3,arr_of h5]
  refine (copy_used b w (hB.cell 0)).mono ?_
  rintro en w' ⟨rfl,rfl⟩
  exact⟨_,e,rfl,by unfold R;exact⟨#[],rfl,by unfold Rs;rfl⟩,.refl e,.of fun _ h=>h,fun k o hk=>by simp [AH.get] at hk,fun k hk=>.inl hk,fun k hk=>.inl hk,fun k hk=>.inl hk,fun k _ _ h1 h2=>absurd h1 h2,.refl _ _⟩
 ·cases hs
def sp_copy (p:Pr):MSpec:=MSpec.or (msp (mBF a0) (fun _=>True) (fun _=>.tup []) fun _=>blH) (msp (mBU a0) (fun _=>True) (fun _=>.tup []) fun _=>[])
theorem ok_copy:MOk Tryz.prog 239 (sp_copy std):=MOk.or ok_copyF ok_copyU
def sp_strU (p:Pr):MSpec:=msp (mBU a0) (fun (L,_)=>∀x∈L,0≤x∧x≤255) (fun (L,_)=>.s (p.toS L)) fun _=>[(1,.gone)]
theorem toB_toS {L:List Int} (h : ∀x∈L,0≤x∧x≤255):toBl (toSl L)=L:=by
 unfold toBl toSl
 rw [List.map_map]
 conv=>rhs;rw [←List.map_id L]
 refine List.map_congr_left fun x hx=>?_
 have:=h x hx
 show ((UInt8.ofNat x.toNat).toNat : Int)=x
 rw [UInt8.toNat_ofNat']
 omega
theorem freeze_other (w:World) (p:Addr) (n k:Nat) (h:k≠p.block):(w.freeze p n).heap[k]? =w.heap[k]? :=by
 unfold World.freeze
 split
 ·rfl
 ·simp only [Array.getElem?_modify]
  rw [if_neg (by omega)]
theorem ok_strU:MOk Tryz.prog 168 (sp_strU std):=by
 refine⟨⟨_,Tryz.func168,rfl,rfl⟩,fun H args out hs hp w e vals hz hob hon hlv hbd hdis hl=>?_⟩
 unfold sp_strU msp at hs
 split at hs
 ·rename_i a ha
  cases hs
  obtain⟨rfl,rfl⟩:=(mBU a0).ok _ _ _ ha
  obtain⟨L,u0⟩:=a
  have hL : ∀x∈L,0≤x∧x≤255:=hp _ (by simp)
  obtain⟨hO,hn0⟩:=hob 0 _ (show AH.get (blU L) 0=some _ from rfl)
  obtain⟨hO1,hn1⟩:=hob 1 _ (show AH.get (blU L) 1=some (.own [.i .u8] L 5) from rfl)
  obtain⟨b,vs,h1,h2,h3,h4⟩:=cells_at hO
  obtain⟨x,y,h5,h6,h7⟩:=Rs2 h4
  have h7:y=.slice (e.adr 1) (e.len 1) (e.cap 1):=by unfold R at h7;exact h7.2
  subst h7
  obtain⟨u,hv,h8⟩:=Rs1 hl
  rw [arr_of hv]
  unfold R at h8
  obtain⟨-,b',h9,rfl⟩:=h8
  rw [h1] at h9
  cases h9
  have hB:Blk w b 176 #[x,.slice (e.adr 1) (e.len 1) (e.cap 1)]:=by unfold Blk;rw [h3,arr_of h5]
  have hfin : ∀w',w'.os=w.os→w'.tape=w.tape→w'.output=w.output→w.heap.size≤w'.heap.size→(∀j,j<w.heap.size→(∀ad,e.adr 1=some ad→ad.block≠j)→w'.heap[j]? =w.heap[j]?)→
   ∃v e',Ending.returned (.string ⟨(toSl L).toArray⟩)=.returned v∧Post w w' e e' (blU L).length ⟨[∀x∈L,0≤x∧x≤255],.s (std.toS L),[(1,.gone)]⟩ v:=fun w' q1 q2 q3 q4 q5=>by
   refine⟨_,{ e with lv:=fun k=>e.lv k∧k≠1 },rfl,by unfold R;rfl,⟨fun k h=>h,fun _ _=>rfl,fun _ _=>rfl,fun _ _=>rfl,fun _ h=>h⟩,.of fun _ h=>h,?_,fun k hk=>.inl hk,fun k hk=>.inl hk.1,fun k hk=>?_,fun k _ _ h1 h2=>absurd h1.1 h2,⟨q1,q2,q3,q4,fun j hj hM=>q5 j hj fun ad h h'=>hM ⟨1,(hlv 1).2 (Nat.lt_succ_self 1),rfl,ad,h,h'⟩⟩⟩
   ·intro k o hk
    obtain⟨rfl,rfl⟩:=AH_one hk
    exact⟨trivial,hn1,fun h=>by cases h⟩
   ·by_cases h:k=1
    ·subst h;exact .inr rfl
    ·exact .inl ⟨hk,h⟩
  unfold OR at hO1
  obtain⟨g1,g2⟩:=hO1
  rcases g2 with ⟨g3,rfl,g4⟩ | ⟨gv,cur,g3,g4,g5,g6,⟨g7,g8⟩,g9⟩
  ·rw [g3,g1,g4] at hB
   refine (Any.Builder_String_nil Tryz.lays169 Tryz.Builder_Extra_169 w.heap.size b x w hB).mono ?_
   rintro en w' ⟨rfl,hb⟩
   exact hfin w' hb.os hb.tape hb.output hb.size fun j hj _=>hb.block j hj
  ·rw [g3,g1] at hB
   by_cases h0:L=[]
   ·subst h0
    by_cases hc0:e.cap 1=0
    ·rw [hc0] at hB
     refine (Any.Builder_String_noroom Tryz.lays169 Tryz.Builder_Extra_169 w.heap.size b gv x cur w (Nat.le_refl _) hB g5).mono ?_
     rintro en w' ⟨rfl,hb⟩
     exact hfin w' hb.os hb.tape hb.output hb.size fun j hj _=>hb.block j hj
    ·refine (Any.Builder_String_room Tryz.lays169 Tryz.Builder_Extra_169 w.heap.size b gv (e.cap 1) x w hc0 hB).mono ?_
     rintro en w' ⟨rfl,hb⟩
     exact hfin w' hb.os hb.tape hb.output hb.size fun j hj _=>hb.block j hj
   ·have hll:(toSl L).length =L.length:=by simp [toSl]
    refine (string_row b gv (e.cap 1) x (toSl L) cur w (by rw [hll];exact hB) g5 (fun h=>h0 (List.eq_nil_of_length_eq_zero (by rw [←hll,h];rfl))) (by rw [hll];exact g7) g8 (by simpa using g6) fun j z hz=>?_).mono ?_
    ·have hz':L[j]? =some (z.toNat:Int):=by
      have:=congrArg (fun l=>l[j]?) (toB_toS hL)
      have:=(show (toBl (toSl L))[j]? =L[j]? from this)
      rw [←this]
      unfold toBl
      rw [List.getElem?_map,hz];rfl
     have:=g9 j _ hz'
     unfold RE REs RE2 at this
     obtain⟨q,q1,q2⟩:=this
     unfold RA at q2
     rw [q2] at q1
     simpa using q1
    ·rintro en w' ⟨rfl,rfl⟩
     have hsz:(w.drew.freeze ⟨gv,0,none⟩ (toSl L).length).heap.size =w.heap.size:=by
      unfold World.freeze;split
      ·rfl
      ·show (Array.modify _ _ _).size =_;rw [Array.size_modify];rfl
     refine hfin _ ?_ ?_ ?_ (by rw [hsz];exact Nat.le_refl _) fun j hj h=>freeze_other w.drew _ _ j fun h'=>h _ g3 h'.symm
     all_goals (unfold World.freeze;split<;>rfl)
 ·cases hs
def sp_wStrF (p:Pr):MSpec:=msp (mBF (a1 aS)) (fun (_u,s)=>p.ltM (p.lenS s)) (fun (_u,s)=>.tup [.i .i64 (p.lenS s),.raw .nilIface]) (fun (_u,s)=>[(0,.cells [.ptr 0 0,.osl 1] 176),(1,.own [.i .u8] (p.toB s) 5)])
theorem ok_wStrF:MOk Tryz.prog 166 (sp_wStrF std):=by
 refine MOk.go (c:=cx std [] [(239,sp_copy std)] 1) (cx_ok .nil (.cons ok_copy .nil)) mixed Tryz.func166 rfl rfl (by kernel_rfl) ?_
 rintro ⟨_u,s⟩ hp
 dsimp only at hp
 refine⟨rfl,?_⟩
 unfold sp_copy
 generalize hP:std=p
 cbv
 repeat' first
  | (refine fun (_:Unit)=>?_;cbv)
  | (refine aI2 (fun h=>?_) (fun h=>?_)<;>cbv)
  | (refine aI2 ?_ ?_)
  | (refine Or.inl (fun (_:Unit)=>?_);cbv)
 all_goals subst hP
 all_goals try exact fin
def sp_wStrU (p:Pr):MSpec:=msp (mBU (a1 aS)) (fun (L,s)=>p.ltM (p.add (p.len L) (p.lenS s))) (fun (L,s)=>.tup [.i .i64 (p.lenS s),.raw .nilIface]) (fun (L,s)=>[(0,.cells [.ptr 0 0,.osl 2] 176),(1,.gone),(2,.own [.i .u8] (p.snoc L (p.toB s)) 5)])
theorem ok_wStrU:MOk Tryz.prog 166 (sp_wStrU std):=by
 refine MOk.go (c:=cx std [] [(239,sp_copy std)] 2) (cx_ok .nil (.cons ok_copy .nil)) mixed Tryz.func166 rfl rfl (by kernel_rfl) ?_
 rintro ⟨L,s⟩ hp
 dsimp only at hp
 refine⟨rfl,?_⟩
 unfold sp_copy
 generalize hP:std=p
 cbv
 repeat' first
  | (refine fun (_:Unit)=>?_;cbv)
  | (refine aI2 (fun h=>?_) (fun h=>?_)<;>cbv)
  | (refine aI2 ?_ ?_)
  | (refine Or.inl (fun (_:Unit)=>?_);cbv)
 all_goals subst hP
 all_goals try exact fin
def sp_wStr (p:Pr):MSpec:=MSpec.or (msp (mBF (a1 aS)) (fun (_,s)=>p.ltM (p.lenS s)) (fun (_,s)=>.tup [.i .i64 (p.lenS s),.raw .nilIface]) (fun (_,s)=>[(0,.cells [.ptr 0 0,.osl 1] 176),(1,.own [.i .u8] (p.toB s) 5)]))
 (msp (mBU (a1 aS)) (fun (L,s)=>p.ltM (p.add (p.len L) (p.lenS s))) (fun (_,s)=>.tup [.i .i64 (p.lenS s),.raw .nilIface]) (fun (L,s)=>[(0,.cells [.ptr 0 0,.osl 2] 176),(1,.gone),(2,.own [.i .u8] (p.snoc L (p.toB s)) 5)]))
theorem ok_wStr:MOk Tryz.prog 166 (sp_wStr std):=MOk.or ok_wStrF ok_wStrU
end Ax
end Go.Proofs.YtjjonmhpgkahoaaGreatDoor
namespace Go.Proofs.YtjjonmhpgkahoaaGreatDoor
namespace Ax
open Go.RowKit
set_option maxRecDepth 100000
set_option maxHeartbeats 2000000
def aCt:Arg (List Int):=⟨fun | .arr (.i .i64) n L=>if Nat.beq n 27 then some L else none | _=>none,fun L=>.arr (.i .i64) 27 L,fun x a h=>by
 split at h
 ·split at h
  ·rename_i hn
   cases h
   rw [Nat.eq_of_beq_eq_true hn]
  ·cases h
 ·cases h⟩
structure CtP (c:List Int) (m:Int):Prop where
 len:c.length=27
 lo : ∀j,0≤c.getD j 0
 hi : ∀j,c.getD j 0≤m
theorem pileTo_bd {c:List Int} {m:Nat} (h : ∀j,c.getD j 0≤m) : ∀k,(pileTo c k).length ≤k*m
 | 0=>by simp [pileTo]
 | k+1=>by
   rw [pileTo_succ,List.length_append,List.length_replicate,Nat.succ_mul]
   have h1:=pileTo_bd h k
   have h2:=h k
   omega
def sp_pile (p:Pr):FSpec:=fsp (a1 aCt) (fun c=>CtP c 1000000000) (fun c=>.s (pileL c))
theorem ok_pile:FOk Tryz.prog 165 (sp_pile std):=by
 refine FOk.of_calls Tryz.func165 rfl rfl fun c hp w e vals hz hl=>?_
 obtain⟨u,hv,h1⟩:=Rs1 hl
 rw [arr_of hv]
 have h1:u=.agg (cntA c):=by unfold R at h1;exact h1.2.2
 subst h1
 have hp:CtP c 1000000000:=hp
 refine (pile_any c w hp.len hp.lo ?_).mono ?_
 ·have h2:=pileTo_bd (m:=1000000000) hp.hi 27
  unfold pileL;omega
 ·rintro en w' ⟨rfl,hb⟩
  exact⟨_,rfl,fun w e=>by unfold R;rfl,hb⟩
theorem plc_K {c:UInt8} (h:tileB c=true):plcI (c.toNat:Int)=(tileK c:Int)∧tileK c<27:=by
 have h1:=tileK_lt' h
 refine⟨?_,h1⟩
 rcases (tileB_iff c).1 h with rfl | ⟨h2,h3⟩
 ·rfl
 ·rw [tileK_small h2]
  unfold plcI inR
  rw [if_neg (by omega),decide_eq_true (by omega),decide_eq_true (by omega),if_pos (by rfl)]
  omega
theorem cl_suc {s:List UInt8} {k:Int} (h0:0≤k) (h:k<s.length):countsL (s.take (k+1).toNat)=incAt (countsL (s.take k.toNat)) (tileK (s.getD k.toNat 0)):=by
 rw [tk h0 h 0]
 simp [countsL]
theorem incAt_len (c:List Int) (k:Nat):(incAt c k).length =c.length:=by simp [incAt]
theorem incAt_get (c:List Int) (k j:Nat):(incAt c k).getD j 0≤c.getD j 0+1∧c.getD j 0≤(incAt c k).getD j 0:=by
 unfold incAt
 rw [List.getD_eq_getElem?_getD,List.getElem?_set]
 split
 ·rename_i hk
  subst hk
  split
  ·rw [Option.getD_some];omega
  ·rename_i hl;simp [List.getD_eq_getElem?_getD,List.getElem?_eq_none (Nat.le_of_not_lt hl)]
 ·rw [←List.getD_eq_getElem?_getD];omega
theorem fold_ct (s:List UInt8) : ∀(c:List Int) (m:Int),CtP c m→CtP (s.foldl (fun c x=>incAt c (tileK x)) c) (m+s.length):=by
 induction s with
 | nil=>intro c m h;simpa using h
 | cons x r ih=>
   intro c m h
   have:=ih (incAt c (tileK x)) (m+1) ⟨by rw [incAt_len,h.len],fun j=>by have:=incAt_get c (tileK x) j;have:=h.lo j;omega,fun j=>by have:=incAt_get c (tileK x) j;have:=h.hi j;omega⟩
   rw [List.foldl_cons,List.length_cons]
   exact⟨this.len,this.lo,fun j=>by have:=this.hi j;omega⟩
theorem zero_ct:CtP zeroC 0:=by
 have h : ∀j,zeroC.getD j 0=0:=fun j=>by
  unfold zeroC
  rw [List.getD_eq_getElem?_getD,List.getElem?_replicate]
  split<;>rfl
 exact⟨rfl,fun j=>by rw [h];omega,fun j=>by rw [h];omega⟩
theorem counts_ct (s:List UInt8):CtP (countsL s) s.length:=by
 have:=fold_ct s zeroC 0 zero_ct
 rw [Int.zero_add] at this
 exact this
theorem CtP.mono {c:List Int} {m n:Int} (h:CtP c m) (hmn:m≤n):CtP c n:=⟨h.len,h.lo,fun j=>Int.le_trans (h.hi j) hmn⟩
theorem tile_at {s:List UInt8} {k:Int} (h:s.all tileB=true) (h0:0≤k) (h1:k<s.length):tileB (s.getD k.toNat 0)=true:=by
 rw [List.getD_eq_getElem?_getD,List.getElem?_eq_getElem (by omega)]
 exact List.all_eq_true.1 h _ (List.getElem_mem (by omega))
structure StP (s:List UInt8):Prop where
 ti:s.all tileB=true
 len:s.length≤1000000
def sp_i_countsOf (p:Pr):FSpec:=fsp (a1 aS) (fun s=>StP s) (fun s=>.arr (.i .i64) 27 (countsL s))
theorem ok_i_countsOf:FOk Tryz.prog 164 (sp_i_countsOf std):=by
 refine FOk.go (c:=cx std [(189,sp_i_place std)] [] 0) (cx_ok (.cons ok_i_place .nil) .nil) mixed Tryz.func164 rfl rfl rfl (by kernel_rfl) ?_
 rintro s hp
 refine⟨rfl,?_⟩
 unfold sp_i_place
 obtain⟨H,hH⟩ : ∃H:Hd (Int×List Int),H=⟨fun (k,L)=>0≤k∧k≤s.length∧L=countsL (s.take k.toNat),fun (k,L)=>(s.length-k).toNat,(· < ·)⟩:=⟨_,rfl⟩
 have hl : ∀m n,H.lt m n→m<n:=by subst hH;exact fun _ _ h=>h
 generalize hP:std=p,hB0:countsL=B0,hB1:plcI=B1
 cbv
 repeat' first
  | (refine fun (_:Unit)=>?_;cbv)
  | (refine Or.inr ⟨5,[],[.s 4 (.i .i64),.o 1 [.i .i64]],[],[],H,rfl,hl,?_,fun ((k,L):Int×List Int) hk=>?_⟩<;>cbv)
  | (refine aI2 (fun h=>?_) (fun h=>?_)<;>cbv)
  | (refine aI2 ?_ ?_)
 all_goals subst hP hB0 hB1 hH
 all_goals clear hl
 all_goals try dsimp only at hk
 all_goals try dsimp only
 all_goals try exact fin
 ·exact⟨Int.le_refl 0,Int.natCast_nonneg _,rfl⟩
 all_goals obtain⟨q0,q1,rfl⟩:=hk
 all_goals have q1:k≤(s.length:Int):=q1
 all_goals have hl:=hp.len
 all_goals have hC:=counts_ct (s.take k.toNat)
 all_goals have hC2:((s.take k.toNat).length : Int)≤s.length:=by rw [List.length_take];omega
 all_goals try (have hlt:k<(s.length:Int):=lt_of ‹_›)
 all_goals try (have hT:=tile_at hp.ti q0 hlt;obtain⟨hK,hK2⟩:=plc_K hT;have hK:plcI (std.byte s k)=(tileK (s.getD k.toNat 0):Int):=hK)
 ·show 0≤plcI (std.byte s k)∧plcI (std.byte s k)<27
  omega
 ·show 0≤plcI (std.byte s k)∧plcI (std.byte s k)<27
  omega
 ·have h1:=hC.lo (plcI (std.byte s k)).toNat
  have h2:=hC.hi (plcI (std.byte s k)).toNat
  exact in64 (by show _≤(countsL (s.take k.toNat)).getD (plcI (std.byte s k)).toNat 0+1∧(countsL (s.take k.toNat)).getD (plcI (std.byte s k)).toNat 0+1≤_;omega)
 ·show 0≤plcI (std.byte s k)∧plcI (std.byte s k)<27
  omega
 ·show 0≤plcI (std.byte s k)∧plcI (std.byte s k)<27
  omega
 ·exact in64 (by show _≤k+1∧k+1≤_;omega)
 ·refine⟨by show 0≤k+1;omega,by show k+1≤(s.length:Int);omega,?_⟩
  show (countsL (s.take k.toNat)).set (plcI (std.byte s k)).toNat ((countsL (s.take k.toNat)).getD (plcI (std.byte s k)).toNat 0+1)=_
  rw [hK,Int.toNat_natCast]
  exact (cl_suc q0 hlt).symm
 ·rw [tk_all (ge_of ‹_›)]
section
variable {c d:List Int}
theorem sub_get {k j:Nat} (hj:j<27):(subTo c d k).getD j 0=if j<k then c.getD j 0-d.getD j 0 else c.getD j 0:=by
 unfold subTo
 rw [List.getD_eq_getElem?_getD,List.getElem?_map,List.getElem?_range hj]
 rfl
theorem sub_len (k:Nat):(subTo c d k).length =27:=by simp [subTo]
theorem sub_zero (h:c.length=27):subTo c d 0=c:=by
 refine List.ext_getElem (by rw [sub_len,h]) fun j h1 h2=>?_
 have:=sub_get (c:=c) (d:=d) (k:=0) (j:=j) (by omega)
 rw [if_neg (by omega),List.getD_eq_getElem?_getD,List.getElem?_eq_getElem h1,List.getD_eq_getElem?_getD,List.getElem?_eq_getElem h2] at this
 simpa using this
theorem sub_suc {k:Nat} (hk:k<27):(subTo c d k).set k (c.getD k 0-d.getD k 0)=subTo c d (k+1):=by
 refine List.ext_getElem (by simp [sub_len]) fun j h1 h2=>?_
 rw [sub_len] at h2
 have e1:=sub_get (c:=c) (d:=d) (k:=k) (j:=j) h2
 have e2:=sub_get (c:=c) (d:=d) (k:=k+1) (j:=j) h2
 rw [List.getD_eq_getElem?_getD,List.getElem?_eq_getElem (by rw [sub_len];exact h2),Option.getD_some] at e1 e2
 rw [e2,List.getElem_set]
 split
 ·rename_i hh;subst hh;rw [if_pos (by omega)]
 ·rename_i hh
  rw [e1]
  by_cases h3:j<k
  ·rw [if_pos h3,if_pos (by omega)]
  ·rw [if_neg h3,if_neg (by omega)]
theorem less_at {k:Nat} (hk:k<27):std.get 0 (std.set (subTo c d k) k (std.sub (std.get 0 (subTo c d k) k) (std.get 0 d k))) k=c.getD k 0-d.getD k 0:=by
 show ((subTo c d k).set k ((subTo c d k).getD k 0-d.getD k 0)).getD k 0=_
 have:=sub_get (c:=c) (d:=d) (k:=k) (j:=k) hk
 rw [if_neg (by omega)] at this
 rw [this,List.getD_eq_getElem?_getD,List.getElem?_set,if_pos rfl,if_pos (by rw [sub_len];exact hk)]
 rfl
end
theorem less_lt {c d:List Int} {k:Int} (hk:0≤k∧k<27) (h:std.ltI (std.get 0 (std.set (subTo c d k.toNat) k (std.sub (std.get 0 (subTo c d k.toNat) k) (std.get 0 d k))) k) 0=true):c.getD k.toNat 0<d.getD k.toNat 0:=by
 have h1:=lt_of h
 have h2:=less_at (c:=c) (d:=d) (k:=k.toNat) (by omega)
 rw [Int.toNat_of_nonneg hk.1] at h2
 rw [h2] at h1
 omega
theorem less_ge {c d:List Int} {k:Int} (hk:0≤k∧k<27) (h:std.ltI (std.get 0 (std.set (subTo c d k.toNat) k (std.sub (std.get 0 (subTo c d k.toNat) k) (std.get 0 d k))) k) 0=false):d.getD k.toNat 0≤c.getD k.toNat 0:=by
 have h1:=ge_of h
 have h2:=less_at (c:=c) (d:=d) (k:=k.toNat) (by omega)
 rw [Int.toNat_of_nonneg hk.1] at h2
 rw [h2] at h1
 omega
theorem lessOk_no {c d:List Int} {k:Nat} (hk:k<27) (h:c.getD k 0<d.getD k 0):lessOk c d=false:=by
 unfold lessOk
 rw [List.all_eq_false]
 exact⟨k,List.mem_range.2 hk,by simp;simpa using h⟩
theorem less_no {c d:List Int} {k:Nat} (hk:k<27) (h:c.getD k 0<d.getD k 0):lessR c d=zeroC:=by
 unfold lessR
 rw [lessOk_no hk h];rfl
theorem lessOk_all {c d:List Int} (h : ∀j,j<27→d.getD j 0≤c.getD j 0):lessOk c d=true:=by
 unfold lessOk
 rw [List.all_eq_true]
 intro j hj
 exact decide_eq_true (h j (List.mem_range.1 hj))
theorem less_all {c d:List Int} (h : ∀j,j<27→d.getD j 0≤c.getD j 0):subTo c d 27=lessR c d:=by
 unfold lessR
 rw [lessOk_all h];rfl
theorem less_ct {c d:List Int} {m:Int} (hc:CtP c m) (hd:CtP d m):CtP (lessR c d) m:=by
 unfold lessR
 by_cases h:lessOk c d=true
 ·rw [if_pos h]
  have h0 : ∀j,j<27→d.getD j 0≤c.getD j 0:=fun j hj=>by
   unfold lessOk at h
   have:=List.all_eq_true.1 h j (List.mem_range.2 hj)
   simpa using this
  have hg : ∀j,(subTo c d 27).getD j 0=if j<27 then c.getD j 0-d.getD j 0 else 0:=fun j=>by
   by_cases hj:j<27
   ·rw [sub_get hj,if_pos hj];simp [hj]
   ·rw [if_neg hj,List.getD_eq_getElem?_getD,List.getElem?_eq_none (by rw [sub_len];omega)];rfl
  refine⟨sub_len 27,fun j=>?_,fun j=>?_⟩
  ·rw [hg];split
   ·have:=h0 j ‹_›;omega
   ·omega
  ·rw [hg]
   have h1:=hc.hi j;have h2:=hd.lo j;have h3:=hc.lo j
   split<;>omega
 ·rw [if_neg h]
  refine zero_ct.mono ?_
  have h1:=hc.lo 0;have h2:=hc.hi 0
  omega
def sp_i_counts_less (p:Pr):FSpec:=fsp (ac aCt (a1 aCt)) (fun (c,d)=>CtP c 1000000000∧CtP d 1000000000) (fun (c,d)=>.tup [.arr (.i .i64) 27 (lessR c d),.b (lessOk c d)])
theorem ok_i_counts_less:FOk Tryz.prog 210 (sp_i_counts_less std):=by
 refine FOk.go (c:=cx std [] [] 0) (cx_ok .nil .nil) mixed Tryz.func210 rfl rfl rfl (by kernel_rfl) ?_
 rintro ⟨c,d⟩ hp
 dsimp only at hp
 refine⟨rfl,?_⟩
 obtain⟨H,hH⟩ : ∃H:Hd (Int×List Int),H=⟨fun (k,L)=>0≤k∧k≤27∧L=subTo c d k.toNat∧∀j,j<k.toNat→d.getD j 0≤c.getD j 0,fun (k,L)=>(27-k).toNat,(· < ·)⟩:=⟨_,rfl⟩
 have hl : ∀m n,H.lt m n→m<n:=by subst hH;exact fun _ _ h=>h
 generalize hP:std=p,hB0:lessR=B0,hB1:lessOk=B1
 cbv
 repeat' first
  | (refine fun (_:Unit)=>?_;cbv)
  | (refine Or.inr ⟨10,[],[.s 9 (.i .i64),.o 0 [.i .i64]],[],[],H,rfl,hl,?_,fun ((k,L):Int×List Int) hk=>?_⟩<;>cbv)
  | (refine aI2 (fun h=>?_) (fun h=>?_)<;>cbv)
  | (refine aI2 ?_ ?_)
 all_goals subst hP hB0 hB1 hH
 all_goals clear hl
 all_goals try dsimp only at hk
 all_goals try dsimp only
 all_goals try exact fin
 ·exact⟨Int.le_refl 0,by decide,(sub_zero hp.1.len).symm,fun j hj=>by simp at hj⟩
 all_goals obtain⟨q0,q1,rfl,q3⟩:=hk
 all_goals have c1:=hp.1.lo k.toNat
 all_goals have c2:=hp.1.hi k.toNat
 all_goals have d1:=hp.2.lo k.toNat
 all_goals have d2:=hp.2.hi k.toNat
 all_goals try (have hlt:k<27:=lt_of ‹_›)
 all_goals try (have hg:=sub_get (c:=c) (d:=d) (k:=k.toNat) (j:=k.toNat) (by omega);rw [if_neg (by omega)] at hg)
 ·exact in64 (by show _≤(subTo c d k.toNat).getD k.toNat 0-d.getD k.toNat 0∧(subTo c d k.toNat).getD k.toNat 0-d.getD k.toNat 0≤_;omega)
 ·rw [less_no (k:=k.toNat) (by omega) (less_lt ⟨by omega,by omega⟩ ‹_›)];rfl
 ·exact lessOk_no (k:=k.toNat) (by omega) (less_lt ⟨by omega,by omega⟩ ‹_›)
 ·have h4:=less_ge (c:=c) (d:=d) (k:=k) ⟨q0,hlt⟩ (show std.ltI (std.get 0 (std.set (subTo c d k.toNat) k (std.sub (std.get 0 (subTo c d k.toNat) k) (std.get 0 d k))) k) 0=false by assumption)
  refine⟨by show 0≤k+1;omega,by show k+1≤27;omega,?_,fun j hj=>?_⟩
  ·show (subTo c d k.toNat).set k.toNat ((subTo c d k.toNat).getD k.toNat 0-d.getD k.toNat 0)=_
   rw [hg,k_suc q0]
   exact sub_suc (by omega)
  ·rw [k_suc q0] at hj
   by_cases hjk:j<k.toNat
   ·exact q3 j hjk
   ·rw [show j=k.toNat by omega];exact h4
 all_goals
  have hge:27≤k:=ge_of ‹_›
  have e:k.toNat=27:=by omega
  rw [e] at q3
 ·rw [e,less_all q3]
 ·exact lessOk_all q3
def sp_i_sorted (p:Pr):FSpec:=fsp (a1 aS) (fun s=>StP s) (fun s=>.s (pileL (countsL s)))
theorem ok_i_sorted:FOk Tryz.prog 69 (sp_i_sorted std):=by
 refine FOk.go (c:=cx std [(164,sp_i_countsOf std),(165,sp_pile std)] [] 0) (cx_ok (.cons ok_i_countsOf (.cons ok_pile .nil)) .nil) mixed Tryz.func69 rfl rfl rfl (by kernel_rfl) ?_
 rintro s hp
 refine⟨rfl,?_⟩
 unfold sp_i_countsOf sp_pile
 generalize hP:std=p,hB0:pileL=B0,hB1:countsL=B1
 cbv
 repeat' first
  | (refine fun (_:Unit)=>?_;cbv)
  | (refine aI2 (fun h=>?_) (fun h=>?_)<;>cbv)
  | (refine aI2 ?_ ?_)
  | (refine Or.inl (fun (_:Unit)=>?_);cbv)
 all_goals subst hP hB0 hB1
 all_goals try exact fin
 ·exact (counts_ct s).mono (by have:=hp.len;omega)
def sp_i_without (p:Pr):FSpec:=fsp (ac aS (a1 aS)) (fun (a,b)=>StP a∧StP b) (fun (a,b)=>.tup [.s (withoutS a b),.b (withoutB a b)])
theorem ok_i_without:FOk Tryz.prog 116 (sp_i_without std):=by
 refine FOk.go (c:=cx std [(164,sp_i_countsOf std),(210,sp_i_counts_less std),(165,sp_pile std)] [] 0) (cx_ok (.cons ok_i_countsOf (.cons ok_i_counts_less (.cons ok_pile .nil))) .nil) mixed Tryz.func116 rfl rfl rfl (by kernel_rfl) ?_
 rintro ⟨a,b⟩ hp
 dsimp only at hp
 refine⟨rfl,?_⟩
 unfold sp_i_countsOf sp_i_counts_less sp_pile
 generalize hP:std=p,hB0:withoutS=B0,hB1:withoutB=B1,hB2:pileL=B2,hB3:countsL=B3,hB4:lessR=B4,hB5:lessOk=B5
 cbv
 repeat' first
  | (refine fun (_:Unit)=>?_;cbv)
  | (refine aI2 (fun h=>?_) (fun h=>?_)<;>cbv)
  | (refine aI2 ?_ ?_)
  | (refine Or.inl (fun (_:Unit)=>?_);cbv)
 all_goals subst hP hB0 hB1 hB2 hB3 hB4 hB5
 all_goals try exact fin
 all_goals have ha:=(counts_ct a).mono (n:=1000000000) (by have:=hp.1.len;omega)
 all_goals have hb:=(counts_ct b).mono (n:=1000000000) (by have:=hp.2.len;omega)
 ·exact ha
 ·exact hb
 ·exact less_ct ha hb
structure LlP (s:List UInt8):Prop where
 lt:lettB s=true
 len:s.length≤1000000
theorem clb_suc {s:List UInt8} {k:Int} (h0:0≤k) (h:k<s.length):countsL ((s.take (k+1).toNat).map blankC)=incAt (countsL ((s.take k.toNat).map blankC)) (tileK (blankC (s.getD k.toNat 0))):=by
 rw [tk h0 h 0]
 simp [countsL]
theorem lett_at {s:List UInt8} {k:Int} (h:lettB s=true) (h0:0≤k) (h1:k<s.length):smallB (s.getD k.toNat 0)=true∨capB (s.getD k.toNat 0)=true:=by
 rw [List.getD_eq_getElem?_getD,List.getElem?_eq_getElem (by omega)]
 have:=List.all_eq_true.1 h _ (List.getElem_mem (l:=s) (n:=k.toNat) (by omega))
 simpa using this
theorem lett_tile {c:UInt8} (h:smallB c=true∨capB c=true) (hc:capB c=false):tileB c=true:=by
 have h1:=h.resolve_right (by rw [hc];simp)
 unfold tileB;rw [h1,Bool.or_true]
def sp_i_tilesOf (p:Pr):FSpec:=fsp (a1 aS) (fun s=>LlP s) (fun s=>.s (tilesP s))
theorem ok_i_tilesOf:FOk Tryz.prog 91 (sp_i_tilesOf std):=by
 refine FOk.go (c:=cx std [(188,sp_i_capital std),(189,sp_i_place std),(165,sp_pile std)] [] 0) (cx_ok (.cons ok_i_capital (.cons ok_i_place (.cons ok_pile .nil))) .nil) mixed Tryz.func91 rfl rfl rfl (by kernel_rfl) ?_
 rintro s hp
 refine⟨rfl,?_⟩
 unfold sp_i_capital sp_i_place sp_pile
 obtain⟨H,hH⟩ : ∃H:Hd (Int×List Int),H=⟨fun (k,L)=>0≤k∧k≤s.length∧L=countsL ((s.take k.toNat).map blankC),fun (k,L)=>(s.length-k).toNat,(· < ·)⟩:=⟨_,rfl⟩
 have hl : ∀m n,H.lt m n→m<n:=by subst hH;exact fun _ _ h=>h
 generalize hP:std=p,hB0:tilesP=B0,hB1:pileL=B1,hB2:plcI=B2,hB3:inR=B3
 cbv
 repeat' first
  | (refine fun (_:Unit)=>?_;cbv)
  | (refine Or.inr ⟨5,[],[.s 4 (.i .i64),.o 0 [.i .i64]],[],[],H,rfl,hl,?_,fun ((k,L):Int×List Int) hk=>?_⟩<;>cbv)
  | (refine aI2 (fun h=>?_) (fun h=>?_)<;>cbv)
  | (refine aI2 ?_ ?_)
 all_goals subst hP hB0 hB1 hB2 hB3 hH
 all_goals clear hl
 all_goals try dsimp only at hk
 all_goals try dsimp only
 all_goals try exact fin
 ·exact⟨Int.le_refl 0,Int.natCast_nonneg _,rfl⟩
 all_goals obtain⟨q0,q1,rfl⟩:=hk
 all_goals have q1:k≤(s.length:Int):=q1
 all_goals have hl:=hp.len
 all_goals have hC:=counts_ct ((s.take k.toNat).map blankC)
 all_goals have hC2:(((s.take k.toNat).map blankC).length : Int)≤s.length:=by rw [List.length_map,List.length_take];omega
 all_goals try (have hlt:k<(s.length:Int):=lt_of ‹_›)
 ·have h1:=hC.lo 0
  have h2:=hC.hi 0
  exact in64 (by show _≤(countsL ((s.take k.toNat).map blankC)).getD 0 0+1∧(countsL ((s.take k.toNat).map blankC)).getD 0 0+1≤_;omega)
 ·exact in64 (by show _≤k+1∧k+1≤_;omega)
 ·refine⟨by show 0≤k+1;omega,by show k+1≤(s.length:Int);omega,?_⟩
  have hc:capB (s.getD k.toNat 0)=true:=by rw [←cap_byte];assumption
  have hb:blankC (s.getD k.toNat 0)=63:=by unfold blankC;rw [if_pos hc]
  show (countsL ((s.take k.toNat).map blankC)).set 0 ((countsL ((s.take k.toNat).map blankC)).getD 0 0+1)=_
  show _=countsL ((s.take (k+1).toNat).map blankC)
  rw [clb_suc q0 hlt,hb];rfl
 all_goals try (have hc:capB (s.getD k.toNat 0)=false:=by rw [←cap_byte];assumption)
 all_goals try (have hb:blankC (s.getD k.toNat 0)=s.getD k.toNat 0:=by unfold blankC;rw [hc];rfl)
 all_goals try (have hT:=plc_K (lett_tile (lett_at hp.lt q0 hlt) hc);obtain⟨hK,hK2⟩:=hT;have hK:plcI (std.byte s k)=(tileK (s.getD k.toNat 0):Int):=hK)
 ·show 0≤plcI (std.byte s k)∧plcI (std.byte s k)<27
  omega
 ·show 0≤plcI (std.byte s k)∧plcI (std.byte s k)<27
  omega
 ·have h1:=hC.lo (plcI (std.byte s k)).toNat
  have h2:=hC.hi (plcI (std.byte s k)).toNat
  exact in64 (by show _≤(countsL ((s.take k.toNat).map blankC)).getD (plcI (std.byte s k)).toNat 0+1∧(countsL ((s.take k.toNat).map blankC)).getD (plcI (std.byte s k)).toNat 0+1≤_;omega)
 ·show 0≤plcI (std.byte s k)∧plcI (std.byte s k)<27
  omega
 ·show 0≤plcI (std.byte s k)∧plcI (std.byte s k)<27
  omega
 ·exact in64 (by show _≤k+1∧k+1≤_;omega)
 ·refine⟨by show 0≤k+1;omega,by show k+1≤(s.length:Int);omega,?_⟩
  show (countsL ((s.take k.toNat).map blankC)).set (plcI (std.byte s k)).toNat ((countsL ((s.take k.toNat).map blankC)).getD (plcI (std.byte s k)).toNat 0+1)=_
  rw [hK,Int.toNat_natCast]
  show _=countsL ((s.take (k+1).toNat).map blankC)
  rw [clb_suc q0 hlt,hb];rfl
 ·exact hC.mono (by omega)
 ·rw [tk_all (ge_of ‹_›)];rfl
section
variable {b:Bd} {q:Pl} {k:Int}
end
def sp_i_valueOf (p:Pr):FSpec:=fsp (ac (aA aTs) (a1 aC)) (fun (t,n)=>p.inK .u8 n∧TsOk t) (fun (t,n)=>.i .i64 (valT t (u8 n)))
theorem ok_i_valueOf:FOk Tryz.prog 252 (sp_i_valueOf std):=by
 refine FOk.go (c:=cx std [(247,sp_index std)] [] 0) (cx_ok (.cons ok_index .nil) .nil) mixed Tryz.func252 rfl rfl rfl (by kernel_rfl) ?_
 rintro ⟨t,n⟩ hp
 dsimp only at hp
 refine⟨rfl,?_⟩
 unfold sp_index
 generalize hP:std=p,hB0:findI=B0,hB1:valT=B1,hB2:u8=B2
 cbv
 repeat' first
  | (refine fun (_:Unit)=>?_;cbv)
  | (refine aI2 (fun h=>?_) (fun h=>?_)<;>cbv)
  | (refine aI2 ?_ ?_)
  | (refine Or.inl (fun (_:Unit)=>?_);cbv)
 all_goals subst hP hB0 hB1 hB2
 all_goals try exact fin
 ·have h1:0≤findI t.letters (u8 n):=by simpa using h
  have h2:=findI_K t.letters (u8 n)
  have h3:=hp.2.vals
  refine⟨h1,?_⟩
  show findI t.letters (u8 n)<((t.values.length:Nat):Int)
  rw [h2] at h1 ⊢
  split at h1<;>omega
 ·have h1:0≤findI t.letters (u8 n):=by simpa using h
  rw [valT_I,if_neg (by omega)];rfl
 ·have h1:findI t.letters (u8 n)<0:=by simpa using h
  rw [valT_I,if_pos h1]
def allTo (t:TS) (k:Nat):List UInt8:=List.replicate t.blanks.toNat 63++repT (t.letters.take k) (t.counts.take k)
structure TlP (t:TS):Prop where
 al:AllP t
 b0:0≤t.blanks
 lo : ∀k:Nat,0≤t.counts.getD k 0
theorem rep_one (c:UInt8) (n:Int):repS [c] n=List.replicate n.toNat c:=by
 unfold repS
 generalize n.toNat=m
 induction m with
 | zero=>rfl
 | succ m ih=>rw [List.replicate_succ,←ih];rfl
theorem sl_one {s:List UInt8} {k:Int} (h0:0≤k) (h:k<s.length):(s.take (k+1).toNat).drop k.toNat=[s.getD k.toNat 0]:=by
 rw [tk h0 h 0,List.drop_append_of_le_length (by rw [List.length_take];omega),List.drop_of_length_le (by rw [List.length_take];omega)]
 rfl
theorem repT_snoc : ∀(l:List UInt8) (c:List Int) (k:Nat),k<l.length→k<c.length→repT (l.take (k+1)) (c.take (k+1))=repT (l.take k) (c.take k)++List.replicate (c.getD k 0).toNat (l.getD k 0)
 | a::r,x::cs,0,_,_=>by simp [repT]
 | a::r,x::cs,k+1,h1,h2=>by
   have:=repT_snoc r cs k (by simpa using h1) (by simpa using h2)
   simp only [List.take_succ_cons,repT,List.getD_cons_succ,List.append_assoc] at this ⊢
   rw [this]
 | [],_,_,h,_=>by simp at h
 | _::_,[],_,_,h=>by simp at h
theorem all_suc {t:TS} {k:Int} (h0:0≤k) (h:k<t.counts.length) (h2:t.counts.length=t.letters.length):allTo t (k+1).toNat =allTo t k.toNat++List.replicate (t.counts.getD k.toNat 0).toNat (t.letters.getD k.toNat 0):=by
 unfold allTo
 rw [show (k+1).toNat =k.toNat+1 by omega,repT_snoc _ _ _ (by omega) (by omega),List.append_assoc]
theorem all_bd {t:TS} (h:TlP t) : ∀k:Nat,k≤t.counts.length→(allTo t k).length ≤4+20*k
 | 0,_=>by
   have:=h.al.bl
   unfold allTo
   simp [repT];omega
 | k+1,hk=>by
   have h1:=all_bd h k (by omega)
   have h2:=all_suc (t:=t) (k:=k) (by omega) (by omega) h.al.ok.cnts
   have h3:=h.al.hi k
   rw [show ((k:Int)+1).toNat =k+1 by omega,Int.toNat_natCast] at h2
   rw [h2,List.length_append,List.length_replicate]
   omega
def sp_i_allTiles (p:Pr):FSpec:=fsp (a1 (aA aTs)) (fun t=>TlP t) (fun t=>.s (allT t))
theorem ok_i_allTiles:FOk Tryz.prog 70 (sp_i_allTiles std):=by
 refine FOk.go (c:=cx std [(167,sp_repeat std)] [(166,sp_wStr std),(168,sp_strU std)] 0) (cx_ok (.cons ok_repeat .nil) (.cons ok_wStr (.cons ok_strU .nil))) mixed Tryz.func70 rfl rfl rfl (by kernel_rfl) ?_
 rintro t hp
 refine⟨rfl,?_⟩
 unfold sp_repeat sp_wStr sp_strU
 obtain⟨H,hH⟩ : ∃H:Hd (Int×List Int),H=⟨fun (k,L)=>0≤k∧k≤t.counts.length∧L=toBl (allTo t k.toNat),fun (k,L)=>(t.counts.length-k).toNat,(· < ·)⟩:=⟨_,rfl⟩
 have hl : ∀m n,H.lt m n→m<n:=by subst hH;exact fun _ _ h=>h
 generalize hP:std=p,hB0:allT=B0,hB1:repS=B1,hB2:allTo=B2
 cbv
 repeat' first
  | (refine fun (_:Unit)=>?_;cbv)
  | (refine Or.inr ⟨14,[],[.s 13 (.i .i64),.o 2 [.i .u8]],[.c 1 1],[],H,rfl,hl,?_,fun ((k,L):Int×List Int) hk=>?_⟩<;>cbv)
  | (refine aI2 (fun h=>?_) (fun h=>?_)<;>cbv)
  | (refine aI2 ?_ ?_)
 all_goals subst hP hB0 hB1 hB2 hH
 all_goals clear hl
 all_goals try dsimp only at hk
 all_goals try dsimp only
 all_goals try exact fin
 ·exact hp.b0
 ·have:=hp.al.bl;show t.blanks≤65536;omega
 ·exact ltM_of (by have:=hp.al.bl;show (repS [63] t.blanks).length ≤_;rw [rep_one,List.length_replicate];omega)
 ·refine⟨Int.le_refl 0,Int.natCast_nonneg _,?_⟩
  show toBl (repS [63] t.blanks)=_
  rw [rep_one];simp [allTo,repT]
 all_goals try obtain⟨q0,q1,rfl⟩:=hk
 all_goals try (have q1:k≤(t.counts.length:Int):=q1)
 all_goals have hc:=hp.al.ok.cnts
 all_goals have hll:=hp.al.ok.len
 all_goals try (have hlt:k<(t.counts.length:Int):=lt_of ‹_›)
 all_goals try (have hb:=all_bd hp k.toNat (by omega))
 all_goals try (have hlo:=hp.lo k.toNat;have hhi:=hp.al.hi k.toNat)
 ·exact in64 (by show _≤k+1∧k+1≤_;omega)
 ·show k+1≤(t.letters.length:Int);omega
 ·exact hlo
 ·show t.counts.getD k.toNat 0≤65536;omega
 ·show ((toBl (allTo t k.toNat)).length : Int)+((repS ((t.letters.take (k+1).toNat).drop k.toNat) (t.counts.getD k.toNat 0)).length : Int)≤_
  rw [sl_one q0 (by omega),rep_one,List.length_replicate,toB_len];omega
 ·exact in64 (by show _≤k+1∧k+1≤_;omega)
 ·refine⟨by show 0≤k+1;omega,by show k+1≤(t.counts.length:Int);omega,?_⟩
  show toBl (allTo t k.toNat)++toBl (repS ((t.letters.take (k+1).toNat).drop k.toNat) (t.counts.getD k.toNat 0))=_
  rw [sl_one q0 (by omega),rep_one]
  show _=toBl (allTo t (k+1).toNat)
  rw [all_suc q0 hlt hc]
  simp [toBl]
 ·intro hx
  unfold toBl at hx
  obtain⟨c, -,rfl⟩:=List.mem_map.1 hx
  have:=c.toNat_lt
  omega
 ·have hge:(t.counts.length:Int)≤k:=ge_of ‹_›
  show toSl (toBl (allTo t k.toNat))=_
  rw [toS_toB]
  unfold allTo allT
  rw [List.take_of_length_le (by omega),List.take_of_length_le (by omega)]
end Ax
namespace Ax
set_option maxRecDepth 100000
set_option maxHeartbeats 2000000
def aDir:Arg Bool:=⟨fun | .raw (.iface t (.agg ⟨[]⟩))=>if Nat.beq t 289 then some true else if Nat.beq t 290 then some false else none | _=>none,dirV,fun x a h=>by
 split at h
 ·split at h
  ·rename_i ht
   cases h
   rw [Nat.eq_of_beq_eq_true ht];rfl
  ·split at h
   ·rename_i ht
    cases h
    rw [Nat.eq_of_beq_eq_true ht];rfl
   ·cases h
 ·cases h⟩
theorem let_in {b:Bd} {r c:Int} (h:b.let_ r c=true):b.inB r c=true:=by
 cases hi:b.inB r c
 ·unfold Bd.let_ Bd.cell at h
  rw [hi] at h
  simp at h
 ·rfl
structure SqIn (b:Bd) (r c:Int):Prop where
 fit:b.Fit
 r:0≤r∧r≤14
 c:0≤c∧c≤14
theorem on_bd {b:Bd} {d:Bool} {r c n:Int} (h:SqIn b r c) (ho:onAt b d r c n=true) : -14≤n∧n≤14:=by
 have h1:=Fit_in h.fit (let_in ho)
 have h2:=h.r
 have h3:=h.c
 unfold sqAt at h1
 cases d
 ·simp at h1;omega
 ·simp at h1;omega
theorem bef_go {b:Bd} {d:Bool} {r c:Int} {f m:Nat} (h:onAt b d r c (-(m:Int)-1)=true):befN b d r c (f+1) m=befN b d r c f (m+1):=by rw [befN,if_pos h]
theorem bef_no {b:Bd} {d:Bool} {r c:Int} {f m:Nat} (h:onAt b d r c (-(m:Int)-1)=false):befN b d r c (f+1) m=m:=by rw [befN,if_neg (by rw [h];simp)]
theorem seq_go {b:Bd} {d:Bool} {r c n:Int} {f:Nat} (h:onAt b d r c n=true):seqGo b d r c (f+1) n=n::seqGo b d r c f (n+1):=by rw [seqGo,if_pos h]
theorem seq_no {b:Bd} {d:Bool} {r c n:Int} {f:Nat} (h:onAt b d r c n=false):seqGo b d r c f n=[]:=by
 cases f with
 | zero=>rfl
 | succ f=>rw [seqGo,if_neg (by rw [h];simp)]
def firQ (b:Bd) (d:Bool) (r c:Int):Int:= -(befN b d r c 16 0:Int)
def befQ (b:Bd) (d:Bool) (r c n:Int):Prop:=n≤0∧ -15≤n∧befN b d r c 16 0=befN b d r c (16+n).toNat (-n).toNat
def seqQ (b:Bd) (d:Bool) (r c n:Int) (L:List (Int×Int)):Prop:=firQ b d r c≤n∧n≤15∧seqL b d r c=L++(seqGo b d r c (32-(n-firQ b d r c).toNat) n).map (fun n=>sqAt d r c n)∧(L.length:Int)=n-firQ b d r c
section
variable {b:Bd} {d:Bool} {r c n:Int} {L:List (Int×Int)}
theorem bef_le (b:Bd) (d:Bool) (r c:Int) : ∀f m,befN b d r c f m≤m+f
 | 0,m=>Nat.le_refl _
 | f+1,m=>by
   rw [befN]
   split
   ·have:=bef_le b d r c f (m+1);omega
   ·omega
theorem fir_bd : -16≤firQ b d r c∧firQ b d r c≤0:=by
 have:=bef_le b d r c 16 0
 unfold firQ;omega
theorem bef_init:befQ b d r c 0:=⟨Int.le_refl 0,by decide,rfl⟩
theorem bef_step (hp:SqIn b r c) (hk:befQ b d r c n) (h:onAt b d r c (n-1)=true):befQ b d r c (n-1)∧(16+(n-1)).toNat < (16+n).toNat :=by
 obtain⟨h1,h2,h3⟩:=hk
 have h4:=on_bd hp h
 refine⟨⟨by omega,by omega,?_⟩,by omega⟩
 rw [h3,show (16+n).toNat =(16+(n-1)).toNat + 1 by omega,bef_go (by rw [show -((-n).toNat : Int)-1=n-1 by omega];exact h)]
 congr 1;omega
theorem bef_end (hk:befQ b d r c n) (h:onAt b d r c (n-1)=false):seqQ b d r c n []:=by
 obtain⟨h1,h2,h3⟩:=hk
 have e:=bef_no (b:=b) (d:=d) (r:=r) (c:=c) (f:=(15+n).toNat) (m:=(-n).toNat) (by rw [show -((-n).toNat : Int)-1=n-1 by omega];exact h)
 rw [show (16+n).toNat =(15+n).toNat + 1 by omega,e] at h3
 have h4:firQ b d r c=n:=by unfold firQ;rw [h3];omega
 refine⟨by omega,by omega,?_,by rw [h4];simp⟩
 rw [h4,show 32-(n-n).toNat =32 by omega]
 unfold seqL seqN
 rw [show -(befN b d r c 16 0:Int)=n from h4]
 rfl
theorem seq_step (hp:SqIn b r c) (hk:seqQ b d r c n L) (h:onAt b d r c n=true):seqQ b d r c (n+1) (L++[sqAt d r c n])∧(16-(n+1)).toNat < (16-n).toNat :=by
 obtain⟨h1,h2,h3,h4⟩:=hk
 have h5:=on_bd hp h
 have h6:=fir_bd (b:=b) (d:=d) (r:=r) (c:=c)
 refine⟨⟨by omega,by omega,?_,by rw [List.length_append,List.length_singleton];omega⟩,by omega⟩
 rw [h3,show 32-(n-firQ b d r c).toNat =(32-(n+1-firQ b d r c).toNat)+1 by omega,seq_go h,List.map_cons,List.append_assoc]
 rfl
theorem seq_end (hk:seqQ b d r c n L) (h:onAt b d r c n=false):L=seqL b d r c:=by
 obtain⟨h1,h2,h3,h4⟩:=hk
 rw [h3,seq_no h];simp
theorem seq_len (hk:seqQ b d r c n L):L.length≤32:=by
 obtain⟨h1,h2,h3,h4⟩:=hk
 have h6:=fir_bd (b:=b) (d:=d) (r:=r) (c:=c)
 omega
end
def sp_i_sequence (p:Pr):FSpec:=fsp (ac (aA aBd) (ac (aA aSq) (a1 aDir))) (fun (b,s,d)=>SqIn b s.1 s.2) (fun (b,s,d)=>.rsl [.i .i64,.i .i64] (seqL b d s.1 s.2))
def sp_i_sequence_o (p:Pr):FSpec:=fsp (ac (aA aBd) (ac (aA aSq) (a1 aDir))) (fun (b,s,d)=>SqIn b s.1 s.2) (fun (b,s,d)=>.osl 0) (fun (b,s,d)=>[(0,.own [.i .i64,.i .i64] (seqL b d s.1 s.2) 211)])
theorem ok_i_sequence_o:FOk Tryz.prog 304 (sp_i_sequence_o std):=by
 refine FOk.go (c:=cx std [(364,sp_i_right_at std),(362,sp_i_downwards_at std),(258,sp_i_Board_on std)] [] 0) (cx_ok (.cons ok_i_right_at (.cons ok_i_downwards_at (.cons ok_i_Board_on .nil))) .nil) mixed Tryz.func304 rfl rfl rfl (by kernel_rfl) ?_
 rintro ⟨b,s,d⟩ hp
 dsimp only at hp
 obtain⟨dd,hd⟩ : ∃x,x=d:=⟨_,rfl⟩
 cases d
 all_goals
  refine⟨rfl,?_⟩
  unfold sp_i_right_at sp_i_downwards_at sp_i_Board_on
  obtain⟨H,hH⟩ : ∃H:Hd (Int),H=⟨fun n=>befQ b dd s.1 s.2 n,fun n=>(16+n).toNat,(· < ·)⟩:=⟨_,rfl⟩
  have hl : ∀m n,H.lt m n→m<n:=by subst hH;exact fun _ _ h=>h
  obtain⟨H2,hH2⟩ : ∃H:Hd (Int×List (Int×Int)),H=⟨fun (n,L)=>seqQ b dd s.1 s.2 n L,fun (n,L)=>(16-n).toNat,(· < ·)⟩:=⟨_,rfl⟩
  have hl2 : ∀m n,H2.lt m n→m<n:=by subst hH2;exact fun _ _ h=>h
  generalize hP:std=p,hB0:Bd.let_=B0,hB1:seqL=B1
  cbv
  repeat' first
   | (refine fun (_:Unit)=>?_;cbv)
   | (refine Or.inr ⟨10,[],[.s 7 (.i .i64)],[],[],H,rfl,hl,?_,fun (n:Int) hk=>?_⟩<;>cbv)
   | (refine Or.inr ⟨24,[],[.s 9 (.i .i64),.o 2 [.i .i64,.i .i64]],[.s 8],[],H2,rfl,hl2,?_,fun ((n,L):Int×List (Int×Int)) hk2=>?_⟩<;>cbv)
   | (refine aI2 (fun h=>?_) (fun h=>?_)<;>cbv)
   | (refine aI2 ?_ ?_)
 all_goals subst hP hB0 hB1 hH hH2
 all_goals clear hl
 all_goals try dsimp only at hk
 all_goals clear hl2
 all_goals try dsimp only at hk2
 all_goals try dsimp only
 all_goals try exact fin
 all_goals subst hd
 all_goals have fb:=fir_bd (b:=b) (d:=false) (r:=s.1) (c:=s.2)
 all_goals have fb':=fir_bd (b:=b) (d:=true) (r:=s.1) (c:=s.2)
 all_goals have b1:=hp.r
 all_goals have b2:=hp.c
 ·exact bef_init
 ·obtain⟨a1,a2,a3⟩:=hk;exact in64 (by show _≤n-1∧n-1≤_;omega)
 ·obtain⟨a1,a2,a3⟩:=hk;exact in64 (by show _≤s.2+(n-1)∧s.2+(n-1)≤_;omega)
 ·obtain⟨a1,a2,a3⟩:=hk;exact in64 (by show _≤n-1∧n-1≤_;omega)
 ·exact (bef_step hp hk (show onAt b false s.1 s.2 (n-1)=true by assumption)).1
 ·exact (bef_step hp hk (show onAt b false s.1 s.2 (n-1)=true by assumption)).2
 ·exact bef_end hk (show onAt b false s.1 s.2 (n-1)=false by assumption)
 ·obtain⟨a1,a2,a3,a4⟩:=hk2;exact in64 (by show _≤s.2+n∧s.2+n≤_;omega)
 ·obtain⟨a1,a2,a3,a4⟩:=hk2;exact in64 (by show _≤s.2+n∧s.2+n≤_;omega)
 ·have:=seq_len hk2
  show (L.length:Int)+1≤_;omega
 ·obtain⟨a1,a2,a3,a4⟩:=hk2;exact in64 (by show _≤n+1∧n+1≤_;omega)
 ·exact (seq_step hp hk2 (show onAt b false s.1 s.2 n=true by assumption)).1
 ·exact (seq_step hp hk2 (show onAt b false s.1 s.2 n=true by assumption)).2
 ·rw [seq_end hk2 (show onAt b false s.1 s.2 n=false by assumption)]
 ·exact bef_init
 ·obtain⟨a1,a2,a3⟩:=hk;exact in64 (by show _≤n-1∧n-1≤_;omega)
 ·obtain⟨a1,a2,a3⟩:=hk;exact in64 (by show _≤s.1+(n-1)∧s.1+(n-1)≤_;omega)
 ·obtain⟨a1,a2,a3⟩:=hk;exact in64 (by show _≤n-1∧n-1≤_;omega)
 ·exact (bef_step hp hk (show onAt b true s.1 s.2 (n-1)=true by assumption)).1
 ·exact (bef_step hp hk (show onAt b true s.1 s.2 (n-1)=true by assumption)).2
 ·exact bef_end hk (show onAt b true s.1 s.2 (n-1)=false by assumption)
 ·obtain⟨a1,a2,a3,a4⟩:=hk2;exact in64 (by show _≤s.1+n∧s.1+n≤_;omega)
 ·obtain⟨a1,a2,a3,a4⟩:=hk2;exact in64 (by show _≤s.1+n∧s.1+n≤_;omega)
 ·have:=seq_len hk2
  show (L.length:Int)+1≤_;omega
 ·obtain⟨a1,a2,a3,a4⟩:=hk2;exact in64 (by show _≤n+1∧n+1≤_;omega)
 ·exact (seq_step hp hk2 (show onAt b true s.1 s.2 n=true by assumption)).1
 ·exact (seq_step hp hk2 (show onAt b true s.1 s.2 n=true by assumption)).2
 ·rw [seq_end hk2 (show onAt b true s.1 s.2 n=false by assumption)]
theorem ok_i_sequence:FOk Tryz.prog 304 (sp_i_sequence std):=FOk.frz ok_i_sequence_o fun ⟨b,s,d⟩=>⟨by simp [deep,deeps,AH.get],by simp [PV.idIn,idInL]⟩
end Ax
end Go.Proofs.YtjjonmhpgkahoaaGreatDoor
