/-
  A region that draws its order, the third form: an operation may yield a value that hangs on the world ("free"); S tells what is known of it; strings.Builder; piles of counts, all tiles, of the impl package; strings.Builder as the plain walker sees it: written, read; all tiles of a set.
  Conditions: the closed check regCkL of the region's own edges; none.
-/
import Derived.Test.YtghmphmbpdiflaaGreatDoorE08
import Derived.Test.YtghmphmbpdiflaaGreatDoorE29
import Derived.Lib.Builder
import Derived.Lib.UnsafeStr
import Derived.Lib.AppendStr
import Derived.Laws.Externs
import Derived.RegionTactic
import Derived.Laws.Rows
import Derived.Laws.Tables
set_option linter.unusedSimpArgs false
set_option linter.unusedVariables false
namespace Go.Proofs.YtghmphmbpdiflaaGreatDoor
namespace RegV
open RegP RegL
section
variable {P:Program} {ops:Array Oper} {Q:Exit→Act→World→Prop} {S:(Nat→Value)→(Nat→Bool)→World→Prop}
def sub (σ:Nat→Value) (i:Nat) (u:Value):Nat→Value:=fun j=>if j=i then u else σ j
end
open Go.RowKit in
section
open Go.RowKit
variable {W w1 w2:World} {fs:List (Nat×Nat)} {σ:Nat→Value} {L:Nat→Bool} {i n:Nat}
end
end RegV
end Go.Proofs.YtghmphmbpdiflaaGreatDoor
namespace Go.Proofs.YtghmphmbpdiflaaGreatDoor
open Go.RowKit RegP RegL RegV
set_option maxHeartbeats 1000000
set_option maxRecDepth 100000
theorem byteT:SlT Tryz.prog 22 5 (.int .u8 0) 1 1:=⟨Tryz.underlying22,by kernel_rfl,rfl,by decide⟩
theorem own_keep {w w':World} {base e size n:Nat} {v:Value} {xs:List Value} (h:w.ownsRow base e size v n xs) (hk : ∀k,v.ownBlock=some k→w'.heap[k]? =w.heap[k]?):w'.ownsRow base e size v n xs:=by
 refine⟨h.1,h.2.imp id ?_⟩
 rintro ⟨g,cap,cur,rfl,h1,h2,h3⟩
 exact⟨g,cap,cur,rfl,h1,(hk g rfl).trans h2,h3⟩
theorem own_far {w:World} {base e size n:Nat} {v:Value} {xs:List Value} (h:w.ownsRow base e size v n xs) {p:Addr} (hp:v.ownBlock≠some p.block) (u:Value):(w.setCell p u).ownsRow base e size v n xs:=
 own_keep h fun k hk=>Below.heap_setCell w p u k (fun e=>hp (by rw [←e];exact hk))
theorem Blk.new1 (w:World) (o:Obj) (t:TypeId) (cs:Array Value):Blk ((w.alloc o).alloc (.cells cs t)) (w.heap.size+1) t cs:=by
 have:=Blk.new (w.alloc o) t cs
 rwa [show (w.alloc o).heap.size =w.heap.size+1 by simp] at this
def BldAt (w:World) (g base:Nat) (p:Value) (l:Str):Prop:=base≤g∧∃v,Blk w g 175 #[p,v]∧w.ownsRow base 5 1 v l.length (l.map bv)∧(l=[]→v=.slice none 0 0)
def selfP (g:Nat):Value:=.pointer (some ⟨g,0,none⟩)
theorem Blk.shape {w:World} {g:Nat} {t:TypeId} {cs:Array Value} (h:Blk w g t cs):w.shape? g=some (t,cs.size):=by
 unfold Blk at h
 simp [World.shape?,h]
theorem copy_used (g:Nat) (w:World) (h0:w.cell? ⟨g,0,none⟩=some (.pointer (some ⟨g,0,none⟩))) :
 Calls Tryz.prog 201 #[.pointer (some ⟨g,0,none⟩)] w fun e w'=>e=.returned (.tuple #[])∧w=w':=by
 obtain⟨j,hj,_⟩:=Option.map_eq_some_iff.1 (show (Tryz.prog.info? 175).map (·.size)=some 2 by kernel_rfl)
 have hq:=fun w=>Lib.run_neq_ptr_same (P:=Tryz.prog) w ⟨g,0,none⟩ Tryz.underlying173 hj
 go_enter Tryz.func201,Tryz.ntmps201
 go_wp2_with (fail)
 go_end0
 exact⟨rfl,rfl⟩
theorem copy_fresh (g:Nat) (w:World) (v:Value) (hb:Blk w g 175 #[.pointer none,v]) :
 Calls Tryz.prog 201 #[.pointer (some ⟨g,0,none⟩)] w fun e w'=>e=.returned (.tuple #[])∧w'=w.setCell ⟨g,0,none⟩ (.pointer (some ⟨g,0,none⟩)):=by
 obtain⟨j,hj,hjs⟩:=Option.map_eq_some_iff.1 (show (Tryz.prog.info? 175).map (·.size)=some 2 by kernel_rfl)
 have h0:w.cell? ⟨g,0,none⟩=some (.pointer none):=hb.cell 0
 have hz:w.frozen? ⟨g,0,none⟩=false:=hb.frozen 0
 have hs:w.shape? g=some (175,2):=hb.shape
 have k1:=Lib.run_to_unsafe (P:=Tryz.prog) (dst:=260) w ⟨g,0,none⟩ Tryz.underlying173 Tryz.underlying260 hj (by rw [hjs];decide) hs (Nat.zero_lt_succ 1)
 have k2:=Lib.run_from_unsafe (P:=Tryz.prog) w ⟨g,0,none⟩ Tryz.underlying260 Tryz.underlying173 hj hs (by kernel_rfl)
 have k3 : ∀x:Value,(callFunc 238 #[x]).run Tryz.prog w=.ok (.value x) w:=fun x=>by
  rw [run_callFunc_extern Tryz.func238 (by kernel_rfl) (by kernel_rfl) (by kernel_rfl) (e:=Extern.AbiNoEscape.same) (by kernel_rfl)]
  rfl
 go_enter Tryz.func201,Tryz.ntmps201
 go_wp2_with (fail)
 go_end0
 exact⟨rfl,rfl⟩
theorem copyCheck_any (g base:Nat) (p:Value) (l:Str) (w:World) (hp:p=.pointer none∨p=selfP g) (h:BldAt w g base p l) :
 Calls Tryz.prog 201 #[.pointer (some ⟨g,0,none⟩)] w fun e w'=>e=.returned (.tuple #[])∧BldAt w' g base (selfP g) l∧Below base w w':=by
 obtain⟨hbg,v,hb,hown,hnil⟩:=h
 rcases hp with rfl | rfl
 ·refine (copy_fresh g w v hb).mono ?_
  rintro e w' ⟨rfl,rfl⟩
  exact⟨rfl,⟨hbg,v,hb.set_ 0 _,own_far hown (own_blk_ne hown hb (by decide)) _,hnil⟩,(Below.refl _ _).setCell hbg _⟩
 ·refine (copy_used g w (hb.cell 0)).mono ?_
  rintro e w' ⟨rfl,rfl⟩
  exact⟨rfl,⟨hbg,v,hb,hown,hnil⟩,Below.refl _ _⟩
theorem WriteByte_any (g base:Nat) (p:Value) (l:Str) (c:UInt8) (w:World) (hp:p=.pointer none∨p=selfP g) (h:BldAt w g base p l) (hl:l.length≤2 ^ 37) (hbw:base≤w.heap.size) :
 Calls Tryz.prog 199 #[.pointer (some ⟨g,0,none⟩),bv c] w fun e w'=>e=.returned .nilIface ∧BldAt w' g base (selfP g) (l++[c])∧Below base w w':=by
 have kc:=fun w h=>copyCheck_any g base p l w hp h
 go_enter Tryz.func199,Tryz.ntmps199
 go_wp2_with (first
  | (go_at_call 201;refine (kc _ h).mono ?_;rintro e w1 ⟨rfl,⟨hbg,v,hb,hown,_⟩,hb1⟩
     obtain⟨A1,n1,rfl,_,_⟩:=own_sl hown
     have c1:w1.cell? ⟨g,1,none⟩=some (.slice A1 l.length n1):=hb.cell 1
     have hz1:=hb1.size)
  | (at_builtin;refine wpList_app byteT rfl (.tmp 11) (.tmp 13) rfl _ l.length (l.map bv) rfl base hown [bv c] rfl (by simp [Value.oneCell']) rfl (by omega) (by omega) (by omega) ?_;intro v2 w2 own2 hg2 hat2
     have hne:=own_blk_ne hown hb (by decide)
     have hB2:=hb.grown hg2 (fun h=>hne h.symm)
     have d1:w2.cell? ⟨g,1,none⟩=some (.slice A1 l.length n1):=hB2.cell 1
     have f1:w2.frozen? ⟨g,1,none⟩=false:=hB2.frozen 1
     have hb2:=Below.own hb1 (Nat.le_trans hbw hz1) hown (Nat.le_refl _) hg2
     obtain⟨A2,c2,rfl,_,_⟩:=own_sl own2))
 go_ret
 exact⟨rfl,⟨hbg,.slice A2 (l.length+1) c2,hB2.set_ 1 _,own_cast (own_far own2 (own_blk_ne (t:=175) own2 hB2 (by decide)) _) (by simp) (by simp),fun h=>by simp at h⟩,hb2.setCell hbg _⟩
theorem String_any (g base:Nat) (p:Value) (l:Str) (w:World) (h:BldAt w g base p l) :
 Calls Tryz.prog 140 #[.pointer (some ⟨g,0,none⟩)] w fun e w'=>e=.returned (sv l)∧Below base w w':=by
 obtain⟨hbg,v,hb,hown,hnil⟩:=h
 rcases hown.2 with ⟨rfl,h0⟩ | ⟨gv,cap,cur,rfl,hgv,hcur,hlc,hcm,hcs,htk⟩
 ·obtain rfl:l=[]:=List.eq_nil_of_length_eq_zero h0
  have c1:w.drew.cell? ⟨g,1,none⟩=some (.slice none 0 0):=hb.drew.cell 1
  have k1:=fun w=>Lib.run_unsafeString_none (P:=Tryz.prog) w 228 3 9 none
  have k2:(Builtin.unsafeSliceData_ #[22] 228 #[.slice none 0 0]).run Tryz.prog w.drew=.ok (.pointer none) w.drew:=rfl
  clear hown h0
  go_enter Tryz.func140,Tryz.ntmps140
  go_wp2_with (fail)
  go_region
  all_goals (go_wp2;go_ret;exact⟨rfl,(Below.refl _ _).drew⟩)
 ·have c1:w.drew.cell? ⟨g,1,none⟩=some (.slice (some ⟨gv,0,none⟩) l.length cap):=hb.drew.cell 1
  have hBc:Blk w gv 5 cur:=hcur
  by_cases hl:l=[]
  ·have:=hnil hl
   cases this
  ·have k2:(Builtin.unsafeSliceData_ #[22] 228 #[.slice (some ⟨gv,0,none⟩) l.length cap]).run Tryz.prog w.drew=.ok (.pointer (some ⟨gv,0,none⟩)) w.drew:=Lib.run_unsafeSliceData_row _ _ _ _ _ _ (by have:=List.length_pos_iff.2 hl;omega)
   have k3:(Builtin.unsafeString_ #[228,3] 9 #[.pointer (some ⟨gv,0,none⟩),.int .i64 l.length]).run Tryz.prog w.drew=.ok (.string ⟨l.toArray⟩) (w.drew.freeze ⟨gv,0,none⟩ l.length):=by
    refine Lib.run_unsafeString_row w.drew 228 3 9 5 Tryz.underlying228 (by kernel_rfl) gv cur.size hBc.drew.shape l hl (by omega) (by unfold maxLen at hcm;omega) ?_
    intro j x hx
    exact hown.cells (g:=gv) rfl j (.int .u8 x.toNat) (by rw [List.getElem?_map,hx];rfl)
   have hl':=Lib.hid hl
   clear hown hlc hcs htk hl
   go_enter Tryz.func140,Tryz.ntmps140
   go_wp2_with (fail)
   go_region
   all_goals (go_wp2;go_ret;exact⟨rfl,Lib.below_freeze (Below.refl _ _).drew (p:=⟨gv,0,none⟩) hgv _⟩)
def cntA (c:List Int):Array Value:=(c.map (Value.int .i64)).toArray
theorem cntA_size (c:List Int):(cntA c).size =c.length:=by simp [cntA]
theorem cntA_get (c:List Int) (k:Nat) (h:k<c.length):(cntA c)[k]? =some (.int .i64 (c.getD k 0)):=by
 simp [cntA,List.getD_eq_getElem?_getD,List.getElem?_eq_getElem h]
theorem run_index_cnt (c:List Int) (k:Nat) (w:World) (h:k<27) (hc:c.length=27) :
 (Instr.index 171 (.agg (cntA c)) (.int .i64 (k:Int))).run Tryz.prog w=.ok (.int .i64 (c.getD k 0)) w:=by
 have hg:=cntA_get c k (by omega)
 have hu:Tryz.prog.underlying 171=some (.array 27 3):=Tryz.underlying171
 have hagg : ∀w,(isAgg 3).run Tryz.prog w=.ok false w:=fun w=>by kernel_rfl
 have hsz : ∀w,(Go.sizeOf 3).run Tryz.prog w=.ok 1 w:=fun w=>by kernel_rfl
 simp [Instr.index,asIntOf,run_underlying hu,hsz,hagg,hg,part,h]
theorem tileC_nat (k:Nat) (h:k<27) (h0:k≠0):((tileC k).toNat : Int)=96+k:=by
 unfold tileC
 rw [if_neg h0,UInt8.toNat_ofNat']
 omega
theorem tileAt_any (k:Nat) (w:World) (h:k<27) :
 Calls Tryz.prog 200 #[.int .i64 (k:Int)] w fun e w'=>e=.returned (bv (tileC k))∧w=w':=by
 by_cases h0:k=0
 ·subst h0
  go_enter Tryz.func200,Tryz.ntmps200
  go_wp2_with (fail)
  go_ret
  exact⟨rfl,rfl⟩
 ·have h0':((k:Int)==0)=false:=by simp [h0]
  have hn:=Lib.hid (tileC_nat k h h0)
  have hk:(k:Int)<27:=by omega
  have hk1:(1:Int)≤(k:Int):=by omega
  clear h h0
  go_enter Tryz.func200,Tryz.ntmps200
  go_wp2_with (fail)
  go_ret
  exact⟨congrArg (fun n=>Ending.returned (.int .u8 n)) (by rw [hn.out];omega),rfl⟩
theorem pileTo_succ (c:List Int) (k:Nat):pileTo c (k+1)=pileTo c k++List.replicate (c.getD k 0).toNat (tileC k):=by
 simp [pileTo,List.range_succ]
theorem pileTo_le (c:List Int) (k:Nat) : ∀d,(pileTo c k).length ≤(pileTo c (k+d)).length
 | 0=>Nat.le_refl _
 | d+1=>by
   have:=pileTo_le c k d
   rw [show k+(d+1)=(k+d)+1 by omega,pileTo_succ,List.length_append];omega
theorem pile_any (c:List Int) (w:World) (hc:c.length=27) (hnn : ∀j,0≤c.getD j 0) (hs:(pileL c).length ≤2 ^ 37) :
 Calls Tryz.prog 137 #[.agg (cntA c)] w fun e w'=>e=.returned (sv (pileL c))∧Below w.heap.size w w':=by
 have hidx:=fun (k:Nat) (h:k<27) (w:World)=>run_index_cnt c k w h hc
 have hsz:(cntA c).size =27:=by rw [cntA_size,hc]
 obtain⟨X,hX⟩ : ∃X,X=cntA c:=⟨_,rfl⟩
 have hPL:Hid (pileL c=pileTo c 27):=Lib.hid rfl
 obtain⟨PL,hPLe⟩ : ∃PL,PL=pileL c:=⟨_,rfl⟩
 rw [←hPLe] at hPL hs ⊢
 rw [←hX] at hidx hsz ⊢
 clear hX hPLe
 have hs27:=Lib.hid hsz
 have hidx':=Lib.hid hidx
 clear hsz hidx hc
 go_enter Tryz.func137,Tryz.ntmps137
 go_wp2_with (refine wpList_load_row rfl 171 (.tmp 1) rfl w.heap.size rfl 171 X (0,0) _ ((Blk.new w 171 X).alloc _) Tryz.underlying171 rfl (by rw [hs27.out];kernel_rfl) ?_)
 have hB0:BldAt ((w.alloc (.cells X 171)).alloc (.cells #[.pointer none,.slice none 0 0] 175)) (w.heap.size+1) w.heap.size (.pointer none) []:=
  ⟨by omega,_,Blk.new1 w _ _ _,⟨rfl,.inl ⟨rfl,rfl⟩⟩,fun _=>rfl⟩
 have hb0:Below w.heap.size w ((w.alloc (.cells X 171)).alloc (.cells #[.pointer none,.slice none 0 0] 175)):=((Below.refl _ _).alloc (Nat.le_refl _) _).alloc (by simp) _
 have hn':=Lib.hid hnn
 clear hnn
 go_loopw [7] (fun i wr=>∃(k:Nat) (p:Value),k≤27∧i=.int .i64 k∧Hid (p=.pointer none∨p=selfP (w.heap.size+1))∧BldAt wr (w.heap.size+1) w.heap.size p (pileTo c k)∧Below w.heap.size w wr) (fun i _=>27-(intOf i).toNat)
 case atStart=>exact⟨0,_,by omega,rfl,.inl rfl,hB0,hb0⟩
 case round=>
  clear hB0 hb0
  obtain⟨k,p,hk,rfl,hp,hB,hb⟩:=hrel
  by_cases hlt:k<27
  ·have hkk:(k:Int)<27:=by omega
   have hk0:(0:Int)≤(k:Int):=by omega
   have hix:=hidx'.out k hlt
   have hsucc:=pileTo_succ c k
   have hle:=pileTo_le c (k+1) (26-k)
   rw [show k+1+(26-k)=27 by omega,←hPL.out] at hle
   have hsl:Hid ((pileTo c (k+1)).length =(pileTo c k).length + (c.getD k 0).toNat):=Lib.hid (by rw [hsucc,List.length_append,List.length_replicate])
   have hsc:=Lib.hid hsucc
   obtain⟨n,hn⟩ : ∃n:Nat,c.getD k 0=(n:Int):=⟨(c.getD k 0).toNat,by have:=hn'.out k;omega⟩
   have hsc2:Hid (pileTo c (k+1)=pileTo c k++List.replicate n (tileC k)):=Lib.hid (by rw [hsc.out,hn];simp)
   have hlen:(pileTo c k).length + n≤137438953472:=by have h:=hsl.out;rw [hn] at h;simp at h;omega
   rw [hn] at hix
   have kt:=fun w=>tileAt_any k w hlt
   obtain⟨P0,hP0⟩ : ∃P0,P0=pileTo c k:=⟨_,rfl⟩
   rw [←hP0] at hB hsc2 hlen
   obtain⟨t,ht⟩ : ∃t,t=tileC k:=⟨_,rfl⟩
   rw [←ht] at kt hsc2
   clear hsucc hsc hsl hn hP0 ht hle
   go_wp2_with (fail)
   obtain⟨wo,rfl⟩ : ∃wo:World,wo=wr:=⟨_,rfl⟩
   go_loopw [5] (fun i wr=>∃(m:Nat) (p:Value),m≤n∧i=.int .i64 m∧Hid (p=.pointer none∨p=selfP (w.heap.size+1))∧BldAt wr (w.heap.size+1) w.heap.size p (P0++List.replicate (n-m) t)∧Below w.heap.size w wr) (fun i _=>(intOf i).toNat)
   case atStart=>exact⟨n,p,Nat.le_refl _,rfl,hp,by simpa using hB,hb⟩
   case round=>
    clear hB hb hp
    obtain⟨m,p,hm,rfl,hp,hB,hb⟩:=hrel
    by_cases hm0:0<m
    ·have hm1:(0:Int)<(m:Int):=by omega
     have hln:(P0++List.replicate (n-m) t).length ≤2 ^ 37:=by simp;omega
     have hstep:Hid (P0++List.replicate (n-(m-1)) t=(P0++List.replicate (n-m) t)++[t]):=Lib.hid (by rw [show n-(m-1)=(n-m)+1 by omega,List.replicate_succ',List.append_assoc])
     have hz:=hb.size
     have hsub:Hid ((m:Int)-1=((m-1:Nat):Int)):=Lib.hid (by omega)
     obtain⟨L,hL⟩ : ∃L,L=P0++List.replicate (n-m) t:=⟨_,rfl⟩
     rw [←hL] at hB hln hstep
     clear hL
     go_wp2_with (first
      | (go_at_call 200;refine (kt _).mono ?_;rintro e w' ⟨rfl,rfl⟩)
      | (go_at_call 199;refine (WriteByte_any (w.heap.size+1) w.heap.size p L t _ hp.out hB hln hz).mono ?_;rintro e w2 ⟨rfl,hB2,hb2⟩))
     go_roundw
     case rel=>exact⟨m-1,_,by omega,by rw [hsub.out],.inr rfl,by rw [hstep.out];exact hB2,hb.trans hb2⟩
     case measure=>simp [intOf];omega
    ·obtain rfl:m=0:=by omega
     go_wp2_with (fail)
     go_roundw
     case rel=>exact⟨k+1,p,by omega,by go_num,hp,by rw [hsc2.out];simpa using hB,hb⟩
     case measure=>simp [intOf];omega
  ·obtain rfl:k=27:=by omega
   rw [←hPL.out] at hB
   go_wp2_with (go_at_call 140;refine (String_any (w.heap.size+1) w.heap.size p PL _ hB).mono ?_;rintro e w2 ⟨rfl,hb2⟩)
   go_ret
   exact⟨rfl,hb.trans hb2⟩
end Go.Proofs.YtghmphmbpdiflaaGreatDoor
namespace Go.Proofs.YtghmphmbpdiflaaGreatDoor
open Go.RowKit
set_option maxHeartbeats 2000000
set_option maxRecDepth 100000
theorem string_row (g gv cap:Nat) (p:Value) (l:List UInt8) (cur:Array Value) (w:World) (hb:Blk w g 175 #[p,.slice (some ⟨gv,0,none⟩) l.length cap]) (hBc:Blk w gv 5 cur) (hl:l≠[]) (hc:l.length≤cap) (hcm:cap≤maxLen) (hcs:cur.size=cap)
 (hat : ∀j x,l[j]? =some x→w.cell? ⟨gv,j,none⟩=some (.int .u8 x.toNat)) :
 Calls Tryz.prog 140 #[.pointer (some ⟨g,0,none⟩)] w fun e w'=>e=.returned (.string ⟨l.toArray⟩)∧w'=w.drew.freeze ⟨gv,0,none⟩ l.length:=by
 have c1:w.drew.cell? ⟨g,1,none⟩=some (.slice (some ⟨gv,0,none⟩) l.length cap):=hb.drew.cell 1
 have k2:(Builtin.unsafeSliceData_ #[22] 228 #[.slice (some ⟨gv,0,none⟩) l.length cap]).run Tryz.prog w.drew=.ok (.pointer (some ⟨gv,0,none⟩)) w.drew:=Lib.run_unsafeSliceData_row _ _ _ _ _ _ (by have:=List.length_pos_iff.2 hl;omega)
 have k3:(Builtin.unsafeString_ #[228,3] 9 #[.pointer (some ⟨gv,0,none⟩),.int .i64 l.length]).run Tryz.prog w.drew=.ok (.string ⟨l.toArray⟩) (w.drew.freeze ⟨gv,0,none⟩ l.length):=by
  refine Lib.run_unsafeString_row w.drew 228 3 9 5 Tryz.underlying228 (by kernel_rfl) gv cur.size hBc.drew.shape l hl (by omega) (by unfold maxLen at hcm;omega) ?_
  intro j x hx
  have hadd:(⟨gv,0,none⟩:Addr).add j=⟨gv,j,none⟩:=by unfold Addr.add;split<;>simp_all
  rw [hadd]
  exact hat j x hx
 have hl':=Lib.hid hl
 clear hc hcm hcs hl hat
 go_enter Tryz.func140,Tryz.ntmps140
 go_wp2_with (fail)
 go_region
 all_goals (go_wp2;go_ret;exact⟨rfl,rfl⟩)
namespace Ax
def blF:AH:=[(0,.cells [.nilp,.esl] 175)]
def blH:AH:=[(0,.cells [.ptr 0 0,.esl] 175)]
def blU (L:List Int):AH:=[(0,.cells [.ptr 0 0,.osl 1] 175),(1,.own [.i .u8] L 5)]
def rdF {β:Type} (B:Args β):AH→List PV→Option (Unit×β)
 | [(0,.cells [.nilp,.esl] t)],.ptr 0 0::r=>if Nat.beq t 175 then both' (some ()) (B.rd r) else none
 | _,_=>none
def mBF {β:Type} (B:Args β):MArgs (Unit×β):=⟨rdF B,fun _=>blF,fun a=>.ptr 0 0::B.enc a.2,fun H l a h=>by
 unfold rdF at h
 split at h
 ·split at h
  ·rename_i ht
   obtain⟨-,h2⟩:=both'_ok h
   exact⟨by rw [Nat.eq_of_beq_eq_true ht];rfl,by rw [B.ok _ _ h2]⟩
  ·cases h
 ·cases h⟩
def rdU {β:Type} (B:Args β):AH→List PV→Option (List Int×β)
 | [(0,.cells [.ptr 0 0,.osl 1] t),(1,.own [.i .u8] L u)],.ptr 0 0::r=>if Nat.beq t 175&&Nat.beq u 5 then both' (some L) (B.rd r) else none
 | _,_=>none
def mBU {β:Type} (B:Args β):MArgs (List Int×β):=⟨rdU B,fun a=>blU a.1,fun a=>.ptr 0 0::B.enc a.2,fun H l a h=>by
 unfold rdU at h
 split at h
 ·split at h
  ·rename_i ht
   rw [Bool.and_eq_true] at ht
   obtain⟨h1,h2⟩:=both'_ok h
   cases h1
   exact⟨by rw [Nat.eq_of_beq_eq_true ht.1,Nat.eq_of_beq_eq_true ht.2];rfl,by rw [B.ok _ _ h2]⟩
  ·cases h
 ·cases h⟩
theorem AH_one {k:Nat} {o:Ob} {j:Nat} {o':Ob} (h:AH.get [(k,o)] j=some o'):j=k∧o'=o:=by
 unfold AH.get at h
 split at h
 ·rename_i hk;exact⟨(by simpa using hk:k=j).symm,by cases h;rfl⟩
 ·cases h
theorem cells_at {w:World} {e:Env} {id:Nat} {l:List PV} {ty:TypeId} (h:OR w e id (.cells l ty)) : ∃b vs,e.adr id=some ⟨b,0,none⟩∧¬e.fz b∧w.heap[b]? =some (.cells vs ty (0,0))∧Rs w e l vs.toList:=by
 unfold OR at h;exact h
def sp_copyF (p:Pr):MSpec:=msp (mBF a0) (fun _=>True) (fun _=>.tup []) fun _=>blH
def sp_copyU (p:Pr):MSpec:=msp (mBU a0) (fun _=>True) (fun _=>.tup []) fun _=>[]
theorem ok_copyF:MOk Tryz.prog 201 (sp_copyF std):=by
 refine⟨⟨_,Tryz.func201,rfl,rfl⟩,fun H args out hs hp w e vals hz hob hon hlv hbd hdis hl=>?_⟩
 unfold sp_copyF msp at hs
 split at hs
 ·rename_i a ha
  cases hs
  obtain⟨rfl,rfl⟩:=(mBF a0).ok _ _ _ ha
  obtain⟨hO,hn0⟩:=hob 0 _ (show AH.get blF 0=some _ from rfl)
  obtain⟨b,vs,h1,h2,h3,h4⟩:=cells_at hO
  obtain⟨x,y,h5,h6,h7⟩:=Rs2 h4
  have h6:x=.pointer none:=by unfold R at h6;exact h6
  have h7:y=.slice none 0 0:=by unfold R at h7;exact h7
  subst h6 h7
  obtain⟨u,hv,h8⟩:=Rs1 hl
  rw [arr_of hv]
  unfold R at h8
  obtain⟨-,b',h9,rfl⟩:=h8
  rw [h1] at h9
  cases h9
  have hB:Blk w b 175 #[.pointer none,.slice none 0 0]:=by unfold Blk;rw [h3,arr_of h5]
  refine (copy_fresh b w _ hB).mono ?_
  rintro en w' ⟨rfl,rfl⟩
  have hB':=hB.set_ 0 (.pointer (some ⟨b,0,none⟩))
  refine⟨_,e,rfl,by unfold R;exact⟨#[],rfl,by unfold Rs;rfl⟩,.refl e,.of fun _ h=>h,?_,fun k hk=>.inl hk,fun k hk=>.inl hk,fun k hk=>.inl hk,fun k _ _ h1 h2=>absurd h1 h2,⟨rfl,rfl,rfl,by rw [World.size_setCell];exact Nat.le_refl _,fun j _ hM=>heap_setCell_other w _ j _ fun hj=>hM ⟨0,(hlv 0).2 (Nat.zero_lt_succ _),rfl,_,h1,hj.symm⟩⟩⟩
  intro k o hk
  obtain⟨rfl,rfl⟩:=AH_one hk
  refine⟨?_,hn0,fun _=>(hlv 0).2 (Nat.zero_lt_succ _)⟩
  unfold OR
  refine⟨b,_,h1,h2,hB',?_⟩
  simp [Rs,R,h1,hn0]
 ·cases hs
theorem ok_copyU:MOk Tryz.prog 201 (sp_copyU std):=by
 refine⟨⟨_,Tryz.func201,rfl,rfl⟩,fun H args out hs hp w e vals hz hob hon hlv hbd hdis hl=>?_⟩
 unfold sp_copyU msp at hs
 split at hs
 ·rename_i a ha
  cases hs
  obtain⟨rfl,rfl⟩:=(mBU a0).ok _ _ _ ha
  obtain⟨hO,hn0⟩:=hob 0 _ (show AH.get (blU a.1) 0=some _ from rfl)
  obtain⟨b,vs,h1,h2,h3,h4⟩:=cells_at hO
  obtain⟨x,y,h5,h6,h7⟩:=Rs2 h4
  have h6:x=.pointer (some ⟨b,0,none⟩):=by
   unfold R at h6
   obtain⟨-,b',q1,q2⟩:=h6
   rw [h1] at q1;cases q1;exact q2
  subst h6
  obtain⟨u,hv,h8⟩:=Rs1 hl
  rw [arr_of hv]
  unfold R at h8
  obtain⟨-,b',h9,rfl⟩:=h8
  rw [h1] at h9
  cases h9
  have hB:Blk w b 175 #[.pointer (some ⟨b,0,none⟩),y]:=by unfold Blk;rw [h3,arr_of h5]
  refine (copy_used b w (hB.cell 0)).mono ?_
  rintro en w' ⟨rfl,rfl⟩
  exact⟨_,e,rfl,by unfold R;exact⟨#[],rfl,by unfold Rs;rfl⟩,.refl e,.of fun _ h=>h,fun k o hk=>by simp [AH.get] at hk,fun k hk=>.inl hk,fun k hk=>.inl hk,fun k hk=>.inl hk,fun k _ _ h1 h2=>absurd h1 h2,.refl _ _⟩
 ·cases hs
def sp_copy (p:Pr):MSpec:=MSpec.or (msp (mBF a0) (fun _=>True) (fun _=>.tup []) fun _=>blH) (msp (mBU a0) (fun _=>True) (fun _=>.tup []) fun _=>[])
theorem ok_copy:MOk Tryz.prog 201 (sp_copy std):=MOk.or ok_copyF ok_copyU
def sp_strU (p:Pr):MSpec:=msp (mBU a0) (fun (L,_)=>∀x∈L,0≤x∧x≤255) (fun (L,_)=>.s (p.toS L)) fun _=>[(1,.gone)]
theorem toB_toS {L:List Int} (h : ∀x∈L,0≤x∧x≤255):toBl (toSl L)=L:=by
 unfold toBl toSl
 rw [List.map_map]
 conv=>rhs;rw [←List.map_id L]
 refine List.map_congr_left fun x hx=>?_
 have:=h x hx
 show ((UInt8.ofNat x.toNat).toNat : Int)=x
 rw [UInt8.toNat_ofNat']
 omega
theorem freeze_other (w:World) (p:Addr) (n k:Nat) (h:k≠p.block):(w.freeze p n).heap[k]? =w.heap[k]? :=by
 unfold World.freeze
 split
 ·rfl
 ·simp only [Array.getElem?_modify]
  rw [if_neg (by omega)]
theorem ok_strU:MOk Tryz.prog 140 (sp_strU std):=by
 refine⟨⟨_,Tryz.func140,rfl,rfl⟩,fun H args out hs hp w e vals hz hob hon hlv hbd hdis hl=>?_⟩
 unfold sp_strU msp at hs
 split at hs
 ·rename_i a ha
  cases hs
  obtain⟨rfl,rfl⟩:=(mBU a0).ok _ _ _ ha
  obtain⟨L,u0⟩:=a
  have hL : ∀x∈L,0≤x∧x≤255:=hp _ (by simp)
  obtain⟨hO,hn0⟩:=hob 0 _ (show AH.get (blU L) 0=some _ from rfl)
  obtain⟨hO1,hn1⟩:=hob 1 _ (show AH.get (blU L) 1=some (.own [.i .u8] L 5) from rfl)
  obtain⟨b,vs,h1,h2,h3,h4⟩:=cells_at hO
  obtain⟨x,y,h5,h6,h7⟩:=Rs2 h4
  have h7:y=.slice (e.adr 1) (e.len 1) (e.cap 1):=by unfold R at h7;exact h7.2
  subst h7
  obtain⟨u,hv,h8⟩:=Rs1 hl
  rw [arr_of hv]
  unfold R at h8
  obtain⟨-,b',h9,rfl⟩:=h8
  rw [h1] at h9
  cases h9
  have hB:Blk w b 175 #[x,.slice (e.adr 1) (e.len 1) (e.cap 1)]:=by unfold Blk;rw [h3,arr_of h5]
  have hfin : ∀w',w'.os=w.os→w'.tape=w.tape→w'.output=w.output→w.heap.size≤w'.heap.size→(∀j,j<w.heap.size→(∀ad,e.adr 1=some ad→ad.block≠j)→w'.heap[j]? =w.heap[j]?)→
   ∃v e',Ending.returned (.string ⟨(toSl L).toArray⟩)=.returned v∧Post w w' e e' (blU L).length ⟨[∀x∈L,0≤x∧x≤255],.s (std.toS L),[(1,.gone)]⟩ v:=fun w' q1 q2 q3 q4 q5=>by
   refine⟨_,{ e with lv:=fun k=>e.lv k∧k≠1 },rfl,by unfold R;rfl,⟨fun k h=>h,fun _ _=>rfl,fun _ _=>rfl,fun _ _=>rfl,fun _ h=>h⟩,.of fun _ h=>h,?_,fun k hk=>.inl hk,fun k hk=>.inl hk.1,fun k hk=>?_,fun k _ _ h1 h2=>absurd h1.1 h2,⟨q1,q2,q3,q4,fun j hj hM=>q5 j hj fun ad h h'=>hM ⟨1,(hlv 1).2 (Nat.lt_succ_self 1),rfl,ad,h,h'⟩⟩⟩
   ·intro k o hk
    obtain⟨rfl,rfl⟩:=AH_one hk
    exact⟨trivial,hn1,fun h=>by cases h⟩
   ·by_cases h:k=1
    ·subst h;exact .inr rfl
    ·exact .inl ⟨hk,h⟩
  unfold OR at hO1
  obtain⟨g1,g2⟩:=hO1
  rcases g2 with ⟨g3,rfl,g4⟩ | ⟨gv,cur,g3,g4,g5,g6,⟨g7,g8⟩,g9⟩
  ·rw [g3,g1,g4] at hB
   refine (Any.Builder_String_nil Tryz.lays169 Tryz.Builder_Extra_169 w.heap.size b x w hB).mono ?_
   rintro en w' ⟨rfl,hb⟩
   exact hfin w' hb.os hb.tape hb.output hb.size fun j hj _=>hb.block j hj
  ·rw [g3,g1] at hB
   by_cases h0:L=[]
   ·subst h0
    by_cases hc0:e.cap 1=0
    ·rw [hc0] at hB
     refine (Any.Builder_String_noroom Tryz.lays169 Tryz.Builder_Extra_169 w.heap.size b gv x cur w (Nat.le_refl _) hB g5).mono ?_
     rintro en w' ⟨rfl,hb⟩
     exact hfin w' hb.os hb.tape hb.output hb.size fun j hj _=>hb.block j hj
    ·refine (Any.Builder_String_room Tryz.lays169 Tryz.Builder_Extra_169 w.heap.size b gv (e.cap 1) x w hc0 hB).mono ?_
     rintro en w' ⟨rfl,hb⟩
     exact hfin w' hb.os hb.tape hb.output hb.size fun j hj _=>hb.block j hj
   ·have hll:(toSl L).length =L.length:=by simp [toSl]
    refine (string_row b gv (e.cap 1) x (toSl L) cur w (by rw [hll];exact hB) g5 (fun h=>h0 (List.eq_nil_of_length_eq_zero (by rw [←hll,h];rfl))) (by rw [hll];exact g7) g8 (by simpa using g6) fun j z hz=>?_).mono ?_
    ·have hz':L[j]? =some (z.toNat:Int):=by
      have:=congrArg (fun l=>l[j]?) (toB_toS hL)
      have:=(show (toBl (toSl L))[j]? =L[j]? from this)
      rw [←this]
      unfold toBl
      rw [List.getElem?_map,hz];rfl
     have:=g9 j _ hz'
     unfold RE REs RE2 at this
     obtain⟨q,q1,q2⟩:=this
     unfold RA at q2
     rw [q2] at q1
     simpa using q1
    ·rintro en w' ⟨rfl,rfl⟩
     have hsz:(w.drew.freeze ⟨gv,0,none⟩ (toSl L).length).heap.size =w.heap.size:=by
      unfold World.freeze;split
      ·rfl
      ·show (Array.modify _ _ _).size =_;rw [Array.size_modify];rfl
     refine hfin _ ?_ ?_ ?_ (by rw [hsz];exact Nat.le_refl _) fun j hj h=>freeze_other w.drew _ _ j fun h'=>h _ g3 h'.symm
     all_goals (unfold World.freeze;split<;>rfl)
 ·cases hs
def sp_wStrF (p:Pr):MSpec:=msp (mBF (a1 aS)) (fun (_u,s)=>p.ltM (p.lenS s)) (fun (_u,s)=>.tup [.i .i64 (p.lenS s),.raw .nilIface]) (fun (_u,s)=>[(0,.cells [.ptr 0 0,.osl 1] 175),(1,.own [.i .u8] (p.toB s) 5)])
theorem ok_wStrF:MOk Tryz.prog 138 (sp_wStrF std):=by
 refine MOk.go (c:=cx std [] [(201,sp_copy std)] 1) (cx_ok .nil (.cons ok_copy .nil)) mixed Tryz.func138 rfl rfl (by kernel_rfl) ?_
 rintro ⟨_u,s⟩ hp
 dsimp only at hp
 refine⟨rfl,?_⟩
 unfold sp_copy
 generalize hP:std=p
 cbv
 repeat' first
  | (refine fun (_:Unit)=>?_;cbv)
  | (refine aI2 (fun h=>?_) (fun h=>?_)<;>cbv)
  | (refine aI2 ?_ ?_)
  | (refine Or.inl (fun (_:Unit)=>?_);cbv)
 all_goals subst hP
 all_goals try exact fin
def sp_wStrU (p:Pr):MSpec:=msp (mBU (a1 aS)) (fun (L,s)=>p.ltM (p.add (p.len L) (p.lenS s))) (fun (L,s)=>.tup [.i .i64 (p.lenS s),.raw .nilIface]) (fun (L,s)=>[(0,.cells [.ptr 0 0,.osl 2] 175),(1,.gone),(2,.own [.i .u8] (p.snoc L (p.toB s)) 5)])
theorem ok_wStrU:MOk Tryz.prog 138 (sp_wStrU std):=by
 refine MOk.go (c:=cx std [] [(201,sp_copy std)] 2) (cx_ok .nil (.cons ok_copy .nil)) mixed Tryz.func138 rfl rfl (by kernel_rfl) ?_
 rintro ⟨L,s⟩ hp
 dsimp only at hp
 refine⟨rfl,?_⟩
 unfold sp_copy
 generalize hP:std=p
 cbv
 repeat' first
  | (refine fun (_:Unit)=>?_;cbv)
  | (refine aI2 (fun h=>?_) (fun h=>?_)<;>cbv)
  | (refine aI2 ?_ ?_)
  | (refine Or.inl (fun (_:Unit)=>?_);cbv)
 all_goals subst hP
 all_goals try exact fin
def sp_wStr (p:Pr):MSpec:=MSpec.or (msp (mBF (a1 aS)) (fun (_,s)=>p.ltM (p.lenS s)) (fun (_,s)=>.tup [.i .i64 (p.lenS s),.raw .nilIface]) (fun (_,s)=>[(0,.cells [.ptr 0 0,.osl 1] 175),(1,.own [.i .u8] (p.toB s) 5)]))
 (msp (mBU (a1 aS)) (fun (L,s)=>p.ltM (p.add (p.len L) (p.lenS s))) (fun (_,s)=>.tup [.i .i64 (p.lenS s),.raw .nilIface]) (fun (L,s)=>[(0,.cells [.ptr 0 0,.osl 2] 175),(1,.gone),(2,.own [.i .u8] (p.snoc L (p.toB s)) 5)]))
theorem ok_wStr:MOk Tryz.prog 138 (sp_wStr std):=MOk.or ok_wStrF ok_wStrU
end Ax
end Go.Proofs.YtghmphmbpdiflaaGreatDoor
