/-
  The plain walker: rows that grow.
  Conditions: none; the tables of types and of functions are as the program has them.
-/
import Derived.Test.YtjjonmhpgkahoaaGreatDoorH04
import Derived.Maps.AppendAt
import Derived.Great.BuildSlice
import Derived.Lib.AppendStr
set_option linter.unusedSimpArgs false
set_option linter.unusedVariables false
namespace Go.Proofs.YtjjonmhpgkahoaaGreatDoor
namespace Ax
open Go.RowKit
section
variable {P:Program} {o:Oper} {a:Act} {w w':World} {e:Env} {nx:Nat}
theorem CS {w w':World} {fz:Nat→Prop} (h:Same fz w w') {y:Type} {Q Q':y→Value→Prop} (hQ : ∀x v,Q x v→Q' x v) {b b':Nat} : ∀(ts:List aw) (o o':Nat) (x:EL2 y ts),(∀j,j≤ts.length→w'.cell? ⟨b',o'+j,none⟩=w.cell? ⟨b,o+j,none⟩)→REs w fz Q ts b o x→REs w' fz Q' ts b' o' x
 | [],o,o',x,hb,hr=>by
   unfold REs RE2 at *
   obtain⟨u,h1,h2⟩:=hr
   exact⟨u,(hb 0 (Nat.le_refl _)).trans h1,hQ _ _ h2⟩
 | t::ts,o,o',x,hb,hr=>by
   unfold REs RE2 at *
   obtain⟨⟨u,h1,h2⟩,h3⟩:=hr
   exact⟨⟨u,(hb 0 (Nat.zero_le _)).trans h1,hQ _ _ h2⟩,CS h (fun x v=>og h (fun _ hb=>hb) t x v) ts (o+1) (o'+1) x.2 (fun j hj=>by rw [show o+1+j=o+(j+1) from by omega,show o'+1+j=o'+(j+1) from by omega];exact hb (j+1) (by simp;omega)) h3⟩
theorem Hr {w w':World} {fz:Nat→Prop} (h:Same fz w w') {b b':Nat} : ∀{sh:List aw} {o o':Nat} {x:El sh},(∀j,j<sh.length→w'.cell? ⟨b',o'+j,none⟩=w.cell? ⟨b,o+j,none⟩)→RE w fz sh b o x→RE w' fz sh b' o' x
 | [],_,_,_,_,_=>by unfold RE;trivial
 | t::ts,o,o',x,hb,hr=>by
   unfold RE at *
   exact CS h (fun x v=>og h (fun _ hb=>hb) t x v) ts o o' x (fun j hj=>hb j (by simp;omega)) hr
theorem Jc {w:World} {fz:Nat→Prop} : ∀{t:aw} {x:t.Ty} {v:Value},RA w fz t x v→v.oneCell'=true:=by
 intro t x v h
 cases t with
 | i k=>rw [On.1 h];rfl
 | b=>rw [Ji.1 h];rfl
 | s=>rw [QT.1 h];rfl
 | r sh=>
   unfold RA at h
   obtain⟨A,c,rfl, -⟩:=h
   rfl
theorem F9 {w:World} {fz:Nat→Prop} {y:Type} {Q:y→Value→Prop} (hQ : ∀x v,Q x v→v.oneCell'=true) {b:Nat} : ∀{ts:List aw} {o:Nat} {x:EL2 y ts},REs w fz Q ts b o x→∀j,j≤ts.length→∃u,w.cell? ⟨b,o+j,none⟩=some u∧u.oneCell'=true
 | [],o,x,h,j,hj=>by
   unfold REs RE2 at h
   obtain⟨u,h1,h2⟩:=h
   have : j=0:=by simpa using hj
   subst this
   exact⟨u,h1,hQ _ _ h2⟩
 | t::ts,o,x,h,j,hj=>by
   unfold REs RE2 at h
   obtain⟨⟨u,h1,h2⟩,h3⟩:=h
   cases j with
   | zero=>exact⟨u,h1,hQ _ _ h2⟩
   | succ j=>
     obtain⟨u',h4,h5⟩:=F9 (fun x v=>Jc) h3 j (by simpa using hj)
     exact⟨u',by rw [show o+(j+1)=o+1+j from by omega];exact h4,h5⟩
theorem PC {w:World} {fz:Nat→Prop} {sh:List aw} {b o:Nat} {x:El sh} (h:RE w fz sh b o x) : ∀j,j<sh.length→∃u,w.cell? ⟨b,o+j,none⟩=some u∧u.oneCell'=true:=by
 cases sh with
 | nil=>intro j hj;simp at hj
 | cons t ts=>
   unfold RE at h
   exact fun j hj=>F9 (fun x v=>Jc) h j (Nat.le_of_lt_succ hj)
def Di (w:World) (fz:Nat→Prop) (sh:List aw) (M:List (El sh)) (v:Value):Prop:=
 ∃A c,v=.slice A M.length c∧∀i x,M[i]? =some x→∃b o,A=some ⟨b,o,none⟩∧RE w fz sh b (o+i*sh.length) x
theorem Av {h:AH} (hs:lO w e h) {p:PV} {v:Value} {r:Row} (hp:rowOf h p=some r) (hr:R w e p v):Di w e.fz r.sh r.L v:=by
 unfold rowOf at hp
 split at hp
 ·cases hp
  unfold R at hr
  obtain⟨A,c,h1, -,h2⟩:=hr
  exact⟨A,c,h1,fun i x hx=>by obtain⟨b,o,h3, -,h4⟩:=h2 i x hx;exact⟨b,o,h3,h4⟩⟩
 ·split at hp
  ·rename_i id sh L ty hg
   cases hp
   unfold R at hr
   obtain⟨-,rfl⟩:=hr
   obtain⟨⟨h0,hO⟩, -⟩:=hs.ob _ _ hg
   rcases hO with ⟨-,rfl, -⟩ | ⟨b,vs,h1, -, -, -, -,h2⟩
   ·exact⟨_,_,by rw [h0],fun i x hx=>by simp at hx⟩
   ·exact⟨_,_,by rw [h0],fun i x hx=>⟨b,0,h1,by rw [Nat.zero_add];exact h2 i x hx⟩⟩
  ·rename_i id k L ty hg
   cases hp
   unfold R at hr
   obtain⟨-,rfl⟩:=hr
   obtain⟨⟨q,h0,b,vs,fr,h1,h2,h3,h4,h5,h6,h7,h8⟩, -⟩:=hs.ob _ _ hg
   refine⟨_,_,by rw [h0],fun i x hx=>⟨b,0,h1,Gn q ?_⟩⟩
   rw [ym h3,show 0+i * [k].length =i from by simp]
   exact h8 i x hx
  ·cases hp
 ·cases hp
theorem Di.cast {fz:Nat→Prop} {sh sh':List aw} {M:List (El sh')} {M':List (El sh)} {v:Value} (hc:kE sh' sh M=some M') (h:Di w fz sh' M v):Di w fz sh M' v:=by
 unfold kE at hc
 split at hc
 ·rename_i hh _
  subst hh
  cases hc
  exact h
 ·cases hc
theorem Di.cells {fz:Nat→Prop} {sh:List aw} {M:List (El sh)} {v:Value} (h:Di w fz sh M v) (hpos:0<sh.length) : ∃(A:Option Addr) (c:Nat) (news:List Value),v=.slice A M.length c∧news.length=M.length*sh.length∧(∀u∈news,u.oneCell'=true)∧
 (M≠[]→∃b o,A=some ⟨b,o,none⟩∧(∀j u,news[j]? =some u→w.cell? ⟨b,o+j,none⟩=some u)∧∀i x,M[i]? =some x→RE w fz sh b (o+i*sh.length) x):=by
 obtain⟨A,c,hv,hM⟩:=h
 by_cases h0:M=[]
 ·subst h0
  exact⟨A,c,[],hv,by simp,by simp,fun h=>absurd rfl h⟩
 ·obtain⟨b,o,hA, -⟩:=hM 0 _ (List.getElem?_eq_getElem (List.length_pos_iff.2 h0))
  have hre : ∀i x,M[i]? =some x→RE w fz sh b (o+i*sh.length) x:=fun i x hx=>by
   obtain⟨b',o',hA',h1⟩:=hM i x hx
   rw [hA] at hA'
   cases hA'
   exact h1
  have hcell : ∀j,j<M.length*sh.length→∃u,w.cell? ⟨b,o+j,none⟩=some u∧u.oneCell'=true:=fun j hj=>by
   have h1:j/sh.length<M.length:=Nat.div_lt_of_lt_mul (by rw [Nat.mul_comm];exact hj)
   obtain⟨u,h2,h3⟩:=PC (hre (j/sh.length) _ (List.getElem?_eq_getElem h1)) (j%sh.length) (Nat.mod_lt _ hpos)
   refine⟨u,?_,h3⟩
   rw [←h2,Nat.add_assoc,Nat.div_add_mod']
  refine⟨A,c,(List.range (M.length*sh.length)).map fun j=>(w.cell? ⟨b,o+j,none⟩).getD undef,hv,by simp,?_,fun _=>⟨b,o,hA,?_,hre⟩⟩
  ·intro u hu
   obtain⟨j,hj,rfl⟩:=List.mem_map.1 hu
   obtain⟨u',h1,h2⟩:=hcell j (List.mem_range.1 hj)
   rw [h1];exact h2
  ·intro j u hj
   rw [List.getElem?_map,Option.map_eq_some_iff] at hj
   obtain⟨k,hk,rfl⟩:=hj
   obtain⟨hlt,hk⟩:=List.getElem?_eq_some_iff.1 hk
   simp only [List.getElem_range] at hk
   subst hk
   obtain⟨u',h1, -⟩:=hcell j (by simpa using hlt)
   rw [h1];rfl
theorem M8 (base:Nat) (t ty te:TypeId) {ti:TI} (hu:P.underlying t=some (.slice te)) (ht:ra P te ti) {sh:List aw} (hok:sm ti sh=true) {v:Value} {n:Nat} {xs:List Value} (hown:w.ownsRow base te sh.length v n xs)
 {fz:Nat→Prop} {M:List (El sh)} {y:Value} (hy:Di w fz sh M y) (hn:n+M.length≤274877906944) (hbase:base≤w.heap.size) :
 ∃v' w' news,(Builtin.append_ #[t,t] ty #[v,y]).run P w=.ok v' w'∧w'.ownsRow base te sh.length v' (n+M.length) (xs++news)∧w.grownBy w' v.ownBlock∧(v'.ownBlock=v.ownBlock∨v'.ownBlock=some w.heap.size)∧
  news.length=M.length*sh.length∧∀i x,M[i]? =some x→∃b o,RE w fz sh b (o+i*sh.length) x∧∀j,j<sh.length→w.cell? ⟨b,o+i*sh.length+j,none⟩=news[i*sh.length+j]? :=by
 unfold sm at hok
 simp only [Bool.and_eq_true,Nat.blt_eq] at hok
 obtain⟨h1,h2,h3,h4⟩:=hok
 have h1:ti.n=sh.length:=Nat.eq_of_beq_eq_true h1
 have h4:ti.z.length=ti.n:=Nat.eq_of_beq_eq_true h4
 obtain⟨i,hi,hin,z,hz,hzz⟩:=ht.info
 have hpos:0<sh.length:=by omega
 have hzs:z.cells.size=sh.length:=by
  have:=bm (nK w ⟨fun _=>none,fun _=>0,fun _=>0,fun _=>False,fun _=>False,fun _=>False⟩ _ _ hzz)
  simp only [Array.length_toList] at this
  omega
 have hb:=ht.byt i hi h3
 have hmul:(n+M.length)*i.bytes≤140737488355328:=by
  have : (n+M.length)*i.bytes≤274877906944*512:=Nat.mul_le_mul hn hb
  omega
 have hml:n+M.length≤maxLen:=by unfold maxLen;omega
 obtain⟨A,c,news,hv,hl,hone,hcs⟩:=hy.cells hpos
 subst hv
 have hfin : ∀b o,(∀j u,news[j]? =some u→w.cell? ⟨b,o+j,none⟩=some u)→(∀i x,M[i]? =some x→RE w fz sh b (o+i*sh.length) x)→∀i x,M[i]? =some x→∃b o,RE w fz sh b (o+i*sh.length) x∧∀j,j<sh.length→w.cell? ⟨b,o+i*sh.length+j,none⟩=news[i*sh.length+j]? :=by
  intro b o h5 h6 i x hx
  refine⟨b,o,h6 i x hx,fun j hj=>?_⟩
  have hil:i<M.length:=(List.getElem?_eq_some_iff.1 hx).1
  have hlt:i*sh.length+j<news.length:=by
   rw [hl]
   calc i*sh.length+j<(i+1)*sh.length:=by rw [Nat.succ_mul];omega
    _≤M.length*sh.length:=Nat.mul_le_mul_right _ hil
  rw [List.getElem?_eq_getElem hlt]
  have:=h5 (i*sh.length+j) _ (List.getElem?_eq_getElem hlt)
  rwa [←Nat.add_assoc] at this
 by_cases h0:M=[]
 ·subst h0
  have hne:news=[]:=List.eq_nil_of_length_eq_zero (by simpa using hl)
  subst hne
  cases A with
  | none=>
    refine⟨v,w,[],?_,by simpa using hown,World.grownBy.refl w _,.inl rfl,by simp,fun i x hx=>by simp at hx⟩
    rcases hown.2 with ⟨rfl,rfl⟩ | ⟨g,cap,cur,rfl,_,_,hnc,_⟩
    ·simp [Builtin.append_,run_underlying hu,sizeOf,typeInfo,hi,Builtin.lenOf,Builtin.firstCells]
    ·simp [Builtin.append_,run_underlying hu,sizeOf,typeInfo,hi,Builtin.lenOf,Builtin.firstCells,hnc,storeCells]
  | some ad=>
    obtain⟨v',w',q1,q2,q3, -,q5⟩:=run_append_own_at (P:=P) (w:=w) base t ty te i z sh.length i.bytes hu hi hz (by omega) rfl hzs hpos v n xs hown ad 0 c [] (by simp) (by simp) (by simp) (by simpa using hml) (by simpa using hmul) hbase
    exact⟨v',w',[],q1,q2,q3,q5,by simp,fun i x hx=>by simp at hx⟩
 ·obtain⟨b,o,rfl,h5,h6⟩:=hcs h0
  obtain⟨v',w',q1,q2,q3, -,q5⟩:=run_append_own_at (P:=P) (w:=w) base t ty te i z sh.length i.bytes hu hi hz (by omega) rfl hzs hpos v n xs hown ⟨b,o,none⟩ M.length c news hl (fun j u hj=>by
   have hadd:(⟨b,o,none⟩:Addr).add j=⟨b,o+j,none⟩:=by unfold Addr.add;split<;>simp_all
   rw [hadd];exact h5 j u hj) hone hml hmul hbase
  exact⟨v',w',news,q1,q2,q3,q5,hl,hfin b o h5 h6⟩
def oV (nx:Nat) (od:Option Nat) (ob:Ob):AH:=(nx,ob)::match od with
 | none=>[]
 | some id=>[(id,.gone)]
def Ln (P:Program) (w:World) (fz:Nat→Prop) (t t' ty te:TypeId) (sh:List aw) (n:Nat) (M:List (El sh)) (v y:Value):Prop:=
 ∀xs,w.ownsRow 0 te sh.length v n xs→∃v' w' news,(Builtin.append_ #[t,t'] ty #[v,y]).run P w=.ok v' w'∧w'.ownsRow 0 te sh.length v' (n+M.length) (xs++news)∧w.grownBy w' v.ownBlock∧(v'.ownBlock=v.ownBlock∨v'.ownBlock=some w.heap.size)∧
  (Same fz w w'→∀i z,M[i]? =some z→∀b o,(∀j,j<sh.length→w'.cell? ⟨b,o+j,none⟩=news[i*sh.length+j]?)→RE w' fz sh b o z)
theorem nG {x y:Operand} {t t' te:TypeId} {sh:List aw} {L M:List (El sh)} {od:Option Nat} {pre:List Prop} (ho:o.op=.call ⟨.builtin .append,⟨[x,y]⟩,⟨[t,t']⟩⟩)
 (hn : ¬e.on nx) (hz : ∀b,e.fz b→b<w.heap.size) (hrunA:Ln P w e.fz t t' o.type te sh L.length M (a.eval x) (a.eval y))
 (hx:(od=none∧L=[]∧a.eval x=.slice none 0 0)∨∃id,od=some id∧e.lv id∧e.on id∧OR w e id (.own sh L te)∧a.eval x=.slice (e.adr id) (e.len id) (e.cap id)) :
 dZ P o a w e nx ⟨pre,.osl nx,oV nx od (.own sh (L++M) te)⟩:=by
 obtain⟨xs,hown,hxs,hod⟩ : ∃xs:List Value,w.ownsRow 0 te sh.length (a.eval x) L.length xs∧(∀i z,L[i]? =some z→∃b,RE w e.fz sh b (i*sh.length) z∧∀j,j<sh.length→w.cell? ⟨b,i*sh.length+j,none⟩=xs[i*sh.length+j]?)∧
  ∀b,(a.eval x).ownBlock =some b→¬e.fz b∧b<w.heap.size∧∃id,od=some id∧e.lv id∧e.blk id b:=by
  rcases hx with ⟨rfl,rfl,hv⟩ | ⟨id,rfl,hlv,hon,hO,hv⟩
  ·rw [hv]
   exact⟨[],World.ownsRow_nil _ _ _ _,fun i z h=>by simp at h,fun b hb=>by simp [Value.ownBlock] at hb⟩
  ·obtain⟨h0,hO⟩:=hO
   rw [hv]
   rcases hO with ⟨h1,rfl,h2⟩ | ⟨b,vs,h1,h2,h3,h4,⟨h5,h6⟩,h7⟩
   ·rw [h1,h0,h2]
    exact⟨[],World.ownsRow_nil _ _ _ _,fun i z h=>by simp at h,fun b hb=>by simp [Value.ownBlock] at hb⟩
   ·rw [h1,h0]
    have hle:L.length*sh.length≤vs.size:=by rw [h4];exact Nat.mul_le_mul_right _ h5
    refine⟨vs.toList.take (L.length*sh.length),⟨by simp;omega,.inr ⟨b,e.cap id,vs,rfl,Nat.zero_le _,h3,h5,h6,h4,rfl⟩⟩,fun i z hi=>⟨b,h7 i z hi,fun j hj=>?_⟩,fun b' hb'=>?_⟩
    ·have hil:i<L.length:=(List.getElem?_eq_some_iff.1 hi).1
     have hlt:i*sh.length+j<L.length*sh.length:=by
      calc i*sh.length+j<(i+1)*sh.length:=by rw [Nat.succ_mul];omega
       _≤L.length*sh.length:=Nat.mul_le_mul_right _ hil
     rw [cell_of_row _ b _ vs te _ h3,List.getElem?_take,if_pos hlt]
     simp
    ·simp [Value.ownBlock] at hb'
     subst hb'
     exact⟨h2,nt h3,id,rfl,hlv,_,h1,rfl⟩
 obtain⟨v',w',news,hrun,hown',hgb,hob,hns⟩:=hrunA xs hown
 have hxl:=hown.1
 have hsame:Same e.fz w w':=fun b hb=>hgb.block b (hz b hb) fun hh=>(hod b hh.symm).1 hb
 obtain⟨A,cap,hv',hcap,hrow⟩ : ∃A cap,v'=.slice A (L++M).length cap∧cap≤maxLen∧((A=none∧L++M=[]∧cap=0)∨∃g cur,A=some ⟨g,0,none⟩∧w'.heap[g]? =some (.cells cur te (0,0))∧cur.size=cap*sh.length∧(L++M).length ≤cap∧cur.toList.take ((L++M).length * sh.length)=xs++news∧v'.ownBlock=some g):=by
  rcases hown'.2 with ⟨rfl,h0⟩ | ⟨g,cap,cur,rfl, -,h1,h2,h3,h4,h5⟩
  ·have : L++M=[]:=List.eq_nil_of_length_eq_zero (by rw [List.length_append];exact h0)
   exact⟨none,0,by rw [this];rfl,Nat.zero_le _,.inl ⟨rfl,this,rfl⟩⟩
  ·rw [←List.length_append] at h2 h5 ⊢
   exact⟨_,cap,rfl,h3,.inr ⟨g,cur,rfl,h1,h4,h2,h5,rfl⟩⟩
 obtain⟨E,hE⟩ : ∃E:Env,E={ adr:=fun k=>if k=nx then A else e.adr k,cap:=fun k=>if k=nx then cap else e.cap k,len:=fun k=>if k=nx then (L++M).length else e.len k,fz:=e.fz,on:=fun k=>k=nx∨e.on k,lv:=fun k=>k=nx∨e.lv k∧od≠some k }:=⟨_,rfl⟩
 have hLe:e.Le E:=by
  subst hE
  exact⟨fun k hk=>.inr hk,fun k hk=>if_neg fun h:k=nx=>hn (h ▸ hk),fun k hk=>if_neg fun h:k=nx=>hn (h ▸ hk),fun k hk=>if_neg fun h:k=nx=>hn (h ▸ hk),fun b hb=>hb⟩
 have hEa:E.adr nx=A:=by subst hE;exact if_pos rfl
 have hEc:E.cap nx=cap:=by subst hE;exact if_pos rfl
 have hEl:E.len nx=(L++M).length :=by subst hE;exact if_pos rfl
 have hEf:E.fz=e.fz:=by subst hE;rfl
 have hEo : ∀k,E.on k↔k=nx∨e.on k:=fun k=>by subst hE;exact Iff.rfl
 have hEv : ∀k,E.lv k↔k=nx∨e.lv k∧od≠some k:=fun k=>by subst hE;exact Iff.rfl
 have hgf : ∀g,v'.ownBlock=some g→¬e.fz g∧(w.heap.size≤g∨∃j,e.lv j∧od=some j∧e.blk j g):=fun g hg=>by
  rcases hob with h | h
  ·rw [hg] at h
   obtain⟨h1, -,id,h2,h3,h4⟩:=hod g h.symm
   exact⟨h1,.inr ⟨id,h3,h2,h4⟩⟩
  ·rw [hg] at h
   cases h
   exact⟨fun h=>absurd (hz _ h) (Nat.lt_irrefl _),.inl (Nat.le_refl _)⟩
 have hid : ∀id,od=some id→e.on id∧e.lv id:=fun id h=>by
  rcases hx with ⟨h1, -⟩ | ⟨j,h1,h2,h3, -⟩
  ·rw [h1] at h;cases h
  ·rw [h1] at h;cases h;exact⟨h3,h2⟩
 have hget : ∀k ob,(oV nx od (.own sh (L++M) te)).get k=some ob→(k=nx∧ob=.own sh (L++M) te)∨(od=some k∧ob=.gone):=fun k ob hk=>by
  unfold oV AH.get at hk
  split at hk
  ·rename_i hkk
   cases hk
   exact .inl ⟨(by simpa using hkk:nx=k).symm,rfl⟩
  ·cases od with
   | none=>cases hk
   | some id=>
     unfold AH.get at hk
     split at hk
     ·rename_i hkk
      cases hk
      have : id=k:=by simpa using hkk
      exact .inr ⟨by rw [this],rfl⟩
     ·cases hk
 have hsome:((oV nx od (.own sh (L++M) te)).get nx).isSome =true:=by unfold oV AH.get;simp
 have hgone : ∀id,od=some id→(oV nx od (.own sh (L++M) te)).get id=some .gone :=fun id h=>by
  subst h
  have : nx≠id:=fun h=>hn (h ▸ (hid id rfl).1)
  simp [oV,AH.get,this]
 unfold dZ Oper.wp execOp
 simp only [ho,resolve,invoke,builtin,Sem.run_bind,Sem.run_pure,Result.andThen_ok,List.map_toArray,List.map_cons,List.map_nil,hrun]
 refine⟨v',E,rfl,?_,hLe,.of fun b hb=>by rw [hEf] at hb;exact hb,?_,?_,?_,?_,?_,⟨hgb.os,hgb.tape,hgb.output,hgb.size,fun b hb hM=>hgb.block b hb fun hh=>hM ?_⟩⟩
 ·unfold R
  exact⟨(hEo nx).2 (.inl rfl),by rw [hEa,hEc,hEl];exact hv'⟩
 ·intro k ob hk
  rcases hget k ob hk with ⟨rfl,rfl⟩ | ⟨h1,rfl⟩
  ·refine⟨⟨hEl,?_⟩,(hEo _).2 (.inl rfl),fun _=>(hEv _).2 (.inl rfl)⟩
   rw [hEa,hEc,hEf]
   rcases hrow with ⟨h1,h2,h3⟩ | ⟨g,cur,h1,h2,h3,h4,h5,h6⟩
   ·exact .inl ⟨h1,h2,h3⟩
   ·have hcell : ∀i j,i<(L++M).length →j<sh.length→w'.cell? ⟨g,i*sh.length+j,none⟩=(xs++news)[i*sh.length+j]? :=fun i j hi hj=>by
     have hlt:i*sh.length+j<(L++M).length * sh.length:=by
      calc i*sh.length+j<(i+1)*sh.length:=by rw [Nat.succ_mul];omega
       _≤(L++M).length * sh.length:=Nat.mul_le_mul_right _ hi
     rw [cell_of_row _ g _ cur te _ h2,←h5,List.getElem?_take,if_pos hlt]
     simp
    refine .inr ⟨g,cur,h1,(hgf g h6).1,h2,h3,⟨h4,hcap⟩,fun i z hi=>?_⟩
    have hil:=(List.getElem?_eq_some_iff.1 hi).1
    rw [List.getElem?_append] at hi
    split at hi
    ·rename_i hlt
     obtain⟨b,h7,h8⟩:=hxs i z hi
     refine Hr hsame (fun j hj=>?_) h7
     rw [hcell i j hil hj,h8 j hj,List.getElem?_append_left]
     rw [hxl]
     calc i*sh.length+j<(i+1)*sh.length:=by rw [Nat.succ_mul];omega
      _≤L.length*sh.length:=Nat.mul_le_mul_right _ hlt
    ·rename_i hge
     refine hns hsame (i-L.length) z hi g (i*sh.length) fun j hj=>?_
     have hmul:i*sh.length=L.length*sh.length+(i-L.length)*sh.length:=by
      rw [←Nat.add_mul];congr 1;omega
     rw [hcell i j hil hj,List.getElem?_append_right (by rw [hxl];omega),hxl]
     congr 1
     omega
  ·exact⟨trivial,hLe.on k (hid k h1).1,fun h=>by cases h⟩
 ·intro k hk
  rcases (hEo k).1 hk with rfl | h
  ·exact .inr ⟨Nat.le_refl _,hsome⟩
  ·exact .inl h
 ·intro k hk
  rcases (hEv k).1 hk with rfl | ⟨h, -⟩
  ·refine .inr ⟨hn,(hEo _).2 (.inl rfl),fun b ⟨ad,h1,h2⟩=>?_⟩
   rw [hEa] at h1
   rcases hrow with ⟨h3, -⟩ | ⟨g,cur,h3,h4, -, -, -,h5⟩
   ·rw [h3] at h1;cases h1
   ·rw [h3] at h1
    cases h1
    subst h2
    refine⟨nt h4,(hgf g h5).2.imp id fun ⟨j,q1,q2,q3⟩=>⟨j,q1,fun h=>?_,q3⟩⟩
    rcases (hEv j).1 h with rfl | ⟨-,h⟩
    ·exact hn (hid _ q2).1
    ·exact h q2
  ·exact .inl h
 ·intro k hk
  by_cases h:od=some k
  ·exact .inr (hgone k h)
  ·exact .inl ((hEv k).2 (.inr ⟨hk,h⟩))
 ·intro k k' b hk hk1 hk' hk1' _ _
  have h1:=((hEv k).1 hk).resolve_right fun h=>hk1 h.1
  have h2:=((hEv k').1 hk').resolve_right fun h=>hk1' h.1
  rw [h1,h2]
 ·obtain⟨-, -,id,h1,h2,h3⟩:=hod b hh.symm
  exact⟨id,h2,by rw [hgone id h1];rfl,h3⟩
theorem uP {x y:Operand} {t te:TypeId} {ti:TI} {sh:List aw} {L M:List (El sh)} {od:Option Nat} {pre:List Prop} (ho:o.op=.call ⟨.builtin .append,⟨[x,y]⟩,⟨[t,t]⟩⟩) (hu:P.underlying t=some (.slice te)) (ht:ra P te ti) (hok:sm ti sh=true)
 (hn : ¬e.on nx) (hz : ∀b,e.fz b→b<w.heap.size) (hlen:L.length+M.length≤274877906944) (hy:Di w e.fz sh M (a.eval y))
 (hx:(od=none∧L=[]∧a.eval x=.slice none 0 0)∨∃id,od=some id∧e.lv id∧e.on id∧OR w e id (.own sh L te)∧a.eval x=.slice (e.adr id) (e.len id) (e.cap id)) :
 dZ P o a w e nx ⟨pre,.osl nx,oV nx od (.own sh (L++M) te)⟩:=by
 refine nG ho hn hz (fun xs hown=>?_) hx
 obtain⟨v',w',news,h1,h2,h3,h4, -,h6⟩:=M8 (P:=P) 0 t o.type te hu ht hok hown hy hlen (Nat.zero_le _)
 refine⟨v',w',news,h1,h2,h3,h4,fun hsame i z hi b o hc=>?_⟩
 obtain⟨b',o',h7,h8⟩:=h6 i z hi
 exact Hr hsame (fun j hj=>by rw [hc j hj,h8 j hj]) h7
theorem D6 {fz:Nat→Prop} (t t' ty te:TypeId) {ti:TI} (hu:P.underlying t=some (.slice te)) (hu':P.underlying t'=some .string) (ht:ra P te ti) (hok:sm ti [.i .u8]=true) {v:Value} {n:Nat} (l:List UInt8) (hn:n+l.length≤274877906944) :
 Ln P w fz t t' ty te [.i .u8] n (aq l) v (.string ⟨l.toArray⟩):=by
 intro xs hown
 unfold sm at hok
 simp only [Bool.and_eq_true,Nat.blt_eq,List.length_cons,List.length_nil,Nat.zero_add] at hok
 obtain⟨h1,h2,h3,h4⟩:=hok
 have h1:ti.n=1:=Nat.eq_of_beq_eq_true h1
 have h4:ti.z.length=ti.n:=Nat.eq_of_beq_eq_true h4
 obtain⟨i,hi,hin,z,hz,hzz⟩:=ht.info
 have hsize:i.size=1:=by omega
 have hzs:z.cells.size=1:=by
  have:=bm (nK w ⟨fun _=>none,fun _=>0,fun _=>0,fun _=>False,fun _=>False,fun _=>False⟩ _ _ hzz)
  simp only [Array.length_toList] at this
  omega
 have hb:=ht.byt i hi h3
 have hmul : ∀m,m≤281474976710656/512→m*i.bytes≤281474976710656:=fun m hm=>by
  have : m*i.bytes≤(281474976710656/512)*512:=Nat.mul_le_mul hm hb
  omega
 obtain⟨s,hs⟩ : ∃s:ByteArray,s=⟨l.toArray⟩:=⟨_,rfl⟩
 have hss:s.size=l.length:=by subst hs;simp [ByteArray.size]
 have hcs:Lib.strCells s=l.map fun b=>Value.int .u8 b.toNat:=by subst hs;simp [Lib.strCells]
 have hTl:(aq l).length =s.size:=by rw [hss];simp [aq]
 have hxl:xs.length=n:=by simpa using hown.1
 have hml:maxLen=281474976710656∨274877906944≤maxLen:=.inr (by unfold maxLen;omega)
 have hml:274877906944≤maxLen:=by unfold maxLen;omega
 have hlen:(xs++Lib.strCells s).length =(n+s.size)*1:=by rw [List.length_append,hxl,Lib.strCells_length,Nat.mul_one]
 have hfin : ∀w':World,Same fz w w'→∀i z,(aq l)[i]? =some z→∀b o,(∀j,j<1→w'.cell? ⟨b,o+j,none⟩=(Lib.strCells s)[i*1+j]?)→RE w' fz [.i .u8] b o z:=fun w' _ k z hk b o hc=>by
  have:=hc 0 (by decide)
  unfold RE REs RE2
  rw [Nat.add_zero,Nat.mul_one,Nat.add_zero,hcs,List.getElem?_map] at this
  unfold aq at hk
  rw [List.getElem?_map,Option.map_eq_some_iff] at hk
  obtain⟨c,hc,rfl⟩:=hk
  rw [hc] at this
  exact⟨_,this,by unfold RA;rfl⟩
 have grown : ∀(old:Nat),old<n+s.size→∀(row:Option Nat),
  (w.drew.alloc (.cells (xs.toArray++(Lib.strCells s).toArray ++Builtin.zeroCells z.cells (grownCap w (n+s.size) old te-(n+s.size))) te)).ownsRow 0 te 1
    (.slice (some ⟨w.heap.size,0,none⟩) (n+s.size) (grownCap w (n+s.size) old te)) (n+s.size) (xs++Lib.strCells s)∧
  w.grownBy (w.drew.alloc (.cells (xs.toArray++(Lib.strCells s).toArray ++Builtin.zeroCells z.cells (grownCap w (n+s.size) old te-(n+s.size))) te)) row:=by
  intro old ho row
  have hge:=grownCap_ge w (n+s.size) old te
  have hcm:grownCap w (n+s.size) old te≤maxLen:=grownCap_le_maxLen w (n+s.size) old te (by omega)
  refine⟨⟨hlen,.inr ⟨w.heap.size,_,_,rfl,Nat.zero_le _,heap_alloc_new w.drew _,hge,hcm,?_,?_⟩⟩,⟨rfl,rfl,rfl,by simp,fun k hk _=>Below.heap_alloc w.drew _ k hk⟩⟩
  ·simp only [Array.size_append,List.size_toArray,size_zeroCells,hzs,hxl,Lib.strCells_length]
   omega
  ·simp only [Array.toList_append,List.append_assoc]
   rw [←List.append_assoc,←hlen]
   exact List.take_left
 show ∃v' w' news,(Builtin.append_ #[t,t'] ty #[v,.string ⟨l.toArray⟩]).run P w=.ok v' w'∧w'.ownsRow 0 te 1 v' (n+(aq l).length) (xs++news)∧_
 rw [←hs,hTl]
 rcases hown.2 with ⟨rfl,rfl⟩ | ⟨g,cap,cur,rfl, -,hg,hnc,hcm,hcz,htake⟩
 ·obtain rfl:xs=[]:=List.eq_nil_of_length_eq_zero hxl
  by_cases hm:s.size=0
  ·have hn0:Lib.strCells s=[]:=List.eq_nil_of_length_eq_zero (by rw [Lib.strCells_length];exact hm)
   refine⟨.slice none 0 0,w,[],?_,by rw [hm];exact World.ownsRow_nil w 0 te 1,World.grownBy.refl w _,.inl rfl,by rw [←hn0];exact hfin w⟩
   have hf:=Lib.run_firstCells_string (P:=P) w 1 s
   rw [hm] at hf
   simp [Builtin.append_,run_underlying hu,run_underlying hu',sizeOf,typeInfo,hi,hsize,Builtin.lenOf,hm,hf]
  ·have hr:=run_append_nil_string (P:=P) w t t' ty te i z hu hu' hi hz s (by omega) (by omega) (hmul _ (by omega))
   have hgr:=grown 0 (by omega) (Value.ownBlock (.slice none 0 0))
   simp only [Nat.zero_add,List.nil_append,Array.empty_append] at hgr ⊢
   have e1:(s.data.map fun b=>Value.int .u8 b.toNat)=(Lib.strCells s).toArray :=by
    apply Array.ext'
    simp [Lib.strCells]
   rw [e1] at hr
   exact⟨_,_,_,hr,hgr.1,hgr.2,.inr rfl,hfin _⟩
 ·by_cases hroom:n+s.size≤cap
  ·have hcz':cur.size=cap:=by simpa using hcz
   have hr:=Lib.run_append_room_string (P:=P) w t t' ty te i hu hu' hi hsize g n cap cur hg s hroom (by omega)
   refine⟨_,_,_,hr,⟨hlen,.inr ⟨g,cap,_,rfl,Nat.zero_le _,setRow_heap w g cur _ te _ hg,hroom,hcm,?_,?_⟩⟩,⟨rfl,rfl,rfl,by simp,fun k _ hk=>setRow_other w g k _ (fun e=>hk (by simp [Value.ownBlock,e]))⟩,.inl rfl,hfin _⟩
   ·simp only [List.size_toArray,List.length_append,List.length_take,List.length_drop,Array.length_toList,Lib.strCells_length]
    omega
   ·have ht':cur.toList.take n=xs:=by simpa using htake
    rw [ht',←hlen]
    exact List.take_left
  ·have holds : ∀j u,xs[j]? =some u→w.cell? ((⟨g,0,none⟩:Addr).add j)=some u:=hown.cells (g:=g) rfl
   have hcap:Builtin.nextslicecap (n+s.size) cap*i.bytes≤281474976710656:=by
    exact growslice_fits (by omega) (by have:=Nat.mul_le_mul (show n+s.size≤274877906944 by omega) hb;omega)
   have hr:=Lib.run_append_grow_string (P:=P) w t t' ty te i z hu hu' hi hz ⟨g,0,none⟩ n cap xs (by rw [hsize];simpa using hxl) holds s (by omega) (by omega) hcap
   have hgr:=grown cap (by omega) (Value.ownBlock (.slice (some ⟨g,0,none⟩) n cap))
   exact⟨_,_,_,hr,hgr.1,hgr.2,.inr rfl,hfin _⟩
theorem NT {x:Type} {f:PV→Option x} : ∀{ts:List aw} {vs:List PV} {y:EL2 x ts},un2 f ts vs=some y→vs.length=ts.length+1:=by
 intro ts
 induction ts generalizing x f with
 | nil=>
   intro vs y h
   obtain⟨v,rfl, -⟩:=AZ h
   rfl
 | cons t ts ih=>
   intro vs y h
   rcases vs with _ | ⟨v,vs⟩
   ·exact (KP h).elim
   ·obtain⟨a,c, -,hc, -⟩:=xe h
    have:=ih hc
    simp only [tlP] at this
    simp [this]
theorem Bc {sh:List aw} {vs:List PV} {y:El sh} (h:unE sh vs=some y):vs.length=sh.length:=by
 cases sh with
 | nil=>cases h
 | cons t ts=>exact NT h
theorem xu {sh:List aw} {L:List (El sh)} {t:TypeId} {cs:Array Value} {cap:Nat} {pre:List Prop} (hn : ¬e.on nx) (hz : ∀b,e.fz b→b<w.heap.size) (hcs:cs.size=cap*sh.length) (hle:L.length≤cap∧cap≤maxLen)
 (hL : ∀i x,L[i]? =some x→RE (w.alloc (.cells cs t)) e.fz sh w.heap.size (i*sh.length) x) (hr:(execOp a.eval o).run P w=.ok (.value (.slice (some ⟨w.heap.size,0,none⟩) L.length cap)) (w.alloc (.cells cs t))):dZ P o a w e nx ⟨pre,.osl nx,[(nx,.own sh L t)]⟩:=by
 unfold dZ Oper.wp
 rw [hr]
 obtain⟨E,hE⟩ : ∃E:Env,E={ adr:=fun k=>if k=nx then some ⟨w.heap.size,0,none⟩ else e.adr k,cap:=fun k=>if k=nx then cap else e.cap k,len:=fun k=>if k=nx then L.length else e.len k,fz:=e.fz,on:=fun k=>k=nx∨e.on k,lv:=fun k=>k=nx∨e.lv k }:=⟨_,rfl⟩
 have hLe:e.Le E:=by
  subst hE
  exact⟨fun k hk=>.inr hk,fun k hk=>if_neg fun h:k=nx=>hn (h ▸ hk),fun k hk=>if_neg fun h:k=nx=>hn (h ▸ hk),fun k hk=>if_neg fun h:k=nx=>hn (h ▸ hk),fun b hb=>hb⟩
 have hEa:E.adr nx=some ⟨w.heap.size,0,none⟩:=by subst hE;exact if_pos rfl
 have hEc:E.cap nx=cap:=by subst hE;exact if_pos rfl
 have hEl:E.len nx=L.length:=by subst hE;exact if_pos rfl
 have hEf:E.fz=e.fz:=by subst hE;rfl
 have hEo : ∀k,E.on k↔k=nx∨e.on k:=fun k=>by subst hE;exact Iff.rfl
 have hEv : ∀k,E.lv k↔k=nx∨e.lv k:=fun k=>by subst hE;exact Iff.rfl
 have hget : ∀k o',AH.get [(nx,Ob.own sh L t)] k=some o'→k=nx∧o'=.own sh L t:=fun k o' hk=>by
  unfold AH.get at hk
  split at hk
  ·rename_i hkk;exact⟨(by simpa using hkk:nx=k).symm,by cases hk;rfl⟩
  ·cases hk
 refine⟨_,E,rfl,?_,hLe,.of fun b hb=>by rw [hEf] at hb;exact hb,?_,?_,?_,fun k hk=>.inl ((hEv k).2 (.inr hk)),?_,.of_below ((Below.refl _ _).alloc (Nat.le_refl _) _)⟩
 ·unfold R;exact⟨(hEo nx).2 (.inl rfl),by rw [hEa,hEc,hEl]⟩
 ·intro k o' hk
  obtain⟨rfl,rfl⟩:=hget k o' hk
  exact⟨⟨hEl,.inr ⟨_,cs,hEa,fun hf=>by rw [hEf] at hf;exact absurd (hz _ hf) (Nat.lt_irrefl _),heap_alloc_new w _,by rw [hEc];exact hcs,by rw [hEc];exact hle,by rw [hEf];exact hL⟩⟩,(hEo _).2 (.inl rfl),fun _=>(hEv _).2 (.inl rfl)⟩
 ·intro k hk
  rcases (hEo k).1 hk with rfl | hk
  ·exact .inr ⟨Nat.le_refl _,by simp [AH.get]⟩
  ·exact .inl hk
 ·intro k hk
  rcases (hEv k).1 hk with rfl | hk
  ·refine .inr ⟨hn,(hEo _).2 (.inl rfl),fun b ⟨x,h1,h2⟩=>?_⟩
   rw [hEa] at h1
   cases h1
   subst h2
   exact⟨nt (heap_alloc_new w _),.inl (Nat.le_refl _)⟩
  ·exact .inl hk
 ·intro k k' b hk hk1 hk' hk1' _ _
  rw [((hEv k).1 hk).resolve_right hk1,((hEv k').1 hk').resolve_right hk1']
theorem FM {sh:List aw} : ∀{ps:List (Nat×PV)} {k:Nat} {L:List (El sh)} {us:List (Nat×Value)},lits sh k ps=some L→us.map (·.1)=ps.map (·.1)→Rs w e (ps.map (·.2)) (us.map (·.2))→
 us=((us.map (·.2)).zipIdx k).map (fun x=>(x.2,x.1))∧L.length=us.length∧(∀v∈us.map (·.2),v.cells.size=sh.length)∧∀(i:Nat) (x:El sh),L[i]? =some x→∃(v:Value) (vs:List PV),(us.map (·.2))[i]? =some v∧unE sh vs=some x∧Rs w e vs v.cells.toList
 | [],k,L,us,h,h1,_=>by
   have : us=[]:=by simpa using h1
   subst this
   simp only [lits,Option.some.injEq] at h
   subst h
   exact⟨rfl,rfl,by simp,fun i x hx=>by simp at hx⟩
 | (i,v)::ps,k,L,[],h,h1,_=>by simp at h1
 | (i,v)::ps,k,L,(i',u)::us,h,h1,h2=>by
   simp only [List.map_cons,List.cons.injEq] at h1
   obtain⟨rfl,h1⟩:=h1
   simp only [List.map_cons] at h2
   unfold Rs at h2
   obtain⟨u',us',h3,h4,h5⟩:=h2
   cases h3
   unfold lits at h
   split at h
   ·rename_i hk
    have hk:=Nat.eq_of_beq_eq_true hk
    subst hk
    split at h
    ·rename_i vs hcs
     split at h
     ·rename_i y L' hy hL'
      cases h
      obtain⟨q1,q2,q3,q4⟩:=FM hL' h1 h5
      have hRc:=pT hcs h4
      have hl:=bm hRc
      refine⟨?_,by simp [q2],?_,?_⟩
      ·rw [List.map_cons,List.zipIdx_cons,List.map_cons,←q1]
      ·intro v' hv'
       rw [List.map_cons] at hv'
       rcases List.mem_cons.1 hv' with rfl | hv'
       ·have:=Bc hy
        simp only [Array.length_toList] at hl
        omega
       ·exact q3 v' hv'
      ·intro j x hx
       cases j with
       | zero=>simp at hx;subst hx;exact⟨u,vs,rfl,hy,hRc⟩
       | succ j=>
         obtain⟨v',vs',r1,r2,r3⟩:=q4 j x (by simpa using hx)
         exact⟨v',vs',by simpa using r1,r2,r3⟩
     ·cases h
    ·cases h
   ·cases h
theorem I5 {t te:TypeId} {ti:TI} {sh:List aw} {n:Nat} {parts:Array (Nat×Value)} {ps:List (Nat×PV)} {L:List (El sh)} {pre:List Prop} (hu:P.underlying t=some (.slice te)) (ht:ra P te ti) (hok:sm ti sh=true) (h64:n≤64) (hn : ¬e.on nx) (hz : ∀b,e.fz b→b<w.heap.size)
 (hL:lits sh 0 ps=some L) (hlen:L.length=n) (h1:parts.toList.map (·.1)=ps.map (·.1)) (h2:Rs w e (ps.map (·.2)) (parts.toList.map (·.2)))
 (hrun : ∀v w',(Instr.buildSlice t n parts).run P w=.ok v w'→(execOp a.eval o).run P w=.ok (.value v) w'):dZ P o a w e nx ⟨pre,.osl nx,[(nx,.own sh L te)]⟩:=by
 unfold sm at hok
 simp only [Bool.and_eq_true,Nat.blt_eq,Nat.ble_eq] at hok
 obtain⟨k1,k2,k3,k4⟩:=hok
 have k1:ti.n=sh.length:=Nat.eq_of_beq_eq_true k1
 have k4:ti.z.length=ti.n:=Nat.eq_of_beq_eq_true k4
 obtain⟨i,hi,hin,z,hzz,hzo⟩:=ht.info
 have hpos:0<sh.length:=by omega
 have hzs:z.cells.size=sh.length:=by
  have:=bm (nK w e _ _ hzo)
  simp only [Array.length_toList] at this
  omega
 obtain⟨q1,q2,q3,q4⟩:=FM hL h1 h2
 have hsz:i.size=sh.length:=by omega
 have hpl:parts.toList.length=n:=by omega
 obtain⟨r,hr1,hr2,hr3⟩ : ∃r:Array Value,(Instr.buildSlice t n parts).run P w=.ok (.slice (some ⟨w.heap.size,0,none⟩) n n) (w.alloc (.cells r te))∧r.size=n*sh.length∧
  ∀i v,(parts.toList.map (·.2))[i]? =some v→∀j,j<sh.length→r[i*sh.length+j]? =v.cells[j]? :=by
  by_cases h0:n=0
  ·subst h0
   have : parts=#[]:=by simpa using hpl
   subst this
   refine⟨#[],?_,by simp,fun i v h=>by simp at h⟩
   simp [Instr.buildSlice,run_underlying hu,sizeOf,typeInfo,hi,newRow,Instr.fill,show Array.range 0=(#[]:Array Nat) from rfl]
  ·obtain⟨r,hr,hrs,hrk⟩:=Go.Great.fill_dense (s:=i.size) (by omega) (parts.toList.map (·.2)) 0 ((Array.range (n*i.size)).map (z.cells[· % z.cells.size]!)) (by rw [hsz];exact q3) (by simp [hpl])
   rw [←q1] at hr
   refine⟨r,Go.run_buildSlice w t te n _ r i z hu hi hzz (by
    have : n*i.size≤64*40:=Nat.mul_le_mul h64 (by omega)
    omega) (by rw [hsz];exact Nat.ne_of_gt (Nat.mul_pos (by omega) hpos)) hr,by rw [hrs];simp [hsz],fun k v hk j hj=>?_⟩
   have hkl:=(List.getElem?_eq_some_iff.1 hk).1
   rw [List.length_map,hpl] at hkl
   have e1:(k*sh.length+j)/sh.length=k:=by
    rw [Nat.add_comm,Nat.mul_comm,Nat.add_mul_div_left _ _ hpos,Nat.div_eq_of_lt hj,Nat.zero_add]
   have e2:(k*sh.length+j)%sh.length=j:=by
    rw [Nat.add_comm,Nat.mul_comm,Nat.add_mul_mod_self_left,Nat.mod_eq_of_lt hj]
   rw [hrk,if_pos,hsz,e1,e2,Nat.sub_zero,hk]
   ·rfl
   ·refine⟨by omega,?_⟩
    rw [List.length_map,hpl,hsz,Nat.zero_add]
    calc k*sh.length+j<(k+1)*sh.length:=by rw [Nat.succ_mul];omega
     _≤n*sh.length:=Nat.mul_le_mul_right _ hkl
 subst hlen
 refine xu (cs:=r) (cap:=L.length) hn hz hr2 ⟨Nat.le_refl _,by unfold maxLen;omega⟩ (fun k x hx=>?_) (hrun _ _ hr1)
 obtain⟨v,vs,r1,r2,r3⟩:=q4 k x hx
 have hsame:Same e.fz w (w.alloc (.cells r te)):=qX hz _
 refine EC (e:=e) (fun _ h=>h) r2 (gD hsame (.refl e) vs _ r3) fun j u hj=>?_
 rw [cell_of_row _ w.heap.size _ r te _ (heap_alloc_new w _),hr3 k v r1 j (by
  have:=Bc r2
  have h5:=bm r3
  have:=(List.getElem?_eq_some_iff.1 hj).1
  omega)]
 simpa using hj
end
open Go.RowKit
section
variable {P:Program} {c:Cx} {o:Oper} {ρ:Operand→PV} {h:AH} {nx:Nat} {out:Out} {a:Act} {w:World} {e:Env}
theorem AC {l m:List PV} {us vs:List Value} (h:Rs w e l us) (k:Rs w e m vs):Rs w e (l++m) (us++vs):=by
 induction l generalizing us with
 | nil=>unfold Rs at h;subst h;exact k
 | cons p ps ih=>
   unfold Rs at h
   obtain⟨u,us',rfl,h1,h2⟩:=h
   rw [List.cons_append,List.cons_append]
   unfold Rs
   exact⟨u,_,rfl,h1,ih h2⟩
theorem oK {f:Operand} {args:Array Operand} {ts:Array TypeId} {g:FuncId} {fn:Func} {cs:Array Value} (ho:o.op=.call ⟨.value f,args,ts⟩) (hf:a.eval f=.func (.func g) #[] cs)
 (hg:P.funcs[g]? =some fn) (hn:(fn.name=="runtime.NumGoroutine")=false) (hb:fn.body.isNone=false):(execOp a.eval o).run P w=.ok (.enter g (args.map a.eval++cs)) w:=by
 unfold execOp
 simp only [ho,resolve,hf,Deferred.ofValue,Sem.run_bind,Sem.run_pure,Result.andThen_ok,invoke,callFunc,program,Sem.run,hg]
 simp [hn,hb,Sem.run]
def Uc (e e':Env) (nx n:Nat) (p lv fz:Nat→Prop) [DecidablePred p]:Env:=
 { adr:=fun k=>if p k then e'.adr (k-nx+n) else e.adr k,cap:=fun k=>if p k then e'.cap (k-nx+n) else e.cap k,len:=fun k=>if p k then e'.len (k-nx+n) else e.len k,fz:=fz,on:=fun k=>e.on k∨p k,lv:=lv }
theorem sQ {ρ:List Nat} {nx k:Nat} (h:k<ρ.length):mv ρ nx k=look ρ k:=by unfold mv;rw [if_pos (by simpa using h)]
theorem tC {ρ:List Nat} {nx k:Nat} (h:ρ.length≤k):mv ρ nx k=nx+(k-ρ.length):=by unfold mv;rw [if_neg (by simp;omega)]
structure Cn (w:World) (e e0:Env) (ρ:List Nat) (nx:Nat):Prop where
 on : ∀k,e0.on k→k<ρ.length∧e.on (look ρ k)∧e0.adr k=e.adr (look ρ k)∧e0.cap k=e.cap (look ρ k)∧e0.len k=e.len (look ρ k)
 lv : ∀k,e0.lv k→e0.on k∧e.lv (look ρ k)
 vl : ∀k,k<ρ.length→e.lv (look ρ k)→e0.lv k
 inj : ∀i j,i<ρ.length→j<ρ.length→look ρ i=look ρ j→i=j
 lt : ∀k,k<ρ.length→look ρ k<nx
 le : ∀b,e.fz b→e0.fz b
 z:FzW w e0.fz
theorem y9 {e0 e':Env} {ρ:List Nat} {w':World} {v:Value} (hcn:Cn w e e0 ρ nx) (hpost:fW w w' e0 e' ρ.length out v)
 (hro:(∀b,e0.fz b→e.fz b)∨out.v.ro=false∧roH out.eff=false) (hfresh : ∀k,nx≤k→((rnH (mv ρ nx) out.eff).get k).isSome =true→¬e.on k) {pre:List Prop} :
 ∃E,fW w w' e E nx ⟨pre,out.v.rn (mv ρ nx),rnH (mv ρ nx) out.eff⟩ v:=by
 classical
 have hlow:=hpost.chg
 have hcon : ∀k,e'.on k→ρ.length≤k→(out.eff.get k).isSome =true:=fun k hk hn=>((hpost.new k hk).resolve_left fun h=>absurd (hcn.on k h).1 (Nat.not_lt.2 hn)).2
 have hold : ∀k,e'.on k→k<ρ.length→e0.on k:=fun k hk hn=>(hpost.new k hk).resolve_right fun h=>absurd hn (Nat.not_lt.2 h.1)
 have hfresh : ∀k,nx≤k∧e'.on (k-nx+ρ.length)→¬e.on k:=fun k hk=>hfresh k hk.1 (by
  have:=s6 (n:=mv ρ nx) (hcon _ hk.2 (Nat.le_add_left _ _))
  rw [tC (Nat.le_add_left _ _)] at this
  rwa [show nx+(k-nx+ρ.length-ρ.length)=k from by omega] at this)
 obtain⟨E,hE⟩ : ∃E,E=Uc e e' nx ρ.length (fun k=>nx≤k∧e'.on (k-nx+ρ.length)) (fun K=>(e.lv K∧∀k,k<ρ.length→look ρ k=K→e'.lv k)∨∃k,K=nx+(k-ρ.length)∧ρ.length≤k∧e'.on k∧e'.lv k) (fun b=>e.fz b∨(e'.fz b∧w.heap.size≤b∧b<w'.heap.size)):=⟨_,rfl⟩
 have hElv : ∀K,E.lv K↔(e.lv K∧∀k,k<ρ.length→look ρ k=K→e'.lv k)∨∃k,K=nx+(k-ρ.length)∧ρ.length≤k∧e'.on k∧e'.lv k:=fun K=>by rw [hE];exact Iff.rfl
 have hEold : ∀k,k<nx→(E.adr k=e.adr k∧E.cap k=e.cap k∧E.len k=e.len k):=fun k hk=>by
  subst hE
  exact⟨if_neg (by omega),if_neg (by omega),if_neg (by omega)⟩
 have hEnew : ∀k,e'.on k→ρ.length≤k→(E.on (nx+(k-ρ.length))∧E.adr (nx+(k-ρ.length))=e'.adr k∧E.cap (nx+(k-ρ.length))=e'.cap k∧E.len (nx+(k-ρ.length))=e'.len k):=fun k hk hn=>by
  have hp:nx≤nx+(k-ρ.length)∧e'.on (nx+(k-ρ.length)-nx+ρ.length):=⟨Nat.le_add_right _ _,by rw [show nx+(k-ρ.length)-nx+ρ.length=k from by omega];exact hk⟩
  have hkk:nx+(k-ρ.length)-nx+ρ.length=k:=by omega
  subst hE
  refine⟨.inr hp,?_,?_,?_⟩
  ·show (if _ then _ else _)=_;rw [if_pos hp,hkk]
  ·show (if _ then _ else _)=_;rw [if_pos hp,hkk]
  ·show (if _ then _ else _)=_;rw [if_pos hp,hkk]
 have hLe:e.Le E:=by
  subst hE
  exact⟨fun k hk=>.inl hk,fun k hk=>if_neg fun hh=>hfresh k hh hk,fun k hk=>if_neg fun hh=>hfresh k hh hk,fun k hk=>if_neg fun hh=>hfresh k hh hk,fun b hb=>.inl hb⟩
 have hEfz : ∀b,E.fz b↔e.fz b∨(e'.fz b∧w.heap.size≤b∧b<w'.heap.size):=fun b=>by subst hE;exact Iff.rfl
 have hEon : ∀k,E.on k→e.on k∨∃k',k=nx+(k'-ρ.length)∧ρ.length≤k'∧e'.on k':=by
  subst hE
  rintro k (hk | ⟨hk,h⟩)
  ·exact .inl hk
  ·exact .inr ⟨k-nx+ρ.length,by omega,by omega,h⟩
 have hsh:Sh (mv ρ nx) e' E:=by
  have key : ∀k,e'.on k→E.on (mv ρ nx k)∧E.adr (mv ρ nx k)=e'.adr k∧E.cap (mv ρ nx k)=e'.cap k∧E.len (mv ρ nx k)=e'.len k:=fun k hk=>by
   by_cases hn:k<ρ.length
   ·have h0:=hold k hk hn
    obtain⟨-,q1,q2,q3,q4⟩:=hcn.on k h0
    obtain⟨r1,r2,r3⟩:=hEold _ (hcn.lt k hn)
    rw [sQ hn,r1,r2,r3,hpost.le.adr k h0,hpost.le.cap k h0,hpost.le.len k h0]
    exact⟨hLe.on _ q1,q2.symm,q3.symm,q4.symm⟩
   ·rw [tC (Nat.le_of_not_lt hn)]
    exact hEnew k hk (Nat.le_of_not_lt hn)
  exact⟨fun k hk=>(key k hk).1,fun k hk=>(key k hk).2.1,fun k hk=>(key k hk).2.2.1,fun k hk=>(key k hk).2.2.2⟩
 have hblk : ∀k b,e'.on k→ρ.length≤k→E.blk (nx+(k-ρ.length)) b→e'.blk k b:=fun k b hk hn ⟨x,hx,hb⟩=>⟨x,by rw [←(hEnew k hk hn).2.1];exact hx,hb⟩
 have hro:(∀b,e'.fz b→E.fz b)∨out.v.ro=false∧roH out.eff=false:=hro.imp (fun hro b hb=>by
  rw [hEfz]
  exact (hpost.fz.fz b hb).imp (hro b) fun q=>⟨hb,q⟩) id
 have hrov:(∀b,e'.fz b→E.fz b)∨out.v.ro=false:=hro.imp id (·.1)
 have hEnf:FzP w w' e E:=by
  refine⟨fun b hb=>((hEfz b).1 hb).imp id (·.2),fun k b hk hk0 hb hf=>((hEfz b).1 hf).resolve_right fun q=>?_⟩
  obtain⟨k',rfl,hn,h4,h5⟩:=((hElv k).1 hk).resolve_left fun h=>hk0 h.1
  have:=hpost.fz.nf k' b h5 (fun h=>absurd (hcn.on k' (hcn.lv k' h).1).1 (Nat.not_lt.2 hn)) (hblk k' b h4 hn hb) q.1
  exact absurd (hcn.z.lt b this) (Nat.not_lt.2 q.2.1)
 refine⟨E,Bl hsh out.v v hrov hpost.val,hLe,hEnf,?_,?_,?_,?_,?_,⟨hlow.os,hlow.tape,hlow.output,hlow.size,fun b hb hM=>hlow.block b hb fun ⟨k,hk,hks,x,hx,hxb⟩=>hM ?_⟩⟩
 ·intro k ob hk
  obtain⟨k',o',rfl,h4,h5,h6⟩:=pY hk
  obtain⟨h7,h8,h8g⟩:=hpost.eff k' o' h4
  refine⟨?_,hsh.on k' h8,fun hg=>?_⟩
  case refine_2=>
   have hl:e'.lv k':=h8g (by rw [←hg,h5,mz])
   rw [hElv]
   by_cases hn:k'<ρ.length
   ·refine .inl ⟨?_,fun j hj hjk=>?_⟩
    ·rw [sQ hn]
     exact (hcn.lv k' ((hpost.nlv k' hl).resolve_right fun h=>h.1 (hold k' h8 hn))).2
    ·rw [sQ hn] at hjk
     rw [hcn.inj j k' hj hn hjk];exact hl
   ·exact .inr ⟨k',tC (Nat.le_of_not_lt hn),Nat.le_of_not_lt hn,h8,hl⟩
  have hnf : ∀b,¬e'.fz b→¬E.fz b:=fun b hb hfz=>by
   rcases (hEfz b).1 hfz with q | q
   ·exact hb (hpost.le.fz b (hcn.le b q))
   ·exact hb q.1
  cases o' with
  | cells lc ty=>
    obtain⟨b,vs,q1,q2,q3,q4⟩:=h7
    subst h5
    refine⟨b,vs,by rw [hsh.adr k' h8];exact q1,hnf b q2,q3,oI hsh lc _ ?_ q4⟩
    rcases hro with hro | hro
    ·exact .inl hro
    ·exact .inr (h6 hro.2)
  | own sh L ty=>
    obtain⟨q0,q⟩:=h7
    subst h5
    refine⟨by rw [hsh.len k' h8];exact q0,?_⟩
    rcases q with ⟨q1,q2,q3⟩ | ⟨b,vs,q1,q2,q3,q4,q5,q6⟩
    ·exact .inl ⟨by rw [hsh.adr k' h8];exact q1,q2,by rw [hsh.cap k' h8];exact q3⟩
    ·refine .inr ⟨b,vs,by rw [hsh.adr k' h8];exact q1,hnf b q2,q3,by rw [hsh.cap k' h8];exact q4,by rw [hsh.cap k' h8];exact q5,fun i x hx=>?_⟩
     rcases hro with hro | hro
     ·exact EK hro (q6 i x hx)
     ·exact Ga (h6 hro.2) (q6 i x hx)
  | arr k n L ty=>
    obtain⟨q,h0,b,vs,fr,q1,q2,q3,q4,q5,q6,q7,q8⟩:=h7
    subst h5
    exact⟨q,by rw [hsh.len k' h8];exact h0,b,vs,fr,by rw [hsh.adr k' h8];exact q1,hnf b q2,q3,q4,by rw [hsh.cap k' h8];exact q5,q6,q7,q8⟩
  | it l k=>
    obtain⟨q0,q1,b,q2,q3,q4⟩:=h7
    subst h5
    exact⟨q0,q1,b,by rw [hsh.adr k' h8];exact q2,hnf b q3,q4⟩
  | gone=>rw [h5];trivial
 ·intro k hk
  rcases hEon k hk with h4 | ⟨k',rfl,hn,h4⟩
  ·exact .inl h4
  ·refine .inr ⟨by omega,?_⟩
   have:=s6 (n:=mv ρ nx) (hcon k' h4 hn)
   rwa [tC hn] at this
 ·intro k hk
  rcases (hElv k).1 hk with h4 | ⟨k',rfl,hn,h4,h5⟩
  ·exact .inl h4.1
  ·refine .inr ⟨hfresh _ ⟨by omega,by rw [show nx+(k'-ρ.length)-nx+ρ.length=k' from by omega];exact h4⟩,(hEnew k' h4 hn).1,fun b hb=>?_⟩
   obtain⟨-, -,h6⟩:=(hpost.nlv k' h5).resolve_left fun h=>absurd (hcn.on k' (hcn.lv k' h).1).1 (Nat.not_lt.2 hn)
   obtain⟨h7,h8⟩:=h6 b (hblk k' b h4 hn hb)
   refine⟨h7,h8.imp id fun ⟨j,q1,q2,q3⟩=>?_⟩
   obtain⟨r1,r2⟩:=hcn.lv j q1
   obtain⟨s1, -,s3, -, -⟩:=hcn.on j r1
   refine⟨look ρ j,r2,fun h=>?_,?_⟩
   ·rcases (hElv _).1 h with h9 | ⟨k2,h9, -⟩
    ·exact q2 (h9.2 j s1 rfl)
    ·have:=hcn.lt j s1;omega
   ·obtain⟨x,hx,hxb⟩:=q3
    exact⟨x,s3 ▸ hx,hxb⟩
 ·intro k hk
  by_cases hall : ∀j,j<ρ.length→look ρ j=k→e'.lv j
  ·exact .inl ((hElv k).2 (.inl ⟨hk,hall⟩))
  ·refine .inr ?_
   obtain⟨j,hj⟩:=Classical.not_forall.1 hall
   obtain⟨h4,hj⟩:=Classical.not_imp.1 hj
   obtain⟨rfl,h5⟩:=Classical.not_imp.1 hj
   have h6:=(hpost.klv j (hcn.vl j h4 hk)).resolve_left h5
   have:=Jz (n:=mv ρ nx) (fun i hi hij=>?_) h6
   ·rwa [sQ h4] at this
   ·by_cases hn:i<ρ.length
    ·rw [sQ hn,sQ h4] at hij
     exact hcn.inj i j hn h4 hij
    ·rw [tC (Nat.le_of_not_lt hn),sQ h4] at hij
     have:=hcn.lt j h4
     omega
 ·intro k k' b hk hk1 hk' hk1' hb hb'
  obtain⟨j,rfl,hn,hj,hjl⟩:=((hElv k).1 hk).resolve_left fun h=>hk1 h.1
  obtain⟨j',rfl,hn',hj',hjl'⟩:=((hElv k').1 hk').resolve_left fun h=>hk1' h.1
  rw [hpost.dis j j' b hjl (fun h=>absurd (hcn.on j (hcn.lv j h).1).1 (Nat.not_lt.2 hn)) hjl' (fun h=>absurd (hcn.on j' (hcn.lv j' h).1).1 (Nat.not_lt.2 hn')) (hblk j b hj hn hb) (hblk j' b hj' hn' hb')]
 ·obtain⟨r1,r2⟩:=hcn.lv k hk
  obtain⟨q0,q1,q2, -, -⟩:=hcn.on k r1
  refine⟨look ρ k,r2,?_,x,q2 ▸ hx,hxb⟩
  have:=s6 (n:=mv ρ nx) hks
  rwa [sQ q0] at this
theorem m6 {vals:Array Value} {g:FuncId} {e0:Env} {ρ:List Nat} (hrun:(execOp a.eval o).run P w=.ok (.enter g vals) w) (hcn:Cn w e e0 ρ nx)
 (hcall:Calls P g vals w fun en w'=>∃v e',en=.returned v∧fW w w' e0 e' ρ.length out v)
 (hro:(∀b,e0.fz b→e.fz b)∨out.v.ro=false∧roH out.eff=false) (hfresh : ∀k,nx≤k→((rnH (mv ρ nx) out.eff).get k).isSome =true→¬e.on k) :
 dZ P o a w e nx ⟨out.pre,out.v.rn (mv ρ nx),rnH (mv ρ nx) out.eff⟩:=by
 unfold dZ Oper.wp
 rw [hrun,Oper.upon_enter]
 refine hcall.mono ?_
 rintro en w' ⟨v,e',rfl,hpost⟩
 obtain⟨E,hE⟩:=y9 hcn hpost hro hfresh (pre:=out.pre)
 exact⟨v,E,rfl,hE⟩
theorem Lp {vals:Array Value} {g:FuncId} {e0:Env} {pre:List Prop} {sh:List aw} {L:List (El sh)} {ty:TypeId} (hrun:(execOp a.eval o).run P w=.ok (.enter g vals) w) (hlv : ∀k,¬e0.lv k) (hon : ∀k,¬e0.on k) (hfl:gU sh=true)
 (hcall:Calls P g vals w fun en w'=>∃v e',en=.returned v∧fW w w' e0 e' 0 ⟨pre,.osl 0,[(0,.own sh L ty)]⟩ v) :
 dZ P o a w e nx ⟨pre,.rsl sh L,[]⟩:=by
 unfold dZ Oper.wp
 rw [hrun,Oper.upon_enter]
 refine hcall.mono ?_
 rintro en w' ⟨v,e',rfl,hP⟩
 obtain⟨h1,h2,h3⟩:=hP.eff 0 (.own sh L ty) (by simp [AH.get])
 have hnew : ∀b,e'.blk 0 b→w.heap.size≤b∧b<w'.heap.size:=fun b hb=>by
  obtain⟨-, -,h4⟩:=(hP.nlv 0 (h3 rfl)).resolve_left (hlv 0)
  obtain⟨h5,h6⟩:=h4 b hb
  exact⟨h6.resolve_right fun ⟨j,hj,_⟩=>hlv j hj,h5⟩
 have hv:=hP.val
 refine⟨v,{ e with fz:=fun b=>e.fz b∨w.heap.size≤b∧b<w'.heap.size },rfl,?_,⟨fun _ h=>h,fun _ _=>rfl,fun _ _=>rfl,fun _ _=>rfl,fun b hb=>.inl hb⟩,⟨fun b hb=>hb,fun k b hk hk0=>absurd hk hk0⟩,fun k o' hk=>by simp [AH.get] at hk,fun k hk=>.inl hk,fun k hk=>.inl hk,fun k hk=>.inl hk,fun k k' b hk hk0=>absurd hk hk0,⟨hP.chg.os,hP.chg.tape,hP.chg.output,hP.chg.size,fun b hb _=>hP.chg.block b hb fun ⟨k,hk,_⟩=>hlv k hk⟩⟩
 unfold R at hv ⊢
 obtain⟨-,rfl⟩:=hv
 obtain⟨q0,q⟩:=h1
 rcases q with ⟨q1,q2,q3⟩ | ⟨b,vs,q1,q2,q3,q4,q5,q6⟩
 ·exact⟨e'.adr 0,e'.cap 0,by rw [q0],by rw [q2];exact Nat.zero_le _,fun i x hx=>by rw [q2] at hx;simp at hx⟩
 ·refine⟨e'.adr 0,e'.cap 0,by rw [q0],q5.1,fun i x hx=>⟨b,0,q1,.inr (hnew b ⟨_,q1,rfl⟩),?_⟩⟩
  rw [Nat.zero_add]
  exact Ga hfl (q6 i x hx)
theorem K3 {h:AH} {ρ:List Nat} {nx:Nat} {vs:List PV} (hsee:lO w e h) (hcl:closed h ρ nx vs=true) {us:List Value} (hvs:Rs w e vs us) : ∃e0,Cn w e e0 ρ nx∧e0.fz=e.fz∧(yX h ρ 0 ρ).length =ρ.length∧
 (∀id o,(yX h ρ 0 ρ).get id=some o→OR w e0 id o∧e0.on id)∧(∀k,e0.on k↔k<ρ.length)∧(∀k,e0.lv k↔k<ρ.length)∧(∀k b,e0.on k→e0.blk k b→b<w.heap.size∧¬e0.fz b)∧(∀k k' b,e0.on k→e0.on k'→e0.blk k b→e0.blk k' b→k=k')∧Rs w e0 (rnL (idx ρ) vs) us:=by
 unfold closed at hcl
 simp only [Bool.and_eq_true,List.all_eq_true,Nat.blt_eq] at hcl
 obtain⟨hnd,hall,hin⟩:=hcl
 have hlk : ∀j,j<ρ.length→look ρ j∈ρ:=fun j hj=>by
  unfold look
  rw [List.getD_eq_getElem?_getD,List.getElem?_eq_getElem hj]
  exact List.getElem_mem hj
 have hsome : ∀k∈ρ,∃x,h.get k=some x∧x.idIn ρ=true∧x.gn=false:=fun k hk=>by
  have:=(hall k hk).2
  split at this
  ·rename_i x hx;exact⟨x,hx,by simpa using this⟩
  ·cases this
 have hrn:=e.rn_ok (look ρ) ρ.length
 obtain⟨h1,h2⟩:=zJ (ρ:=ρ) ρ 0 fun k hk=>by obtain⟨x,hx, -⟩:=hsome k hk;rw [hx];rfl
 have hblk : ∀k b,(e.rn (look ρ) ρ.length).blk k b→e.blk (look ρ k) b:=fun k b hb=>hb
 have hon0 : ∀k,k<ρ.length→e.on (look ρ k):=fun k hk=>by
  obtain⟨y,hy, -⟩:=hsome _ (hlk k hk)
  exact (hsee.ob _ _ hy).2.1
 have hlv0 : ∀k,k<ρ.length→e.lv (look ρ k):=fun k hk=>by
  obtain⟨y,hy, -,hg⟩:=hsome _ (hlk k hk)
  exact (hsee.ob _ _ hy).2.2 hg
 refine⟨e.rn (look ρ) ρ.length,⟨fun k hk=>⟨hk.1,hk.2,rfl,rfl,rfl⟩,fun k hk=>⟨⟨hk.1,hon0 k hk.1⟩,hk.2⟩,fun k hk h=>⟨hk,h⟩,fun i j hi hj=>iA hnd hi hj,fun k hk=>(hall _ (hlk k hk)).1,fun b hb=>hb,hsee.fz⟩,rfl,h1,?_,fun k=>⟨fun hk=>hk.1,fun hk=>⟨hk,hon0 k hk⟩⟩,fun k=>⟨fun hk=>hk.1,fun hk=>⟨hk,hlv0 k hk⟩⟩,?_,?_,?_⟩
 ·intro id o hid
  obtain⟨j,x,rfl,hj,hx,rfl⟩:=h2 id o hid
  obtain⟨y,hy,hyin, -⟩:=hsome _ (hlk j hj)
  rw [show ρ.getD j 0=look ρ j from rfl,hy] at hx
  cases hx
  obtain⟨q1,q2⟩:=K0 hyin
  obtain⟨q3,q4, -⟩:=hsee.ob _ _ hy
  rw [Nat.zero_add]
  exact⟨Sd (yo hrn q2 (by rw [q1];exact q3)),hj,q4⟩
 ·rintro k b ⟨hk,hon⟩ hb
  obtain⟨y,hy, -,hg⟩:=hsome _ (hlk k hk)
  exact⟨rA hg (hsee.ob _ _ hy).1 b (hblk k b hb),O1 hg (hsee.ob _ _ hy).1 b (hblk k b hb)⟩
 ·rintro k k' b ⟨hk,hon⟩ ⟨hk',hon'⟩ hb hb'
  exact iA hnd hk hk' (hsee.dis _ _ b (hlv0 k hk) (hlv0 k' hk') (hblk k b hb) (hblk k' b hb'))
 ·obtain⟨q1,q2⟩:=lG vs hin
  exact th hrn _ _ q2 (by rw [q1];exact hvs)
theorem sk {x:Operand} {t:TypeId} {u:Value} (ho:o.op=.call ⟨.builtin .len,⟨[x]⟩,⟨[t]⟩⟩) (h:(Builtin.len_ #[t] o.type #[a.eval x]).run P w=.ok u w):(execOp a.eval o).run P w=.ok (.value u) w:=by
 unfold execOp
 simp only [ho,resolve,Sem.run_bind,Sem.run_pure,Result.andThen_ok,invoke,builtin]
 rw [show (Array.map a.eval { toList:=[x] })=#[a.eval x] from by simp,h]
 rfl
theorem yR {t:TypeId} (hu:P.underlying t=some .string) {l:List UInt8} {lo hi:Option Value} {m n:Nat} (h1:(match lo with | none=>m=0 | some v=>∃k,v=.int k m)) (h2:(match hi with | none=>n=l.length | some v=>∃k,v=.int k n)) (hmn:m≤n) (hn:n≤l.length) :
 (Instr.sliceAt t (sv l) lo hi none).run P w=.ok (sv ((l.take n).drop m)) w:=by
 have hsz:(ByteArray.mk l.toArray).size =l.length:=by simp [ByteArray.size]
 have hex:(ByteArray.mk l.toArray).extract m n=ByteArray.mk ((l.take n).drop m).toArray :=by rw [Fz,List.drop_take]
 rw [run_sliceAt_string w t _ _ _ _ hu]
 cases lo<;>cases hi
 all_goals simp only at h1 h2
 ·subst h1 h2
  simp [Instr.slice,Instr.sliceBounds,run_underlying hu,hsz,hex]
 ·subst h1
  obtain⟨k,rfl⟩:=h2
  simp [Instr.slice,Instr.sliceBounds,Instr.sliceBound,asIntOf,run_underlying hu,hsz,hn,hex]
 ·subst h2
  obtain⟨k,rfl⟩:=h1
  simp [Instr.slice,Instr.sliceBounds,Instr.sliceBound,asIntOf,run_underlying hu,hsz,hmn,hex]
 ·obtain⟨k,rfl⟩:=h1
  obtain⟨k',rfl⟩:=h2
  simp [Instr.slice,Instr.sliceBounds,Instr.sliceBound,asIntOf,run_underlying hu,hsz,hn,hmn,hex]
theorem ww {t:TypeId} {ti:TI} (ht:ra P t ti) {off:Nat} {l:List PV} {vs:Array Value} (hl:Rs w e l vs.toList) {p:PV} (hp:ldC ti l off=some p) :
 ∃u,(part t vs off).run P w=.ok u w∧R w e p u:=by
 obtain⟨⟨i,hi,hn, -⟩, -,d,hu,hag, -⟩:=ht
 unfold ldC at hp
 simp only at hp
 have hsl:=BL ti.n (Bu off hl)
 have hex:(vs.extract off (off+ti.n)).toList =(vs.toList.drop off).take ti.n:=by simp [Array.toList_extract,List.extract_eq_take_drop]
 rw [←hex] at hsl
 have h0 : ∀u us,(vs.extract off (off+ti.n)).toList =u::us→vs[off]? =some u:=fun u us h=>by
  rw [hex] at h
  have:=congrArg (fun z:List Value=>z[0]?) h
  simp only [List.getElem?_take,List.getElem?_drop,Nat.add_zero,List.getElem?_cons_zero] at this
  split at this
  ·simpa using this
  ·cases this
 generalize (l.drop off).take ti.n=r at hp hsl
 have hla:=z6 (w:=w) hu
 rw [hag] at hla
 split at hp
 ·split at hp
  ·rename_i ha
   cases hp
   rw [ha] at hla
   exact⟨.agg (vs.extract off (off+ti.n)),by simp [part,hla,eb hi,hn],by unfold R;exact⟨_,rfl,hsl⟩⟩
  ·rename_i ha
   have ha:ti.agg=false:=by simpa using ha
   rw [ha] at hla
   split at hp
   ·cases hp
    unfold Rs at hsl
    obtain⟨u,us',h1,h2,h3⟩:=hsl
    exact⟨u,by simp [part,hla,h0 u us' h1],h2⟩
   ·cases hp
 ·cases hp
theorem T0 {fz:Nat→Prop} (hz:e.fz=fz) : ∀(t:aw) (x:t.Ty) (v:Value),RA w fz t x v→R w e (t.pv x) v
 | .i _,x,v,h=>by unfold RA at h;unfold aw.pv R;exact h
 | .b,x,v,h=>by unfold RA at h;unfold aw.pv R;exact h
 | .s,x,v,h=>by unfold RA at h;unfold aw.pv R;exact h
 | .r sh,x,v,h=>by unfold RA at h;unfold aw.pv R;rw [hz];exact h
theorem KG {y:Type} {Q:y→Value→Prop} {f:y→PV} (hQ : ∀x v,Q x v→R w e (f x) v) : ∀{ts:List aw} {b o:Nat} {x:EL2 y ts},REs w e.fz Q ts b o x→Rc w e b o (mk2 f ts x)
 | [],b,o,x,h=>by
   unfold REs RE2 at h
   obtain⟨u,h1,h2⟩:=h
   unfold mk2 Rc Rc
   exact⟨⟨u,h1,hQ _ _ h2⟩,trivial⟩
 | t::ts,b,o,x,h=>by
   unfold REs RE2 at h
   obtain⟨⟨u,h1,h2⟩,h3⟩:=h
   unfold mk2 Rc
   exact⟨⟨u,h1,hQ _ _ h2⟩,KG (fun x v=>T0 rfl t x v) h3⟩
theorem Jx : ∀{sh:List aw} {b o:Nat} {x:El sh},RE w e.fz sh b o x→Rc w e b o (mk sh x)
 | [],b,o,x,_=>by unfold mk Rc;trivial
 | t::ts,b,o,x,h=>by
   unfold RE at h
   unfold mk
   exact KG (fun x v=>T0 rfl t x v) h
theorem bE {x:Sem Value} {u:Value} (hx:(execOp a.eval o)=(do pure (.value (←x)))) (h:x.run P w=.ok u w):(execOp a.eval o).run P w=.ok (.value u) w:=by
 rw [hx]
 simp [h]
theorem uY (off:Nat) : ∀(l:List Value) (k:Nat) (cells:Array Value),(l.zipIdx k).foldl (fun cs (x:Value×Nat)=>cs.setIfInBounds (off+x.2) x.1) cells=patch cells (off+k) l
 | [],_,_=>rfl
 | v::r,k,cells=>by
   rw [List.zipIdx_cons,List.foldl_cons,uY off r (k+1),patch]
   rfl
theorem Gj (hc:dD P c) {fs:List (Nat×TypeId)} {place:Nat→Option (Nat×Nat)} (hpl : ∀k off tf ti,fs[k]? =some (off,tf)→c.T tf=some ti→place k=some (off,ti.n)) :
 ∀(l:List (Nat×PV)) (us:List (Nat×Value)) (z r:List PV) (cells:Array Value),Ds c fs z l=some r→Rs w e z cells.toList→us.map (·.1)=l.map (·.1)→Rs w e (l.map (·.2)) (us.map (·.2))→
  ∃cells',Instr.fill place cells us=some cells'∧Rs w e r cells'.toList
 | [],us,z,r,cells,h,hz,h1,_=>by
   have : us=[]:=by simpa using h1
   subst this
   simp only [Ds,Option.some.injEq] at h
   subst h
   exact⟨cells,rfl,hz⟩
 | (k,v)::l,[],z,r,cells,h,hz,h1,_=>by simp at h1
 | (k,v)::l,(k',u)::us,z,r,cells,h,hz,h1,h2=>by
   simp only [List.map_cons,List.cons.injEq] at h1
   obtain⟨rfl,h1⟩:=h1
   simp only [List.map_cons] at h2
   unfold Rs at h2
   obtain⟨u',us',h3,h4,h5⟩:=h2
   cases h3
   unfold Ds at h
   split at h
   ·rename_i off tf hk
    split at h
    ·rename_i ti vs hti hcs
     split at h
     ·rename_i hck
      simp only [Bool.and_eq_true,beq_iff_eq,Nat.ble_eq] at hck
      obtain⟨hn,hle⟩:=hck
      have hRc:=pT hcs h4
      have hlen:=bm hRc
      have hzl:=bm hz
      simp only [Array.length_toList] at hlen hzl
      obtain⟨cells',h6,h7⟩:=Gj hc hpl l us (stC z off vs) r (patch cells off u.cells.toList) h (yx hz hRc hle) h1 h5
      refine⟨cells',?_,h7⟩
      unfold Instr.fill
      rw [hpl _ off tf ti hk hti]
      have hcond:((u.cells.size≠ti.n:Bool)||decide (off+u.cells.size>cells.size))=false:=by
       simp only [Bool.or_eq_false_iff,decide_eq_false_iff_not,ne_eq,Decidable.not_not]
       omega
      simp only [hcond,Bool.false_eq_true,if_false]
      rw [←h6]
      congr 1
      rw [←Array.foldl_toList,Array.toList_zipIdx]
      have:=uY off u.cells.toList 0 cells
      rw [Nat.add_zero] at this
      exact this
     ·cases h
    ·cases h
   ·cases h
theorem zu : ∀(l:List Field),(∀f∈l,(P.info? f.type).isSome =true)→∃places,l.mapM (fun f=>(P.info? f.type).map fun i=>(f.offset,i.size))=some places∧∀(k:Nat) (f:Field) (i:TypeInfo),l[k]? =some f→P.info? f.type=some i→places[k]? =some (f.offset,i.size)
 | [],_=>⟨[],rfl,fun k f i h=>by simp at h⟩
 | f::l,h=>by
   obtain⟨i,hi⟩:=Option.isSome_iff_exists.1 (h f (by simp))
   obtain⟨pl,h1,h2⟩:=zu l fun g hg=>h g (by simp [hg])
   refine⟨(f.offset,i.size)::pl,by simp [List.mapM_cons,hi,h1],fun k g j hk hj=>?_⟩
   cases k with
   | zero=>simp at hk;subst hk;rw [hi] at hj;cases hj;rfl
   | succ k=>simp at hk ⊢;exact h2 k g j hk hj
theorem Nw (hc:dD P c) (hs:Jq c o.op ρ h nx=some out) (hp : ∀p∈out.pre,p) (hρ : ∀x∈o.op.operands,R w e (ρ x) (a.eval x)) (hsee:lO w e h)
 (hfresh : ∀k,nx≤k→(out.eff.get k).isSome =true→¬e.on k):dZ P o a w e nx out:=by
 obtain⟨dst,op,ty,pos,aft,gd⟩:=o
 simp only at hs hρ
 have hcp:=hc.p
 unfold Jq at hs
 split at hs
 case h_1 x=>
  simp only [ok,Option.some.injEq] at hs
  subst hs
  exact am rfl (hρ x (by simp [Op.operands]))
 case h_2 x=>
  simp only [ok,Option.some.injEq] at hs
  subst hs
  exact am rfl (hρ x (by simp [Op.operands]))
 case h_3 z x y=>
  have hz:=hρ z (by simp [Op.operands])
  split at hs
  ·rename_i hb
   simp only [ok,Option.some.injEq] at hs
   subst hs
   rw [hb,HA] at hz
   exact am (by simp [execOp,hz,asBool]) (hρ x (by simp [Op.operands]))
  ·rename_i hb
   simp only [ok,Option.some.injEq] at hs
   subst hs
   rw [hb,Io] at hz
   exact am (by simp [execOp,hz,asBool]) (hρ y (by simp [Op.operands]))
  ·cases hs
 case h_4 t=>
  split at hs
  ·rename_i ti ht
   simp only [Option.some.injEq] at hs
   subst hs
   obtain⟨i,hi, -,z,hz,hzz⟩:=(hc.T t ti ht).info
   refine DP (hfresh nx (Nat.le_refl _) (by simp [AH.get])) hsee.fz.lt (nK w e _ _ hzz) ?_
   simp [execOp,Instr.alloc,zeroValue,typeInfo,hi,hz,newVar,newRow]
  ·cases hs
 case h_5 t x=>
  split at hs
  ·rename_i l hl
   simp only [Option.some.injEq] at hs
   subst hs
   refine DP (hfresh nx (Nat.le_refl _) (by simp [AH.get])) hsee.fz.lt (pT hl (hρ x (by simp [Op.operands]))) ?_
   simp [execOp,Instr.box,newVar,newRow]
  ·cases hs
 case h_6 t ps=>
  split at hs
  ·rename_i ti fs n z sh ht
   split at hs
   ·rename_i l hl
    simp only [ok,Option.some.injEq] at hs
    subst hs
    have hT:=hc.T t _ ht
    obtain⟨it,hit, -,zv,hzv,hzz⟩:=hT.info
    obtain⟨d',hu, -,hd⟩:=hT.und
    simp only at hd
    obtain⟨F,rfl,hF,hinfo⟩:=hd
    obtain⟨places,hpl,hpl2⟩:=zu (P:=P) F.toList fun f hf=>hinfo f (by simpa using hf)
    obtain⟨cells',h1,h2⟩:=Gj (w:=w) (e:=e) hc (place:=(places.toArray[·]?)) (fun k off tf ti hk hti=>by
     rw [←hF,List.getElem?_map] at hk
     obtain⟨fd,h1,h2⟩:=Option.map_eq_some_iff.1 hk
     cases h2
     obtain⟨i,hi,hin, -⟩:=(hc.T _ ti hti).info
     have:=hpl2 k fd i h1 hi
     rw [hin] at this
     simpa using this) (ps.toList.map fun q=>(q.1,ρ q.2)) (ps.toList.map fun q=>(q.1,a.eval q.2)) _ l zv.cells hl (nK w e _ _ hzz) (by simp) (by
      refine pM (by simp) fun i p u hp' hu=>?_
      simp only [List.map_map,List.getElem?_map,Option.map_eq_some_iff,Function.comp_apply] at hp' hu
      obtain⟨y,hy,rfl⟩:=hp'
      obtain⟨y',hy',rfl⟩:=hu
      rw [hy] at hy'
      cases hy'
      exact hρ y.2 (by
       have : y∈ps:=by rw [←Array.mem_toList_iff];exact List.mem_of_getElem? hy
       simp only [Op.operands,List.mem_toArray,List.mem_map]
       exact⟨y,by simpa using this,rfl⟩))
    refine am (u:=.agg cells') (bE rfl (run_build w t _ cells' ?_)) (by unfold R;exact⟨_,rfl,h2⟩)
    unfold Program.built
    simp only [hit,hu,hzv,hpl]
    simpa using h1
   ·cases hs
  ·cases hs
 case h_7 t n ps=>
  split at hs
  ·rename_i te _ _ sh ht
   obtain⟨d',hu, -,hd⟩:=(hc.T t _ ht).und
   simp only at hd
   subst hd
   split at hs
   ·rename_i ti hti
    split at hs
    ·rename_i hok
     rw [Bool.and_eq_true,Nat.ble_eq] at hok
     split at hs
     ·rename_i L hL
      split at hs
      ·rename_i hlen
       simp only [Option.some.injEq] at hs
       subst hs
       refine I5 (parts:=ps.map fun q=>(q.1,a.eval q.2)) hu (hc.T te ti hti) hok.1 hok.2 (hfresh nx (Nat.le_refl _) (by simp [AH.get])) hsee.fz.lt hL (Nat.eq_of_beq_eq_true hlen) (by simp [Function.comp_def]) ?_ fun v w' hr=>?_
       ·refine pM (by simp) fun i p u hp' hu'=>?_
        simp only [Array.toList_map,List.map_map,List.getElem?_map,Option.map_eq_some_iff,Function.comp] at hp' hu'
        obtain⟨y,hy,rfl⟩:=hp'
        obtain⟨y',hy',rfl⟩:=hu'
        rw [hy] at hy'
        cases hy'
        exact hρ _ (by
         have : y∈ps:=by rw [←Array.mem_toList_iff];exact List.mem_of_getElem? hy
         simp only [Op.operands,List.mem_toArray,List.mem_map]
         exact⟨y,by simpa using this,rfl⟩)
       ·unfold execOp
        simp only [Sem.run_bind,hr,Result.andThen_ok]
        rfl
      ·cases hs
     ·cases hs
    ·cases hs
   ·cases hs
  ·cases hs
 case h_8 t x=>
  split at hs
  ·rename_i ti ht
   have hx:=hρ x (by simp [Op.operands])
   have hT:=hc.T t ti ht
   split at hs
   ·rename_i id off hx'
    rw [hx'] at hx
    unfold R at hx
    obtain⟨hon,b,h1,h2⟩:=hx
    split at hs
    ·rename_i l ty hg
     obtain⟨v,hv,h3⟩:=Option.bind_eq_some_iff.1 hs
     simp only [ok,Option.some.injEq] at h3
     subst h3
     obtain⟨⟨b',vs,h4,h5,h6,h7⟩, -⟩:=hsee.ob _ _ hg
     rw [h1] at h4
     cases h4
     obtain⟨u,hu,hR⟩:=nM hT h7 (JZ h6) hv
     rw [Nat.zero_add] at hu
     exact am (by simp [execOp,Instr.loadAt,Instr.sureAddr,h2,hu]) hR
    ·cases hs
   ·rename_i l off hx'
    rw [hx'] at hx
    unfold R at hx
    obtain⟨b,o,h1,h2,h3⟩:=hx
    obtain⟨v,hv,h4⟩:=Option.bind_eq_some_iff.1 hs
    simp only [ok,Option.some.injEq] at h4
    subst h4
    obtain⟨vs,h5,h6⟩:=GD h3
    obtain⟨u,hu,hR⟩:=nM hT h5 h6 hv
    exact am (by simp [execOp,Instr.loadAt,Instr.sureAddr,h1,hu]) hR
   ·rename_i id ix st off hx'
    rw [hx'] at hx
    unfold R at hx
    obtain⟨hon,b,h1,h2⟩:=hx
    split at hs
    ·rename_i sh L ty' hg
     split at hs
     ·rename_i hst
      have hst:=Nat.eq_of_beq_eq_true hst
      subst hst
      split at hs
      ·rename_i v hv
       simp only [okp,Option.some.injEq] at hs
       subst hs
       rw [hcp] at hp hv ⊢
       simp only [List.mem_cons,List.not_mem_nil,or_false,forall_eq,std] at hp
       obtain⟨⟨h0,hO⟩, -⟩:=hsee.ob _ _ hg
       have hlt:ix.toNat<L.length:=by omega
       obtain⟨b',vs,h3,h4,h5,h6,h7,h8⟩:=hO.resolve_left fun h=>by rw [h1] at h;cases h.1
       rw [h1] at h3
       cases h3
       have hel:=h8 ix.toNat L[ix.toNat] (List.getElem?_eq_getElem hlt)
       have he:std.get (dE sh) L ix=L[ix.toNat]:=by
        show L.getD ix.toNat _=_
        rw [List.getD_eq_getElem?_getD,List.getElem?_eq_getElem hlt];rfl
       rw [he] at hv
       obtain⟨us,h9,h10⟩:=GD (Jx hel)
       obtain⟨u,hu,hR⟩:=nM hT h9 h10 hv
       exact am (by simp [execOp,Instr.loadAt,Instr.sureAddr,h2,hu]) hR
      ·cases hs
     ·cases hs
    ·cases hs
   ·cases hs
  ·cases hs
 case h_9 t x y=>
  have hx:=hρ x (by simp [Op.operands])
  have hy:=hρ y (by simp [Op.operands])
  split at hs
  ·rename_i id off hx'
   rw [hx'] at hx
   unfold R at hx
   obtain⟨hon,b,h1,h2⟩:=hx
   split at hs
   ·rename_i l ty' hg
    split at hs
    ·rename_i ti vs ht hcs
     split at hs
     ·rename_i hck
      simp only [Option.some.injEq] at hs
      subst hs
      simp only [Bool.and_eq_true,beq_iff_eq,Nat.ble_eq] at hck
      obtain⟨hc1,hc2,hc3⟩:=hck
      obtain⟨⟨b',old,h4,h5,h6,h7⟩, -⟩:=hsee.ob _ _ hg
      rw [h1] at h4
      cases h4
      have hRc:=pT hcs hy
      obtain⟨i,hi,hn, -⟩:=(hc.T t ti ht).info
      have hlen:=bm hRc
      have holen:=bm h7
      refine FB ((hsee.ob _ _ hg).2.2 rfl) hon h1 h5 h6 (yx h7 hRc hc3) ?_
      have hst:=np (P:=P) b off ty' (a.eval y).cells.toList 0 old w h6 (by rw [hlen];simp at holen;omega) (Bm hc2 hRc)
      rw [Nat.add_zero] at hst
      have hsz:(a.eval y).cells.size =i.size:=by rw [←Array.length_toList,hlen,hc1,hn]
      simp [execOp,Instr.storeAt,Instr.sureAddr,h2,storeVar,eb hi,hsz,hst]
     ·cases hs
    ·cases hs
   ·cases hs
  ·rename_i id ix st off hx'
   rw [hx'] at hx
   unfold R at hx
   obtain⟨hon,b,h1,h2⟩:=hx
   split at hs
   ·rename_i sh L ty' hg
    split at hs
    ·rename_i ti vs ht hcs
     split at hs
     ·rename_i hck
      split at hs
      ·rename_i y' hy'
       simp only [Option.some.injEq] at hs
       subst hs
       simp only [Bool.and_eq_true] at hck
       obtain⟨hc1,hc2,hc3,hc4⟩:=hck
       have hc1:=Nat.eq_of_beq_eq_true hc1
       have hc2:=Nat.eq_of_beq_eq_true hc2
       have hc3:=Nat.eq_of_beq_eq_true hc3
       subst hc1 hc2
       rw [hcp] at hp ⊢
       simp only [List.mem_cons,List.not_mem_nil,or_false,forall_eq,std] at hp
       have hOR:=(hsee.ob _ _ hg).1
       have hlt:ix.toNat<L.length:=by omega
       obtain⟨h0,hO⟩:=hOR
       obtain⟨b',old,h3,h4,h5,h6,h7,h8⟩:=hO.resolve_left fun h=>by rw [h1] at h;cases h.1
       rw [h1] at h3
       cases h3
       have hRc:=pT hcs hy
       obtain⟨i,hi,hn, -⟩:=(hc.T t ti ht).info
       have hlen:=bm hRc
       have hun:vs.length=sh.length:=Bc hy'
       have hul:(a.eval y).cells.toList.length =sh.length:=by rw [hlen,hun]
       have hcap:ix.toNat*sh.length+sh.length≤old.size:=by
        rw [h6]
        calc ix.toNat*sh.length+sh.length=(ix.toNat+1)*sh.length:=by rw [Nat.succ_mul]
         _≤e.cap id*sh.length:=Nat.mul_le_mul_right _ (by omega)
       refine Dn ((hsee.ob _ _ hg).2.2 rfl) (b:=b) (vs:=old) (us:=(a.eval y).cells.toList) hon hlt (hsee.ob _ _ hg).1 h1 h5 hy' hRc hul ?_
       have hst:=np (P:=P) b (ix.toNat*sh.length) ty' (a.eval y).cells.toList 0 old w h5 (by rw [hul];omega) (Bm hc4 hRc)
       rw [Nat.add_zero] at hst
       have hsz:(a.eval y).cells.size =i.size:=by rw [←Array.length_toList,hul,hn,hc3]
       simp [execOp,Instr.storeAt,Instr.sureAddr,h2,storeVar,eb hi,hsz,hst]
      ·cases hs
     ·cases hs
    ·cases hs
   ·cases hs
  ·cases hs
 case h_10 x=>
  have hx:=hρ x (by simp [Op.operands])
  split at hs
  ·rename_i i' o' hx'
   simp only [ok,Option.some.injEq] at hs
   subst hs
   rw [hx'] at hx
   have h2:=hx
   unfold R at h2
   obtain⟨-,b, -,h3⟩:=h2
   exact am (by simp [execOp,h3]) (h3 ▸ hx)
  ·rename_i i' o' hx'
   simp only [ok,Option.some.injEq] at hs
   subst hs
   rw [hx'] at hx
   have h2:=hx
   unfold R at h2
   obtain⟨b,_,h3, -⟩:=h2
   exact am (by simp [execOp,h3]) (h3 ▸ hx)
  ·rename_i i' j' s' o' hx'
   simp only [ok,Option.some.injEq] at hs
   subst hs
   rw [hx'] at hx
   have h2:=hx
   unfold R at h2
   obtain⟨-,b, -,h3⟩:=h2
   exact am (by simp [execOp,h3]) (h3 ▸ hx)
  ·cases hs
 case h_11 op t x y yt=>
  have hx:=hρ x (by simp [Op.operands])
  have hy:=hρ y (by simp [Op.operands])
  have key : ∀out':Out,out'.eff=[]→(∃r,(do eqGuard op t x y (a.eval x) (a.eval y);binOp op t (a.eval x) (a.eval y):Sem Value).run P w=.ok r w∧R w e out'.v r∧out'.eff=[])→dZ P ⟨dst,.binOp op t x y yt,ty,pos,aft,gd⟩ a w e nx out':=by
   rintro ⟨pre,v,eff⟩ h0 ⟨r,h1,h2, -⟩
   simp only at h0 h2
   subst h0
   exact am (bE rfl h1) h2
  rw [hcp] at hs
  split at hs
  ·rename_i ht
   obtain⟨d,hu, -,hd⟩:=(hc.T t _ ht).und
   simp only at hd
   subst hd
   have:=MG (P:=P) (x:=x) (y:=y) hu hs hx hy
   exact key _ this.choose_spec.2.2 this
  ·have:=QU (P:=P) (t:=t) (x:=x) (y:=y) hs hp hx hy
   exact key _ this.choose_spec.2.2 this
 case h_12 op t x=>
  have hx:=hρ x (by simp [Op.operands])
  split at hs
  ·obtain⟨q,hq,h2⟩:=Option.bind_eq_some_iff.1 hs
   simp only [ok,Option.some.injEq] at h2
   subst h2
   obtain⟨z,hz,hR⟩:=GA hq hx
   exact am (by simp [execOp,hz,Op.unary]) hR
  ·rename_i k n hx'
   simp only [okp,Option.some.injEq] at hs
   subst hs
   rw [hx',R_i] at hx
   rw [hcp] at hp ⊢
   simp only [List.mem_cons,List.not_mem_nil,or_false,forall_eq,std] at hp
   refine am (u:=.int k (0-n)) ?_ (by rw [R_i];rfl)
   have hw:=nA hp
   simp only [execOp,hx,Op.unary,Op.intArith,hw]
   rfl
  ·cases hs
 case h_13 s d x=>
  have hx:=hρ x (by simp [Op.operands])
  split at hs
  ·rename_i tis hts
   obtain⟨ds,hus, -⟩:=(hc.T s tis hts).und
   split at hs
   ·rename_i k _ _ _ ht
    obtain⟨d',hu, -,hd⟩:=(hc.T d _ ht).und
    simp only at hd
    subst hd
    split at hs
    ·rename_i k' n hx'
     simp only [okp,Option.some.injEq] at hs
     subst hs
     rw [hx',R_i] at hx
     rw [hcp] at hp
     simp only [List.mem_cons,List.not_mem_nil,or_false,forall_eq,std] at hp
     refine am (u:=.int k n) ?_ (by rw [R_i])
     have hw:=nA hp
     simp [execOp,convert,hx,run_underlying hus,run_underlying hu,Conv.intToInt,hw]
    ·cases hs
   ·rename_i _ _ _ ht
    obtain⟨d',hu, -,hd⟩:=(hc.T d _ ht).und
    simp only at hd
    subst hd
    split at hs
    ·rename_i l hx'
     simp only [ok,Option.some.injEq] at hs
     subst hs
     rw [hx'] at hx
     have h2:=R_s.1 hx
     refine am (u:=sv l) ?_ (by rw [R_s])
     simp [execOp,convert,h2,run_underlying hus,run_underlying hu]
    ·cases hs
   ·cases hs
  ·cases hs
 case h_14 t x lo hi=>
  have hx:=hρ x (by simp [Op.operands])
  split at hs
  ·rename_i _ _ _ l ht hx'
   obtain⟨d',hu, -,hd⟩:=(hc.T t _ ht).und
   simp only at hd
   subst hd
   rw [hx',R_s] at hx
   rw [hcp] at hs
   have key : ∀(m n:Nat) (q:List Prop),(match lo.map a.eval with | none=>m=0 | some v=>∃k,v=.int k m)→(match hi.map a.eval with | none=>n=l.length | some v=>∃k,v=.int k n)→m≤n→n≤l.length→dZ P ⟨dst,.slice t x lo hi none,ty,pos,aft,gd⟩ a w e nx ⟨q,.s ((l.take n).drop m),[]⟩:=fun m n q h1 h2 h3 h4=>
    am (u:=sv ((l.take n).drop m)) (bE rfl (by rw [hx];exact yR hu h1 h2 h3 h4)) (by rw [R_s])
   split at hs
   ·rename_i h1 h2
    simp only [ok,Option.some.injEq] at hs
    subst hs
    simp only [Option.map_eq_none_iff] at h1 h2
    subst h1 h2
    have:=key 0 l.length [] rfl rfl (by omega) (Nat.le_refl _)
    simpa using this
   ·rename_i k n h1 h2
    simp only [okp,Option.some.injEq] at hs
    subst hs
    obtain⟨y,rfl,hy⟩:=Option.map_eq_some_iff.1 h1
    simp only [Option.map_eq_none_iff] at h2
    subst h2
    have h3:=hρ y (by simp [Op.operands])
    rw [hy,R_i] at h3
    simp only [List.mem_cons,List.not_mem_nil,or_false,forall_eq_or_imp,forall_eq,std] at hp
    have:=key n.toNat l.length [std.leP 0 n,std.leP n (std.lenS l)] ⟨k,by rw [h3];congr 1;omega⟩ rfl (by omega) (Nat.le_refl _)
    rw [List.take_length] at this
    exact this
   ·rename_i k n h1 h2
    simp only [okp,Option.some.injEq] at hs
    subst hs
    obtain⟨y,rfl,hy⟩:=Option.map_eq_some_iff.1 h2
    simp only [Option.map_eq_none_iff] at h1
    subst h1
    have h3:=hρ y (by simp [Op.operands])
    rw [hy,R_i] at h3
    simp only [List.mem_cons,List.not_mem_nil,or_false,forall_eq_or_imp,forall_eq,std] at hp
    have:=key 0 n.toNat [std.leP 0 n,std.leP n (std.lenS l)] rfl ⟨k,by rw [h3];congr 1;omega⟩ (by omega) (by omega)
    rw [List.drop_zero] at this
    exact this
   ·rename_i k m k' n h1 h2
    simp only [okp,Option.some.injEq] at hs
    subst hs
    obtain⟨y,rfl,hy⟩:=Option.map_eq_some_iff.1 h2
    obtain⟨z,rfl,hz⟩:=Option.map_eq_some_iff.1 h1
    have h3:=hρ y (by simp [Op.operands])
    have h4:=hρ z (by simp [Op.operands])
    rw [hy,R_i] at h3
    rw [hz,R_i] at h4
    simp only [List.mem_cons,List.not_mem_nil,or_false,forall_eq_or_imp,forall_eq,std] at hp
    exact key m.toNat n.toNat _ ⟨k,by rw [h4];congr 1;omega⟩ ⟨k',by rw [h3];congr 1;omega⟩ (by omega) (by omega)
   ·cases hs
  ·cases hs
 case h_15 t x f=>
  have hx:=hρ x (by simp [Op.operands])
  split at hs
  ·rename_i fs n z sh ht
   obtain⟨d',hu, -,hd⟩:=(hc.T t _ ht).und
   simp only at hd
   obtain⟨F,rfl,hF, -⟩:=hd
   split at hs
   ·rename_i k tf hk
    split at hs
    ·rename_i ti hti
     split at hs
     ·cases hs
     ·rename_i hn
      obtain⟨i,hi,hin, -⟩:=(hc.T tf ti hti).info
      obtain⟨fd,hfd,hoff,htf⟩ : ∃fd,F[f]? =some fd∧fd.offset=k∧fd.type=tf:=by
       rw [←hF,List.getElem?_map] at hk
       obtain⟨fd,h1,h2⟩:=Option.map_eq_some_iff.1 hk
       cases h2
       exact⟨fd,by simpa using h1,rfl,rfl⟩
      have hsz:i.size≠0:=by rw [hin];simpa using hn
      have hrun : ∀b o,a.eval x=.pointer (some ⟨b,o,none⟩)→(execOp a.eval ⟨dst,.fieldAddr t x f,ty,pos,aft,gd⟩).run P w=.ok (.value (.pointer (some ⟨b,o+k,none⟩))) w:=fun b o hb=>by
       rw [←htf] at hi
       simp [execOp,Instr.fieldAt,run_underlying hu,hfd,hb,Instr.sureAddr,fieldPlace,eb hi,hsz,hoff,jH]
      split at hs
      ·rename_i id off hx'
       simp only [ok,Option.some.injEq] at hs
       subst hs
       rw [hx'] at hx
       unfold R at hx
       obtain⟨h1,b,h2,h3⟩:=hx
       exact am (hrun b off h3) (by unfold R;exact⟨h1,b,h2,rfl⟩)
      ·rename_i l off hx'
       simp only [ok,Option.some.injEq] at hs
       subst hs
       rw [hx'] at hx
       unfold R at hx
       obtain⟨b,o,h1,h2,h3⟩:=hx
       exact am (hrun b _ h1) (by unfold R;exact⟨b,o,by rw [Nat.add_assoc],h2,h3⟩)
      ·rename_i id ix st off hx'
       simp only [ok,Option.some.injEq] at hs
       subst hs
       rw [hx'] at hx
       unfold R at hx
       obtain⟨h1,b,h2,h3⟩:=hx
       exact am (hrun b _ h3) (by unfold R;exact⟨h1,b,h2,by rw [Nat.add_assoc]⟩)
      ·cases hs
    ·cases hs
   ·cases hs
  ·cases hs
 case h_16 t x f=>
  have hx:=hρ x (by simp [Op.operands])
  split at hs
  ·rename_i fs n z sh ht
   obtain⟨d',hu, -,hd⟩:=(hc.T t _ ht).und
   simp only at hd
   obtain⟨F,rfl,hF, -⟩:=hd
   split at hs
   ·rename_i k tf hk
    split at hs
    ·rename_i l ti hx' hti
     obtain⟨v,hv,h2⟩:=Option.bind_eq_some_iff.1 hs
     simp only [ok,Option.some.injEq] at h2
     subst h2
     obtain⟨fd,hfd,hoff,htf⟩ : ∃fd,F[f]? =some fd∧fd.offset=k∧fd.type=tf:=by
      rw [←hF,List.getElem?_map] at hk
      obtain⟨fd,h1,h2⟩:=Option.map_eq_some_iff.1 hk
      cases h2
      exact⟨fd,by simpa using h1,rfl,rfl⟩
     rw [hx'] at hx
     unfold R at hx
     obtain⟨vs,h3,h4⟩:=hx
     obtain⟨u,h5,h6⟩:=ww (hc.T tf ti hti) h4 hv
     refine am (u:=u) ?_ h6
     simp [execOp,Instr.field,run_underlying hu,hfd,h3,asAgg,hoff,htf,h5]
    ·cases hs
   ·cases hs
  ·cases hs
 case h_17 t x ix=>
  have hx:=hρ x (by simp [Op.operands])
  have hix:=hρ ix (by simp [Op.operands])
  split at hs
  ·rename_i te _ _ _ sh L k n ht hx' hix'
   obtain⟨d',hu, -,hd⟩:=(hc.T t _ ht).und
   simp only at hd
   subst hd
   split at hs
   ·rename_i ti hti
    split at hs
    ·rename_i hsz
     simp only [okp,Option.some.injEq] at hs
     subst hs
     rw [hcp] at hp ⊢
     simp only [List.mem_cons,List.not_mem_nil,or_false,forall_eq,std] at hp
     obtain⟨i,hi,hin, -⟩:=(hc.T te ti hti).info
     have hsz:ti.n=sh.length:=by simpa using hsz
     rw [hx'] at hx
     unfold R at hx
     obtain⟨A,cap,h1,h2,h3⟩:=hx
     rw [hix',R_i] at hix
     have hlt:n.toNat<L.length:=by omega
     obtain⟨b,o,rfl,h4,h5⟩:=h3 n.toNat L[n.toNat] (List.getElem?_eq_getElem hlt)
     refine am (u:=.pointer (some ⟨b,o+n.toNat*sh.length,none⟩)) ?_ ?_
     ·simp [execOp,Instr.indexAt,hix,asIntOf,run_underlying hu,h1,hp,eb hi,hin,hsz,jH]
     ·unfold R
      refine⟨b,o+n.toNat*sh.length,rfl,h4,?_⟩
      have : std.get (dE sh) L n=L[n.toNat]:=by
       show L.getD n.toNat _=_
       rw [List.getD_eq_getElem?_getD,List.getElem?_eq_getElem hlt];rfl
      rw [this]
      exact Jx h5
    ·cases hs
   ·cases hs
  ·rename_i te _ _ _ id k n ht hx' hix'
   obtain⟨d',hu, -,hd⟩:=(hc.T t _ ht).und
   simp only at hd
   subst hd
   split at hs
   ·rename_i sh L ty' ti hg hti
    split at hs
    ·rename_i hsz
     simp only [okp,Option.some.injEq] at hs
     subst hs
     rw [hcp] at hp
     simp only [List.mem_cons,List.not_mem_nil,or_false,forall_eq,std] at hp
     obtain⟨i,hi,hin, -⟩:=(hc.T te ti hti).info
     have hsz:ti.n=sh.length:=Nat.eq_of_beq_eq_true hsz
     rw [hx'] at hx
     unfold R at hx
     obtain⟨hon,h1⟩:=hx
     rw [hix',R_i] at hix
     obtain⟨⟨h0,hO⟩, -⟩:=hsee.ob _ _ hg
     have hlt:n.toNat<L.length:=by omega
     obtain⟨b,vs,h3, -⟩:=hO.resolve_left fun h=>by rw [h.2.1] at hlt;simp at hlt
     rw [h0,h3] at h1
     refine am (u:=.pointer (some ⟨b,n.toNat*sh.length,none⟩)) ?_ (by unfold R;exact⟨hon,b,h3,by rw [Nat.add_zero]⟩)
     simp [execOp,Instr.indexAt,hix,asIntOf,run_underlying hu,h1,hp,eb hi,hin,hsz,jH]
    ·cases hs
   ·cases hs
  ·cases hs
 case h_18 t x ix=>
  have hx:=hρ x (by simp [Op.operands])
  have hix:=hρ ix (by simp [Op.operands])
  split at hs
  ·rename_i _ _ _ l k n ht hx' hix'
   obtain⟨d',hu, -,hd⟩:=(hc.T t _ ht).und
   simp only at hd
   subst hd
   simp only [okp,Option.some.injEq] at hs
   subst hs
   rw [hcp] at hp ⊢
   simp only [List.mem_cons,List.not_mem_nil,or_false,forall_eq,std] at hp
   rw [hx',R_s] at hx
   rw [hix',R_i] at hix
   have hlt:n.toNat<l.length:=by omega
   refine am (u:=.int .u8 (l[n.toNat].toNat : Int)) (bE rfl ?_) ?_
   ·have hsz:((ByteArray.mk l.toArray).size : Int)=l.length:=by simp [ByteArray.size]
    rw [hx,hix,run_index_string w t _ k n hu,dif_pos ⟨hp.1,by rw [hsz];exact hp.2⟩]
    rfl
   ·rw [R_i]
    show _=Value.int .u8 (((l.getD n.toNat 0).toNat : Nat):Int)
    rw [List.getD_eq_getElem?_getD,List.getElem?_eq_getElem hlt];rfl
  ·cases hs
 case h_19 x ix=>
  have hx:=hρ x (by simp [Op.operands])
  split at hs
  ·rename_i l hx'
   split at hs
   ·rename_i v hv
    simp only [ok,Option.some.injEq] at hs
    subst hs
    rw [hx'] at hx
    unfold R at hx
    obtain⟨vs,h1,h2⟩:=hx
    obtain⟨u,h3,h4⟩:=mB h2 hv
    have h3:vs[ix]? =some u:=by simpa using h3
    exact am (by simp [execOp,Instr.extract,h1,h3]) h4
   ·cases hs
  ·cases hs
 case h_20 k=>
  unfold JY at hs
  split at hs
  case h_1 x t=>
   have hx:=hρ x (by simp [Op.operands,Call.operands])
   split at hs
   ·rename_i _ _ _ l ht hx'
    obtain⟨d',hu, -,hd⟩:=(hc.T t _ ht).und
    simp only at hd
    subst hd
    simp only [ok,Option.some.injEq] at hs
    subst hs
    rw [hcp]
    rw [hx',R_s] at hx
    refine am (u:=.int .i64 l.length) ?_ (by rw [R_i];rfl)
    exact sk (x:=x) (t:=t) rfl (by rw [hx,run_len_string w t _ _ hu];simp [goInt,ByteArray.size])
   ·rename_i _ _ _ _ sh L ht hx'
    obtain⟨d',hu, -,hd⟩:=(hc.T t _ ht).und
    simp only at hd
    subst hd
    simp only [ok,Option.some.injEq] at hs
    subst hs
    rw [hcp]
    rw [hx'] at hx
    unfold R at hx
    obtain⟨A,cap,h1, -⟩:=hx
    refine am (u:=.int .i64 L.length) ?_ (by rw [R_i];rfl)
    exact sk (x:=x) (t:=t) rfl (by rw [h1,run_len_slice w t _ A L.length cap (by unfold Program.elem;rw [hu])];rfl)
   ·rename_i _ _ _ _ ht hx'
    obtain⟨d',hu, -,hd⟩:=(hc.T t _ ht).und
    simp only at hd
    subst hd
    simp only [ok,Option.some.injEq] at hs
    subst hs
    rw [hx'] at hx
    unfold R at hx
    have h1:=hx
    refine am (u:=.int .i64 (0:Nat)) ?_ (by rw [R_i];rfl)
    exact sk (x:=x) (t:=t) rfl (by rw [h1,run_len_slice w t _ none 0 0 (by unfold Program.elem;rw [hu])];rfl)
   ·rename_i _ _ _ _ id ht hx'
    obtain⟨d',hu, -,hd⟩:=(hc.T t _ ht).und
    simp only at hd
    subst hd
    split at hs
    ·rename_i sh L ty' hg
     simp only [ok,Option.some.injEq] at hs
     subst hs
     rw [hcp]
     rw [hx'] at hx
     unfold R at hx
     obtain⟨-,h1⟩:=hx
     have h0:=(hsee.ob _ _ hg).1.1
     rw [h0] at h1
     refine am (u:=.int .i64 L.length) ?_ (by rw [R_i];rfl)
     exact sk (x:=x) (t:=t) rfl (by rw [h1,run_len_slice w t _ (e.adr id) L.length (e.cap id) (by unfold Program.elem;rw [hu])];rfl)
    ·cases hs
   ·cases hs
  case h_2 x y t t'=>
   have hx:=hρ x (by simp [Op.operands,Call.operands])
   have hy:=hρ y (by simp [Op.operands,Call.operands])
   split at hs
   ·rename_i htt
    have htt:t=t':=Nat.eq_of_beq_eq_true htt
    subst htt
    split at hs
    ·rename_i te _ _ _ ht
     obtain⟨d',hu, -,hd⟩:=(hc.T t _ ht).und
     simp only at hd
     subst hd
     split at hs
     ·rename_i ti sh M hti hx' hy'
      split at hs
      ·rename_i hok
       simp only [Option.some.injEq] at hs
       subst hs
       rw [hcp] at hp
       simp only [List.mem_cons,List.not_mem_nil,or_false,forall_eq,std] at hp
       have hy2:=Av hsee hy' hy
       rw [hx'] at hx
       unfold R at hx
       exact uP (od:=none) (L:=[]) (M:=M) rfl hu (hc.T te ti hti) hok (hfresh nx (Nat.le_refl _) (by simp [AH.get])) hsee.fz.lt (by simp only [List.length_nil];omega) hy2 (.inl ⟨rfl,rfl,hx⟩)
      ·cases hs
     ·rename_i ti id sh' M' hti hx' hy'
      split at hs
      ·rename_i sh L ty' hg
       split at hs
       ·rename_i M hcast
        split at hs
        ·rename_i hok
         simp only [Option.some.injEq] at hs
         subst hs
         rw [Bool.and_eq_true] at hok
         have hty:ty'=te:=Nat.eq_of_beq_eq_true hok.2
         subst hty
         rw [hcp] at hp ⊢
         simp only [List.mem_cons,List.not_mem_nil,or_false,forall_eq,std] at hp
         have hy2:=(Av hsee hy' hy).cast hcast
         rw [hx'] at hx
         unfold R at hx
         obtain⟨h1,h2,h3⟩:=hsee.ob _ _ hg
         exact uP (od:=some id) rfl hu (hc.T _ ti hti) hok.1 (hfresh nx (Nat.le_refl _) (by simp [AH.get])) hsee.fz.lt (by omega) hy2 (.inr ⟨id,rfl,h3 rfl,h2,h1,hx.2⟩)
        ·cases hs
       ·cases hs
      ·cases hs
     ·cases hs
    ·cases hs
   ·cases hs
  case h_3 f args ts=>
   have hf:=hρ f (by simp [Op.operands,Call.operands])
   split at hs
   ·rename_i g cap hf'
    rw [hf'] at hf
    unfold R at hf
    obtain⟨vs,h1,h2⟩:=hf
    have hargs:Rs w e (args.toList.map ρ++cap) (args.map a.eval++vs).toList :=by
     rw [Array.toList_append]
     refine AC ?_ h2
     refine pM (by simp) fun i p u hp' hu=>?_
     simp only [List.getElem?_map,Option.map_eq_some_iff,Array.toList_map] at hp' hu
     obtain⟨y,hy,rfl⟩:=hp'
     obtain⟨y',hy',rfl⟩:=hu
     rw [hy] at hy'
     cases hy'
     exact hρ y (by
      have : y∈args:=by rw [←Array.mem_toList_iff];exact List.mem_of_getElem? hy
      simp [Op.operands,Call.operands,this])
    split at hs
    ·rename_i S hS
     have hM:=hc.M g S hS
     simp only at hs
     split at hs
     ·rename_i hcl
      split at hs
      ·rename_i out' hout
       simp only [Option.some.injEq] at hs
       subst hs
       obtain⟨e0,q1,q2,q3,q4,q5,q9,q8,q6,q7⟩:=K3 hsee hcl (mP (c:=c) (ts:=ts.toList) hargs)
       obtain⟨fn,f1,f2,f3⟩:=hM.fn
       refine m6 (e0:=e0) (oK rfl h1 f1 f2 f3) q1 ?_ (.inl fun b hb=>q2 ▸ hb) hfresh
       have:=hM.run _ _ out' hout hp w e0 (args.map a.eval++vs) q1.z q4 (by rw [q3];exact q5) (by rw [q3];exact q9) q8 q6 (kx _ _ q7)
       rw [q3] at this
       exact this
      ·cases hs
     ·cases hs
    ·split at hs
     ·rename_i S hS
      have hF:=hc.F g S hS
      simp only at hs
      split at hs
      ·split at hs
       ·rename_i out' hout
        split at hs
        ·cases hs
        ·rename_i hro
         simp only [Bool.not_eq_true,Bool.or_eq_false_iff] at hro
         obtain⟨fn,f1,f2,f3⟩:=hF.fn
         split at hs
         ·split at hs
          ·rename_i sh L ty hv0 he0
           split at hs
           ·rename_i hfl
            simp only [Option.some.injEq] at hs
            subst hs
            obtain⟨pre',v',eff'⟩:=out'
            simp only at hv0 he0
            subst hv0;subst he0
            exact Lp (e0:={ e.all w with on:=fun _=>False,lv:=fun _=>False }) (oK rfl h1 f1 f2 f3) (fun _ h=>h) (fun _ h=>h) hfl
             (hF.run _ _ hout hp w (e.all w) _ ⟨fun b hb=>hb,hsee.fz.gl.mono hsee.fz.lt⟩ (kx _ _ (mP (jU hsee ⟨hsee.le,fun id o b hg hn hb=>rA hn (hsee.ob id o hg).1 b hb⟩ 12 _ _ hargs))))
           ·cases hs
          ·cases hs
         simp only [Option.some.injEq] at hs
         subst hs
         exact m6 (e0:={ e.all w with on:=fun _=>False,lv:=fun _=>False }) (ρ:=[]) (oK rfl h1 f1 f2 f3) ⟨fun k hk=>hk.elim,fun k hk=>hk.elim,fun k hk=>absurd hk (Nat.not_lt_zero k),fun k _ hk=>absurd hk (Nat.not_lt_zero k),fun k hk=>absurd hk (Nat.not_lt_zero k),hsee.fz.lt,⟨fun b hb=>hb,hsee.fz.gl.mono hsee.fz.lt⟩⟩
          (hF.run _ out' hout hp w (e.all w) _ ⟨fun b hb=>hb,hsee.fz.gl.mono hsee.fz.lt⟩ (kx _ _ (mP (jU hsee ⟨hsee.le,fun id o b hg hn hb=>rA hn (hsee.ob id o hg).1 b hb⟩ 12 _ _ hargs)))) (.inr hro) hfresh
       ·cases hs
      ·split at hs
       ·rename_i out' hout
        simp only [Option.some.injEq] at hs
        subst hs
        obtain⟨fn,f1,f2,f3⟩:=hF.fn
        exact m6 (e0:={ e with on:=fun _=>False,lv:=fun _=>False }) (ρ:=[]) (oK rfl h1 f1 f2 f3) ⟨fun k hk=>hk.elim,fun k hk=>hk.elim,fun k hk=>absurd hk (Nat.not_lt_zero k),fun k _ hk=>absurd hk (Nat.not_lt_zero k),fun k hk=>absurd hk (Nat.not_lt_zero k),fun b hb=>hb,hsee.fz⟩
         (hF.run _ out' hout hp w e _ hsee.fz (kx _ _ (mP hargs))) (.inl fun b hb=>hb) hfresh
       ·cases hs
     ·cases hs
   ·cases hs
  case h_4=>cases hs
 case h_21=>cases hs
theorem pE {T:List Nat} {id:Nat} {x:Ob} : ∀{h:AH},(cut T h).get id=some x→id∈T∧h.get id=some x
 | [],hh=>by simp [cut,AH.get] at hh
 | (k,y)::r,hh=>by
   unfold cut at hh
   by_cases hT:T.contains k=true
   ·rw [if_pos hT] at hh
    unfold AH.get at hh ⊢
    split at hh
    ·rename_i hk
     have hk:k=id:=by simpa using hk
     subst hk;cases hh
     exact⟨by simpa using hT,by rw [if_pos (by simp)]⟩
    ·rename_i hk
     rw [if_neg hk]
     exact pE hh
   ·rw [if_neg hT] at hh
    obtain⟨h1,h2⟩:=pE hh
    refine⟨h1,?_⟩
    unfold AH.get
    rw [if_neg (by
     intro hk
     have hk:k=id:=by simpa using hk
     subst hk
     exact hT (by simpa using h1))]
    exact h2
theorem mM {T:List Nat} {id:Nat} {x:Ob} : ∀{h:AH},(o7 T h).get id=some x→id ∉ T∧h.get id=some x
 | [],hh=>by simp [o7,AH.get] at hh
 | (k,y)::r,hh=>by
   unfold o7 at hh
   by_cases hT:T.contains k=true
   ·rw [if_pos hT] at hh
    obtain⟨h1,h2⟩:=mM hh
    refine⟨h1,?_⟩
    unfold AH.get
    rw [if_neg (by
     intro hk
     have hk:k=id:=by simpa using hk
     subst hk
     exact h1 (by simpa using hT))]
    exact h2
   ·rw [if_neg hT] at hh
    unfold AH.get at hh ⊢
    split at hh
    ·rename_i hk
     have hk:k=id:=by simpa using hk
     subst hk;cases hh
     exact⟨by simpa using hT,by rw [if_pos (by simp)]⟩
    ·rename_i hk
     rw [if_neg hk]
     exact mM hh
theorem zm {n:H8} {g:FuncId} {vals:Array Value} {S:d7} {b:Bool} {fzB:Nat→Prop} {vs:List PV} {r:List Nat} (hN:NOk P g S) (hs:xI S h r nx vs b=some n) (hp : ∀p∈n.pre,p) (hsee:lO w { e with fz:=fzB } h)
 (hvs:Rs w { e with fz:=fzB } vs vals.toList) (hz : ∀x,e.fz x→fzB x) (hb:b=false→∀x,fzB x→e.fz x) (hnx : ∀k,nx≤k→¬e.on k) :
 Calls P g vals w fun en w'=>∃x,n.Q x∧∃v E,en=.returned v∧fW w w' e E nx ⟨[],n.v x,n.eff x⟩ v:=by
 unfold xI at hs
 split at hs
 ·rename_i hcl
  split at hs
  ·rename_i n' hn'
   simp only [Option.some.injEq] at hs
   subst hs
   obtain⟨e0,q1,q2,q3,q4,q5,q9,q8,q6,q7⟩:=K3 hsee hcl hvs
   have q2:e0.fz=fzB:=q2
   have q1':Cn w e e0 r nx:=⟨q1.on,q1.lv,q1.vl,q1.inj,q1.lt,fun x hx=>by rw [q2];exact hz x hx,q1.z⟩
   have hp' : ∀p∈n'.pre,p:=fun p h1=>by
    cases b with
    | false=>exact hp p h1
    | true=>exact hp p (List.mem_cons_of_mem _ h1)
   have hro : ∀x,(∀y,e0.fz y→e.fz y)∨(n'.v x).ro =false∧roH (n'.eff x)=false:=fun x=>by
    cases b with
    | false=>exact .inl fun y hy=>hb rfl y (by rw [←q2];exact hy)
    | true=>
      have h1 : ∀x,((n'.v x).ro ||roH (n'.eff x))=false:=hp _ (List.mem_cons_self ..)
      exact .inr (by simpa using h1 x)
   refine (hN.run _ _ n' hn' hp' w e0 vals q1.z q4 (by rw [q3];exact q5) (by rw [q3];exact q9) q8 q6 (kx _ _ q7)).mono ?_
   rintro en w' ⟨x,hx,v,e',rfl,hpost⟩
   rw [q3] at hpost
   obtain⟨E,hE⟩:=y9 (out:=⟨[],n'.v x,n'.eff x⟩) q1' hpost (hro x) (fun k hk _=>hnx k hk) (pre:=[])
   exact⟨x,hx,v,E,rfl,hE⟩
  ·cases hs
 ·cases hs
theorem K5 {n:H8} (hc:dD P c) (hs:ncall c o.op ρ h nx=some n) (hp : ∀p∈n.pre,p) (hρ : ∀x∈o.op.operands,R w e (ρ x) (a.eval x)) (hsee:lO w e h) (hnx : ∀k,nx≤k→¬e.on k) :
 o.wp P a w (fun a' w'=>∃x,n.Q x∧∃u e',a'=a.put o.dst u∧fW w w' e e' nx ⟨[],n.v x,n.eff x⟩ u) fun _ _ _=>False:=by
 unfold ncall at hs
 split at hs
 ·rename_i f args ts ho
  split at hs
  ·rename_i g cap hf'
   have hf:=hρ f (by rw [ho];simp [Op.operands,Call.operands])
   rw [hf'] at hf
   unfold R at hf
   obtain⟨vs,h1,h2⟩:=hf
   have hargs:Rs w e (args.toList.map ρ++cap) (args.map a.eval++vs).toList :=by
    rw [Array.toList_append]
    refine AC ?_ h2
    refine pM (by simp) fun i p u hp' hu=>?_
    simp only [List.getElem?_map,Option.map_eq_some_iff,Array.toList_map] at hp' hu
    obtain⟨y,hy,rfl⟩:=hp'
    obtain⟨y',hy',rfl⟩:=hu
    rw [hy] at hy'
    cases hy'
    exact hρ y (by
     have : y∈args:=by rw [←Array.mem_toList_iff];exact List.mem_of_getElem? hy
     rw [ho];simp [Op.operands,Call.operands,this])
   split at hs
   ·rename_i S hS
    simp only at hs
    have hN:=hc.N g S hS
    obtain⟨fn,f1,f2,f3⟩:=hN.fn
    have hvs:=mP (c:=c) (ts:=ts.toList) hargs
    generalize pj c ts.toList (args.toList.map ρ++cap)=ws at hs hvs
    have key:Calls P g (args.map a.eval++vs) w fun en w'=>∃x,n.Q x∧∃v E,en=.returned v∧fW w w' e E nx ⟨[],n.v x,n.eff x⟩ v:=by
     split at hs
     ·rename_i n' hs'
      cases hs
      exact zm (fzB:=e.fz) hN hs' hp hsee hvs (fun _ h=>h) (fun _ _ h=>h) hnx
     split at hs
     ·generalize reach h 60 (oa (ws.filter fun v=>!Lk h v)) []=r at hs
      have hcl:closed (cut r h) r nx (ws.map fun v=>if Lk h v then deep (o7 r h) 12 v else v)=true:=by
       unfold xI at hs
       split at hs
       ·rename_i hcl;exact hcl
       ·cases hs
      have hmem : ∀k∈r,∃o,h.get k=some o∧o.gn=false:=by
       unfold closed at hcl
       simp only [Bool.and_eq_true,List.all_eq_true,Nat.blt_eq] at hcl
       obtain⟨-,hall, -⟩:=hcl
       intro k hk
       have:=(hall k hk).2
       split at this
       ·rename_i x hx
        have h3:x.idIn r=true∧x.gn=false:=by simpa using this
        exact⟨x,(pE hx).2,h3.2⟩
       ·cases this
      obtain⟨fzB,hfB⟩ : ∃fzB:Nat→Prop,fzB=fun b=>b<w.heap.size∧∀k∈r,e.lv k→¬e.blk k b:=⟨_,rfl⟩
      have hB : ∀b,fzB b↔b<w.heap.size∧∀k∈r,e.lv k→¬e.blk k b:=fun b=>by rw [hfB]
      have hle:e.Le { e with fz:=fzB }:=⟨fun _ h=>h,fun _ _=>rfl,fun _ _=>rfl,fun _ _=>rfl,fun b hb=>(hB b).2 ⟨hsee.fz.lt b hb,fun k hk _ hkb=>by
       obtain⟨o',ho',hg⟩:=hmem k hk
       exact O1 hg (hsee.ob k o' ho').1 b hkb hb⟩⟩
      have hsame:Same e.fz w w:=fun _ _=>rfl
      have hseeB:lO w { e with fz:=fzB } (cut r h):=⟨fun id o' ho'=>by
       obtain⟨hid,ho'⟩:=pE ho'
       obtain⟨a1,a2,a3⟩:=hsee.ob id o' ho'
       obtain⟨o2,ho2,hg⟩:=hmem id hid
       rw [ho'] at ho2;cases ho2
       exact⟨rV hsame hle a2 (fun b hb=>⟨fun hf=>absurd hb (((hB b).1 hf).2 id hid (a3 hg)),rfl⟩) a1,a2,a3⟩,⟨fun b hb=>((hB b).1 hb).1,hsee.fz.gl.mono hle.fz⟩,hsee.dis⟩
      have hseeN:lO w e (o7 r h):=⟨fun id o' ho'=>hsee.ob id o' (mM ho').2,hsee.fz,hsee.dis⟩
      have hF:Frz w e (o7 r h) { e with fz:=fzB }:=⟨hle,fun id o' b ho' hg hb=>(hB b).2 (by
       obtain⟨hid,ho'⟩:=mM ho'
       obtain⟨a1,a2,a3⟩:=hsee.ob id o' ho'
       exact⟨rA hg a1 b hb,fun k hk hlv hkb=>hid (by rw [hsee.dis id k b (a3 hg) hlv hb hkb];exact hk)⟩)⟩
      refine zm hN hs hp hseeB (pM (by rw [List.length_map];exact bm hvs) fun i p u hp' hu=>?_) hle.fz (fun h=>by cases h) hnx
      rw [List.getElem?_map,Option.map_eq_some_iff] at hp'
      obtain⟨q,hq,rfl⟩:=hp'
      obtain⟨u',hu',hR⟩:=mB hvs hq
      rw [hu] at hu';cases hu'
      split
      ·exact yB hseeN hF 12 q u hR
      ·exact jt hsame hle q u hR
     ·cases hs
    unfold Oper.wp
    rw [oK ho h1 f1 f2 f3,Oper.upon_enter]
    refine key.mono ?_
    rintro en w' ⟨x,hx,v,E,rfl,hE⟩
    exact⟨x,hx,v,E,rfl,hE⟩
   ·cases hs
  ·cases hs
 ·cases hs
end
end Ax
end Go.Proofs.YtjjonmhpgkahoaaGreatDoor
