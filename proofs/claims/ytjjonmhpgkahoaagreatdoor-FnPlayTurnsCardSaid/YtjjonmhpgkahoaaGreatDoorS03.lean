/-
  The plain walker: rows that grow.
  Conditions: none.
-/
import Derived.Test.YtjjonmhpgkahoaaGreatDoorS02
import Derived.Maps.AppendAt
import Derived.Great.BuildSlice
import Derived.Lib.AppendStr
set_option linter.unusedSimpArgs false
set_option linter.unusedVariables false
namespace Go.Proofs.YtjjonmhpgkahoaaGreatDoor
namespace Ax
open Go.RowKit
section
variable {P:Program} {o:Oper} {a:Act} {w w':World} {e:Env} {nx:Nat}
theorem REs_move {w w':World} {fz:Nat→Prop} (h:Same fz w w') {y:Type} {Q Q':y→Value→Prop} (hQ : ∀x v,Q x v→Q' x v) {b b':Nat} : ∀(ts:List AtTy) (o o':Nat) (x:EL2 y ts),(∀j,j≤ts.length→w'.cell? ⟨b',o'+j,none⟩=w.cell? ⟨b,o+j,none⟩)→REs w fz Q ts b o x→REs w' fz Q' ts b' o' x
 | [],o,o',x,hb,hr=>by
   unfold REs RE2 at *
   obtain⟨u,h1,h2⟩:=hr
   exact⟨u,(hb 0 (Nat.le_refl _)).trans h1,hQ _ _ h2⟩
 | t::ts,o,o',x,hb,hr=>by
   unfold REs RE2 at *
   obtain⟨⟨u,h1,h2⟩,h3⟩:=hr
   exact⟨⟨u,(hb 0 (Nat.zero_le _)).trans h1,hQ _ _ h2⟩,REs_move h (fun x v=>RA_same h (fun _ hb=>hb) t x v) ts (o+1) (o'+1) x.2 (fun j hj=>by rw [show o+1+j=o+(j+1) from by omega,show o'+1+j=o'+(j+1) from by omega];exact hb (j+1) (by simp;omega)) h3⟩
theorem RE_move {w w':World} {fz:Nat→Prop} (h:Same fz w w') {b b':Nat} : ∀{sh:List AtTy} {o o':Nat} {x:El sh},(∀j,j<sh.length→w'.cell? ⟨b',o'+j,none⟩=w.cell? ⟨b,o+j,none⟩)→RE w fz sh b o x→RE w' fz sh b' o' x
 | [],_,_,_,_,_=>by unfold RE;trivial
 | t::ts,o,o',x,hb,hr=>by
   unfold RE at *
   exact REs_move h (fun x v=>RA_same h (fun _ hb=>hb) t x v) ts o o' x (fun j hj=>hb j (by simp;omega)) hr
theorem RA_one {w:World} {fz:Nat→Prop} : ∀{t:AtTy} {x:t.Ty} {v:Value},RA w fz t x v→v.oneCell'=true:=by
 intro t x v h
 cases t with
 | i k=>rw [RA_i.1 h];rfl
 | b=>rw [RA_b.1 h];rfl
 | s=>rw [RA_s.1 h];rfl
 | r sh=>
   unfold RA at h
   obtain⟨A,c,rfl, -⟩:=h
   rfl
theorem REs_one {w:World} {fz:Nat→Prop} {y:Type} {Q:y→Value→Prop} (hQ : ∀x v,Q x v→v.oneCell'=true) {b:Nat} : ∀{ts:List AtTy} {o:Nat} {x:EL2 y ts},REs w fz Q ts b o x→∀j,j≤ts.length→∃u,w.cell? ⟨b,o+j,none⟩=some u∧u.oneCell'=true
 | [],o,x,h,j,hj=>by
   unfold REs RE2 at h
   obtain⟨u,h1,h2⟩:=h
   have : j=0:=by simpa using hj
   subst this
   exact⟨u,h1,hQ _ _ h2⟩
 | t::ts,o,x,h,j,hj=>by
   unfold REs RE2 at h
   obtain⟨⟨u,h1,h2⟩,h3⟩:=h
   cases j with
   | zero=>exact⟨u,h1,hQ _ _ h2⟩
   | succ j=>
     obtain⟨u',h4,h5⟩:=REs_one (fun x v=>RA_one) h3 j (by simpa using hj)
     exact⟨u',by rw [show o+(j+1)=o+1+j from by omega];exact h4,h5⟩
theorem RE_one {w:World} {fz:Nat→Prop} {sh:List AtTy} {b o:Nat} {x:El sh} (h:RE w fz sh b o x) : ∀j,j<sh.length→∃u,w.cell? ⟨b,o+j,none⟩=some u∧u.oneCell'=true:=by
 cases sh with
 | nil=>intro j hj;simp at hj
 | cons t ts=>
   unfold RE at h
   exact fun j hj=>REs_one (fun x v=>RA_one) h j (Nat.le_of_lt_succ hj)
def RowR (w:World) (fz:Nat→Prop) (sh:List AtTy) (M:List (El sh)) (v:Value):Prop:=
 ∃A c,v=.slice A M.length c∧∀i x,M[i]? =some x→∃b o,A=some ⟨b,o,none⟩∧RE w fz sh b (o+i*sh.length) x
theorem rowOf_R {h:AH} (hs:Sees w e h) {p:PV} {v:Value} {r:Row} (hp:rowOf h p=some r) (hr:R w e p v):RowR w e.fz r.sh r.L v:=by
 unfold rowOf at hp
 split at hp
 ·cases hp
  unfold R at hr
  obtain⟨A,c,h1, -,h2⟩:=hr
  exact⟨A,c,h1,fun i x hx=>by obtain⟨b,o,h3, -,h4⟩:=h2 i x hx;exact⟨b,o,h3,h4⟩⟩
 ·split at hp
  ·rename_i id sh L ty hg
   cases hp
   unfold R at hr
   obtain⟨-,rfl⟩:=hr
   obtain⟨⟨h0,hO⟩, -⟩:=hs.ob _ _ hg
   rcases hO with ⟨-,rfl, -⟩ | ⟨b,vs,h1, -, -, -, -,h2⟩
   ·exact⟨_,_,by rw [h0],fun i x hx=>by simp at hx⟩
   ·exact⟨_,_,by rw [h0],fun i x hx=>⟨b,0,h1,by rw [Nat.zero_add];exact h2 i x hx⟩⟩
  ·rename_i id k L ty hg
   cases hp
   unfold R at hr
   obtain⟨-,rfl⟩:=hr
   obtain⟨⟨q,h0,b,vs,fr,h1,h2,h3,h4,h5,h6,h7,h8⟩, -⟩:=hs.ob _ _ hg
   refine⟨_,_,by rw [h0],fun i x hx=>⟨b,0,h1,RE_one_ q ?_⟩⟩
   rw [arr_cell h3,show 0+i * [k].length =i from by simp]
   exact h8 i x hx
  ·cases hp
 ·cases hp
theorem RowR.cast {fz:Nat→Prop} {sh sh':List AtTy} {M:List (El sh')} {M':List (El sh)} {v:Value} (hc:castL sh' sh M=some M') (h:RowR w fz sh' M v):RowR w fz sh M' v:=by
 unfold castL at hc
 split at hc
 ·rename_i hh _
  subst hh
  cases hc
  exact h
 ·cases hc
theorem RowR.cells {fz:Nat→Prop} {sh:List AtTy} {M:List (El sh)} {v:Value} (h:RowR w fz sh M v) (hpos:0<sh.length) : ∃(A:Option Addr) (c:Nat) (news:List Value),v=.slice A M.length c∧news.length=M.length*sh.length∧(∀u∈news,u.oneCell'=true)∧
 (M≠[]→∃b o,A=some ⟨b,o,none⟩∧(∀j u,news[j]? =some u→w.cell? ⟨b,o+j,none⟩=some u)∧∀i x,M[i]? =some x→RE w fz sh b (o+i*sh.length) x):=by
 obtain⟨A,c,hv,hM⟩:=h
 by_cases h0:M=[]
 ·subst h0
  exact⟨A,c,[],hv,by simp,by simp,fun h=>absurd rfl h⟩
 ·obtain⟨b,o,hA, -⟩:=hM 0 _ (List.getElem?_eq_getElem (List.length_pos_iff.2 h0))
  have hre : ∀i x,M[i]? =some x→RE w fz sh b (o+i*sh.length) x:=fun i x hx=>by
   obtain⟨b',o',hA',h1⟩:=hM i x hx
   rw [hA] at hA'
   cases hA'
   exact h1
  have hcell : ∀j,j<M.length*sh.length→∃u,w.cell? ⟨b,o+j,none⟩=some u∧u.oneCell'=true:=fun j hj=>by
   have h1:j/sh.length<M.length:=Nat.div_lt_of_lt_mul (by rw [Nat.mul_comm];exact hj)
   obtain⟨u,h2,h3⟩:=RE_one (hre (j/sh.length) _ (List.getElem?_eq_getElem h1)) (j%sh.length) (Nat.mod_lt _ hpos)
   refine⟨u,?_,h3⟩
   rw [←h2,Nat.add_assoc,Nat.div_add_mod']
  refine⟨A,c,(List.range (M.length*sh.length)).map fun j=>(w.cell? ⟨b,o+j,none⟩).getD undef,hv,by simp,?_,fun _=>⟨b,o,hA,?_,hre⟩⟩
  ·intro u hu
   obtain⟨j,hj,rfl⟩:=List.mem_map.1 hu
   obtain⟨u',h1,h2⟩:=hcell j (List.mem_range.1 hj)
   rw [h1];exact h2
  ·intro j u hj
   rw [List.getElem?_map,Option.map_eq_some_iff] at hj
   obtain⟨k,hk,rfl⟩:=hj
   obtain⟨hlt,hk⟩:=List.getElem?_eq_some_iff.1 hk
   simp only [List.getElem_range] at hk
   subst hk
   obtain⟨u',h1, -⟩:=hcell j (by simpa using hlt)
   rw [h1];rfl
theorem run_app (base:Nat) (t ty te:TypeId) {ti:TI} (hu:P.underlying t=some (.slice te)) (ht:TyOk P te ti) {sh:List AtTy} (hok:okEl ti sh=true) {v:Value} {n:Nat} {xs:List Value} (hown:w.ownsRow base te sh.length v n xs)
 {fz:Nat→Prop} {M:List (El sh)} {y:Value} (hy:RowR w fz sh M y) (hn:n+M.length≤274877906944) (hbase:base≤w.heap.size) :
 ∃v' w' news,(Builtin.append_ #[t,t] ty #[v,y]).run P w=.ok v' w'∧w'.ownsRow base te sh.length v' (n+M.length) (xs++news)∧w.grownBy w' v.ownBlock∧(v'.ownBlock=v.ownBlock∨v'.ownBlock=some w.heap.size)∧
  news.length=M.length*sh.length∧∀i x,M[i]? =some x→∃b o,RE w fz sh b (o+i*sh.length) x∧∀j,j<sh.length→w.cell? ⟨b,o+i*sh.length+j,none⟩=news[i*sh.length+j]? :=by
 unfold okEl at hok
 simp only [Bool.and_eq_true,Nat.blt_eq] at hok
 obtain⟨h1,h2,h3,h4⟩:=hok
 have h1:ti.n=sh.length:=Nat.eq_of_beq_eq_true h1
 have h4:ti.z.length=ti.n:=Nat.eq_of_beq_eq_true h4
 obtain⟨i,hi,hin,z,hz,hzz⟩:=ht.info
 have hpos:0<sh.length:=by omega
 have hzs:z.cells.size=sh.length:=by
  have:=Rs_length (zOk_Rs w ⟨fun _=>none,fun _=>0,fun _=>0,fun _=>False,fun _=>False,fun _=>False⟩ _ _ hzz)
  simp only [Array.length_toList] at this
  omega
 have hb:=ht.byt i hi h3
 have hmul:(n+M.length)*i.bytes≤140737488355328:=by
  have : (n+M.length)*i.bytes≤274877906944*512:=Nat.mul_le_mul hn hb
  omega
 have hml:n+M.length≤maxLen:=by unfold maxLen;omega
 obtain⟨A,c,news,hv,hl,hone,hcs⟩:=hy.cells hpos
 subst hv
 have hfin : ∀b o,(∀j u,news[j]? =some u→w.cell? ⟨b,o+j,none⟩=some u)→(∀i x,M[i]? =some x→RE w fz sh b (o+i*sh.length) x)→∀i x,M[i]? =some x→∃b o,RE w fz sh b (o+i*sh.length) x∧∀j,j<sh.length→w.cell? ⟨b,o+i*sh.length+j,none⟩=news[i*sh.length+j]? :=by
  intro b o h5 h6 i x hx
  refine⟨b,o,h6 i x hx,fun j hj=>?_⟩
  have hil:i<M.length:=(List.getElem?_eq_some_iff.1 hx).1
  have hlt:i*sh.length+j<news.length:=by
   rw [hl]
   calc i*sh.length+j<(i+1)*sh.length:=by rw [Nat.succ_mul];omega
    _≤M.length*sh.length:=Nat.mul_le_mul_right _ hil
  rw [List.getElem?_eq_getElem hlt]
  have:=h5 (i*sh.length+j) _ (List.getElem?_eq_getElem hlt)
  rwa [←Nat.add_assoc] at this
 by_cases h0:M=[]
 ·subst h0
  have hne:news=[]:=List.eq_nil_of_length_eq_zero (by simpa using hl)
  subst hne
  cases A with
  | none=>
    refine⟨v,w,[],?_,by simpa using hown,World.grownBy.refl w _,.inl rfl,by simp,fun i x hx=>by simp at hx⟩
    rcases hown.2 with ⟨rfl,rfl⟩ | ⟨g,cap,cur,rfl,_,_,hnc,_⟩
    ·simp [Builtin.append_,run_underlying hu,sizeOf,typeInfo,hi,Builtin.lenOf,Builtin.firstCells]
    ·simp [Builtin.append_,run_underlying hu,sizeOf,typeInfo,hi,Builtin.lenOf,Builtin.firstCells,hnc,storeCells]
  | some ad=>
    obtain⟨v',w',q1,q2,q3, -,q5⟩:=run_append_own_at (P:=P) (w:=w) base t ty te i z sh.length i.bytes hu hi hz (by omega) rfl hzs hpos v n xs hown ad 0 c [] (by simp) (by simp) (by simp) (by simpa using hml) (by simpa using hmul) hbase
    exact⟨v',w',[],q1,q2,q3,q5,by simp,fun i x hx=>by simp at hx⟩
 ·obtain⟨b,o,rfl,h5,h6⟩:=hcs h0
  obtain⟨v',w',q1,q2,q3, -,q5⟩:=run_append_own_at (P:=P) (w:=w) base t ty te i z sh.length i.bytes hu hi hz (by omega) rfl hzs hpos v n xs hown ⟨b,o,none⟩ M.length c news hl (fun j u hj=>by
   have hadd:(⟨b,o,none⟩:Addr).add j=⟨b,o+j,none⟩:=by unfold Addr.add;split<;>simp_all
   rw [hadd];exact h5 j u hj) hone hml hmul hbase
  exact⟨v',w',news,q1,q2,q3,q5,hl,hfin b o h5 h6⟩
def appEff (nx:Nat) (od:Option Nat) (ob:Ob):AH:=(nx,ob)::match od with
 | none=>[]
 | some id=>[(id,.gone)]
def AppRun (P:Program) (w:World) (fz:Nat→Prop) (t t' ty te:TypeId) (sh:List AtTy) (n:Nat) (M:List (El sh)) (v y:Value):Prop:=
 ∀xs,w.ownsRow 0 te sh.length v n xs→∃v' w' news,(Builtin.append_ #[t,t'] ty #[v,y]).run P w=.ok v' w'∧w'.ownsRow 0 te sh.length v' (n+M.length) (xs++news)∧w.grownBy w' v.ownBlock∧(v'.ownBlock=v.ownBlock∨v'.ownBlock=some w.heap.size)∧
  (Same fz w w'→∀i z,M[i]? =some z→∀b o,(∀j,j<sh.length→w'.cell? ⟨b,o+j,none⟩=news[i*sh.length+j]?)→RE w' fz sh b o z)
theorem done_append' {x y:Operand} {t t' te:TypeId} {sh:List AtTy} {L M:List (El sh)} {od:Option Nat} {pre:List Prop} (ho:o.op=.call ⟨.builtin .append,⟨[x,y]⟩,⟨[t,t']⟩⟩)
 (hn : ¬e.on nx) (hz : ∀b,e.fz b→b<w.heap.size) (hrunA:AppRun P w e.fz t t' o.type te sh L.length M (a.eval x) (a.eval y))
 (hx:(od=none∧L=[]∧a.eval x=.slice none 0 0)∨∃id,od=some id∧e.lv id∧e.on id∧OR w e id (.own sh L te)∧a.eval x=.slice (e.adr id) (e.len id) (e.cap id)) :
 Done P o a w e nx ⟨pre,.osl nx,appEff nx od (.own sh (L++M) te)⟩:=by
 obtain⟨xs,hown,hxs,hod⟩ : ∃xs:List Value,w.ownsRow 0 te sh.length (a.eval x) L.length xs∧(∀i z,L[i]? =some z→∃b,RE w e.fz sh b (i*sh.length) z∧∀j,j<sh.length→w.cell? ⟨b,i*sh.length+j,none⟩=xs[i*sh.length+j]?)∧
  ∀b,(a.eval x).ownBlock =some b→¬e.fz b∧b<w.heap.size∧∃id,od=some id∧e.lv id∧e.blk id b:=by
  rcases hx with ⟨rfl,rfl,hv⟩ | ⟨id,rfl,hlv,hon,hO,hv⟩
  ·rw [hv]
   exact⟨[],World.ownsRow_nil _ _ _ _,fun i z h=>by simp at h,fun b hb=>by simp [Value.ownBlock] at hb⟩
  ·obtain⟨h0,hO⟩:=hO
   rw [hv]
   rcases hO with ⟨h1,rfl,h2⟩ | ⟨b,vs,h1,h2,h3,h4,⟨h5,h6⟩,h7⟩
   ·rw [h1,h0,h2]
    exact⟨[],World.ownsRow_nil _ _ _ _,fun i z h=>by simp at h,fun b hb=>by simp [Value.ownBlock] at hb⟩
   ·rw [h1,h0]
    have hle:L.length*sh.length≤vs.size:=by rw [h4];exact Nat.mul_le_mul_right _ h5
    refine⟨vs.toList.take (L.length*sh.length),⟨by simp;omega,.inr ⟨b,e.cap id,vs,rfl,Nat.zero_le _,h3,h5,h6,h4,rfl⟩⟩,fun i z hi=>⟨b,h7 i z hi,fun j hj=>?_⟩,fun b' hb'=>?_⟩
    ·have hil:i<L.length:=(List.getElem?_eq_some_iff.1 hi).1
     have hlt:i*sh.length+j<L.length*sh.length:=by
      calc i*sh.length+j<(i+1)*sh.length:=by rw [Nat.succ_mul];omega
       _≤L.length*sh.length:=Nat.mul_le_mul_right _ hil
     rw [cell_of_row _ b _ vs te _ h3,List.getElem?_take,if_pos hlt]
     simp
    ·simp [Value.ownBlock] at hb'
     subst hb'
     exact⟨h2,row_lt h3,id,rfl,hlv,_,h1,rfl⟩
 obtain⟨v',w',news,hrun,hown',hgb,hob,hns⟩:=hrunA xs hown
 have hxl:=hown.1
 have hsame:Same e.fz w w':=fun b hb=>hgb.block b (hz b hb) fun hh=>(hod b hh.symm).1 hb
 obtain⟨A,cap,hv',hcap,hrow⟩ : ∃A cap,v'=.slice A (L++M).length cap∧cap≤maxLen∧((A=none∧L++M=[]∧cap=0)∨∃g cur,A=some ⟨g,0,none⟩∧w'.heap[g]? =some (.cells cur te (0,0))∧cur.size=cap*sh.length∧(L++M).length ≤cap∧cur.toList.take ((L++M).length * sh.length)=xs++news∧v'.ownBlock=some g):=by
  rcases hown'.2 with ⟨rfl,h0⟩ | ⟨g,cap,cur,rfl, -,h1,h2,h3,h4,h5⟩
  ·have : L++M=[]:=List.eq_nil_of_length_eq_zero (by rw [List.length_append];exact h0)
   exact⟨none,0,by rw [this];rfl,Nat.zero_le _,.inl ⟨rfl,this,rfl⟩⟩
  ·rw [←List.length_append] at h2 h5 ⊢
   exact⟨_,cap,rfl,h3,.inr ⟨g,cur,rfl,h1,h4,h2,h5,rfl⟩⟩
 obtain⟨E,hE⟩ : ∃E:Env,E={ adr:=fun k=>if k=nx then A else e.adr k,cap:=fun k=>if k=nx then cap else e.cap k,len:=fun k=>if k=nx then (L++M).length else e.len k,fz:=e.fz,on:=fun k=>k=nx∨e.on k,lv:=fun k=>k=nx∨e.lv k∧od≠some k }:=⟨_,rfl⟩
 have hLe:e.Le E:=by
  subst hE
  exact⟨fun k hk=>.inr hk,fun k hk=>if_neg fun h:k=nx=>hn (h ▸ hk),fun k hk=>if_neg fun h:k=nx=>hn (h ▸ hk),fun k hk=>if_neg fun h:k=nx=>hn (h ▸ hk),fun b hb=>hb⟩
 have hEa:E.adr nx=A:=by subst hE;exact if_pos rfl
 have hEc:E.cap nx=cap:=by subst hE;exact if_pos rfl
 have hEl:E.len nx=(L++M).length :=by subst hE;exact if_pos rfl
 have hEf:E.fz=e.fz:=by subst hE;rfl
 have hEo : ∀k,E.on k↔k=nx∨e.on k:=fun k=>by subst hE;exact Iff.rfl
 have hEv : ∀k,E.lv k↔k=nx∨e.lv k∧od≠some k:=fun k=>by subst hE;exact Iff.rfl
 have hgf : ∀g,v'.ownBlock=some g→¬e.fz g∧(w.heap.size≤g∨∃j,e.lv j∧od=some j∧e.blk j g):=fun g hg=>by
  rcases hob with h | h
  ·rw [hg] at h
   obtain⟨h1, -,id,h2,h3,h4⟩:=hod g h.symm
   exact⟨h1,.inr ⟨id,h3,h2,h4⟩⟩
  ·rw [hg] at h
   cases h
   exact⟨fun h=>absurd (hz _ h) (Nat.lt_irrefl _),.inl (Nat.le_refl _)⟩
 have hid : ∀id,od=some id→e.on id∧e.lv id:=fun id h=>by
  rcases hx with ⟨h1, -⟩ | ⟨j,h1,h2,h3, -⟩
  ·rw [h1] at h;cases h
  ·rw [h1] at h;cases h;exact⟨h3,h2⟩
 have hget : ∀k ob,(appEff nx od (.own sh (L++M) te)).get k=some ob→(k=nx∧ob=.own sh (L++M) te)∨(od=some k∧ob=.gone):=fun k ob hk=>by
  unfold appEff AH.get at hk
  split at hk
  ·rename_i hkk
   cases hk
   exact .inl ⟨(by simpa using hkk:nx=k).symm,rfl⟩
  ·cases od with
   | none=>cases hk
   | some id=>
     unfold AH.get at hk
     split at hk
     ·rename_i hkk
      cases hk
      have : id=k:=by simpa using hkk
      exact .inr ⟨by rw [this],rfl⟩
     ·cases hk
 have hsome:((appEff nx od (.own sh (L++M) te)).get nx).isSome =true:=by unfold appEff AH.get;simp
 have hgone : ∀id,od=some id→(appEff nx od (.own sh (L++M) te)).get id=some .gone :=fun id h=>by
  subst h
  have : nx≠id:=fun h=>hn (h ▸ (hid id rfl).1)
  simp [appEff,AH.get,this]
 unfold Done Oper.wp execOp
 simp only [ho,resolve,invoke,builtin,Sem.run_bind,Sem.run_pure,Result.andThen_ok,List.map_toArray,List.map_cons,List.map_nil,hrun]
 refine⟨v',E,rfl,?_,hLe,.of fun b hb=>by rw [hEf] at hb;exact hb,?_,?_,?_,?_,?_,⟨hgb.os,hgb.tape,hgb.output,hgb.size,fun b hb hM=>hgb.block b hb fun hh=>hM ?_⟩⟩
 ·unfold R
  exact⟨(hEo nx).2 (.inl rfl),by rw [hEa,hEc,hEl];exact hv'⟩
 ·intro k ob hk
  rcases hget k ob hk with ⟨rfl,rfl⟩ | ⟨h1,rfl⟩
  ·refine⟨⟨hEl,?_⟩,(hEo _).2 (.inl rfl),fun _=>(hEv _).2 (.inl rfl)⟩
   rw [hEa,hEc,hEf]
   rcases hrow with ⟨h1,h2,h3⟩ | ⟨g,cur,h1,h2,h3,h4,h5,h6⟩
   ·exact .inl ⟨h1,h2,h3⟩
   ·have hcell : ∀i j,i<(L++M).length →j<sh.length→w'.cell? ⟨g,i*sh.length+j,none⟩=(xs++news)[i*sh.length+j]? :=fun i j hi hj=>by
     have hlt:i*sh.length+j<(L++M).length * sh.length:=by
      calc i*sh.length+j<(i+1)*sh.length:=by rw [Nat.succ_mul];omega
       _≤(L++M).length * sh.length:=Nat.mul_le_mul_right _ hi
     rw [cell_of_row _ g _ cur te _ h2,←h5,List.getElem?_take,if_pos hlt]
     simp
    refine .inr ⟨g,cur,h1,(hgf g h6).1,h2,h3,⟨h4,hcap⟩,fun i z hi=>?_⟩
    have hil:=(List.getElem?_eq_some_iff.1 hi).1
    rw [List.getElem?_append] at hi
    split at hi
    ·rename_i hlt
     obtain⟨b,h7,h8⟩:=hxs i z hi
     refine RE_move hsame (fun j hj=>?_) h7
     rw [hcell i j hil hj,h8 j hj,List.getElem?_append_left]
     rw [hxl]
     calc i*sh.length+j<(i+1)*sh.length:=by rw [Nat.succ_mul];omega
      _≤L.length*sh.length:=Nat.mul_le_mul_right _ hlt
    ·rename_i hge
     refine hns hsame (i-L.length) z hi g (i*sh.length) fun j hj=>?_
     have hmul:i*sh.length=L.length*sh.length+(i-L.length)*sh.length:=by
      rw [←Nat.add_mul];congr 1;omega
     rw [hcell i j hil hj,List.getElem?_append_right (by rw [hxl];omega),hxl]
     congr 1
     omega
  ·exact⟨trivial,hLe.on k (hid k h1).1,fun h=>by cases h⟩
 ·intro k hk
  rcases (hEo k).1 hk with rfl | h
  ·exact .inr ⟨Nat.le_refl _,hsome⟩
  ·exact .inl h
 ·intro k hk
  rcases (hEv k).1 hk with rfl | ⟨h, -⟩
  ·refine .inr ⟨hn,(hEo _).2 (.inl rfl),fun b ⟨ad,h1,h2⟩=>?_⟩
   rw [hEa] at h1
   rcases hrow with ⟨h3, -⟩ | ⟨g,cur,h3,h4, -, -, -,h5⟩
   ·rw [h3] at h1;cases h1
   ·rw [h3] at h1
    cases h1
    subst h2
    refine⟨row_lt h4,(hgf g h5).2.imp id fun ⟨j,q1,q2,q3⟩=>⟨j,q1,fun h=>?_,q3⟩⟩
    rcases (hEv j).1 h with rfl | ⟨-,h⟩
    ·exact hn (hid _ q2).1
    ·exact h q2
  ·exact .inl h
 ·intro k hk
  by_cases h:od=some k
  ·exact .inr (hgone k h)
  ·exact .inl ((hEv k).2 (.inr ⟨hk,h⟩))
 ·intro k k' b hk hk1 hk' hk1' _ _
  have h1:=((hEv k).1 hk).resolve_right fun h=>hk1 h.1
  have h2:=((hEv k').1 hk').resolve_right fun h=>hk1' h.1
  rw [h1,h2]
 ·obtain⟨-, -,id,h1,h2,h3⟩:=hod b hh.symm
  exact⟨id,h2,by rw [hgone id h1];rfl,h3⟩
theorem done_append {x y:Operand} {t te:TypeId} {ti:TI} {sh:List AtTy} {L M:List (El sh)} {od:Option Nat} {pre:List Prop} (ho:o.op=.call ⟨.builtin .append,⟨[x,y]⟩,⟨[t,t]⟩⟩) (hu:P.underlying t=some (.slice te)) (ht:TyOk P te ti) (hok:okEl ti sh=true)
 (hn : ¬e.on nx) (hz : ∀b,e.fz b→b<w.heap.size) (hlen:L.length+M.length≤274877906944) (hy:RowR w e.fz sh M (a.eval y))
 (hx:(od=none∧L=[]∧a.eval x=.slice none 0 0)∨∃id,od=some id∧e.lv id∧e.on id∧OR w e id (.own sh L te)∧a.eval x=.slice (e.adr id) (e.len id) (e.cap id)) :
 Done P o a w e nx ⟨pre,.osl nx,appEff nx od (.own sh (L++M) te)⟩:=by
 refine done_append' ho hn hz (fun xs hown=>?_) hx
 obtain⟨v',w',news,h1,h2,h3,h4, -,h6⟩:=run_app (P:=P) 0 t o.type te hu ht hok hown hy hlen (Nat.zero_le _)
 refine⟨v',w',news,h1,h2,h3,h4,fun hsame i z hi b o hc=>?_⟩
 obtain⟨b',o',h7,h8⟩:=h6 i z hi
 exact RE_move hsame (fun j hj=>by rw [hc j hj,h8 j hj]) h7
theorem run_appS {fz:Nat→Prop} (t t' ty te:TypeId) {ti:TI} (hu:P.underlying t=some (.slice te)) (hu':P.underlying t'=some .string) (ht:TyOk P te ti) (hok:okEl ti [.i .u8]=true) {v:Value} {n:Nat} (l:List UInt8) (hn:n+l.length≤274877906944) :
 AppRun P w fz t t' ty te [.i .u8] n (toBl l) v (.string ⟨l.toArray⟩):=by
 intro xs hown
 unfold okEl at hok
 simp only [Bool.and_eq_true,Nat.blt_eq,List.length_cons,List.length_nil,Nat.zero_add] at hok
 obtain⟨h1,h2,h3,h4⟩:=hok
 have h1:ti.n=1:=Nat.eq_of_beq_eq_true h1
 have h4:ti.z.length=ti.n:=Nat.eq_of_beq_eq_true h4
 obtain⟨i,hi,hin,z,hz,hzz⟩:=ht.info
 have hsize:i.size=1:=by omega
 have hzs:z.cells.size=1:=by
  have:=Rs_length (zOk_Rs w ⟨fun _=>none,fun _=>0,fun _=>0,fun _=>False,fun _=>False,fun _=>False⟩ _ _ hzz)
  simp only [Array.length_toList] at this
  omega
 have hb:=ht.byt i hi h3
 have hmul : ∀m,m≤281474976710656/512→m*i.bytes≤281474976710656:=fun m hm=>by
  have : m*i.bytes≤(281474976710656/512)*512:=Nat.mul_le_mul hm hb
  omega
 obtain⟨s,hs⟩ : ∃s:ByteArray,s=⟨l.toArray⟩:=⟨_,rfl⟩
 have hss:s.size=l.length:=by subst hs;simp [ByteArray.size]
 have hcs:Lib.strCells s=l.map fun b=>Value.int .u8 b.toNat:=by subst hs;simp [Lib.strCells]
 have hTl:(toBl l).length =s.size:=by rw [hss];simp [toBl]
 have hxl:xs.length=n:=by simpa using hown.1
 have hml:maxLen=281474976710656∨274877906944≤maxLen:=.inr (by unfold maxLen;omega)
 have hml:274877906944≤maxLen:=by unfold maxLen;omega
 have hlen:(xs++Lib.strCells s).length =(n+s.size)*1:=by rw [List.length_append,hxl,Lib.strCells_length,Nat.mul_one]
 have hfin : ∀w':World,Same fz w w'→∀i z,(toBl l)[i]? =some z→∀b o,(∀j,j<1→w'.cell? ⟨b,o+j,none⟩=(Lib.strCells s)[i*1+j]?)→RE w' fz [.i .u8] b o z:=fun w' _ k z hk b o hc=>by
  have:=hc 0 (by decide)
  unfold RE REs RE2
  rw [Nat.add_zero,Nat.mul_one,Nat.add_zero,hcs,List.getElem?_map] at this
  unfold toBl at hk
  rw [List.getElem?_map,Option.map_eq_some_iff] at hk
  obtain⟨c,hc,rfl⟩:=hk
  rw [hc] at this
  exact⟨_,this,by unfold RA;rfl⟩
 have grown : ∀(old:Nat),old<n+s.size→∀(row:Option Nat),
  (w.drew.alloc (.cells (xs.toArray++(Lib.strCells s).toArray ++Builtin.zeroCells z.cells (grownCap w (n+s.size) old te-(n+s.size))) te)).ownsRow 0 te 1
    (.slice (some ⟨w.heap.size,0,none⟩) (n+s.size) (grownCap w (n+s.size) old te)) (n+s.size) (xs++Lib.strCells s)∧
  w.grownBy (w.drew.alloc (.cells (xs.toArray++(Lib.strCells s).toArray ++Builtin.zeroCells z.cells (grownCap w (n+s.size) old te-(n+s.size))) te)) row:=by
  intro old ho row
  have hge:=grownCap_ge w (n+s.size) old te
  have hcm:grownCap w (n+s.size) old te≤maxLen:=grownCap_le_maxLen w (n+s.size) old te (by omega)
  refine⟨⟨hlen,.inr ⟨w.heap.size,_,_,rfl,Nat.zero_le _,heap_alloc_new w.drew _,hge,hcm,?_,?_⟩⟩,⟨rfl,rfl,rfl,by simp,fun k hk _=>Below.heap_alloc w.drew _ k hk⟩⟩
  ·simp only [Array.size_append,List.size_toArray,size_zeroCells,hzs,hxl,Lib.strCells_length]
   omega
  ·simp only [Array.toList_append,List.append_assoc]
   rw [←List.append_assoc,←hlen]
   exact List.take_left
 show ∃v' w' news,(Builtin.append_ #[t,t'] ty #[v,.string ⟨l.toArray⟩]).run P w=.ok v' w'∧w'.ownsRow 0 te 1 v' (n+(toBl l).length) (xs++news)∧_
 rw [←hs,hTl]
 rcases hown.2 with ⟨rfl,rfl⟩ | ⟨g,cap,cur,rfl, -,hg,hnc,hcm,hcz,htake⟩
 ·obtain rfl:xs=[]:=List.eq_nil_of_length_eq_zero hxl
  by_cases hm:s.size=0
  ·have hn0:Lib.strCells s=[]:=List.eq_nil_of_length_eq_zero (by rw [Lib.strCells_length];exact hm)
   refine⟨.slice none 0 0,w,[],?_,by rw [hm];exact World.ownsRow_nil w 0 te 1,World.grownBy.refl w _,.inl rfl,by rw [←hn0];exact hfin w⟩
   have hf:=Lib.run_firstCells_string (P:=P) w 1 s
   rw [hm] at hf
   simp [Builtin.append_,run_underlying hu,run_underlying hu',sizeOf,typeInfo,hi,hsize,Builtin.lenOf,hm,hf]
  ·have hr:=run_append_nil_string (P:=P) w t t' ty te i z hu hu' hi hz s (by omega) (by omega) (hmul _ (by omega))
   have hgr:=grown 0 (by omega) (Value.ownBlock (.slice none 0 0))
   simp only [Nat.zero_add,List.nil_append,Array.empty_append] at hgr ⊢
   have e1:(s.data.map fun b=>Value.int .u8 b.toNat)=(Lib.strCells s).toArray :=by
    apply Array.ext'
    simp [Lib.strCells]
   rw [e1] at hr
   exact⟨_,_,_,hr,hgr.1,hgr.2,.inr rfl,hfin _⟩
 ·by_cases hroom:n+s.size≤cap
  ·have hcz':cur.size=cap:=by simpa using hcz
   have hr:=Lib.run_append_room_string (P:=P) w t t' ty te i hu hu' hi hsize g n cap cur hg s hroom (by omega)
   refine⟨_,_,_,hr,⟨hlen,.inr ⟨g,cap,_,rfl,Nat.zero_le _,setRow_heap w g cur _ te _ hg,hroom,hcm,?_,?_⟩⟩,⟨rfl,rfl,rfl,by simp,fun k _ hk=>setRow_other w g k _ (fun e=>hk (by simp [Value.ownBlock,e]))⟩,.inl rfl,hfin _⟩
   ·simp only [List.size_toArray,List.length_append,List.length_take,List.length_drop,Array.length_toList,Lib.strCells_length]
    omega
   ·have ht':cur.toList.take n=xs:=by simpa using htake
    rw [ht',←hlen]
    exact List.take_left
  ·have holds : ∀j u,xs[j]? =some u→w.cell? ((⟨g,0,none⟩:Addr).add j)=some u:=hown.cells (g:=g) rfl
   have hcap:Builtin.nextslicecap (n+s.size) cap*i.bytes≤281474976710656:=by
    exact growslice_fits (by omega) (by have:=Nat.mul_le_mul (show n+s.size≤274877906944 by omega) hb;omega)
   have hr:=Lib.run_append_grow_string (P:=P) w t t' ty te i z hu hu' hi hz ⟨g,0,none⟩ n cap xs (by rw [hsize];simpa using hxl) holds s (by omega) (by omega) hcap
   have hgr:=grown cap (by omega) (Value.ownBlock (.slice (some ⟨g,0,none⟩) n cap))
   exact⟨_,_,_,hr,hgr.1,hgr.2,.inr rfl,hfin _⟩
theorem un2_len {x:Type} {f:PV→Option x} : ∀{ts:List AtTy} {vs:List PV} {y:EL2 x ts},un2 f ts vs=some y→vs.length=ts.length+1:=by
 intro ts
 induction ts generalizing x f with
 | nil=>
   intro vs y h
   obtain⟨v,rfl, -⟩:=un2_nil h
   rfl
 | cons t ts ih=>
   intro vs y h
   rcases vs with _ | ⟨v,vs⟩
   ·exact (un2_no h).elim
   ·obtain⟨a,c, -,hc, -⟩:=un2_cons h
    have:=ih hc
    simp only [tlP] at this
    simp [this]
theorem unE_len {sh:List AtTy} {vs:List PV} {y:El sh} (h:unE sh vs=some y):vs.length=sh.length:=by
 cases sh with
 | nil=>cases h
 | cons t ts=>exact un2_len h
theorem done_row {sh:List AtTy} {L:List (El sh)} {t:TypeId} {cs:Array Value} {cap:Nat} {pre:List Prop} (hn : ¬e.on nx) (hz : ∀b,e.fz b→b<w.heap.size) (hcs:cs.size=cap*sh.length) (hle:L.length≤cap∧cap≤maxLen)
 (hL : ∀i x,L[i]? =some x→RE (w.alloc (.cells cs t)) e.fz sh w.heap.size (i*sh.length) x) (hr:(execOp a.eval o).run P w=.ok (.value (.slice (some ⟨w.heap.size,0,none⟩) L.length cap)) (w.alloc (.cells cs t))):Done P o a w e nx ⟨pre,.osl nx,[(nx,.own sh L t)]⟩:=by
 unfold Done Oper.wp
 rw [hr]
 obtain⟨E,hE⟩ : ∃E:Env,E={ adr:=fun k=>if k=nx then some ⟨w.heap.size,0,none⟩ else e.adr k,cap:=fun k=>if k=nx then cap else e.cap k,len:=fun k=>if k=nx then L.length else e.len k,fz:=e.fz,on:=fun k=>k=nx∨e.on k,lv:=fun k=>k=nx∨e.lv k }:=⟨_,rfl⟩
 have hLe:e.Le E:=by
  subst hE
  exact⟨fun k hk=>.inr hk,fun k hk=>if_neg fun h:k=nx=>hn (h ▸ hk),fun k hk=>if_neg fun h:k=nx=>hn (h ▸ hk),fun k hk=>if_neg fun h:k=nx=>hn (h ▸ hk),fun b hb=>hb⟩
 have hEa:E.adr nx=some ⟨w.heap.size,0,none⟩:=by subst hE;exact if_pos rfl
 have hEc:E.cap nx=cap:=by subst hE;exact if_pos rfl
 have hEl:E.len nx=L.length:=by subst hE;exact if_pos rfl
 have hEf:E.fz=e.fz:=by subst hE;rfl
 have hEo : ∀k,E.on k↔k=nx∨e.on k:=fun k=>by subst hE;exact Iff.rfl
 have hEv : ∀k,E.lv k↔k=nx∨e.lv k:=fun k=>by subst hE;exact Iff.rfl
 have hget : ∀k o',AH.get [(nx,Ob.own sh L t)] k=some o'→k=nx∧o'=.own sh L t:=fun k o' hk=>by
  unfold AH.get at hk
  split at hk
  ·rename_i hkk;exact⟨(by simpa using hkk:nx=k).symm,by cases hk;rfl⟩
  ·cases hk
 refine⟨_,E,rfl,?_,hLe,.of fun b hb=>by rw [hEf] at hb;exact hb,?_,?_,?_,fun k hk=>.inl ((hEv k).2 (.inr hk)),?_,.of_below ((Below.refl _ _).alloc (Nat.le_refl _) _)⟩
 ·unfold R;exact⟨(hEo nx).2 (.inl rfl),by rw [hEa,hEc,hEl]⟩
 ·intro k o' hk
  obtain⟨rfl,rfl⟩:=hget k o' hk
  exact⟨⟨hEl,.inr ⟨_,cs,hEa,fun hf=>by rw [hEf] at hf;exact absurd (hz _ hf) (Nat.lt_irrefl _),heap_alloc_new w _,by rw [hEc];exact hcs,by rw [hEc];exact hle,by rw [hEf];exact hL⟩⟩,(hEo _).2 (.inl rfl),fun _=>(hEv _).2 (.inl rfl)⟩
 ·intro k hk
  rcases (hEo k).1 hk with rfl | hk
  ·exact .inr ⟨Nat.le_refl _,by simp [AH.get]⟩
  ·exact .inl hk
 ·intro k hk
  rcases (hEv k).1 hk with rfl | hk
  ·refine .inr ⟨hn,(hEo _).2 (.inl rfl),fun b ⟨x,h1,h2⟩=>?_⟩
   rw [hEa] at h1
   cases h1
   subst h2
   exact⟨row_lt (heap_alloc_new w _),.inl (Nat.le_refl _)⟩
  ·exact .inl hk
 ·intro k k' b hk hk1 hk' hk1' _ _
  rw [((hEv k).1 hk).resolve_right hk1,((hEv k').1 hk').resolve_right hk1']
theorem lits_ok {sh:List AtTy} : ∀{ps:List (Nat×PV)} {k:Nat} {L:List (El sh)} {us:List (Nat×Value)},lits sh k ps=some L→us.map (·.1)=ps.map (·.1)→Rs w e (ps.map (·.2)) (us.map (·.2))→
 us=((us.map (·.2)).zipIdx k).map (fun x=>(x.2,x.1))∧L.length=us.length∧(∀v∈us.map (·.2),v.cells.size=sh.length)∧∀(i:Nat) (x:El sh),L[i]? =some x→∃(v:Value) (vs:List PV),(us.map (·.2))[i]? =some v∧unE sh vs=some x∧Rs w e vs v.cells.toList
 | [],k,L,us,h,h1,_=>by
   have : us=[]:=by simpa using h1
   subst this
   simp only [lits,Option.some.injEq] at h
   subst h
   exact⟨rfl,rfl,by simp,fun i x hx=>by simp at hx⟩
 | (i,v)::ps,k,L,[],h,h1,_=>by simp at h1
 | (i,v)::ps,k,L,(i',u)::us,h,h1,h2=>by
   simp only [List.map_cons,List.cons.injEq] at h1
   obtain⟨rfl,h1⟩:=h1
   simp only [List.map_cons] at h2
   unfold Rs at h2
   obtain⟨u',us',h3,h4,h5⟩:=h2
   cases h3
   unfold lits at h
   split at h
   ·rename_i hk
    have hk:=Nat.eq_of_beq_eq_true hk
    subst hk
    split at h
    ·rename_i vs hcs
     split at h
     ·rename_i y L' hy hL'
      cases h
      obtain⟨q1,q2,q3,q4⟩:=lits_ok hL' h1 h5
      have hRc:=R_cells hcs h4
      have hl:=Rs_length hRc
      refine⟨?_,by simp [q2],?_,?_⟩
      ·rw [List.map_cons,List.zipIdx_cons,List.map_cons,←q1]
      ·intro v' hv'
       rw [List.map_cons] at hv'
       rcases List.mem_cons.1 hv' with rfl | hv'
       ·have:=unE_len hy
        simp only [Array.length_toList] at hl
        omega
       ·exact q3 v' hv'
      ·intro j x hx
       cases j with
       | zero=>simp at hx;subst hx;exact⟨u,vs,rfl,hy,hRc⟩
       | succ j=>
         obtain⟨v',vs',r1,r2,r3⟩:=q4 j x (by simpa using hx)
         exact⟨v',vs',by simpa using r1,r2,r3⟩
     ·cases h
    ·cases h
   ·cases h
theorem done_lit {t te:TypeId} {ti:TI} {sh:List AtTy} {n:Nat} {parts:Array (Nat×Value)} {ps:List (Nat×PV)} {L:List (El sh)} {pre:List Prop} (hu:P.underlying t=some (.slice te)) (ht:TyOk P te ti) (hok:okEl ti sh=true) (h64:n≤64) (hn : ¬e.on nx) (hz : ∀b,e.fz b→b<w.heap.size)
 (hL:lits sh 0 ps=some L) (hlen:L.length=n) (h1:parts.toList.map (·.1)=ps.map (·.1)) (h2:Rs w e (ps.map (·.2)) (parts.toList.map (·.2)))
 (hrun : ∀v w',(Instr.buildSlice t n parts).run P w=.ok v w'→(execOp a.eval o).run P w=.ok (.value v) w'):Done P o a w e nx ⟨pre,.osl nx,[(nx,.own sh L te)]⟩:=by
 unfold okEl at hok
 simp only [Bool.and_eq_true,Nat.blt_eq,Nat.ble_eq] at hok
 obtain⟨k1,k2,k3,k4⟩:=hok
 have k1:ti.n=sh.length:=Nat.eq_of_beq_eq_true k1
 have k4:ti.z.length=ti.n:=Nat.eq_of_beq_eq_true k4
 obtain⟨i,hi,hin,z,hzz,hzo⟩:=ht.info
 have hpos:0<sh.length:=by omega
 have hzs:z.cells.size=sh.length:=by
  have:=Rs_length (zOk_Rs w e _ _ hzo)
  simp only [Array.length_toList] at this
  omega
 obtain⟨q1,q2,q3,q4⟩:=lits_ok hL h1 h2
 have hsz:i.size=sh.length:=by omega
 have hpl:parts.toList.length=n:=by omega
 obtain⟨r,hr1,hr2,hr3⟩ : ∃r:Array Value,(Instr.buildSlice t n parts).run P w=.ok (.slice (some ⟨w.heap.size,0,none⟩) n n) (w.alloc (.cells r te))∧r.size=n*sh.length∧
  ∀i v,(parts.toList.map (·.2))[i]? =some v→∀j,j<sh.length→r[i*sh.length+j]? =v.cells[j]? :=by
  by_cases h0:n=0
  ·subst h0
   have : parts=#[]:=by simpa using hpl
   subst this
   refine⟨#[],?_,by simp,fun i v h=>by simp at h⟩
   simp [Instr.buildSlice,run_underlying hu,sizeOf,typeInfo,hi,newRow,Instr.fill,show Array.range 0=(#[]:Array Nat) from rfl]
  ·obtain⟨r,hr,hrs,hrk⟩:=Go.Great.fill_dense (s:=i.size) (by omega) (parts.toList.map (·.2)) 0 ((Array.range (n*i.size)).map (z.cells[· % z.cells.size]!)) (by rw [hsz];exact q3) (by simp [hpl])
   rw [←q1] at hr
   refine⟨r,Go.run_buildSlice w t te n _ r i z hu hi hzz (by
    have : n*i.size≤64*40:=Nat.mul_le_mul h64 (by omega)
    omega) (by rw [hsz];exact Nat.ne_of_gt (Nat.mul_pos (by omega) hpos)) hr,by rw [hrs];simp [hsz],fun k v hk j hj=>?_⟩
   have hkl:=(List.getElem?_eq_some_iff.1 hk).1
   rw [List.length_map,hpl] at hkl
   have e1:(k*sh.length+j)/sh.length=k:=by
    rw [Nat.add_comm,Nat.mul_comm,Nat.add_mul_div_left _ _ hpos,Nat.div_eq_of_lt hj,Nat.zero_add]
   have e2:(k*sh.length+j)%sh.length=j:=by
    rw [Nat.add_comm,Nat.mul_comm,Nat.add_mul_mod_self_left,Nat.mod_eq_of_lt hj]
   rw [hrk,if_pos,hsz,e1,e2,Nat.sub_zero,hk]
   ·rfl
   ·refine⟨by omega,?_⟩
    rw [List.length_map,hpl,hsz,Nat.zero_add]
    calc k*sh.length+j<(k+1)*sh.length:=by rw [Nat.succ_mul];omega
     _≤n*sh.length:=Nat.mul_le_mul_right _ hkl
 subst hlen
 refine done_row (cs:=r) (cap:=L.length) hn hz hr2 ⟨Nat.le_refl _,by unfold maxLen;omega⟩ (fun k x hx=>?_) (hrun _ _ hr1)
 obtain⟨v,vs,r1,r2,r3⟩:=q4 k x hx
 have hsame:Same e.fz w (w.alloc (.cells r te)):=same_alloc hz _
 refine unE_RE (e:=e) (fun _ h=>h) r2 (Rs_mono hsame (.refl e) vs _ r3) fun j u hj=>?_
 rw [cell_of_row _ w.heap.size _ r te _ (heap_alloc_new w _),hr3 k v r1 j (by
  have:=unE_len r2
  have h5:=Rs_length r3
  have:=(List.getElem?_eq_some_iff.1 hj).1
  omega)]
 simpa using hj
end
end Ax
end Go.Proofs.YtjjonmhpgkahoaaGreatDoor
