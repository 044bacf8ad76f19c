/-
  Challenges: both packages decide the same; The plain walker: a function that defers a call of a closure of its own; the closure's code is walked in place; A challenge that may be made, of the impl package; What a challenge answers, of the impl package.
  Conditions: none; the tables of types and of functions are as the program has them.
-/
import Derived.Test.YtghmphmbpdiflaaGreatDoorE37
import Derived.Test.YtghmphmbpdiflaaGreatDoorE11
import Derived.Defers
import Derived.Test.YtghmphmbpdiflaaGreatDoorE26
import Derived.Test.YtghmphmbpdiflaaGreatDoorE27
set_option linter.unusedSimpArgs false
set_option linter.unusedVariables false
namespace Go.Proofs.YtghmphmbpdiflaaGreatDoor
namespace Ax
set_option maxRecDepth 100000
set_option maxHeartbeats 2000000
section
variable {g:Gm} {n:Int}
structure ChV (g:Gm):Prop where
 bd:bdB g.bef=true
 v:validI g.bef g.last.play=true
 vp:VP g.bef g.last.play
theorem ch_v (h:ChF g n):ChV g:=by
 have hk:=pkf h.ok
 have hb:bdB g.bef=true:=by have:=hk.ok;unfold Go.Proofs.YtghmphmbpdiflaaGreatDoor.okB at this;rw [Bool.and_eq_true] at this;exact this.1
 have hv:validI g.bef g.last.play=true:=by rw [←okB_validI hb];exact hk.ok
 exact⟨hb,hv,VP.of hb hv⟩
theorem e_words (h:ChV g):wordsL g.bef g.last.play=wordsI g.bef g.last.play:=by
 obtain⟨hon,hw,h2,h12⟩:=validI_facts h.v
 exact words_same h.bd hon hw
theorem i_vw (h:ChV g):iWords g=vWords g:=(e_words h).symm
theorem i_vx (h:ChV g):iWrong g=vWrong g:=by
 unfold iWrong vWrong wrongL wrongS
 rw [e_words h]
theorem i_vu (h:ChV g):iUp g=vUp g:=by
 unfold iUp vUp
 rw [i_vx h]
theorem i_vp (h:ChV g):iPts g=vPts g:=by
 unfold iPts vPts
 rw [i_vu h,i_vw h]
theorem i_til (h:ChV g):iTil g=wTil g:=by
 obtain⟨hon,hw,h2,h12⟩:=validI_facts h.v
 unfold iTil wTil
 rw [placed_new h.bd hon]
 exact tiles_pile (placedI_lett hw)
theorem i_rest (h:ChF g n):iRest g=wRest g:=(rest_same (h.sy.ok.rk _) (bag_stp (pkf h.ok).dr).ti (pkf h.ok).tk).symm
theorem i_sp (h:ChF g n):StP (iRest g++iTil g):=by
 have hv:=ch_v h
 have h1:=(tp_stp hv.vp)
 have h2:(iRest g).all tileB=true:=by
  rw [i_rest h]
  exact takeS_all (rackB_asc (h.sy.ok.rk g.last.player)).1
 have h3:(iRest g).length ≤7:=by rw [i_rest h];exact Nat.le_trans (takeGo_sub _ _).length_le (rack_len (h.sy.ok.rk _))
 have h5:(iTil g).length ≤15:=by
  rw [i_til hv]
  unfold wTil
  rw [tilesS_len]
  exact Nat.le_trans (placedS_len _ _) (okB_on (pkf h.ok).ok).on.len
 refine⟨by rw [List.all_append,h2];exact h1.ti,by rw [List.length_append];omega⟩
theorem i_rks (h:ChF g n):iRks g=wRks g:=by
 unfold iRks wRks wRack
 rw [sort_pile (i_sp h).ti,i_til (ch_v h),i_rest h]
theorem i_w1 (h:ChF g n):iw1 (clockG g n)=wd1 (clockG g n):=by
 have e:iRks (clockG g n)=wRks (clockG g n):=(show iRks g=wRks g from i_rks h)
 unfold iw1 wd1
 rw [e]
theorem i_ss (h:ChF g n):iSs (clockG g n)=wSs (clockG g n):=by
 unfold iSs wSs setS wEnd
 rw [i_w1 h];rfl
theorem i_ov (h:ChF g n):iOv (clockG g n)=wOv (clockG g n):=by
 unfold iOv wOv ovB wEnd
 rw [i_w1 h];rfl
theorem i_rf (g:Gm) (k:Int):iRf g k=rfG g k:=by
 unfold iRf rfG setS ovB
 cases waitsB g with
 | false=>simp
 | true=>simp
theorem ch_ve (h:ChF g n):VeP g:=⟨(ch_v h).vp,lex_lxp h.sy.ok.lex,by have:=ch_so h;have:=(pkf h.ok).s2;omega,(pkf h.ok).ok⟩
theorem ch_wi (h:ChF g n):WiP (clockG g n):=by
 have hk:=pkf h.ok
 have hs:=h.sy.ok.sc g.last.player
 have hso:=ch_so h
 refine⟨(ch_v h).vp,h.sy.r2,h.sy.fa.s,(show 0≤g.last.player∧g.last.player≤1 from ch_ply h),rack_stp (h.sy.ok.rk _),bag_stp hk.dr,?_,(show StP (iRest g++iTil g) from i_sp h),bag_len hk.dr,bag_len h.sy.ok.bag,?_,?_,hk.z,⟨fun _=>by rw [i_w1 h];exact ch_set1 h⟩⟩
 ·show (iRest g).length ≤7
  rw [i_rest h]
  exact Nat.le_trans (takeGo_sub _ _).length_le (rack_len (h.sy.ok.rk _))
 ·show -1000000≤g.sc g.last.player∧g.sc g.last.player≤1000000
  omega
 ·have:=hk.s2
  show -1000000≤g.last.score∧g.last.score≤1000000
  omega
theorem ch_rf (h:ChF g n):RfP (clockG g n) (iPts g):=by
 have hs:=h.sy.ok.sc g.last.player
 have hp:=ch_pts h
 have hgz:=(pkf h.ok).gz
 have hpl:=h.sy.fa.ply
 refine⟨h.sy.r2,h.sy.fa.s,?_,(show 0≤g.last.player∧g.last.player≤1 from ch_ply h),?_,?_,?_,fun p z l=>⟨fun _=>?_⟩⟩
 ·show inR g.player 0 1=true
  unfold inR
  simp only [Bool.and_eq_true,decide_eq_true_eq]
  exact hpl
 ·show -1000000≤g.sc g.last.player∧g.sc g.last.player≤1000000
  omega
 ·rw [i_vp (ch_v h)];omega
 ·show 0≤g.zeros∧g.zeros≤100
  omega
 ·rw [i_vp (ch_v h)]
  have h1:=ch_set2 h
  exact⟨⟨h1.en.ts,h1.en.rk,h1.en.ck,h1.en.len,h1.en.clk⟩,h1.len,h1.lo,h1.hi⟩
end
end Ax
namespace Ax
open Go.RowKit
def AS.fr (st:AS) (tm:List PV):AS:=⟨tm,st.h,st.nx⟩
section
variable {P:Program} {c:Cx} {w w' w0:World} {e e':Env} {fz:Nat→Prop} {M:Root} {st st':AS} {a a':Act}
def Root.inn (st:AS) (e:Env):Root:=⟨fun b=>∃k,e.lv k∧e.blk k b,st.nx,e,[]⟩
theorem SR.inn (h:SR w0 fz M st a w e) {tm:List PV} {ts:Array Value} (hs:ts.size=tm.length) (ht : ∀(t:Nat) (p:PV),tm[t]? =some p→R w e p (ts.getD t undef)) :
 SR w e.fz (Root.inn st e) (st.fr tm) { tmps:=ts,defers:=[] } w e:=by
 have hz:=h.ez.fw h.fzb h.low
 refine⟨hs,ht,h.ob,h.lo,h.lt,h.dis,fun k b hk hb=>⟨.inr ⟨k,hk,hb⟩,(h.bd k b hk hb).2⟩,⟨fun _ hb=>hb,fun _ hb=>.inl hb,h.ez.nf⟩,⟨fun b hb=>⟨hz.lt b hb,fun ⟨k,hk,hkb⟩=>h.ez.nf k b hk hkb hb⟩,hz.gl⟩,Chg.refl _ _,fun k _ hk=>⟨hk,rfl,rfl,rfl⟩,rfl⟩
theorem SR.out (h:SR w0 fz M st a w e) (hi:SR w e.fz (Root.inn st e) st' a' w' e'):SR w0 fz M ⟨st.tm,st'.h,st'.nx⟩ a w' e':=by
 have hle:e.Le e':=⟨fun k hk=>(hi.root k (h.lt k hk) hk).1,fun k hk=>(hi.root k (h.lt k hk) hk).2.1,fun k hk=>(hi.root k (h.lt k hk) hk).2.2.1,fun k hk=>(hi.root k (h.lt k hk) hk).2.2.2,fun b hb=>hi.ez.sub b hb⟩
 have hsame:Same e.fz w w':=fun b hb=>hi.low.block b (hi.fzb.lt b hb).1 (hi.fzb.lt b hb).2
 have hold : ∀b,w.heap.size≤b∨(∃k,e.lv k∧e.blk k b)→w0.heap.size≤b∨M b:=fun b hb=>by
  rcases hb with hb | ⟨k,hk,hkb⟩
  ·exact .inl (Nat.le_trans h.low.size hb)
  ·exact (h.bd k b hk hkb).1
 refine⟨h.size,fun t p hp=>R_mono hsame hle p _ (h.tm t p hp),hi.ob,hi.lo,hi.lt,hi.dis,fun k b hk hb=>⟨hold b (hi.bd k b hk hb).1,(hi.bd k b hk hb).2⟩,⟨fun b hb=>hi.ez.sub b (h.ez.sub b hb),fun b hb=>?_,hi.ez.nf⟩,h.fzb,⟨hi.low.os.trans h.low.os,hi.low.tape.trans h.low.tape,hi.low.output.trans h.low.output,Nat.le_trans h.low.size hi.low.size,fun b hb hM=>?_⟩,root_le h.root hle,h.defers⟩
 ·rcases hi.ez.sup b hb with h1 | h1
  ·exact (h.ez.sup b h1).imp id fun q=>⟨q.1,Nat.lt_of_lt_of_le q.2 hi.low.size⟩
  ·exact .inr ⟨Nat.le_trans h.low.size h1.1,h1.2⟩
 ·rw [hi.low.block b (Nat.lt_of_lt_of_le hb h.low.size) fun ⟨k,hk,hkb⟩=>?_]
  ·exact h.low.block b hb hM
  ·rcases (h.bd k b hk hkb).1 with h1 | h1
   ·exact absurd hb (Nat.not_lt.2 h1)
   ·exact hM h1
def dfr:Code→Option (Nat×FuncId×List Operand)
 | .region _ ⟨[⟨some t,.makeFunc (.func f) ⟨[]⟩ cs,_,_,_,none⟩,⟨none,.defer ⟨.value (.tmp t'),⟨[]⟩,_⟩,_,_,_,none⟩]⟩ false=>if Nat.beq t t' then some (t,f,cs.toList) else none
 | _=>none
def ptrs:List PV→Bool
 | []=>true
 | .ptr _ _::r=>ptrs r
 | _=>false
theorem ptrs_R {M:Root} {w w':World} {e e':Env} (hr : ∀k,k<M.n→M.e.on k→e'.on k∧e'.adr k=M.e.adr k∧e'.cap k=M.e.cap k∧e'.len k=M.e.len k) (he:M.e=e) (hl : ∀k,e.on k→k<M.n) : ∀{l:List PV} {vs:List Value},ptrs l=true→Rs w e l vs→Rs w' e' l vs
 | [],vs,_,h=>by unfold Rs at *;exact h
 | .ptr id off::l,vs,hp,h=>by
   unfold Rs at h ⊢
   obtain⟨u,us,h1,h2,h3⟩:=h
   refine⟨u,us,h1,?_,ptrs_R hr he hl (by unfold ptrs at hp;exact hp) h3⟩
   unfold R at h2 ⊢
   obtain⟨h4,b,h5,h6⟩:=h2
   obtain⟨g1,g2, -, -⟩:=hr id (hl id h4) (by rw [he];exact h4)
   exact⟨g1,b,by rw [g2,he];exact h5,h6⟩
abbrev QD:=FuncId→List PV→AEx→AS→Prop
def awpD (c:Cx) (Q:AEx→AS→Prop) (q:QD):Code→AS→Prop
 | .seq x y,st=>match dfr x with
   | some (t,f,cs)=>((Nat.blt t st.tm.length&&ptrs (cs.map (ev st.tm)))=true)∧awp ⟨c.p,c.T,c.F,c.M,st.nx,c.C,c.I,c.N,c.U,c.Z⟩ y (q f (cs.map (ev st.tm))) ⟨put st.tm (some t) (.fn f (cs.map (ev st.tm))),st.h,st.nx⟩
   | none=>awp c x (fun z st'=>match z with | .normal =>awpD c Q q y st' | z=>Q z st') st
 | x,st=>awp c x Q st
def codeOkD:Code→Bool
 | .seq x y=>match dfr x with
   | some _=>codeOk y
   | none=>codeOk x&&codeOkD y
 | x=>codeOk x
def AEx.of:AEx→Exit
 | .normal =>.normal
 | .exit k=>.exit k
 | .ret =>.ret
theorem awpD_ok (hc:CxOk P c) (hm:P.follows .mixedOrders =true) (hn0:M.n=c.n0) {Q:AEx→AS→Prop} {q:QD} {K:Exit→Act→World→Prop}
 (h0 : ∀x st a w e,SR w0 fz M st a w e→Q x st→K x.of a w)
 (h1 : ∀f cs vs x st a w e,Rs w e cs vs→SR w0 fz { M with d:=⟨.fn (.func f) vs.toArray,#[]⟩::M.d } st a w e→q f cs x st→K x.of a w) :
 ∀(b:Code),codeOkD b=true→∀(st:AS) (a:Act) (w:World) (e:Env),awpD c Q q b st→SR w0 fz M st a w e→b.wp P K a w:=by
 have plain : ∀(b:Code),codeOk b=true→∀(st:AS) (a:Act) (w:World) (e:Env),awp c b Q st→SR w0 fz M st a w e→b.wp P K a w:=fun b hk st a w e h hs=>by
  refine wp_mono (awp_ok hc hm hn0 b hk Q st a w e h hs) ?_
  intro x a' w' hq
  cases x with
  | normal=>obtain⟨st',e',g1,g2⟩:=hq;exact h0 .normal _ _ _ _ g1 g2
  | exit id=>obtain⟨st',e',g1,g2⟩:=hq;exact h0 (.exit id) _ _ _ _ g1 g2
  | ret=>obtain⟨st',e',g1,g2⟩:=hq;exact h0 .ret _ _ _ _ g1 g2
  | goto l=>exact hq.elim
  | panic ch=>exact hq.elim
  | outgrown=>exact hq.elim
 intro b
 induction b with
 | seq x y ihx ihy=>
   intro hk st a w e h hs
   unfold codeOkD at hk
   unfold awpD at h
   cases hd:dfr x with
   | none=>
     rw [hd] at hk h
     simp only at hk h
     rw [Bool.and_eq_true] at hk
     refine wp_seq (wp_mono (awp_ok hc hm hn0 x hk.1 _ st a w e h hs) ?_)
     intro x' a' w' hq
     cases x' with
     | normal=>obtain⟨st',e',g1,g2⟩:=hq;exact ihy hk.2 st' a' w' e' g2 g1
     | exit id=>obtain⟨st',e',g1,g2⟩:=hq;exact h0 (.exit id) _ _ _ _ g1 g2
     | ret=>obtain⟨st',e',g1,g2⟩:=hq;exact h0 .ret _ _ _ _ g1 g2
     | goto l=>exact hq.elim
     | panic ch=>exact hq.elim
     | outgrown=>exact hq.elim
   | some r=>
     obtain⟨t,f,cs⟩:=r
     rw [hd] at hk h
     simp only at hk h
     unfold dfr at hd
     split at hd
     ·rename_i id t1 f1 cs1 ty1 p1 f2 t' at2 ty2 p2 f3
      split at hd
      ·rename_i htt
       have htt:=Nat.eq_of_beq_eq_true htt
       subst htt
       cases hd
       refine wp_seq (wp_region_list ?_)
       obtain⟨hck,h⟩:=h
       rw [Bool.and_eq_true,Nat.blt_eq] at hck
       obtain⟨hlt,hpt⟩:=hck
       show wpList P _ _ [_,_] a w
       unfold wpList
       rw [if_pos (show Region.wanted _ _=true from rfl)]
       have ho:aop c (.makeFunc (.func f) #[] cs1) (ev st.tm) st.h st.nx=some ⟨[],.fn f (cs1.toList.map (ev st.tm)),[]⟩:=by
        unfold aop
        rw [show aopU c (.makeFunc (.func f) #[] cs1) (ev st.tm)=none from by unfold aopU;split<;>rfl];rfl
       refine .inl (wp_never (Oper.wp_mono ?_ (hs.aop (o:=⟨some t,.makeFunc (.func f) #[] cs1,ty1,p1,f2,none⟩) hc ho (fun p hp=>by cases hp))))
       rintro a' w' ⟨e',hs'⟩
       have hx:=hs'.tm t (.fn f (cs1.toList.map (ev st.tm))) (by show (st.tm.set t _)[t]? =_;rw [List.getElem?_set_self hlt])
       unfold R at hx
       obtain⟨vs,hv,hcap⟩:=hx
       unfold wpList
       rw [if_pos (show Region.wanted _ _=true from rfl)]
       refine .inl ?_
       unfold Oper.wp
       have hrun:(execOp a'.eval ⟨none,.defer ⟨.value (.tmp t),#[],at2⟩,ty2,p2,f3,none⟩).run P w'=.ok (.defer ⟨.fn (.func f) vs,#[]⟩) w':=by
        have e1:a'.eval (.tmp t)=.func (.func f) #[] vs:=hv
        simp [execOp,resolve,e1,Deferred.ofValue]
       rw [hrun,Oper.upon_defer]
       unfold wpList
       obtain⟨M2,hM2⟩ : ∃M2:Root,M2=⟨M.m,st.nx,e',⟨.fn (.func f) vs,#[]⟩::M.d⟩:=⟨_,rfl⟩
       have hs2:SR w0 fz M2 ⟨put st.tm (some t) (.fn f (cs1.toList.map (ev st.tm))),st.h,st.nx⟩ { a' with defers:=⟨.fn (.func f) vs,#[]⟩::a'.defers } w' e':=by
        subst hM2
        exact⟨hs'.size,hs'.tm,hs'.ob,hs'.lo,hs'.lt,hs'.dis,hs'.bd,hs'.ez,⟨hs'.fzb.lt,hs'.fzb.gl⟩,hs'.low,fun k _ hk=>⟨hk,rfl,rfl,rfl⟩,by show _::a'.defers=_::M.d;rw [hs'.defers]⟩
       have hc':CxOk P ⟨c.p,c.T,c.F,c.M,st.nx,c.C,c.I,c.N,c.U,c.Z⟩:=⟨hc.p,hc.T,hc.F,hc.M,hc.C,hc.N,hc.U,hc.I⟩
       have back : ∀st2 a2 w2 e2,SR w0 fz M2 st2 a2 w2 e2→Rs w2 e2 (cs1.toList.map (ev st.tm)) vs.toList∧SR w0 fz { M with d:=⟨.fn (.func f) vs.toList.toArray,#[]⟩::M.d } st2 a2 w2 e2:=fun st2 a2 w2 e2 g=>by
        subst hM2
        refine⟨ptrs_R (M:=⟨M.m,st.nx,e',⟨.fn (.func f) vs,#[]⟩::M.d⟩) g.root rfl hs'.lt hpt hcap,⟨g.size,g.tm,g.ob,g.lo,g.lt,g.dis,g.bd,g.ez,⟨g.fzb.lt,g.fzb.gl⟩,g.low,fun k hk ho=>?_,g.defers⟩⟩
        obtain⟨r1,r2,r3,r4⟩:=hs'.root k hk ho
        obtain⟨q1,q2,q3,q4⟩:=g.root k (hs'.lt k r1) r1
        exact⟨q1,q2.trans r2,q3.trans r3,q4.trans r4⟩
       refine wp_mono (awp_ok (M:=M2) hc' hm (by subst hM2;rfl) y hk _ _ _ w' e' h hs2) ?_
       intro x' a2 w2 hq
       cases x' with
       | normal=>obtain⟨st',e2,g1,g2⟩:=hq;obtain⟨b1,b2⟩:=back _ _ _ _ g1;exact h1 f _ vs.toList .normal _ _ _ _ b1 b2 g2
       | exit id=>obtain⟨st',e2,g1,g2⟩:=hq;obtain⟨b1,b2⟩:=back _ _ _ _ g1;exact h1 f _ vs.toList (.exit id) _ _ _ _ b1 b2 g2
       | ret=>obtain⟨st',e2,g1,g2⟩:=hq;obtain⟨b1,b2⟩:=back _ _ _ _ g1;exact h1 f _ vs.toList .ret _ _ _ _ b1 b2 g2
       | goto l=>exact hq.elim
       | panic ch=>exact hq.elim
       | outgrown=>exact hq.elim
      ·cases hd
     ·cases hd
 | skip=>exact fun hk st a w e h hs=>plain _ hk st a w e h hs
 | region id ops d=>exact fun hk st a w e h hs=>plain _ hk st a w e h hs
 | cond x y z _ _=>exact fun hk st a w e h hs=>plain _ hk st a w e h hs
 | block id y _=>exact fun hk st a w e h hs=>plain _ hk st a w e h hs
 | loop y _=>exact fun hk st a w e h hs=>plain _ hk st a w e h hs
 | exit id=>exact fun hk st a w e h hs=>plain _ hk st a w e h hs
 | ret=>exact fun hk st a w e h hs=>plain _ hk st a w e h hs
 | _=>exact fun hk st a w e h hs=>plain _ hk st a w e h hs
theorem tm_args {n:Nat} {l:List PV} {vs:Array Value} (h:Rs w e l vs.toList) {t:Nat} {p:PV} (hp:(l++List.replicate (n-l.length) .dead)[t]? =some p):R w e p ((vs++Array.replicate (n-vs.size) undef).getD t undef):=by
 have hlen:=Rs_length h
 rw [List.getElem?_append] at hp
 split at hp
 ·rename_i ht
  obtain⟨u,h4,h5⟩:=Rs_get h hp
  have hsz:t<vs.size:=by simpa [←hlen] using ht
  have : (vs++Array.replicate (n-vs.size) undef).getD t undef=u:=by
   rw [Array.getD_eq_getD_getElem?,Array.getElem?_append_left hsz]
   have : vs[t]? =some u:=by simpa using h4
   rw [this];rfl
  rw [this]
  exact h5
 ·rw [List.getElem?_replicate] at hp
  split at hp
  ·cases hp;unfold R;trivial
  ·cases hp
theorem ret_post (hc:CxOk P c) {fn:Func} {H:AH} {out:Out} (hn0:c.n0=H.length) {e1:Env} {st:AS} {a':Act} {w':World} {D:List Deferred}
 (hon : ∀k,e.on k↔k<H.length) (hlv : ∀k,e.lv k↔k<H.length) (hM:M=⟨fun b=>∃k,e.on k∧e.blk k b,H.length,e,D⟩) (hs':SR w e.fz M st a' w' e1) (hq:retQ c fn.results.toList out .ret st) :
 ∃v e',(results fn a'.tmps).run P w'=.ok v w'∧Post w w' e e' H.length out v:=by
 unfold retQ at hq
 try simp only at hq
 split at hq
 ·rename_i l hlr
  obtain⟨hck1,hobs⟩:=hq
  generalize reach st.h 60 (List.range c.n0++idsL l) []=ρ at hck1 hobs
  obtain⟨v,hv1,hv2⟩:=results_run hc hs' hlr
  simp only [keep,chk,Bool.and_eq_true,List.all_eq_true,Nat.blt_eq,Nat.ble_eq,List.mem_range] at hck1
  obtain⟨⟨⟨hkn,hkeep⟩,hnd, -,hob1⟩,hfull,hvin⟩:=hck1
  rw [hn0] at hkn hkeep
  have hkeep : ∀k,k<H.length→look ρ k=k:=fun k hk=>Nat.eq_of_beq_eq_true (hkeep k hk)
  obtain⟨hsame,hob2⟩:=obs_mem hobs
  have hrn:=e1.rn_ok (look ρ) ρ.length
  unfold full at hfull
  rw [List.all_eq_true] at hfull
  have hfull : ∀k,k<ρ.length→(out.eff.get k).isSome =true:=fun k hk=>hfull k (List.mem_range.2 hk)
  have hroot : ∀k,e.on k→e1.on k∧e1.adr k=e.adr k∧e1.cap k=e.cap k∧e1.len k=e.len k:=fun k hk=>by
   have:=hs'.root k
   subst hM
   exact this ((hon k).1 hk) hk
  have hst : ∀k,e.on k→k<ρ.length∧look ρ k=k:=fun k hk=>⟨Nat.lt_of_lt_of_le ((hon k).1 hk) hkn,hkeep k ((hon k).1 hk)⟩
  refine⟨v,e1.rn (look ρ) ρ.length,hv1,?_,?_,⟨fun b hb=>hs'.ez.sup b hb,fun k b hk _ hb hf=>absurd hf (hs'.ez.nf (look ρ k) b hk.2 hb)⟩,?_,?_,?_,?_,?_,?_⟩
  ·exact R_rn hrn _ _ hvin (same_R _ _ _ hsame hv2)
  ·refine⟨fun k hk=>⟨(hst k hk).1,by rw [(hst k hk).2];exact (hroot k hk).1⟩,fun k hk=>?_,fun k hk=>?_,fun k hk=>?_,fun b hb=>hs'.ez.sub b hb⟩
   ·show e1.adr (look ρ k)=_;rw [(hst k hk).2];exact (hroot k hk).2.1
   ·show e1.cap (look ρ k)=_;rw [(hst k hk).2];exact (hroot k hk).2.2.1
   ·show e1.len (look ρ k)=_;rw [(hst k hk).2];exact (hroot k hk).2.2.2
  ·intro k o hk
   have hmem:=get_mem hk
   obtain⟨h4,h5⟩:=hob1 _ hmem
   obtain⟨x,hx,hxo⟩:=hob2 _ hmem
   obtain⟨h6,h7,h8⟩:=hs'.ob _ _ hx
   exact⟨OR_rn hrn h5 (same_O hxo h6),⟨h4,h7⟩,fun hg=>⟨h4,h8 (by rw [same_gn hxo,rnO_gn];exact hg)⟩⟩
  ·intro k hk
   by_cases hkH:k<H.length
   ·exact .inl ((hon k).2 hkH)
   ·exact .inr ⟨Nat.le_of_not_lt hkH,hfull k hk.1⟩
  ·intro k hk
   by_cases hkH:k<H.length
   ·exact .inl ((hlv k).2 hkH)
   ·refine .inr ⟨fun h=>hkH ((hon k).1 h),⟨hk.1,hs'.lo _ hk.2⟩,fun b hb=>⟨(hs'.bd (look ρ k) b hk.2 hb).2,?_⟩⟩
    rcases (hs'.bd (look ρ k) b hk.2 hb).1 with h | h
    ·exact .inl h
    ·refine .inr ?_
     subst hM
     obtain⟨j,hj,x,hx,hxb⟩:=h
     obtain⟨q1,q2, -, -⟩:=hroot j hj
     refine⟨j,(hlv j).2 ((hon j).1 hj),fun hjl=>?_,x,hx,hxb⟩
     have hjl:e1.lv (look ρ j):=hjl.2
     have h3:=(hst j hj).2
     have:=hs'.dis (look ρ k) (look ρ j) b hk.2 hjl hb ⟨x,by rw [h3,q2];exact hx,hxb⟩
     have:=look_inj hnd hk.1 (hst j hj).1 this
     subst this
     exact hkH ((hon k).1 hj)
  ·intro k hk
   have hkn:k<ρ.length:=(hst k ((hlv k).1 hk |> (hon k).2)).1
   obtain⟨o,ho⟩:=Option.isSome_iff_exists.1 (hfull k hkn)
   cases hg:o.gn with
   | true=>cases o with
     | gone=>exact .inr ho
     | _=>cases hg
   | false=>
     obtain⟨x,hx,hxo⟩:=hob2 _ (get_mem ho)
     exact .inl ⟨hkn,(hs'.ob _ _ hx).2.2 (by rw [same_gn hxo,rnO_gn];exact hg)⟩
  ·intro k k' b hk _ hk' _ hb hb'
   exact look_inj hnd hk.1 hk'.1 (hs'.dis _ _ b hk.2 hk'.2 hb hb')
  ·refine⟨hs'.low.os,hs'.low.tape,hs'.low.output,hs'.low.size,fun b hb hnM=>hs'.low.block b hb fun hMb=>hnM ?_⟩
   subst hM
   obtain⟨k,hk,hkb⟩:=hMb
   exact⟨k,(hlv k).2 ((hon k).1 hk),hfull k (hst k hk).1,hkb⟩
 ·exact hq.elim
def qD (c:Cx) (f1 n1:Nat) (body1:Code) (rs:List ResultVar) (out:Out):QD:=fun g cs x st=>match x with
 | .exit _=>False
 | _=>(Nat.beq g f1&&Nat.ble cs.length n1)=true∧awp ⟨c.p,c.T,c.F,c.M,st.nx,c.C,c.I,c.N,c.U,c.Z⟩ body1 (fun x' st'=>match x' with
   | .exit _=>False
   | _=>retQ c rs out .ret ⟨st.tm,st'.h,st'.nx⟩) ⟨cs++List.replicate (n1-cs.length) .dead,st.h,st.nx⟩
theorem run_awpD (hc:CxOk P c) (hm:P.follows .mixedOrders =true) {f f1:FuncId} {fn fn1:Func} {body body1:Code} (hf:P.funcs[f]? =some fn) (hb:fn.body=some body) (hck:codeOkD body=true)
 (hf1:P.funcs[f1]? =some fn1) (hb1:fn1.body=some body1) (hck1:codeOk body1=true) (hnm1:(fn1.name=="runtime.NumGoroutine")=false) (hr1:fn1.results=#[]) {args:List PV} {out:Out} (hn0:c.n0=0)
 {e:Env} {vals:Array Value} (hz:FzW w e.fz) (hon : ∀k,¬e.on k) (hlv : ∀k,¬e.lv k) (hl0:Rs w e args vals.toList)
 (h2:awpD c (retQ c fn.results.toList out) (qD c f1 fn1.ntmps body1 fn.results.toList out) body ⟨args++List.replicate (fn.ntmps-args.length) .dead,[],0⟩):Calls P f vals w fun en w'=>∃v e',en=.returned v∧Post w w' e e' 0 out v:=by
 have hlen:=Rs_length hl0
 obtain⟨M,hM⟩ : ∃M:Root,M=⟨fun b=>∃k,e.on k∧e.blk k b,0,e,[]⟩:=⟨_,rfl⟩
 have hsr:SR w e.fz M ⟨args++List.replicate (fn.ntmps-args.length) .dead,[],0⟩ { tmps:=vals++Array.replicate (fn.ntmps-vals.size) undef,defers:=[] } w e:=by
  have hsz:vals.size=args.length:=by rw [←hlen];simp
  refine⟨by simp [hsz],fun t p hp=>tm_args (by simpa using hl0) hp,fun id o h=>by simp [AH.get] at h,fun k hk=>(hlv k hk).elim,fun k hk=>(hon k hk).elim,fun k k' b hk=>(hlv k hk).elim,fun k b hk=>(hlv k hk).elim,⟨fun _ h=>h,fun _ h=>.inl h,fun k b hk=>(hlv k hk).elim⟩,⟨fun b hb=>⟨hz.lt b hb,by subst hM;rintro ⟨k,hk, -⟩;exact hon k hk⟩,hz.gl⟩,Chg.refl _ _,by subst hM;exact fun k _ hk=>⟨hk,rfl,rfl,rfl⟩,by subst hM;rfl⟩
 have hon' : ∀k,e.on k↔k<([]:AH).length :=fun k=>⟨fun h=>(hon k h).elim,fun h=>absurd h (Nat.not_lt_zero k)⟩
 have hlv' : ∀k,e.lv k↔k<([]:AH).length :=fun k=>⟨fun h=>(hlv k h).elim,fun h=>absurd h (Nat.not_lt_zero k)⟩
 refine calls_of_wp_defers hf hb (awpD_ok (M:=M) hc hm (by subst hM;exact hn0.symm) ?_ ?_ body hck _ _ w e h2 hsr)
 ·intro x st a w' e' hs hq
  have hd:a.defers=[]:=by have:=hs.defers;subst hM;exact this
  cases x with
  | exit id=>exact hq.elim
  | normal=>
    obtain⟨v,e2,g1,g2⟩:=ret_post (D:=[]) hc (H:=[]) (by rw [hn0];rfl) hon' hlv' hM hs hq
    show Leaves P fn a.tmps _ a.defers .returning w'
    rw [hd]
    exact⟨v,g1,v,e2,rfl,g2⟩
  | ret=>
    obtain⟨v,e2,g1,g2⟩:=ret_post (D:=[]) hc (H:=[]) (by rw [hn0];rfl) hon' hlv' hM hs hq
    show Leaves P fn a.tmps _ a.defers .returning w'
    rw [hd]
    exact⟨v,g1,v,e2,rfl,g2⟩
 ·intro g cs vs x st a w' e' hcs hs hq
  have hd:a.defers=[⟨.fn (.func g) vs.toArray,#[]⟩]:=by have:=hs.defers;subst hM;exact this
  have main:qD c f1 fn1.ntmps body1 fn.results.toList out g cs .ret st→Leaves P fn a.tmps (fun en w'=>∃v e',en=.returned v∧Post w w' e e' 0 out v) a.defers .returning w':=by
   intro hq0
   obtain⟨hck2,hq2⟩:=hq0
   rw [Bool.and_eq_true,Nat.ble_eq] at hck2
   obtain⟨hg,hn1⟩:=hck2
   have hg:=Nat.eq_of_beq_eq_true hg
   subst hg
   rw [hd]
   have hcl:=Rs_length hcs
   have hsi:=hs.inn (tm:=cs++List.replicate (fn1.ntmps-cs.length) .dead) (ts:=vs.toArray++Array.replicate (fn1.ntmps-vs.toArray.size) undef) (by simp [hcl]) (fun t p hp=>tm_args (by simpa using hcs) hp)
   have hc':CxOk P ⟨c.p,c.T,c.F,c.M,st.nx,c.C,c.I,c.N,c.U,c.Z⟩:=⟨hc.p,hc.T,hc.F,hc.M,hc.C,hc.N,hc.U,hc.I⟩
   have hinv:(invoke (.fn (.func g) vs.toArray) #[]).run P w'=.ok (.enter g vs.toArray) w':=by
    have h5:fn1.name≠"runtime.NumGoroutine":=by simpa using hnm1
    simp [invoke,callFunc,hf1,h5,hb1]
   have fin3 : ∀st3 a3 w3 e3,SR w' e'.fz (Root.inn st e') st3 a3 w3 e3→retQ c fn.results.toList out .ret ⟨st.tm,st3.h,st3.nx⟩→a3.defers=[]∧∃v,(results fn1 a3.tmps).run P w3=.ok v w3∧(∃v',Ending.returned v=.returned v'∧∃v2 e2,(results fn a.tmps).run P w3=.ok v2 w3∧Post w w3 e e2 0 out v2):=fun st3 a3 w3 e3 g1 g2=>by
    refine⟨g1.defers,.tuple #[],?_,_,rfl,?_⟩
    ·simp [results,hr1]
    ·exact ret_post (D:=[⟨.fn (.func g) vs.toArray,#[]⟩]) hc (H:=[]) (by rw [hn0];rfl) hon' hlv' (by subst hM;rfl) (hs.out g1) g2
   refine leaves_cons (by simp) hinv ((callsD_of_wp (R:=fun en w3=>∃v',en=.returned v'∧∃v2 e2,(results fn a.tmps).run P w3=.ok v2 w3∧Post w w3 e e2 0 out v2) hf1 hb1 ?_).mono ?_)
   ·refine wp_mono (awp_ok (M:=Root.inn st e') hc' hm rfl body1 hck1 _ _ _ _ _ hq2 hsi) ?_
    intro x' a3 w3 hq3
    cases x' with
    | normal=>obtain⟨st3,e3,g1,g2⟩:=hq3;exact fin3 _ _ _ _ g1 g2
    | ret=>obtain⟨st3,e3,g1,g2⟩:=hq3;exact fin3 _ _ _ _ g1 g2
    | exit id=>obtain⟨st3,e3,g1,g2⟩:=hq3;exact g2.elim
    | goto l=>exact hq3.elim
    | panic ch=>exact hq3.elim
    | outgrown=>exact hq3.elim
   ·rintro en u' w3 ⟨rfl,v',rfl,v2,e2,g1,g2⟩
    exact⟨v2,g1,v2,e2,rfl,g2⟩
  cases x with
  | exit id=>exact hq.elim
  | normal=>exact main hq
  | ret=>exact main hq
theorem FOk.of_awpD (hc:CxOk P c) (hm:P.follows .mixedOrders =true) {f f1:FuncId} {fn fn1:Func} {body body1:Code} {S:FSpec} (hf:P.funcs[f]? =some fn) (hb:fn.body=some body) (hn:(fn.name=="runtime.NumGoroutine")=false) (hn0:c.n0=0) (hck:codeOkD body=true)
 (hf1:P.funcs[f1]? =some fn1) (hb1:fn1.body=some body1) (hck1:codeOk body1=true) (hnm1:(fn1.name=="runtime.NumGoroutine")=false) (hr1:fn1.results=#[])
 (h : ∀args out,S args=some out→(∀p∈out.pre,p)→(idInL [] args&&Nat.ble args.length fn.ntmps)=true∧awpD c (retQ c fn.results.toList out) (qD c f1 fn1.ntmps body1 fn.results.toList out) body ⟨args++List.replicate (fn.ntmps-args.length) .dead,[],0⟩):FOk P f S:=by
 refine⟨⟨fn,hf,hn,by rw [hb];rfl⟩,fun args out hs hp w e vals hz hl=>?_⟩
 obtain⟨h1,h2⟩:=h args out hs hp
 rw [Bool.and_eq_true,Nat.ble_eq] at h1
 have hrn0:Rn id [] e { e with on:=fun _=>False,lv:=fun _=>False }:=⟨fun k hk=>absurd hk (by simp),fun _=>rfl,fun _=>rfl,fun _=>rfl,rfl⟩
 have hl0:Rs w { e with on:=fun _=>False,lv:=fun _=>False } args vals.toList:=Rs_rn hrn0 args _ h1.1 (by rw [rnL_id];exact hl)
 exact run_awpD hc hm hf hb hck hf1 hb1 hck1 hnm1 hr1 hn0 (e:={ e with on:=fun _=>False,lv:=fun _=>False }) hz (fun k h=>h) (fun k h=>h) hl0 h2
theorem FOk.goD {α:Type} {A:Args α} {pre:α→Prop} {v:α→PV} {eff:α→AH} {f f1:FuncId} {fn fn1:Func} {body body1:Code} (hc:CxOk P c) (hm:P.follows .mixedOrders =true) (hf:P.funcs[f]? =some fn) (hb:fn.body=some body) (hn:(fn.name=="runtime.NumGoroutine")=false) (hn0:c.n0=0) (hck:codeOkD body=true)
 (hf1:P.funcs[f1]? =some fn1) (hb1:fn1.body=some body1) (hck1:codeOk body1=true) (hnm1:(fn1.name=="runtime.NumGoroutine")=false) (hr1:fn1.results=#[])
 (h : ∀a,pre a→(idInL [] (A.enc a)&&Nat.ble (A.enc a).length fn.ntmps)=true∧awpD c (retQ c fn.results.toList ⟨[],v a,eff a⟩) (qD c f1 fn1.ntmps body1 fn.results.toList ⟨[],v a,eff a⟩) body ⟨A.enc a++List.replicate (fn.ntmps-(A.enc a).length) .dead,[],0⟩):FOk P f (fsp A pre v eff):=
 FOk.of_awpD hc hm hf hb hn hn0 hck hf1 hb1 hck1 hnm1 hr1 fun args out hs hp=>by
  unfold fsp at hs
  split at hs
  ·rename_i a ha
   cases hs
   rw [A.ok _ _ ha]
   exact h a (hp _ (by simp))
  ·cases hs
end
end Ax
namespace Ax
set_option maxRecDepth 100000
set_option maxHeartbeats 20000000
structure ChP (g:Gm):Prop where
 gm:GmQ g
 cp:GcL g
structure ChY (g:Gm) (n:Int):Prop where
 b:ChP g
 c:chC g n=0
section
variable {g:Gm} {n:Int}
theorem chG_yi (h:ChF g n) (hu:iUp g=true):chG g n=⟨g.ts,g.lex,g.bd0,g.secs,g.rule,⟨g.bd.size,g.bd.prem,g.last.before⟩,wBag (clockG g n),iRks (clockG g n),iSs (clockG g n),ckL g n,g.player,wZe (clockG g n),⟨3,g.last.player,⟨0,0,false,[]⟩,[],[],0,0⟩,iOv (clockG g n)⟩:=by
 rw [chG_y (by rw [←i_vu (ch_v h)];exact hu),i_ss h,i_ov h,show iRks (clockG g n)=wRks (clockG g n) from (show iRks g=wRks g from i_rks h)];rfl
theorem chG_ni (h:ChF g n) (hu:iUp g=false):chG g n=iRf (clockG g n) (iPts g):=by
 rw [chG_n (by rw [←i_vu (ch_v h)];exact hu),i_rf,i_vp (ch_v h)]
end
def sp_i_ChallengeTurn_y (p:Pr):FSpec:=fsp (ac (aA aGm) (a1 aI)) (fun (g,n)=>ChY g n) (fun (g,n)=>.tup [.agg (gmK ⟨g.ts,g.lex,g.bd0,g.secs,g.rule,⟨(chG g n).bd.size,(chG g n).bd.prem,(chG g n).bd.cells⟩,(chG g n).bag,(chG g n).racks,(chG g n).scores,(chG g n).clocks,(chG g n).player,(chG g n).zeros,⟨(chG g n).last.kind,(chG g n).last.player,⟨(chG g n).last.play.row,(chG g n).last.play.col,(chG g n).last.play.down,(chG g n).last.play.word⟩,(chG g n).last.before,(chG g n).last.drawn,(chG g n).last.score,(chG g n).last.zeros⟩,(chG g n).over⟩ (.osl 0) (.osl 1) (.osl 2) (.osl 3) (.osl 4) (.osl 5)),.agg [.osl 6,.osl 7,.b (vUp g),.i .i64 (vPts g)],.i .i64 0]) (fun (g,n)=>[(0,.own [.i .i64] g.ts.values 2),(1,.own [.i .i64] g.ts.counts 2),(2,.own [.s] g.lex 9),(3,.own [.s] (chG g n).racks 9),(4,.own [.i .i64] (chG g n).scores 2),(5,.own [.i .i64] (chG g n).clocks 2),(6,.own [.s] (vWords g) 9),(7,.own [.s] (vWrong g) 9)])
theorem ok_i_ChallengeTurn_y:FOk Tryz.prog 271 (sp_i_ChallengeTurn_y std):=by
 refine FOk.goD (c:=cx std [(88,sp_i_actionCode std),(309,sp_i_Game_canChallenge std),(311,sp_i_Game_verdict std),(165,sp_i_copyGame std)] [(312,sp_i_xGame_withdraw std),(313,sp_i_xGame_refuse std)] 0) (cx_ok (.cons ok_i_actionCode (.cons ok_i_Game_canChallenge (.cons ok_i_Game_verdict (.cons ok_i_copyGame .nil)))) (.cons ok_i_xGame_withdraw (.cons ok_i_xGame_refuse .nil))) mixed Tryz.func271 rfl rfl rfl (by kernel_rfl) Tryz.func310 rfl (by kernel_rfl) rfl rfl ?_
 rintro ⟨g,n⟩ hp
 dsimp only at hp
 refine⟨rfl,?_⟩
 unfold sp_i_actionCode sp_i_Game_canChallenge sp_i_Game_verdict sp_i_copyGame sp_i_xGame_withdraw sp_i_xGame_refuse
 generalize hP:std=p,hB0:actC=B0,hB1:canB=B1,hB2:vUp=B2,hB3:vPts=B3,hB4:vWords=B4,hB5:vWrong=B5,hB6:iUp=B6,hB7:iPts=B7,hB8:iWords=B8,hB9:iWrong=B9,hB10:wBag=B10,hB11:iRks=B11,hB12:iSs=B12,hB13:wZe=B13,hB14:iOv=B14,hB15:iRf=B15,hB16:waitsB=B16,hB17:ckL=B17,hB18:chG=B18
 cbv
 repeat' first
  | (refine fun (_:Unit)=>?_;cbv)
  | (refine aI2 (fun h=>?_) (fun h=>?_)<;>cbv)
  | (refine aI2 ?_ ?_)
  | (refine Or.inl (fun (_:Unit)=>?_);cbv)
 all_goals subst hP hB0 hB1 hB2 hB3 hB4 hB5 hB6 hB7 hB8 hB9 hB10 hB11 hB12 hB13 hB14 hB15 hB16 hB17 hB18
 all_goals try exact fin
 all_goals try (exfalso;exact ce1 hp.c ‹_›)
 all_goals try (exfalso;exact ce2 hp.c ‹_› ‹_›)
 all_goals have hF:=chc_of hp.c
 all_goals have hV:=ch_v hF
 all_goals (have hpl:=hF.sy.fa.ply;have hk2:=hF.sy.fa.k;have hck:=hF.sy.ok.clk g.player;have hcc:=hF.sy.c;have hn:=hF.sy.nb)
 all_goals first
  | exact hp.b.gm
  | exact⟨⟨⟨hp.b.cp.v,hp.b.cp.c⟩,hp.b.cp.l⟩,hp.b.cp.r,hp.b.cp.s,hp.b.cp.k⟩
  | exact⟨hpl.1,by show g.player<(g.clocks.length:Int);omega⟩
  | exact in64 (by show _≤g.clk g.player-n∧g.clk g.player-n≤_;omega)
  | exact ch_ve hF
  | exact ch_wi hF
  | exact ch_rf hF
  | exact i_vu hV
  | exact i_vp hV
  | exact congrArg (fun L=>Ob.own [.s] L 9) (i_vw hV)
  | exact congrArg (fun L=>Ob.own [.s] L 9) (i_vx hV)
  | (rw [chG_yi hF ‹_›];rfl)
  | (rw [chG_yi hF ‹_›];done)
  | (rw [chG_ni hF ‹_›];rfl)
  | (rw [chG_ni hF ‹_›];done)
  | skip
end Ax
namespace Ax
set_option maxRecDepth 100000
set_option maxHeartbeats 20000000
structure ChN (g:Gm) (n:Int):Prop where
 b:ChP g
 c:chC g n≠0
def sp_i_ChallengeTurn_n (p:Pr):FSpec:=fsp (ac (aA aGm) (a1 aI)) (fun (g,n)=>ChN g n) (fun (g,n)=>.tup [.agg (gmK gm0 .esl .esl .esl .esl .esl .esl),.agg [.esl,.esl,.b false,.i .i64 0],.i .i64 (chC g n)])
theorem ok_i_ChallengeTurn_n:FOk Tryz.prog 271 (sp_i_ChallengeTurn_n std):=by
 refine FOk.goD (c:=cx std [(88,sp_i_actionCode std),(309,sp_i_Game_canChallenge std),(311,sp_i_Game_verdict std),(165,sp_i_copyGame std)] [(312,sp_i_xGame_withdraw std),(313,sp_i_xGame_refuse std)] 0) (cx_ok (.cons ok_i_actionCode (.cons ok_i_Game_canChallenge (.cons ok_i_Game_verdict (.cons ok_i_copyGame .nil)))) (.cons ok_i_xGame_withdraw (.cons ok_i_xGame_refuse .nil))) mixed Tryz.func271 rfl rfl rfl (by kernel_rfl) Tryz.func310 rfl (by kernel_rfl) rfl rfl ?_
 rintro ⟨g,n⟩ hp
 dsimp only at hp
 refine⟨rfl,?_⟩
 unfold sp_i_actionCode sp_i_Game_canChallenge sp_i_Game_verdict sp_i_copyGame sp_i_xGame_withdraw sp_i_xGame_refuse
 generalize hP:std=p,hB0:actC=B0,hB1:canB=B1,hB2:vUp=B2,hB3:vPts=B3,hB4:vWords=B4,hB5:vWrong=B5,hB6:iUp=B6,hB7:iPts=B7,hB8:iWords=B8,hB9:iWrong=B9,hB10:wBag=B10,hB11:iRks=B11,hB12:iSs=B12,hB13:wZe=B13,hB14:iOv=B14,hB15:iRf=B15,hB16:waitsB=B16,hB17:ckL=B17,hB18:chC=B18
 cbv
 repeat' first
  | (refine fun (_:Unit)=>?_;cbv)
  | (refine aI2 (fun h=>?_) (fun h=>?_)<;>cbv)
  | (refine aI2 ?_ ?_)
  | (refine Or.inl (fun (_:Unit)=>?_);cbv)
 all_goals subst hP hB0 hB1 hB2 hB3 hB4 hB5 hB6 hB7 hB8 hB9 hB10 hB11 hB12 hB13 hB14 hB15 hB16 hB17 hB18
 all_goals try exact fin
 all_goals try (exfalso;exact cn3 hp.c ‹_› ‹_›)
 all_goals first
  | exact hp.b.gm
  | exact cn1 ‹_›
  | exact cn2 ‹_› ‹_›
  | skip
def sp_i_ChallengeTurn (p:Pr):FSpec:=fsp (ac (aA aGm) (a1 aI)) (fun (g,n)=>ChP g) (fun (g,n)=>.tup [.agg (gmO6 (chR g n)),.agg [.osl 6,.osl 7,.b (chU g n),.i .i64 (chP g n)],.i .i64 (chC g n)]) (fun (g,n)=>chH8 (chR g n) (chW g n) (chX g n))
def spChN (p:Pr):FSpec:=fsp (ac (aA aGm) (a1 aI)) (fun (g,n)=>ChN g n) (fun (g,n)=>.tup [.agg (gmO6 gm0),.agg [.osl 6,.osl 7,.b false,.i .i64 0],.i .i64 (chC g n)]) (fun _=>chH8 gm0 [] [])
theorem okChN:FOk Tryz.prog 271 (spChN std):=FOk.own ok_i_ChallengeTurn_n rfl fun ⟨g,n⟩ w e u h hr=>esl8_fol h u hr
theorem ok_i_ChallengeTurn:FOk Tryz.prog 271 (sp_i_ChallengeTurn std):=FOk.casesE ok_i_ChallengeTurn_y okChN fun ⟨g,n⟩ hp=>by
 by_cases hc:chC g n=0
 ·obtain⟨e1,e2,e3,e4,e5⟩:=chG_rest g n
  refine .inl ⟨⟨hp,hc⟩,?_,?_⟩
  ·show _=PV.tup [.agg (gmO6 (chR g n)),.agg [.osl 6,.osl 7,.b (chU g n),.i .i64 (chP g n)],.i .i64 (chC g n)]
   unfold chR chU chP
   rw [if_pos hc,if_pos hc,if_pos hc,hc]
   show PV.tup [.agg (gmK ⟨g.ts,g.lex,g.bd0,g.secs,g.rule,(chG g n).bd,(chG g n).bag,(chG g n).racks,(chG g n).scores,(chG g n).clocks,(chG g n).player,(chG g n).zeros,(chG g n).last,(chG g n).over⟩ (.osl 0) (.osl 1) (.osl 2) (.osl 3) (.osl 4) (.osl 5)),_,_]=_
   rw [←e1,←e2,←e3,←e4,←e5];rfl
  ·show _=chH8 (chR g n) (chW g n) (chX g n)
   unfold chR chW chX
   rw [if_pos hc,if_pos hc,if_pos hc]
   show chH8 ⟨g.ts,g.lex,g.bd0,g.secs,g.rule,(chG g n).bd,(chG g n).bag,(chG g n).racks,(chG g n).scores,(chG g n).clocks,(chG g n).player,(chG g n).zeros,(chG g n).last,(chG g n).over⟩ _ _=_
   rw [←e1,←e2,←e3,←e4,←e5]
 ·refine .inr ⟨⟨hp,hc⟩,?_,?_⟩
  ·show _=PV.tup [.agg (gmO6 (chR g n)),.agg [.osl 6,.osl 7,.b (chU g n),.i .i64 (chP g n)],.i .i64 (chC g n)]
   unfold chR chU chP
   rw [if_neg hc,if_neg hc,if_neg hc]
  ·show chH8 gm0 [] []=chH8 (chR g n) (chW g n) (chX g n)
   unfold chR chW chX
   rw [if_neg hc,if_neg hc,if_neg hc]
end Ax
end Go.Proofs.YtghmphmbpdiflaaGreatDoor
