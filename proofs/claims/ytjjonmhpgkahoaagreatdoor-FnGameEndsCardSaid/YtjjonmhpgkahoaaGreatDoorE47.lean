/-
  The law of quiet turns.
  Conditions: none.
-/
import Derived.Test.YtjjonmhpgkahoaaGreatDoorE43
import Derived.Test.YtjjonmhpgkahoaaGreatDoorE45
import Derived.Test.YtjjonmhpgkahoaaGreatDoorE46
set_option linter.unusedSimpArgs false
set_option linter.unusedVariables false
namespace Go.Proofs.YtjjonmhpgkahoaaGreatDoor
namespace Ax
set_option maxRecDepth 100000
set_option maxHeartbeats 20000000
def sp_i_ExchangeTurnF (p:Pr):FSpec:=fsp (ac (aA aGm) (ac aS (a1 aI))) (fun (g,t,n)=>XiP g t) (fun (g,t,n)=>.tup [.agg (gmR (xtR g t n)),.i .i64 (xtC g t n)])
theorem ok_i_ExchangeTurnF:FOk Tryz.prog 35 (sp_i_ExchangeTurnF std):=FOk.frz ok_i_ExchangeTurn fun ⟨g,t,n⟩=>⟨by simp [deep,deeps,AH.get,gmH6,gmO6,gmK,gmR],by simp [PV.idIn,idInL,gmK,gmR]⟩
def sp_s_ExchangeTurnF (p:Pr):FSpec:=fsp (ac (aA aGm) (ac aS (a1 aI))) (fun (g,t,n)=>XsP g t) (fun (g,t,n)=>.tup [.agg (gmR (xtR g t n)),.i .i64 (xtC g t n)])
theorem ok_s_ExchangeTurnF:FOk Tryz.prog 36 (sp_s_ExchangeTurnF std):=FOk.frz ok_s_ExchangeTurn fun ⟨g,t,n⟩=>⟨by simp [deep,deeps,AH.get,gmH6,gmO6,gmK,gmR],by simp [PV.idIn,idInL,gmK,gmR]⟩
def sp_i_PassTurnF (p:Pr):FSpec:=fsp (ac (aA aGm) (a1 aI)) (fun (g,n)=>PiP g) (fun (g,n)=>.tup [.agg (gmR (passR g n)),.i .i64 (actC g n)])
theorem ok_i_PassTurnF:FOk Tryz.prog 33 (sp_i_PassTurnF std):=FOk.frz ok_i_PassTurn fun ⟨g,n⟩=>⟨by simp [deep,deeps,AH.get,gmH6,gmO6,gmK,gmR],by simp [PV.idIn,idInL,gmK,gmR]⟩
def sp_s_PassTurnF (p:Pr):FSpec:=fsp (ac (aA aGm) (a1 aI)) (fun (g,n)=>PsP g) (fun (g,n)=>.tup [.agg (gmR (passR g n)),.i .i64 (actC g n)])
theorem ok_s_PassTurnF:FOk Tryz.prog 37 (sp_s_PassTurnF std):=FOk.frz ok_s_PassTurn fun ⟨g,n⟩=>⟨by simp [deep,deeps,AH.get,gmH6,gmO6,gmK,gmR],by simp [PV.idIn,idInL,gmK,gmR]⟩
structure QtF (g x:Gm):Prop where
 v:gameB x=true
 bd:x.bd=g.bd
 z:x.zeros=g.zeros+1
 sc:x.over=false→x.scores=g.scores
 sl:x.scores.length=2
 z6:0≤g.zeros∧g.zeros≤6
 b:GmB 1048576 x
theorem zero_f {g:Gm} {k n:Int} (h:g.over=false):(zeroG g k n).bd =g.bd∧(zeroG g k n).zeros =g.zeros+1∧((zeroG g k n).over =false→(zeroG g k n).scores =g.scores)∧(zeroG g k n).bag =g.bag∧(zeroG g k n).racks =g.racks:=by
 unfold zeroG
 split
 ·exact⟨rfl,rfl,(fun h=>Bool.noConfusion h),rfl,rfl⟩
 ·exact⟨rfl,rfl,fun _=>rfl,rfl,rfl⟩
theorem xt_qt {g:Gm} {t:List UInt8} {n:Int} (hb:GmB 1048576 g) (h:xtC g t n=0):QtF g (xtR g t n):=by
 have hv:=xt_ok h
 have hq:=xt_act h
 have hf:=act_f (eqI_t hq.1)
 have hB:GmB 1048576 (xtR g t n):=by
  unfold xtR
  rw [if_pos h]
  exact zeroG_b (xtG_b hb hq.2.2)
 have e:xtR g t n=zeroG (xtG g t) 2 n:=if_pos h
 have hz:=zero_f (g:=xtG g t) (k:=2) (n:=n) hf.ov
 rw [←e] at hz
 exact⟨hv,hz.1,hz.2.1,hz.2.2.1,(gv_of hv).sl,in_bd hf.v.ze,hB⟩
theorem ps_qt {g:Gm} {n:Int} (hb:GmB 1048576 g) (h:actC g n=0):QtF g (passR g n)∧(passR g n).bag =g.bag∧(passR g n).racks =g.racks:=by
 have hv:=pass_ok h
 have hf:=act_f h
 have e:passR g n=zeroG g 3 n:=if_pos h
 have hz:=zero_f (g:=g) (k:=3) (n:=n) hf.ov
 have hB:=zeroG_b (k:=3) (n:=n) hb
 rw [←e] at hz hB
 exact⟨⟨hv,hz.1,hz.2.1,hz.2.2.1,(gv_of hv).sl,in_bd hf.v.ze,hB⟩,hz.2.2.2⟩
theorem gm0_n:GmN gm0:=⟨⟨⟨by decide,by decide⟩,by decide⟩,by decide,by decide,by decide⟩
theorem xt_n {g:Gm} {t:List UInt8} {n:Int} (hb:GmB 1048576 g):GmN (xtR g t n):=by
 by_cases h:xtC g t n=0
 ·exact (xt_qt hb h).b.n (by decide)
 ·unfold xtR
  rw [if_neg h];exact gm0_n
theorem ps_n {g:Gm} {n:Int} (hb:GmB 1048576 g):GmN (passR g n):=by
 by_cases h:actC g n=0
 ·exact (ps_qt hb h).1.b.n (by decide)
 ·unfold passR
  rw [if_neg h];exact gm0_n
theorem GmB.gq {g:Gm} (h:GmB 1048576 g):GmQ g:=(h.q (q:=⟨0,0,false,[]⟩) (by decide) (by decide)).gm
theorem GmB.gc {g:Gm} (h:GmB 1048576 g):GcL g:=(h.q (q:=⟨0,0,false,[]⟩) (by decide) (by decide)).cp
theorem qt_fc {g:Gm} (h:gameB g=true):(g.over=true→fcN g=([],10))∧(g.over=false→fcN g=(chgs g,0)):=⟨fc_o h,fc_y h⟩
theorem chgs_l (g:Gm):((chgs g).length : Int)=2:=rfl
theorem len_bd {l:List Int} (h:l.length=2):std.leP (std.len l) 1073741824:=by show (l.length:Int)≤1073741824;omega
theorem len_bw {l:List (List UInt8)} (h:l.length=2):std.leP (std.len l) 1073741824:=by show (l.length:Int)≤1073741824;omega
def sp_l_FnQuietTurns (p:Pr):FSpec:=fsp (a1 aY) (fun code=>CbP code) (fun code=>.b true)
theorem ok_l_FnQuietTurns:FOk Tryz.prog 5 (sp_l_FnQuietTurns std):=by
 refine FOk.go (c:=cxN std [(9,sp_l_f6big std),(35,sp_i_ExchangeTurnF std),(36,sp_s_ExchangeTurnF std),(33,sp_i_PassTurnF std),(37,sp_s_PassTurnF std),(13,sp_s_SameGame std),(16,sp_i_ValidGame std),(32,sp_l_f6ints std),(25,sp_i_FinalChange std),(38,sp_l_f6same std)] [] [(34,sp_s_DrawExchangeTurn std)] 0 (if false then some stdU else none) []) (cxN_ok (.cons ok_l_f6big (.cons ok_i_ExchangeTurnF (.cons ok_s_ExchangeTurnF (.cons ok_i_PassTurnF (.cons ok_s_PassTurnF (.cons ok_s_SameGame (.cons ok_i_ValidGame (.cons ok_l_f6ints (.cons ok_i_FinalChange (.cons ok_l_f6same .nil)))))))))) .nil (.cons ok_s_DrawExchangeTurn .nil)) mixed Tryz.func5 rfl rfl rfl (by kernel_rfl) ?_
 rintro code hp
 refine⟨rfl,?_⟩
 unfold sp_l_f6big sp_s_DrawExchangeTurn sp_i_ExchangeTurnF sp_s_ExchangeTurnF sp_i_PassTurnF sp_s_PassTurnF sp_s_SameGame sp_i_ValidGame sp_l_f6ints sp_i_FinalChange sp_l_f6same
 generalize hP:std=p,hB0:bigB=B0,hB1:xtR=B1,hB2:xtC=B2,hB3:passR=B3,hB4:actC=B4,hB5:gameB=B5,hB6:fcN=B6,hB7:qeN=B7,hB8:qeW=B8,hB9:far=B9
 cbv
 repeat' first
  | (refine fun (_:Unit)=>?_;cbv)
  | (refine fun (y:Nd _) hy=>?_;cbv)
  | (refine aI2 (fun h=>?_) (fun h=>?_)<;>cbv)
  | (refine aI2 ?_ ?_)
  | (refine Or.inl (fun (_:Unit)=>?_);cbv)
 all_goals subst hP hB0 hB1 hB2 hB3 hB4 hB5 hB6 hB7 hB8 hB9
 all_goals try exact fin
 ·exact hp.d ‹_›
 all_goals try (rcases y with ⟨⟨g,t,n⟩⟩;dsimp only at *)
 all_goals (try simp only [eta_ts,eta_bd,eta_la,eta_pl,eta_gmz] at *)
 all_goals have hb:=hy.1.b
 all_goals try (have ht:t.length≤201:=hy.2)
 ·exact⟨hb.gq,hb.gc,by omega⟩
 ·exact⟨⟨hy.1.gl,hy.1.gp⟩,by omega⟩
 ·exact⟨hb.gq,hb.gc⟩
 ·exact⟨hy.1.gl,hy.1.gp⟩
 ·exact xt_n hb
 ·exact ps_n hb
 all_goals try (have hX:=xt_qt (t:=t) (n:=n) hb (by simpa using (by assumption:std.eqI (xtC g t n) 0=true)))
 all_goals try (have hY:=ps_qt (n:=n) hb (by simpa using (by assumption:std.eqI (actC g n) 0=true)))
 all_goals first
  | exact hX.b.gq
  | exact hY.1.b.gq
  | exact len_bd hX.sl
  | exact len_bd hY.1.sl
  | exact in64 (by have:=hX.z6;show _≤g.zeros+1∧g.zeros+1≤_;omega)
  | skip
 all_goals try exact len_bw (gv_of hY.1.v).rl
 all_goals try (have h1:=hX.v;have h2:=hX.bd;have h3:=hX.z;have h4:=hX.sc;have h5:=hX.sl;clear hX)
 all_goals try (have k1:=hY.1.v;have k2:=hY.1.bd;have k3:=hY.1.z;have k4:=hY.1.sc;have k5:=hY.1.sl;have k6:=hY.2.1;have k7:=hY.2.2;have k8:=(qt_fc k1).1;have k9:=(qt_fc k1).2;have k10:=chgs_l (passR g n);clear hY)
 all_goals clear hy hp hb ht
 all_goals generalize xtR g t n=X at *
 all_goals generalize passR g n=Y at *
 all_goals simp_all [qeN_r,qeW_r]
 all_goals (cases hv:Y.over<;>simp_all)
end Ax
end Go.Proofs.YtjjonmhpgkahoaaGreatDoor
