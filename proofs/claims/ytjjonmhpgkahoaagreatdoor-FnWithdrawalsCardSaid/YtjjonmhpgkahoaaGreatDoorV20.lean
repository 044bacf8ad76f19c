/-
  Parts of scores and scores of plays, of the impl package.
  Conditions: none.
-/
import Derived.Test.YtjjonmhpgkahoaaGreatDoorV19
import Derived.Test.YtjjonmhpgkahoaaGreatDoorV15
import Derived.Test.YtjjonmhpgkahoaaGreatDoorV13
import Derived.Test.YtjjonmhpgkahoaaGreatDoorV16
set_option linter.unusedSimpArgs false
set_option linter.unusedVariables false
namespace Go.Proofs.YtjjonmhpgkahoaaGreatDoor
namespace Ax
set_option maxRecDepth 100000
set_option maxHeartbeats 2000000
def partJ (t:TS) (b:Bd) (q:Pl) (j:Int):List Int:=((lsI t b q).sum * wfL (pusI b q))::((crossP b q (newL b q)).take j.toNat).map (crI t b q)
def cqS (t:TS) (b:Bd) (q:Pl) (j k:Int):Int:=(((crSq b q j).take k.toNat).map (sqI t b (madeB b q) ((crS1 b q).getD j.toNat (0,0)))).sum
section
variable {t:TS} {b:Bd} {q:Pl} {j k:Int}
theorem cr1_len:(crS1 b q).length =(crS2 b q).length :=by unfold crS1 crS2;rw [List.length_map,List.length_map]
theorem cr1_in (hp:VP b q) (h0:0≤j) (h:j<(crS2 b q).length):b.inB ((crS1 b q).getD j.toNat (0,0)).1 ((crS1 b q).getD j.toNat (0,0)).2=true:=by
 have h1:j.toNat<(crS1 b q).length :=by rw [cr1_len];omega
 rw [List.getD_eq_getElem?_getD,List.getElem?_eq_getElem h1]
 obtain⟨x,h2,h3⟩:=List.mem_map.1 (List.getElem_mem h1)
 show b.inB ((crS1 b q)[j.toNat]).1 ((crS1 b q)[j.toNat]).2=true
 rw [←h3]
 unfold crossP at h2
 obtain⟨s,h4,rfl⟩:=List.mem_map.1 (List.mem_filter.1 h2).1
 unfold sqL at h4
 obtain⟨n,h5,rfl⟩:=List.mem_map.1 h4
 unfold newL newTo at h5
 exact hp.on n (List.mem_range.1 (List.mem_filter.1 h5).1)
theorem sqI_bd (h:TsOk t) (M:Bd) (a s:Int×Int):0≤sqI t b M a s∧sqI t b M a s≤60:=by
 unfold sqI
 have h1:=h.lo (M.cell s.1 s.2)
 have h2:=h.hi (M.cell s.1 s.2)
 have h3:=ltF_bd (b.prm a.1 a.2)
 split
 ·have h4:=Int.mul_nonneg (show 0≤ltF (b.prm a.1 a.2) by omega) h1
  have h5:=Int.mul_le_mul h3.2 h2 h1 (by decide)
  omega
 ·omega
theorem lsI_bd (h:TsOk t) : ∀x∈lsI t b q,0≤x∧x≤60:=by
 intro x hx
 obtain⟨i, -,rfl⟩:=List.mem_map.1 hx
 have h1:=h.lo (q.word.getD i 0)
 have h2:=h.hi (q.word.getD i 0)
 have h3:=ltF_bd (b.prm (q.sr i) (q.sc i))
 split
 ·omega
 ·have h4:=Int.mul_nonneg (show 0≤ltF (b.prm (q.sr i) (q.sc i)) by omega) h1
  have h5:=Int.mul_le_mul h3.2 h2 h1 (by decide)
  omega
theorem cqS_suc (h0:0≤k) (h:k<(crSq b q j).length):cqS t b q j (k+1)=cqS t b q j k+sqI t b (madeB b q) ((crS1 b q).getD j.toNat (0,0)) ((crSq b q j).getD k.toNat (0,0)):=by
 unfold cqS
 rw [tk h0 h (0,0),List.map_append,List.sum_append]
 simp
theorem cqS_bd (h:TsOk t) (h0:0≤k):0≤cqS t b q j k∧cqS t b q j k≤60*32:=by
 have h1:=sum_bd (M:=60) (((crSq b q j).take k.toNat).map (sqI t b (madeB b q) ((crS1 b q).getD j.toNat (0,0)))) (fun x hx=>by
  obtain⟨s, -,rfl⟩:=List.mem_map.1 hx
  exact sqI_bd h _ _ _)
 have h2:(crSq b q j).length ≤32:=cr2_at j.toNat
 rw [List.length_map,List.length_take] at h1
 unfold cqS
 omega
theorem cqS_end (h0:0≤j) (hj:j<(crS2 b q).length) (h:((crSq b q j).length : Int)≤k):cqS t b q j k*wfL [b.prm ((crS1 b q).getD j.toNat (0,0)).1 ((crS1 b q).getD j.toNat (0,0)).2]=crI t b q ((crossP b q (newL b q)).getD j.toNat ((0,0),[])):=by
 have h1:j.toNat<(crossP b q (newL b q)).length :=by unfold crS2 at hj;rw [List.length_map] at hj;omega
 unfold cqS crI crSq crS1 crS2
 have e1:((crossP b q (newL b q)).map (·.1)).getD j.toNat (0,0)=((crossP b q (newL b q)).getD j.toNat ((0,0),[])).1:=by
  rw [List.getD_eq_getElem?_getD,List.getElem?_map,List.getElem?_eq_getElem h1,List.getD_eq_getElem?_getD,List.getElem?_eq_getElem h1];rfl
 have e2:((crossP b q (newL b q)).map (·.2)).getD j.toNat []=((crossP b q (newL b q)).getD j.toNat ((0,0),[])).2:=by
  rw [List.getD_eq_getElem?_getD,List.getElem?_map,List.getElem?_eq_getElem h1,List.getD_eq_getElem?_getD,List.getElem?_eq_getElem h1];rfl
 have e3:(crSq b q j).take k.toNat=crSq b q j:=List.take_of_length_le (by omega)
 unfold crSq crS2 at e3
 rw [e3,e1,e2]
theorem partJ_suc (h0:0≤j) (h:j<(crS2 b q).length):partJ t b q (j+1)=partJ t b q j++[crI t b q ((crossP b q (newL b q)).getD j.toNat ((0,0),[]))]:=by
 have h1:j<(crossP b q (newL b q)).length :=by unfold crS2 at h;rw [List.length_map] at h;omega
 unfold partJ
 rw [tk h0 h1 ((0,0),[]),List.map_append];rfl
theorem partJ_end (h:((crS2 b q).length : Int)≤j):partJ t b q j=partsI t b q:=by
 unfold partJ partsI
 rw [List.take_of_length_le (by unfold crS2 at h;rw [List.length_map] at h;omega)]
theorem partJ_len (hp:VP b q):(partJ t b q j).length ≤13:=by
 have:=cr2_len hp
 unfold crS2 at this
 rw [List.length_map] at this
 unfold partJ
 rw [List.length_cons,List.length_map,List.length_take];omega
theorem pus_len' (hp:VP b q):(pusI b q).length ≤12:=by
 have hn:=newTo_length b q q.word.length
 have hw:=hp.hi
 unfold pusI newL
 rw [List.length_map];omega
theorem main_bd (h:TsOk t) (hp:VP b q):0≤(lsI t b q).sum * wfL (pusI b q)∧(lsI t b q).sum * wfL (pusI b q)≤720*14348907:=by
 have h1:=sum_bd (lsI t b q) (lsI_bd (b:=b) (q:=q) h)
 have h2:=wfL_all (l:=pusI b q) (by have:=pus_len' hp;omega)
 have h3:=lsI_len t b q
 have h4:=hp.hi
 have h5:=Int.mul_nonneg h1.1 (show 0≤wfL (pusI b q) by omega)
 have h6:(lsI t b q).sum * wfL (pusI b q)≤720*14348907:=Int.mul_le_mul (by omega) h2.2 (by omega) (by omega)
 exact⟨h5,h6⟩
theorem wf1 (c:UInt8):wfL [c]=wdF c:=by simp [wfL]
theorem crI_bd (h:TsOk t) (x:(Int×Int)×List (Int×Int)) (hx:x.2.length≤32):0≤crI t b q x∧crI t b q x≤5760:=by
 have h1:=sum_bd (M:=60) (x.2.map (sqI t b (madeB b q) x.1)) (fun y hy=>by
  obtain⟨s, -,rfl⟩:=List.mem_map.1 hy
  exact sqI_bd h _ _ _)
 rw [List.length_map] at h1
 have h2:=wdF_bd (b.prm x.1.1 x.1.2)
 unfold crI
 rw [wf1]
 have h3:=Int.mul_nonneg h1.1 (show 0≤wdF (b.prm x.1.1 x.1.2) by omega)
 have h4:(x.2.map (sqI t b (madeB b q) x.1)).sum * wdF (b.prm x.1.1 x.1.2)≤1920*3:=Int.mul_le_mul (by omega) h2.2 (by omega) (by omega)
 omega
theorem partsI_bd (h:TsOk t) (hp:VP b q) : ∀x∈partsI t b q,0≤x∧x≤720*14348907:=by
 intro x hx
 rcases List.mem_cons.1 hx with rfl | hx
 ·exact main_bd h hp
 ·obtain⟨y,h1,rfl⟩:=List.mem_map.1 hx
  have:=crI_bd (b:=b) (q:=q) h y (crossP_seq b q _ y h1)
  omega
theorem cq_let {x:UInt8} : std.inK .u8 (x.toNat:Int):=by
 have:=u8_lt x
 exact⟨this.1,by show (x.toNat:Int)≤255;omega⟩
theorem sq_eq {s a:Int×Int} {x:Bool} (h:std.and (std.eqI s.1 a.1) (std.eqI s.2 a.2)=x):(s==a)=x:=by
 rw [←h];rfl
theorem sqI_yes {M:Bd} {s a:Int×Int} (h:(s==a)=true):sqI t b M a s=lscI t (celV M s.1 s.2) (prmV b a.1 a.2):=by
 unfold sqI lscI celV prmV
 rw [if_pos h,u8_cast,u8_cast]
theorem sqI_no {M:Bd} {s a:Int×Int} (h:(s==a)=false):sqI t b M a s=valT t (u8 (celV M s.1 s.2)):=by
 unfold sqI celV
 rw [if_neg (by rw [h];simp),u8_cast]
theorem wfV_one (b:Bd) (r c:Int):wfV [prmV b r c]=wfL [b.prm r c]:=by
 rw [←wfV_to];rfl
theorem crI_bd' (h:TsOk t) (h0:0≤j) (hj:j<(crS2 b q).length):0≤crI t b q ((crossP b q (newL b q)).getD j.toNat ((0,0),[]))∧crI t b q ((crossP b q (newL b q)).getD j.toNat ((0,0),[]))≤5760:=by
 have h1:j.toNat<(crossP b q (newL b q)).length :=by unfold crS2 at hj;rw [List.length_map] at hj;omega
 rw [List.getD_eq_getElem?_getD,List.getElem?_eq_getElem h1]
 exact crI_bd h _ (crossP_seq b q _ _ (List.getElem_mem h1))
end
def sp_i_scoreParts (p:Pr):FSpec:=fsp (ac (aA aTs) (ac (aA aBd) (a1 (aA aPl)))) (fun (t,b,q)=>LsQ t b q) (fun (t,b,q)=>.rsl [.i .i64] (partsI t b q))
def sp_i_scoreParts_o (p:Pr):FSpec:=fsp (ac (aA aTs) (ac (aA aBd) (a1 (aA aPl)))) (fun (t,b,q)=>LsQ t b q) (fun (t,b,q)=>.osl 0) (fun (t,b,q)=>[(0,.own [.i .i64] (partsI t b q) 2)])
theorem ok_i_scoreParts_o:FOk Tryz.prog 207 (sp_i_scoreParts_o std):=by
 refine FOk.go (c:=cx std [(263,sp_i_letterScores std),(265,sp_i_premiumsUsed std),(264,sp_i_wordFactor std),(119,sp_i_made std),(261,sp_i_crossings std),(266,sp_i_Board_premium std),(259,sp_i_Board_cell std),(267,sp_lsc std),(252,sp_i_valueOf std)] [] 0) (cx_ok (.cons ok_i_letterScores (.cons ok_i_premiumsUsed (.cons ok_i_wordFactor (.cons ok_i_made (.cons ok_i_crossings (.cons ok_i_Board_premium (.cons ok_i_Board_cell (.cons ok_lsc (.cons ok_i_valueOf .nil))))))))) .nil) mixed Tryz.func207 rfl rfl rfl (by kernel_rfl) ?_
 rintro ⟨t,b,q⟩ hp
 dsimp only at hp
 refine⟨rfl,?_⟩
 unfold sp_i_letterScores sp_i_premiumsUsed sp_i_wordFactor sp_i_made sp_i_crossings sp_i_Board_premium sp_i_Board_cell sp_lsc sp_i_valueOf
 obtain⟨H,hH⟩ : ∃H:Hd (Int×Int),H=⟨fun (k,m)=>0≤k∧k≤(lsI t b q).length ∧m=((lsI t b q).take k.toNat).sum,fun (k,m)=>((lsI t b q).length - k).toNat,(· < ·)⟩:=⟨_,rfl⟩
 have hl:=hdl hH
 obtain⟨H2,hH2⟩ : ∃H:Hd (Int×List Int),H=⟨fun (j,L)=>0≤j∧j≤(crS2 b q).length ∧L=partJ t b q j,fun (j,L)=>((crS2 b q).length - j).toNat,(· < ·)⟩:=⟨_,rfl⟩
 have hl2 : ∀m n,H2.lt m n→m<n:=by subst hH2;exact fun _ _ h=>h
 obtain⟨H3,hH3⟩ : ∃H:(Int×List Int)→Hd (Int×Int),H=fun (j,L)=>⟨fun (k,m)=>0≤k∧k≤(crSq b q j).length ∧m=cqS t b q j k,fun (k,m)=>((crSq b q j).length - k).toNat,(· < ·)⟩:=⟨_,rfl⟩
 have hl3 : ∀x m n,(H3 x).lt m n→m<n:=by subst hH3;exact fun _ _ _ h=>h
 generalize hP:std=p,hB0:partsI=B0,hB1:lsI=B1,hB2:pusI=B2,hB3:wfV=B3,hB4:crS1=B4,hB5:crS2=B5,hB6:crSq=B6,hB7:madeB=B7,hB8:prmV=B8,hB9:celV=B9,hB10:lscI=B10,hB11:valT=B11,hB12:Bd.inB=B12,hB13:toBl=B13,hB14:u8=B14
 cbv
 repeat' first|refine fun (_:Unit)=>?_;cbv|refine Or.inr ⟨26,[],[.s 25 (.i .i64),.s 7 (.i .i64)],[],[],H,rfl,hl,?_,fun ((k,m):Int×Int) hk=>?_⟩<;>cbv|refine Or.inr ⟨52,[],[.s 51 (.i .i64),.o 3 [.i .i64]],[.s 10],[],H2,rfl,hl2,?_,fun ((j,L):Int×List Int) hk2=>?_⟩<;>cbv|refine Or.inr ⟨71,[],[.s 70 (.i .i64),.s 17 (.i .i64)],[],[],H3 (j,L),rfl,hl3 _,?_,fun ((k,m):Int×Int) hk3=>?_⟩<;>cbv|refine aI2 (fun h=>?_) (fun h=>?_)<;>cbv|refine aI2 ?_ ?_
 all_goals subst hP hB0 hB1 hB2 hB3 hB4 hB5 hB6 hB7 hB8 hB9 hB10 hB11 hB12 hB13 hB14 hH hH2 hH3
 all_goals clear hl
 all_goals try dsimp only at hk
 all_goals clear hl2
 all_goals try dsimp only at hk2
 all_goals clear hl3
 all_goals try dsimp only at hk3
 all_goals try dsimp only
 all_goals try exact fin
 all_goals try simp only [eta_bd,eta_pl,eta_ts] at *
 all_goals obtain⟨q0,q1,rfl⟩:=hk
 all_goals have hls:=lsI_len t b q
 all_goals have hw:=hp.vp.hi
 all_goals have hcl:=cr2_len hp.vp
 all_goals have hc1:=cr1_len (b:=b) (q:=q)
 all_goals have hM:(madeB b q).Fit :=made_fit hp.vp
 all_goals have hts:=hp.ts
 ·have q1:k≤((lsI t b q).length : Int):=q1
  have hlt:k<((lsI t b q).length : Int):=lt_of ‹_›
  have h5:=sum_tk_bd (lsI_bd (b:=b) (q:=q) hp.ts) (by decide) (k:=k+1) (by omega)
  rw [sum_tk q0 hlt] at h5
  exact in64 (by show _≤((lsI t b q).take k.toNat).sum + (lsI t b q).getD k.toNat 0∧((lsI t b q).take k.toNat).sum + (lsI t b q).getD k.toNat 0≤_;omega)
 ·have hlt:k<((lsI t b q).length : Int):=lt_of ‹_›
  exact in64 (by show _≤k+1∧k+1≤_;omega)
 ·have hlt:k<((lsI t b q).length : Int):=lt_of ‹_›
  exact⟨by show 0≤k+1;omega,by show k+1≤((lsI t b q).length : Int);omega,(sum_tk q0 hlt).symm⟩
 ·exact⟨by rw [toB_len];have:=pus_len' hp.vp;omega,_,rfl⟩
 ·have hge:((lsI t b q).length : Int)≤k:=ge_of ‹_›
  have hm:=main_bd hp.ts hp.vp
  rw [tk_all hge,wfV_to]
  exact in64 (by show _≤(lsI t b q).sum * wfL (pusI b q)∧(lsI t b q).sum * wfL (pusI b q)≤_;omega)
 ·have hge:((lsI t b q).length : Int)≤k:=ge_of ‹_›
  rw [tk_all hge,wfV_to]
  exact⟨Int.le_refl 0,Int.natCast_nonneg _,rfl⟩
 all_goals obtain⟨p0,p1,rfl⟩:=hk2
 all_goals have p1:j≤((crS2 b q).length : Int):=p1
 all_goals have hpl:=partJ_len (t:=t) (j:=j) hp.vp
 all_goals have hsl:(crSq b q j).length ≤32:=cr2_at j.toNat
 all_goals try (have hj:j<((crS2 b q).length : Int):=lt_of ‹_›;have hin:=cr1_in hp.vp p0 hj)
 ·exact⟨p0,by show j<((crS1 b q).length : Int);omega⟩
 ·exact⟨p0,by show j<((crS1 b q).length : Int);omega⟩
 ·exact hin
 ·exact⟨Int.le_refl 0,Int.natCast_nonneg _,rfl⟩
 all_goals try (obtain⟨r0,r1,rfl⟩:=hk3)
 all_goals try (have r1:k≤((crSq b q j).length : Int):=r1)
 all_goals try (have hlt:k<((crSq b q j).length : Int):=lt_of ‹_›)
 all_goals try (have hbd:=cqS_bd (b:=b) (q:=q) (j:=j) (k:=k) hts r0)
 all_goals try (have hbd1:=cqS_bd (b:=b) (q:=q) (j:=j) (k:=k+1) hts (by omega);have hsu:=cqS_suc (t:=t) r0 hlt)
 ·exact⟨r0,hlt⟩
 ·exact⟨p0,by show j<((crS1 b q).length : Int);omega⟩
 ·exact hM
 ·exact cq_let
 ·exact prm_in b _ _
 ·have h1:=sq_eq (s:=(crSq b q j).getD k.toNat (0,0)) (a:=(crS1 b q).getD j.toNat (0,0)) ‹_›
  have h2:=sqI_yes (t:=t) (b:=b) (M:=madeB b q) h1
  rw [hsu,h2] at hbd1
  exact in64 (by show _≤cqS t b q j k+lscI t (celV (madeB b q) ((crSq b q j).getD k.toNat (0,0)).1 ((crSq b q j).getD k.toNat (0,0)).2) (prmV b ((crS1 b q).getD j.toNat (0,0)).1 ((crS1 b q).getD j.toNat (0,0)).2)∧cqS t b q j k+lscI t (celV (madeB b q) ((crSq b q j).getD k.toNat (0,0)).1 ((crSq b q j).getD k.toNat (0,0)).2) (prmV b ((crS1 b q).getD j.toNat (0,0)).1 ((crS1 b q).getD j.toNat (0,0)).2)≤_;omega)
 ·exact in64 (by show _≤k+1∧k+1≤_;omega)
 ·have h1:=sq_eq (s:=(crSq b q j).getD k.toNat (0,0)) (a:=(crS1 b q).getD j.toNat (0,0)) ‹_›
  have h2:=sqI_yes (t:=t) (b:=b) (M:=madeB b q) h1
  rw [h2] at hsu
  exact⟨by show 0≤k+1;omega,by show k+1≤((crSq b q j).length : Int);omega,hsu.symm⟩
 ·show (((crSq b q j).length : Int)-(k+1)).toNat < (((crSq b q j).length : Int)-k).toNat
  omega
 ·exact hM
 ·exact cq_let
 ·have h1:=sq_eq (s:=(crSq b q j).getD k.toNat (0,0)) (a:=(crS1 b q).getD j.toNat (0,0)) ‹_›
  have h2:=sqI_no (t:=t) (b:=b) (M:=madeB b q) h1
  rw [hsu,h2] at hbd1
  exact in64 (by show _≤cqS t b q j k+valT t (u8 (celV (madeB b q) ((crSq b q j).getD k.toNat (0,0)).1 ((crSq b q j).getD k.toNat (0,0)).2))∧cqS t b q j k+valT t (u8 (celV (madeB b q) ((crSq b q j).getD k.toNat (0,0)).1 ((crSq b q j).getD k.toNat (0,0)).2))≤_;omega)
 ·exact in64 (by show _≤k+1∧k+1≤_;omega)
 ·have h1:=sq_eq (s:=(crSq b q j).getD k.toNat (0,0)) (a:=(crS1 b q).getD j.toNat (0,0)) ‹_›
  have h2:=sqI_no (t:=t) (b:=b) (M:=madeB b q) h1
  rw [h2] at hsu
  exact⟨by show 0≤k+1;omega,by show k+1≤((crSq b q j).length : Int);omega,hsu.symm⟩
 ·show (((crSq b q j).length : Int)-(k+1)).toNat < (((crSq b q j).length : Int)-k).toNat
  omega
 ·exact⟨by show 1≤15;omega,[b.prm ((crS1 b q).getD j.toNat (0,0)).1 ((crS1 b q).getD j.toNat (0,0)).2],rfl⟩
 all_goals have hq:=wfV_one b ((crS1 b q).getD j.toNat (0,0)).1 ((crS1 b q).getD j.toNat (0,0)).2
 ·have hge:((crSq b q j).length : Int)≤k:=ge_of ‹_›
  have h1:=cqS_end (t:=t) p0 hj hge
  have h2:=crI_bd' (t:=t) hts p0 hj
  exact in64 (by
   show _≤cqS t b q j k*wfV [prmV b ((crS1 b q).getD j.toNat (0,0)).1 ((crS1 b q).getD j.toNat (0,0)).2]∧cqS t b q j k*wfV [prmV b ((crS1 b q).getD j.toNat (0,0)).1 ((crS1 b q).getD j.toNat (0,0)).2]≤_
   rw [hq,h1];omega)
 ·show ((partJ t b q j).length : Int)+1≤_
  omega
 ·exact in64 (by show _≤j+1∧j+1≤_;omega)
 ·have hge:((crSq b q j).length : Int)≤k:=ge_of ‹_›
  refine⟨by show 0≤j+1;omega,by show j+1≤((crS2 b q).length : Int);omega,?_⟩
  show partJ t b q j++[cqS t b q j k*wfV [prmV b ((crS1 b q).getD j.toNat (0,0)).1 ((crS1 b q).getD j.toNat (0,0)).2]]=partJ t b q (j+1)
  rw [partJ_suc p0 hj,hq,cqS_end p0 hj hge]
 ·rw [partJ_end (ge_of ‹_›)]
theorem ok_i_scoreParts:FOk Tryz.prog 207 (sp_i_scoreParts std):=FOk.frz ok_i_scoreParts_o fun ⟨t,b,q⟩=>⟨by simp [deep,deeps,AH.get],by simp [PV.idIn,idInL]⟩
theorem parts_len {t:TS} {b:Bd} {q:Pl} (hp:VP b q):(partsI t b q).length ≤13:=by
 rw [←partJ_end (j:=((crS2 b q).length : Int)) (Int.le_refl _)];exact partJ_len hp
theorem score_bd {t:TS} {b:Bd} {q:Pl} (h:TsOk t) (hp:VP b q):0≤(partsI t b q).sum ∧(partsI t b q).sum ≤134306167760:=by
 have h1:=sum_bd (partsI t b q) (partsI_bd h hp)
 have h2:=parts_len (t:=t) hp
 omega
theorem sc7 {b:Bd} {q:Pl} (h:std.eqI (std.len (nsI b q)) 7=true):(newL b q).length =7:=by
 have h1:((nsI b q).length : Int)=7:=by simpa using h
 rw [ns_len] at h1;omega
theorem sc7n {b:Bd} {q:Pl} (h:std.eqI (std.len (nsI b q)) 7=false) : ¬(newL b q).length =7:=by
 have h1 : ¬((nsI b q).length : Int)=7:=by simpa using h
 rw [ns_len] at h1;omega
def sp_i_scorePlay (p:Pr):FSpec:=fsp (ac (aA aTs) (ac (aA aBd) (a1 (aA aPl)))) (fun (t,b,q)=>LsQ t b q) (fun (t,b,q)=>.i .i64 (scoreI t b q))
theorem ok_i_scorePlay:FOk Tryz.prog 113 (sp_i_scorePlay std):=by
 refine FOk.go (c:=cx std [(207,sp_i_scoreParts std),(203,sp_i_newSquares std)] [] 0) (cx_ok (.cons ok_i_scoreParts (.cons ok_i_newSquares .nil)) .nil) mixed Tryz.func113 rfl rfl rfl (by kernel_rfl) ?_
 rintro ⟨t,b,q⟩ hp
 dsimp only at hp
 refine⟨rfl,?_⟩
 unfold sp_i_scoreParts sp_i_newSquares
 obtain⟨H,hH⟩ : ∃H:Hd (Int×Int),H=⟨fun (k,m)=>0≤k∧k≤(partsI t b q).length ∧m=((partsI t b q).take k.toNat).sum,fun (k,m)=>((partsI t b q).length - k).toNat,(· < ·)⟩:=⟨_,rfl⟩
 have hl:=hdl hH
 generalize hP:std=p,hB0:scoreI=B0,hB1:partsI=B1,hB2:nsI=B2
 cbv
 repeat' first|refine fun (_:Unit)=>?_;cbv|refine Or.inr ⟨18,[],[.s 17 (.i .i64),.s 7 (.i .i64)],[],[],H,rfl,hl,?_,fun ((k,m):Int×Int) hk=>?_⟩<;>cbv|refine aI2 (fun h=>?_) (fun h=>?_)<;>cbv|refine aI2 ?_ ?_
 all_goals subst hP hB0 hB1 hB2 hH
 all_goals clear hl
 all_goals try dsimp only at hk
 all_goals try dsimp only
 all_goals try exact fin
 all_goals try simp only [eta_bd,eta_pl,eta_ts] at *
 all_goals obtain⟨q0,q1,rfl⟩:=hk
 all_goals have q1:k≤((partsI t b q).length : Int):=q1
 all_goals have hpb:=score_bd hp.ts hp.vp
 all_goals have hpl:=parts_len (t:=t) hp.vp
 all_goals try (have hge:((partsI t b q).length : Int)≤k:=ge_of ‹_›;have hta:(partsI t b q).take k.toNat=partsI t b q:=tk_all hge)
 ·have hlt:k<((partsI t b q).length : Int):=lt_of ‹_›
  have h5:=sum_tk_bd (partsI_bd hp.ts hp.vp) (by decide) (k:=k+1) (by omega)
  rw [sum_tk q0 hlt] at h5
  exact in64 (by show _≤((partsI t b q).take k.toNat).sum + (partsI t b q).getD k.toNat 0∧((partsI t b q).take k.toNat).sum + (partsI t b q).getD k.toNat 0≤_;omega)
 ·have hlt:k<((partsI t b q).length : Int):=lt_of ‹_›
  exact in64 (by show _≤k+1∧k+1≤_;omega)
 ·have hlt:k<((partsI t b q).length : Int):=lt_of ‹_›
  exact⟨by show 0≤k+1;omega,by show k+1≤((partsI t b q).length : Int);omega,(sum_tk q0 hlt).symm⟩
 ·rw [hta]
  exact in64 (by show _≤(partsI t b q).sum + 50∧(partsI t b q).sum + 50≤_;omega)
 ·rw [hta]
  unfold scoreI
  rw [if_pos (sc7 ‹_›)];rfl
 ·rw [hta]
  unfold scoreI
  rw [if_neg (sc7n ‹_›),Int.add_zero]
theorem vc_step {t:TS} {k:Int} (hv:t.values.length=t.letters.length) (hc:t.counts.length=t.letters.length) (h0:0≤k) (h:k<t.counts.length):vcB (t.values.drop k.toNat) (t.counts.drop k.toNat)=(inR (t.values.getD k.toNat 0) 0 20&&(inR (t.counts.getD k.toNat 0) 1 20&&vcB (t.values.drop (k+1).toNat) (t.counts.drop (k+1).toNat))):=by
 rw [dc h0 (show k<(t.values.length:Int) by omega) 0,dc h0 h 0,vcB]
theorem vc_end {t:TS} {k:Int} (h:(t.counts.length:Int)≤k):vcB (t.values.drop k.toNat) (t.counts.drop k.toNat)=true:=by
 rw [List.drop_of_length_le (show t.counts.length≤k.toNat by omega)]
 cases List.drop k.toNat t.values<;>rfl
theorem ts_i (t:TS):tsB t=(decide (1≤t.letters.length)&&(riseB t.letters&&(decide (t.values.length=t.letters.length)&&(decide (t.counts.length=t.letters.length)&&(inR t.blanks 0 4&&(vcB t.values t.counts&&decide (t.blanks+t.counts.sum≤120))))))):=by
 unfold tsB;rw [sm_adj];rfl
def sp_i_ValidTiles (p:Pr):FSpec:=fsp (a1 (aA aTs)) (fun t=>TsL t) (fun t=>.b (tsB t))
theorem ok_i_ValidTiles:FOk Tryz.prog 79 (sp_i_ValidTiles std):=by
 refine FOk.go (c:=cx std [(176,sp_i_rising std),(83,sp_i_within std)] [] 0) (cx_ok (.cons ok_i_rising (.cons ok_i_within .nil)) .nil) mixed Tryz.func79 rfl rfl rfl (by kernel_rfl) ?_
 rintro t hp
 refine⟨rfl,?_⟩
 unfold sp_i_rising sp_i_within
 obtain⟨H,hH⟩ : ∃H:Hd (Int×Int),H=⟨fun (k,m)=>0≤k∧k≤t.counts.length∧m=t.blanks+(t.counts.take k.toNat).sum ∧0≤m∧m≤4+20*k∧tsB t=(vcB (t.values.drop k.toNat) (t.counts.drop k.toNat)&&decide (t.blanks+t.counts.sum≤120)),fun (k,m)=>(t.counts.length-k).toNat,(· < ·)⟩:=⟨_,rfl⟩
 have hl:=hdl hH
 generalize hP:std=p,hB0:tsB=B0,hB1:riseB=B1,hB2:inR=B2
 cbv
 repeat' first|refine fun (_:Unit)=>?_;cbv|refine Or.inr ⟨44,[],[.s 43 (.i .i64),.s 4 (.i .i64)],[],[],H,rfl,hl,?_,fun ((k,m):Int×Int) hk=>?_⟩<;>cbv|refine aI2 (fun h=>?_) (fun h=>?_)<;>cbv|refine aI2 ?_ ?_
 all_goals subst hP hB0 hB1 hB2 hH
 all_goals clear hl
 all_goals try dsimp only at hk
 all_goals try dsimp only
 all_goals try exact fin
 all_goals try simp only [eta_ts] at *
 ·exact ltM_of hp.l
 all_goals have ht:=ts_i t
 all_goals try (have b0:(1≤t.letters.length)=True:=eq_true (by have:=ge_of (show std.ltI (std.lenS t.letters) 1=false by assumption);simp at this;omega))
 all_goals try (have b1:riseB t.letters=true:=by assumption)
 all_goals try (have b2:=len_e (L:=t.values) (s:=t.letters) ‹_›)
 all_goals try (have b3:=len_e (L:=t.counts) (s:=t.letters) ‹_›)
 all_goals try (have b4:inR t.blanks 0 4=true:=by assumption)
 ·rw [ht,show inR t.blanks 0 4=false by assumption];simp
 ·have c4:=in_bd b4
  refine⟨Int.le_refl 0,Int.natCast_nonneg _,by simp,c4.1,c4.2,?_⟩
  rw [ht,b1,b4,decide_eq_true b2,decide_eq_true b3]
  simp [b0]
 all_goals try (obtain⟨q0,q1,q2,q3,q4,e⟩:=hk)
 all_goals try (have h1:k<(t.counts.length:Int):=lt_of ‹_›)
 all_goals try (have st:=vc_step b2 b3 q0 h1)
 all_goals try (have c2:=sum_tk (L:=t.counts) q0 h1)
 all_goals try (have d1:inR (t.values.getD k.toNat 0) 0 20=true:=by assumption)
 all_goals try (have d2:inR (t.counts.getD k.toNat 0) 1 20=true:=by assumption)
 all_goals try (have d3:=in_bd d2)
 ·rw [e,st,show inR (t.counts.getD k.toNat 0) 1 20=false by assumption];simp
 ·have q1:k≤(t.counts.length:Int):=q1
  have q5:=hp.c
  exact in64 (by show _≤m+t.counts.getD k.toNat 0∧m+t.counts.getD k.toNat 0≤_;omega)
 ·have q5:=hp.c
  exact in64 (by show _≤k+1∧k+1≤_;omega)
 ·refine⟨by show 0≤k+1;omega,by show k+1≤(t.counts.length:Int);omega,by show m+t.counts.getD k.toNat 0=t.blanks+(t.counts.take (k+1).toNat).sum;rw [c2];omega,by show 0≤m+t.counts.getD k.toNat 0;omega,by show m+t.counts.getD k.toNat 0≤4+20*(k+1);omega,?_⟩
  rw [e,st,d1,d2];rfl
 ·rw [e,st,show inR (t.values.getD k.toNat 0) 0 20=false by assumption];rfl
 ·have h2:(t.counts.length:Int)≤k:=ge_of ‹_›
  rw [e,q2,tk_all h2,vc_end h2];rfl
 ·rw [ht,decide_eq_false (len_n (L:=t.counts) (s:=t.letters) ‹_›)];simp
 ·rw [ht,decide_eq_false (len_n (L:=t.values) (s:=t.letters) ‹_›)];simp
 ·rw [ht,show riseB t.letters=false by assumption];simp
 ·have b5 : ¬1≤t.letters.length:=by have:=lt_of (show std.ltI (std.lenS t.letters) 1=true by assumption);have h3:(t.letters.length:Int)<1:=this;omega
  rw [ht,decide_eq_false b5];rfl
structure SuQ (u:Su):Prop where
 ts:TsL u.ts
 ws:WsL u.lex
 bd:BdP u.bd
theorem suE (u:Su):suB u=(tsB ⟨u.ts.letters,u.ts.values,u.ts.counts,u.ts.blanks⟩&&(lexB u.lex&&(bdB ⟨u.bd.size,u.bd.prem,u.bd.cells⟩&&(emptyB ⟨u.bd.size,u.bd.prem,u.bd.cells⟩&&(inR u.secs 0 36000&&inR u.rule 0 3))))):=rfl
def sp_i_ValidSetup (p:Pr):FSpec:=fsp (a1 (aA aSu)) (fun u=>SuQ u) (fun u=>.b (suB u))
theorem ok_i_ValidSetup:FOk Tryz.prog 14 (sp_i_ValidSetup std):=by
 refine FOk.go (c:=cx std [(79,sp_i_ValidTiles std),(80,sp_i_ValidLexicon std),(81,sp_i_ValidBoard std),(82,sp_i_Board_blank std),(83,sp_i_within std)] [] 0) (cx_ok (.cons ok_i_ValidTiles (.cons ok_i_ValidLexicon (.cons ok_i_ValidBoard (.cons ok_i_Board_blank (.cons ok_i_within .nil))))) .nil) mixed Tryz.func14 rfl rfl rfl (by kernel_rfl) ?_
 rintro u hp
 refine⟨rfl,?_⟩
 unfold sp_i_ValidTiles sp_i_ValidLexicon sp_i_ValidBoard sp_i_Board_blank sp_i_within
 generalize hP:std=p,hB0:suB=B0,hB1:tsB=B1,hB2:lexB=B2,hB3:bdB=B3,hB4:emptyB=B4,hB5:inR=B5
 cbv
 repeat' first|refine fun (_:Unit)=>?_;cbv|refine aI2 (fun h=>?_) (fun h=>?_)<;>cbv|refine aI2 ?_ ?_|refine Or.inl (fun (_:Unit)=>?_);cbv
 all_goals subst hP hB0 hB1 hB2 hB3 hB4 hB5
 all_goals try exact fin
 all_goals first
  | exact hp.bd
  | exact bdB.fit (show bdB u.bd=true by assumption)
  | (rw [suE];simp [*];done)
  | (rw [suE];simp [*] at *;simp [*];done)
theorem vcB_sum : ∀(vs cs:List Int),vs.length=cs.length→vcB vs cs=true→(∀c∈cs,1≤c∧c≤20)∧∀v∈vs,0≤v∧v≤20
 | [],[],_,_=>⟨fun _ h=>(by cases h),fun _ h=>(by cases h)⟩
 | [],_::_,h,_=>by simp at h
 | _::_,[],h,_=>by simp at h
 | v::vs,c::cs,h,hb=>by
   rw [vcB] at hb
   simp only [Bool.and_eq_true,inR,decide_eq_true_eq] at hb
   obtain⟨h1,h2⟩:=vcB_sum vs cs (by simpa using h) hb.2.2
   refine⟨fun x hx=>?_,fun x hx=>?_⟩
   ·rcases List.mem_cons.1 hx with e | hx
    ·subst e;exact hb.2.1
    ·exact h1 x hx
   ·rcases List.mem_cons.1 hx with e | hx
    ·subst e;exact hb.1
    ·exact h2 x hx
theorem tsB_ok {t:TS} (h:tsB t=true):TsOk t:=by
 unfold tsB at h
 simp only [Bool.and_eq_true,decide_eq_true_eq] at h
 obtain⟨h1,h2,h3,h4,h5,h6,h7⟩:=h
 have hb:=vcB_sum t.values t.counts (by omega) h6
 have key : ∀c,0≤valT t c∧valT t c≤20:=fun c=>by
  unfold valT
  split
  ·rename_i hk
   have hk':findK t.letters c<t.values.length:=by omega
   rw [List.getD_eq_getElem?_getD,List.getElem?_eq_getElem hk']
   exact hb.2 _ (List.getElem_mem hk')
  ·omega
 exact⟨smFrom_26 h2,h3,h4,fun c=>(key c).1,fun c=>(key c).2⟩
theorem tsB_all {t:TS} (h:tsB t=true):AllP t∧0≤t.blanks∧∀k:Nat,0≤t.counts.getD k 0:=by
 have ho:=tsB_ok h
 unfold tsB at h
 simp only [Bool.and_eq_true,decide_eq_true_eq] at h
 obtain⟨h1,h2,h3,h4,h5,h6,h7⟩:=h
 have hb:=(vcB_sum t.values t.counts (by omega) h6).1
 have hk : ∀k:Nat,0≤t.counts.getD k 0∧t.counts.getD k 0≤20:=fun k=>by
  rw [List.getD_eq_getElem?_getD]
  rcases Nat.lt_or_ge k t.counts.length with h | h
  ·rw [List.getElem?_eq_getElem h]
   have:=hb _ (List.getElem_mem h)
   show 0≤t.counts[k]∧t.counts[k]≤20
   omega
  ·rw [List.getElem?_eq_none h];decide
 have h5:=in_bd h5
 exact⟨⟨ho,h5.2,fun k=>(hk k).2⟩,h5.1,fun k=>(hk k).1⟩
theorem eqI_t {a b:Int} (h:std.eqI a b=true):a=b:=by simpa using h
theorem eqI_f {a b:Int} (h:std.eqI a b=false) : ¬a=b:=by simpa using h
theorem len2 {α:Type} (L:List α):std.eqI (std.len L) 2=decide (L.length=2):=by
 show decide ((L.length:Int)=2)=_
 rw [Bool.eq_iff_iff,decide_eq_true_eq,decide_eq_true_eq];omega
theorem shapeE (g:Gm):shapeB g=(suB ⟨⟨g.ts.letters,g.ts.values,g.ts.counts,g.ts.blanks⟩,g.lex,⟨g.bd0.size,g.bd0.prem,g.bd0.cells⟩,g.secs,g.rule⟩&&(bdB ⟨g.bd.size,g.bd.prem,g.bd.cells⟩&&(std.eqI g.bd.size g.bd0.size&&(std.eqS g.bd.prem g.bd0.prem&&bagB g.bag)))):=rfl
theorem twoE (g:Gm):twoB g=(std.eqI (std.len g.racks) 2&&(std.eqI (std.len g.scores) 2&&(std.eqI (std.len g.clocks) 2&&(inR g.player 0 1&&inR g.zeros 0 6)))):=by
 rw [len2,len2,len2];rfl
theorem z_full {z:Int} (h:std.eqI z 6=true):decide (z<6)=false:=by
 have : z=6:=by simpa using h
 subst this;rfl
theorem z_less {z:Int} (h0:inR z 0 6=true) (h:std.eqI z 6=false):decide (z<6)=true:=by
 have h1 : ¬z=6:=by simpa using h
 have h2:=in_bd h0
 rw [decide_eq_true_eq];omega
theorem side_n1 {g:Gm} {k:Int} (h:rackB (g.racks.getD k.toNat [])=false):sideB g k.toNat=false:=by unfold sideB;rw [h];rfl
theorem side_n2 {g:Gm} {k:Int} (_:0≤k) (h:inR (g.scores.getD k.toNat 0) (-100000) 100000=false):sideB g k.toNat=false:=by unfold sideB;rw [h];simp
theorem side_n3 {g:Gm} {k:Int} (_:0≤k) (h:inR (g.clocks.getD k.toNat 0) (-36000) 36000=false):sideB g k.toNat=false:=by unfold sideB;rw [h];simp
theorem side_suc {g:Gm} {k:Int} (h0:0≤k) (h1:k<2) (q2:0<k→sideB g 0=true) (_:1<k→sideB g 1=true) (a:rackB (g.racks.getD k.toNat [])=true) (b:inR (g.scores.getD k.toNat 0) (-100000) 100000=true) (c:inR (g.clocks.getD k.toNat 0) (-36000) 36000=true) :
 0≤k+1∧k+1≤2∧(0<k+1→sideB g 0=true)∧(1<k+1→sideB g 1=true):=by
 have hs:sideB g k.toNat=true:=by unfold sideB;rw [a,b,c];rfl
 have : k=0∨k=1:=by omega
 rcases this with rfl | rfl
 ·exact⟨by omega,by omega,fun _=>hs,fun h=>absurd h (by decide)⟩
 ·exact⟨by omega,by omega,fun _=>q2 (by omega),fun _=>hs⟩
theorem rack_len {s:List UInt8} (h:rackB s=true):s.length≤7:=by
 unfold rackB at h
 rw [Bool.and_eq_true,decide_eq_true_eq] at h
 exact h.2
theorem lettersS_len (b:Bd) (h:b.Fit):(lettersS b).length ≤225:=by
 have h1:=List.length_filter_le (fun c:UInt8=>!(c==46)) b.cells
 have h2:=h.cells;have h3:=h.hi;have h4:=h.lo
 have h5:b.size*b.size≤15*b.size:=Int.mul_le_mul_of_nonneg_right h3 (by omega)
 unfold lettersS;omega
def tilesF (g:Gm):Bool:=pileL (countsL (((g.bag++g.racks.getD 0 [])++g.racks.getD 1 [])++tilesP (lettersS g.bd)))==allT g.ts
theorem rack_stp {s:List UInt8} (h:rackB s=true):StP s:=by
 have h1:=(rackB_asc h).1
 refine⟨h1,?_⟩
 unfold rackB at h
 rw [Bool.and_eq_true,decide_eq_true_eq] at h
 omega
theorem bag_stp {s:List UInt8} (h:bagB s=true):StP s:=by
 have h1:=bagB_tiles h
 refine⟨h1,?_⟩
 unfold bagB at h
 rw [Bool.and_eq_true,decide_eq_true_eq] at h
 omega
theorem tilesP_len (s:List UInt8):(tilesP s).length ≤27*s.length:=by
 have h1:=counts_ct (s.map blankC)
 rw [List.length_map] at h1
 exact pileTo_bd (c:=countsL (s.map blankC)) (m:=s.length) (fun j=>h1.hi j) 27
structure TfP (g:Gm):Prop where
 ts:TlP g.ts
 bd:bdB g.bd=true
 bag:bagB g.bag=true
 rk2:g.racks.length=2
 rk0:rackB (g.racks.getD 0 [])=true
 rk1:rackB (g.racks.getD 1 [])=true
def sp_i_Game_tilesFit (p:Pr):FSpec:=fsp (a1 (aA aGm)) (fun g=>TfP g) (fun g=>.b (tilesF g))
theorem ok_i_Game_tilesFit:FOk Tryz.prog 85 (sp_i_Game_tilesFit std):=by
 refine FOk.go (c:=cx std [(90,sp_i_Board_lettersOn std),(91,sp_i_tilesOf std),(69,sp_i_sorted std),(70,sp_i_allTiles std)] [] 0) (cx_ok (.cons ok_i_Board_lettersOn (.cons ok_i_tilesOf (.cons ok_i_sorted (.cons ok_i_allTiles .nil)))) .nil) mixed Tryz.func85 rfl rfl rfl (by kernel_rfl) ?_
 rintro g hp
 refine⟨rfl,?_⟩
 unfold sp_i_Board_lettersOn sp_i_tilesOf sp_i_sorted sp_i_allTiles
 generalize hP:std=p,hB0:tilesF=B0,hB1:pileL=B1,hB2:countsL=B2,hB3:tilesP=B3,hB4:lettersS=B4,hB5:allT=B5
 cbv
 repeat' first|refine fun (_:Unit)=>?_;cbv|refine aI2 (fun h=>?_) (fun h=>?_)<;>cbv|refine aI2 ?_ ?_|refine Or.inl (fun (_:Unit)=>?_);cbv
 all_goals subst hP hB0 hB1 hB2 hB3 hB4 hB5
 all_goals try exact fin
 all_goals (have hb:=bag_len hp.bag;have h0:=rack_len hp.rk0;have h1:=rack_len hp.rk1;have hr:=hp.rk2;have hll:=lettersS_len g.bd (bdB.fit hp.bd);have htl:=tilesP_len (lettersS g.bd))
 ·exact⟨Int.le_refl 0,by show (0:Int)<(g.racks.length:Int);omega⟩
 ·exact in64 (by show _≤(g.bag.length:Int)+((g.racks.getD 0 []).length : Int)∧(g.bag.length:Int)+((g.racks.getD 0 []).length : Int)≤_;omega)
 ·exact⟨by decide,by show (1:Int)<(g.racks.length:Int);omega⟩
 ·exact in64 (by
   show _≤((g.bag++g.racks.getD 0 []).length : Int)+((g.racks.getD 1 []).length : Int)∧((g.bag++g.racks.getD 0 []).length : Int)+((g.racks.getD 1 []).length : Int)≤_
   rw [List.length_append];omega)
 ·exact bdB.fit hp.bd
 ·exact⟨cells_lett hp.bd,by show (lettersS g.bd).length ≤_;omega⟩
 ·exact in64 (by
   show _≤(((g.bag++g.racks.getD 0 [])++g.racks.getD 1 []).length : Int)+((tilesP (lettersS g.bd)).length : Int)∧(((g.bag++g.racks.getD 0 [])++g.racks.getD 1 []).length : Int)+((tilesP (lettersS g.bd)).length : Int)≤_
   rw [List.length_append,List.length_append];omega)
 ·refine⟨?_,?_⟩
  ·show (((g.bag++g.racks.getD 0 [])++g.racks.getD 1 [])++tilesP (lettersS g.bd)).all tileB=true
   rw [List.all_append,List.all_append,List.all_append,(bag_stp hp.bag).ti,(rack_stp hp.rk0).ti,(rack_stp hp.rk1).ti,show (tilesP (lettersS g.bd)).all tileB=true from pileL_tile' _];rfl
  ·show (((g.bag++g.racks.getD 0 [])++g.racks.getD 1 [])++tilesP (lettersS g.bd)).length ≤_
   rw [List.length_append,List.length_append,List.length_append];omega
theorem emp_is (s:List UInt8):std.eqS s []=s.isEmpty:=by cases s<;>rfl
structure WtP (g:Gm):Prop where
 rk2:g.racks.length=2
 ply:inR g.player 0 1=true
def sp_i_Game_waits (p:Pr):FSpec:=fsp (a1 (aA aGm)) (fun g=>WtP g) (fun g=>.b (waitsB g))
theorem ok_i_Game_waits:FOk Tryz.prog 102 (sp_i_Game_waits std):=by
 refine FOk.go (c:=cx std [] [] 0) (cx_ok .nil .nil) mixed Tryz.func102 rfl rfl rfl (by kernel_rfl) ?_
 rintro g hp
 refine⟨rfl,?_⟩
 generalize hP:std=p,hB0:waitsB=B0,hB1:inR=B1
 cbv
 repeat' first|refine fun (_:Unit)=>?_;cbv|refine aI2 (fun h=>?_) (fun h=>?_)<;>cbv|refine aI2 ?_ ?_|refine Or.inl (fun (_:Unit)=>?_);cbv
 all_goals subst hP hB0 hB1
 all_goals try exact fin
 all_goals (have h0:=in_bd hp.ply;have hr:=hp.rk2)
 ·exact in64 (by show _≤1-g.player∧1-g.player≤_;omega)
 ·exact⟨by show 0≤1-g.player;omega,by show 1-g.player<(g.racks.length:Int);omega⟩
 ·unfold waitsB
  rw [show g.bag.isEmpty=true by rw [←emp_is];assumption]
  exact emp_is _
 ·unfold waitsB
  rw [show g.bag.isEmpty=false by rw [←emp_is];assumption];rfl
structure PfQ (g:Gm):Prop where
 ts:TsOk g.ts
 rk2:g.racks.length=2
 ply:inR g.player 0 1=true
 rk0:rackB (g.racks.getD 0 [])=true
 rk1:rackB (g.racks.getD 1 [])=true
 bf:BdP g.bef
 wd:(g.last.play.word.length:Int)≤1073741824
 dr:g.last.drawn.length≤274877906944
theorem le_not (m n:Int):decide (m≤n)=!(std.ltI n m):=by
 show decide (m≤n)=!(decide (n<m))
 rw [Bool.eq_iff_iff]
 simp
theorem pfE (g:Gm):playOkI g=(inR g.last.player 0 1&&(std.eqI g.last.player (std.sub 1 g.player)&&(okI ⟨g.bd.size,g.bd.prem,g.last.before⟩ ⟨g.last.play.row,g.last.play.col,g.last.play.down,g.last.play.word⟩&&(
 std.and (std.eqI (madeB ⟨g.bd.size,g.bd.prem,g.last.before⟩ ⟨g.last.play.row,g.last.play.col,g.last.play.down,g.last.play.word⟩).size g.bd.size) (std.and (std.eqS (madeB ⟨g.bd.size,g.bd.prem,g.last.before⟩ ⟨g.last.play.row,g.last.play.col,g.last.play.down,g.last.play.word⟩).prem g.bd.prem) (std.eqS (madeB ⟨g.bd.size,g.bd.prem,g.last.before⟩ ⟨g.last.play.row,g.last.play.col,g.last.play.down,g.last.play.word⟩).cells g.bd.cells))&&(
 !(std.ltI 7 (std.len (nsI ⟨g.bd.size,g.bd.prem,g.last.before⟩ ⟨g.last.play.row,g.last.play.col,g.last.play.down,g.last.play.word⟩)))&&(bagB g.last.drawn&&(
 !(std.ltI (std.len (nsI ⟨g.bd.size,g.bd.prem,g.last.before⟩ ⟨g.last.play.row,g.last.play.col,g.last.play.down,g.last.play.word⟩)) (std.lenS g.last.drawn))&&(
 !(std.ltI 7 (std.add (std.sub (std.lenS (std.get [] g.racks g.last.player)) (std.lenS g.last.drawn)) (std.len (nsI ⟨g.bd.size,g.bd.prem,g.last.before⟩ ⟨g.last.play.row,g.last.play.col,g.last.play.down,g.last.play.word⟩))))&&(
 withoutB (std.get [] g.racks g.last.player) g.last.drawn&&(std.eqI g.last.score (scoreI ⟨g.ts.letters,g.ts.values,g.ts.counts,g.ts.blanks⟩ ⟨g.bd.size,g.bd.prem,g.last.before⟩ ⟨g.last.play.row,g.last.play.col,g.last.play.down,g.last.play.word⟩)&&(std.leI g.last.score 20000&&(inR g.last.zeros 0 5&&std.eqI g.zeros 0)))))))))))):=by
 have e1:decide ((newL g.bef g.last.play).length ≤7)=!(std.ltI 7 (std.len (nsI g.bef g.last.play))):=by
  rw [←le_not]
  show _=decide (((nsI g.bef g.last.play).length : Int)≤7)
  rw [ns_len,Bool.eq_iff_iff,decide_eq_true_eq,decide_eq_true_eq];omega
 have e2:decide (g.last.drawn.length≤(newL g.bef g.last.play).length)=!(std.ltI (std.len (nsI g.bef g.last.play)) (std.lenS g.last.drawn)):=by
  rw [←le_not]
  show _=decide ((g.last.drawn.length:Int)≤((nsI g.bef g.last.play).length : Int))
  rw [ns_len,Bool.eq_iff_iff,decide_eq_true_eq,decide_eq_true_eq];omega
 have e3:decide (((g.rk g.last.player).length : Int)-g.last.drawn.length+(newL g.bef g.last.play).length ≤7)=!(std.ltI 7 (std.add (std.sub (std.lenS (std.get [] g.racks g.last.player)) (std.lenS g.last.drawn)) (std.len (nsI g.bef g.last.play)))):=by
  rw [←le_not]
  show _=decide (((g.rk g.last.player).length : Int)-g.last.drawn.length+((nsI g.bef g.last.play).length : Int)≤7)
  rw [ns_len]
 unfold playOkI
 rw [e1,e2,e3]
 rfl
theorem VP.ok {b:Bd} {q:Pl} (h:okI b q=true):VP b q:=by
 unfold okI at h
 rw [Bool.and_eq_true] at h
 exact VP.of h.1 h.2
def sp_i_Game_playFits (p:Pr):FSpec:=fsp (a1 (aA aGm)) (fun g=>PfQ g) (fun g=>.b (playOkI g))
theorem ok_i_Game_playFits:FOk Tryz.prog 183 (sp_i_Game_playFits std):=by
 refine FOk.go (c:=cx std [(83,sp_i_within std),(134,sp_i_ValidPlay std),(119,sp_i_made std),(203,sp_i_newSquares std),(68,sp_i_ValidBag std),(116,sp_i_without std),(113,sp_i_scorePlay std)] [] 0) (cx_ok (.cons ok_i_within (.cons ok_i_ValidPlay (.cons ok_i_made (.cons ok_i_newSquares (.cons ok_i_ValidBag (.cons ok_i_without (.cons ok_i_scorePlay .nil))))))) .nil) mixed Tryz.func183 rfl rfl rfl (by kernel_rfl) ?_
 rintro g hp
 refine⟨rfl,?_⟩
 unfold sp_i_within sp_i_ValidPlay sp_i_made sp_i_newSquares sp_i_ValidBag sp_i_without sp_i_scorePlay
 generalize hP:std=p,hB0:playOkI=B0,hB1:inR=B1,hB2:okI=B2,hB3:madeB=B3,hB4:nsI=B4,hB5:npI=B5,hB6:bagB=B6,hB7:withoutS=B7,hB8:withoutB=B8,hB9:scoreI=B9
 cbv
 repeat' first|refine fun (_:Unit)=>?_;cbv|refine aI2 (fun h=>?_) (fun h=>?_)<;>cbv|refine aI2 ?_ ?_|refine Or.inl (fun (_:Unit)=>?_);cbv
 all_goals subst hP hB0 hB1 hB2 hB3 hB4 hB5 hB6 hB7 hB8 hB9
 all_goals try exact fin
 all_goals (have h0:=in_bd hp.ply;have hr:=hp.rk2)
 all_goals try (have hl1:=in_bd (show inR g.last.player 0 1=true by assumption);have hrk:=rk_valid hp.rk0 hp.rk1 (show inR g.last.player 0 1=true by assumption);have hrl:=rack_len hrk)
 all_goals try (have hvp:VP g.bef g.last.play:=VP.ok ‹_›;have hnl:=ns_len (b:=g.bef) (q:=g.last.play);have hn:=newTo_length g.bef g.last.play g.last.play.word.length;have hn:(newL g.bef g.last.play).length ≤g.last.play.word.length:=hn;have hw:=hvp.hi)
 all_goals try (have hbg:=bag_len (show bagB g.last.drawn=true by assumption))
 all_goals first
  | exact hp.bf
  | exact hp.wd
  | exact hvp
  | exact⟨hp.ts,hvp⟩
  | exact rack_stp hrk
  | exact bag_stp (show bagB g.last.drawn=true by assumption)
  | exact ltM_of hp.dr
  | exact⟨hl1.1,by show g.last.player<(g.racks.length:Int);omega⟩
  | (rw [pfE];simp only [*,Bool.not_false,Bool.not_true,Bool.true_and,Bool.false_and,Bool.and_false];done)
  | exact in64 (by show _≤1-g.player∧1-g.player≤_;omega)
  | exact in64 (by show _≤((g.rk g.last.player).length : Int)-(g.last.drawn.length:Int)∧((g.rk g.last.player).length : Int)-(g.last.drawn.length:Int)≤_;omega)
  | exact in64 (by show _≤((g.rk g.last.player).length : Int)-(g.last.drawn.length:Int)+((nsI g.bef g.last.play).length : Int)∧((g.rk g.last.player).length : Int)-(g.last.drawn.length:Int)+((nsI g.bef g.last.play).length : Int)≤_;omega)
  | skip
def sp_i_Game_lastFits (p:Pr):FSpec:=fsp (a1 (aA aGm)) (fun g=>PfQ g) (fun g=>.b (lastOkI g))
theorem ok_i_Game_lastFits:FOk Tryz.prog 86 (sp_i_Game_lastFits std):=by
 refine FOk.go (c:=cx std [(83,sp_i_within std),(183,sp_i_Game_playFits std)] [] 0) (cx_ok (.cons ok_i_within (.cons ok_i_Game_playFits .nil)) .nil) mixed Tryz.func86 rfl rfl rfl (by kernel_rfl) ?_
 rintro g hp
 refine⟨rfl,?_⟩
 unfold sp_i_within sp_i_Game_playFits
 generalize hP:std=p,hB0:lastOkI=B0,hB1:inR=B1,hB2:playOkI=B2
 cbv
 repeat' first|refine fun (_:Unit)=>?_;cbv|refine aI2 (fun h=>?_) (fun h=>?_)<;>cbv|refine aI2 ?_ ?_|refine Or.inl (fun (_:Unit)=>?_);cbv
 all_goals subst hP hB0 hB1 hB2
 all_goals try exact fin
 ·have k0:g.last.kind=0:=eqI_t ‹_›
  unfold lastOkI
  rw [if_pos k0];rfl
 ·have k0 : ¬g.last.kind=0:=eqI_f ‹_›
  have k2:g.last.kind=2:=eqI_t ‹_›
  unfold lastOkI
  rw [if_neg k0,if_pos (Or.inl k2),show inR g.last.player 0 1=true by assumption];rfl
 ·have k0 : ¬g.last.kind=0:=eqI_f ‹_›
  have k2:g.last.kind=2:=eqI_t ‹_›
  unfold lastOkI
  rw [if_neg k0,if_pos (Or.inl k2),show inR g.last.player 0 1=false by assumption];rfl
 ·have k0 : ¬g.last.kind=0:=eqI_f ‹_›
  have k2:g.last.kind=3:=eqI_t ‹_›
  unfold lastOkI
  rw [if_neg k0,if_pos (Or.inr k2),show inR g.last.player 0 1=true by assumption];rfl
 ·have k0 : ¬g.last.kind=0:=eqI_f ‹_›
  have k2:g.last.kind=3:=eqI_t ‹_›
  unfold lastOkI
  rw [if_neg k0,if_pos (Or.inr k2),show inR g.last.player 0 1=false by assumption];rfl
 all_goals have k0 : ¬g.last.kind=0:=eqI_f ‹_›
 all_goals have k2 : ¬g.last.kind=2:=eqI_f ‹_›
 all_goals have k3 : ¬g.last.kind=3:=eqI_f ‹_›
 all_goals unfold lastOkI
 all_goals rw [if_neg k0,if_neg (by rintro (h | h);exact k2 h;exact k3 h)]
 ·rw [if_pos (eqI_t ‹_›)]
 ·rw [if_neg (eqI_f ‹_›)]
theorem gameI (g:Gm):gameB g=(shapeB g&&(twoB g&&((sideB g 0&&sideB g 1)&&(tilesF g&&(lastOkI g&&(g.over||decide (g.zeros<6))))))):=by
 unfold gameB
 cases h1:shapeB g
 ·rfl
 cases h2:twoB g
 ·rfl
 cases h3:sideB g 0
 ·rfl
 cases h4:sideB g 1
 ·rfl
 unfold shapeB at h1
 unfold twoB at h2
 unfold sideB at h3 h4
 simp only [Bool.and_eq_true] at h1 h2 h3 h4
 have e1:tilesF g=(gameTiles g==allT g.ts):=by
  unfold tilesF
  rw [tiles_same h1.2.1 h1.2.2.2.2 h3.1 h4.1]
 rw [e1,lastOk_same h3.1 h4.1 h2.2.2.2.1]
theorem g_shape {g:Gm} (h:shapeB g=false):gameB g=false:=by rw [gameI,h];rfl
theorem g_two {g:Gm} (h:twoB g=false):gameB g=false:=by rw [gameI,h];simp
theorem g_side {g:Gm} {k:Int} (h0:0≤k) (h1:k<2) (h:sideB g k.toNat=false):gameB g=false:=by
 have : k=0∨k=1:=by omega
 rcases this with rfl | rfl
 ·have h:sideB g 0=false:=h
  rw [gameI,h];simp
 ·have h:sideB g 1=false:=h
  rw [gameI,h];simp
theorem g_end {g:Gm} (h1:shapeB g=true) (h2:twoB g=true) (h3:sideB g 0=true) (h4:sideB g 1=true):gameB g=(tilesF g&&(lastOkI g&&(g.over||decide (g.zeros<6)))):=by
 rw [gameI,h1,h2,h3,h4];rfl
structure GmQ (g:Gm):Prop where
 su:SuQ (gSu g)
 bd:BdP g.bd
 bag:g.bag.length≤274877906944
 rks : ∀k:Int,(g.racks.getD k.toNat []).length ≤274877906944
 wd:(g.last.play.word.length:Int)≤1073741824
 dr:g.last.drawn.length≤274877906944
 bf:BdP g.bef
theorem tfp_of {g:Gm} (h1:shapeB g=true) (h2:twoB g=true) (h3:sideB g 0=true) (h4:sideB g 1=true):TfP g:=by
 unfold shapeB setupB at h1
 unfold twoB at h2
 unfold sideB at h3 h4
 simp only [Bool.and_eq_true,decide_eq_true_eq] at h1 h2 h3 h4
 obtain⟨a1,a2,a3⟩:=tsB_all h1.1.1
 exact⟨⟨a1,a2,a3⟩,h1.2.1,h1.2.2.2.2,h2.1,h3.1,h4.1⟩
theorem pfq_of {g:Gm} (hp:GmQ g) (h1:shapeB g=true) (h2:twoB g=true) (h3:sideB g 0=true) (h4:sideB g 1=true):PfQ g:=by
 unfold shapeB setupB at h1
 unfold twoB at h2
 unfold sideB at h3 h4
 simp only [Bool.and_eq_true,decide_eq_true_eq] at h1 h2 h3 h4
 exact⟨tsB_ok h1.1.1,h2.1,h2.2.2.2.1,h3.1,h4.1,hp.bf,hp.wd,hp.dr⟩
def sp_i_ValidGame (p:Pr):FSpec:=fsp (a1 (aA aGm)) (fun g=>GmQ g) (fun g=>.b (gameB g))
theorem ok_i_ValidGame:FOk Tryz.prog 16 (sp_i_ValidGame std):=by
 refine FOk.go (c:=cx std [(14,sp_i_ValidSetup std),(81,sp_i_ValidBoard std),(68,sp_i_ValidBag std),(83,sp_i_within std),(84,sp_i_ValidRack std),(85,sp_i_Game_tilesFit std),(86,sp_i_Game_lastFits std)] [] 0) (cx_ok (.cons ok_i_ValidSetup (.cons ok_i_ValidBoard (.cons ok_i_ValidBag (.cons ok_i_within (.cons ok_i_ValidRack (.cons ok_i_Game_tilesFit (.cons ok_i_Game_lastFits .nil))))))) .nil) mixed Tryz.func16 rfl rfl rfl (by kernel_rfl) ?_
 rintro g hp
 refine⟨rfl,?_⟩
 unfold sp_i_ValidSetup sp_i_ValidBoard sp_i_ValidBag sp_i_within sp_i_ValidRack sp_i_Game_tilesFit sp_i_Game_lastFits
 obtain⟨H,hH⟩ : ∃H:Hd (Int),H=⟨fun k=>0≤k∧k≤2∧(0<k→sideB g 0=true)∧(1<k→sideB g 1=true),fun k=>(2-k).toNat,(· < ·)⟩:=⟨_,rfl⟩
 have hl:=hdl hH
 generalize hP:std=p,hB0:gameB=B0,hB1:suB=B1,hB2:bdB=B2,hB3:bagB=B3,hB4:inR=B4,hB5:rackB=B5,hB6:tilesF=B6,hB7:lastOkI=B7
 cbv
 repeat' first|refine fun (_:Unit)=>?_;cbv|refine Or.inr ⟨66,[],[.s 65 (.i .i64)],[],[],H,rfl,hl,?_,fun (k:Int) hk=>?_⟩<;>cbv|refine aI2 (fun h=>?_) (fun h=>?_)<;>cbv|refine aI2 ?_ ?_
 all_goals subst hP hB0 hB1 hB2 hB3 hB4 hB5 hB6 hB7 hH
 all_goals clear hl
 all_goals try dsimp only at hk
 all_goals try dsimp only
 all_goals try exact fin
 all_goals try (have hs:shapeB g=true:=by rw [shapeE];simp only [*,Bool.not_false,Bool.true_and,Bool.and_true])
 all_goals try (have hr2:g.racks.length=2:=by have:=(len2 g.racks).symm.trans (show std.eqI (std.len g.racks) 2=true by assumption);simpa using this)
 all_goals try (obtain⟨q0,q1,q2,q3⟩:=hk)
 all_goals try (have hlt:k<2:=by have h7:k<(g.racks.length:Int):=lt_of ‹_›;omega)
 all_goals try (have hge:2≤k:=by have h7:(g.racks.length:Int)≤k:=ge_of ‹_›;omega)
 all_goals try (have hsd0:=q2 (by omega);have hsd1:=q3 (by omega))
 all_goals try (have htw:twoB g=true:=by rw [twoE];simp only [*,Bool.not_false,Bool.true_and,Bool.and_true])
 all_goals first
  | exact hp.su
  | exact ltM_of hp.bag
  | exact ltM_of (hp.rks k)
  | (refine g_shape ?_;rw [shapeE];simp only [*,Bool.not_false,Bool.true_and,Bool.false_and];done)
  | (refine g_two ?_;rw [twoE];simp only [*,Bool.not_false,Bool.true_and,Bool.false_and,Bool.and_false];done)
  | exact g_side q0 hlt (side_n1 ‹_›)
  | exact g_side q0 hlt (side_n2 q0 ‹_›)
  | exact g_side q0 hlt (side_n3 q0 ‹_›)
  | exact side_suc q0 hlt q2 q3 ‹_› ‹_› ‹_›
  | exact tfp_of hs htw hsd0 hsd1
  | exact pfq_of hp hs htw hsd0 hsd1
  | (rw [g_end hs htw hsd0 hsd1,show g.over=false by assumption,z_full ‹_›];simp;done)
  | (rw [g_end hs htw hsd0 hsd1];show lastOkI g=_;rw [show tilesF g=true by assumption,show g.over=true by assumption];simp;done)
  | (rw [g_end hs htw hsd0 hsd1,show tilesF g=true by assumption,z_less ‹_› ‹_›];simp;done)
  | (rw [g_end hs htw hsd0 hsd1,show tilesF g=false by assumption];rfl)
  | skip
structure GmF (g:Gm):Prop where
 s:g.scores.length=2
 k:g.clocks.length=2
 r:g.racks.length=2
 ply:inR g.player 0 1=true
 clk : ∀k:Int,0≤k→k<2→inR (g.clk k) (-36000) 36000=true
theorem gm_facts {g:Gm} (h:gameB g=true):GmF g:=by
 unfold gameB twoB sideB at h
 simp only [Bool.and_eq_true,decide_eq_true_eq] at h
 refine⟨h.2.1.2.1,h.2.1.2.2.1,h.2.1.1,h.2.1.2.2.2.1,fun k h0 h1=>?_⟩
 have : k=0∨k=1:=by omega
 rcases this with rfl | rfl
 ·exact h.2.2.1.1.2.2
 ·exact h.2.2.1.2.2.2
theorem act_over {g:Gm} {n:Int} (h:gameB g=true) (ho:g.over=true):actC g n=10:=by
 unfold actC;rw [if_pos h,if_pos ho]
theorem act_2a {g:Gm} {n:Int} (h:gameB g=true) (ho:g.over=false) (hn:inR n 0 36000=false):actC g n=2:=by
 unfold actC;rw [if_pos h,if_neg (by rw [ho];simp),hn,if_neg (by simp)]
theorem act_2b {g:Gm} {n:Int} (h:gameB g=true) (ho:g.over=false) (hn:std.ltI (g.clk g.player-n) (-36000)=true):actC g n=2:=by
 have h1:=lt_of hn
 unfold actC;rw [if_pos h,if_neg (by rw [ho];simp),decide_eq_false (by omega),Bool.and_false,if_neg (by simp)]
theorem act_go {g:Gm} {n:Int} (h:gameB g=true) (ho:g.over=false) (hi:inR n 0 36000=true) (hn:std.ltI (g.clk g.player-n) (-36000)=false):actC g n=if inR (g.sc 0) (-50000) 50000&&inR (g.sc 1) (-50000) 50000 then 0 else 5:=by
 have h1:=ge_of hn
 unfold actC;rw [if_pos h,if_neg (by rw [ho];simp),hi,decide_eq_true (by omega)];rfl
theorem act_k {a b:Bool} {k:Int} (h0:0≤k) (h1:k<2) (ha:k=0→a=false) (hb:k=1→b=false):(if (a&&b)=true then (0:Int) else 5)=5:=by
 have : k=0∨k=1:=by omega
 rcases this with h | h
 ·rw [ha h];rfl
 ·rw [hb h,Bool.and_false];rfl
def sp_i_actionCode (p:Pr):FSpec:=fsp (ac (aA aGm) (a1 aI)) (fun (g,n)=>GmQ g) (fun (g,n)=>.i .i64 (actC g n))
theorem ok_i_actionCode:FOk Tryz.prog 99 (sp_i_actionCode std):=by
 refine FOk.go (c:=cx std [(16,sp_i_ValidGame std),(83,sp_i_within std)] [] 0) (cx_ok (.cons ok_i_ValidGame (.cons ok_i_within .nil)) .nil) mixed Tryz.func99 rfl rfl rfl (by kernel_rfl) ?_
 rintro ⟨g,n⟩ hp
 dsimp only at hp
 refine⟨rfl,?_⟩
 unfold sp_i_ValidGame sp_i_within
 obtain⟨H,hH⟩ : ∃H:Hd (Int),H=⟨fun k=>0≤k∧k≤2∧(0<k→inR (g.scores.getD 0 0) (-50000) 50000=true)∧(1<k→inR (g.scores.getD 1 0) (-50000) 50000=true),fun k=>(2-k).toNat,(· < ·)⟩:=⟨_,rfl⟩
 have hl:=hdl hH
 generalize hP:std=p,hB0:actC=B0,hB1:gameB=B1,hB2:inR=B2
 cbv
 repeat' first|refine fun (_:Unit)=>?_;cbv|refine Or.inr ⟨33,[],[.s 32 (.i .i64)],[],[],H,rfl,hl,?_,fun (k:Int) hk=>?_⟩<;>cbv|refine aI2 (fun h=>?_) (fun h=>?_)<;>cbv|refine aI2 ?_ ?_
 all_goals subst hP hB0 hB1 hB2 hH
 all_goals clear hl
 all_goals try dsimp only at hk
 all_goals try dsimp only
 all_goals try exact fin
 all_goals try (have hf:=gm_facts (show gameB g=true by assumption))
 all_goals try (have hpl:=in_bd hf.ply)
 all_goals try (have hck:=in_bd (hf.clk g.player hpl.1 (by omega)))
 all_goals try (have hn:=in_bd (show inR n 0 36000=true by assumption))
 all_goals try (obtain⟨q0,q1,q2,q3⟩:=hk)
 all_goals try (have hss:=hf.s)
 all_goals try (have hlt:k<2:=by have h7:k<(g.scores.length:Int):=lt_of ‹_›;omega)
 all_goals try (have hge:2≤k:=by have h7:(g.scores.length:Int)≤k:=ge_of ‹_›;omega)
 ·unfold actC;rw [if_neg (by rw [show gameB g=false by assumption];simp)]
 ·rw [act_over ‹_› ‹_›]
 ·exact⟨hpl.1,by show g.player<(g.clocks.length:Int);have:=hf.k;omega⟩
 ·exact in64 (by show _≤g.clk g.player-n∧g.clk g.player-n≤_;omega)
 ·rw [act_2b ‹_› ‹_› ‹_›]
 ·have hb:inR (g.sc k) (-50000) 50000=false:=by assumption
  rw [act_go ‹_› ‹_› ‹_› ‹_›,act_k q0 hlt (fun e=>by rw [←e];exact hb) (fun e=>by rw [←e];exact hb)]
 ·have hb:inR (g.sc k) (-50000) 50000=true:=by assumption
  have : k=0∨k=1:=by omega
  rcases this with rfl | rfl
  ·exact⟨by decide,by decide,fun _=>hb,fun h=>absurd h (by decide)⟩
  ·exact⟨by decide,by decide,fun _=>q2 (by decide),fun _=>hb⟩
 ·show (2-(k+1)).toNat < (2-k).toNat
  omega
 ·have a0:inR (g.sc 0) (-50000) 50000=true:=q2 (by omega)
  have a1:inR (g.sc 1) (-50000) 50000=true:=q3 (by omega)
  rw [act_go ‹_› ‹_› ‹_› ‹_›,a0,a1];rfl
 ·rw [act_2a ‹_› ‹_› ‹_›]
def tdI (a b:List UInt8):Int:=min (7-(b.length:Int)) (a.length:Int)
structure TdP (a b:List UInt8):Prop where
 a:a.length≤274877906944
 b:b.length≤274877906944
def sp_i_toDraw (p:Pr):FSpec:=fsp (ac aS (a1 aS)) (fun (a,b)=>TdP a b) (fun (a,b)=>.i .i64 (tdI a b))
theorem ok_i_toDraw:FOk Tryz.prog 118 (sp_i_toDraw std):=by
 refine FOk.go (c:=cx std [] [] 0) (cx_ok .nil .nil) mixed Tryz.func118 rfl rfl rfl (by kernel_rfl) ?_
 rintro ⟨a,b⟩ hp
 dsimp only at hp
 refine⟨rfl,?_⟩
 generalize hP:std=p,hB0:tdI=B0
 cbv
 repeat' first|refine fun (_:Unit)=>?_;cbv|refine aI2 (fun h=>?_) (fun h=>?_)<;>cbv|refine aI2 ?_ ?_|refine Or.inl (fun (_:Unit)=>?_);cbv
 all_goals subst hP hB0
 all_goals try exact fin
 ·have h1:=hp.b
  exact in64 (by show _≤7-(b.length:Int)∧7-(b.length:Int)≤_;omega)
def sp_i_penalty (p:Pr):FSpec:=fsp (a1 aI) (fun n=>p.leP (-36000) n) (fun n=>.i .i64 (pen n))
theorem ok_i_penalty:FOk Tryz.prog 97 (sp_i_penalty std):=by
 refine FOk.go (c:=cx std [] [] 0) (cx_ok .nil .nil) mixed Tryz.func97 rfl rfl rfl (by kernel_rfl) ?_
 rintro n hp
 refine⟨rfl,?_⟩
 generalize hP:std=p,hB0:pen=B0
 cbv
 repeat' first|refine fun (_:Unit)=>?_;cbv|refine aI2 (fun h=>?_) (fun h=>?_)<;>cbv|refine aI2 ?_ ?_|refine Or.inl (fun (_:Unit)=>?_);cbv
 all_goals subst hP hB0
 all_goals try exact fin
 ·simp [std] at h;simp [pen,h]
 ·simp [std] at h
  have h1 : ¬0≤n:=by omega
  have h2:(59-n).tdiv 60=(59-n)/60:=Int.tdiv_eq_ediv_of_nonneg (by omega)
  have h3:(0-n+59)=59-n:=by omega
  simp [std,pen,h1]
  first | (rw [←h2];congr 2;omega) | (rw [show -n+59=59-n by omega,h2]) | (rw [h3,h2])
def sp_i_Game_finalChange_o (p:Pr):FSpec:=fsp (a1 (aA aGm)) (fun g=>EndP g) (fun g=>.osl 0) (fun g=>[(0,.own [.i .i64] (chgs g) 2)])
theorem ok_i_Game_finalChange_o:FOk Tryz.prog 94 (sp_i_Game_finalChange_o std):=by
 refine FOk.go (c:=cx std [(190,sp_i_lettersValue std),(97,sp_i_penalty std)] [] 0) (cx_ok (.cons ok_i_lettersValue (.cons ok_i_penalty .nil)) .nil) mixed Tryz.func94 rfl rfl rfl (by kernel_rfl) ?_
 rintro g hp
 refine⟨rfl,?_⟩
 unfold sp_i_lettersValue sp_i_penalty
 obtain⟨H,hH⟩ : ∃H:Hd (Int×List Int),H=⟨fun (k,L)=>0≤k∧k≤2∧L=(chgs g).take k.toNat,fun (k,L)=>(2-k).toNat,(· < ·)⟩:=⟨_,rfl⟩
 have hl:=hdl hH
 generalize hP:std=p,hB0:chgs=B0,hB1:sumT=B1,hB2:pen=B2
 cbv
 repeat' first|refine fun (_:Unit)=>?_;cbv|refine Or.inr ⟨12,[],[.s 11 (.i .i64),.o 1 [.i .i64]],[.s 3],[],H,rfl,hl,?_,fun ((k,L):Int×List Int) hk=>?_⟩<;>cbv|refine aI2 (fun h=>?_) (fun h=>?_)<;>cbv|refine aI2 ?_ ?_
 all_goals subst hP hB0 hB1 hB2 hH
 all_goals clear hl
 all_goals try dsimp only at hk
 all_goals try dsimp only
 all_goals try exact fin
 all_goals obtain⟨q0,q1,rfl⟩:=hk
 all_goals have a1:=e_sum hp k
 all_goals have a2:=e_pen hp k
 all_goals have a3:=e_sum hp (1-k)
 all_goals have a4:=hp.rk
 all_goals have a5:=hp.ck
 all_goals have a6:=hp.len k
 all_goals have a7:=hp.len (1-k)
 all_goals have a8:=hp.clk k
 all_goals try (have h1:k<2:=by have h7:k<(g.racks.length:Int):=lt_of ‹_›;omega)
 ·exact ltM_of (n:=(g.rk k).length) (by omega)
 ·exact in64 (by show _≤0-sumT g.ts (g.rk k)∧0-sumT g.ts (g.rk k)≤_;omega)
 ·exact⟨q0,by show k<(g.clocks.length:Int);omega⟩
 ·exact a8
 ·exact in64 (by show _≤0-sumT g.ts (g.rk k)-pen (g.clk k)∧0-sumT g.ts (g.rk k)-pen (g.clk k)≤_;omega)
 ·exact⟨by show 0≤1-k;omega,by show 1-k<(g.racks.length:Int);omega⟩
 ·exact ltM_of (n:=(g.rk (1-k)).length) (by omega)
 ·exact in64 (by show _≤0-sumT g.ts (g.rk k)-pen (g.clk k)+sumT g.ts (g.rk (1-k))∧0-sumT g.ts (g.rk k)-pen (g.clk k)+sumT g.ts (g.rk (1-k))≤_;omega)
 ·show (((chgs g).take k.toNat).length : Int)+1≤_
  rw [List.length_take];omega
 ·refine⟨by show 0≤k+1;omega,by show k+1≤2;omega,?_⟩
  show (chgs g).take k.toNat++[0-sumT g.ts (g.rk k)-pen (g.clk k)+sumT g.ts (g.rk (1-k))]=(chgs g).take (k+1).toNat
  rw [e_yes (k:=k) ‹_›,chgs_step q0 h1]
 ·show (2-(k+1)).toNat < (2-k).toNat
  omega
 ·show (((chgs g).take k.toNat).length : Int)+1≤_
  rw [List.length_take];omega
 ·refine⟨by show 0≤k+1;omega,by show k+1≤2;omega,?_⟩
  show (chgs g).take k.toNat++[0-sumT g.ts (g.rk k)-pen (g.clk k)]=(chgs g).take (k+1).toNat
  rw [e_no (k:=k) ‹_›,chgs_step q0 h1]
 ·show (2-(k+1)).toNat < (2-k).toNat
  omega
 ·have h7:(g.racks.length:Int)≤k:=ge_of ‹_›
  rw [tk_all (show ((chgs g).length : Int)≤k by show (2:Int)≤k;omega)]
def frR (a b:List UInt8):List UInt8:=if bagB a&&rackB b then pileL (countsL (b++a.take (tdI a b).toNat)) else []
def frB (a b:List UInt8):List UInt8:=if bagB a&&rackB b then a.drop (tdI a b).toNat else []
def frC (a b:List UInt8):Int:=if bagB a&&rackB b then 0 else 1
theorem td_bd {a b:List UInt8} (h:rackB b=true):0≤tdI a b∧tdI a b≤a.length∧tdI a b≤7:=by
 have:=rack_len h
 unfold tdI;omega
theorem fr_stp {a b:List UInt8} {n:Nat} (ha:bagB a=true) (hb:rackB b=true):StP (b++a.take n):=by
 have h1:=(bag_stp ha).ti
 have h2:=(rack_stp hb).ti
 have h3:=bag_len ha
 have h4:=rack_len hb
 refine⟨?_,by rw [List.length_append,List.length_take];omega⟩
 rw [List.all_append,h2,Bool.true_and]
 exact List.all_eq_true.2 fun x hx=>List.all_eq_true.1 h1 x (List.mem_of_mem_take hx)
def sp_i_FillRack (p:Pr):FSpec:=fsp (ac aS (a1 aS)) (fun (a,b)=>TdP a b) (fun (a,b)=>.tup [.s (frR a b),.s (frB a b),.i .i64 (frC a b)])
theorem ok_i_FillRack:FOk Tryz.prog 120 (sp_i_FillRack std):=by
 refine FOk.go (c:=cx std [(68,sp_i_ValidBag std),(84,sp_i_ValidRack std),(118,sp_i_toDraw std),(69,sp_i_sorted std)] [] 0) (cx_ok (.cons ok_i_ValidBag (.cons ok_i_ValidRack (.cons ok_i_toDraw (.cons ok_i_sorted .nil)))) .nil) mixed Tryz.func120 rfl rfl rfl (by kernel_rfl) ?_
 rintro ⟨a,b⟩ hp
 dsimp only at hp
 refine⟨rfl,?_⟩
 unfold sp_i_ValidBag sp_i_ValidRack sp_i_toDraw sp_i_sorted
 generalize hP:std=p,hB0:frR=B0,hB1:frB=B1,hB2:frC=B2,hB3:tdI=B3,hB4:bagB=B4,hB5:rackB=B5,hB6:pileL=B6,hB7:countsL=B7
 cbv
 repeat' first|refine fun (_:Unit)=>?_;cbv|refine aI2 (fun h=>?_) (fun h=>?_)<;>cbv|refine aI2 ?_ ?_|refine Or.inl (fun (_:Unit)=>?_);cbv
 all_goals subst hP hB0 hB1 hB2 hB3 hB4 hB5 hB6 hB7
 all_goals try exact fin
 all_goals try (have hr:rackB b=true:=‹_›;have ht:=td_bd (a:=a) hr;have hrl:=rack_len hr)
 all_goals try (have hb:bagB a=true:=‹_›;have hbl:=bag_len hb)
 all_goals try (have hn:rackB b=false:=by assumption)
 all_goals try (have hm:bagB a=false:=by assumption)
 ·exact ltM_of hp.a
 ·exact ltM_of hp.b
 ·unfold frR;rw [hn];simp
 ·unfold frB;rw [hn];simp
 ·unfold frC;rw [hn];simp
 ·exact ht.1
 ·exact ht.2.1
 ·have h5:(a.take (tdI a b).toNat).length ≤a.length:=by rw [List.length_take];omega
  exact in64 (by show _≤(b.length:Int)+((a.take (tdI a b).toNat).length : Int)∧(b.length:Int)+((a.take (tdI a b).toNat).length : Int)≤_;omega)
 ·exact fr_stp hb hr
 ·exact ht.1
 ·exact ht.2.1
 ·unfold frR;rw [hb,hr];rfl
 ·unfold frB;rw [hb,hr];rfl
 ·unfold frC;rw [hb,hr];rfl
 ·unfold frR;rw [hm];simp
 ·unfold frB;rw [hm];simp
 ·unfold frC;rw [hm];simp
structure TcP (t:TS):Prop where
 v:(t.values.length:Int)≤1073741824
 c:(t.counts.length:Int)≤1073741824
def sp_i_copyTiles (p:Pr):FSpec:=fsp (a1 (aA aTs)) (fun t=>TcP t) (fun t=>.agg (tsK t (.osl 0) (.osl 1))) (fun t=>[(0,.own [.i .i64] t.values 2),(1,.own [.i .i64] t.counts 2)])
theorem ok_i_copyTiles:FOk Tryz.prog 169 (sp_i_copyTiles std):=by
 refine FOk.go (c:=cx std [(209,sp_cloneN std)] [] 0) (cx_ok (.cons ok_cloneN .nil) .nil) mixed Tryz.func169 rfl rfl rfl (by kernel_rfl) ?_
 rintro t hp
 refine⟨rfl,?_⟩
 unfold sp_cloneN
 generalize hP:std=p
 cbv
 repeat' first|refine fun (_:Unit)=>?_;cbv|refine aI2 (fun h=>?_) (fun h=>?_)<;>cbv|refine aI2 ?_ ?_|refine Or.inl (fun (_:Unit)=>?_);cbv
 all_goals subst hP
 all_goals try exact fin
 ·exact hp.v
 ·exact hp.c
def sp_i_copyLexicon (p:Pr):FSpec:=fsp (a1 (aA aLex)) (fun ws=>p.leP (p.len ws) 1073741824) (fun ws=>.agg [.osl 0]) (fun ws=>[(0,.own [.s] ws 9)])
theorem ok_i_copyLexicon:FOk Tryz.prog 170 (sp_i_copyLexicon std):=by
 refine FOk.go (c:=cx std [(208,sp_cloneW std)] [] 0) (cx_ok (.cons ok_cloneW .nil) .nil) mixed Tryz.func170 rfl rfl rfl (by kernel_rfl) ?_
 rintro ws hp
 refine⟨rfl,?_⟩
 unfold sp_cloneW
 generalize hP:std=p
 cbv
 repeat' first|refine fun (_:Unit)=>?_;cbv|refine aI2 (fun h=>?_) (fun h=>?_)<;>cbv|refine aI2 ?_ ?_|refine Or.inl (fun (_:Unit)=>?_);cbv
 all_goals subst hP
 all_goals try exact fin
structure SuC (u:Su):Prop where
 ts:TcP u.ts
 l:(u.lex.length:Int)≤1073741824
def sp_i_copySetup (p:Pr):FSpec:=fsp (a1 (aA aSu)) (fun u=>SuC u) (fun u=>.agg (suK u (.osl 0) (.osl 1) (.osl 2))) (fun u=>[(0,.own [.i .i64] u.ts.values 2),(1,.own [.i .i64] u.ts.counts 2),(2,.own [.s] u.lex 9)])
theorem ok_i_copySetup:FOk Tryz.prog 71 (sp_i_copySetup std):=by
 refine FOk.go (c:=cx std [(169,sp_i_copyTiles std),(170,sp_i_copyLexicon std)] [] 0) (cx_ok (.cons ok_i_copyTiles (.cons ok_i_copyLexicon .nil)) .nil) mixed Tryz.func71 rfl rfl rfl (by kernel_rfl) ?_
 rintro u hp
 refine⟨rfl,?_⟩
 unfold sp_i_copyTiles sp_i_copyLexicon
 generalize hP:std=p
 cbv
 repeat' first|refine fun (_:Unit)=>?_;cbv|refine aI2 (fun h=>?_) (fun h=>?_)<;>cbv|refine aI2 ?_ ?_|refine Or.inl (fun (_:Unit)=>?_);cbv
 all_goals subst hP
 all_goals try exact fin
 ·exact hp.l
structure GcP (g:Gm):Prop where
 su:SuC (gSu g)
 r:(g.racks.length:Int)≤1073741824
 s:(g.scores.length:Int)≤1073741824
 k:(g.clocks.length:Int)≤1073741824
def sp_i_copyGame (p:Pr):FSpec:=fsp (a1 (aA aGm)) (fun g=>GcP g) (fun g=>.ptr 0 0) (fun g=>gmH g)
theorem ok_i_copyGame:FOk Tryz.prog 114 (sp_i_copyGame std):=by
 refine FOk.go (c:=cx std [(71,sp_i_copySetup std),(209,sp_cloneN std),(208,sp_cloneW std)] [] 0) (cx_ok (.cons ok_i_copySetup (.cons ok_cloneN (.cons ok_cloneW .nil))) .nil) mixed Tryz.func114 rfl rfl rfl (by kernel_rfl) ?_
 rintro g hp
 refine⟨rfl,?_⟩
 unfold sp_i_copySetup sp_cloneN sp_cloneW
 generalize hP:std=p
 cbv
 repeat' first|refine fun (_:Unit)=>?_;cbv|refine aI2 (fun h=>?_) (fun h=>?_)<;>cbv|refine aI2 ?_ ?_|refine Or.inl (fun (_:Unit)=>?_);cbv
 all_goals subst hP
 all_goals try exact fin
 all_goals first | exact hp.su | exact hp.r | exact hp.s | exact hp.k | skip
end Ax
end Go.Proofs.YtjjonmhpgkahoaaGreatDoor
