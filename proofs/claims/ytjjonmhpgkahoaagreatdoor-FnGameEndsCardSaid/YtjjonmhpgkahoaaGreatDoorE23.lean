/-
  Parts of scores and scores of plays, of the impl package.
  Conditions: none.
-/
import Derived.Test.YtjjonmhpgkahoaaGreatDoorE22
set_option linter.unusedSimpArgs false
set_option linter.unusedVariables false
namespace Go.Proofs.YtjjonmhpgkahoaaGreatDoor
namespace Ax
set_option maxRecDepth 100000
set_option maxHeartbeats 2000000
def partJ (t:TS) (b:Bd) (q:Pl) (j:Int):List Int:=((lsI t b q).sum * wfL (pusI b q))::((crossP b q (newL b q)).take j.toNat).map (crI t b q)
def cqS (t:TS) (b:Bd) (q:Pl) (j k:Int):Int:=(((crSq b q j).take k.toNat).map (sqI t b (madeB b q) ((crS1 b q).getD j.toNat (0,0)))).sum
section
variable {t:TS} {b:Bd} {q:Pl} {j k:Int}
theorem cr1_len:(crS1 b q).length =(crS2 b q).length :=by unfold crS1 crS2;rw [List.length_map,List.length_map]
theorem cr1_in (hp:VP b q) (h0:0≤j) (h:j<(crS2 b q).length):b.inB ((crS1 b q).getD j.toNat (0,0)).1 ((crS1 b q).getD j.toNat (0,0)).2=true:=by
 have h1:j.toNat<(crS1 b q).length :=by rw [cr1_len];omega
 rw [List.getD_eq_getElem?_getD,List.getElem?_eq_getElem h1]
 obtain⟨x,h2,h3⟩:=List.mem_map.1 (List.getElem_mem h1)
 show b.inB ((crS1 b q)[j.toNat]).1 ((crS1 b q)[j.toNat]).2=true
 rw [←h3]
 unfold crossP at h2
 obtain⟨s,h4,rfl⟩:=List.mem_map.1 (List.mem_filter.1 h2).1
 unfold sqL at h4
 obtain⟨n,h5,rfl⟩:=List.mem_map.1 h4
 unfold newL newTo at h5
 exact hp.on n (List.mem_range.1 (List.mem_filter.1 h5).1)
theorem sqI_bd (h:TsOk t) (M:Bd) (a s:Int×Int):0≤sqI t b M a s∧sqI t b M a s≤60:=by
 unfold sqI
 have h1:=h.lo (M.cell s.1 s.2)
 have h2:=h.hi (M.cell s.1 s.2)
 have h3:=ltF_bd (b.prm a.1 a.2)
 split
 ·have h4:=Int.mul_nonneg (show 0≤ltF (b.prm a.1 a.2) by omega) h1
  have h5:=Int.mul_le_mul h3.2 h2 h1 (by decide)
  omega
 ·omega
theorem lsI_bd (h:TsOk t) : ∀x∈lsI t b q,0≤x∧x≤60:=by
 intro x hx
 obtain⟨i, -,rfl⟩:=List.mem_map.1 hx
 have h1:=h.lo (q.word.getD i 0)
 have h2:=h.hi (q.word.getD i 0)
 have h3:=ltF_bd (b.prm (q.sr i) (q.sc i))
 split
 ·omega
 ·have h4:=Int.mul_nonneg (show 0≤ltF (b.prm (q.sr i) (q.sc i)) by omega) h1
  have h5:=Int.mul_le_mul h3.2 h2 h1 (by decide)
  omega
theorem cqS_suc (h0:0≤k) (h:k<(crSq b q j).length):cqS t b q j (k+1)=cqS t b q j k+sqI t b (madeB b q) ((crS1 b q).getD j.toNat (0,0)) ((crSq b q j).getD k.toNat (0,0)):=by
 unfold cqS
 rw [tk h0 h (0,0),List.map_append,List.sum_append]
 simp
theorem cqS_bd (h:TsOk t) (h0:0≤k):0≤cqS t b q j k∧cqS t b q j k≤60*32:=by
 have h1:=sum_bd (M:=60) (((crSq b q j).take k.toNat).map (sqI t b (madeB b q) ((crS1 b q).getD j.toNat (0,0)))) (fun x hx=>by
  obtain⟨s, -,rfl⟩:=List.mem_map.1 hx
  exact sqI_bd h _ _ _)
 have h2:(crSq b q j).length ≤32:=cr2_at j.toNat
 rw [List.length_map,List.length_take] at h1
 unfold cqS
 omega
theorem cqS_end (h0:0≤j) (hj:j<(crS2 b q).length) (h:((crSq b q j).length : Int)≤k):cqS t b q j k*wfL [b.prm ((crS1 b q).getD j.toNat (0,0)).1 ((crS1 b q).getD j.toNat (0,0)).2]=crI t b q ((crossP b q (newL b q)).getD j.toNat ((0,0),[])):=by
 have h1:j.toNat<(crossP b q (newL b q)).length :=by unfold crS2 at hj;rw [List.length_map] at hj;omega
 unfold cqS crI crSq crS1 crS2
 have e1:((crossP b q (newL b q)).map (·.1)).getD j.toNat (0,0)=((crossP b q (newL b q)).getD j.toNat ((0,0),[])).1:=by
  rw [List.getD_eq_getElem?_getD,List.getElem?_map,List.getElem?_eq_getElem h1,List.getD_eq_getElem?_getD,List.getElem?_eq_getElem h1];rfl
 have e2:((crossP b q (newL b q)).map (·.2)).getD j.toNat []=((crossP b q (newL b q)).getD j.toNat ((0,0),[])).2:=by
  rw [List.getD_eq_getElem?_getD,List.getElem?_map,List.getElem?_eq_getElem h1,List.getD_eq_getElem?_getD,List.getElem?_eq_getElem h1];rfl
 have e3:(crSq b q j).take k.toNat=crSq b q j:=List.take_of_length_le (by omega)
 unfold crSq crS2 at e3
 rw [e3,e1,e2]
theorem partJ_suc (h0:0≤j) (h:j<(crS2 b q).length):partJ t b q (j+1)=partJ t b q j++[crI t b q ((crossP b q (newL b q)).getD j.toNat ((0,0),[]))]:=by
 have h1:j<(crossP b q (newL b q)).length :=by unfold crS2 at h;rw [List.length_map] at h;omega
 unfold partJ
 rw [tk h0 h1 ((0,0),[]),List.map_append];rfl
theorem partJ_end (h:((crS2 b q).length : Int)≤j):partJ t b q j=partsI t b q:=by
 unfold partJ partsI
 rw [List.take_of_length_le (by unfold crS2 at h;rw [List.length_map] at h;omega)]
theorem partJ_len (hp:VP b q):(partJ t b q j).length ≤13:=by
 have:=cr2_len hp
 unfold crS2 at this
 rw [List.length_map] at this
 unfold partJ
 rw [List.length_cons,List.length_map,List.length_take];omega
theorem pus_len' (hp:VP b q):(pusI b q).length ≤12:=by
 have hn:=newTo_length b q q.word.length
 have hw:=hp.hi
 unfold pusI newL
 rw [List.length_map];omega
theorem main_bd (h:TsOk t) (hp:VP b q):0≤(lsI t b q).sum * wfL (pusI b q)∧(lsI t b q).sum * wfL (pusI b q)≤720*14348907:=by
 have h1:=sum_bd (lsI t b q) (lsI_bd (b:=b) (q:=q) h)
 have h2:=wfL_all (l:=pusI b q) (by have:=pus_len' hp;omega)
 have h3:=lsI_len t b q
 have h4:=hp.hi
 have h5:=Int.mul_nonneg h1.1 (show 0≤wfL (pusI b q) by omega)
 have h6:(lsI t b q).sum * wfL (pusI b q)≤720*14348907:=Int.mul_le_mul (by omega) h2.2 (by omega) (by omega)
 exact⟨h5,h6⟩
theorem wf1 (c:UInt8):wfL [c]=wdF c:=by simp [wfL]
theorem crI_bd (h:TsOk t) (x:(Int×Int)×List (Int×Int)) (hx:x.2.length≤32):0≤crI t b q x∧crI t b q x≤5760:=by
 have h1:=sum_bd (M:=60) (x.2.map (sqI t b (madeB b q) x.1)) (fun y hy=>by
  obtain⟨s, -,rfl⟩:=List.mem_map.1 hy
  exact sqI_bd h _ _ _)
 rw [List.length_map] at h1
 have h2:=wdF_bd (b.prm x.1.1 x.1.2)
 unfold crI
 rw [wf1]
 have h3:=Int.mul_nonneg h1.1 (show 0≤wdF (b.prm x.1.1 x.1.2) by omega)
 have h4:(x.2.map (sqI t b (madeB b q) x.1)).sum * wdF (b.prm x.1.1 x.1.2)≤1920*3:=Int.mul_le_mul (by omega) h2.2 (by omega) (by omega)
 omega
theorem partsI_bd (h:TsOk t) (hp:VP b q) : ∀x∈partsI t b q,0≤x∧x≤720*14348907:=by
 intro x hx
 rcases List.mem_cons.1 hx with rfl | hx
 ·exact main_bd h hp
 ·obtain⟨y,h1,rfl⟩:=List.mem_map.1 hx
  have:=crI_bd (b:=b) (q:=q) h y (crossP_seq b q _ y h1)
  omega
theorem cq_let {x:UInt8} : std.inK .u8 (x.toNat:Int):=by
 have:=u8_lt x
 exact⟨this.1,by show (x.toNat:Int)≤255;omega⟩
theorem sq_eq {s a:Int×Int} {x:Bool} (h:std.and (std.eqI s.1 a.1) (std.eqI s.2 a.2)=x):(s==a)=x:=by
 rw [←h];rfl
theorem sqI_yes {M:Bd} {s a:Int×Int} (h:(s==a)=true):sqI t b M a s=lscI t (celV M s.1 s.2) (prmV b a.1 a.2):=by
 unfold sqI lscI celV prmV
 rw [if_pos h,u8_cast,u8_cast]
theorem sqI_no {M:Bd} {s a:Int×Int} (h:(s==a)=false):sqI t b M a s=valT t (u8 (celV M s.1 s.2)):=by
 unfold sqI celV
 rw [if_neg (by rw [h];simp),u8_cast]
theorem wfV_one (b:Bd) (r c:Int):wfV [prmV b r c]=wfL [b.prm r c]:=by
 rw [←wfV_to];rfl
theorem crI_bd' (h:TsOk t) (h0:0≤j) (hj:j<(crS2 b q).length):0≤crI t b q ((crossP b q (newL b q)).getD j.toNat ((0,0),[]))∧crI t b q ((crossP b q (newL b q)).getD j.toNat ((0,0),[]))≤5760:=by
 have h1:j.toNat<(crossP b q (newL b q)).length :=by unfold crS2 at hj;rw [List.length_map] at hj;omega
 rw [List.getD_eq_getElem?_getD,List.getElem?_eq_getElem h1]
 exact crI_bd h _ (crossP_seq b q _ _ (List.getElem_mem h1))
end
def sp_i_scoreParts (p:Pr):FSpec:=fsp (ac (aA aTs) (ac (aA aBd) (a1 (aA aPl)))) (fun (t,b,q)=>LsQ t b q) (fun (t,b,q)=>.rsl [.i .i64] (partsI t b q))
def sp_i_scoreParts_o (p:Pr):FSpec:=fsp (ac (aA aTs) (ac (aA aBd) (a1 (aA aPl)))) (fun (t,b,q)=>LsQ t b q) (fun (t,b,q)=>.osl 0) (fun (t,b,q)=>[(0,.own [.i .i64] (partsI t b q) 2)])
theorem ok_i_scoreParts_o:FOk Tryz.prog 207 (sp_i_scoreParts_o std):=by
 refine FOk.go (c:=cx std [(263,sp_i_letterScores std),(265,sp_i_premiumsUsed std),(264,sp_i_wordFactor std),(119,sp_i_made std),(261,sp_i_crossings std),(266,sp_i_Board_premium std),(259,sp_i_Board_cell std),(267,sp_lsc std),(252,sp_i_valueOf std)] [] 0) (cx_ok (.cons ok_i_letterScores (.cons ok_i_premiumsUsed (.cons ok_i_wordFactor (.cons ok_i_made (.cons ok_i_crossings (.cons ok_i_Board_premium (.cons ok_i_Board_cell (.cons ok_lsc (.cons ok_i_valueOf .nil))))))))) .nil) mixed Tryz.func207 rfl rfl rfl (by kernel_rfl) ?_
 rintro ⟨t,b,q⟩ hp
 dsimp only at hp
 refine⟨rfl,?_⟩
 unfold sp_i_letterScores sp_i_premiumsUsed sp_i_wordFactor sp_i_made sp_i_crossings sp_i_Board_premium sp_i_Board_cell sp_lsc sp_i_valueOf
 obtain⟨H,hH⟩ : ∃H:Hd (Int×Int),H=⟨fun (k,m)=>0≤k∧k≤(lsI t b q).length ∧m=((lsI t b q).take k.toNat).sum,fun (k,m)=>((lsI t b q).length - k).toNat,(· < ·)⟩:=⟨_,rfl⟩
 have hl : ∀m n,H.lt m n→m<n:=by subst hH;exact fun _ _ h=>h
 obtain⟨H2,hH2⟩ : ∃H:Hd (Int×List Int),H=⟨fun (j,L)=>0≤j∧j≤(crS2 b q).length ∧L=partJ t b q j,fun (j,L)=>((crS2 b q).length - j).toNat,(· < ·)⟩:=⟨_,rfl⟩
 have hl2 : ∀m n,H2.lt m n→m<n:=by subst hH2;exact fun _ _ h=>h
 obtain⟨H3,hH3⟩ : ∃H:(Int×List Int)→Hd (Int×Int),H=fun (j,L)=>⟨fun (k,m)=>0≤k∧k≤(crSq b q j).length ∧m=cqS t b q j k,fun (k,m)=>((crSq b q j).length - k).toNat,(· < ·)⟩:=⟨_,rfl⟩
 have hl3 : ∀x m n,(H3 x).lt m n→m<n:=by subst hH3;exact fun _ _ _ h=>h
 generalize hP:std=p,hB0:partsI=B0,hB1:lsI=B1,hB2:pusI=B2,hB3:wfV=B3,hB4:crS1=B4,hB5:crS2=B5,hB6:crSq=B6,hB7:madeB=B7,hB8:prmV=B8,hB9:celV=B9,hB10:lscI=B10,hB11:valT=B11,hB12:Bd.inB=B12,hB13:toBl=B13,hB14:u8=B14
 cbv
 repeat' first
  | (refine fun (_:Unit)=>?_;cbv)
  | (refine Or.inr ⟨26,[],[.s 25 (.i .i64),.s 7 (.i .i64)],[],[],H,rfl,hl,?_,fun ((k,m):Int×Int) hk=>?_⟩<;>cbv)
  | (refine Or.inr ⟨52,[],[.s 51 (.i .i64),.o 3 [.i .i64]],[.s 10],[],H2,rfl,hl2,?_,fun ((j,L):Int×List Int) hk2=>?_⟩<;>cbv)
  | (refine Or.inr ⟨71,[],[.s 70 (.i .i64),.s 17 (.i .i64)],[],[],H3 (j,L),rfl,hl3 _,?_,fun ((k,m):Int×Int) hk3=>?_⟩<;>cbv)
  | (refine aI2 (fun h=>?_) (fun h=>?_)<;>cbv)
  | (refine aI2 ?_ ?_)
 all_goals subst hP hB0 hB1 hB2 hB3 hB4 hB5 hB6 hB7 hB8 hB9 hB10 hB11 hB12 hB13 hB14 hH hH2 hH3
 all_goals clear hl
 all_goals try dsimp only at hk
 all_goals clear hl2
 all_goals try dsimp only at hk2
 all_goals clear hl3
 all_goals try dsimp only at hk3
 all_goals try dsimp only
 all_goals try exact fin
 all_goals try simp only [eta_bd,eta_pl,eta_ts] at *
 all_goals obtain⟨q0,q1,rfl⟩:=hk
 all_goals have hls:=lsI_len t b q
 all_goals have hw:=hp.vp.hi
 all_goals have hcl:=cr2_len hp.vp
 all_goals have hc1:=cr1_len (b:=b) (q:=q)
 all_goals have hM:(madeB b q).Fit :=made_fit hp.vp
 all_goals have hts:=hp.ts
 ·have q1:k≤((lsI t b q).length : Int):=q1
  have hlt:k<((lsI t b q).length : Int):=lt_of ‹_›
  have h5:=sum_tk_bd (lsI_bd (b:=b) (q:=q) hp.ts) (by decide) (k:=k+1) (by omega)
  rw [sum_tk q0 hlt] at h5
  exact in64 (by show _≤((lsI t b q).take k.toNat).sum + (lsI t b q).getD k.toNat 0∧((lsI t b q).take k.toNat).sum + (lsI t b q).getD k.toNat 0≤_;omega)
 ·have hlt:k<((lsI t b q).length : Int):=lt_of ‹_›
  exact in64 (by show _≤k+1∧k+1≤_;omega)
 ·have hlt:k<((lsI t b q).length : Int):=lt_of ‹_›
  exact⟨by show 0≤k+1;omega,by show k+1≤((lsI t b q).length : Int);omega,(sum_tk q0 hlt).symm⟩
 ·exact⟨by rw [toB_len];have:=pus_len' hp.vp;omega,_,rfl⟩
 ·have hge:((lsI t b q).length : Int)≤k:=ge_of ‹_›
  have hm:=main_bd hp.ts hp.vp
  rw [tk_all hge,wfV_to]
  exact in64 (by show _≤(lsI t b q).sum * wfL (pusI b q)∧(lsI t b q).sum * wfL (pusI b q)≤_;omega)
 ·have hge:((lsI t b q).length : Int)≤k:=ge_of ‹_›
  rw [tk_all hge,wfV_to]
  exact⟨Int.le_refl 0,Int.natCast_nonneg _,rfl⟩
 all_goals obtain⟨p0,p1,rfl⟩:=hk2
 all_goals have p1:j≤((crS2 b q).length : Int):=p1
 all_goals have hpl:=partJ_len (t:=t) (j:=j) hp.vp
 all_goals have hsl:(crSq b q j).length ≤32:=cr2_at j.toNat
 all_goals try (have hj:j<((crS2 b q).length : Int):=lt_of ‹_›;have hin:=cr1_in hp.vp p0 hj)
 ·exact⟨p0,by show j<((crS1 b q).length : Int);omega⟩
 ·exact⟨p0,by show j<((crS1 b q).length : Int);omega⟩
 ·exact hin
 ·exact⟨Int.le_refl 0,Int.natCast_nonneg _,rfl⟩
 all_goals try (obtain⟨r0,r1,rfl⟩:=hk3)
 all_goals try (have r1:k≤((crSq b q j).length : Int):=r1)
 all_goals try (have hlt:k<((crSq b q j).length : Int):=lt_of ‹_›)
 all_goals try (have hbd:=cqS_bd (b:=b) (q:=q) (j:=j) (k:=k) hts r0)
 all_goals try (have hbd1:=cqS_bd (b:=b) (q:=q) (j:=j) (k:=k+1) hts (by omega);have hsu:=cqS_suc (t:=t) r0 hlt)
 ·exact⟨r0,hlt⟩
 ·exact⟨p0,by show j<((crS1 b q).length : Int);omega⟩
 ·exact hM
 ·exact cq_let
 ·exact prm_in b _ _
 ·have h1:=sq_eq (s:=(crSq b q j).getD k.toNat (0,0)) (a:=(crS1 b q).getD j.toNat (0,0)) ‹_›
  have h2:=sqI_yes (t:=t) (b:=b) (M:=madeB b q) h1
  rw [hsu,h2] at hbd1
  exact in64 (by show _≤cqS t b q j k+lscI t (celV (madeB b q) ((crSq b q j).getD k.toNat (0,0)).1 ((crSq b q j).getD k.toNat (0,0)).2) (prmV b ((crS1 b q).getD j.toNat (0,0)).1 ((crS1 b q).getD j.toNat (0,0)).2)∧cqS t b q j k+lscI t (celV (madeB b q) ((crSq b q j).getD k.toNat (0,0)).1 ((crSq b q j).getD k.toNat (0,0)).2) (prmV b ((crS1 b q).getD j.toNat (0,0)).1 ((crS1 b q).getD j.toNat (0,0)).2)≤_;omega)
 ·exact in64 (by show _≤k+1∧k+1≤_;omega)
 ·have h1:=sq_eq (s:=(crSq b q j).getD k.toNat (0,0)) (a:=(crS1 b q).getD j.toNat (0,0)) ‹_›
  have h2:=sqI_yes (t:=t) (b:=b) (M:=madeB b q) h1
  rw [h2] at hsu
  exact⟨by show 0≤k+1;omega,by show k+1≤((crSq b q j).length : Int);omega,hsu.symm⟩
 ·show (((crSq b q j).length : Int)-(k+1)).toNat < (((crSq b q j).length : Int)-k).toNat
  omega
 ·exact hM
 ·exact cq_let
 ·have h1:=sq_eq (s:=(crSq b q j).getD k.toNat (0,0)) (a:=(crS1 b q).getD j.toNat (0,0)) ‹_›
  have h2:=sqI_no (t:=t) (b:=b) (M:=madeB b q) h1
  rw [hsu,h2] at hbd1
  exact in64 (by show _≤cqS t b q j k+valT t (u8 (celV (madeB b q) ((crSq b q j).getD k.toNat (0,0)).1 ((crSq b q j).getD k.toNat (0,0)).2))∧cqS t b q j k+valT t (u8 (celV (madeB b q) ((crSq b q j).getD k.toNat (0,0)).1 ((crSq b q j).getD k.toNat (0,0)).2))≤_;omega)
 ·exact in64 (by show _≤k+1∧k+1≤_;omega)
 ·have h1:=sq_eq (s:=(crSq b q j).getD k.toNat (0,0)) (a:=(crS1 b q).getD j.toNat (0,0)) ‹_›
  have h2:=sqI_no (t:=t) (b:=b) (M:=madeB b q) h1
  rw [h2] at hsu
  exact⟨by show 0≤k+1;omega,by show k+1≤((crSq b q j).length : Int);omega,hsu.symm⟩
 ·show (((crSq b q j).length : Int)-(k+1)).toNat < (((crSq b q j).length : Int)-k).toNat
  omega
 ·exact⟨by show 1≤15;omega,[b.prm ((crS1 b q).getD j.toNat (0,0)).1 ((crS1 b q).getD j.toNat (0,0)).2],rfl⟩
 all_goals have hq:=wfV_one b ((crS1 b q).getD j.toNat (0,0)).1 ((crS1 b q).getD j.toNat (0,0)).2
 ·have hge:((crSq b q j).length : Int)≤k:=ge_of ‹_›
  have h1:=cqS_end (t:=t) p0 hj hge
  have h2:=crI_bd' (t:=t) hts p0 hj
  exact in64 (by
   show _≤cqS t b q j k*wfV [prmV b ((crS1 b q).getD j.toNat (0,0)).1 ((crS1 b q).getD j.toNat (0,0)).2]∧cqS t b q j k*wfV [prmV b ((crS1 b q).getD j.toNat (0,0)).1 ((crS1 b q).getD j.toNat (0,0)).2]≤_
   rw [hq,h1];omega)
 ·show ((partJ t b q j).length : Int)+1≤_
  omega
 ·exact in64 (by show _≤j+1∧j+1≤_;omega)
 ·have hge:((crSq b q j).length : Int)≤k:=ge_of ‹_›
  refine⟨by show 0≤j+1;omega,by show j+1≤((crS2 b q).length : Int);omega,?_⟩
  show partJ t b q j++[cqS t b q j k*wfV [prmV b ((crS1 b q).getD j.toNat (0,0)).1 ((crS1 b q).getD j.toNat (0,0)).2]]=partJ t b q (j+1)
  rw [partJ_suc p0 hj,hq,cqS_end p0 hj hge]
 ·rw [partJ_end (ge_of ‹_›)]
theorem ok_i_scoreParts:FOk Tryz.prog 207 (sp_i_scoreParts std):=FOk.frz ok_i_scoreParts_o fun ⟨t,b,q⟩=>⟨by simp [deep,deeps,AH.get],by simp [PV.idIn,idInL]⟩
end Ax
end Go.Proofs.YtjjonmhpgkahoaaGreatDoor
