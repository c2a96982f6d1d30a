/- Part 4 of the texts on which the proof rests. Conditions: none. -/
import Derived.Test.YtejefipopolccaaGreatZA3
set_option linter.unusedVariables false
set_option linter.unusedSimpArgs false
set_option linter.unusedSectionVars false
section
set_option maxRecDepth 100000
set_option maxHeartbeats 16000000
namespace Go.Proofs.YtejefipopolccaaGreat
open Go Go.Nm
attribute [local irreducible] gd execOp SL SLD SLT WR
def zax (b_First:Int) (stages:List Int):Unit->(Int × Span)->M (Unit ⊕ Unit):=fun (_:Unit) (x,x2) =>
  M.grd (decide ((-9223372036854775808:Int)<=(x-b_First))&&decide ((x-b_First)<=(9223372036854775807:Int))) <|
  M.grd (decide ((0:Int)<=(x-b_First))&&decide ((x-b_First)<(stages.length:Int))) <|
  M.bind (zab (stages.getD (Int.toNat (x-b_First)) 0) x2.lo x2.hi) fun r3 =>
  bif !r3 then (
  M.pure (.inr ()))
  else (
  M.pure (.inl ()))
def zbP (b_Years:List Yr) (b_Olds:List Old10) (b_First:Int) (b_Last:Int) (stages:List Int):M (Bool × Int) :=
  M.bind (zao b_Years b_Olds b_First b_Last) fun x_=>match x_ with
  | (.inl r1)=>(
  bif r1 != 0 then (
  M.pure (false,r1))
  else (
  M.fail))
  | (.inr (r02,r03,r04,r12))=>(
  bif r12 != 0 then (
  M.fail)
  else (
  M.grd (decide ((-9223372036854775808:Int)<=(b_Last-b_First))&&decide ((b_Last-b_First)<=(9223372036854775807:Int))) <|
  M.grd (decide ((-9223372036854775808:Int)<=((b_Last-b_First)+1))&&decide (((b_Last-b_First)+1)<=(9223372036854775807:Int))) <|
  bif (stages.length:Int) != ((b_Last-b_First)+1) then (
  M.pure (false,2))
  else (
  M.bind (zcq stages (fun xqz=>zcH xqz)) fun r2 =>
  bif !r2 then (
  M.pure (false,4))
  else (
  M.bind (zaf b_Years b_Olds r02 r03 r04 b_First b_Last) fun (r00,r10) =>
  M.bind (zaj (M.yl (zax b_First stages)) (.inl ()) r00 r10 b_Years b_Olds r02 r03 r04) fun x_=>match x_ with
  | .inl _=>(
  M.pure (true,0))
  | .inr _=>(
  M.pure (false,0))))))
theorem zd5 {R:List Chunk} {C_b_Years:Cells} {v_b_Years:Value} {C_b_Olds:Cells} {v_b_Olds:Value} {C_stages:Cells} {v_stages:Value} (b_Years:List Yr) (b_Olds:List Old10) (b_First:Int) (b_Last:Int) (stages:List Int) (hC_b_Years:Reads R C_b_Years) (hs_b_Years:Sl C_b_Years v_b_Years b_Years) (hC_b_Olds:Reads R C_b_Olds) (hs_b_Olds:Sl C_b_Olds v_b_Olds b_Olds) (hC_stages:Reads R C_stages) (hs_stages:Sl C_stages v_stages stages) {r:(Bool × Int)} (hM:(zbP b_Years b_Olds b_First b_Last stages).Ends r) (w:World) (H:St w w [] R):Ret Tryz.prog 33 #[.agg #[v_b_Years,v_b_Olds,I b_First,I b_Last],v_stages] w fun v w'=>∃ (y0:Bool) (y1:Int),(y0,y1)=r/\v = .tuple #[B y0,I y1]/\St w w' [] R:=by
 refine ret_of_WD Tryz.func33 rfl rfl rfl ?_
 replace H:St w w [cMk ([])] R:=H.mk0
 have hl_b_Years:=hs_b_Years.len_le
 have hl_b_Olds:=hs_b_Olds.len_le
 have hl_stages:=hs_stages.len_le
 unfold zbP at hM
 refine WD.seq ?_
 refine WD.of ?_
 refine W.region rfl ?_
 refine t_box (v:=.agg #[v_b_Years,v_b_Olds,I b_First,I b_Last]) (cs:=[v_b_Years,v_b_Olds,I b_First,I b_Last]) H rfl rfl ?_
 intro b_1 w1z H
 refine t_box (v:=v_stages) (cs:=[v_stages]) H rfl (Sl.cells hs_stages) ?_
 intro b_2 w2z H
 refine t_alloc (cs:=[B false]) H Al4 rfl ?_
 intro b_3 w3z H
 refine t_alloc (cs:=[I 0]) H Al43 rfl ?_
 intro b_4 w4z H
 refine s_nil ?_
 refine WD.seq ?_
 refine WD.of ?_
 refine kg 2 ?_
 obtain ⟨r6z,hx5z,hM⟩:=M.e_bind hM
 refine s_call cf72 [.agg #[v_b_Years,v_b_Olds,I b_First,I b_Last]] rfl (zcN b_Years b_Olds b_First b_Last (hC_b_Years.app _) hs_b_Years (hC_b_Olds.app _) hs_b_Olds hx5z _ (H.gt 5)) ?_
 rintro vq w7z (⟨r1,hr8z,hvq,H2_⟩ | ⟨r02,r03,r04,r12,nb0_5,nb1_6,hr9z,hvq,H2_⟩)
 ·subst hr8z
  subst vq
  try dsimp only at hM
  replace H:=H.bk H2_
  clear H2_
  refine kg 6 ?_
  refine WD.seq ?_
  refine WD.block ?_
  refine WD.seq ?_
  refine WD.of ?_
  refine kg 5 ?_
  refine WD.cond (r1 != 0) rfl (fun c10z=>?_) (fun c10z=>?_)
  ·replace hM:=M.e_t hM c10z
   simp only [qy1,qy2,qy3,qy4,qy5,qy6,ne_eq,qy7] at c10z
   refine WD.seq ?_
   refine WD.of ?_
   refine kg 2 ?_
   refine t_sw 1 0 [B false] (B false) H rfl rfl Sz4 rfl rfl rfl rfl ?_
   intro w11z H
   refine t_sw 0 0 [I r1] (I r1) H rfl rfl Sz43 rfl rfl rfl rfl ?_
   intro w12z H
   refine s_nil ?_
   refine WD.of ?_
   refine W.ret ?_
   refine bodyD_r (H.pk [4,0,1,2,3]) ?_
   intro w13z H
   replace H:=H.nf
   have hb14z:=(H.bl 1)
   have hb15z:=(H.bl 0)
   have hr_:=M.e_pure hM
   exact ⟨_,(resE_ofn (vs:=[B false,I r1]) rfl rfl (.cell (v:=B false) rfl (run_loadVar_sc Sc4 hb14z rfl)<|.cell (v:=I r1) rfl (run_loadVar_sc Sc43 hb15z rfl)<|.nil)),⟨false,r1,hr_,rfl,(H.pk [])⟩⟩
  replace hM:=M.e_f hM c10z
  exact (M.e_fail hM).elim
 subst hr9z
 subst vq
 try dsimp only at hM
 replace H:=H.bk H2_
 clear H2_
 refine kg 6 ?_
 refine WD.seq ?_
 refine WD.block ?_
 refine WD.seq ?_
 refine WD.of ?_
 refine kg 5 ?_
 refine WD.cond (r12 != 0) rfl (fun c16z=>?_) (fun c16z=>?_)
 ·replace hM:=M.e_t hM c16z
  exact (M.e_fail hM).elim
 replace hM:=M.e_f hM c16z
 simp only [qy1,qy2,qy3,qy4,qy5,qy6,ne_eq,qy7] at c16z
 refine WD.seq ?_
 refine WD.of ?_
 have hl17z:=(hs_stages).len_le
 obtain ⟨sd18z,hM⟩:=M.e_grd hM
 simp only [Bool.and_eq_true,decide_eq_true_eq] at sd18z
 obtain ⟨sd19z,hM⟩:=M.e_grd hM
 simp only [Bool.and_eq_true,decide_eq_true_eq] at sd19z
 refine kg 12 ?_
 refine WD.cond ((stages.length:Int) != ((b_Last-b_First)+1)) rfl (fun c20z=>?_) (fun c20z=>?_)
 ·replace hM:=M.e_t hM c20z
  simp only [qy1,qy2,qy3,qy4,qy5,qy6,ne_eq,qy7] at c20z
  refine WD.seq ?_
  refine WD.of ?_
  refine W.region rfl ?_
  refine t_sw 3 0 [B false] (B false) H rfl rfl Sz4 rfl rfl rfl rfl ?_
  intro w21z H
  refine t_sw 2 0 [I 2] (I 2) H rfl rfl Sz43 rfl rfl rfl rfl ?_
  intro w22z H
  refine s_nil ?_
  refine WD.of ?_
  refine W.ret ?_
  refine bodyD_r (H.pk [6,0,1,2,3,4,5]) ?_
  intro w23z H
  replace H:=H.nf
  have hb24z:=(H.bl 3)
  have hb25z:=(H.bl 2)
  have hr_:=M.e_pure hM
  exact ⟨_,(resE_ofn (vs:=[B false,I 2]) rfl rfl (.cell (v:=B false) rfl (run_loadVar_sc Sc4 hb24z rfl)<|.cell (v:=I 2) rfl (run_loadVar_sc Sc43 hb25z rfl)<|.nil)),⟨false,2,hr_,rfl,(H.pk [])⟩⟩
 replace hM:=M.e_f hM c20z
 simp only [qy1,qy2,qy3,qy4,qy5,qy6,ne_eq,qy7] at c20z
 refine WD.seq ?_
 refine WD.of ?_
 refine kg 2 ?_
 obtain ⟨r27z,hx26z,hM⟩:=M.e_bind hM
 refine s_call cf68 [v_stages,.func (.func 73) #[] #[]] rfl (zdB stages (fun xqz=>zcH xqz) (hC_stages.app _) hs_stages ⟨73,[],rfl,cf73,fun wqz Lqz Cqz vqz xqz bqz hsqz hCqz hAqz hpqz=>by obtain rfl:=Arg.int hAqz; exact (zdR xqz hpqz wqz (St.refl hsqz)).mono fun vqz wqz ⟨yqz,hrqz,hvqz,Hqz⟩=>by subst hrqz; exact ⟨hvqz,Hqz⟩⟩ hx26z _ (H.gt 7)) ?_
 rintro vq w28z ⟨r2,hr29z,hvq,H2_⟩
 subst hr29z
 subst vq
 try dsimp only at hM
 replace H:=H.bk H2_
 clear H2_
 refine kg 3 ?_
 refine WD.cond (!r2) rfl (fun c30z=>?_) (fun c30z=>?_)
 ·replace hM:=M.e_t hM c30z
  refine WD.seq ?_
  refine WD.of ?_
  refine W.region rfl ?_
  refine t_sw 3 0 [B false] (B false) H rfl rfl Sz4 rfl rfl rfl rfl ?_
  intro w31z H
  refine t_sw 2 0 [I 4] (I 4) H rfl rfl Sz43 rfl rfl rfl rfl ?_
  intro w32z H
  refine s_nil ?_
  refine WD.of ?_
  refine W.ret ?_
  refine bodyD_r (H.pk [6,0,1,2,3,4,5]) ?_
  intro w33z H
  replace H:=H.nf
  have hb34z:=(H.bl 3)
  have hb35z:=(H.bl 2)
  have hr_:=M.e_pure hM
  exact ⟨_,(resE_ofn (vs:=[B false,I 4]) rfl rfl (.cell (v:=B false) rfl (run_loadVar_sc Sc4 hb34z rfl)<|.cell (v:=I 4) rfl (run_loadVar_sc Sc43 hb35z rfl)<|.nil)),⟨false,4,hr_,rfl,(H.pk [])⟩⟩
 replace hM:=M.e_f hM c30z
 refine WD.of ?_
 refine W.skip ?_
 refine WD.seq ?_
 refine WD.seq ?_
 refine WD.of ?_
 refine kg 6 ?_
 obtain ⟨r37z,hx36z,hM⟩:=M.e_bind hM
 refine s_call cf50 [Pq nb0_5,I b_First,I b_Last] rfl (zaz b_Years b_Olds r02 r03 r04 b_First b_Last (hC_b_Years.app _) hs_b_Years (hC_b_Olds.app _) hs_b_Olds (Has.here (k:=1) rfl) (Has.here (k:=0) rfl) hx36z _ (H.gt 7)) ?_
 rintro vq w38z ⟨r00,r10,nb0_7,nb1_8,nb2_9,hr39z,hvq,H2_⟩
 subst hr39z
 subst vq
 try dsimp only at hM
 replace H:=H.bk H2_
 clear H2_
 refine s_nil ?_
 refine WD.block ?_
 obtain ⟨t40z,hx41z,hM⟩:=M.e_bind hM
 refine WD.range (L:=[cBlk b_4 [I 0] 43,cBlk b_3 [B false] 4,cBlk nb0_7 [I r00] 3,cBlk nb1_8 [I r10] 3,cBlk nb2_9 [Pq nb0_5] 93,cBlk nb0_5 [v_b_Years,v_b_Olds,I r02,I r03,.map (some nb1_6)] 132,cMl I encSp nb1_6 r04,cBlk b_2 [v_stages] 22,cBlk b_1 [v_b_Years,v_b_Olds,I b_First,I b_Last] 28]) [Pq nb0_7,Pq nb1_8,Pq nb2_9] (H.pk [9,5,6,0,1,2,3,4,7,8]) rfl cf81 ?_
 intro l42z D43z r44z w45z hr46z H
 have hYC:YieldC Tryz.prog ([cMk (D43z :: ([])),cBlk nb0_7 [I r00] 3,cBlk nb1_8 [I r10] 3,cBlk nb2_9 [Pq nb0_5] 93,cBlk nb0_5 [v_b_Years,v_b_Olds,I r02,I r03,.map (some nb1_6)] 132,cMl I encSp nb1_6 r04,cBlk b_2 [v_stages] 22,cBlk b_1 [v_b_Years,v_b_Olds,I b_First,I b_Last] 28]++R) arISpan (yJ l42z r44z (fun _ Ls_=>Ls_=[cBlk b_4 [I 0] 43,cBlk b_3 [B false] 4]) (fun _ Ls_=>Ls_=[cBlk b_4 [I 0] 43,cBlk b_3 [B false] 4]) (fun _=>.ret)) (.func (.yield l42z) #[] #[]) (M.yl (zax b_First stages)):=by
  refine YieldC.mk2 hr46z (fun _ Ls_=>Ls_=[cBlk b_4 [I 0] 43,cBlk b_3 [B false] 4]) (fun _ Ls_=>Ls_=[cBlk b_4 [I 0] 43,cBlk b_3 [B false] 4]) (fun _=>.ret) (zax b_First stages) (by rintro _ _ h_; obtain ⟨rfl⟩:=h_; rfl) (by rintro _ _ h_; (obtain ⟨rfl⟩:=h_; rfl)) rfl (arISpan_len rfl) ?_
  intro C_ vs_ x_ hA_
  obtain ⟨x,x2⟩:=x_
  obtain rfl:=hA_
  intro w R hR_ Ls_ s_ r hY_ hM H
  skip
  obtain ⟨rfl⟩:=hY_
  replace H:=H.nf
  refine kg 5 ?_
  refine t_alloc (cs:=[I 0,I 0]) H Al34 rfl ?_
  intro b_10 w47z H
  refine t_sw 0 0 [I x2.lo,I x2.hi] (.agg #[I x2.lo,I x2.hi]) H rfl rfl Sz34 rfl rfl rfl rfl ?_
  intro w48z H
  refine s_nil ?_
  refine ⟨rfl,[cBlk b_10 [I x2.lo,I x2.hi] 34],H.pick [0,1,2,3,4,5,6,7,8,9,10] (by decide) rfl,?_⟩
  clear H hR_
  intro w R hR_ H
  replace hC_b_Years:=hC_b_Years.sub hR_
  replace hC_b_Olds:=hC_b_Olds.sub hR_
  replace hC_stages:=hC_stages.sub hR_
  replace hM:(zax b_First stages () (x,x2)).Ends r:=hM
  simp only [zax] at hM
  replace H:=H.nf
  refine kg 2 ?_
  refine W.draw (fun W=>St w W [cBlk b_10 [I x2.lo,I x2.hi] 34,cBlk b_4 [I 0] 43,cBlk b_3 [B false] 4,cMk (D43z :: ([])),cBlk nb0_7 [I r00] 3,cBlk nb1_8 [I r10] 3,cBlk nb2_9 [Pq nb0_5] 93,cBlk nb0_5 [v_b_Years,v_b_Olds,I r02,I r03,.map (some nb1_6)] 132,cMl I encSp nb1_6 r04,cBlk b_2 [v_stages] 22,cBlk b_1 [v_b_Years,v_b_Olds,I b_First,I b_Last] 28] R) [(0,true),(1,true),(2,true),(3,true),(4,true),(5,true),(6,true),(7,true),(8,true),(9,true),(10,true),(11,false),(12,true)] mixed (by decide +kernel) rfl ?_
  intro w49z hx_
  replace H:=H.ext hx_
  clear hx_
  refine ⟨(H.pk [0,1,2,3,4,5,6,7,8,9,10]),?_⟩
  obtain ⟨sd50z,hM⟩:=M.e_grd hM
  simp only [Bool.and_eq_true,decide_eq_true_eq] at sd50z
  obtain ⟨sd51z,hM⟩:=M.e_grd hM
  simp only [Bool.and_eq_true,decide_eq_true_eq] at sd51z
  refine kg 11 ?_
  refine d_l rfl ?_
  obtain ⟨r53z,hx52z,hM⟩:=M.e_bind hM
  refine s_call cf45 [I (stages.getD (Int.toNat (x-b_First)) 0),I x2.lo,I x2.hi] rfl (zad (stages.getD (Int.toNat (x-b_First)) 0) x2.lo x2.hi hx52z _ (H.gt 11)) ?_
  rintro vq w54z ⟨r3,hr55z,hvq,H2_⟩
  subst hr55z
  subst vq
  try dsimp only at hM
  replace H:=H.bk H2_
  clear H2_
  refine s_nil ⟨(H.pk [0,1,2,3,4,5,6,7,8,9,10]),?_⟩
  refine kg 2 ?_
  refine W.cond (!r3) rfl (fun c56z=>?_) (fun c56z=>?_)
  ·replace hM:=M.e_t hM c56z
   refine kg 2 ?_
   refine t_sw 2 0 [B false] (B false) H rfl rfl Sz4 rfl rfl rfl rfl ?_
   intro w57z H
   refine t_sw 1 0 [I 0] (I 0) H rfl rfl Sz43 rfl rfl rfl rfl ?_
   intro w58z H
   refine s_nil ?_
   refine W.ret ?_
   exact ⟨(),[cBlk b_4 [I 0] 43,cBlk b_3 [B false] 4],(M.e_pure hM).symm,rfl,H.pick [1,2,3,4,5,6,7,8,9,10] (by decide) rfl,rfl⟩
  replace hM:=M.e_f hM c56z
  refine W.skip ?_
  exact ⟨(),[cBlk b_4 [I 0] 43,cBlk b_3 [B false] 4],(M.e_pure hM).symm,rfl,H.pick [1,2,3,4,5,6,7,8,9,10] (by decide) rfl⟩
 replace H:St w w45z (cAll (cObj l42z (.loop r44z) :: [cBlk b_4 [I 0] 43,cBlk b_3 [B false] 4]) :: [cMk (D43z :: ([])),cBlk nb0_7 [I r00] 3,cBlk nb1_8 [I r10] 3,cBlk nb2_9 [Pq nb0_5] 93,cBlk nb0_5 [v_b_Years,v_b_Olds,I r02,I r03,.map (some nb1_6)] 132,cMl I encSp nb1_6 r04,cBlk b_2 [v_stages] 22,cBlk b_1 [v_b_Years,v_b_Olds,I b_First,I b_Last] 28]) R:=St.bundleB (A:=cObj l42z (.loop r44z) :: [cBlk b_4 [I 0] 43,cBlk b_3 [B false] 4]) (T:=[cMk (D43z :: ([])),cBlk nb0_7 [I r00] 3,cBlk nb1_8 [I r10] 3,cBlk nb2_9 [Pq nb0_5] 93,cBlk nb0_5 [v_b_Years,v_b_Olds,I r02,I r03,.map (some nb1_6)] 132,cMl I encSp nb1_6 r04,cBlk b_2 [v_stages] 22,cBlk b_1 [v_b_Years,v_b_Olds,I b_First,I b_Last] 28]) rfl (H.pk [0,2,3,1,4,5,6,7,8,9,10])
 refine (zaE (M.yl (zax b_First stages)) (.inl ()) r00 r10 b_Years b_Olds r02 r03 r04 hYC ⟨_,rfl,rfl⟩ (Has.here (k:=1) rfl) (Has.here (k:=2) rfl) (hC_b_Years.app _) hs_b_Years (hC_b_Olds.app _) hs_b_Olds (Has.here (k:=5) rfl) (Has.here (k:=4) rfl) (Has.here (k:=3) rfl) hx41z _ (H.gt 8)).mono ?_
 rintro vq w59z ⟨t63z,Ls61z,hq64z,hvq,H2_,hY62z⟩
 subst hq64z
 replace H:=H.back H2_ rfl
 clear H2_ hYC
 rcases t63z with _ | _
 ·try dsimp only at hM
  obtain ⟨_,rfl,rfl⟩:=hY62z
  refine ⟨_,[cBlk b_4 [I 0] 43,cBlk b_3 [B false] 4,cBlk nb0_7 [I r00] 3,cBlk nb1_8 [I r10] 3,cBlk nb2_9 [Pq nb0_5] 93,cBlk nb0_5 [v_b_Years,v_b_Olds,I r02,I r03,.map (some nb1_6)] 132,cMl I encSp nb1_6 r04,cBlk b_2 [v_stages] 22,cBlk b_1 [v_b_Years,v_b_Olds,I b_First,I b_Last] 28],H.unbundle.pick [0,3,1,2,4,5,6,7,8,9,10] (by decide) rfl,hr46z.nb,?_⟩
  intro w60z H
  rw [hr46z.pd]
  replace H:=H.nf
  try simp only []
  refine WD.seq ?_
  refine WD.of ?_
  refine W.region rfl ?_
  refine t_sw 2 0 [B true] (B true) H rfl rfl Sz4 rfl rfl rfl rfl ?_
  intro w65z H
  refine t_sw 1 0 [I 0] (I 0) H rfl rfl Sz43 rfl rfl rfl rfl ?_
  intro w66z H
  refine s_nil ?_
  refine WD.of ?_
  refine W.ret ?_
  refine bodyD_r (H.pk [0,1,2,3,4,5,6,7,8,9]) ?_
  intro w67z H
  replace H:=H.nf
  have hb68z:=(H.bl 1)
  have hb69z:=(H.bl 0)
  have hr_:=M.e_pure hM
  exact ⟨_,(resE_ofn (vs:=[B true,I 0]) rfl rfl (.cell (v:=B true) rfl (run_loadVar_sc Sc4 hb68z rfl)<|.cell (v:=I 0) rfl (run_loadVar_sc Sc43 hb69z rfl)<|.nil)),⟨true,0,hr_,rfl,(H.pk [])⟩⟩
 try dsimp only at hM
 obtain ⟨_,rfl,rfl⟩:=hY62z
 refine ⟨_,[cBlk b_4 [I 0] 43,cBlk b_3 [B false] 4,cBlk nb0_7 [I r00] 3,cBlk nb1_8 [I r10] 3,cBlk nb2_9 [Pq nb0_5] 93,cBlk nb0_5 [v_b_Years,v_b_Olds,I r02,I r03,.map (some nb1_6)] 132,cMl I encSp nb1_6 r04,cBlk b_2 [v_stages] 22,cBlk b_1 [v_b_Years,v_b_Olds,I b_First,I b_Last] 28],H.unbundle.pick [0,3,1,2,4,5,6,7,8,9,10] (by decide) rfl,nofun,?_⟩
 intro w60z H
 show WD _ _ _ (.ret) _ _ _
 refine WD.of ?_
 refine W.ret ?_
 replace H:=H.nf
 refine bodyD_r (H.pk [0,1,2,3,4,5,6,7,8,9]) ?_
 intro w70z H
 replace H:=H.nf
 have hb71z:=(H.bl 1)
 have hb72z:=(H.bl 0)
 have hr_:=M.e_pure hM
 exact ⟨_,(resE_ofn (vs:=[B false,I 0]) rfl rfl (.cell (v:=B false) rfl (run_loadVar_sc Sc4 hb71z rfl)<|.cell (v:=I 0) rfl (run_loadVar_sc Sc43 hb72z rfl)<|.nil)),⟨false,0,hr_,rfl,(H.pk [])⟩⟩

def zb8 (b_Years:List Yr) (year:Int) (stage:Int):Nat->M (Nat ⊕ (Unit ⊕ Unit)):=fun i =>
  bif decide ((i:Int)<(b_Years.length:Int)) then (
  M.grd (decide ((i:Int)<(b_Years.length:Int))) <|
  M.bind (M.opt (((b_Years.getD i default).year)==year) (zac stage ((b_Years.getD i default).lo) ((b_Years.getD i default).hi)) false) fun r2 =>
  bif ((((b_Years.getD i default).year)==year)&&r2) then (
  M.pure (.inr (.inl ())))
  else (
  M.pure (.inl (i+1))))
  else (
  M.pure (.inr (.inr ())))
def za6 (b_Olds:List Old10) (year:Int) (i2:Nat):(Bool × Nat)->M ((Bool × Nat) ⊕ Bool):=fun (said,k) =>
  bif decide ((k:Int)<(((b_Olds.getD i2 default).passed).length:Int)) then (
  M.grd ((!(!said)||(decide ((k:Int)<(((b_Olds.getD i2 default).passed).length:Int))))) <|
  M.pure (.inl ((said||((((b_Olds.getD i2 default).passed).getD k 0)==year)),k+1)))
  else (
  M.pure (.inr said))
def zb4 (b_Olds:List Old10) (year:Int) (stage:Int):Nat->M (Nat ⊕ (Unit ⊕ Unit)):=fun i2 =>
  bif decide ((i2:Int)<(b_Olds.length:Int)) then (
  M.grd (decide ((i2:Int)<(b_Olds.length:Int))) <|
  M.bind (zac year ((b_Olds.getD i2 default).src) ((b_Olds.getD i2 default).dst)) fun r3 =>
  bif r3 then (
  M.pure (.inl (i2+1)))
  else (
  M.bind (M.iter (za6 b_Olds year i2) (false,0)) fun said2 =>
  bif (said2 != (decide (((b_Olds.getD i2 default).stage)<=stage))) then (
  M.pure (.inr (.inl ())))
  else (
  M.pure (.inl (i2+1)))))
  else (
  M.pure (.inr (.inr ())))
def zci (b_Years:List Yr) (b_Olds:List Old10) (b_First:Int) (b_Last:Int) (year:Int) (stage:Int):M Bool :=
  M.bind (M.iter (zb8 b_Years year stage) 0) fun x_=>match x_ with
  | (.inl (_:Unit))=>(
  M.pure false)
  | (.inr (_:Unit))=>(
  M.bind (M.iter (zb4 b_Olds year stage) 0) fun x_=>match x_ with
  | (.inl (_:Unit))=>(
  M.pure false)
  | (.inr (_:Unit))=>(
  M.pure true))
theorem zdu {R:List Chunk} {C_b_Years:Cells} {v_b_Years:Value} {C_b_Olds:Cells} {v_b_Olds:Value} (b_Years:List Yr) (b_Olds:List Old10) (b_First:Int) (b_Last:Int) (year:Int) (stage:Int) (hC_b_Years:Reads R C_b_Years) (hs_b_Years:Sl C_b_Years v_b_Years b_Years) (hC_b_Olds:Reads R C_b_Olds) (hs_b_Olds:Sl C_b_Olds v_b_Olds b_Olds) {r:Bool} (hM:(zci b_Years b_Olds b_First b_Last year stage).Ends r) (w:World) (H:St w w [] R):Ret Tryz.prog 74 #[.agg #[v_b_Years,v_b_Olds,I b_First,I b_Last],I year,I stage] w fun v w'=>∃ (y0:Bool),y0=r/\v=B y0/\St w w' [] R:=by
 refine ret_of_W Tryz.func74 rfl rfl rfl ?_
 refine kg 2 ?_
 refine t_box (v:=.agg #[v_b_Years,v_b_Olds,I b_First,I b_Last]) (cs:=[v_b_Years,v_b_Olds,I b_First,I b_Last]) H rfl rfl ?_
 intro b_1 w1z H
 refine kg 8 ?_
 obtain ⟨ex2z,hi3z,hk4z⟩:=M.e_bind hM
 obtain ⟨m0_,hi3z⟩:=M.e_iter hi3z
 refine W.loop (fun m σ W=>∃ (i:Nat) (ρ:Env),σ=upds ρ [(1,I year),(2,I stage),(3,Pq b_1),(7,I (i:Int))]/\M.iterN (zb8 b_Years year stage) m i=some ex2z/\St w W [cBlk b_1 [v_b_Years,v_b_Olds,I b_First,I b_Last] 77] R) ?_ ?_
 ·exact ⟨_,0,_,upds_of _ _ ⟨rfl,rfl,rfl,rfl,trivial⟩,hi3z,H⟩
 rintro m7z σ w5z ⟨i,ρ,rfl,hI6z,H⟩
 obtain ⟨m8z,lt9z,x10z,hM,hN11z⟩:=M.e_iterN hI6z
 simp only [zb8] at hM
 clear hI6z
 have hl12z:=(hs_b_Years).len_le
 refine kg 9 ?_
 refine W.cond (decide ((i:Int)<(b_Years.length:Int))) rfl (fun c13z=>?_) (fun c13z=>?_)
 ·replace hM:=M.e_t hM c13z
  simp only [qy1,qy2,qy3,qy4,qy5,qy6,ne_eq,qy7] at c13z
  obtain ⟨sd14z,hM⟩:=M.e_grd hM
  simp only [Bool.and_eq_true,decide_eq_true_eq] at sd14z
  refine kg 10 ?_
  refine t_alloc (cs:=[I 0,I 0,I 0]) H Al124 rfl ?_
  intro b_2 w15z H
  refine t_sw 0 0 [I ((b_Years.getD i default).year),I ((b_Years.getD i default).lo),I ((b_Years.getD i default).hi)] (.agg #[I ((b_Years.getD i default).year),I ((b_Years.getD i default).lo),I ((b_Years.getD i default).hi)]) H rfl rfl Sz124 rfl rfl rfl rfl ?_
  intro w16z H
  refine kg 15 ?_
  obtain ⟨r2,hx17z,hM⟩:=M.e_bind hM
  refine t_gcall (((b_Years.getD i default).year)==year) (gy_t rfl) cf56 (B r2) (fun _=>[I stage,I ((b_Years.getD i default).lo),I ((b_Years.getD i default).hi)]) (fun hg=>lst3 (gd_of (c:=((b_Years.getD i default).year)==year) hg (I stage)) (gd_of (c:=((b_Years.getD i default).year)==year) hg (I ((b_Years.getD i default).lo))) (gd_of (c:=((b_Years.getD i default).year)==year) hg (I ((b_Years.getD i default).hi)))) H (fun hg=>(zae stage ((b_Years.getD i default).lo) ((b_Years.getD i default).hi) (M.e_opt hx17z hg) _ (H.give (A:=[]) rfl)).mono fun v_ w_ ⟨y_,hr_,hv_,H_⟩=>by subst hr_; exact ⟨hv_,H.via H_⟩) ?_
  intro w18z H
  refine kg 2 ?_
  refine W.cond ((((b_Years.getD i default).year)==year)&&r2) rfl (fun c19z=>?_) (fun c19z=>?_)
  ·replace hM:=M.e_t hM c19z
   refine kg 4 ?_
   refine W.ret ?_
   have hX20z:=M.e_inr hM hN11z
   subst hX20z
   replace hM:=hk4z
   try dsimp only at hM
   have hr_:=M.e_pure hM
   exact ⟨_,resE_tmp rfl,⟨false,hr_,rfl,(H.pk [])⟩⟩
  replace hM:=M.e_f hM c19z
  refine kg 6 ?_
  exact ⟨m8z,lt9z,i+1,_,upds_of _ _ ⟨rfl,rfl,rfl,rfl,trivial⟩,M.e_inl hM hN11z,(H.pk [1])⟩
 replace hM:=M.e_f hM c13z
 simp only [qy1,qy2,qy3,qy4,qy5,qy6,ne_eq,qy7] at c13z
 refine W.exit ?_
 have hX21z:=M.e_inr hM hN11z
 subst hX21z
 replace hM:=hk4z
 try dsimp only at hM
 refine kg 6 ?_
 obtain ⟨ex22z,hi23z,hk24z⟩:=M.e_bind hM
 obtain ⟨m0_,hi23z⟩:=M.e_iter hi23z
 refine W.loop (fun m σ W=>∃ (i2:Nat) (ρ:Env),σ=upds ρ [(1,I year),(2,I stage),(3,Pq b_1),(9,I (i2:Int))]/\M.iterN (zb4 b_Olds year stage) m i2=some ex22z/\St w W [cBlk b_1 [v_b_Years,v_b_Olds,I b_First,I b_Last] 77] R) ?_ ?_
 ·exact ⟨_,0,_,upds_of _ _ ⟨rfl,rfl,rfl,rfl,trivial⟩,hi23z,H⟩
 rintro m27z σ w25z ⟨i2,ρ,rfl,hI26z,H⟩
 obtain ⟨m28z,lt29z,x30z,hM,hN31z⟩:=M.e_iterN hI26z
 simp only [zb4] at hM
 clear hI26z
 have hl32z:=(hs_b_Olds).len_le
 refine kg 9 ?_
 refine W.cond (decide ((i2:Int)<(b_Olds.length:Int))) rfl (fun c33z=>?_) (fun c33z=>?_)
 ·replace hM:=M.e_t hM c33z
  simp only [qy1,qy2,qy3,qy4,qy5,qy6,ne_eq,qy7] at c33z
  obtain ⟨sd34z,hM⟩:=M.e_grd hM
  simp only [Bool.and_eq_true,decide_eq_true_eq] at sd34z
  refine kg 9 ?_
  obtain ⟨u35z,ha37z,hs36z⟩:=Old10_atA hs_b_Olds (i:=(i2:Int)) (by omega) (by omega)
  replace hs36z:Sl _ u35z (b_Olds.getD i2 default).passed:=hs36z
  have hl_hs36z:=hs36z.len_le
  refine s_val (x_ld (p:=vat v_b_Olds 4 (Int.toNat (i2:Int))) (v:=.agg #[I ((b_Olds.getD i2 default).src),I ((b_Olds.getD i2 default).dst),I ((b_Olds.getD i2 default).stage),u35z]) rfl (ld_ag Ag125 Sz125 (At.mono ha37z (hC_b_Olds.at H)))) ?_
  refine t_alloc (cs:=[I 0,I 0,I 0,.slice none 0 0]) H Al125 rfl ?_
  intro b_3 w38z H
  refine t_sw 0 0 [I ((b_Olds.getD i2 default).src),I ((b_Olds.getD i2 default).dst),I ((b_Olds.getD i2 default).stage),u35z] (.agg #[I ((b_Olds.getD i2 default).src),I ((b_Olds.getD i2 default).dst),I ((b_Olds.getD i2 default).stage),u35z]) H rfl rfl Sz125 rfl rfl rfl (by simp only [List.all_cons,List.all_nil,Bool.true_and,Bool.and_true,Sl.oc hs36z]; try rfl) ?_
  intro w39z H
  refine kg 9 ?_
  obtain ⟨r41z,hx40z,hM⟩:=M.e_bind hM
  refine s_call cf56 [I year,I ((b_Olds.getD i2 default).src),I ((b_Olds.getD i2 default).dst)] rfl (zae year ((b_Olds.getD i2 default).src) ((b_Olds.getD i2 default).dst) hx40z _ (H.gt 2)) ?_
  rintro vq w42z ⟨r3,hr43z,hvq,H2_⟩
  subst hr43z
  subst vq
  try dsimp only at hM
  replace H:=H.bk H2_
  clear H2_
  refine s_nil ?_
  refine W.cond r3 rfl (fun c44z=>?_) (fun c44z=>?_)
  ·replace hM:=M.e_t hM c44z
   refine W.exit ?_
   refine kg 5 ?_
   exact ⟨m28z,lt29z,i2+1,_,upds_of _ _ ⟨rfl,rfl,rfl,rfl,trivial⟩,M.e_inl hM hN31z,(H.pk [1])⟩
  replace hM:=M.e_f hM c44z
  refine kg 11 ?_
  obtain ⟨ex45z,hi46z,hk47z⟩:=M.e_bind hM
  obtain ⟨m0_,hi46z⟩:=M.e_iter hi46z
  refine W.loop (fun m σ W=>∃ (said:Bool) (k:Nat) (ρ:Env),σ=upds ρ [(1,I year),(2,I stage),(3,Pq b_1),(9,I (i2:Int)),(10,Pq b_3),(11,B said),(12,I (k:Int))]/\M.iterN (za6 b_Olds year i2) m (said,k)=some ex45z/\St w W [cBlk b_3 [I ((b_Olds.getD i2 default).src),I ((b_Olds.getD i2 default).dst),I ((b_Olds.getD i2 default).stage),u35z] 125,cBlk b_1 [v_b_Years,v_b_Olds,I b_First,I b_Last] 77] R) ?_ ?_
  ·exact ⟨_,false,0,_,upds_of _ _ ⟨rfl,rfl,rfl,rfl,rfl,rfl,rfl,trivial⟩,hi46z,H⟩
  rintro m50z σ w48z ⟨said,k,ρ,rfl,hI49z,H⟩
  obtain ⟨m51z,lt52z,x53z,hM,hN54z⟩:=M.e_iterN hI49z
  simp only [za6] at hM
  clear hI49z
  have hl55z:=(hs36z).len_le
  refine kg 9 ?_
  refine W.cond (decide ((k:Int)<(((b_Olds.getD i2 default).passed).length:Int))) rfl (fun c56z=>?_) (fun c56z=>?_)
  ·replace hM:=M.e_t hM c56z
   simp only [qy1,qy2,qy3,qy4,qy5,qy6,ne_eq,qy7] at c56z
   obtain ⟨sd57z,hM⟩:=M.e_grd hM
   replace sd57z:=M.imp_of sd57z
   simp only [Bool.and_eq_true,decide_eq_true_eq] at sd57z
   refine kg 21 ?_
   exact ⟨m51z,lt52z,(said||((((b_Olds.getD i2 default).passed).getD k 0)==year)),k+1,_,upds_of _ _ ⟨rfl,rfl,rfl,rfl,rfl,rfl,rfl,trivial⟩,M.e_inl hM hN54z,H⟩
  replace hM:=M.e_f hM c56z
  simp only [qy1,qy2,qy3,qy4,qy5,qy6,ne_eq,qy7] at c56z
  refine W.exit ?_
  have hX58z:=M.e_inr hM hN54z
  subst hX58z
  replace hM:=hk47z
  try dsimp only at hM
  refine kg 7 ?_
  refine s_val (x_eqb (a:=said) (b:=decide (((b_Olds.getD i2 default).stage)<=stage)) (r:=(said != (decide (((b_Olds.getD i2 default).stage)<=stage)))) rfl rfl Tryz.underlying4 rfl) ?_
  refine s_nil ?_
  refine W.cond (said != (decide (((b_Olds.getD i2 default).stage)<=stage))) rfl (fun c59z=>?_) (fun c59z=>?_)
  ·replace hM:=M.e_t hM c59z
   simp only [qy1,qy2,qy3,qy4,qy5,qy6,ne_eq,qy7] at c59z
   refine kg 4 ?_
   refine W.ret ?_
   have hX60z:=M.e_inr hM hN31z
   subst hX60z
   replace hM:=hk24z
   try dsimp only at hM
   have hr_:=M.e_pure hM
   exact ⟨_,resE_tmp rfl,⟨false,hr_,rfl,(H.pk [])⟩⟩
  replace hM:=M.e_f hM c59z
  simp only [qy1,qy2,qy3,qy4,qy5,qy6,ne_eq,qy7] at c59z
  refine kg 6 ?_
  exact ⟨m28z,lt29z,i2+1,_,upds_of _ _ ⟨rfl,rfl,rfl,rfl,trivial⟩,M.e_inl hM hN31z,(H.pk [1])⟩
 replace hM:=M.e_f hM c33z
 simp only [qy1,qy2,qy3,qy4,qy5,qy6,ne_eq,qy7] at c33z
 refine W.exit ?_
 have hX61z:=M.e_inr hM hN31z
 subst hX61z
 replace hM:=hk24z
 try dsimp only at hM
 refine kg 4 ?_
 refine W.ret ?_
 have hr_:=M.e_pure hM
 exact ⟨_,resE_tmp rfl,⟨true,hr_,rfl,(H.pk [])⟩⟩

def zb0 (stages:List Int):Nat->M (Nat ⊕ (Unit ⊕ Unit)):=fun i =>
  bif decide ((i:Int)<(stages.length:Int)) then (
  M.grd (decide ((i:Int)<(stages.length:Int))) <|
  M.bind (zac (stages.getD i 0) 0 2000) fun r3 =>
  bif r3 then (
  M.pure (.inr (.inl ())))
  else (
  M.pure (.inl (i+1))))
  else (
  M.pure (.inr (.inr ())))
def zbX (b_Years:List Yr) (b_Olds:List Old10) (b_First:Int) (b_Last:Int) (stages:List Int):Nat->M (Nat ⊕ (Unit ⊕ Unit)):=fun i2 =>
  bif decide ((i2:Int)<(stages.length:Int)) then (
  M.grd (decide ((-9223372036854775808:Int)<=(b_First+(i2:Int)))&&decide ((b_First+(i2:Int))<=(9223372036854775807:Int))) <|
  M.grd (decide ((i2:Int)<(stages.length:Int))) <|
  M.bind (zci b_Years b_Olds b_First b_Last (b_First+(i2:Int)) (stages.getD i2 0)) fun r4 =>
  bif !r4 then (
  M.pure (.inr (.inl ())))
  else (
  M.pure (.inl (i2+1))))
  else (
  M.pure (.inr (.inr ())))
def zbx (b_Years:List Yr) (b_Olds:List Old10) (b_First:Int) (b_Last:Int) (stages:List Int):M (Bool × Int) :=
  M.bind (za7 b_Years b_Olds b_First b_Last) fun r2 =>
  bif r2 != 0 then (
  M.pure (false,r2))
  else (
  M.grd (decide ((-9223372036854775808:Int)<=(b_Last-b_First))&&decide ((b_Last-b_First)<=(9223372036854775807:Int))) <|
  M.grd (decide ((-9223372036854775808:Int)<=((b_Last-b_First)+1))&&decide (((b_Last-b_First)+1)<=(9223372036854775807:Int))) <|
  bif (stages.length:Int) != ((b_Last-b_First)+1) then (
  M.pure (false,2))
  else (
  M.bind (M.iter (zb0 stages) 0) fun x_=>match x_ with
  | (.inl (_:Unit))=>(
  M.pure (false,4))
  | (.inr (_:Unit))=>(
  M.bind (M.iter (zbX b_Years b_Olds b_First b_Last stages) 0) fun x_=>match x_ with
  | (.inl (_:Unit))=>(
  M.pure (false,0))
  | (.inr (_:Unit))=>(
  M.pure (true,0)))))
theorem zdH {R:List Chunk} {C_b_Years:Cells} {v_b_Years:Value} {C_b_Olds:Cells} {v_b_Olds:Value} {C_stages:Cells} {v_stages:Value} (b_Years:List Yr) (b_Olds:List Old10) (b_First:Int) (b_Last:Int) (stages:List Int) (hC_b_Years:Reads R C_b_Years) (hs_b_Years:Sl C_b_Years v_b_Years b_Years) (hC_b_Olds:Reads R C_b_Olds) (hs_b_Olds:Sl C_b_Olds v_b_Olds b_Olds) (hC_stages:Reads R C_stages) (hs_stages:Sl C_stages v_stages stages) {r:(Bool × Int)} (hM:(zbx b_Years b_Olds b_First b_Last stages).Ends r) (w:World) (H:St w w [] R):Ret Tryz.prog 34 #[.agg #[v_b_Years,v_b_Olds,I b_First,I b_Last],v_stages] w fun v w'=>∃ (y0:Bool) (y1:Int),(y0,y1)=r/\v = .tuple #[B y0,I y1]/\St w w' [] R:=by
 refine ret_of_W Tryz.func34 rfl rfl rfl ?_
 refine kg 2 ?_
 refine t_box (v:=.agg #[v_b_Years,v_b_Olds,I b_First,I b_Last]) (cs:=[v_b_Years,v_b_Olds,I b_First,I b_Last]) H rfl rfl ?_
 intro b_1 w1z H
 refine kg 7 ?_
 obtain ⟨r3z,hx2z,hM⟩:=M.e_bind hM
 refine s_call cf32 [.agg #[v_b_Years,v_b_Olds,I b_First,I b_Last]] rfl (zdo b_Years b_Olds b_First b_Last (hC_b_Years.app _) hs_b_Years (hC_b_Olds.app _) hs_b_Olds hx2z _ (H.gt 1)) ?_
 rintro vq w4z ⟨r2,hr5z,hvq,H2_⟩
 subst hr5z
 subst vq
 try dsimp only at hM
 replace H:=H.bk H2_
 clear H2_
 refine kg 7 ?_
 refine W.cond (r2 != 0) rfl (fun c6z=>?_) (fun c6z=>?_)
 ·replace hM:=M.e_t hM c6z
  simp only [qy1,qy2,qy3,qy4,qy5,qy6,ne_eq,qy7] at c6z
  refine kg 6 ?_
  refine W.ret ?_
  have hr_:=M.e_pure hM
  exact ⟨_,resE_tmp2 rfl,⟨false,r2,hr_,rfl,(H.pk [])⟩⟩
 replace hM:=M.e_f hM c6z
 simp only [qy1,qy2,qy3,qy4,qy5,qy6,ne_eq,qy7] at c6z
 have hl7z:=(hs_stages).len_le
 obtain ⟨sd8z,hM⟩:=M.e_grd hM
 simp only [Bool.and_eq_true,decide_eq_true_eq] at sd8z
 obtain ⟨sd9z,hM⟩:=M.e_grd hM
 simp only [Bool.and_eq_true,decide_eq_true_eq] at sd9z
 refine kg 14 ?_
 refine W.cond ((stages.length:Int) != ((b_Last-b_First)+1)) rfl (fun c10z=>?_) (fun c10z=>?_)
 ·replace hM:=M.e_t hM c10z
  simp only [qy1,qy2,qy3,qy4,qy5,qy6,ne_eq,qy7] at c10z
  refine kg 5 ?_
  refine W.ret ?_
  have hr_:=M.e_pure hM
  exact ⟨_,resE_tmp2 rfl,⟨false,2,hr_,rfl,(H.pk [])⟩⟩
 replace hM:=M.e_f hM c10z
 simp only [qy1,qy2,qy3,qy4,qy5,qy6,ne_eq,qy7] at c10z
 refine kg 7 ?_
 obtain ⟨ex11z,hi12z,hk13z⟩:=M.e_bind hM
 obtain ⟨m0_,hi12z⟩:=M.e_iter hi12z
 refine W.loop (fun m σ W=>∃ (i:Nat) (ρ:Env),σ=upds ρ [(1,v_stages),(2,Pq b_1),(7,I (i:Int))]/\M.iterN (zb0 stages) m i=some ex11z/\St w W [cBlk b_1 [v_b_Years,v_b_Olds,I b_First,I b_Last] 77] R) ?_ ?_
 ·exact ⟨_,0,_,upds_of _ _ ⟨rfl,rfl,rfl,trivial⟩,hi12z,H⟩
 rintro m16z σ w14z ⟨i,ρ,rfl,hI15z,H⟩
 obtain ⟨m17z,lt18z,x19z,hM,hN20z⟩:=M.e_iterN hI15z
 simp only [zb0] at hM
 clear hI15z
 have hl21z:=(hs_stages).len_le
 refine kg 8 ?_
 refine W.cond (decide ((i:Int)<(stages.length:Int))) rfl (fun c22z=>?_) (fun c22z=>?_)
 ·replace hM:=M.e_t hM c22z
  simp only [qy1,qy2,qy3,qy4,qy5,qy6,ne_eq,qy7] at c22z
  obtain ⟨sd23z,hM⟩:=M.e_grd hM
  simp only [Bool.and_eq_true,decide_eq_true_eq] at sd23z
  refine kg 9 ?_
  obtain ⟨r25z,hx24z,hM⟩:=M.e_bind hM
  refine s_call cf56 [I (stages.getD i 0),I 0,I 2000] rfl (zae (stages.getD i 0) 0 2000 hx24z _ (H.gt 1)) ?_
  rintro vq w26z ⟨r3,hr27z,hvq,H2_⟩
  subst hr27z
  subst vq
  try dsimp only at hM
  replace H:=H.bk H2_
  clear H2_
  refine s_nil ?_
  refine W.cond r3 rfl (fun c28z=>?_) (fun c28z=>?_)
  ·replace hM:=M.e_t hM c28z
   refine kg 5 ?_
   refine W.ret ?_
   have hX29z:=M.e_inr hM hN20z
   subst hX29z
   replace hM:=hk13z
   try dsimp only at hM
   have hr_:=M.e_pure hM
   exact ⟨_,resE_tmp2 rfl,⟨false,4,hr_,rfl,(H.pk [])⟩⟩
  replace hM:=M.e_f hM c28z
  refine kg 6 ?_
  exact ⟨m17z,lt18z,i+1,_,upds_of _ _ ⟨rfl,rfl,rfl,trivial⟩,M.e_inl hM hN20z,H⟩
 replace hM:=M.e_f hM c22z
 simp only [qy1,qy2,qy3,qy4,qy5,qy6,ne_eq,qy7] at c22z
 refine W.exit ?_
 have hX30z:=M.e_inr hM hN20z
 subst hX30z
 replace hM:=hk13z
 try dsimp only at hM
 refine kg 6 ?_
 obtain ⟨ex31z,hi32z,hk33z⟩:=M.e_bind hM
 obtain ⟨m0_,hi32z⟩:=M.e_iter hi32z
 refine W.loop (fun m σ W=>∃ (i2:Nat) (ρ:Env),σ=upds ρ [(1,v_stages),(2,Pq b_1),(8,I (i2:Int))]/\M.iterN (zbX b_Years b_Olds b_First b_Last stages) m i2=some ex31z/\St w W [cBlk b_1 [v_b_Years,v_b_Olds,I b_First,I b_Last] 77] R) ?_ ?_
 ·exact ⟨_,0,_,upds_of _ _ ⟨rfl,rfl,rfl,trivial⟩,hi32z,H⟩
 rintro m36z σ w34z ⟨i2,ρ,rfl,hI35z,H⟩
 obtain ⟨m37z,lt38z,x39z,hM,hN40z⟩:=M.e_iterN hI35z
 simp only [zbX] at hM
 clear hI35z
 have hl41z:=(hs_stages).len_le
 refine kg 8 ?_
 refine W.cond (decide ((i2:Int)<(stages.length:Int))) rfl (fun c42z=>?_) (fun c42z=>?_)
 ·replace hM:=M.e_t hM c42z
  simp only [qy1,qy2,qy3,qy4,qy5,qy6,ne_eq,qy7] at c42z
  refine kg 4 ?_
  refine W.draw (fun W=>St w W [cBlk b_1 [v_b_Years,v_b_Olds,I b_First,I b_Last] 77] R) [(0,true),(1,true),(2,true),(3,true),(4,true),(5,true),(6,true),(7,true),(8,true),(9,false),(10,true)] mixed (by decide +kernel) rfl ?_
  intro w43z hx_
  replace H:=H.ext hx_
  clear hx_
  refine ⟨(H.pk [0]),?_⟩
  obtain ⟨sd44z,hM⟩:=M.e_grd hM
  simp only [Bool.and_eq_true,decide_eq_true_eq] at sd44z
  obtain ⟨sd45z,hM⟩:=M.e_grd hM
  simp only [Bool.and_eq_true,decide_eq_true_eq] at sd45z
  refine kg 9 ?_
  refine d_l rfl ?_
  obtain ⟨r47z,hx46z,hM⟩:=M.e_bind hM
  refine s_call cf74 [.agg #[v_b_Years,v_b_Olds,I b_First,I b_Last],I (b_First+(i2:Int)),I (stages.getD i2 0)] rfl (zdu b_Years b_Olds b_First b_Last (b_First+(i2:Int)) (stages.getD i2 0) (hC_b_Years.app _) hs_b_Years (hC_b_Olds.app _) hs_b_Olds hx46z _ (H.gt 1)) ?_
  rintro vq w48z ⟨r4,hr49z,hvq,H2_⟩
  subst hr49z
  subst vq
  try dsimp only at hM
  replace H:=H.bk H2_
  clear H2_
  refine s_nil ⟨(H.pk [0]),?_⟩
  refine kg 2 ?_
  refine W.cond (!r4) rfl (fun c50z=>?_) (fun c50z=>?_)
  ·replace hM:=M.e_t hM c50z
   refine kg 5 ?_
   refine W.ret ?_
   have hX51z:=M.e_inr hM hN40z
   subst hX51z
   replace hM:=hk33z
   try dsimp only at hM
   have hr_:=M.e_pure hM
   exact ⟨_,resE_tmp2 rfl,⟨false,0,hr_,rfl,(H.pk [])⟩⟩
  replace hM:=M.e_f hM c50z
  refine kg 6 ?_
  exact ⟨m37z,lt38z,i2+1,_,upds_of _ _ ⟨rfl,rfl,rfl,trivial⟩,M.e_inl hM hN40z,H⟩
 replace hM:=M.e_f hM c42z
 simp only [qy1,qy2,qy3,qy4,qy5,qy6,ne_eq,qy7] at c42z
 refine W.exit ?_
 have hX52z:=M.e_inr hM hN40z
 subst hX52z
 replace hM:=hk33z
 try dsimp only at hM
 refine kg 5 ?_
 refine W.ret ?_
 have hr_:=M.e_pure hM
 exact ⟨_,resE_tmp2 rfl,⟨true,0,hr_,rfl,(H.pk [])⟩⟩

def zcP (b_Years:List Yr) (b_Olds:List Old10) (b_First:Int) (b_Last:Int):M (Int × Int) :=
  M.bind (zao b_Years b_Olds b_First b_Last) fun x_=>match x_ with
  | (.inl r1)=>(
  bif r1 != 0 then (
  M.pure (0,r1))
  else (
  M.fail))
  | (.inr (r02,r03,r04,r12))=>(
  bif r12 != 0 then (
  M.fail)
  else (
  M.bind (zaL b_Years b_Olds r02 r03 r04) fun (r0,r13) =>
  bif !r13 then (
  M.pure (0,5))
  else (
  M.pure (r0,0))))
theorem zee {R:List Chunk} {C_b_Years:Cells} {v_b_Years:Value} {C_b_Olds:Cells} {v_b_Olds:Value} (b_Years:List Yr) (b_Olds:List Old10) (b_First:Int) (b_Last:Int) (hC_b_Years:Reads R C_b_Years) (hs_b_Years:Sl C_b_Years v_b_Years b_Years) (hC_b_Olds:Reads R C_b_Olds) (hs_b_Olds:Sl C_b_Olds v_b_Olds b_Olds) {r:(Int × Int)} (hM:(zcP b_Years b_Olds b_First b_Last).Ends r) (w:World) (H:St w w [] R):Ret Tryz.prog 35 #[.agg #[v_b_Years,v_b_Olds,I b_First,I b_Last]] w fun v w'=>∃ (y0:Int) (y1:Int),(y0,y1)=r/\v = .tuple #[I y0,I y1]/\St w w' [] R:=by
 refine ret_of_W Tryz.func35 rfl rfl rfl ?_
 refine kg 2 ?_
 refine t_box (v:=.agg #[v_b_Years,v_b_Olds,I b_First,I b_Last]) (cs:=[v_b_Years,v_b_Olds,I b_First,I b_Last]) H rfl rfl ?_
 intro b_1 w1z H
 refine kg 6 ?_
 obtain ⟨r3z,hx2z,hM⟩:=M.e_bind hM
 refine s_call cf72 [.agg #[v_b_Years,v_b_Olds,I b_First,I b_Last]] rfl (zcN b_Years b_Olds b_First b_Last (hC_b_Years.app _) hs_b_Years (hC_b_Olds.app _) hs_b_Olds hx2z _ (H.gt 1)) ?_
 rintro vq w4z (⟨r1,hr5z,hvq,H2_⟩ | ⟨r02,r03,r04,r12,nb0_2,nb1_3,hr6z,hvq,H2_⟩)
 ·subst hr5z
  subst vq
  try dsimp only at hM
  replace H:=H.bk H2_
  clear H2_
  refine kg 12 ?_
  refine W.cond (r1 != 0) rfl (fun c7z=>?_) (fun c7z=>?_)
  ·replace hM:=M.e_t hM c7z
   simp only [qy1,qy2,qy3,qy4,qy5,qy6,ne_eq,qy7] at c7z
   refine kg 6 ?_
   refine W.ret ?_
   have hr_:=M.e_pure hM
   exact ⟨_,resE_tmp2 rfl,⟨0,r1,hr_,rfl,(H.pk [])⟩⟩
  replace hM:=M.e_f hM c7z
  exact (M.e_fail hM).elim
 subst hr6z
 subst vq
 try dsimp only at hM
 replace H:=H.bk H2_
 clear H2_
 refine kg 12 ?_
 refine W.cond (r12 != 0) rfl (fun c8z=>?_) (fun c8z=>?_)
 ·replace hM:=M.e_t hM c8z
  exact (M.e_fail hM).elim
 replace hM:=M.e_f hM c8z
 simp only [qy1,qy2,qy3,qy4,qy5,qy6,ne_eq,qy7] at c8z
 refine kg 4 ?_
 obtain ⟨r10z,hx9z,hM⟩:=M.e_bind hM
 refine s_call cf75 [Pq nb0_2] rfl (zc9 b_Years b_Olds r02 r03 r04 (hC_b_Years.app _) hs_b_Years (hC_b_Olds.app _) hs_b_Olds (Has.here (k:=1) rfl) (Has.here (k:=0) rfl) hx9z _ (H.gt 3)) ?_
 rintro vq w11z ⟨r0,r13,hr12z,hvq,H2_⟩
 subst hr12z
 subst vq
 try dsimp only at hM
 replace H:=H.bk H2_
 clear H2_
 refine kg 12 ?_
 refine W.cond (!r13) rfl (fun c13z=>?_) (fun c13z=>?_)
 ·replace hM:=M.e_t hM c13z
  refine kg 5 ?_
  refine W.ret ?_
  have hr_:=M.e_pure hM
  exact ⟨_,resE_tmp2 rfl,⟨0,5,hr_,rfl,(H.pk [])⟩⟩
 replace hM:=M.e_f hM c13z
 refine kg 7 ?_
 refine W.ret ?_
 have hr_:=M.e_pure hM
 exact ⟨_,resE_tmp2 rfl,⟨r0,0,hr_,rfl,(H.pk [])⟩⟩

def zb2 (b_Years:List Yr) (b_Olds:List Old10) (b_First:Int) (b_Last:Int) (year:Int):(Int × Bool × Nat × Int)->M ((Int × Bool × Nat × Int) ⊕ (Int × Int)):=fun (s,s2,stage,s3) =>
  bif decide ((stage:Int)<=2000) then (
  M.bind (zci b_Years b_Olds b_First b_Last year (stage:Int)) fun r2 =>
  bif r2 then (
  bif !s2 then (
  M.grd (decide ((-9223372036854775808:Int)<=((stage:Int)+1))&&decide (((stage:Int)+1)<=(9223372036854775807:Int))) <|
  M.pure (.inl ((stage:Int),true,stage+1,(stage:Int))))
  else (
  M.grd (decide ((-9223372036854775808:Int)<=((stage:Int)+1))&&decide (((stage:Int)+1)<=(9223372036854775807:Int))) <|
  M.pure (.inl (s,true,stage+1,(stage:Int)))))
  else (
  M.grd (decide ((-9223372036854775808:Int)<=((stage:Int)+1))&&decide (((stage:Int)+1)<=(9223372036854775807:Int))) <|
  M.pure (.inl (s,s2,stage+1,s3))))
  else (
  M.pure (.inr (s,s3)))
def zaA (b_Years:List Yr) (b_Olds:List Old10) (b_First:Int) (b_Last:Int) (year:Int):M (Int × Int) :=
  M.bind (M.iter (zb2 b_Years b_Olds b_First b_Last year) (1,false,0,0)) fun (s4,s5) =>
  M.pure (s4,s5)
theorem zcX {R:List Chunk} {C_b_Years:Cells} {v_b_Years:Value} {C_b_Olds:Cells} {v_b_Olds:Value} (b_Years:List Yr) (b_Olds:List Old10) (b_First:Int) (b_Last:Int) (year:Int) (hC_b_Years:Reads R C_b_Years) (hs_b_Years:Sl C_b_Years v_b_Years b_Years) (hC_b_Olds:Reads R C_b_Olds) (hs_b_Olds:Sl C_b_Olds v_b_Olds b_Olds) {r:(Int × Int)} (hM:(zaA b_Years b_Olds b_First b_Last year).Ends r) (w:World) (H:St w w [] R):Ret Tryz.prog 76 #[.agg #[v_b_Years,v_b_Olds,I b_First,I b_Last],I year] w fun v w'=>∃ (y0:Int) (y1:Int),(y0,y1)=r/\v = .agg #[I y0,I y1]/\St w w' [] R:=by
 refine ret_of_W Tryz.func76 rfl rfl rfl ?_
 refine kg 2 ?_
 refine t_box (v:=.agg #[v_b_Years,v_b_Olds,I b_First,I b_Last]) (cs:=[v_b_Years,v_b_Olds,I b_First,I b_Last]) H rfl rfl ?_
 intro b_1 w1z H
 refine t_alloc (cs:=[I 0,I 0]) H Al34 rfl ?_
 intro b_2 w2z H
 refine kg 3 ?_
 refine s_val (x_bld (ps:=[(0,I 1)]) (zs:=[I 0,I 0]) (L':=[I 1,I 0]) rfl Tryz.underlying34 Al34 rfl (Bd34 Tryz.underlying34) (.cons (cs:=[I 1]) rfl rfl rfl rfl rfl<|.nil)) ?_
 refine t_alloc (cs:=[I 0,I 0]) H Al34 rfl ?_
 intro b_3 w3z H
 refine t_sw 0 0 [I 1,I 0] (.agg #[I 1,I 0]) H rfl rfl Sz34 rfl rfl rfl rfl ?_
 intro w4z H
 refine kg 11 ?_
 obtain ⟨ex5z,hi6z,hk7z⟩:=M.e_bind hM
 obtain ⟨m0_,hi6z⟩:=M.e_iter hi6z
 refine W.loop (fun m σ W=>∃ (s:Int) (s2:Bool) (stage:Nat) (s3:Int) (ρ:Env),σ=upds ρ [(1,I year),(2,Pq b_1),(4,Pq b_2),(5,Pq b_3),(6,B s2),(7,I (stage:Int))]/\M.iterN (zb2 b_Years b_Olds b_First b_Last year) m (s,s2,stage,s3)=some ex5z/\St w W [cBlk b_3 [I s,I s3] 34,cBlk b_2 [I 0,I 0] 34,cBlk b_1 [v_b_Years,v_b_Olds,I b_First,I b_Last] 77] R) ?_ ?_
 ·exact ⟨_,1,false,0,0,_,upds_of _ _ ⟨rfl,rfl,rfl,rfl,rfl,rfl,trivial⟩,hi6z,H⟩
 rintro m10z σ w8z ⟨s,s2,stage,s3,ρ,rfl,hI9z,H⟩
 obtain ⟨m11z,lt12z,x13z,hM,hN14z⟩:=M.e_iterN hI9z
 simp only [zb2] at hM
 clear hI9z
 refine kg 6 ?_
 refine W.cond (decide ((stage:Int)<=2000)) rfl (fun c15z=>?_) (fun c15z=>?_)
 ·replace hM:=M.e_t hM c15z
  simp only [qy1,qy2,qy3,qy4,qy5,qy6,ne_eq,qy7] at c15z
  refine kg 8 ?_
  obtain ⟨r17z,hx16z,hM⟩:=M.e_bind hM
  refine s_call cf74 [.agg #[v_b_Years,v_b_Olds,I b_First,I b_Last],I year,I (stage:Int)] rfl (zdu b_Years b_Olds b_First b_Last year (stage:Int) (hC_b_Years.app _) hs_b_Years (hC_b_Olds.app _) hs_b_Olds hx16z _ (H.gt 3)) ?_
  rintro vq w18z ⟨r2,hr19z,hvq,H2_⟩
  subst hr19z
  subst vq
  try dsimp only at hM
  replace H:=H.bk H2_
  clear H2_
  refine s_nil ?_
  refine W.cond r2 rfl (fun c20z=>?_) (fun c20z=>?_)
  ·replace hM:=M.e_t hM c20z
   refine kg 6 ?_
   refine W.cond (!s2) rfl (fun c21z=>?_) (fun c21z=>?_)
   ·replace hM:=M.e_t hM c21z
    refine kg 3 ?_
    refine t_sw 0 0 [I (stage:Int)] (I (stage:Int)) H rfl rfl Sz3 rfl rfl rfl rfl ?_
    intro w22z H
    refine kg 4 ?_
    refine t_sw 0 1 [I (stage:Int)] (I (stage:Int)) H rfl rfl Sz3 rfl rfl rfl rfl ?_
    intro w23z H
    obtain ⟨sd24z,hM⟩:=M.e_grd hM
    simp only [Bool.and_eq_true,decide_eq_true_eq] at sd24z
    refine kg 7 ?_
    exact ⟨m11z,lt12z,(stage:Int),true,stage+1,(stage:Int),_,upds_of _ _ ⟨rfl,rfl,rfl,rfl,rfl,rfl,trivial⟩,M.e_inl hM hN14z,H⟩
   replace hM:=M.e_f hM c21z
   refine kg 4 ?_
   refine t_sw 0 1 [I (stage:Int)] (I (stage:Int)) H rfl rfl Sz3 rfl rfl rfl rfl ?_
   intro w25z H
   obtain ⟨sd26z,hM⟩:=M.e_grd hM
   simp only [Bool.and_eq_true,decide_eq_true_eq] at sd26z
   refine kg 7 ?_
   exact ⟨m11z,lt12z,s,true,stage+1,(stage:Int),_,upds_of _ _ ⟨rfl,rfl,rfl,rfl,rfl,rfl,trivial⟩,M.e_inl hM hN14z,H⟩
  replace hM:=M.e_f hM c20z
  obtain ⟨sd27z,hM⟩:=M.e_grd hM
  simp only [Bool.and_eq_true,decide_eq_true_eq] at sd27z
  refine kg 6 ?_
  exact ⟨m11z,lt12z,s,s2,stage+1,s3,_,upds_of _ _ ⟨rfl,rfl,rfl,rfl,rfl,rfl,trivial⟩,M.e_inl hM hN14z,H⟩
 replace hM:=M.e_f hM c15z
 simp only [qy1,qy2,qy3,qy4,qy5,qy6,ne_eq,qy7] at c15z
 refine W.exit ?_
 have hX28z:=M.e_inr hM hN14z
 subst hX28z
 replace hM:=hk7z
 try dsimp only at hM
 refine kg 3 ?_
 refine t_sw 1 0 [I s,I s3] (.agg #[I s,I s3]) H rfl rfl Sz34 rfl rfl rfl rfl ?_
 intro w29z H
 refine s_nil ?_
 refine W.ret ?_
 have hb30z:=(H.bl 1)
 have hr_:=M.e_pure hM
 exact ⟨_,(resE_of1 (v:=.agg #[I s,I s3]) rfl (.cell (v:=.agg #[I s,I s3]) rfl (run_loadVar_ag (ds:=[I s,I s3]) Ag34 Sz34 hb30z rfl rfl)<|.nil)),⟨s,s3,hr_,rfl,(H.pk [])⟩⟩

def zbU (b_Years:List Yr) (b_Olds:List Old10) (b_First:Int) (b_Last:Int):Int->M (Int ⊕ (Int ⊕ Unit)):=fun year =>
  bif decide (year<=b_Last) then (
  M.bind (zaA b_Years b_Olds b_First b_Last year) fun (r0,r1) =>
  bif decide (r1<r0) then (
  M.pure (.inr (.inl year)))
  else (
  M.grd (decide ((-9223372036854775808:Int)<=(year+1))&&decide ((year+1)<=(9223372036854775807:Int))) <|
  M.pure (.inl (year+1))))
  else (
  M.pure (.inr (.inr ())))
def zbh (b_Years:List Yr) (b_Olds:List Old10) (b_First:Int) (b_Last:Int):M (Int × Int) :=
  M.bind (za7 b_Years b_Olds b_First b_Last) fun r2 =>
  bif r2 != 0 then (
  M.pure (0,r2))
  else (
  M.bind (M.iter (zbU b_Years b_Olds b_First b_Last) b_First) fun x_=>match x_ with
  | (.inl s)=>(
  M.pure (s,0))
  | (.inr (_:Unit))=>(
  M.pure (0,5)))
theorem zdl {R:List Chunk} {C_b_Years:Cells} {v_b_Years:Value} {C_b_Olds:Cells} {v_b_Olds:Value} (b_Years:List Yr) (b_Olds:List Old10) (b_First:Int) (b_Last:Int) (hC_b_Years:Reads R C_b_Years) (hs_b_Years:Sl C_b_Years v_b_Years b_Years) (hC_b_Olds:Reads R C_b_Olds) (hs_b_Olds:Sl C_b_Olds v_b_Olds b_Olds) {r:(Int × Int)} (hM:(zbh b_Years b_Olds b_First b_Last).Ends r) (w:World) (H:St w w [] R):Ret Tryz.prog 36 #[.agg #[v_b_Years,v_b_Olds,I b_First,I b_Last]] w fun v w'=>∃ (y0:Int) (y1:Int),(y0,y1)=r/\v = .tuple #[I y0,I y1]/\St w w' [] R:=by
 refine ret_of_W Tryz.func36 rfl rfl rfl ?_
 refine kg 2 ?_
 refine t_box (v:=.agg #[v_b_Years,v_b_Olds,I b_First,I b_Last]) (cs:=[v_b_Years,v_b_Olds,I b_First,I b_Last]) H rfl rfl ?_
 intro b_1 w1z H
 refine kg 7 ?_
 obtain ⟨r3z,hx2z,hM⟩:=M.e_bind hM
 refine s_call cf32 [.agg #[v_b_Years,v_b_Olds,I b_First,I b_Last]] rfl (zdo b_Years b_Olds b_First b_Last (hC_b_Years.app _) hs_b_Years (hC_b_Olds.app _) hs_b_Olds hx2z _ (H.gt 1)) ?_
 rintro vq w4z ⟨r2,hr5z,hvq,H2_⟩
 subst hr5z
 subst vq
 try dsimp only at hM
 replace H:=H.bk H2_
 clear H2_
 refine kg 7 ?_
 refine W.cond (r2 != 0) rfl (fun c6z=>?_) (fun c6z=>?_)
 ·replace hM:=M.e_t hM c6z
  simp only [qy1,qy2,qy3,qy4,qy5,qy6,ne_eq,qy7] at c6z
  refine kg 6 ?_
  refine W.ret ?_
  have hr_:=M.e_pure hM
  exact ⟨_,resE_tmp2 rfl,⟨0,r2,hr_,rfl,(H.pk [])⟩⟩
 replace hM:=M.e_f hM c6z
 simp only [qy1,qy2,qy3,qy4,qy5,qy6,ne_eq,qy7] at c6z
 refine kg 9 ?_
 obtain ⟨ex7z,hi8z,hk9z⟩:=M.e_bind hM
 obtain ⟨m0_,hi8z⟩:=M.e_iter hi8z
 refine W.loop (fun m σ W=>∃ (year:Int) (ρ:Env),σ=upds ρ [(1,Pq b_1),(5,I year)]/\M.iterN (zbU b_Years b_Olds b_First b_Last) m year=some ex7z/\St w W [cBlk b_1 [v_b_Years,v_b_Olds,I b_First,I b_Last] 77] R) ?_ ?_
 ·exact ⟨_,b_First,_,upds_of _ _ ⟨rfl,rfl,trivial⟩,hi8z,H⟩
 rintro m12z σ w10z ⟨year,ρ,rfl,hI11z,H⟩
 obtain ⟨m13z,lt14z,x15z,hM,hN16z⟩:=M.e_iterN hI11z
 simp only [zbU] at hM
 clear hI11z
 refine kg 8 ?_
 refine W.cond (decide (year<=b_Last)) rfl (fun c17z=>?_) (fun c17z=>?_)
 ·replace hM:=M.e_t hM c17z
  simp only [qy1,qy2,qy3,qy4,qy5,qy6,ne_eq,qy7] at c17z
  refine kg 7 ?_
  obtain ⟨r19z,hx18z,hM⟩:=M.e_bind hM
  refine s_call cf76 [.agg #[v_b_Years,v_b_Olds,I b_First,I b_Last],I year] rfl (zcX b_Years b_Olds b_First b_Last year (hC_b_Years.app _) hs_b_Years (hC_b_Olds.app _) hs_b_Olds hx18z _ (H.gt 1)) ?_
  rintro vq w20z ⟨r0,r1,hr21z,hvq,H2_⟩
  subst hr21z
  subst vq
  try dsimp only at hM
  replace H:=H.bk H2_
  clear H2_
  refine t_alloc (cs:=[I 0,I 0]) H Al34 rfl ?_
  intro b_2 w22z H
  refine t_sw 0 0 [I r0,I r1] (.agg #[I r0,I r1]) H rfl rfl Sz34 rfl rfl rfl rfl ?_
  intro w23z H
  refine kg 9 ?_
  refine W.cond (decide (r1<r0)) rfl (fun c24z=>?_) (fun c24z=>?_)
  ·replace hM:=M.e_t hM c24z
   simp only [qy1,qy2,qy3,qy4,qy5,qy6,ne_eq,qy7] at c24z
   refine kg 6 ?_
   refine W.ret ?_
   have hX25z:=M.e_inr hM hN16z
   subst hX25z
   replace hM:=hk9z
   try dsimp only at hM
   have hr_:=M.e_pure hM
   exact ⟨_,resE_tmp2 rfl,⟨year,0,hr_,rfl,(H.pk [])⟩⟩
  replace hM:=M.e_f hM c24z
  simp only [qy1,qy2,qy3,qy4,qy5,qy6,ne_eq,qy7] at c24z
  obtain ⟨sd26z,hM⟩:=M.e_grd hM
  simp only [Bool.and_eq_true,decide_eq_true_eq] at sd26z
  refine kg 6 ?_
  exact ⟨m13z,lt14z,year+1,_,upds_of _ _ ⟨rfl,rfl,trivial⟩,M.e_inl hM hN16z,(H.pk [1])⟩
 replace hM:=M.e_f hM c17z
 simp only [qy1,qy2,qy3,qy4,qy5,qy6,ne_eq,qy7] at c17z
 refine W.exit ?_
 have hX27z:=M.e_inr hM hN16z
 subst hX27z
 replace hM:=hk9z
 try dsimp only at hM
 refine kg 5 ?_
 refine W.ret ?_
 have hr_:=M.e_pure hM
 exact ⟨_,resE_tmp2 rfl,⟨0,5,hr_,rfl,(H.pk [])⟩⟩

def zcL (b_Years:List Yr) (b_Olds:List Old10) (b_First:Int) (b_Last:Int) (year:Int):M (Int × Int × Int) :=
  M.bind (zao b_Years b_Olds b_First b_Last) fun x_=>match x_ with
  | (.inl r1)=>(
  bif r1 != 0 then (
  M.pure (0,0,r1))
  else (
  M.fail))
  | (.inr (r02,r03,r04,r12))=>(
  bif r12 != 0 then (
  M.fail)
  else (
  M.bind (zab year b_First b_Last) fun r2 =>
  bif !r2 then (
  M.pure (0,0,2))
  else (
  M.bind (zaL b_Years b_Olds r02 r03 r04) fun (r0,r13) =>
  bif r13 then (
  M.pure (0,0,6))
  else (
  M.pure ((((lookM r04 (year:Int)).getD default).lo),(((lookM r04 (year:Int)).getD default).hi),0)))))
theorem zd8 {R:List Chunk} {C_b_Years:Cells} {v_b_Years:Value} {C_b_Olds:Cells} {v_b_Olds:Value} (b_Years:List Yr) (b_Olds:List Old10) (b_First:Int) (b_Last:Int) (year:Int) (hC_b_Years:Reads R C_b_Years) (hs_b_Years:Sl C_b_Years v_b_Years b_Years) (hC_b_Olds:Reads R C_b_Olds) (hs_b_Olds:Sl C_b_Olds v_b_Olds b_Olds) {r:(Int × Int × Int)} (hM:(zcL b_Years b_Olds b_First b_Last year).Ends r) (w:World) (H:St w w [] R):Ret Tryz.prog 37 #[.agg #[v_b_Years,v_b_Olds,I b_First,I b_Last],I year] w fun v w'=>∃ (y0:Int) (y1:Int) (y2:Int),(y0,y1,y2)=r/\v = .tuple #[.agg #[I y0,I y1],I y2]/\St w w' [] R:=by
 refine ret_of_W Tryz.func37 rfl rfl rfl ?_
 refine kg 2 ?_
 refine t_box (v:=.agg #[v_b_Years,v_b_Olds,I b_First,I b_Last]) (cs:=[v_b_Years,v_b_Olds,I b_First,I b_Last]) H rfl rfl ?_
 intro b_1 w1z H
 refine t_alloc (cs:=[I 0,I 0]) H Al34 rfl ?_
 intro b_2 w2z H
 refine kg 5 ?_
 obtain ⟨r4z,hx3z,hM⟩:=M.e_bind hM
 refine s_call cf72 [.agg #[v_b_Years,v_b_Olds,I b_First,I b_Last]] rfl (zcN b_Years b_Olds b_First b_Last (hC_b_Years.app _) hs_b_Years (hC_b_Olds.app _) hs_b_Olds hx3z _ (H.gt 2)) ?_
 rintro vq w5z (⟨r1,hr6z,hvq,H2_⟩ | ⟨r02,r03,r04,r12,nb0_3,nb1_4,hr7z,hvq,H2_⟩)
 ·subst hr6z
  subst vq
  try dsimp only at hM
  replace H:=H.bk H2_
  clear H2_
  refine kg 14 ?_
  refine W.cond (r1 != 0) rfl (fun c8z=>?_) (fun c8z=>?_)
  ·replace hM:=M.e_t hM c8z
   simp only [qy1,qy2,qy3,qy4,qy5,qy6,ne_eq,qy7] at c8z
   refine kg 2 ?_
   refine s_val (x_bld (ps:=[]) (zs:=[I 0,I 0]) (L':=[I 0,I 0]) rfl Tryz.underlying34 Al34 rfl (Bd34 Tryz.underlying34) (.nil)) ?_
   refine kg 1 ?_
   refine t_sw 0 0 [I 0,I 0] (.agg #[I 0,I 0]) H rfl rfl Sz34 rfl rfl rfl rfl ?_
   intro w9z H
   refine kg 2 ?_
   refine W.ret ?_
   have hb10z:=(H.bl 0)
   have hr_:=M.e_pure hM
   exact ⟨_,(resE_ofn (vs:=[.agg #[I 0,I 0],I r1]) rfl rfl (.cell (v:=.agg #[I 0,I 0]) rfl (run_loadVar_ag (ds:=[I 0,I 0]) Ag34 Sz34 hb10z rfl rfl)<|.tmp (v:=I r1) rfl<|.nil)),⟨0,0,r1,hr_,rfl,(H.pk [])⟩⟩
  replace hM:=M.e_f hM c8z
  exact (M.e_fail hM).elim
 subst hr7z
 subst vq
 try dsimp only at hM
 replace H:=H.bk H2_
 clear H2_
 refine kg 14 ?_
 refine W.cond (r12 != 0) rfl (fun c11z=>?_) (fun c11z=>?_)
 ·replace hM:=M.e_t hM c11z
  exact (M.e_fail hM).elim
 replace hM:=M.e_f hM c11z
 simp only [qy1,qy2,qy3,qy4,qy5,qy6,ne_eq,qy7] at c11z
 refine kg 7 ?_
 obtain ⟨r13z,hx12z,hM⟩:=M.e_bind hM
 refine s_call cf45 [I year,I b_First,I b_Last] rfl (zad year b_First b_Last hx12z _ (H.gt 4)) ?_
 rintro vq w14z ⟨r2,hr15z,hvq,H2_⟩
 subst hr15z
 subst vq
 try dsimp only at hM
 replace H:=H.bk H2_
 clear H2_
 refine kg 3 ?_
 refine W.cond (!r2) rfl (fun c16z=>?_) (fun c16z=>?_)
 ·replace hM:=M.e_t hM c16z
  refine kg 2 ?_
  refine s_val (x_bld (ps:=[]) (zs:=[I 0,I 0]) (L':=[I 0,I 0]) rfl Tryz.underlying34 Al34 rfl (Bd34 Tryz.underlying34) (.nil)) ?_
  refine t_sw 2 0 [I 0,I 0] (.agg #[I 0,I 0]) H rfl rfl Sz34 rfl rfl rfl rfl ?_
  intro w17z H
  refine kg 2 ?_
  refine W.ret ?_
  have hb18z:=(H.bl 2)
  have hr_:=M.e_pure hM
  exact ⟨_,(resE_ofn (vs:=[.agg #[I 0,I 0],I 2]) rfl rfl (.cell (v:=.agg #[I 0,I 0]) rfl (run_loadVar_ag (ds:=[I 0,I 0]) Ag34 Sz34 hb18z rfl rfl)<|.tmp (v:=I 2) rfl<|.nil)),⟨0,0,2,hr_,rfl,(H.pk [])⟩⟩
 replace hM:=M.e_f hM c16z
 refine kg 5 ?_
 obtain ⟨r20z,hx19z,hM⟩:=M.e_bind hM
 refine s_call cf75 [Pq nb0_3] rfl (zc9 b_Years b_Olds r02 r03 r04 (hC_b_Years.app _) hs_b_Years (hC_b_Olds.app _) hs_b_Olds (Has.here (k:=1) rfl) (Has.here (k:=0) rfl) hx19z _ (H.gt 4)) ?_
 rintro vq w21z ⟨r0,r13,hr22z,hvq,H2_⟩
 subst hr22z
 subst vq
 try dsimp only at hM
 replace H:=H.bk H2_
 clear H2_
 refine kg 10 ?_
 refine W.cond r13 rfl (fun c23z=>?_) (fun c23z=>?_)
 ·replace hM:=M.e_t hM c23z
  refine kg 2 ?_
  refine s_val (x_bld (ps:=[]) (zs:=[I 0,I 0]) (L':=[I 0,I 0]) rfl Tryz.underlying34 Al34 rfl (Bd34 Tryz.underlying34) (.nil)) ?_
  refine t_sw 2 0 [I 0,I 0] (.agg #[I 0,I 0]) H rfl rfl Sz34 rfl rfl rfl rfl ?_
  intro w24z H
  refine kg 2 ?_
  refine W.ret ?_
  have hb25z:=(H.bl 2)
  have hr_:=M.e_pure hM
  exact ⟨_,(resE_ofn (vs:=[.agg #[I 0,I 0],I 6]) rfl rfl (.cell (v:=.agg #[I 0,I 0]) rfl (run_loadVar_ag (ds:=[I 0,I 0]) Ag34 Sz34 hb25z rfl rfl)<|.tmp (v:=I 6) rfl<|.nil)),⟨0,0,6,hr_,rfl,(H.pk [])⟩⟩
 replace hM:=M.e_f hM c23z
 refine kg 8 ?_
 refine s_val (q_look (kenc:=I) (venc:=encSp) (f:=lookM r04) (k:=(year:Int)) (v:=.agg #[I (((lookM r04 (year:Int)).getD default).lo),I (((lookM r04 (year:Int)).getD default).hi)]) keyIntSp Tryz.underlying130 Al34 rfl rfl (mlMap (H.get (k:=1) rfl)) false (by rw [if_neg (by decide),span_val])) ?_
 refine t_sw 2 0 [I (((lookM r04 (year:Int)).getD default).lo),I (((lookM r04 (year:Int)).getD default).hi)] (.agg #[I (((lookM r04 (year:Int)).getD default).lo),I (((lookM r04 (year:Int)).getD default).hi)]) H rfl rfl Sz34 rfl rfl rfl rfl ?_
 intro w26z H
 refine kg 2 ?_
 refine W.ret ?_
 have hb27z:=(H.bl 2)
 have hr_:=M.e_pure hM
 exact ⟨_,(resE_ofn (vs:=[.agg #[I (((lookM r04 (year:Int)).getD default).lo),I (((lookM r04 (year:Int)).getD default).hi)],I 0]) rfl rfl (.cell (v:=.agg #[I (((lookM r04 (year:Int)).getD default).lo),I (((lookM r04 (year:Int)).getD default).hi)]) rfl (run_loadVar_ag (ds:=[I (((lookM r04 (year:Int)).getD default).lo),I (((lookM r04 (year:Int)).getD default).hi)]) Ag34 Sz34 hb27z rfl rfl)<|.tmp (v:=I 0) rfl<|.nil)),⟨(((lookM r04 (year:Int)).getD default).lo),(((lookM r04 (year:Int)).getD default).hi),0,hr_,rfl,(H.pk [])⟩⟩

def zcW (b_Years:List Yr) (b_Olds:List Old10) (b_First:Int) (b_Last:Int) (year:Int):M (Int × Int × Int) :=
  M.bind (zbh b_Years b_Olds b_First b_Last) fun (r0,r1) =>
  bif ((r1 != 0)&&(r1 != 5)) then (
  M.pure (0,0,r1))
  else (
  M.bind (zac year b_First b_Last) fun r2 =>
  bif r2 then (
  M.pure (0,0,2))
  else (
  bif r1==0 then (
  M.pure (0,0,6))
  else (
  M.bind (zaA b_Years b_Olds b_First b_Last year) fun (r02,r12) =>
  M.pure (r02,r12,0))))
theorem zdX {R:List Chunk} {C_b_Years:Cells} {v_b_Years:Value} {C_b_Olds:Cells} {v_b_Olds:Value} (b_Years:List Yr) (b_Olds:List Old10) (b_First:Int) (b_Last:Int) (year:Int) (hC_b_Years:Reads R C_b_Years) (hs_b_Years:Sl C_b_Years v_b_Years b_Years) (hC_b_Olds:Reads R C_b_Olds) (hs_b_Olds:Sl C_b_Olds v_b_Olds b_Olds) {r:(Int × Int × Int)} (hM:(zcW b_Years b_Olds b_First b_Last year).Ends r) (w:World) (H:St w w [] R):Ret Tryz.prog 38 #[.agg #[v_b_Years,v_b_Olds,I b_First,I b_Last],I year] w fun v w'=>∃ (y0:Int) (y1:Int) (y2:Int),(y0,y1,y2)=r/\v = .tuple #[.agg #[I y0,I y1],I y2]/\St w w' [] R:=by
 refine ret_of_W Tryz.func38 rfl rfl rfl ?_
 refine kg 2 ?_
 refine t_box (v:=.agg #[v_b_Years,v_b_Olds,I b_First,I b_Last]) (cs:=[v_b_Years,v_b_Olds,I b_First,I b_Last]) H rfl rfl ?_
 intro b_1 w1z H
 refine t_alloc (cs:=[I 0,I 0]) H Al34 rfl ?_
 intro b_2 w2z H
 refine kg 5 ?_
 obtain ⟨r4z,hx3z,hM⟩:=M.e_bind hM
 refine s_call cf36 [.agg #[v_b_Years,v_b_Olds,I b_First,I b_Last]] rfl (zdl b_Years b_Olds b_First b_Last (hC_b_Years.app _) hs_b_Years (hC_b_Olds.app _) hs_b_Olds hx3z _ (H.gt 2)) ?_
 rintro vq w5z ⟨r0,r1,hr6z,hvq,H2_⟩
 subst hr6z
 subst vq
 try dsimp only at hM
 replace H:=H.bk H2_
 clear H2_
 refine kg 16 ?_
 refine W.cond ((r1 != 0)&&(r1 != 5)) rfl (fun c7z=>?_) (fun c7z=>?_)
 ·replace hM:=M.e_t hM c7z
  refine kg 2 ?_
  refine s_val (x_bld (ps:=[]) (zs:=[I 0,I 0]) (L':=[I 0,I 0]) rfl Tryz.underlying34 Al34 rfl (Bd34 Tryz.underlying34) (.nil)) ?_
  refine kg 1 ?_
  refine t_sw 0 0 [I 0,I 0] (.agg #[I 0,I 0]) H rfl rfl Sz34 rfl rfl rfl rfl ?_
  intro w8z H
  refine kg 2 ?_
  refine W.ret ?_
  have hb9z:=(H.bl 0)
  have hr_:=M.e_pure hM
  exact ⟨_,(resE_ofn (vs:=[.agg #[I 0,I 0],I r1]) rfl rfl (.cell (v:=.agg #[I 0,I 0]) rfl (run_loadVar_ag (ds:=[I 0,I 0]) Ag34 Sz34 hb9z rfl rfl)<|.tmp (v:=I r1) rfl<|.nil)),⟨0,0,r1,hr_,rfl,(H.pk [])⟩⟩
 replace hM:=M.e_f hM c7z
 refine kg 9 ?_
 obtain ⟨r11z,hx10z,hM⟩:=M.e_bind hM
 refine s_call cf56 [I year,I b_First,I b_Last] rfl (zae year b_First b_Last hx10z _ (H.gt 2)) ?_
 rintro vq w12z ⟨r2,hr13z,hvq,H2_⟩
 subst hr13z
 subst vq
 try dsimp only at hM
 replace H:=H.bk H2_
 clear H2_
 refine s_nil ?_
 refine W.cond r2 rfl (fun c14z=>?_) (fun c14z=>?_)
 ·replace hM:=M.e_t hM c14z
  refine kg 2 ?_
  refine s_val (x_bld (ps:=[]) (zs:=[I 0,I 0]) (L':=[I 0,I 0]) rfl Tryz.underlying34 Al34 rfl (Bd34 Tryz.underlying34) (.nil)) ?_
  refine t_sw 0 0 [I 0,I 0] (.agg #[I 0,I 0]) H rfl rfl Sz34 rfl rfl rfl rfl ?_
  intro w15z H
  refine kg 2 ?_
  refine W.ret ?_
  have hb16z:=(H.bl 0)
  have hr_:=M.e_pure hM
  exact ⟨_,(resE_ofn (vs:=[.agg #[I 0,I 0],I 2]) rfl rfl (.cell (v:=.agg #[I 0,I 0]) rfl (run_loadVar_ag (ds:=[I 0,I 0]) Ag34 Sz34 hb16z rfl rfl)<|.tmp (v:=I 2) rfl<|.nil)),⟨0,0,2,hr_,rfl,(H.pk [])⟩⟩
 replace hM:=M.e_f hM c14z
 refine kg 7 ?_
 refine W.cond (r1==0) rfl (fun c17z=>?_) (fun c17z=>?_)
 ·replace hM:=M.e_t hM c17z
  simp only [qy1,qy2,qy3,qy4,qy5,qy6,ne_eq,qy7] at c17z
  refine kg 2 ?_
  refine s_val (x_bld (ps:=[]) (zs:=[I 0,I 0]) (L':=[I 0,I 0]) rfl Tryz.underlying34 Al34 rfl (Bd34 Tryz.underlying34) (.nil)) ?_
  refine t_sw 0 0 [I 0,I 0] (.agg #[I 0,I 0]) H rfl rfl Sz34 rfl rfl rfl rfl ?_
  intro w18z H
  refine kg 2 ?_
  refine W.ret ?_
  have hb19z:=(H.bl 0)
  have hr_:=M.e_pure hM
  exact ⟨_,(resE_ofn (vs:=[.agg #[I 0,I 0],I 6]) rfl rfl (.cell (v:=.agg #[I 0,I 0]) rfl (run_loadVar_ag (ds:=[I 0,I 0]) Ag34 Sz34 hb19z rfl rfl)<|.tmp (v:=I 6) rfl<|.nil)),⟨0,0,6,hr_,rfl,(H.pk [])⟩⟩
 replace hM:=M.e_f hM c17z
 simp only [qy1,qy2,qy3,qy4,qy5,qy6,ne_eq,qy7] at c17z
 refine kg 5 ?_
 obtain ⟨r21z,hx20z,hM⟩:=M.e_bind hM
 refine s_call cf76 [.agg #[v_b_Years,v_b_Olds,I b_First,I b_Last],I year] rfl (zcX b_Years b_Olds b_First b_Last year (hC_b_Years.app _) hs_b_Years (hC_b_Olds.app _) hs_b_Olds hx20z _ (H.gt 2)) ?_
 rintro vq w22z ⟨r02,r12,hr23z,hvq,H2_⟩
 subst hr23z
 subst vq
 try dsimp only at hM
 replace H:=H.bk H2_
 clear H2_
 refine t_sw 0 0 [I r02,I r12] (.agg #[I r02,I r12]) H rfl rfl Sz34 rfl rfl rfl rfl ?_
 intro w24z H
 refine kg 2 ?_
 refine W.ret ?_
 have hb25z:=(H.bl 0)
 have hr_:=M.e_pure hM
 exact ⟨_,(resE_ofn (vs:=[.agg #[I r02,I r12],I 0]) rfl rfl (.cell (v:=.agg #[I r02,I r12]) rfl (run_loadVar_ag (ds:=[I r02,I r12]) Ag34 Sz34 hb25z rfl rfl)<|.tmp (v:=I 0) rfl<|.nil)),⟨r02,r12,0,hr_,rfl,(H.pk [])⟩⟩

def zcm (a:List Yr) (b:List Yr):Nat->M (Nat ⊕ (Unit ⊕ Unit)):=fun i =>
  bif decide ((i:Int)<(a.length:Int)) then (
  M.grd (decide ((i:Int)<(a.length:Int))) <|
  M.grd (decide ((i:Int)<(b.length:Int))) <|
  bif !(decide ((a.getD i default)=(b.getD i default))) then (
  M.pure (.inr (.inl ())))
  else (
  M.pure (.inl (i+1))))
  else (
  M.pure (.inr (.inr ())))
def zcM (a:List Yr) (b:List Yr):M Bool :=
  bif (a.length:Int) != (b.length:Int) then (
  M.pure false)
  else (
  M.bind (M.iter (zcm a b) 0) fun x_=>match x_ with
  | (.inl (_:Unit))=>(
  M.pure false)
  | (.inr (_:Unit))=>(
  M.pure true))
theorem zd6 {R:List Chunk} {C_a:Cells} {v_a:Value} {C_b:Cells} {v_b:Value} (a:List Yr) (b:List Yr) (hC_a:Reads R C_a) (hs_a:Sl C_a v_a a) (hC_b:Reads R C_b) (hs_b:Sl C_b v_b b) {r:Bool} (hM:(zcM a b).Ends r) (w:World) (H:St w w [] R):Ret Tryz.prog 77 #[v_a,v_b] w fun v w'=>∃ (y0:Bool),y0=r/\v=B y0/\St w w' [] R:=by
 refine ret_of_W Tryz.func77 rfl rfl rfl ?_
 have hl1z:=(hs_a).len_le
 have hl2z:=(hs_b).len_le
 refine kg 13 ?_
 refine W.cond ((a.length:Int) != (b.length:Int)) rfl (fun c3z=>?_) (fun c3z=>?_)
 ·replace hM:=M.e_t hM c3z
  simp only [qy1,qy2,qy3,qy4,qy5,qy6,ne_eq,qy7] at c3z
  refine kg 4 ?_
  refine W.ret ?_
  have hr_:=M.e_pure hM
  exact ⟨_,resE_tmp rfl,⟨false,hr_,rfl,H⟩⟩
 replace hM:=M.e_f hM c3z
 simp only [qy1,qy2,qy3,qy4,qy5,qy6,ne_eq,qy7] at c3z
 refine kg 7 ?_
 obtain ⟨ex4z,hi5z,hk6z⟩:=M.e_bind hM
 obtain ⟨m0_,hi5z⟩:=M.e_iter hi5z
 refine W.loop (fun m σ W=>∃ (i:Nat) (ρ:Env),σ=upds ρ [(0,v_a),(1,v_b),(5,I (i:Int))]/\M.iterN (zcm a b) m i=some ex4z/\St w W [] R) ?_ ?_
 ·exact ⟨_,0,_,upds_of _ _ ⟨rfl,rfl,rfl,trivial⟩,hi5z,H⟩
 rintro m9z σ w7z ⟨i,ρ,rfl,hI8z,H⟩
 obtain ⟨m10z,lt11z,x12z,hM,hN13z⟩:=M.e_iterN hI8z
 simp only [zcm] at hM
 clear hI8z
 have hl14z:=(hs_a).len_le
 refine kg 8 ?_
 refine W.cond (decide ((i:Int)<(a.length:Int))) rfl (fun c15z=>?_) (fun c15z=>?_)
 ·replace hM:=M.e_t hM c15z
  simp only [qy1,qy2,qy3,qy4,qy5,qy6,ne_eq,qy7] at c15z
  refine kg 4 ?_
  refine W.draw (fun W=>St w W [] R) [(0,true),(1,true),(2,true),(3,true),(4,true),(5,true),(6,true),(7,true),(8,true)] mixed (by decide +kernel) rfl ?_
  intro w16z hx_
  replace H:=H.ext hx_
  clear hx_
  refine ⟨(H.pk []),?_⟩
  obtain ⟨sd17z,hM⟩:=M.e_grd hM
  simp only [Bool.and_eq_true,decide_eq_true_eq] at sd17z
  obtain ⟨sd18z,hM⟩:=M.e_grd hM
  simp only [Bool.and_eq_true,decide_eq_true_eq] at sd18z
  refine kg 8 ?_
  refine d_q rfl (fun w' H=>x_neS (eqT36 (a.getD i default) (b.getD i default) _) gdT36 rfl rfl) ?_
  refine d_nil ?_
  refine W.cond (!(decide ((a.getD i default)=(b.getD i default)))) rfl (fun c19z=>?_) (fun c19z=>?_)
  ·replace hM:=M.e_t hM c19z
   refine kg 4 ?_
   refine W.ret ?_
   have hX20z:=M.e_inr hM hN13z
   subst hX20z
   replace hM:=hk6z
   try dsimp only at hM
   have hr_:=M.e_pure hM
   exact ⟨_,resE_tmp rfl,⟨false,hr_,rfl,H⟩⟩
  replace hM:=M.e_f hM c19z
  refine kg 6 ?_
  exact ⟨m10z,lt11z,i+1,_,upds_of _ _ ⟨rfl,rfl,rfl,trivial⟩,M.e_inl hM hN13z,H⟩
 replace hM:=M.e_f hM c15z
 simp only [qy1,qy2,qy3,qy4,qy5,qy6,ne_eq,qy7] at c15z
 refine W.exit ?_
 have hX21z:=M.e_inr hM hN13z
 subst hX21z
 replace hM:=hk6z
 try dsimp only at hM
 refine kg 4 ?_
 refine W.ret ?_
 have hr_:=M.e_pure hM
 exact ⟨_,resE_tmp rfl,⟨true,hr_,rfl,H⟩⟩

def zb7 (a_Olds:List Old10) (b_Olds:List Old10):Nat->M (Nat ⊕ (Unit ⊕ Unit)):=fun i =>
  bif decide ((i:Int)<(a_Olds.length:Int)) then (
  M.grd (decide ((i:Int)<(a_Olds.length:Int))) <|
  M.grd (decide ((i:Int)<(b_Olds.length:Int))) <|
  M.bind (M.opt (!(((((a_Olds.getD i default).src) != ((b_Olds.getD i default).src))||(((a_Olds.getD i default).dst) != ((b_Olds.getD i default).dst)))||(((a_Olds.getD i default).stage) != ((b_Olds.getD i default).stage)))) (zah ((a_Olds.getD i default).passed) ((b_Olds.getD i default).passed)) false) fun r3 =>
  bif ((((((a_Olds.getD i default).src) != ((b_Olds.getD i default).src))||(((a_Olds.getD i default).dst) != ((b_Olds.getD i default).dst)))||(((a_Olds.getD i default).stage) != ((b_Olds.getD i default).stage)))||(!r3)) then (
  M.pure (.inr (.inl ())))
  else (
  M.pure (.inl (i+1))))
  else (
  M.pure (.inr (.inr ())))
def za5 (a_Years:List Yr) (a_Olds:List Old10) (a_First:Int) (a_Last:Int) (b_Years:List Yr) (b_Olds:List Old10) (b_First:Int) (b_Last:Int):M Bool :=
  M.bind (M.opt (!((a_First != b_First)||(a_Last != b_Last))) (zcM a_Years b_Years) false) fun r2 =>
  bif ((((a_First != b_First)||(a_Last != b_Last))||(!r2))||((a_Olds.length:Int) != (b_Olds.length:Int))) then (
  M.pure false)
  else (
  M.bind (M.iter (zb7 a_Olds b_Olds) 0) fun x_=>match x_ with
  | (.inl (_:Unit))=>(
  M.pure false)
  | (.inr (_:Unit))=>(
  M.pure true))
theorem zdG {R:List Chunk} {C_a_Years:Cells} {v_a_Years:Value} {C_a_Olds:Cells} {v_a_Olds:Value} {C_b_Years:Cells} {v_b_Years:Value} {C_b_Olds:Cells} {v_b_Olds:Value} (a_Years:List Yr) (a_Olds:List Old10) (a_First:Int) (a_Last:Int) (b_Years:List Yr) (b_Olds:List Old10) (b_First:Int) (b_Last:Int) (hC_a_Years:Reads R C_a_Years) (hs_a_Years:Sl C_a_Years v_a_Years a_Years) (hC_a_Olds:Reads R C_a_Olds) (hs_a_Olds:Sl C_a_Olds v_a_Olds a_Olds) (hC_b_Years:Reads R C_b_Years) (hs_b_Years:Sl C_b_Years v_b_Years b_Years) (hC_b_Olds:Reads R C_b_Olds) (hs_b_Olds:Sl C_b_Olds v_b_Olds b_Olds) {r:Bool} (hM:(za5 a_Years a_Olds a_First a_Last b_Years b_Olds b_First b_Last).Ends r) (w:World) (H:St w w [] R):Ret Tryz.prog 39 #[.agg #[v_a_Years,v_a_Olds,I a_First,I a_Last],.agg #[v_b_Years,v_b_Olds,I b_First,I b_Last]] w fun v w'=>∃ (y0:Bool),y0=r/\v=B y0/\St w w' [] R:=by
 refine ret_of_W Tryz.func39 rfl rfl rfl ?_
 refine kg 2 ?_
 refine t_box (v:=.agg #[v_a_Years,v_a_Olds,I a_First,I a_Last]) (cs:=[v_a_Years,v_a_Olds,I a_First,I a_Last]) H rfl rfl ?_
 intro b_1 w1z H
 refine t_box (v:=.agg #[v_b_Years,v_b_Olds,I b_First,I b_Last]) (cs:=[v_b_Years,v_b_Olds,I b_First,I b_Last]) H rfl rfl ?_
 intro b_2 w2z H
 refine kg 22 ?_
 obtain ⟨r2,hx3z,hM⟩:=M.e_bind hM
 refine t_gcall (!((a_First != b_First)||(a_Last != b_Last))) (gy_f rfl) cf77 (B r2) (fun _=>[v_a_Years,v_b_Years]) (fun hg=>lst2 (gd_of (c:=!((a_First != b_First)||(a_Last != b_Last))) hg (v_a_Years)) (gd_of (c:=!((a_First != b_First)||(a_Last != b_Last))) hg (v_b_Years))) H (fun hg=>(zd6 a_Years b_Years (hC_a_Years.app _) hs_a_Years (hC_b_Years.app _) hs_b_Years (M.e_opt hx3z hg) _ (H.give (A:=[]) rfl)).mono fun v_ w_ ⟨y_,hr_,hv_,H_⟩=>by subst hr_; exact ⟨hv_,H.via H_⟩) ?_
 intro w4z H
 have hl5z:=(hs_a_Olds).len_le
 have hl6z:=(hs_b_Olds).len_le
 refine kg 12 ?_
 refine W.cond ((((a_First != b_First)||(a_Last != b_Last))||(!r2))||((a_Olds.length:Int) != (b_Olds.length:Int))) rfl (fun c7z=>?_) (fun c7z=>?_)
 ·replace hM:=M.e_t hM c7z
  refine kg 4 ?_
  refine W.ret ?_
  have hr_:=M.e_pure hM
  exact ⟨_,resE_tmp rfl,⟨false,hr_,rfl,(H.pk [])⟩⟩
 replace hM:=M.e_f hM c7z
 refine kg 7 ?_
 obtain ⟨ex8z,hi9z,hk10z⟩:=M.e_bind hM
 obtain ⟨m0_,hi9z⟩:=M.e_iter hi9z
 refine W.loop (fun m σ W=>∃ (i:Nat) (ρ:Env),σ=upds ρ [(2,Pq b_1),(3,Pq b_2),(5,I (i:Int))]/\M.iterN (zb7 a_Olds b_Olds) m i=some ex8z/\St w W [cBlk b_2 [v_b_Years,v_b_Olds,I b_First,I b_Last] 28,cBlk b_1 [v_a_Years,v_a_Olds,I a_First,I a_Last] 28] R) ?_ ?_
 ·exact ⟨_,0,_,upds_of _ _ ⟨rfl,rfl,rfl,trivial⟩,hi9z,H⟩
 rintro m13z σ w11z ⟨i,ρ,rfl,hI12z,H⟩
 obtain ⟨m14z,lt15z,x16z,hM,hN17z⟩:=M.e_iterN hI12z
 simp only [zb7] at hM
 clear hI12z
 have hl18z:=(hs_a_Olds).len_le
 refine kg 9 ?_
 refine W.cond (decide ((i:Int)<(a_Olds.length:Int))) rfl (fun c19z=>?_) (fun c19z=>?_)
 ·replace hM:=M.e_t hM c19z
  simp only [qy1,qy2,qy3,qy4,qy5,qy6,ne_eq,qy7] at c19z
  refine kg 4 ?_
  refine W.drawT (fun W=>St w W [cBlk b_2 [v_b_Years,v_b_Olds,I b_First,I b_Last] 28,cBlk b_1 [v_a_Years,v_a_Olds,I a_First,I a_Last] 28] R) (.q 0 (.q 1 (.q 2 (.q 3 (.q 4 (.q 5 (.q 6 (.q 7 (.q 8 (.q 9 (.l2 10 (.l 11 (.l 12 (.l 13 .nil))) 11 (.l 10 (.l 12 (.l 13 .nil)))))))))))))) mixed (by decide +kernel) rfl ?_
  intro w20z hx_
  replace H:=H.ext hx_
  clear hx_
  refine ⟨(H.pk [0,1]),?_⟩
  obtain ⟨sd21z,hM⟩:=M.e_grd hM
  simp only [Bool.and_eq_true,decide_eq_true_eq] at sd21z
  refine kg 4 ?_
  obtain ⟨u22z,ha24z,hs23z⟩:=Old10_atA hs_a_Olds (i:=(i:Int)) (by omega) (by omega)
  replace hs23z:Sl _ u22z (a_Olds.getD i default).passed:=hs23z
  have hl_hs23z:=hs23z.len_le
  refine t_q rfl (fun w' H=>x_ld (p:=vat v_a_Olds 4 (Int.toNat (i:Int))) (v:=.agg #[I ((a_Olds.getD i default).src),I ((a_Olds.getD i default).dst),I ((a_Olds.getD i default).stage),u22z]) rfl (ld_ag Ag38 Sz38 (At.mono ha24z (hC_a_Olds.at H)))) ?_
  obtain ⟨sd25z,hM⟩:=M.e_grd hM
  simp only [Bool.and_eq_true,decide_eq_true_eq] at sd25z
  refine kg 4 ?_
  obtain ⟨u26z,ha28z,hs27z⟩:=Old10_atA hs_b_Olds (i:=(i:Int)) (by omega) (by omega)
  replace hs27z:Sl _ u26z (b_Olds.getD i default).passed:=hs27z
  have hl_hs27z:=hs27z.len_le
  refine t_q rfl (fun w' H=>x_ld (p:=vat v_b_Olds 4 (Int.toNat (i:Int))) (v:=.agg #[I ((b_Olds.getD i default).src),I ((b_Olds.getD i default).dst),I ((b_Olds.getD i default).stage),u26z]) rfl (ld_ag Ag38 Sz38 (At.mono ha28z (hC_b_Olds.at H)))) ?_
  refine t_l2 rfl rfl ?_ ?_
  ·skip
   refine t_alloc (cs:=[I 0,I 0,I 0,.slice none 0 0]) H Al38 rfl ?_
   intro b_3 w33z H
   refine s_nil ⟨(H.pk [1,2]),?_⟩
   refine t_l rfl ?_
   refine t_alloc (cs:=[I 0,I 0,I 0,.slice none 0 0]) H Al38 rfl ?_
   intro b_4 w34z H
   refine s_nil ⟨(H.pk [2,3]),?_⟩
   refine t_l rfl ?_
   refine t_sw 1 0 [I ((a_Olds.getD i default).src),I ((a_Olds.getD i default).dst),I ((a_Olds.getD i default).stage),u22z] (.agg #[I ((a_Olds.getD i default).src),I ((a_Olds.getD i default).dst),I ((a_Olds.getD i default).stage),u22z]) H rfl rfl Sz38 rfl rfl rfl (by simp only [List.all_cons,List.all_nil,Bool.true_and,Bool.and_true,Sl.oc hs23z]; try rfl) ?_
   intro w35z H
   refine s_nil ⟨(H.pk [2,3]),?_⟩
   refine t_l rfl ?_
   refine t_sw 0 0 [I ((b_Olds.getD i default).src),I ((b_Olds.getD i default).dst),I ((b_Olds.getD i default).stage),u26z] (.agg #[I ((b_Olds.getD i default).src),I ((b_Olds.getD i default).dst),I ((b_Olds.getD i default).stage),u26z]) H rfl rfl Sz38 rfl rfl rfl (by simp only [List.all_cons,List.all_nil,Bool.true_and,Bool.and_true,Sl.oc hs27z]; try rfl) ?_
   intro w36z H
   refine s_nil ⟨(H.pk [2,3]),?_⟩
   refine kg 27 ?_
   obtain ⟨r3,hx37z,hM⟩:=M.e_bind hM
   refine t_gcall (!(((((a_Olds.getD i default).src) != ((b_Olds.getD i default).src))||(((a_Olds.getD i default).dst) != ((b_Olds.getD i default).dst)))||(((a_Olds.getD i default).stage) != ((b_Olds.getD i default).stage)))) (gy_f rfl) cf28 (B r3) (fun _=>[u22z,u26z]) (fun hg=>lst2 (gd_of (c:=!(((((a_Olds.getD i default).src) != ((b_Olds.getD i default).src))||(((a_Olds.getD i default).dst) != ((b_Olds.getD i default).dst)))||(((a_Olds.getD i default).stage) != ((b_Olds.getD i default).stage)))) hg (u22z)) (gd_of (c:=!(((((a_Olds.getD i default).src) != ((b_Olds.getD i default).src))||(((a_Olds.getD i default).dst) != ((b_Olds.getD i default).dst)))||(((a_Olds.getD i default).stage) != ((b_Olds.getD i default).stage)))) hg (u26z))) H (fun hg=>(zaq ((a_Olds.getD i default).passed) ((b_Olds.getD i default).passed) (hC_a_Olds.app _) hs23z (hC_b_Olds.app _) hs27z (M.e_opt hx37z hg) _ (H.give (A:=[]) rfl)).mono fun v_ w_ ⟨y_,hr_,hv_,H_⟩=>by subst hr_; exact ⟨hv_,H.via H_⟩) ?_
   intro w38z H
   refine kg 3 ?_
   refine W.cond ((((((a_Olds.getD i default).src) != ((b_Olds.getD i default).src))||(((a_Olds.getD i default).dst) != ((b_Olds.getD i default).dst)))||(((a_Olds.getD i default).stage) != ((b_Olds.getD i default).stage)))||(!r3)) rfl (fun c39z=>?_) (fun c39z=>?_)
   ·replace hM:=M.e_t hM c39z
    refine kg 4 ?_
    refine W.ret ?_
    have hX40z:=M.e_inr hM hN17z
    subst hX40z
    replace hM:=hk10z
    try dsimp only at hM
    have hr_:=M.e_pure hM
    exact ⟨_,resE_tmp rfl,⟨false,hr_,rfl,(H.pk [])⟩⟩
   replace hM:=M.e_f hM c39z
   refine kg 6 ?_
   exact ⟨m14z,lt15z,i+1,_,upds_of _ _ ⟨rfl,rfl,rfl,trivial⟩,M.e_inl hM hN17z,(H.pk [2,3])⟩
  skip
  refine t_alloc (cs:=[I 0,I 0,I 0,.slice none 0 0]) H Al38 rfl ?_
  intro b_4 w41z H
  refine s_nil ⟨(H.pk [1,2]),?_⟩
  refine t_l rfl ?_
  refine t_alloc (cs:=[I 0,I 0,I 0,.slice none 0 0]) H Al38 rfl ?_
  intro b_3 w42z H
  refine s_nil ⟨(H.pk [2,3]),?_⟩
  refine t_l rfl ?_
  refine t_sw 0 0 [I ((a_Olds.getD i default).src),I ((a_Olds.getD i default).dst),I ((a_Olds.getD i default).stage),u22z] (.agg #[I ((a_Olds.getD i default).src),I ((a_Olds.getD i default).dst),I ((a_Olds.getD i default).stage),u22z]) H rfl rfl Sz38 rfl rfl rfl (by simp only [List.all_cons,List.all_nil,Bool.true_and,Bool.and_true,Sl.oc hs23z]; try rfl) ?_
  intro w43z H
  refine s_nil ⟨(H.pk [2,3]),?_⟩
  refine t_l rfl ?_
  refine t_sw 1 0 [I ((b_Olds.getD i default).src),I ((b_Olds.getD i default).dst),I ((b_Olds.getD i default).stage),u26z] (.agg #[I ((b_Olds.getD i default).src),I ((b_Olds.getD i default).dst),I ((b_Olds.getD i default).stage),u26z]) H rfl rfl Sz38 rfl rfl rfl (by simp only [List.all_cons,List.all_nil,Bool.true_and,Bool.and_true,Sl.oc hs27z]; try rfl) ?_
  intro w44z H
  refine s_nil ⟨(H.pk [2,3]),?_⟩
  refine kg 27 ?_
  obtain ⟨r3,hx45z,hM⟩:=M.e_bind hM
  refine t_gcall (!(((((a_Olds.getD i default).src) != ((b_Olds.getD i default).src))||(((a_Olds.getD i default).dst) != ((b_Olds.getD i default).dst)))||(((a_Olds.getD i default).stage) != ((b_Olds.getD i default).stage)))) (gy_f rfl) cf28 (B r3) (fun _=>[u22z,u26z]) (fun hg=>lst2 (gd_of (c:=!(((((a_Olds.getD i default).src) != ((b_Olds.getD i default).src))||(((a_Olds.getD i default).dst) != ((b_Olds.getD i default).dst)))||(((a_Olds.getD i default).stage) != ((b_Olds.getD i default).stage)))) hg (u22z)) (gd_of (c:=!(((((a_Olds.getD i default).src) != ((b_Olds.getD i default).src))||(((a_Olds.getD i default).dst) != ((b_Olds.getD i default).dst)))||(((a_Olds.getD i default).stage) != ((b_Olds.getD i default).stage)))) hg (u26z))) H (fun hg=>(zaq ((a_Olds.getD i default).passed) ((b_Olds.getD i default).passed) (hC_a_Olds.app _) hs23z (hC_b_Olds.app _) hs27z (M.e_opt hx45z hg) _ (H.give (A:=[]) rfl)).mono fun v_ w_ ⟨y_,hr_,hv_,H_⟩=>by subst hr_; exact ⟨hv_,H.via H_⟩) ?_
  intro w46z H
  refine kg 3 ?_
  refine W.cond ((((((a_Olds.getD i default).src) != ((b_Olds.getD i default).src))||(((a_Olds.getD i default).dst) != ((b_Olds.getD i default).dst)))||(((a_Olds.getD i default).stage) != ((b_Olds.getD i default).stage)))||(!r3)) rfl (fun c47z=>?_) (fun c47z=>?_)
  ·replace hM:=M.e_t hM c47z
   refine kg 4 ?_
   refine W.ret ?_
   have hX48z:=M.e_inr hM hN17z
   subst hX48z
   replace hM:=hk10z
   try dsimp only at hM
   have hr_:=M.e_pure hM
   exact ⟨_,resE_tmp rfl,⟨false,hr_,rfl,(H.pk [])⟩⟩
  replace hM:=M.e_f hM c47z
  refine kg 6 ?_
  exact ⟨m14z,lt15z,i+1,_,upds_of _ _ ⟨rfl,rfl,rfl,trivial⟩,M.e_inl hM hN17z,(H.pk [2,3])⟩
 replace hM:=M.e_f hM c19z
 simp only [qy1,qy2,qy3,qy4,qy5,qy6,ne_eq,qy7] at c19z
 refine W.exit ?_
 have hX49z:=M.e_inr hM hN17z
 subst hX49z
 replace hM:=hk10z
 try dsimp only at hM
 refine kg 4 ?_
 refine W.ret ?_
 have hr_:=M.e_pure hM
 exact ⟨_,resE_tmp rfl,⟨true,hr_,rfl,(H.pk [])⟩⟩

end Go.Proofs.YtejefipopolccaaGreat
end
section
set_option maxRecDepth 100000
set_option maxHeartbeats 16000000
namespace Go.Proofs.YtejefipopolccaaGreat
open Go Go.Nm
attribute [local irreducible] gd execOp SL SLD SLT WR
def zan (b_Years:List Yr) (b_Olds:List Old10) (b_First:Int) (b_Last:Int) (stages:List Int) (year:Int):M Bool :=
  M.bind (zbY b_Years b_Olds b_First b_Last) fun r2 =>
  bif (r2||(decide (45<(stages.length:Int)))) then (
  M.bind (zag) fun r3 =>
  M.pure r3)
  else (
  M.bind (zbB b_Years b_Olds b_First b_Last) fun (r0,r1,r22,r32) =>
  M.bind (zbi stages) fun r4 =>
  M.bind (zbM b_Years b_Olds b_First b_Last) fun (r02,r12,r23,r33) =>
  M.bind (zam r0 r1 r22 r32) fun r5 =>
  M.bind (za7 r02 r12 r23 r33) fun r6 =>
  bif r5 != r6 then (
  M.pure false)
  else (
  M.bind (zbP r0 r1 r22 r32 r4) fun (r03,r13) =>
  M.bind (zbx r02 r12 r23 r33 stages) fun (r04,r14) =>
  bif ((r13 != r14)||(r03 != r04)) then (
  M.pure false)
  else (
  M.bind (zcP r0 r1 r22 r32) fun (r05,r15) =>
  M.bind (zbh r02 r12 r23 r33) fun (r06,r16) =>
  bif ((r15 != r16)||(r05 != r06)) then (
  M.pure false)
  else (
  M.bind (zcL r0 r1 r22 r32 year) fun (r00,r01,r17) =>
  M.bind (zcW r02 r12 r23 r33 year) fun (r002,r012,r18) =>
  M.bind (M.opt ((r17==r18)&&(decide ((⟨(r00:Int),(r01:Int)⟩:Span)=(⟨(r002:Int),(r012:Int)⟩:Span)))) (za5 r0 r1 r22 r32 b_Years b_Olds b_First b_Last) false) fun r7 =>
  M.bind (M.opt (((r17==r18)&&(decide ((⟨(r00:Int),(r01:Int)⟩:Span)=(⟨(r002:Int),(r012:Int)⟩:Span))))&&r7) (zah r4 stages) false) fun r8 =>
  M.bind (M.opt ((((r17==r18)&&(decide ((⟨(r00:Int),(r01:Int)⟩:Span)=(⟨(r002:Int),(r012:Int)⟩:Span))))&&r7)&&r8) (zag) false) fun r9 =>
  M.pure (((((r17==r18)&&(decide ((⟨(r00:Int),(r01:Int)⟩:Span)=(⟨(r002:Int),(r012:Int)⟩:Span))))&&r7)&&r8)&&r9)))))
theorem zbd {R:List Chunk} {C_b_Years:Cells} {v_b_Years:Value} {C_b_Olds:Cells} {v_b_Olds:Value} {C_stages:Cells} {v_stages:Value} (b_Years:List Yr) (b_Olds:List Old10) (b_First:Int) (b_Last:Int) (stages:List Int) (year:Int) (hC_b_Years:Reads R C_b_Years) (hs_b_Years:Sl C_b_Years v_b_Years b_Years) (hC_b_Olds:Reads R C_b_Olds) (hs_b_Olds:Sl C_b_Olds v_b_Olds b_Olds) (hC_stages:Reads R C_stages) (hs_stages:Sl C_stages v_stages stages) {r:Bool} (hM:(zan b_Years b_Olds b_First b_Last stages year).Ends r) (w:World) (H:St w w [] R):Ret Tryz.prog 7 #[.agg #[v_b_Years,v_b_Olds,I b_First,I b_Last],v_stages,I year] w fun v w'=>∃ (y0:Bool),y0=r/\v=B y0/\St w w' [] R:=by
 refine ret_of_W Tryz.func7 rfl rfl rfl ?_
 refine kg 2 ?_
 refine t_box (v:=.agg #[v_b_Years,v_b_Olds,I b_First,I b_Last]) (cs:=[v_b_Years,v_b_Olds,I b_First,I b_Last]) H rfl rfl ?_
 intro b_1 w1z H
 refine kg 6 ?_
 obtain ⟨r3z,hx2z,hM⟩:=M.e_bind hM
 refine s_call cf29 [.agg #[v_b_Years,v_b_Olds,I b_First,I b_Last]] rfl (zdL b_Years b_Olds b_First b_Last (hC_b_Years.app _) hs_b_Years (hC_b_Olds.app _) hs_b_Olds hx2z _ (H.gt 1)) ?_
 rintro vq w4z ⟨r2,hr5z,hvq,H2_⟩
 subst hr5z
 subst vq
 try dsimp only at hM
 replace H:=H.bk H2_
 clear H2_
 have hl6z:=(hs_stages).len_le
 refine kg 6 ?_
 refine W.cond (r2||(decide (45<(stages.length:Int)))) rfl (fun c7z=>?_) (fun c7z=>?_)
 ·replace hM:=M.e_t hM c7z
  refine kg 2 ?_
  obtain ⟨r9z,hx8z,hM⟩:=M.e_bind hM
  refine s_call cf15 [] rfl (zar hx8z _ (H.gt 1)) ?_
  rintro vq w10z ⟨r3,hr11z,hvq,H2_⟩
  subst hr11z
  subst vq
  try dsimp only at hM
  replace H:=H.bk H2_
  clear H2_
  refine kg 2 ?_
  refine W.ret ?_
  have hr_:=M.e_pure hM
  exact ⟨_,resE_tmp rfl,⟨r3,hr_,rfl,(H.pk [])⟩⟩
 replace hM:=M.e_f hM c7z
 refine kg 4 ?_
 obtain ⟨r13z,hx12z,hM⟩:=M.e_bind hM
 refine s_call cf30 [.agg #[v_b_Years,v_b_Olds,I b_First,I b_Last]] rfl (zba b_Years b_Olds b_First b_Last (hC_b_Years.app _) hs_b_Years (hC_b_Olds.app _) hs_b_Olds hx12z _ (H.gt 1)) ?_
 rintro vq w14z ⟨r0,r1,r22,r32,u0_2,u1_3,rr2_4,Bs3_5,hr15z,hvq,H2_,hf16z⟩
 subst hr15z
 subst vq
 try dsimp only at hM
 replace H:=H.bk H2_
 clear H2_
 refine kg 1 ?_
 obtain ⟨r18z,hx17z,hM⟩:=M.e_bind hM
 refine s_call cf17 [v_stages] rfl (zbS stages (hC_stages.app _) hs_stages hx17z _ (H.gt 4)) ?_
 rintro vq w19z ⟨r4,u0_6,hr20z,hvq,H2_⟩
 subst hr20z
 subst vq
 try dsimp only at hM
 replace H:=H.bk H2_
 clear H2_
 refine t_alloc (cs:=[.slice none 0 0,.slice none 0 0,I 0,I 0]) H Al28 rfl ?_
 intro b_7 w21z H
 refine t_sw 0 0 [u0_2,u1_3,I r22,I r32] (.agg #[u0_2,u1_3,I r22,I r32]) H rfl rfl Sz28 rfl rfl rfl (by simp only [List.all_cons,List.all_nil,Bool.true_and,Bool.and_true,Sl.oc (H.os 2),Sl.oc (rowSl rfl (H.get (k:=3) rfl) (roLe _ (H.get (k:=4) rfl)) hf16z)]; try rfl) ?_
 intro w22z H
 refine kg 5 ?_
 obtain ⟨r24z,hx23z,hM⟩:=M.e_bind hM
 refine s_call cf31 [.agg #[v_b_Years,v_b_Olds,I b_First,I b_Last]] rfl (zai b_Years b_Olds b_First b_Last (hC_b_Years.app _) hs_b_Years (hC_b_Olds.app _) hs_b_Olds hx23z _ (H.gt 6)) ?_
 rintro vq w25z ⟨r02,r12,r23,r33,u0_8,u1_9,rr2_10,Bs3_11,hr26z,hvq,H2_,hf27z⟩
 subst hr26z
 subst vq
 try dsimp only at hM
 replace H:=H.bk H2_
 clear H2_
 refine t_alloc (cs:=[.slice none 0 0,.slice none 0 0,I 0,I 0]) H Al77 rfl ?_
 intro b_12 w28z H
 refine t_sw 0 0 [u0_8,u1_9,I r23,I r33] (.agg #[u0_8,u1_9,I r23,I r33]) H rfl rfl Sz77 rfl rfl rfl (by simp only [List.all_cons,List.all_nil,Bool.true_and,Bool.and_true,Sl.oc (H.os 1),Sl.oc (rowSl rfl (H.get (k:=2) rfl) (Cells.sup_le (hC_b_Olds.at H) (roLe _ (H.get (k:=3) rfl))) hf27z)]; try rfl) ?_
 intro w29z H
 refine kg 3 ?_
 refine W.draw (fun W=>St w W [cBlk b_12 [u0_8,u1_9,I r23,I r33] 77,cOwn (α:=Yr) 124 u0_8 r02,cOwn (α:=Raw 3) 125 u1_9 rr2_10,cRo Bs3_11,cBlk b_7 [u0_2,u1_3,I r22,I r32] 28,cOwn (α:=Int) 3 u0_6 r4,cOwn (α:=Yr) 36 u0_2 r0,cOwn (α:=Raw 3) 38 u1_3 rr2_4,cRo Bs3_5,cBlk b_1 [v_b_Years,v_b_Olds,I b_First,I b_Last] 28] R) [(0,true),(2,true),(1,false),(3,false),(4,true)] mixed (by decide +kernel) rfl ?_
 intro w30z hx_
 replace H:=H.ext hx_
 clear hx_
 refine ⟨(H.pk [0,1,2,3,4,5,6,7,8,9]),?_⟩
 refine kg 2 ?_
 refine d_l rfl ?_
 obtain ⟨r32z,hx31z,hM⟩:=M.e_bind hM
 refine s_call cf10 [.agg #[u0_2,u1_3,I r22,I r32]] rfl (za4 r0 r1 r22 r32 (rdo 6) (H.os 6) (Reads.sup (rdo 7) (Reads.of (k:=8) rfl roLe)) (rowSl rfl (H.get (k:=7) rfl) (roLe _ (H.get (k:=8) rfl)) hf16z) hx31z _ (H.gt 10)) ?_
 rintro vq w33z ⟨r5,hr34z,hvq,H2_⟩
 subst hr34z
 subst vq
 try dsimp only at hM
 replace H:=H.bk H2_
 clear H2_
 refine s_nil ⟨(H.pk [0,1,2,3,4,5,6,7,8,9]),?_⟩
 refine d_l rfl ?_
 obtain ⟨r36z,hx35z,hM⟩:=M.e_bind hM
 refine s_call cf32 [.agg #[u0_8,u1_9,I r23,I r33]] rfl (zdo r02 r12 r23 r33 (rdo 1) (H.os 1) (Reads.sup (rdo 2) (Reads.sup (hC_b_Olds.app _) (Reads.of (k:=3) rfl roLe))) (rowSl rfl (H.get (k:=2) rfl) (Cells.sup_le (hC_b_Olds.at H) (roLe _ (H.get (k:=3) rfl))) hf27z) hx35z _ (H.gt 10)) ?_
 rintro vq w37z ⟨r6,hr38z,hvq,H2_⟩
 subst hr38z
 subst vq
 try dsimp only at hM
 replace H:=H.bk H2_
 clear H2_
 refine s_nil ⟨(H.pk [0,1,2,3,4,5,6,7,8,9]),?_⟩
 refine kg 2 ?_
 refine W.cond (r5 != r6) rfl (fun c39z=>?_) (fun c39z=>?_)
 ·replace hM:=M.e_t hM c39z
  simp only [qy1,qy2,qy3,qy4,qy5,qy6,ne_eq,qy7] at c39z
  refine kg 4 ?_
  refine W.ret ?_
  have hr_:=M.e_pure hM
  exact ⟨_,resE_tmp rfl,⟨false,hr_,rfl,(H.pk [])⟩⟩
 replace hM:=M.e_f hM c39z
 simp only [qy1,qy2,qy3,qy4,qy5,qy6,ne_eq,qy7] at c39z
 refine kg 5 ?_
 obtain ⟨r41z,hx40z,hM⟩:=M.e_bind hM
 refine s_call cf33 [.agg #[u0_2,u1_3,I r22,I r32],u0_6] rfl (zd5 r0 r1 r22 r32 r4 (rdo 6) (H.os 6) (Reads.sup (rdo 7) (Reads.of (k:=8) rfl roLe)) (rowSl rfl (H.get (k:=7) rfl) (roLe _ (H.get (k:=8) rfl)) hf16z) (rdo 5) (H.os 5) hx40z _ (H.gt 10)) ?_
 rintro vq w42z ⟨r03,r13,hr43z,hvq,H2_⟩
 subst hr43z
 subst vq
 try dsimp only at hM
 replace H:=H.bk H2_
 clear H2_
 refine kg 10 ?_
 obtain ⟨r45z,hx44z,hM⟩:=M.e_bind hM
 refine s_call cf34 [.agg #[u0_8,u1_9,I r23,I r33],v_stages] rfl (zdH r02 r12 r23 r33 stages (rdo 1) (H.os 1) (Reads.sup (rdo 2) (Reads.sup (hC_b_Olds.app _) (Reads.of (k:=3) rfl roLe))) (rowSl rfl (H.get (k:=2) rfl) (Cells.sup_le (hC_b_Olds.at H) (roLe _ (H.get (k:=3) rfl))) hf27z) (hC_stages.app _) hs_stages hx44z _ (H.gt 10)) ?_
 rintro vq w46z ⟨r04,r14,hr47z,hvq,H2_⟩
 subst hr47z
 subst vq
 try dsimp only at hM
 replace H:=H.bk H2_
 clear H2_
 refine kg 15 ?_
 refine g_val (!(r13 != r14)) (gy_f rfl) (fun hg=>x_eqb (a:=r03) (b:=r04) (r:=(r03 != r04)) (gd_of (c:=!(r13 != r14)) hg (B r03)) (gd_of (c:=!(r13 != r14)) hg (B r04)) Tryz.underlying4 rfl) ?_
 refine kg 2 ?_
 refine W.cond ((r13 != r14)||(r03 != r04)) rfl (fun c48z=>?_) (fun c48z=>?_)
 ·replace hM:=M.e_t hM c48z
  refine kg 4 ?_
  refine W.ret ?_
  have hr_:=M.e_pure hM
  exact ⟨_,resE_tmp rfl,⟨false,hr_,rfl,(H.pk [])⟩⟩
 replace hM:=M.e_f hM c48z
 refine kg 4 ?_
 obtain ⟨r50z,hx49z,hM⟩:=M.e_bind hM
 refine s_call cf35 [.agg #[u0_2,u1_3,I r22,I r32]] rfl (zee r0 r1 r22 r32 (rdo 6) (H.os 6) (Reads.sup (rdo 7) (Reads.of (k:=8) rfl roLe)) (rowSl rfl (H.get (k:=7) rfl) (roLe _ (H.get (k:=8) rfl)) hf16z) hx49z _ (H.gt 10)) ?_
 rintro vq w51z ⟨r05,r15,hr52z,hvq,H2_⟩
 subst hr52z
 subst vq
 try dsimp only at hM
 replace H:=H.bk H2_
 clear H2_
 refine kg 9 ?_
 obtain ⟨r54z,hx53z,hM⟩:=M.e_bind hM
 refine s_call cf36 [.agg #[u0_8,u1_9,I r23,I r33]] rfl (zdl r02 r12 r23 r33 (rdo 1) (H.os 1) (Reads.sup (rdo 2) (Reads.sup (hC_b_Olds.app _) (Reads.of (k:=3) rfl roLe))) (rowSl rfl (H.get (k:=2) rfl) (Cells.sup_le (hC_b_Olds.at H) (roLe _ (H.get (k:=3) rfl))) hf27z) hx53z _ (H.gt 10)) ?_
 rintro vq w55z ⟨r06,r16,hr56z,hvq,H2_⟩
 subst hr56z
 subst vq
 try dsimp only at hM
 replace H:=H.bk H2_
 clear H2_
 refine kg 18 ?_
 refine W.cond ((r15 != r16)||(r05 != r06)) rfl (fun c57z=>?_) (fun c57z=>?_)
 ·replace hM:=M.e_t hM c57z
  refine kg 4 ?_
  refine W.ret ?_
  have hr_:=M.e_pure hM
  exact ⟨_,resE_tmp rfl,⟨false,hr_,rfl,(H.pk [])⟩⟩
 replace hM:=M.e_f hM c57z
 refine kg 5 ?_
 obtain ⟨r59z,hx58z,hM⟩:=M.e_bind hM
 refine s_call cf37 [.agg #[u0_2,u1_3,I r22,I r32],I year] rfl (zd8 r0 r1 r22 r32 year (rdo 6) (H.os 6) (Reads.sup (rdo 7) (Reads.of (k:=8) rfl roLe)) (rowSl rfl (H.get (k:=7) rfl) (roLe _ (H.get (k:=8) rfl)) hf16z) hx58z _ (H.gt 10)) ?_
 rintro vq w60z ⟨r00,r01,r17,hr61z,hvq,H2_⟩
 subst hr61z
 subst vq
 try dsimp only at hM
 replace H:=H.bk H2_
 clear H2_
 refine kg 3 ?_
 refine t_alloc (cs:=[I 0,I 0]) H Al34 rfl ?_
 intro b_13 w62z H
 refine t_sw 0 0 [I r00,I r01] (.agg #[I r00,I r01]) H rfl rfl Sz34 rfl rfl rfl rfl ?_
 intro w63z H
 refine kg 6 ?_
 obtain ⟨r65z,hx64z,hM⟩:=M.e_bind hM
 refine s_call cf38 [.agg #[u0_8,u1_9,I r23,I r33],I year] rfl (zdX r02 r12 r23 r33 year (rdo 2) (H.os 2) (Reads.sup (rdo 3) (Reads.sup (hC_b_Olds.app _) (Reads.of (k:=4) rfl roLe))) (rowSl rfl (H.get (k:=3) rfl) (Cells.sup_le (hC_b_Olds.at H) (roLe _ (H.get (k:=4) rfl))) hf27z) hx64z _ (H.gt 11)) ?_
 rintro vq w66z ⟨r002,r012,r18,hr67z,hvq,H2_⟩
 subst hr67z
 subst vq
 try dsimp only at hM
 replace H:=H.bk H2_
 clear H2_
 refine kg 3 ?_
 refine t_alloc (cs:=[I 0,I 0]) H Al34 rfl ?_
 intro b_14 w68z H
 refine t_sw 0 0 [I r002,I r012] (.agg #[I r002,I r012]) H rfl rfl Sz34 rfl rfl rfl rfl ?_
 intro w69z H
 refine kg 10 ?_
 refine g_val (r17==r18) (gy_t rfl) (fun hg=>x_eqS (eqT34 (⟨(r00:Int),(r01:Int)⟩:Span) (⟨(r002:Int),(r012:Int)⟩:Span) _) gdT34 (gd_of (c:=r17==r18) hg (.agg #[I r00,I r01])) (gd_of (c:=r17==r18) hg (.agg #[I r002,I r012]))) ?_
 refine kg 4 ?_
 obtain ⟨r7,hx70z,hM⟩:=M.e_bind hM
 refine t_gcall ((r17==r18)&&(decide ((⟨(r00:Int),(r01:Int)⟩:Span)=(⟨(r002:Int),(r012:Int)⟩:Span)))) (gy_t rfl) cf39 (B r7) (fun _=>[.agg #[u0_2,u1_3,I r22,I r32],.agg #[v_b_Years,v_b_Olds,I b_First,I b_Last]]) (fun hg=>lst2 (gd_of (c:=((r17==r18)&&(decide ((⟨(r00:Int),(r01:Int)⟩:Span)=(⟨(r002:Int),(r012:Int)⟩:Span))))) hg (.agg #[u0_2,u1_3,I r22,I r32])) (gd_of (c:=((r17==r18)&&(decide ((⟨(r00:Int),(r01:Int)⟩:Span)=(⟨(r002:Int),(r012:Int)⟩:Span))))) hg (.agg #[v_b_Years,v_b_Olds,I b_First,I b_Last]))) H (fun hg=>(zdG r0 r1 r22 r32 b_Years b_Olds b_First b_Last (rdo 8) (H.os 8) (Reads.sup (rdo 9) (Reads.of (k:=10) rfl roLe)) (rowSl rfl (H.get (k:=9) rfl) (roLe _ (H.get (k:=10) rfl)) hf16z) (hC_b_Years.app _) hs_b_Years (hC_b_Olds.app _) hs_b_Olds (M.e_opt hx70z hg) _ (H.give (A:=[]) rfl)).mono fun v_ w_ ⟨y_,hr_,hv_,H_⟩=>by subst hr_; exact ⟨hv_,H.via H_⟩) ?_
 intro w71z H
 refine kg 4 ?_
 obtain ⟨r8,hx72z,hM⟩:=M.e_bind hM
 refine t_gcall (((r17==r18)&&(decide ((⟨(r00:Int),(r01:Int)⟩:Span)=(⟨(r002:Int),(r012:Int)⟩:Span))))&&r7) (gy_t rfl) cf28 (B r8) (fun _=>[u0_6,v_stages]) (fun hg=>lst2 (gd_of (c:=(((r17==r18)&&(decide ((⟨(r00:Int),(r01:Int)⟩:Span)=(⟨(r002:Int),(r012:Int)⟩:Span))))&&r7)) hg (u0_6)) (gd_of (c:=(((r17==r18)&&(decide ((⟨(r00:Int),(r01:Int)⟩:Span)=(⟨(r002:Int),(r012:Int)⟩:Span))))&&r7)) hg (v_stages))) H (fun hg=>(zaq r4 stages (rdo 7) (H.os 7) (hC_stages.app _) hs_stages (M.e_opt hx72z hg) _ (H.give (A:=[]) rfl)).mono fun v_ w_ ⟨y_,hr_,hv_,H_⟩=>by subst hr_; exact ⟨hv_,H.via H_⟩) ?_
 intro w73z H
 refine kg 2 ?_
 obtain ⟨r9,hx74z,hM⟩:=M.e_bind hM
 refine t_gcall ((((r17==r18)&&(decide ((⟨(r00:Int),(r01:Int)⟩:Span)=(⟨(r002:Int),(r012:Int)⟩:Span))))&&r7)&&r8) (gy_t rfl) cf15 (B r9) (fun _=>[]) (fun _=>rfl) H (fun hg=>(zar (M.e_opt hx74z hg) _ (H.give (A:=[]) rfl)).mono fun v_ w_ ⟨y_,hr_,hv_,H_⟩=>by subst hr_; exact ⟨hv_,H.via H_⟩) ?_
 intro w75z H
 refine kg 3 ?_
 refine W.ret ?_
 have hr_:=M.e_pure hM
 exact ⟨_,resE_tmp rfl,⟨(((((r17==r18)&&(decide ((⟨(r00:Int),(r01:Int)⟩:Span)=(⟨(r002:Int),(r012:Int)⟩:Span))))&&r7)&&r8)&&r9),hr_,rfl,(H.pk [])⟩⟩

end Go.Proofs.YtejefipopolccaaGreat
end
section
set_option maxRecDepth 100000
set_option maxHeartbeats 16000000
namespace Go.Proofs.YtejefipopolccaaGreat
open Go Go.Nm
attribute [local irreducible] gd execOp SL SLD SLT WR
def zaO:(List Int)->(Int × Span)->M ((List Int) ⊕ Unit):=fun l (x,x2) =>
  M.bind (zbO x2) fun r2 =>
  M.grd (decide ((l.length+([(r2:Int)]).length)*8<=140737488355328)) <|
  M.pure (.inl (l++([(r2:Int)])))
def zaJ:(List Int)->(Int × Span)->M ((List Int) ⊕ Unit):=fun l (x,x2) =>
  M.bind (zcQ x2) fun r2 =>
  M.grd (decide ((l.length+([(r2:Int)]).length)*8<=140737488355328)) <|
  M.pure (.inl (l++([(r2:Int)])))
def zaI (b_Years:List Yr) (b_Olds:List Old10) (b_First:Int) (b_Last:Int) (from_:Int) (to_:Int) (stage:Int) (often:Bool):M ((List Int) × Int) :=
  M.bind (zaR b_Years b_Olds b_First b_Last from_ to_ stage 0 2000) fun x_=>match x_ with
  | (.inl r1)=>(
  bif r1 != 0 then (
  M.pure (([]),r1))
  else (
  M.fail))
  | (.inr (r02,r03,r04,r12))=>(
  bif r12 != 0 then (
  M.fail)
  else (
  M.bind (zcE) fun (_:Unit) =>
  bif often then (
  M.bind (zcb) fun (_:Unit) =>
  M.bind (zaf b_Years b_Olds r02 r03 r04 b_First b_Last) fun (r00,r10) =>
  M.bind (zaj (M.yl zaO) (.inl ([])) r00 r10 b_Years b_Olds r02 r03 r04) fun x_=>match x_ with
  | .inl l=>(
  M.pure (l,0))
  | .inr _=>M.fail)
  else (
  M.bind (zaf b_Years b_Olds r02 r03 r04 b_First b_Last) fun (r00,r10) =>
  M.bind (zaj (M.yl zaJ) (.inl ([])) r00 r10 b_Years b_Olds r02 r03 r04) fun x_=>match x_ with
  | .inl l=>(
  M.pure (l,0))
  | .inr _=>M.fail)))
theorem zdt {R:List Chunk} {C_b_Years:Cells} {v_b_Years:Value} {C_b_Olds:Cells} {v_b_Olds:Value} (b_Years:List Yr) (b_Olds:List Old10) (b_First:Int) (b_Last:Int) (from_:Int) (to_:Int) (stage:Int) (often:Bool) (hC_b_Years:Reads R C_b_Years) (hs_b_Years:Sl C_b_Years v_b_Years b_Years) (hC_b_Olds:Reads R C_b_Olds) (hs_b_Olds:Sl C_b_Olds v_b_Olds b_Olds) {r:((List Int) × Int)} (hM:(zaI b_Years b_Olds b_First b_Last from_ to_ stage often).Ends r) (w:World) (H:St w w [] R):Ret Tryz.prog 12 #[.agg #[v_b_Years,v_b_Olds,I b_First,I b_Last],I from_,I to_,I stage,B often] w fun v w'=>∃ (y0:List Int) (y1:Int) (u0:Value),(y0,y1)=r/\v = .tuple #[u0,I y1]/\St w w' [cOwn (α:=Int) 3 u0 y0] R:=by
 refine ret_of_WD Tryz.func12 rfl rfl rfl ?_
 replace H:St w w [cMk ([])] R:=H.mk0
 have hl_b_Years:=hs_b_Years.len_le
 have hl_b_Olds:=hs_b_Olds.len_le
 unfold zaI at hM
 refine WD.seq ?_
 refine WD.of ?_
 refine W.region rfl ?_
 refine t_box (v:=.agg #[v_b_Years,v_b_Olds,I b_First,I b_Last]) (cs:=[v_b_Years,v_b_Olds,I b_First,I b_Last]) H rfl rfl ?_
 intro b_1 w1z H
 refine kg 3 ?_
 refine WD.seq ?_
 refine WD.of ?_
 refine kg 5 ?_
 obtain ⟨r3z,hx2z,hM⟩:=M.e_bind hM
 refine s_call cf48 [.agg #[v_b_Years,v_b_Olds,I b_First,I b_Last],I from_,I to_,I stage,I 0,I 2000] rfl (zdd b_Years b_Olds b_First b_Last from_ to_ stage 0 2000 (hC_b_Years.app _) hs_b_Years (hC_b_Olds.app _) hs_b_Olds hx2z _ (H.gt 2)) ?_
 rintro vq w4z (⟨r1,hr5z,hvq,H2_⟩ | ⟨r02,r03,r04,r12,nb0_2,nb1_3,hr6z,hvq,H2_⟩)
 ·subst hr5z
  subst vq
  try dsimp only at hM
  replace H:=H.bk H2_
  clear H2_
  refine kg 6 ?_
  refine WD.seq ?_
  refine WD.seq ?_
  refine WD.of ?_
  refine kg 4 ?_
  refine WD.cond (r1 != 0) rfl (fun c7z=>?_) (fun c7z=>?_)
  ·replace hM:=M.e_t hM c7z
   simp only [qy1,qy2,qy3,qy4,qy5,qy6,ne_eq,qy7] at c7z
   refine WD.seq ?_
   refine WD.of ?_
   refine kg 5 ?_
   refine WD.of ?_
   refine W.ret ?_
   refine bodyD_r (H.pk [1,0]) ?_
   intro w8z H
   replace H:=H.nf
   have hr_:=M.e_pure hM
   replace H:=H.nilOwn (α:=Int) 3
   exact ⟨_,resE_tmp2 rfl,⟨([]),r1,(.slice none 0 0),hr_,rfl,(H.pk [0])⟩⟩
  replace hM:=M.e_f hM c7z
  exact (M.e_fail hM).elim
 subst hr6z
 subst vq
 try dsimp only at hM
 replace H:=H.bk H2_
 clear H2_
 refine kg 6 ?_
 refine WD.seq ?_
 refine WD.seq ?_
 refine WD.of ?_
 refine kg 4 ?_
 refine WD.cond (r12 != 0) rfl (fun c9z=>?_) (fun c9z=>?_)
 ·replace hM:=M.e_t hM c9z
  exact (M.e_fail hM).elim
 replace hM:=M.e_f hM c9z
 simp only [qy1,qy2,qy3,qy4,qy5,qy6,ne_eq,qy7] at c9z
 refine WD.of ?_
 refine W.skip ?_
 refine WD.seq ?_
 refine WD.of ?_
 refine W.region rfl ?_
 obtain ⟨r11z,hx10z,hM⟩:=M.e_bind hM
 refine s_call cf51 [] rfl (zdf hx10z _ (H.gt 4)) ?_
 rintro vq w12z ⟨hr13z,hvq,H2_⟩
 subst hr13z
 subst vq
 try dsimp only at hM
 replace H:=H.bk H2_
 clear H2_
 refine t_alloc (cs:=[.nilFunc]) H Al104 rfl ?_
 intro b_4 w14z H
 refine t_sw 0 0 [.func (.func 82) #[] #[]] (.agg #[.func (.func 82) #[] #[]]) H rfl rfl Sz104 rfl rfl rfl rfl ?_
 intro w15z H
 refine s_nil ?_
 refine WD.seq ?_
 refine WD.seq ?_
 refine WD.of ?_
 refine kg 3 ?_
 refine WD.cond often rfl (fun c16z=>?_) (fun c16z=>?_)
 ·replace hM:=M.e_t hM c16z
  refine WD.of ?_
  refine W.region rfl ?_
  obtain ⟨r18z,hx17z,hM⟩:=M.e_bind hM
  refine s_call cf52 [] rfl (zc7 hx17z _ (H.gt 5)) ?_
  rintro vq w19z ⟨hr20z,hvq,H2_⟩
  subst hr20z
  subst vq
  try dsimp only at hM
  replace H:=H.bk H2_
  clear H2_
  refine t_sw 0 0 [.func (.func 83) #[] #[]] (.agg #[.func (.func 83) #[] #[]]) H rfl rfl Sz104 rfl rfl rfl rfl ?_
  intro w21z H
  refine s_nil ?_
  refine WD.seq ?_
  refine WD.of ?_
  refine W.region rfl ?_
  refine t_alloc (cs:=[.slice none 0 0]) H Al22 rfl ?_
  intro b_5 w22z H
  refine s_nil ?_
  refine WD.seq ?_
  refine WD.seq ?_
  refine WD.of ?_
  refine kg 6 ?_
  obtain ⟨r24z,hx23z,hM⟩:=M.e_bind hM
  refine s_call cf50 [Pq nb0_2,I b_First,I b_Last] rfl (zaz b_Years b_Olds r02 r03 r04 b_First b_Last (hC_b_Years.app _) hs_b_Years (hC_b_Olds.app _) hs_b_Olds (Has.here (k:=3) rfl) (Has.here (k:=2) rfl) hx23z _ (H.gt 6)) ?_
  rintro vq w25z ⟨r00,r10,nb0_6,nb1_7,nb2_8,hr26z,hvq,H2_⟩
  subst hr26z
  subst vq
  try dsimp only at hM
  replace H:=H.bk H2_
  clear H2_
  refine s_nil ?_
  refine WD.block ?_
  replace H:=H.nilOwn (α:=Int) 3
  obtain ⟨t27z,hx28z,hM⟩:=M.e_bind hM
  refine WD.range (L:=[cOwn (α:=Int) 3 (.slice none 0 0) ([]),cBlk b_5 [(.slice none 0 0)] 22,cBlk nb0_6 [I r00] 3,cBlk nb1_7 [I r10] 3,cBlk nb2_8 [Pq nb0_2] 93,cBlk b_4 [.func (.func 83) #[] #[]] 104,cBlk nb0_2 [v_b_Years,v_b_Olds,I r02,I r03,.map (some nb1_3)] 132,cMl I encSp nb1_3 r04,cBlk b_1 [v_b_Years,v_b_Olds,I b_First,I b_Last] 28]) [Pq nb0_6,Pq nb1_7,Pq nb2_8] (H.pk [9,0,4,1,2,3,5,6,7,8]) rfl cf81 ?_
  intro l29z D30z r31z w32z hr33z H
  have hYC:YieldC Tryz.prog ([cMk (D30z :: ([])),cBlk nb0_6 [I r00] 3,cBlk nb1_7 [I r10] 3,cBlk nb2_8 [Pq nb0_2] 93,cBlk b_4 [.func (.func 83) #[] #[]] 104,cBlk nb0_2 [v_b_Years,v_b_Olds,I r02,I r03,.map (some nb1_3)] 132,cMl I encSp nb1_3 r04,cBlk b_1 [v_b_Years,v_b_Olds,I b_First,I b_Last] 28]++R) arISpan (yJ l29z r31z (fun l Ls_=>∃ (v_l:Value),Ls_=[cOwn (α:=Int) 3 v_l l,cBlk b_5 [v_l] 22]) (fun (_:Unit) _=>False) (fun _=>.ret)) (.func (.yield l29z) #[] #[]) (M.yl zaO):=by
   refine YieldC.mk2 hr33z (fun l Ls_=>∃ (v_l:Value),Ls_=[cOwn (α:=Int) 3 v_l l,cBlk b_5 [v_l] 22]) (fun (_:Unit) _=>False) (fun _=>.ret) zaO (by rintro l _ h_; obtain ⟨_,rfl⟩:=h_; rfl) (fun _ _ h_=>h_.elim) rfl (arISpan_len rfl) ?_
   intro C_ vs_ x_ hA_
   obtain ⟨x,x2⟩:=x_
   obtain rfl:=hA_
   intro w R hR_ Ls_ s_ r hY_ hM H
   skip
   obtain ⟨l,hs_eq_⟩:∃ y_,y_=s_:=⟨_,rfl⟩
   subst hs_eq_
   obtain ⟨v_l,rfl⟩:=hY_
   replace H:=H.nf
   refine W.region rfl ?_
   refine t_alloc (cs:=[I 0,I 0]) H Al34 rfl ?_
   intro b_9 w34z H
   refine t_sw 0 0 [I x2.lo,I x2.hi] (.agg #[I x2.lo,I x2.hi]) H rfl rfl Sz34 rfl rfl rfl rfl ?_
   intro w35z H
   refine s_nil ?_
   refine ⟨rfl,[cBlk b_9 [I x2.lo,I x2.hi] 34],H.pick [0,1,2,3,4,5,6,7,8,9,10] (by decide) rfl,?_⟩
   clear H hR_
   intro w R hR_ H
   replace hC_b_Years:=hC_b_Years.sub hR_
   replace hC_b_Olds:=hC_b_Olds.sub hR_
   replace hM:(zaO l (x,x2)).Ends r:=hM
   simp only [zaO] at hM
   replace H:=H.nf
   refine W.block ?_
   refine W.drawT (fun W=>St w W [cBlk b_9 [I x2.lo,I x2.hi] 34,cMk (D30z :: ([])),cBlk nb0_6 [I r00] 3,cBlk nb1_7 [I r10] 3,cBlk nb2_8 [Pq nb0_2] 93,cBlk b_4 [.func (.func 83) #[] #[]] 104,cBlk nb0_2 [v_b_Years,v_b_Olds,I r02,I r03,.map (some nb1_3)] 132,cMl I encSp nb1_3 r04,cBlk b_1 [v_b_Years,v_b_Olds,I b_First,I b_Last] 28] R) (.q 1 (.q 2 (.q 3 (.l2 0 (.l 4 (.l 5 (.l 6 (.l 7 .nil)))) 4 (.l2 0 (.l 5 (.l 6 (.l 7 .nil))) 5 (.l 0 (.l 6 (.l 7 .nil)))))))) mixed (by decide +kernel) rfl ?_
   intro w36z hx_
   replace H:=H.ext hx_
   clear hx_
   refine ⟨(H.pk [0,3,4,5,6,7,8,9,10]),?_⟩
   refine kg 3 ?_
   refine t_l2 rfl rfl ?_ ?_
   ·skip
    refine kg 1 ?_
    have hvc_q47z:=Sl.cells (H.os 1)
    have hvo_q47z:=Sl.oc (H.os 1)
    refine s_nil ⟨(H.pk [0,3,4,5,6,7,8,9,10]),?_⟩
    refine t_l rfl ?_
    obtain ⟨r49z,hx48z,hM⟩:=M.e_bind hM
    refine s_callv (f:=83) rfl cf83 [.agg #[I x2.lo,I x2.hi]] rfl (zbk x2 hx48z _ (H.gt 11)) ?_
    rintro vq w50z ⟨r2,hr51z,hvq,H2_⟩
    subst hr51z
    subst vq
    try dsimp only at hM
    replace H:=H.bk H2_
    clear H2_
    refine s_nil ⟨(H.pk [0,3,4,5,6,7,8,9,10]),?_⟩
    refine t_l rfl ?_
    refine t_bs (α:=Int) T22 [I r2] [(r2:Int)] H rfl (.cons rfl (Flat.rep_enc _ (r2:Int))<|.nil) rfl rfl rfl ?_
    intro v52z w53z H
    have hvc_q54z:=Sl.cells (H.os 0)
    have hvo_q54z:=Sl.oc (H.os 0)
    refine s_nil ⟨(H.pk [1,4,5,6,7,8,9,10,11]),?_⟩
    refine t_l rfl ?_
    obtain ⟨sd55z,hM⟩:=M.e_grd hM
    simp only [Bool.and_eq_true,decide_eq_true_eq] at sd55z
    refine t_app (α:=Int) (k:=2) (l:=l) (l2:=[(r2:Int)]) (l':=l++([(r2:Int)])) (vy:=v52z) T22 rfl H rfl rfl rfl (H.os 0) (H.ol 0) (rfl) (by first | omega | (simp only [List.length_nil] at *; omega)) ?_
    intro v56z w57z H
    replace H:=H.nf
    have hvc_q58z:=Sl.cells (H.os 2)
    have hvo_q58z:=Sl.oc (H.os 2)
    refine s_nil ⟨(H.pk [1,4,5,6,7,8,9,10,11]),?_⟩
    refine t_l rfl ?_
    refine t_sw 3 0 [v56z] v56z H rfl rfl Sz22 (Sl.cells (H.os 2)) rfl rfl (by simp only [List.all_cons,List.all_nil,Bool.true_and,Bool.and_true,Sl.oc (H.os 2)]; try rfl) ?_
    intro w59z H
    refine s_nil ⟨(H.pk [1,4,5,6,7,8,9,10,11]),?_⟩
    refine t_nil ?_
    exact ⟨l++([(r2:Int)]),[cOwn (α:=Int) 3 v56z (l++([(r2:Int)])),cBlk b_5 [v56z] 22],(M.e_pure hM).symm,⟨v56z,rfl⟩,H.pick [2,3,4,5,6,7,8,9,10,11] (by decide) rfl⟩
   skip
   obtain ⟨r61z,hx60z,hM⟩:=M.e_bind hM
   refine s_callv (f:=83) rfl cf83 [.agg #[I x2.lo,I x2.hi]] rfl (zbk x2 hx60z _ (H.gt 11)) ?_
   rintro vq w62z ⟨r2,hr63z,hvq,H2_⟩
   subst hr63z
   subst vq
   try dsimp only at hM
   replace H:=H.bk H2_
   clear H2_
   have hvc_q64z:=Sl.cells (H.os 1)
   have hvo_q64z:=Sl.oc (H.os 1)
   refine s_nil ⟨(H.pk [0,3,4,5,6,7,8,9,10]),?_⟩
   obtain ⟨sd67z,hM⟩:=M.e_grd hM
   simp only [Bool.and_eq_true,decide_eq_true_eq] at sd67z
   refine t_l2 rfl rfl ?_ ?_
   ·skip
    refine kg 1 ?_
    refine s_nil ⟨(H.pk [0,3,4,5,6,7,8,9,10]),?_⟩
    refine t_l rfl ?_
    refine t_bs (α:=Int) T22 [I r2] [(r2:Int)] H rfl (.cons rfl (Flat.rep_enc _ (r2:Int))<|.nil) rfl rfl rfl ?_
    intro v71z w72z H
    have hvc_q73z:=Sl.cells (H.os 0)
    have hvo_q73z:=Sl.oc (H.os 0)
    refine s_nil ⟨(H.pk [1,4,5,6,7,8,9,10,11]),?_⟩
    refine t_l rfl ?_
    refine t_app (α:=Int) (k:=2) (l:=l) (l2:=[(r2:Int)]) (l':=l++([(r2:Int)])) (vy:=v71z) T22 rfl H rfl rfl rfl (H.os 0) (H.ol 0) (rfl) (by first | omega | (simp only [List.length_nil] at *; omega)) ?_
    intro v74z w75z H
    replace H:=H.nf
    have hvc_q76z:=Sl.cells (H.os 2)
    have hvo_q76z:=Sl.oc (H.os 2)
    refine s_nil ⟨(H.pk [1,4,5,6,7,8,9,10,11]),?_⟩
    refine t_l rfl ?_
    refine t_sw 3 0 [v74z] v74z H rfl rfl Sz22 (Sl.cells (H.os 2)) rfl rfl (by simp only [List.all_cons,List.all_nil,Bool.true_and,Bool.and_true,Sl.oc (H.os 2)]; try rfl) ?_
    intro w77z H
    refine s_nil ⟨(H.pk [1,4,5,6,7,8,9,10,11]),?_⟩
    refine t_nil ?_
    exact ⟨l++([(r2:Int)]),[cOwn (α:=Int) 3 v74z (l++([(r2:Int)])),cBlk b_5 [v74z] 22],(M.e_pure hM).symm,⟨v74z,rfl⟩,H.pick [2,3,4,5,6,7,8,9,10,11] (by decide) rfl⟩
   skip
   refine t_bs (α:=Int) T22 [I r2] [(r2:Int)] H rfl (.cons rfl (Flat.rep_enc _ (r2:Int))<|.nil) rfl rfl rfl ?_
   intro v78z w79z H
   have hvc_q80z:=Sl.cells (H.os 0)
   have hvo_q80z:=Sl.oc (H.os 0)
   refine s_nil ⟨(H.pk [1,4,5,6,7,8,9,10,11]),?_⟩
   refine t_l rfl ?_
   refine kg 1 ?_
   refine s_nil ⟨(H.pk [1,4,5,6,7,8,9,10,11]),?_⟩
   refine t_l rfl ?_
   refine t_app (α:=Int) (k:=2) (l:=l) (l2:=[(r2:Int)]) (l':=l++([(r2:Int)])) (vy:=v78z) T22 rfl H rfl rfl rfl (H.os 0) (H.ol 0) (rfl) (by first | omega | (simp only [List.length_nil] at *; omega)) ?_
   intro v81z w82z H
   replace H:=H.nf
   have hvc_q83z:=Sl.cells (H.os 2)
   have hvo_q83z:=Sl.oc (H.os 2)
   refine s_nil ⟨(H.pk [1,4,5,6,7,8,9,10,11]),?_⟩
   refine t_l rfl ?_
   refine t_sw 3 0 [v81z] v81z H rfl rfl Sz22 (Sl.cells (H.os 2)) rfl rfl (by simp only [List.all_cons,List.all_nil,Bool.true_and,Bool.and_true,Sl.oc (H.os 2)]; try rfl) ?_
   intro w84z H
   refine s_nil ⟨(H.pk [1,4,5,6,7,8,9,10,11]),?_⟩
   refine t_nil ?_
   exact ⟨l++([(r2:Int)]),[cOwn (α:=Int) 3 v81z (l++([(r2:Int)])),cBlk b_5 [v81z] 22],(M.e_pure hM).symm,⟨v81z,rfl⟩,H.pick [2,3,4,5,6,7,8,9,10,11] (by decide) rfl⟩
  replace H:St w w32z (cAll (cObj l29z (.loop r31z) :: [cOwn (α:=Int) 3 (.slice none 0 0) ([]),cBlk b_5 [(.slice none 0 0)] 22]) :: [cMk (D30z :: ([])),cBlk nb0_6 [I r00] 3,cBlk nb1_7 [I r10] 3,cBlk nb2_8 [Pq nb0_2] 93,cBlk b_4 [.func (.func 83) #[] #[]] 104,cBlk nb0_2 [v_b_Years,v_b_Olds,I r02,I r03,.map (some nb1_3)] 132,cMl I encSp nb1_3 r04,cBlk b_1 [v_b_Years,v_b_Olds,I b_First,I b_Last] 28]) R:=St.bundleB (A:=cObj l29z (.loop r31z) :: [cOwn (α:=Int) 3 (.slice none 0 0) ([]),cBlk b_5 [(.slice none 0 0)] 22]) (T:=[cMk (D30z :: ([])),cBlk nb0_6 [I r00] 3,cBlk nb1_7 [I r10] 3,cBlk nb2_8 [Pq nb0_2] 93,cBlk b_4 [.func (.func 83) #[] #[]] 104,cBlk nb0_2 [v_b_Years,v_b_Olds,I r02,I r03,.map (some nb1_3)] 132,cMl I encSp nb1_3 r04,cBlk b_1 [v_b_Years,v_b_Olds,I b_First,I b_Last] 28]) rfl (H.pk [0,2,3,1,4,5,6,7,8,9,10])
  refine (zaE (M.yl zaO) (.inl ([])) r00 r10 b_Years b_Olds r02 r03 r04 hYC ⟨_,rfl,⟨(.slice none 0 0),rfl⟩⟩ (Has.here (k:=1) rfl) (Has.here (k:=2) rfl) (hC_b_Years.app _) hs_b_Years (hC_b_Olds.app _) hs_b_Olds (Has.here (k:=6) rfl) (Has.here (k:=5) rfl) (Has.here (k:=3) rfl) hx28z _ (H.gt 8)).mono ?_
  rintro vq w85z ⟨t89z,Ls87z,hq90z,hvq,H2_,hY88z⟩
  subst hq90z
  replace H:=H.back H2_ rfl
  clear H2_ hYC
  rcases t89z with l | _
  ·try dsimp only at hM
   obtain ⟨_,rfl,v_l,rfl⟩:=hY88z
   refine ⟨_,[cOwn (α:=Int) 3 v_l l,cBlk b_5 [v_l] 22,cBlk nb0_6 [I r00] 3,cBlk nb1_7 [I r10] 3,cBlk nb2_8 [Pq nb0_2] 93,cBlk b_4 [.func (.func 83) #[] #[]] 104,cBlk nb0_2 [v_b_Years,v_b_Olds,I r02,I r03,.map (some nb1_3)] 132,cMl I encSp nb1_3 r04,cBlk b_1 [v_b_Years,v_b_Olds,I b_First,I b_Last] 28],H.unbundle.pick [0,3,1,2,4,5,6,7,8,9,10] (by decide) rfl,hr33z.nb,?_⟩
   intro w86z H
   rw [hr33z.pd]
   replace H:=H.nf
   try simp only []
   refine WD.seq ?_
   refine WD.of ?_
   refine kg 5 ?_
   refine WD.of ?_
   refine W.ret ?_
   refine bodyD_r (H.pk [0,1,2,3,4,5,6,7,8,9]) ?_
   intro w91z H
   replace H:=H.nf
   have hr_:=M.e_pure hM
   exact ⟨_,resE_tmp2 rfl,⟨l,0,v_l,hr_,rfl,(H.pk [0])⟩⟩
  obtain ⟨_,_,h_⟩:=hY88z; exact h_.elim
 replace hM:=M.e_f hM c16z
 refine WD.of ?_
 refine W.skip ?_
 refine WD.seq ?_
 refine WD.of ?_
 refine W.region rfl ?_
 refine t_alloc (cs:=[.slice none 0 0]) H Al22 rfl ?_
 intro b_5 w92z H
 refine s_nil ?_
 refine WD.seq ?_
 refine WD.seq ?_
 refine WD.of ?_
 refine kg 6 ?_
 obtain ⟨r94z,hx93z,hM⟩:=M.e_bind hM
 refine s_call cf50 [Pq nb0_2,I b_First,I b_Last] rfl (zaz b_Years b_Olds r02 r03 r04 b_First b_Last (hC_b_Years.app _) hs_b_Years (hC_b_Olds.app _) hs_b_Olds (Has.here (k:=3) rfl) (Has.here (k:=2) rfl) hx93z _ (H.gt 6)) ?_
 rintro vq w95z ⟨r00,r10,nb0_6,nb1_7,nb2_8,hr96z,hvq,H2_⟩
 subst hr96z
 subst vq
 try dsimp only at hM
 replace H:=H.bk H2_
 clear H2_
 refine s_nil ?_
 refine WD.block ?_
 replace H:=H.nilOwn (α:=Int) 3
 obtain ⟨t97z,hx98z,hM⟩:=M.e_bind hM
 refine WD.range (L:=[cOwn (α:=Int) 3 (.slice none 0 0) ([]),cBlk b_5 [(.slice none 0 0)] 22,cBlk nb0_6 [I r00] 3,cBlk nb1_7 [I r10] 3,cBlk nb2_8 [Pq nb0_2] 93,cBlk b_4 [.func (.func 82) #[] #[]] 104,cBlk nb0_2 [v_b_Years,v_b_Olds,I r02,I r03,.map (some nb1_3)] 132,cMl I encSp nb1_3 r04,cBlk b_1 [v_b_Years,v_b_Olds,I b_First,I b_Last] 28]) [Pq nb0_6,Pq nb1_7,Pq nb2_8] (H.pk [9,0,4,1,2,3,5,6,7,8]) rfl cf81 ?_
 intro l99z D100z r101z w102z hr103z H
 have hYC:YieldC Tryz.prog ([cMk (D100z :: ([])),cBlk nb0_6 [I r00] 3,cBlk nb1_7 [I r10] 3,cBlk nb2_8 [Pq nb0_2] 93,cBlk b_4 [.func (.func 82) #[] #[]] 104,cBlk nb0_2 [v_b_Years,v_b_Olds,I r02,I r03,.map (some nb1_3)] 132,cMl I encSp nb1_3 r04,cBlk b_1 [v_b_Years,v_b_Olds,I b_First,I b_Last] 28]++R) arISpan (yJ l99z r101z (fun l Ls_=>∃ (v_l:Value),Ls_=[cOwn (α:=Int) 3 v_l l,cBlk b_5 [v_l] 22]) (fun (_:Unit) _=>False) (fun _=>.ret)) (.func (.yield l99z) #[] #[]) (M.yl zaJ):=by
  refine YieldC.mk2 hr103z (fun l Ls_=>∃ (v_l:Value),Ls_=[cOwn (α:=Int) 3 v_l l,cBlk b_5 [v_l] 22]) (fun (_:Unit) _=>False) (fun _=>.ret) zaJ (by rintro l _ h_; obtain ⟨_,rfl⟩:=h_; rfl) (fun _ _ h_=>h_.elim) rfl (arISpan_len rfl) ?_
  intro C_ vs_ x_ hA_
  obtain ⟨x,x2⟩:=x_
  obtain rfl:=hA_
  intro w R hR_ Ls_ s_ r hY_ hM H
  skip
  obtain ⟨l,hs_eq_⟩:∃ y_,y_=s_:=⟨_,rfl⟩
  subst hs_eq_
  obtain ⟨v_l,rfl⟩:=hY_
  replace H:=H.nf
  refine W.region rfl ?_
  refine t_alloc (cs:=[I 0,I 0]) H Al34 rfl ?_
  intro b_9 w104z H
  refine t_sw 0 0 [I x2.lo,I x2.hi] (.agg #[I x2.lo,I x2.hi]) H rfl rfl Sz34 rfl rfl rfl rfl ?_
  intro w105z H
  refine s_nil ?_
  refine ⟨rfl,[cBlk b_9 [I x2.lo,I x2.hi] 34],H.pick [0,1,2,3,4,5,6,7,8,9,10] (by decide) rfl,?_⟩
  clear H hR_
  intro w R hR_ H
  replace hC_b_Years:=hC_b_Years.sub hR_
  replace hC_b_Olds:=hC_b_Olds.sub hR_
  replace hM:(zaJ l (x,x2)).Ends r:=hM
  simp only [zaJ] at hM
  replace H:=H.nf
  refine W.block ?_
  refine W.drawT (fun W=>St w W [cBlk b_9 [I x2.lo,I x2.hi] 34,cMk (D100z :: ([])),cBlk nb0_6 [I r00] 3,cBlk nb1_7 [I r10] 3,cBlk nb2_8 [Pq nb0_2] 93,cBlk b_4 [.func (.func 82) #[] #[]] 104,cBlk nb0_2 [v_b_Years,v_b_Olds,I r02,I r03,.map (some nb1_3)] 132,cMl I encSp nb1_3 r04,cBlk b_1 [v_b_Years,v_b_Olds,I b_First,I b_Last] 28] R) (.q 1 (.q 2 (.q 3 (.l2 0 (.l 4 (.l 5 (.l 6 (.l 7 .nil)))) 4 (.l2 0 (.l 5 (.l 6 (.l 7 .nil))) 5 (.l 0 (.l 6 (.l 7 .nil)))))))) mixed (by decide +kernel) rfl ?_
  intro w106z hx_
  replace H:=H.ext hx_
  clear hx_
  refine ⟨(H.pk [0,3,4,5,6,7,8,9,10]),?_⟩
  refine kg 3 ?_
  refine t_l2 rfl rfl ?_ ?_
  ·skip
   refine kg 1 ?_
   have hvc_q117z:=Sl.cells (H.os 1)
   have hvo_q117z:=Sl.oc (H.os 1)
   refine s_nil ⟨(H.pk [0,3,4,5,6,7,8,9,10]),?_⟩
   refine t_l rfl ?_
   obtain ⟨r119z,hx118z,hM⟩:=M.e_bind hM
   refine s_callv (f:=82) rfl cf82 [.agg #[I x2.lo,I x2.hi]] rfl (zbA x2 hx118z _ (H.gt 11)) ?_
   rintro vq w120z ⟨r2,hr121z,hvq,H2_⟩
   subst hr121z
   subst vq
   try dsimp only at hM
   replace H:=H.bk H2_
   clear H2_
   refine s_nil ⟨(H.pk [0,3,4,5,6,7,8,9,10]),?_⟩
   refine t_l rfl ?_
   refine t_bs (α:=Int) T22 [I r2] [(r2:Int)] H rfl (.cons rfl (Flat.rep_enc _ (r2:Int))<|.nil) rfl rfl rfl ?_
   intro v122z w123z H
   have hvc_q124z:=Sl.cells (H.os 0)
   have hvo_q124z:=Sl.oc (H.os 0)
   refine s_nil ⟨(H.pk [1,4,5,6,7,8,9,10,11]),?_⟩
   refine t_l rfl ?_
   obtain ⟨sd125z,hM⟩:=M.e_grd hM
   simp only [Bool.and_eq_true,decide_eq_true_eq] at sd125z
   refine t_app (α:=Int) (k:=2) (l:=l) (l2:=[(r2:Int)]) (l':=l++([(r2:Int)])) (vy:=v122z) T22 rfl H rfl rfl rfl (H.os 0) (H.ol 0) (rfl) (by first | omega | (simp only [List.length_nil] at *; omega)) ?_
   intro v126z w127z H
   replace H:=H.nf
   have hvc_q128z:=Sl.cells (H.os 2)
   have hvo_q128z:=Sl.oc (H.os 2)
   refine s_nil ⟨(H.pk [1,4,5,6,7,8,9,10,11]),?_⟩
   refine t_l rfl ?_
   refine t_sw 3 0 [v126z] v126z H rfl rfl Sz22 (Sl.cells (H.os 2)) rfl rfl (by simp only [List.all_cons,List.all_nil,Bool.true_and,Bool.and_true,Sl.oc (H.os 2)]; try rfl) ?_
   intro w129z H
   refine s_nil ⟨(H.pk [1,4,5,6,7,8,9,10,11]),?_⟩
   refine t_nil ?_
   exact ⟨l++([(r2:Int)]),[cOwn (α:=Int) 3 v126z (l++([(r2:Int)])),cBlk b_5 [v126z] 22],(M.e_pure hM).symm,⟨v126z,rfl⟩,H.pick [2,3,4,5,6,7,8,9,10,11] (by decide) rfl⟩
  skip
  obtain ⟨r131z,hx130z,hM⟩:=M.e_bind hM
  refine s_callv (f:=82) rfl cf82 [.agg #[I x2.lo,I x2.hi]] rfl (zbA x2 hx130z _ (H.gt 11)) ?_
  rintro vq w132z ⟨r2,hr133z,hvq,H2_⟩
  subst hr133z
  subst vq
  try dsimp only at hM
  replace H:=H.bk H2_
  clear H2_
  have hvc_q134z:=Sl.cells (H.os 1)
  have hvo_q134z:=Sl.oc (H.os 1)
  refine s_nil ⟨(H.pk [0,3,4,5,6,7,8,9,10]),?_⟩
  obtain ⟨sd137z,hM⟩:=M.e_grd hM
  simp only [Bool.and_eq_true,decide_eq_true_eq] at sd137z
  refine t_l2 rfl rfl ?_ ?_
  ·skip
   refine kg 1 ?_
   refine s_nil ⟨(H.pk [0,3,4,5,6,7,8,9,10]),?_⟩
   refine t_l rfl ?_
   refine t_bs (α:=Int) T22 [I r2] [(r2:Int)] H rfl (.cons rfl (Flat.rep_enc _ (r2:Int))<|.nil) rfl rfl rfl ?_
   intro v141z w142z H
   have hvc_q143z:=Sl.cells (H.os 0)
   have hvo_q143z:=Sl.oc (H.os 0)
   refine s_nil ⟨(H.pk [1,4,5,6,7,8,9,10,11]),?_⟩
   refine t_l rfl ?_
   refine t_app (α:=Int) (k:=2) (l:=l) (l2:=[(r2:Int)]) (l':=l++([(r2:Int)])) (vy:=v141z) T22 rfl H rfl rfl rfl (H.os 0) (H.ol 0) (rfl) (by first | omega | (simp only [List.length_nil] at *; omega)) ?_
   intro v144z w145z H
   replace H:=H.nf
   have hvc_q146z:=Sl.cells (H.os 2)
   have hvo_q146z:=Sl.oc (H.os 2)
   refine s_nil ⟨(H.pk [1,4,5,6,7,8,9,10,11]),?_⟩
   refine t_l rfl ?_
   refine t_sw 3 0 [v144z] v144z H rfl rfl Sz22 (Sl.cells (H.os 2)) rfl rfl (by simp only [List.all_cons,List.all_nil,Bool.true_and,Bool.and_true,Sl.oc (H.os 2)]; try rfl) ?_
   intro w147z H
   refine s_nil ⟨(H.pk [1,4,5,6,7,8,9,10,11]),?_⟩
   refine t_nil ?_
   exact ⟨l++([(r2:Int)]),[cOwn (α:=Int) 3 v144z (l++([(r2:Int)])),cBlk b_5 [v144z] 22],(M.e_pure hM).symm,⟨v144z,rfl⟩,H.pick [2,3,4,5,6,7,8,9,10,11] (by decide) rfl⟩
  skip
  refine t_bs (α:=Int) T22 [I r2] [(r2:Int)] H rfl (.cons rfl (Flat.rep_enc _ (r2:Int))<|.nil) rfl rfl rfl ?_
  intro v148z w149z H
  have hvc_q150z:=Sl.cells (H.os 0)
  have hvo_q150z:=Sl.oc (H.os 0)
  refine s_nil ⟨(H.pk [1,4,5,6,7,8,9,10,11]),?_⟩
  refine t_l rfl ?_
  refine kg 1 ?_
  refine s_nil ⟨(H.pk [1,4,5,6,7,8,9,10,11]),?_⟩
  refine t_l rfl ?_
  refine t_app (α:=Int) (k:=2) (l:=l) (l2:=[(r2:Int)]) (l':=l++([(r2:Int)])) (vy:=v148z) T22 rfl H rfl rfl rfl (H.os 0) (H.ol 0) (rfl) (by first | omega | (simp only [List.length_nil] at *; omega)) ?_
  intro v151z w152z H
  replace H:=H.nf
  have hvc_q153z:=Sl.cells (H.os 2)
  have hvo_q153z:=Sl.oc (H.os 2)
  refine s_nil ⟨(H.pk [1,4,5,6,7,8,9,10,11]),?_⟩
  refine t_l rfl ?_
  refine t_sw 3 0 [v151z] v151z H rfl rfl Sz22 (Sl.cells (H.os 2)) rfl rfl (by simp only [List.all_cons,List.all_nil,Bool.true_and,Bool.and_true,Sl.oc (H.os 2)]; try rfl) ?_
  intro w154z H
  refine s_nil ⟨(H.pk [1,4,5,6,7,8,9,10,11]),?_⟩
  refine t_nil ?_
  exact ⟨l++([(r2:Int)]),[cOwn (α:=Int) 3 v151z (l++([(r2:Int)])),cBlk b_5 [v151z] 22],(M.e_pure hM).symm,⟨v151z,rfl⟩,H.pick [2,3,4,5,6,7,8,9,10,11] (by decide) rfl⟩
 replace H:St w w102z (cAll (cObj l99z (.loop r101z) :: [cOwn (α:=Int) 3 (.slice none 0 0) ([]),cBlk b_5 [(.slice none 0 0)] 22]) :: [cMk (D100z :: ([])),cBlk nb0_6 [I r00] 3,cBlk nb1_7 [I r10] 3,cBlk nb2_8 [Pq nb0_2] 93,cBlk b_4 [.func (.func 82) #[] #[]] 104,cBlk nb0_2 [v_b_Years,v_b_Olds,I r02,I r03,.map (some nb1_3)] 132,cMl I encSp nb1_3 r04,cBlk b_1 [v_b_Years,v_b_Olds,I b_First,I b_Last] 28]) R:=St.bundleB (A:=cObj l99z (.loop r101z) :: [cOwn (α:=Int) 3 (.slice none 0 0) ([]),cBlk b_5 [(.slice none 0 0)] 22]) (T:=[cMk (D100z :: ([])),cBlk nb0_6 [I r00] 3,cBlk nb1_7 [I r10] 3,cBlk nb2_8 [Pq nb0_2] 93,cBlk b_4 [.func (.func 82) #[] #[]] 104,cBlk nb0_2 [v_b_Years,v_b_Olds,I r02,I r03,.map (some nb1_3)] 132,cMl I encSp nb1_3 r04,cBlk b_1 [v_b_Years,v_b_Olds,I b_First,I b_Last] 28]) rfl (H.pk [0,2,3,1,4,5,6,7,8,9,10])
 refine (zaE (M.yl zaJ) (.inl ([])) r00 r10 b_Years b_Olds r02 r03 r04 hYC ⟨_,rfl,⟨(.slice none 0 0),rfl⟩⟩ (Has.here (k:=1) rfl) (Has.here (k:=2) rfl) (hC_b_Years.app _) hs_b_Years (hC_b_Olds.app _) hs_b_Olds (Has.here (k:=6) rfl) (Has.here (k:=5) rfl) (Has.here (k:=3) rfl) hx98z _ (H.gt 8)).mono ?_
 rintro vq w155z ⟨t159z,Ls157z,hq160z,hvq,H2_,hY158z⟩
 subst hq160z
 replace H:=H.back H2_ rfl
 clear H2_ hYC
 rcases t159z with l | _
 ·try dsimp only at hM
  obtain ⟨_,rfl,v_l,rfl⟩:=hY158z
  refine ⟨_,[cOwn (α:=Int) 3 v_l l,cBlk b_5 [v_l] 22,cBlk nb0_6 [I r00] 3,cBlk nb1_7 [I r10] 3,cBlk nb2_8 [Pq nb0_2] 93,cBlk b_4 [.func (.func 82) #[] #[]] 104,cBlk nb0_2 [v_b_Years,v_b_Olds,I r02,I r03,.map (some nb1_3)] 132,cMl I encSp nb1_3 r04,cBlk b_1 [v_b_Years,v_b_Olds,I b_First,I b_Last] 28],H.unbundle.pick [0,3,1,2,4,5,6,7,8,9,10] (by decide) rfl,hr103z.nb,?_⟩
  intro w156z H
  rw [hr103z.pd]
  replace H:=H.nf
  try simp only []
  refine WD.seq ?_
  refine WD.of ?_
  refine kg 5 ?_
  refine WD.of ?_
  refine W.ret ?_
  refine bodyD_r (H.pk [0,1,2,3,4,5,6,7,8,9]) ?_
  intro w161z H
  replace H:=H.nf
  have hr_:=M.e_pure hM
  exact ⟨_,resE_tmp2 rfl,⟨l,0,v_l,hr_,rfl,(H.pk [0])⟩⟩
 obtain ⟨_,_,h_⟩:=hY158z; exact h_.elim

end Go.Proofs.YtejefipopolccaaGreat
end
section
set_option maxRecDepth 100000
set_option maxHeartbeats 16000000
namespace Go.Proofs.YtejefipopolccaaGreat
open Go Go.Nm
attribute [local irreducible] gd execOp SL SLD SLT WR
def zce (b_Years:List Yr) (b_Olds:List Old10) (b_First:Int) (b_Last:Int) (from_:Int) (to_:Int) (n:Int) (first:Int) (last:Int):M Int :=
  M.bind (zbh b_Years b_Olds b_First b_Last) fun (r0,r1) =>
  bif ((r1 != 0)&&(r1 != 5)) then (
  M.pure r1)
  else (
  bif (((decide (from_<b_First))||(decide (b_Last<to_)))||(decide (to_<from_))) then (
  M.pure 2)
  else (
  M.bind (zac n first last) fun r2 =>
  bif r2 then (
  M.pure 4)
  else (
  bif r1==0 then (
  M.pure 6)
  else (
  M.pure 0))))
theorem zdw {R:List Chunk} {C_b_Years:Cells} {v_b_Years:Value} {C_b_Olds:Cells} {v_b_Olds:Value} (b_Years:List Yr) (b_Olds:List Old10) (b_First:Int) (b_Last:Int) (from_:Int) (to_:Int) (n:Int) (first:Int) (last:Int) (hC_b_Years:Reads R C_b_Years) (hs_b_Years:Sl C_b_Years v_b_Years b_Years) (hC_b_Olds:Reads R C_b_Olds) (hs_b_Olds:Sl C_b_Olds v_b_Olds b_Olds) {r:Int} (hM:(zce b_Years b_Olds b_First b_Last from_ to_ n first last).Ends r) (w:World) (H:St w w [] R):Ret Tryz.prog 78 #[.agg #[v_b_Years,v_b_Olds,I b_First,I b_Last],I from_,I to_,I n,I first,I last] w fun v w'=>∃ (y0:Int),y0=r/\v=I y0/\St w w' [] R:=by
 refine ret_of_W Tryz.func78 rfl rfl rfl ?_
 refine kg 2 ?_
 refine t_box (v:=.agg #[v_b_Years,v_b_Olds,I b_First,I b_Last]) (cs:=[v_b_Years,v_b_Olds,I b_First,I b_Last]) H rfl rfl ?_
 intro b_1 w1z H
 refine kg 5 ?_
 obtain ⟨r3z,hx2z,hM⟩:=M.e_bind hM
 refine s_call cf36 [.agg #[v_b_Years,v_b_Olds,I b_First,I b_Last]] rfl (zdl b_Years b_Olds b_First b_Last (hC_b_Years.app _) hs_b_Years (hC_b_Olds.app _) hs_b_Olds hx2z _ (H.gt 1)) ?_
 rintro vq w4z ⟨r0,r1,hr5z,hvq,H2_⟩
 subst hr5z
 subst vq
 try dsimp only at hM
 replace H:=H.bk H2_
 clear H2_
 refine kg 16 ?_
 refine W.cond ((r1 != 0)&&(r1 != 5)) rfl (fun c6z=>?_) (fun c6z=>?_)
 ·replace hM:=M.e_t hM c6z
  refine kg 5 ?_
  refine W.ret ?_
  have hr_:=M.e_pure hM
  exact ⟨_,resE_tmp rfl,⟨r1,hr_,rfl,(H.pk [])⟩⟩
 replace hM:=M.e_f hM c6z
 refine kg 20 ?_
 refine W.cond (((decide (from_<b_First))||(decide (b_Last<to_)))||(decide (to_<from_))) rfl (fun c7z=>?_) (fun c7z=>?_)
 ·replace hM:=M.e_t hM c7z
  refine kg 4 ?_
  refine W.ret ?_
  have hr_:=M.e_pure hM
  exact ⟨_,resE_tmp rfl,⟨2,hr_,rfl,(H.pk [])⟩⟩
 replace hM:=M.e_f hM c7z
 refine kg 7 ?_
 obtain ⟨r9z,hx8z,hM⟩:=M.e_bind hM
 refine s_call cf56 [I n,I first,I last] rfl (zae n first last hx8z _ (H.gt 1)) ?_
 rintro vq w10z ⟨r2,hr11z,hvq,H2_⟩
 subst hr11z
 subst vq
 try dsimp only at hM
 replace H:=H.bk H2_
 clear H2_
 refine s_nil ?_
 refine W.cond r2 rfl (fun c12z=>?_) (fun c12z=>?_)
 ·replace hM:=M.e_t hM c12z
  refine kg 4 ?_
  refine W.ret ?_
  have hr_:=M.e_pure hM
  exact ⟨_,resE_tmp rfl,⟨4,hr_,rfl,(H.pk [])⟩⟩
 replace hM:=M.e_f hM c12z
 refine kg 7 ?_
 refine W.cond (r1==0) rfl (fun c13z=>?_) (fun c13z=>?_)
 ·replace hM:=M.e_t hM c13z
  simp only [qy1,qy2,qy3,qy4,qy5,qy6,ne_eq,qy7] at c13z
  refine kg 4 ?_
  refine W.ret ?_
  have hr_:=M.e_pure hM
  exact ⟨_,resE_tmp rfl,⟨6,hr_,rfl,(H.pk [])⟩⟩
 replace hM:=M.e_f hM c13z
 simp only [qy1,qy2,qy3,qy4,qy5,qy6,ne_eq,qy7] at c13z
 refine kg 5 ?_
 refine W.ret ?_
 have hr_:=M.e_pure hM
 exact ⟨_,resE_tmp rfl,⟨0,hr_,rfl,(H.pk [])⟩⟩

def zbV (b_Years:List Yr) (b_Olds:List Old10) (b_First:Int) (b_Last:Int) (to_:Int) (stage:Int):(Int × Int × Int)->M ((Int × Int × Int) ⊕ (Int × Int)):=fun (s,s2,year) =>
  bif decide (year<=to_) then (
  M.bind (zaA b_Years b_Olds b_First b_Last year) fun (r0,r1) =>
  bif decide (stage<=r0) then (
  M.grd (decide ((-9223372036854775808:Int)<=(s+1))&&decide ((s+1)<=(9223372036854775807:Int))) <|
  bif decide (stage<=r1) then (
  M.grd (decide ((-9223372036854775808:Int)<=(s2+1))&&decide ((s2+1)<=(9223372036854775807:Int))) <|
  M.grd (decide ((-9223372036854775808:Int)<=(year+1))&&decide ((year+1)<=(9223372036854775807:Int))) <|
  M.pure (.inl (s+1,s2+1,year+1)))
  else (
  M.grd (decide ((-9223372036854775808:Int)<=(year+1))&&decide ((year+1)<=(9223372036854775807:Int))) <|
  M.pure (.inl (s+1,s2,year+1))))
  else (
  bif decide (stage<=r1) then (
  M.grd (decide ((-9223372036854775808:Int)<=(s2+1))&&decide ((s2+1)<=(9223372036854775807:Int))) <|
  M.grd (decide ((-9223372036854775808:Int)<=(year+1))&&decide ((year+1)<=(9223372036854775807:Int))) <|
  M.pure (.inl (s,s2+1,year+1)))
  else (
  M.grd (decide ((-9223372036854775808:Int)<=(year+1))&&decide ((year+1)<=(9223372036854775807:Int))) <|
  M.pure (.inl (s,s2,year+1)))))
  else (
  M.pure (.inr (s,s2)))
def zbG (b_Years:List Yr) (b_Olds:List Old10) (b_First:Int) (b_Last:Int) (from_:Int) (to_:Int) (stage:Int):M (Int × Int × Int) :=
  M.bind (zce b_Years b_Olds b_First b_Last from_ to_ stage 0 2000) fun r2 =>
  bif r2 != 0 then (
  M.pure (0,0,r2))
  else (
  M.bind (M.iter (zbV b_Years b_Olds b_First b_Last to_ stage) (0,0,from_)) fun (s3,s4) =>
  M.pure (s3,s4,0))
theorem zdv {R:List Chunk} {C_b_Years:Cells} {v_b_Years:Value} {C_b_Olds:Cells} {v_b_Olds:Value} (b_Years:List Yr) (b_Olds:List Old10) (b_First:Int) (b_Last:Int) (from_:Int) (to_:Int) (stage:Int) (hC_b_Years:Reads R C_b_Years) (hs_b_Years:Sl C_b_Years v_b_Years b_Years) (hC_b_Olds:Reads R C_b_Olds) (hs_b_Olds:Sl C_b_Olds v_b_Olds b_Olds) {r:(Int × Int × Int)} (hM:(zbG b_Years b_Olds b_First b_Last from_ to_ stage).Ends r) (w:World) (H:St w w [] R):Ret Tryz.prog 40 #[.agg #[v_b_Years,v_b_Olds,I b_First,I b_Last],I from_,I to_,I stage] w fun v w'=>∃ (y0:Int) (y1:Int) (y2:Int),(y0,y1,y2)=r/\v = .tuple #[.agg #[I y0,I y1],I y2]/\St w w' [] R:=by
 refine ret_of_W Tryz.func40 rfl rfl rfl ?_
 refine kg 2 ?_
 refine t_box (v:=.agg #[v_b_Years,v_b_Olds,I b_First,I b_Last]) (cs:=[v_b_Years,v_b_Olds,I b_First,I b_Last]) H rfl rfl ?_
 intro b_1 w1z H
 refine t_alloc (cs:=[I 0,I 0]) H Al34 rfl ?_
 intro b_2 w2z H
 refine kg 9 ?_
 obtain ⟨r4z,hx3z,hM⟩:=M.e_bind hM
 refine s_call cf78 [.agg #[v_b_Years,v_b_Olds,I b_First,I b_Last],I from_,I to_,I stage,I 0,I 2000] rfl (zdw b_Years b_Olds b_First b_Last from_ to_ stage 0 2000 (hC_b_Years.app _) hs_b_Years (hC_b_Olds.app _) hs_b_Olds hx3z _ (H.gt 2)) ?_
 rintro vq w5z ⟨r2,hr6z,hvq,H2_⟩
 subst hr6z
 subst vq
 try dsimp only at hM
 replace H:=H.bk H2_
 clear H2_
 refine kg 7 ?_
 refine W.cond (r2 != 0) rfl (fun c7z=>?_) (fun c7z=>?_)
 ·replace hM:=M.e_t hM c7z
  simp only [qy1,qy2,qy3,qy4,qy5,qy6,ne_eq,qy7] at c7z
  refine kg 2 ?_
  refine s_val (x_bld (ps:=[]) (zs:=[I 0,I 0]) (L':=[I 0,I 0]) rfl Tryz.underlying34 Al34 rfl (Bd34 Tryz.underlying34) (.nil)) ?_
  refine kg 1 ?_
  refine t_sw 0 0 [I 0,I 0] (.agg #[I 0,I 0]) H rfl rfl Sz34 rfl rfl rfl rfl ?_
  intro w8z H
  refine kg 2 ?_
  refine W.ret ?_
  have hb9z:=(H.bl 0)
  have hr_:=M.e_pure hM
  exact ⟨_,(resE_ofn (vs:=[.agg #[I 0,I 0],I r2]) rfl rfl (.cell (v:=.agg #[I 0,I 0]) rfl (run_loadVar_ag (ds:=[I 0,I 0]) Ag34 Sz34 hb9z rfl rfl)<|.tmp (v:=I r2) rfl<|.nil)),⟨0,0,r2,hr_,rfl,(H.pk [])⟩⟩
 replace hM:=M.e_f hM c7z
 simp only [qy1,qy2,qy3,qy4,qy5,qy6,ne_eq,qy7] at c7z
 refine kg 3 ?_
 refine t_alloc (cs:=[I 0,I 0]) H Al34 rfl ?_
 intro b_3 w10z H
 refine kg 8 ?_
 obtain ⟨ex11z,hi12z,hk13z⟩:=M.e_bind hM
 obtain ⟨m0_,hi12z⟩:=M.e_iter hi12z
 refine W.loop (fun m σ W=>∃ (s:Int) (s2:Int) (year:Int) (ρ:Env),σ=upds ρ [(2,I to_),(3,I stage),(4,Pq b_1),(8,Pq b_2),(11,Pq b_3),(12,I year)]/\M.iterN (zbV b_Years b_Olds b_First b_Last to_ stage) m (s,s2,year)=some ex11z/\St w W [cBlk b_3 [I s,I s2] 34,cBlk b_2 [I 0,I 0] 34,cBlk b_1 [v_b_Years,v_b_Olds,I b_First,I b_Last] 77] R) ?_ ?_
 ·exact ⟨_,0,0,from_,_,upds_of _ _ ⟨rfl,rfl,rfl,rfl,rfl,rfl,trivial⟩,hi12z,H⟩
 rintro m16z σ w14z ⟨s,s2,year,ρ,rfl,hI15z,H⟩
 obtain ⟨m17z,lt18z,x19z,hM,hN20z⟩:=M.e_iterN hI15z
 simp only [zbV] at hM
 clear hI15z
 refine kg 7 ?_
 refine W.cond (decide (year<=to_)) rfl (fun c21z=>?_) (fun c21z=>?_)
 ·replace hM:=M.e_t hM c21z
  simp only [qy1,qy2,qy3,qy4,qy5,qy6,ne_eq,qy7] at c21z
  refine kg 7 ?_
  obtain ⟨r23z,hx22z,hM⟩:=M.e_bind hM
  refine s_call cf76 [.agg #[v_b_Years,v_b_Olds,I b_First,I b_Last],I year] rfl (zcX b_Years b_Olds b_First b_Last year (hC_b_Years.app _) hs_b_Years (hC_b_Olds.app _) hs_b_Olds hx22z _ (H.gt 3)) ?_
  rintro vq w24z ⟨r0,r1,hr25z,hvq,H2_⟩
  subst hr25z
  subst vq
  try dsimp only at hM
  replace H:=H.bk H2_
  clear H2_
  refine t_alloc (cs:=[I 0,I 0]) H Al34 rfl ?_
  intro b_4 w26z H
  refine t_sw 0 0 [I r0,I r1] (.agg #[I r0,I r1]) H rfl rfl Sz34 rfl rfl rfl rfl ?_
  intro w27z H
  refine kg 9 ?_
  refine W.cond (decide (stage<=r0)) rfl (fun c28z=>?_) (fun c28z=>?_)
  ·replace hM:=M.e_t hM c28z
   simp only [qy1,qy2,qy3,qy4,qy5,qy6,ne_eq,qy7] at c28z
   obtain ⟨sd29z,hM⟩:=M.e_grd hM
   simp only [Bool.and_eq_true,decide_eq_true_eq] at sd29z
   refine kg 5 ?_
   refine t_sw 1 0 [I (s+1)] (I (s+1)) H rfl rfl Sz3 rfl rfl rfl rfl ?_
   intro w30z H
   refine kg 8 ?_
   refine W.cond (decide (stage<=r1)) rfl (fun c31z=>?_) (fun c31z=>?_)
   ·replace hM:=M.e_t hM c31z
    simp only [qy1,qy2,qy3,qy4,qy5,qy6,ne_eq,qy7] at c31z
    obtain ⟨sd32z,hM⟩:=M.e_grd hM
    simp only [Bool.and_eq_true,decide_eq_true_eq] at sd32z
    refine kg 5 ?_
    refine t_sw 1 1 [I (s2+1)] (I (s2+1)) H rfl rfl Sz3 rfl rfl rfl rfl ?_
    intro w33z H
    obtain ⟨sd34z,hM⟩:=M.e_grd hM
    simp only [Bool.and_eq_true,decide_eq_true_eq] at sd34z
    refine kg 6 ?_
    exact ⟨m17z,lt18z,s+1,s2+1,year+1,_,upds_of _ _ ⟨rfl,rfl,rfl,rfl,rfl,rfl,trivial⟩,M.e_inl hM hN20z,(H.pk [1,2,3])⟩
   replace hM:=M.e_f hM c31z
   simp only [qy1,qy2,qy3,qy4,qy5,qy6,ne_eq,qy7] at c31z
   obtain ⟨sd35z,hM⟩:=M.e_grd hM
   simp only [Bool.and_eq_true,decide_eq_true_eq] at sd35z
   refine kg 6 ?_
   exact ⟨m17z,lt18z,s+1,s2,year+1,_,upds_of _ _ ⟨rfl,rfl,rfl,rfl,rfl,rfl,trivial⟩,M.e_inl hM hN20z,(H.pk [1,2,3])⟩
  replace hM:=M.e_f hM c28z
  simp only [qy1,qy2,qy3,qy4,qy5,qy6,ne_eq,qy7] at c28z
  refine kg 8 ?_
  refine W.cond (decide (stage<=r1)) rfl (fun c36z=>?_) (fun c36z=>?_)
  ·replace hM:=M.e_t hM c36z
   simp only [qy1,qy2,qy3,qy4,qy5,qy6,ne_eq,qy7] at c36z
   obtain ⟨sd37z,hM⟩:=M.e_grd hM
   simp only [Bool.and_eq_true,decide_eq_true_eq] at sd37z
   refine kg 5 ?_
   refine t_sw 1 1 [I (s2+1)] (I (s2+1)) H rfl rfl Sz3 rfl rfl rfl rfl ?_
   intro w38z H
   obtain ⟨sd39z,hM⟩:=M.e_grd hM
   simp only [Bool.and_eq_true,decide_eq_true_eq] at sd39z
   refine kg 6 ?_
   exact ⟨m17z,lt18z,s,s2+1,year+1,_,upds_of _ _ ⟨rfl,rfl,rfl,rfl,rfl,rfl,trivial⟩,M.e_inl hM hN20z,(H.pk [1,2,3])⟩
  replace hM:=M.e_f hM c36z
  simp only [qy1,qy2,qy3,qy4,qy5,qy6,ne_eq,qy7] at c36z
  obtain ⟨sd40z,hM⟩:=M.e_grd hM
  simp only [Bool.and_eq_true,decide_eq_true_eq] at sd40z
  refine kg 6 ?_
  exact ⟨m17z,lt18z,s,s2,year+1,_,upds_of _ _ ⟨rfl,rfl,rfl,rfl,rfl,rfl,trivial⟩,M.e_inl hM hN20z,(H.pk [1,2,3])⟩
 replace hM:=M.e_f hM c21z
 simp only [qy1,qy2,qy3,qy4,qy5,qy6,ne_eq,qy7] at c21z
 refine W.exit ?_
 have hX41z:=M.e_inr hM hN20z
 subst hX41z
 replace hM:=hk13z
 try dsimp only at hM
 refine kg 3 ?_
 refine t_sw 1 0 [I s,I s2] (.agg #[I s,I s2]) H rfl rfl Sz34 rfl rfl rfl rfl ?_
 intro w42z H
 refine kg 2 ?_
 refine W.ret ?_
 have hb43z:=(H.bl 1)
 have hr_:=M.e_pure hM
 exact ⟨_,(resE_ofn (vs:=[.agg #[I s,I s2],I 0]) rfl rfl (.cell (v:=.agg #[I s,I s2]) rfl (run_loadVar_ag (ds:=[I s,I s2]) Ag34 Sz34 hb43z rfl rfl)<|.tmp (v:=I 0) rfl<|.nil)),⟨s,s2,0,hr_,rfl,(H.pk [])⟩⟩

def zcU (r_:Rto):Nat->M (Nat ⊕ (Unit ⊕ Unit)):=fun k =>
  bif decide ((k:Int)<=r_.den) then (
  M.grd (decide ((0:Int)<=r_.num)&&decide ((0:Int)<(k:Int))) <|
  M.grd ((!((r_.num % (k:Int))==0)||(decide ((0:Int)<=r_.den)&&decide ((0:Int)<(k:Int))))) <|
  bif (((r_.num % (k:Int))==0)&&((r_.den % (k:Int))==0)) then (
  M.pure (.inr (.inl ())))
  else (
  M.grd (decide ((-9223372036854775808:Int)<=((k:Int)+1))&&decide (((k:Int)+1)<=(9223372036854775807:Int))) <|
  M.pure (.inl (k+1))))
  else (
  M.pure (.inr (.inr ())))
def zco (b_Years:List Yr) (b_Olds:List Old10) (b_First:Int) (b_Last:Int) (r_:Rto) (n:Int):M Bool :=
  M.grd (decide ((-9223372036854775808:Int)<=(b_Last-b_First))&&decide ((b_Last-b_First)<=(9223372036854775807:Int))) <|
  M.grd (decide ((-9223372036854775808:Int)<=((b_Last-b_First)+1))&&decide (((b_Last-b_First)+1)<=(9223372036854775807:Int))) <|
  M.grd ((!(!(decide (r_.den<1)))||(decide ((-9223372036854775808:Int)<=(r_.num*((b_Last-b_First)+1)))&&decide ((r_.num*((b_Last-b_First)+1))<=(9223372036854775807:Int))))) <|
  M.grd ((!(!(decide (r_.den<1)))||(decide ((-9223372036854775808:Int)<=(n*r_.den))&&decide ((n*r_.den)<=(9223372036854775807:Int))))) <|
  bif ((decide (r_.den<1))||((r_.num*((b_Last-b_First)+1)) != (n*r_.den))) then (
  M.pure false)
  else (
  M.bind (M.iter (zcU r_) 2) fun x_=>match x_ with
  | (.inl (_:Unit))=>(
  M.pure false)
  | (.inr (_:Unit))=>(
  M.pure true))
theorem zdM {R:List Chunk} {C_b_Years:Cells} {v_b_Years:Value} {C_b_Olds:Cells} {v_b_Olds:Value} (b_Years:List Yr) (b_Olds:List Old10) (b_First:Int) (b_Last:Int) (r_:Rto) (n:Int) (hC_b_Years:Reads R C_b_Years) (hs_b_Years:Sl C_b_Years v_b_Years b_Years) (hC_b_Olds:Reads R C_b_Olds) (hs_b_Olds:Sl C_b_Olds v_b_Olds b_Olds) {r:Bool} (hM:(zco b_Years b_Olds b_First b_Last r_ n).Ends r) (w:World) (H:St w w [] R):Ret Tryz.prog 41 #[.agg #[v_b_Years,v_b_Olds,I b_First,I b_Last],.agg #[I r_.num,I r_.den],I n] w fun v w'=>∃ (y0:Bool),y0=r/\v=B y0/\St w w' [] R:=by
 refine ret_of_W Tryz.func41 rfl rfl rfl ?_
 refine kg 2 ?_
 refine t_box (v:=.agg #[v_b_Years,v_b_Olds,I b_First,I b_Last]) (cs:=[v_b_Years,v_b_Olds,I b_First,I b_Last]) H rfl rfl ?_
 intro b_1 w1z H
 refine t_box (v:=.agg #[I r_.num,I r_.den]) (cs:=[I r_.num,I r_.den]) H rfl rfl ?_
 intro b_2 w2z H
 obtain ⟨sd3z,hM⟩:=M.e_grd hM
 simp only [Bool.and_eq_true,decide_eq_true_eq] at sd3z
 obtain ⟨sd4z,hM⟩:=M.e_grd hM
 simp only [Bool.and_eq_true,decide_eq_true_eq] at sd4z
 obtain ⟨sd5z,hM⟩:=M.e_grd hM
 replace sd5z:=M.imp_of sd5z
 simp only [Bool.and_eq_true,decide_eq_true_eq] at sd5z
 obtain ⟨sd6z,hM⟩:=M.e_grd hM
 replace sd6z:=M.imp_of sd6z
 simp only [Bool.and_eq_true,decide_eq_true_eq] at sd6z
 refine kg 30 ?_
 refine W.cond ((decide (r_.den<1))||((r_.num*((b_Last-b_First)+1)) != (n*r_.den))) rfl (fun c7z=>?_) (fun c7z=>?_)
 ·replace hM:=M.e_t hM c7z
  refine kg 4 ?_
  refine W.ret ?_
  have hr_:=M.e_pure hM
  exact ⟨_,resE_tmp rfl,⟨false,hr_,rfl,(H.pk [])⟩⟩
 replace hM:=M.e_f hM c7z
 refine kg 7 ?_
 obtain ⟨ex8z,hi9z,hk10z⟩:=M.e_bind hM
 obtain ⟨m0_,hi9z⟩:=M.e_iter hi9z
 refine W.loop (fun m σ W=>∃ (k:Nat) (ρ:Env),σ=upds ρ [(4,Pq b_2),(8,I (k:Int))]/\M.iterN (zcU r_) m k=some ex8z/\St w W [cBlk b_2 [I r_.num,I r_.den] 51,cBlk b_1 [v_b_Years,v_b_Olds,I b_First,I b_Last] 77] R) ?_ ?_
 ·exact ⟨_,2,_,upds_of _ _ ⟨rfl,rfl,trivial⟩,hi9z,H⟩
 rintro m13z σ w11z ⟨k,ρ,rfl,hI12z,H⟩
 obtain ⟨m14z,lt15z,x16z,hM,hN17z⟩:=M.e_iterN hI12z
 simp only [zcU] at hM
 clear hI12z
 refine kg 8 ?_
 refine W.cond (decide ((k:Int)<=r_.den)) rfl (fun c18z=>?_) (fun c18z=>?_)
 ·replace hM:=M.e_t hM c18z
  simp only [qy1,qy2,qy3,qy4,qy5,qy6,ne_eq,qy7] at c18z
  obtain ⟨sd19z,hM⟩:=M.e_grd hM
  simp only [Bool.and_eq_true,decide_eq_true_eq] at sd19z
  refine kg 8 ?_
  refine s_val (x_rem' (a:=r_.num) (b:=(k:Int)) rfl rfl (by omega)) ?_
  obtain ⟨sd20z,hM⟩:=M.e_grd hM
  replace sd20z:=M.imp_of sd20z
  simp only [Bool.and_eq_true,decide_eq_true_eq] at sd20z
  refine kg 5 ?_
  refine g_val ((r_.num % (k:Int))==0) (gy_t rfl) (fun hg=>x_rem' (a:=r_.den) (b:=(k:Int)) (gd_of (c:=(r_.num % (k:Int))==0) hg (I r_.den)) (gd_of (c:=(r_.num % (k:Int))==0) hg (I (k:Int))) (by have h1_:=sd20z.resolve_left (by rw [hg]; decide); first | exact h1_ | exact h1_.1 | exact h1_.2 | omega | (have hx_:=hg; simp at hx_; omega))) ?_
  refine kg 3 ?_
  refine W.cond (((r_.num % (k:Int))==0)&&((r_.den % (k:Int))==0)) rfl (fun c21z=>?_) (fun c21z=>?_)
  ·replace hM:=M.e_t hM c21z
   refine kg 4 ?_
   refine W.ret ?_
   have hX22z:=M.e_inr hM hN17z
   subst hX22z
   replace hM:=hk10z
   try dsimp only at hM
   have hr_:=M.e_pure hM
   exact ⟨_,resE_tmp rfl,⟨false,hr_,rfl,(H.pk [])⟩⟩
  replace hM:=M.e_f hM c21z
  obtain ⟨sd23z,hM⟩:=M.e_grd hM
  simp only [Bool.and_eq_true,decide_eq_true_eq] at sd23z
  refine kg 6 ?_
  exact ⟨m14z,lt15z,k+1,_,upds_of _ _ ⟨rfl,rfl,trivial⟩,M.e_inl hM hN17z,H⟩
 replace hM:=M.e_f hM c18z
 simp only [qy1,qy2,qy3,qy4,qy5,qy6,ne_eq,qy7] at c18z
 refine W.exit ?_
 have hX24z:=M.e_inr hM hN17z
 subst hX24z
 replace hM:=hk10z
 try dsimp only at hM
 refine kg 4 ?_
 refine W.ret ?_
 have hr_:=M.e_pure hM
 exact ⟨_,resE_tmp rfl,⟨true,hr_,rfl,(H.pk [])⟩⟩

def zbg (b_Years:List Yr) (b_Olds:List Old10) (b_First:Int) (b_Last:Int) (to_:Int):(Int × (List Span))->M ((Int × (List Span)) ⊕ ((List Span) × (List Span))):=fun (year,l) =>
  bif decide (year<=to_) then (
  M.bind (zaA b_Years b_Olds b_First b_Last year) fun (r0,r1) =>
  M.grd (decide ((l.length+([(⟨(r0:Int),(r1:Int)⟩:Span)]).length)*16<=140737488355328)) <|
  M.grd (decide ((-9223372036854775808:Int)<=(year+1))&&decide ((year+1)<=(9223372036854775807:Int))) <|
  M.pure (.inl (year+1,l++([(⟨(r0:Int),(r1:Int)⟩:Span)]))))
  else (
  M.pure (.inr (l,l)))
def za1 (l3:List Span) (stage:Nat) (high:Nat) (i:Nat) (low:Int):M ((Int × Nat × Nat) ⊕ (Int × Int)) :=
  bif decide ((stage:Int)<=((l3.getD i default).hi)) then (
  M.grd (decide ((-9223372036854775808:Int)<=((high:Int)+1))&&decide (((high:Int)+1)<=(9223372036854775807:Int))) <|
  M.pure (.inl (low,high+1,i+1)))
  else (
  M.pure (.inl (low,high,i+1)))
def zaQ (l3:List Span) (stage:Nat):(Int × Nat × Nat)->M ((Int × Nat × Nat) ⊕ (Int × Int)):=fun (low2,high,i) =>
  bif decide ((i:Int)<(l3.length:Int)) then (
  M.grd (decide ((i:Int)<(l3.length:Int))) <|
  bif decide ((stage:Int)<=((l3.getD i default).lo)) then (
  M.grd (decide ((-9223372036854775808:Int)<=(low2+1))&&decide ((low2+1)<=(9223372036854775807:Int))) <|
  za1 l3 stage high i (low2+1))
  else (
  za1 l3 stage high i low2))
  else (
  M.pure (.inr (low2,(high:Int))))
def zbK (times:Int) (stage:Nat) (s3:Int) (high2:Int) (s:Int):M ((Nat × Int × Int) ⊕ (Int × Int)) :=
  bif decide (times<=high2) then (
  M.grd (decide ((-9223372036854775808:Int)<=((stage:Int)+1))&&decide (((stage:Int)+1)<=(9223372036854775807:Int))) <|
  M.pure (.inl (stage+1,s,(stage:Int))))
  else (
  M.grd (decide ((-9223372036854775808:Int)<=((stage:Int)+1))&&decide (((stage:Int)+1)<=(9223372036854775807:Int))) <|
  M.pure (.inl (stage+1,s,s3)))
def zaW (times:Int) (l3:List Span):(Nat × Int × Int)->M ((Nat × Int × Int) ⊕ (Int × Int)):=fun (stage,s2,s3) =>
  bif decide ((stage:Int)<=2000) then (
  M.bind (M.iter (zaQ l3 stage) (0,0,0)) fun (low3,high2) =>
  bif decide (times<=low3) then (
  zbK times stage s3 high2 (stage:Int))
  else (
  zbK times stage s3 high2 s2))
  else (
  M.pure (.inr (s2,s3)))
def zbc (b_Years:List Yr) (b_Olds:List Old10) (b_First:Int) (b_Last:Int) (from_:Int) (to_:Int) (times:Int) (many:Int):M (Int × Int × Int) :=
  M.bind (zce b_Years b_Olds b_First b_Last from_ to_ times 1 many) fun r2 =>
  bif r2 != 0 then (
  M.pure (0,0,r2))
  else (
  M.bind (M.iter (zbg b_Years b_Olds b_First b_Last to_) (from_,[])) fun (l2,l3) =>
  M.bind (M.iter (zaW times l3) (0,0,0)) fun (s4,s5) =>
  M.pure (s4,s5,0))
def zb5 (b_Years:List Yr) (b_Olds:List Old10) (b_First:Int) (b_Last:Int) (from_:Int) (to_:Int) (times:Int):M (Int × Int × Int) :=
  bif (((decide (0<=from_))&&(decide (to_<=3000)))&&(decide (from_<=to_))) then (
  M.grd (decide ((-9223372036854775808:Int)<=(to_-from_))&&decide ((to_-from_)<=(9223372036854775807:Int))) <|
  M.grd (decide ((-9223372036854775808:Int)<=((to_-from_)+1))&&decide (((to_-from_)+1)<=(9223372036854775807:Int))) <|
  zbc b_Years b_Olds b_First b_Last from_ to_ times ((to_-from_)+1))
  else (
  zbc b_Years b_Olds b_First b_Last from_ to_ times 1)
theorem zea {R:List Chunk} {C_b_Years:Cells} {v_b_Years:Value} {C_b_Olds:Cells} {v_b_Olds:Value} (b_Years:List Yr) (b_Olds:List Old10) (b_First:Int) (b_Last:Int) (from_:Int) (to_:Int) (times:Int) (hC_b_Years:Reads R C_b_Years) (hs_b_Years:Sl C_b_Years v_b_Years b_Years) (hC_b_Olds:Reads R C_b_Olds) (hs_b_Olds:Sl C_b_Olds v_b_Olds b_Olds) {r:(Int × Int × Int)} (hM:(zb5 b_Years b_Olds b_First b_Last from_ to_ times).Ends r) (w:World) (H:St w w [] R):Ret Tryz.prog 42 #[.agg #[v_b_Years,v_b_Olds,I b_First,I b_Last],I from_,I to_,I times] w fun v w'=>∃ (y0:Int) (y1:Int) (y2:Int),(y0,y1,y2)=r/\v = .tuple #[.agg #[I y0,I y1],I y2]/\St w w' [] R:=by
 refine ret_of_W Tryz.func42 rfl rfl rfl ?_
 refine kg 2 ?_
 refine t_box (v:=.agg #[v_b_Years,v_b_Olds,I b_First,I b_Last]) (cs:=[v_b_Years,v_b_Olds,I b_First,I b_Last]) H rfl rfl ?_
 intro b_1 w1z H
 refine t_alloc (cs:=[I 0,I 0]) H Al34 rfl ?_
 intro b_2 w2z H
 refine kg 6 ?_
 refine W.seqJ (fun σ W=>∃ (many:Int) (ρ:Env),σ=upds ρ [(1,I from_),(2,I to_),(3,I times),(4,Pq b_1),(8,Pq b_2),(10,I many)]/\(zbc b_Years b_Olds b_First b_Last from_ to_ times many).Ends r/\St w W [cBlk b_2 [I 0,I 0] 34,cBlk b_1 [v_b_Years,v_b_Olds,I b_First,I b_Last] 77] R) ?_ ?_
 ·skip
  refine kg 14 ?_
  refine W.cond (((decide (0<=from_))&&(decide (to_<=3000)))&&(decide (from_<=to_))) rfl (fun c3z=>?_) (fun c3z=>?_)
  ·replace hM:=M.e_t hM c3z
   obtain ⟨sd4z,hM⟩:=M.e_grd hM
   simp only [Bool.and_eq_true,decide_eq_true_eq] at sd4z
   obtain ⟨sd5z,hM⟩:=M.e_grd hM
   simp only [Bool.and_eq_true,decide_eq_true_eq] at sd5z
   refine kg 7 ?_
   exact ⟨(to_-from_)+1,_,upds_of _ _ ⟨rfl,rfl,rfl,rfl,rfl,rfl,trivial⟩,hM,H⟩
  replace hM:=M.e_f hM c3z
  refine W.skip ?_
  exact ⟨1,_,upds_of _ _ ⟨rfl,rfl,rfl,rfl,rfl,rfl,trivial⟩,hM,H⟩
 rintro _ w6z ⟨many,ρ,rfl,hM,H⟩
 unfold zbc at hM
 refine kg 8 ?_
 obtain ⟨r8z,hx7z,hM⟩:=M.e_bind hM
 refine s_call cf78 [.agg #[v_b_Years,v_b_Olds,I b_First,I b_Last],I from_,I to_,I times,I 1,I many] rfl (zdw b_Years b_Olds b_First b_Last from_ to_ times 1 many (hC_b_Years.app _) hs_b_Years (hC_b_Olds.app _) hs_b_Olds hx7z _ (H.gt 2)) ?_
 rintro vq w9z ⟨r2,hr10z,hvq,H2_⟩
 subst hr10z
 subst vq
 try dsimp only at hM
 replace H:=H.bk H2_
 clear H2_
 refine kg 7 ?_
 refine W.cond (r2 != 0) rfl (fun c11z=>?_) (fun c11z=>?_)
 ·replace hM:=M.e_t hM c11z
  simp only [qy1,qy2,qy3,qy4,qy5,qy6,ne_eq,qy7] at c11z
  refine kg 2 ?_
  refine s_val (x_bld (ps:=[]) (zs:=[I 0,I 0]) (L':=[I 0,I 0]) rfl Tryz.underlying34 Al34 rfl (Bd34 Tryz.underlying34) (.nil)) ?_
  refine kg 1 ?_
  refine t_sw 0 0 [I 0,I 0] (.agg #[I 0,I 0]) H rfl rfl Sz34 rfl rfl rfl rfl ?_
  intro w12z H
  refine kg 2 ?_
  refine W.ret ?_
  have hb13z:=(H.bl 0)
  have hr_:=M.e_pure hM
  exact ⟨_,(resE_ofn (vs:=[.agg #[I 0,I 0],I r2]) rfl rfl (.cell (v:=.agg #[I 0,I 0]) rfl (run_loadVar_ag (ds:=[I 0,I 0]) Ag34 Sz34 hb13z rfl rfl)<|.tmp (v:=I r2) rfl<|.nil)),⟨0,0,r2,hr_,rfl,(H.pk [])⟩⟩
 replace hM:=M.e_f hM c11z
 simp only [qy1,qy2,qy3,qy4,qy5,qy6,ne_eq,qy7] at c11z
 refine kg 12 ?_
 replace H:=H.nilOwn (α:=Span) 34
 obtain ⟨ex14z,hi15z,hk16z⟩:=M.e_bind hM
 obtain ⟨m0_,hi15z⟩:=M.e_iter hi15z
 refine W.loop (fun m σ W=>∃ (year:Int) (l:List Span) (v_l:Value) (ρ:Env),σ=upds ρ [(2,I to_),(3,I times),(4,Pq b_1),(8,Pq b_2),(12,v_l),(13,I year)]/\M.iterN (zbg b_Years b_Olds b_First b_Last to_) m (year,l)=some ex14z/\St w W [cOwn (α:=Span) 34 v_l l,cBlk b_2 [I 0,I 0] 34,cBlk b_1 [v_b_Years,v_b_Olds,I b_First,I b_Last] 77] R) ?_ ?_
 ·exact ⟨_,from_,[],(.slice none 0 0),_,upds_of _ _ ⟨rfl,rfl,rfl,rfl,rfl,rfl,trivial⟩,hi15z,H⟩
 rintro m19z σ w17z ⟨year,l,v_l,ρ,rfl,hI18z,H⟩
 obtain ⟨m20z,lt21z,x22z,hM,hN23z⟩:=M.e_iterN hI18z
 simp only [zbg] at hM
 clear hI18z
 refine kg 7 ?_
 refine W.cond (decide (year<=to_)) rfl (fun c24z=>?_) (fun c24z=>?_)
 ·replace hM:=M.e_t hM c24z
  simp only [qy1,qy2,qy3,qy4,qy5,qy6,ne_eq,qy7] at c24z
  refine kg 7 ?_
  obtain ⟨r26z,hx25z,hM⟩:=M.e_bind hM
  refine s_call cf76 [.agg #[v_b_Years,v_b_Olds,I b_First,I b_Last],I year] rfl (zcX b_Years b_Olds b_First b_Last year (hC_b_Years.app _) hs_b_Years (hC_b_Olds.app _) hs_b_Olds hx25z _ (H.gt 3)) ?_
  rintro vq w27z ⟨r0,r1,hr28z,hvq,H2_⟩
  subst hr28z
  subst vq
  try dsimp only at hM
  replace H:=H.bk H2_
  clear H2_
  refine t_bs (α:=Span) T135 [.agg #[I r0,I r1]] [(⟨(r0:Int),(r1:Int)⟩:Span)] H rfl (.cons rfl (Flat.rep_enc _ (⟨(r0:Int),(r1:Int)⟩:Span))<|.nil) rfl rfl rfl ?_
  intro v29z w30z H
  obtain ⟨sd31z,hM⟩:=M.e_grd hM
  simp only [Bool.and_eq_true,decide_eq_true_eq] at sd31z
  refine t_app (α:=Span) (k:=1) (l:=l) (l2:=[(⟨(r0:Int),(r1:Int)⟩:Span)]) (l':=l++([(⟨(r0:Int),(r1:Int)⟩:Span)])) (vy:=v29z) T135 rfl H rfl rfl rfl (H.os 0) (H.ol 0) (rfl) (by first | omega | (simp only [List.length_nil] at *; omega)) ?_
  intro v32z w33z H
  replace H:=H.nf
  obtain ⟨sd34z,hM⟩:=M.e_grd hM
  simp only [Bool.and_eq_true,decide_eq_true_eq] at sd34z
  refine kg 7 ?_
  exact ⟨m20z,lt21z,year+1,l++([(⟨(r0:Int),(r1:Int)⟩:Span)]),v32z,_,upds_of _ _ ⟨rfl,rfl,rfl,rfl,rfl,rfl,trivial⟩,M.e_inl hM hN23z,(H.pk [1,2,3])⟩
 replace hM:=M.e_f hM c24z
 simp only [qy1,qy2,qy3,qy4,qy5,qy6,ne_eq,qy7] at c24z
 refine W.exit ?_
 have hX35z:=M.e_inr hM hN23z
 subst hX35z
 replace hM:=hk16z
 try dsimp only at hM
 refine kg 2 ?_
 refine t_alloc (cs:=[I 0,I 0]) H Al34 rfl ?_
 intro b_6 w36z H
 refine kg 7 ?_
 obtain ⟨ex37z,hi38z,hk39z⟩:=M.e_bind hM
 obtain ⟨m0_,hi38z⟩:=M.e_iter hi38z
 refine W.loop (fun m σ W=>∃ (stage:Nat) (s2:Int) (s3:Int) (ρ:Env),σ=upds ρ [(3,I times),(8,Pq b_2),(12,v_l),(14,Pq b_6),(15,I (stage:Int))]/\M.iterN (zaW times l) m (stage,s2,s3)=some ex37z/\St w W [cBlk b_6 [I s2,I s3] 34,cOwn (α:=Span) 34 v_l l,cBlk b_2 [I 0,I 0] 34,cBlk b_1 [v_b_Years,v_b_Olds,I b_First,I b_Last] 77] R) ?_ ?_
 ·exact ⟨_,0,0,0,_,upds_of _ _ ⟨rfl,rfl,rfl,rfl,rfl,trivial⟩,hi38z,H⟩
 rintro m42z σ w40z ⟨stage,s2,s3,ρ,rfl,hI41z,H⟩
 obtain ⟨m43z,lt44z,x45z,hM,hN46z⟩:=M.e_iterN hI41z
 simp only [zaW] at hM
 clear hI41z
 refine kg 6 ?_
 refine W.cond (decide ((stage:Int)<=2000)) rfl (fun c47z=>?_) (fun c47z=>?_)
 ·replace hM:=M.e_t hM c47z
  simp only [qy1,qy2,qy3,qy4,qy5,qy6,ne_eq,qy7] at c47z
  refine kg 14 ?_
  obtain ⟨ex48z,hi49z,hk50z⟩:=M.e_bind hM
  obtain ⟨m0_,hi49z⟩:=M.e_iter hi49z
  refine W.loop (fun m σ W=>∃ (low2:Int) (high:Nat) (i:Nat) (ρ:Env),σ=upds ρ [(3,I times),(8,Pq b_2),(12,v_l),(14,Pq b_6),(15,I (stage:Int)),(16,I low2),(17,I (high:Int)),(18,I (i:Int))]/\M.iterN (zaQ l stage) m (low2,high,i)=some ex48z/\St w W [cBlk b_6 [I s2,I s3] 34,cOwn (α:=Span) 34 v_l l,cBlk b_2 [I 0,I 0] 34,cBlk b_1 [v_b_Years,v_b_Olds,I b_First,I b_Last] 77] R) ?_ ?_
  ·exact ⟨_,0,0,0,_,upds_of _ _ ⟨rfl,rfl,rfl,rfl,rfl,rfl,rfl,rfl,trivial⟩,hi49z,H⟩
  rintro m53z σ w51z ⟨low2,high,i,ρ,rfl,hI52z,H⟩
  obtain ⟨m54z,lt55z,x56z,hM,hN57z⟩:=M.e_iterN hI52z
  simp only [zaQ] at hM
  clear hI52z
  have hl58z:=((H.os 1)).len_le
  refine kg 8 ?_
  refine W.cond (decide ((i:Int)<(l.length:Int))) rfl (fun c59z=>?_) (fun c59z=>?_)
  ·replace hM:=M.e_t hM c59z
   simp only [qy1,qy2,qy3,qy4,qy5,qy6,ne_eq,qy7] at c59z
   refine kg 3 ?_
   refine W.seqJ (fun σ W=>∃ (low:Int) (ρ:Env),σ=upds ρ [(3,I times),(8,Pq b_2),(12,v_l),(14,Pq b_6),(15,I (stage:Int)),(16,I low),(17,I (high:Int)),(18,I (i:Int))]/\(za1 l stage high i low).Ends x56z/\St w W [cBlk b_6 [I s2,I s3] 34,cOwn (α:=Span) 34 v_l l,cBlk b_2 [I 0,I 0] 34,cBlk b_1 [v_b_Years,v_b_Olds,I b_First,I b_Last] 77] R) ?_ ?_
   ·skip
    obtain ⟨sd60z,hM⟩:=M.e_grd hM
    simp only [Bool.and_eq_true,decide_eq_true_eq] at sd60z
    refine kg 10 ?_
    refine W.cond (decide ((stage:Int)<=((l.getD i default).lo))) rfl (fun c61z=>?_) (fun c61z=>?_)
    ·replace hM:=M.e_t hM c61z
     simp only [qy1,qy2,qy3,qy4,qy5,qy6,ne_eq,qy7] at c61z
     obtain ⟨sd62z,hM⟩:=M.e_grd hM
     simp only [Bool.and_eq_true,decide_eq_true_eq] at sd62z
     refine kg 5 ?_
     exact ⟨low2+1,_,upds_of _ _ ⟨rfl,rfl,rfl,rfl,rfl,rfl,rfl,rfl,trivial⟩,hM,H⟩
    replace hM:=M.e_f hM c61z
    simp only [qy1,qy2,qy3,qy4,qy5,qy6,ne_eq,qy7] at c61z
    refine W.skip ?_
    exact ⟨low2,_,upds_of _ _ ⟨rfl,rfl,rfl,rfl,rfl,rfl,rfl,rfl,trivial⟩,hM,H⟩
   rintro _ w63z ⟨low,ρ,rfl,hM,H⟩
   unfold za1 at hM
   refine kg 10 ?_
   refine W.cond (decide ((stage:Int)<=((l.getD i default).hi))) rfl (fun c64z=>?_) (fun c64z=>?_)
   ·replace hM:=M.e_t hM c64z
    simp only [qy1,qy2,qy3,qy4,qy5,qy6,ne_eq,qy7] at c64z
    obtain ⟨sd65z,hM⟩:=M.e_grd hM
    simp only [Bool.and_eq_true,decide_eq_true_eq] at sd65z
    refine kg 10 ?_
    exact ⟨m54z,lt55z,low,high+1,i+1,_,upds_of _ _ ⟨rfl,rfl,rfl,rfl,rfl,rfl,rfl,rfl,trivial⟩,M.e_inl hM hN57z,H⟩
   replace hM:=M.e_f hM c64z
   simp only [qy1,qy2,qy3,qy4,qy5,qy6,ne_eq,qy7] at c64z
   refine kg 6 ?_
   exact ⟨m54z,lt55z,low,high,i+1,_,upds_of _ _ ⟨rfl,rfl,rfl,rfl,rfl,rfl,rfl,rfl,trivial⟩,M.e_inl hM hN57z,H⟩
  replace hM:=M.e_f hM c59z
  simp only [qy1,qy2,qy3,qy4,qy5,qy6,ne_eq,qy7] at c59z
  refine W.exit ?_
  have hX66z:=M.e_inr hM hN57z
  subst hX66z
  replace hM:=hk50z
  try dsimp only at hM
  refine W.seqJ (fun σ W=>∃ (s:Int) (ρ:Env),σ=upds ρ [(3,I times),(8,Pq b_2),(12,v_l),(14,Pq b_6),(15,I (stage:Int)),(17,I (high:Int))]/\(zbK times stage s3 (high:Int) s).Ends x45z/\St w W [cBlk b_6 [I s,I s3] 34,cOwn (α:=Span) 34 v_l l,cBlk b_2 [I 0,I 0] 34,cBlk b_1 [v_b_Years,v_b_Olds,I b_First,I b_Last] 77] R) ?_ ?_
  ·skip
   refine kg 6 ?_
   refine W.cond (decide (times<=low2)) rfl (fun c67z=>?_) (fun c67z=>?_)
   ·replace hM:=M.e_t hM c67z
    simp only [qy1,qy2,qy3,qy4,qy5,qy6,ne_eq,qy7] at c67z
    refine kg 3 ?_
    refine t_sw 0 0 [I (stage:Int)] (I (stage:Int)) H rfl rfl Sz3 rfl rfl rfl rfl ?_
    intro w68z H
    refine s_nil ?_
    exact ⟨(stage:Int),_,upds_of _ _ ⟨rfl,rfl,rfl,rfl,rfl,rfl,trivial⟩,hM,H⟩
   replace hM:=M.e_f hM c67z
   simp only [qy1,qy2,qy3,qy4,qy5,qy6,ne_eq,qy7] at c67z
   refine W.skip ?_
   exact ⟨s2,_,upds_of _ _ ⟨rfl,rfl,rfl,rfl,rfl,rfl,trivial⟩,hM,H⟩
  rintro _ w69z ⟨s,ρ,rfl,hM,H⟩
  unfold zbK at hM
  refine kg 6 ?_
  refine W.cond (decide (times<=(high:Int))) rfl (fun c70z=>?_) (fun c70z=>?_)
  ·replace hM:=M.e_t hM c70z
   simp only [qy1,qy2,qy3,qy4,qy5,qy6,ne_eq,qy7] at c70z
   refine kg 3 ?_
   refine t_sw 0 1 [I (stage:Int)] (I (stage:Int)) H rfl rfl Sz3 rfl rfl rfl rfl ?_
   intro w71z H
   obtain ⟨sd72z,hM⟩:=M.e_grd hM
   simp only [Bool.and_eq_true,decide_eq_true_eq] at sd72z
   refine kg 6 ?_
   exact ⟨m43z,lt44z,stage+1,s,(stage:Int),_,upds_of _ _ ⟨rfl,rfl,rfl,rfl,rfl,trivial⟩,M.e_inl hM hN46z,H⟩
  replace hM:=M.e_f hM c70z
  simp only [qy1,qy2,qy3,qy4,qy5,qy6,ne_eq,qy7] at c70z
  obtain ⟨sd73z,hM⟩:=M.e_grd hM
  simp only [Bool.and_eq_true,decide_eq_true_eq] at sd73z
  refine kg 6 ?_
  exact ⟨m43z,lt44z,stage+1,s,s3,_,upds_of _ _ ⟨rfl,rfl,rfl,rfl,rfl,trivial⟩,M.e_inl hM hN46z,H⟩
 replace hM:=M.e_f hM c47z
 simp only [qy1,qy2,qy3,qy4,qy5,qy6,ne_eq,qy7] at c47z
 refine W.exit ?_
 have hX74z:=M.e_inr hM hN46z
 subst hX74z
 replace hM:=hk39z
 try dsimp only at hM
 refine kg 3 ?_
 refine t_sw 2 0 [I s2,I s3] (.agg #[I s2,I s3]) H rfl rfl Sz34 rfl rfl rfl rfl ?_
 intro w75z H
 refine kg 2 ?_
 refine W.ret ?_
 have hb76z:=(H.bl 2)
 have hr_:=M.e_pure hM
 exact ⟨_,(resE_ofn (vs:=[.agg #[I s2,I s3],I 0]) rfl rfl (.cell (v:=.agg #[I s2,I s3]) rfl (run_loadVar_ag (ds:=[I s2,I s3]) Ag34 Sz34 hb76z rfl rfl)<|.tmp (v:=I 0) rfl<|.nil)),⟨s2,s3,0,hr_,rfl,(H.pk [])⟩⟩

end Go.Proofs.YtejefipopolccaaGreat
end
section
set_option maxRecDepth 100000
set_option maxHeartbeats 16000000
namespace Go.Proofs.YtejefipopolccaaGreat
open Go Go.Nm
attribute [local irreducible] gd execOp SL SLD SLT WR
def zbL (b_First:Int) (to_:Int) (stage:Int) (r03:List Int):(Nat × Int)->M ((Nat × Int) ⊕ Int):=fun (n,year) =>
  bif decide (year<=to_) then (
  M.grd (decide ((-9223372036854775808:Int)<=(year-b_First))&&decide ((year-b_First)<=(9223372036854775807:Int))) <|
  M.grd (decide ((0:Int)<=(year-b_First))&&decide ((year-b_First)<(r03.length:Int))) <|
  bif decide (stage<=(r03.getD (Int.toNat (year-b_First)) 0)) then (
  M.grd (decide ((-9223372036854775808:Int)<=((n:Int)+1))&&decide (((n:Int)+1)<=(9223372036854775807:Int))) <|
  M.grd (decide ((-9223372036854775808:Int)<=(year+1))&&decide ((year+1)<=(9223372036854775807:Int))) <|
  M.pure (.inl (n+1,year+1)))
  else (
  M.grd (decide ((-9223372036854775808:Int)<=(year+1))&&decide ((year+1)<=(9223372036854775807:Int))) <|
  M.pure (.inl (n,year+1))))
  else (
  M.pure (.inr (n:Int)))
def za3 (b_Years:List Yr) (b_Olds:List Old10) (b_First:Int) (b_Last:Int) (from_:Int) (to_:Int) (stage:Int) (times:Int) (r0:List Yr) (r1:List Old10) (r22:Int) (r32:Int) (r02:List Yr) (r12:List Old10) (r23:Int) (r33:Int):M Bool :=
  M.bind (zaM r0 r1 r22 r32 stage) fun (r003,r013,r10,r11,r24) =>
  M.bind (zbG r02 r12 r23 r33 b_First b_Last stage) fun (r004,r014,r17) =>
  M.bind (M.opt ((!((r24 != r17)||((r24 != 0)&&((!(decide ((⟨(r003:Int),(r013:Int)⟩:Rto)=(⟨(0:Int),(0:Int)⟩:Rto))))||(!(decide ((⟨(r10:Int),(r11:Int)⟩:Rto)=(⟨(0:Int),(0:Int)⟩:Rto))))))))&&(r24==0)) (zco r02 r12 r23 r33 (⟨(r003:Int),(r013:Int)⟩:Rto) r004) false) fun r4 =>
  M.bind (M.opt (((!((r24 != r17)||((r24 != 0)&&((!(decide ((⟨(r003:Int),(r013:Int)⟩:Rto)=(⟨(0:Int),(0:Int)⟩:Rto))))||(!(decide ((⟨(r10:Int),(r11:Int)⟩:Rto)=(⟨(0:Int),(0:Int)⟩:Rto))))))))&&(r24==0))&&!(!r4)) (zco r02 r12 r23 r33 (⟨(r10:Int),(r11:Int)⟩:Rto) r014) false) fun r5 =>
  bif (((r24 != r17)||((r24 != 0)&&((!(decide ((⟨(r003:Int),(r013:Int)⟩:Rto)=(⟨(0:Int),(0:Int)⟩:Rto))))||(!(decide ((⟨(r10:Int),(r11:Int)⟩:Rto)=(⟨(0:Int),(0:Int)⟩:Rto)))))))||((r24==0)&&((!r4)||(!r5)))) then (
  M.pure false)
  else (
  M.bind (zap r0 r1 r22 r32 from_ to_ times) fun (r005,r015,r18) =>
  M.bind (zb5 r02 r12 r23 r33 from_ to_ times) fun (r006,r016,r19) =>
  M.bind (M.opt ((r18==r19)&&(decide ((⟨(r005:Int),(r015:Int)⟩:Span)=(⟨(r006:Int),(r016:Int)⟩:Span)))) (za5 r0 r1 r22 r32 b_Years b_Olds b_First b_Last) false) fun r6 =>
  M.bind (M.opt (((r18==r19)&&(decide ((⟨(r005:Int),(r015:Int)⟩:Span)=(⟨(r006:Int),(r016:Int)⟩:Span))))&&r6) (zag) false) fun r7 =>
  M.pure ((((r18==r19)&&(decide ((⟨(r005:Int),(r015:Int)⟩:Span)=(⟨(r006:Int),(r016:Int)⟩:Span))))&&r6)&&r7))
def zcF (b_Years:List Yr) (b_Olds:List Old10) (b_First:Int) (b_Last:Int) (from_:Int) (to_:Int) (stage:Int) (times:Int) (most:Bool) (r0:List Yr) (r1:List Old10) (r22:Int) (r32:Int) (r02:List Yr) (r12:List Old10) (r23:Int) (r33:Int):M Bool :=
  M.bind (zak r0 r1 r22 r32 from_ to_ stage) fun (r00,r01,r13) =>
  M.bind (zbG r02 r12 r23 r33 from_ to_ stage) fun (r002,r012,r14) =>
  bif ((r13 != r14)||(!(decide ((⟨(r00:Int),(r01:Int)⟩:Span)=(⟨(r002:Int),(r012:Int)⟩:Span))))) then (
  M.pure false)
  else (
  M.bind (zaI r0 r1 r22 r32 from_ to_ stage most) fun (r03,r15) =>
  bif ((r15 != r14)||((r15 != 0)&&(decide (0<(r03.length:Int))))) then (
  M.pure false)
  else (
  bif r15==0 then (
  M.bind (zbx r02 r12 r23 r33 r03) fun (r04,r16) =>
  bif ((r16 != 0)||(!r04)) then (
  M.pure false)
  else (
  M.grd (decide ((-9223372036854775808:Int)<=(b_Last-b_First))&&decide ((b_Last-b_First)<=(9223372036854775807:Int))) <|
  M.grd (decide ((-9223372036854775808:Int)<=((b_Last-b_First)+1))&&decide (((b_Last-b_First)+1)<=(9223372036854775807:Int))) <|
  bif (r03.length:Int) != ((b_Last-b_First)+1) then (
  M.pure false)
  else (
  M.bind (M.iter (zbL b_First to_ stage r03) (0,from_)) fun n2 =>
  bif ((most&&(n2 != r012))||((!most)&&(n2 != r002))) then (
  M.pure false)
  else (
  za3 b_Years b_Olds b_First b_Last from_ to_ stage times r0 r1 r22 r32 r02 r12 r23 r33))))
  else (
  za3 b_Years b_Olds b_First b_Last from_ to_ stage times r0 r1 r22 r32 r02 r12 r23 r33)))
def zal (b_Years:List Yr) (b_Olds:List Old10) (b_First:Int) (b_Last:Int) (from_:Int) (to_:Int) (stage:Int) (times:Int) (most:Bool):M Bool :=
  M.bind (zbY b_Years b_Olds b_First b_Last) fun r2 =>
  bif r2 then (
  M.bind (zag) fun r3 =>
  M.pure r3)
  else (
  M.bind (zbB b_Years b_Olds b_First b_Last) fun (r0,r1,r22,r32) =>
  M.bind (zbM b_Years b_Olds b_First b_Last) fun (r02,r12,r23,r33) =>
  zcF b_Years b_Olds b_First b_Last from_ to_ stage times most r0 r1 r22 r32 r02 r12 r23 r33)
theorem za2 {R:List Chunk} {C_b_Years:Cells} {v_b_Years:Value} {C_b_Olds:Cells} {v_b_Olds:Value} (b_Years:List Yr) (b_Olds:List Old10) (b_First:Int) (b_Last:Int) (from_:Int) (to_:Int) (stage:Int) (times:Int) (most:Bool) (hC_b_Years:Reads R C_b_Years) (hs_b_Years:Sl C_b_Years v_b_Years b_Years) (hC_b_Olds:Reads R C_b_Olds) (hs_b_Olds:Sl C_b_Olds v_b_Olds b_Olds) {r:Bool} (hM:(zal b_Years b_Olds b_First b_Last from_ to_ stage times most).Ends r) (w:World) (H:St w w [] R):Ret Tryz.prog 8 #[.agg #[v_b_Years,v_b_Olds,I b_First,I b_Last],I from_,I to_,I stage,I times,B most] w fun v w'=>∃ (y0:Bool),y0=r/\v=B y0/\St w w' [] R:=by
 refine ret_of_W Tryz.func8 rfl rfl rfl ?_
 refine W.seq ?_
 refine W.region rfl ?_
 refine t_box (v:=.agg #[v_b_Years,v_b_Olds,I b_First,I b_Last]) (cs:=[v_b_Years,v_b_Olds,I b_First,I b_Last]) H rfl rfl ?_
 intro b_1 w1z H
 refine zA (B false) rfl ?_
 refine s_nil ?_
 refine W.seq ?_
 refine W.seq ?_
 refine W.region rfl ?_
 refine s_val (x_ld (p:=Pq b_1) (v:=.agg #[v_b_Years,v_b_Olds,I b_First,I b_Last]) rfl (ldb_ag (ds:=[v_b_Years,v_b_Olds,I b_First,I b_Last]) Ag28 Sz28 (H.bl 0) rfl rfl)) ?_
 obtain ⟨r3z,hx2z,hM⟩:=M.e_bind hM
 refine s_call cf29 [.agg #[v_b_Years,v_b_Olds,I b_First,I b_Last]] rfl (zdL b_Years b_Olds b_First b_Last (hC_b_Years.app _) hs_b_Years (hC_b_Olds.app _) hs_b_Olds hx2z _ (H.gt 1)) ?_
 rintro vq w4z ⟨r2,hr5z,hvq,H2_⟩
 subst hr5z
 subst vq
 try dsimp only at hM
 replace H:=H.bk H2_
 clear H2_
 refine s_nil ?_
 refine W.cond r2 rfl (fun c6z=>?_) (fun c6z=>?_)
 ·replace hM:=M.e_t hM c6z
  refine W.seq ?_
  refine W.region rfl ?_
  obtain ⟨r8z,hx7z,hM⟩:=M.e_bind hM
  refine s_call cf15 [] rfl (zar hx7z _ (H.gt 1)) ?_
  rintro vq w9z ⟨r3,hr10z,hvq,H2_⟩
  subst hr10z
  subst vq
  try dsimp only at hM
  replace H:=H.bk H2_
  clear H2_
  refine zA (B r3) rfl ?_
  refine s_nil ?_
  refine W.ret ?_
  have hr_:=M.e_pure hM
  exact ⟨_,resE_tmp rfl,⟨r3,hr_,rfl,(H.pk [])⟩⟩
 replace hM:=M.e_f hM c6z
 refine W.skip ?_
 refine W.seqJ (fun σ W=>∃ (b_10:Nat) (b_11:Nat) (r0:List Yr) (r1:List Old10) (r22:Int) (r32:Int) (r02:List Yr) (r12:List Old10) (r23:Int) (r33:Int) (u0_6:Value) (u1_7:Value) (u0_2:Value) (u1_3:Value) (rr2_8:List (Raw 3)) (Bs3_9:Base) (rr2_4:List (Raw 3)) (Bs3_5:Base) (ρ:Env),σ=upds ρ [(1,I from_),(2,I to_),(3,I stage),(4,I times),(5,B most),(6,Pq b_1),(13,Pq b_10),(14,Pq b_11)]/\(zcF b_Years b_Olds b_First b_Last from_ to_ stage times most r0 r1 r22 r32 r02 r12 r23 r33).Ends r/\St w W [cBlk b_11 [u0_6,u1_7,I r23,I r33] 77,cBlk b_10 [u0_2,u1_3,I r22,I r32] 28,cOwn (α:=Yr) 124 u0_6 r02,cOwn (α:=Raw 3) 125 u1_7 rr2_8,cRo Bs3_9,cOwn (α:=Yr) 36 u0_2 r0,cOwn (α:=Raw 3) 38 u1_3 rr2_4,cRo Bs3_5,cBlk b_1 [v_b_Years,v_b_Olds,I b_First,I b_Last] 28] R/\RepR (α:=Old10) (Cells.sup C_b_Olds Bs3_9.cells) rr2_8 r12/\RepR (α:=Old10) Bs3_5.cells rr2_4 r1) ?_ ?_
 ·skip
  refine W.drawT (fun W=>St w W [cBlk b_1 [v_b_Years,v_b_Olds,I b_First,I b_Last] 28] R) (.q 0 (.q 2 (.l3 1 (.l3 3 (.l2 4 (.l 5 (.l 6 (.l 7 .nil))) 5 (.l 4 (.l 6 (.l 7 .nil)))) 4 (.l2 3 (.l 5 (.l 6 (.l 7 .nil))) 5 (.l 3 (.l 6 (.l 7 .nil)))) 5 (.l2 3 (.l 4 (.l 6 (.l 7 .nil))) 4 (.l 3 (.l 6 (.l 7 .nil))))) 4 (.l2 1 (.l2 3 (.l 5 (.l 6 (.l 7 .nil))) 5 (.l 3 (.l 6 (.l 7 .nil)))) 5 (.l 1 (.l 3 (.l 6 (.l 7 .nil))))) 5 (.l2 1 (.l2 3 (.l 4 (.l 6 (.l 7 .nil))) 4 (.l 3 (.l 6 (.l 7 .nil)))) 4 (.l 1 (.l 3 (.l 6 (.l 7 .nil)))))))) mixed (by decide +kernel) rfl ?_
  intro w11z hx_
  replace H:=H.ext hx_
  clear hx_
  refine ⟨(H.pk [0]),?_⟩
  refine t_q rfl (fun w' H=>x_ld (p:=Pq b_1) (v:=.agg #[v_b_Years,v_b_Olds,I b_First,I b_Last]) rfl (ldb_ag (ds:=[v_b_Years,v_b_Olds,I b_First,I b_Last]) Ag28 Sz28 (H.bl 0) rfl rfl)) ?_
  refine t_q rfl (fun w' H=>x_ld (p:=Pq b_1) (v:=.agg #[v_b_Years,v_b_Olds,I b_First,I b_Last]) rfl (ldb_ag (ds:=[v_b_Years,v_b_Olds,I b_First,I b_Last]) Ag28 Sz28 (H.bl 0) rfl rfl)) ?_
  refine t_l3 rfl rfl rfl ?_ ?_ ?_
  ·skip
   obtain ⟨r20z,hx19z,hM⟩:=M.e_bind hM
   refine s_call cf30 [.agg #[v_b_Years,v_b_Olds,I b_First,I b_Last]] rfl (zba b_Years b_Olds b_First b_Last (hC_b_Years.app _) hs_b_Years (hC_b_Olds.app _) hs_b_Olds hx19z _ (H.gt 1)) ?_
   rintro vq w21z ⟨r0,r1,r22,r32,u0_2,u1_3,rr2_4,Bs3_5,hr22z,hvq,H2_,hf23z⟩
   subst hr22z
   subst vq
   try dsimp only at hM
   replace H:=H.bk H2_
   clear H2_
   have hvc_q24z:=Sl.cells (H.os 0)
   have hvo_q24z:=Sl.oc (H.os 0)
   have hvc_q25z:=Sl.cells (H.os 1)
   have hvo_q25z:=Sl.oc (H.os 1)
   refine s_nil ⟨(H.pk [3]),?_⟩
   refine t_l3 rfl rfl rfl ?_ ?_ ?_
   ·skip
    obtain ⟨r34z,hx33z,hM⟩:=M.e_bind hM
    refine s_call cf31 [.agg #[v_b_Years,v_b_Olds,I b_First,I b_Last]] rfl (zai b_Years b_Olds b_First b_Last (hC_b_Years.app _) hs_b_Years (hC_b_Olds.app _) hs_b_Olds hx33z _ (H.gt 4)) ?_
    rintro vq w35z ⟨r02,r12,r23,r33,u0_6,u1_7,rr2_8,Bs3_9,hr36z,hvq,H2_,hf37z⟩
    subst hr36z
    subst vq
    try dsimp only at hM
    replace H:=H.bk H2_
    clear H2_
    have hvc_q38z:=Sl.cells (H.os 0)
    have hvo_q38z:=Sl.oc (H.os 0)
    have hvc_q39z:=Sl.cells (H.os 1)
    have hvo_q39z:=Sl.oc (H.os 1)
    refine s_nil ⟨(H.pk [6]),?_⟩
    refine t_l2 rfl rfl ?_ ?_
    ·skip
     refine t_alloc (cs:=[.slice none 0 0,.slice none 0 0,I 0,I 0]) H Al28 rfl ?_
     intro b_10 w44z H
     refine s_nil ⟨(H.pk [7]),?_⟩
     refine t_l rfl ?_
     refine t_alloc (cs:=[.slice none 0 0,.slice none 0 0,I 0,I 0]) H Al77 rfl ?_
     intro b_11 w45z H
     refine s_nil ⟨(H.pk [8]),?_⟩
     refine t_l rfl ?_
     refine t_sw 1 0 [u0_2,u1_3,I r22,I r32] (.agg #[u0_2,u1_3,I r22,I r32]) H rfl rfl Sz28 rfl rfl rfl (by simp only [List.all_cons,List.all_nil,Bool.true_and,Bool.and_true,Sl.oc (H.os 5),Sl.oc (rowSl rfl (H.get (k:=6) rfl) (roLe _ (H.get (k:=7) rfl)) hf23z)]; try rfl) ?_
     intro w46z H
     refine s_nil ⟨(H.pk [8]),?_⟩
     refine t_l rfl ?_
     refine t_sw 0 0 [u0_6,u1_7,I r23,I r33] (.agg #[u0_6,u1_7,I r23,I r33]) H rfl rfl Sz77 rfl rfl rfl (by simp only [List.all_cons,List.all_nil,Bool.true_and,Bool.and_true,Sl.oc (H.os 2),Sl.oc (rowSl rfl (H.get (k:=3) rfl) (Cells.sup_le (hC_b_Olds.at H) (roLe _ (H.get (k:=4) rfl))) hf37z)]; try rfl) ?_
     intro w47z H
     refine s_nil ⟨(H.pk [8]),?_⟩
     refine t_nil ?_
     exact ⟨b_10,b_11,r0,r1,r22,r32,r02,r12,r23,r33,u0_6,u1_7,u0_2,u1_3,rr2_8,Bs3_9,rr2_4,Bs3_5,_,upds_of _ _ ⟨rfl,rfl,rfl,rfl,rfl,rfl,rfl,rfl,trivial⟩,hM,H,hf37z,hf23z⟩
    skip
    refine t_alloc (cs:=[.slice none 0 0,.slice none 0 0,I 0,I 0]) H Al77 rfl ?_
    intro b_11 w48z H
    refine s_nil ⟨(H.pk [7]),?_⟩
    refine t_l rfl ?_
    refine t_alloc (cs:=[.slice none 0 0,.slice none 0 0,I 0,I 0]) H Al28 rfl ?_
    intro b_10 w49z H
    refine s_nil ⟨(H.pk [8]),?_⟩
    refine t_l rfl ?_
    refine t_sw 0 0 [u0_2,u1_3,I r22,I r32] (.agg #[u0_2,u1_3,I r22,I r32]) H rfl rfl Sz28 rfl rfl rfl (by simp only [List.all_cons,List.all_nil,Bool.true_and,Bool.and_true,Sl.oc (H.os 5),Sl.oc (rowSl rfl (H.get (k:=6) rfl) (roLe _ (H.get (k:=7) rfl)) hf23z)]; try rfl) ?_
    intro w50z H
    refine s_nil ⟨(H.pk [8]),?_⟩
    refine t_l rfl ?_
    refine t_sw 1 0 [u0_6,u1_7,I r23,I r33] (.agg #[u0_6,u1_7,I r23,I r33]) H rfl rfl Sz77 rfl rfl rfl (by simp only [List.all_cons,List.all_nil,Bool.true_and,Bool.and_true,Sl.oc (H.os 2),Sl.oc (rowSl rfl (H.get (k:=3) rfl) (Cells.sup_le (hC_b_Olds.at H) (roLe _ (H.get (k:=4) rfl))) hf37z)]; try rfl) ?_
    intro w51z H
    refine s_nil ⟨(H.pk [8]),?_⟩
    refine t_nil ?_
    exact ⟨b_10,b_11,r0,r1,r22,r32,r02,r12,r23,r33,u0_6,u1_7,u0_2,u1_3,rr2_8,Bs3_9,rr2_4,Bs3_5,_,upds_of _ _ ⟨rfl,rfl,rfl,rfl,rfl,rfl,rfl,rfl,trivial⟩,hM,(H.pk [1,0,2,3,4,5,6,7,8]),hf37z,hf23z⟩
   ·skip
    refine t_alloc (cs:=[.slice none 0 0,.slice none 0 0,I 0,I 0]) H Al28 rfl ?_
    intro b_10 w52z H
    refine s_nil ⟨(H.pk [4]),?_⟩
    refine t_l2 rfl rfl ?_ ?_
    ·skip
     obtain ⟨r68z,hx67z,hM⟩:=M.e_bind hM
     refine s_call cf31 [.agg #[v_b_Years,v_b_Olds,I b_First,I b_Last]] rfl (zai b_Years b_Olds b_First b_Last (hC_b_Years.app _) hs_b_Years (hC_b_Olds.app _) hs_b_Olds hx67z _ (H.gt 5)) ?_
     rintro vq w69z ⟨r02,r12,r23,r33,u0_6,u1_7,rr2_8,Bs3_9,hr70z,hvq,H2_,hf71z⟩
     subst hr70z
     subst vq
     try dsimp only at hM
     replace H:=H.bk H2_
     clear H2_
     have hvc_q72z:=Sl.cells (H.os 0)
     have hvo_q72z:=Sl.oc (H.os 0)
     have hvc_q73z:=Sl.cells (H.os 1)
     have hvo_q73z:=Sl.oc (H.os 1)
     refine s_nil ⟨(H.pk [7]),?_⟩
     refine t_l rfl ?_
     refine t_alloc (cs:=[.slice none 0 0,.slice none 0 0,I 0,I 0]) H Al77 rfl ?_
     intro b_11 w74z H
     refine s_nil ⟨(H.pk [8]),?_⟩
     refine t_l rfl ?_
     refine t_sw 4 0 [u0_2,u1_3,I r22,I r32] (.agg #[u0_2,u1_3,I r22,I r32]) H rfl rfl Sz28 rfl rfl rfl (by simp only [List.all_cons,List.all_nil,Bool.true_and,Bool.and_true,Sl.oc (H.os 5),Sl.oc (rowSl rfl (H.get (k:=6) rfl) (roLe _ (H.get (k:=7) rfl)) hf23z)]; try rfl) ?_
     intro w75z H
     refine s_nil ⟨(H.pk [8]),?_⟩
     refine t_l rfl ?_
     refine t_sw 0 0 [u0_6,u1_7,I r23,I r33] (.agg #[u0_6,u1_7,I r23,I r33]) H rfl rfl Sz77 rfl rfl rfl (by simp only [List.all_cons,List.all_nil,Bool.true_and,Bool.and_true,Sl.oc (H.os 1),Sl.oc (rowSl rfl (H.get (k:=2) rfl) (Cells.sup_le (hC_b_Olds.at H) (roLe _ (H.get (k:=3) rfl))) hf71z)]; try rfl) ?_
     intro w76z H
     refine s_nil ⟨(H.pk [8]),?_⟩
     refine t_nil ?_
     exact ⟨b_10,b_11,r0,r1,r22,r32,r02,r12,r23,r33,u0_6,u1_7,u0_2,u1_3,rr2_8,Bs3_9,rr2_4,Bs3_5,_,upds_of _ _ ⟨rfl,rfl,rfl,rfl,rfl,rfl,rfl,rfl,trivial⟩,hM,(H.pk [0,4,1,2,3,5,6,7,8]),hf71z,hf23z⟩
    skip
    refine t_alloc (cs:=[.slice none 0 0,.slice none 0 0,I 0,I 0]) H Al77 rfl ?_
    intro b_11 w77z H
    refine s_nil ⟨(H.pk [5]),?_⟩
    refine t_l rfl ?_
    obtain ⟨r79z,hx78z,hM⟩:=M.e_bind hM
    refine s_call cf31 [.agg #[v_b_Years,v_b_Olds,I b_First,I b_Last]] rfl (zai b_Years b_Olds b_First b_Last (hC_b_Years.app _) hs_b_Years (hC_b_Olds.app _) hs_b_Olds hx78z _ (H.gt 6)) ?_
    rintro vq w80z ⟨r02,r12,r23,r33,u0_6,u1_7,rr2_8,Bs3_9,hr81z,hvq,H2_,hf82z⟩
    subst hr81z
    subst vq
    try dsimp only at hM
    replace H:=H.bk H2_
    clear H2_
    have hvc_q83z:=Sl.cells (H.os 0)
    have hvo_q83z:=Sl.oc (H.os 0)
    have hvc_q84z:=Sl.cells (H.os 1)
    have hvo_q84z:=Sl.oc (H.os 1)
    refine s_nil ⟨(H.pk [8]),?_⟩
    refine t_l rfl ?_
    refine t_sw 4 0 [u0_2,u1_3,I r22,I r32] (.agg #[u0_2,u1_3,I r22,I r32]) H rfl rfl Sz28 rfl rfl rfl (by simp only [List.all_cons,List.all_nil,Bool.true_and,Bool.and_true,Sl.oc (H.os 5),Sl.oc (rowSl rfl (H.get (k:=6) rfl) (roLe _ (H.get (k:=7) rfl)) hf23z)]; try rfl) ?_
    intro w85z H
    refine s_nil ⟨(H.pk [8]),?_⟩
    refine t_l rfl ?_
    refine t_sw 3 0 [u0_6,u1_7,I r23,I r33] (.agg #[u0_6,u1_7,I r23,I r33]) H rfl rfl Sz77 rfl rfl rfl (by simp only [List.all_cons,List.all_nil,Bool.true_and,Bool.and_true,Sl.oc (H.os 0),Sl.oc (rowSl rfl (H.get (k:=1) rfl) (Cells.sup_le (hC_b_Olds.at H) (roLe _ (H.get (k:=2) rfl))) hf82z)]; try rfl) ?_
    intro w86z H
    refine s_nil ⟨(H.pk [8]),?_⟩
    refine t_nil ?_
    exact ⟨b_10,b_11,r0,r1,r22,r32,r02,r12,r23,r33,u0_6,u1_7,u0_2,u1_3,rr2_8,Bs3_9,rr2_4,Bs3_5,_,upds_of _ _ ⟨rfl,rfl,rfl,rfl,rfl,rfl,rfl,rfl,trivial⟩,hM,(H.pk [3,4,0,1,2,5,6,7,8]),hf82z,hf23z⟩
   skip
   refine t_alloc (cs:=[.slice none 0 0,.slice none 0 0,I 0,I 0]) H Al77 rfl ?_
   intro b_11 w87z H
   refine s_nil ⟨(H.pk [4]),?_⟩
   refine t_l2 rfl rfl ?_ ?_
   ·skip
    obtain ⟨r103z,hx102z,hM⟩:=M.e_bind hM
    refine s_call cf31 [.agg #[v_b_Years,v_b_Olds,I b_First,I b_Last]] rfl (zai b_Years b_Olds b_First b_Last (hC_b_Years.app _) hs_b_Years (hC_b_Olds.app _) hs_b_Olds hx102z _ (H.gt 5)) ?_
    rintro vq w104z ⟨r02,r12,r23,r33,u0_6,u1_7,rr2_8,Bs3_9,hr105z,hvq,H2_,hf106z⟩
    subst hr105z
    subst vq
    try dsimp only at hM
    replace H:=H.bk H2_
    clear H2_
    have hvc_q107z:=Sl.cells (H.os 0)
    have hvo_q107z:=Sl.oc (H.os 0)
    have hvc_q108z:=Sl.cells (H.os 1)
    have hvo_q108z:=Sl.oc (H.os 1)
    refine s_nil ⟨(H.pk [7]),?_⟩
    refine t_l rfl ?_
    refine t_alloc (cs:=[.slice none 0 0,.slice none 0 0,I 0,I 0]) H Al28 rfl ?_
    intro b_10 w109z H
    refine s_nil ⟨(H.pk [8]),?_⟩
    refine t_l rfl ?_
    refine t_sw 0 0 [u0_2,u1_3,I r22,I r32] (.agg #[u0_2,u1_3,I r22,I r32]) H rfl rfl Sz28 rfl rfl rfl (by simp only [List.all_cons,List.all_nil,Bool.true_and,Bool.and_true,Sl.oc (H.os 5),Sl.oc (rowSl rfl (H.get (k:=6) rfl) (roLe _ (H.get (k:=7) rfl)) hf23z)]; try rfl) ?_
    intro w110z H
    refine s_nil ⟨(H.pk [8]),?_⟩
    refine t_l rfl ?_
    refine t_sw 4 0 [u0_6,u1_7,I r23,I r33] (.agg #[u0_6,u1_7,I r23,I r33]) H rfl rfl Sz77 rfl rfl rfl (by simp only [List.all_cons,List.all_nil,Bool.true_and,Bool.and_true,Sl.oc (H.os 1),Sl.oc (rowSl rfl (H.get (k:=2) rfl) (Cells.sup_le (hC_b_Olds.at H) (roLe _ (H.get (k:=3) rfl))) hf106z)]; try rfl) ?_
    intro w111z H
    refine s_nil ⟨(H.pk [8]),?_⟩
    refine t_nil ?_
    exact ⟨b_10,b_11,r0,r1,r22,r32,r02,r12,r23,r33,u0_6,u1_7,u0_2,u1_3,rr2_8,Bs3_9,rr2_4,Bs3_5,_,upds_of _ _ ⟨rfl,rfl,rfl,rfl,rfl,rfl,rfl,rfl,trivial⟩,hM,(H.pk [4,0,1,2,3,5,6,7,8]),hf106z,hf23z⟩
   skip
   refine t_alloc (cs:=[.slice none 0 0,.slice none 0 0,I 0,I 0]) H Al28 rfl ?_
   intro b_10 w112z H
   refine s_nil ⟨(H.pk [5]),?_⟩
   refine t_l rfl ?_
   obtain ⟨r114z,hx113z,hM⟩:=M.e_bind hM
   refine s_call cf31 [.agg #[v_b_Years,v_b_Olds,I b_First,I b_Last]] rfl (zai b_Years b_Olds b_First b_Last (hC_b_Years.app _) hs_b_Years (hC_b_Olds.app _) hs_b_Olds hx113z _ (H.gt 6)) ?_
   rintro vq w115z ⟨r02,r12,r23,r33,u0_6,u1_7,rr2_8,Bs3_9,hr116z,hvq,H2_,hf117z⟩
   subst hr116z
   subst vq
   try dsimp only at hM
   replace H:=H.bk H2_
   clear H2_
   have hvc_q118z:=Sl.cells (H.os 0)
   have hvo_q118z:=Sl.oc (H.os 0)
   have hvc_q119z:=Sl.cells (H.os 1)
   have hvo_q119z:=Sl.oc (H.os 1)
   refine s_nil ⟨(H.pk [8]),?_⟩
   refine t_l rfl ?_
   refine t_sw 3 0 [u0_2,u1_3,I r22,I r32] (.agg #[u0_2,u1_3,I r22,I r32]) H rfl rfl Sz28 rfl rfl rfl (by simp only [List.all_cons,List.all_nil,Bool.true_and,Bool.and_true,Sl.oc (H.os 5),Sl.oc (rowSl rfl (H.get (k:=6) rfl) (roLe _ (H.get (k:=7) rfl)) hf23z)]; try rfl) ?_
   intro w120z H
   refine s_nil ⟨(H.pk [8]),?_⟩
   refine t_l rfl ?_
   refine t_sw 4 0 [u0_6,u1_7,I r23,I r33] (.agg #[u0_6,u1_7,I r23,I r33]) H rfl rfl Sz77 rfl rfl rfl (by simp only [List.all_cons,List.all_nil,Bool.true_and,Bool.and_true,Sl.oc (H.os 0),Sl.oc (rowSl rfl (H.get (k:=1) rfl) (Cells.sup_le (hC_b_Olds.at H) (roLe _ (H.get (k:=2) rfl))) hf117z)]; try rfl) ?_
   intro w121z H
   refine s_nil ⟨(H.pk [8]),?_⟩
   refine t_nil ?_
   exact ⟨b_10,b_11,r0,r1,r22,r32,r02,r12,r23,r33,u0_6,u1_7,u0_2,u1_3,rr2_8,Bs3_9,rr2_4,Bs3_5,_,upds_of _ _ ⟨rfl,rfl,rfl,rfl,rfl,rfl,rfl,rfl,trivial⟩,hM,(H.pk [4,3,0,1,2,5,6,7,8]),hf117z,hf23z⟩
  ·skip
   refine t_alloc (cs:=[.slice none 0 0,.slice none 0 0,I 0,I 0]) H Al28 rfl ?_
   intro b_10 w122z H
   refine s_nil ⟨(H.pk [1]),?_⟩
   refine t_l2 rfl rfl ?_ ?_
   ·skip
    obtain ⟨r143z,hx142z,hM⟩:=M.e_bind hM
    refine s_call cf30 [.agg #[v_b_Years,v_b_Olds,I b_First,I b_Last]] rfl (zba b_Years b_Olds b_First b_Last (hC_b_Years.app _) hs_b_Years (hC_b_Olds.app _) hs_b_Olds hx142z _ (H.gt 2)) ?_
    rintro vq w144z ⟨r0,r1,r22,r32,u0_2,u1_3,rr2_4,Bs3_5,hr145z,hvq,H2_,hf146z⟩
    subst hr145z
    subst vq
    try dsimp only at hM
    replace H:=H.bk H2_
    clear H2_
    have hvc_q147z:=Sl.cells (H.os 0)
    have hvo_q147z:=Sl.oc (H.os 0)
    have hvc_q148z:=Sl.cells (H.os 1)
    have hvo_q148z:=Sl.oc (H.os 1)
    refine s_nil ⟨(H.pk [4]),?_⟩
    refine t_l2 rfl rfl ?_ ?_
    ·skip
     obtain ⟨r164z,hx163z,hM⟩:=M.e_bind hM
     refine s_call cf31 [.agg #[v_b_Years,v_b_Olds,I b_First,I b_Last]] rfl (zai b_Years b_Olds b_First b_Last (hC_b_Years.app _) hs_b_Years (hC_b_Olds.app _) hs_b_Olds hx163z _ (H.gt 5)) ?_
     rintro vq w165z ⟨r02,r12,r23,r33,u0_6,u1_7,rr2_8,Bs3_9,hr166z,hvq,H2_,hf167z⟩
     subst hr166z
     subst vq
     try dsimp only at hM
     replace H:=H.bk H2_
     clear H2_
     have hvc_q168z:=Sl.cells (H.os 0)
     have hvo_q168z:=Sl.oc (H.os 0)
     have hvc_q169z:=Sl.cells (H.os 1)
     have hvo_q169z:=Sl.oc (H.os 1)
     refine s_nil ⟨(H.pk [7]),?_⟩
     refine t_l rfl ?_
     refine t_alloc (cs:=[.slice none 0 0,.slice none 0 0,I 0,I 0]) H Al77 rfl ?_
     intro b_11 w170z H
     refine s_nil ⟨(H.pk [8]),?_⟩
     refine t_l rfl ?_
     refine t_sw 7 0 [u0_2,u1_3,I r22,I r32] (.agg #[u0_2,u1_3,I r22,I r32]) H rfl rfl Sz28 rfl rfl rfl (by simp only [List.all_cons,List.all_nil,Bool.true_and,Bool.and_true,Sl.oc (H.os 4),Sl.oc (rowSl rfl (H.get (k:=5) rfl) (roLe _ (H.get (k:=6) rfl)) hf146z)]; try rfl) ?_
     intro w171z H
     refine s_nil ⟨(H.pk [8]),?_⟩
     refine t_l rfl ?_
     refine t_sw 0 0 [u0_6,u1_7,I r23,I r33] (.agg #[u0_6,u1_7,I r23,I r33]) H rfl rfl Sz77 rfl rfl rfl (by simp only [List.all_cons,List.all_nil,Bool.true_and,Bool.and_true,Sl.oc (H.os 1),Sl.oc (rowSl rfl (H.get (k:=2) rfl) (Cells.sup_le (hC_b_Olds.at H) (roLe _ (H.get (k:=3) rfl))) hf167z)]; try rfl) ?_
     intro w172z H
     refine s_nil ⟨(H.pk [8]),?_⟩
     refine t_nil ?_
     exact ⟨b_10,b_11,r0,r1,r22,r32,r02,r12,r23,r33,u0_6,u1_7,u0_2,u1_3,rr2_8,Bs3_9,rr2_4,Bs3_5,_,upds_of _ _ ⟨rfl,rfl,rfl,rfl,rfl,rfl,rfl,rfl,trivial⟩,hM,(H.pk [0,7,1,2,3,4,5,6,8]),hf167z,hf146z⟩
    skip
    refine t_alloc (cs:=[.slice none 0 0,.slice none 0 0,I 0,I 0]) H Al77 rfl ?_
    intro b_11 w173z H
    refine s_nil ⟨(H.pk [5]),?_⟩
    refine t_l rfl ?_
    obtain ⟨r175z,hx174z,hM⟩:=M.e_bind hM
    refine s_call cf31 [.agg #[v_b_Years,v_b_Olds,I b_First,I b_Last]] rfl (zai b_Years b_Olds b_First b_Last (hC_b_Years.app _) hs_b_Years (hC_b_Olds.app _) hs_b_Olds hx174z _ (H.gt 6)) ?_
    rintro vq w176z ⟨r02,r12,r23,r33,u0_6,u1_7,rr2_8,Bs3_9,hr177z,hvq,H2_,hf178z⟩
    subst hr177z
    subst vq
    try dsimp only at hM
    replace H:=H.bk H2_
    clear H2_
    have hvc_q179z:=Sl.cells (H.os 0)
    have hvo_q179z:=Sl.oc (H.os 0)
    have hvc_q180z:=Sl.cells (H.os 1)
    have hvo_q180z:=Sl.oc (H.os 1)
    refine s_nil ⟨(H.pk [8]),?_⟩
    refine t_l rfl ?_
    refine t_sw 7 0 [u0_2,u1_3,I r22,I r32] (.agg #[u0_2,u1_3,I r22,I r32]) H rfl rfl Sz28 rfl rfl rfl (by simp only [List.all_cons,List.all_nil,Bool.true_and,Bool.and_true,Sl.oc (H.os 4),Sl.oc (rowSl rfl (H.get (k:=5) rfl) (roLe _ (H.get (k:=6) rfl)) hf146z)]; try rfl) ?_
    intro w181z H
    refine s_nil ⟨(H.pk [8]),?_⟩
    refine t_l rfl ?_
    refine t_sw 3 0 [u0_6,u1_7,I r23,I r33] (.agg #[u0_6,u1_7,I r23,I r33]) H rfl rfl Sz77 rfl rfl rfl (by simp only [List.all_cons,List.all_nil,Bool.true_and,Bool.and_true,Sl.oc (H.os 0),Sl.oc (rowSl rfl (H.get (k:=1) rfl) (Cells.sup_le (hC_b_Olds.at H) (roLe _ (H.get (k:=2) rfl))) hf178z)]; try rfl) ?_
    intro w182z H
    refine s_nil ⟨(H.pk [8]),?_⟩
    refine t_nil ?_
    exact ⟨b_10,b_11,r0,r1,r22,r32,r02,r12,r23,r33,u0_6,u1_7,u0_2,u1_3,rr2_8,Bs3_9,rr2_4,Bs3_5,_,upds_of _ _ ⟨rfl,rfl,rfl,rfl,rfl,rfl,rfl,rfl,trivial⟩,hM,(H.pk [3,7,0,1,2,4,5,6,8]),hf178z,hf146z⟩
   skip
   refine t_alloc (cs:=[.slice none 0 0,.slice none 0 0,I 0,I 0]) H Al77 rfl ?_
   intro b_11 w183z H
   refine s_nil ⟨(H.pk [2]),?_⟩
   refine t_l rfl ?_
   obtain ⟨r185z,hx184z,hM⟩:=M.e_bind hM
   refine s_call cf30 [.agg #[v_b_Years,v_b_Olds,I b_First,I b_Last]] rfl (zba b_Years b_Olds b_First b_Last (hC_b_Years.app _) hs_b_Years (hC_b_Olds.app _) hs_b_Olds hx184z _ (H.gt 3)) ?_
   rintro vq w186z ⟨r0,r1,r22,r32,u0_2,u1_3,rr2_4,Bs3_5,hr187z,hvq,H2_,hf188z⟩
   subst hr187z
   subst vq
   try dsimp only at hM
   replace H:=H.bk H2_
   clear H2_
   have hvc_q189z:=Sl.cells (H.os 0)
   have hvo_q189z:=Sl.oc (H.os 0)
   have hvc_q190z:=Sl.cells (H.os 1)
   have hvo_q190z:=Sl.oc (H.os 1)
   refine s_nil ⟨(H.pk [5]),?_⟩
   refine t_l rfl ?_
   obtain ⟨r192z,hx191z,hM⟩:=M.e_bind hM
   refine s_call cf31 [.agg #[v_b_Years,v_b_Olds,I b_First,I b_Last]] rfl (zai b_Years b_Olds b_First b_Last (hC_b_Years.app _) hs_b_Years (hC_b_Olds.app _) hs_b_Olds hx191z _ (H.gt 6)) ?_
   rintro vq w193z ⟨r02,r12,r23,r33,u0_6,u1_7,rr2_8,Bs3_9,hr194z,hvq,H2_,hf195z⟩
   subst hr194z
   subst vq
   try dsimp only at hM
   replace H:=H.bk H2_
   clear H2_
   have hvc_q196z:=Sl.cells (H.os 0)
   have hvo_q196z:=Sl.oc (H.os 0)
   have hvc_q197z:=Sl.cells (H.os 1)
   have hvo_q197z:=Sl.oc (H.os 1)
   refine s_nil ⟨(H.pk [8]),?_⟩
   refine t_l rfl ?_
   refine t_sw 7 0 [u0_2,u1_3,I r22,I r32] (.agg #[u0_2,u1_3,I r22,I r32]) H rfl rfl Sz28 rfl rfl rfl (by simp only [List.all_cons,List.all_nil,Bool.true_and,Bool.and_true,Sl.oc (H.os 3),Sl.oc (rowSl rfl (H.get (k:=4) rfl) (roLe _ (H.get (k:=5) rfl)) hf188z)]; try rfl) ?_
   intro w198z H
   refine s_nil ⟨(H.pk [8]),?_⟩
   refine t_l rfl ?_
   refine t_sw 6 0 [u0_6,u1_7,I r23,I r33] (.agg #[u0_6,u1_7,I r23,I r33]) H rfl rfl Sz77 rfl rfl rfl (by simp only [List.all_cons,List.all_nil,Bool.true_and,Bool.and_true,Sl.oc (H.os 0),Sl.oc (rowSl rfl (H.get (k:=1) rfl) (Cells.sup_le (hC_b_Olds.at H) (roLe _ (H.get (k:=2) rfl))) hf195z)]; try rfl) ?_
   intro w199z H
   refine s_nil ⟨(H.pk [8]),?_⟩
   refine t_nil ?_
   exact ⟨b_10,b_11,r0,r1,r22,r32,r02,r12,r23,r33,u0_6,u1_7,u0_2,u1_3,rr2_8,Bs3_9,rr2_4,Bs3_5,_,upds_of _ _ ⟨rfl,rfl,rfl,rfl,rfl,rfl,rfl,rfl,trivial⟩,hM,(H.pk [6,7,0,1,2,3,4,5,8]),hf195z,hf188z⟩
  skip
  refine t_alloc (cs:=[.slice none 0 0,.slice none 0 0,I 0,I 0]) H Al77 rfl ?_
  intro b_11 w200z H
  refine s_nil ⟨(H.pk [1]),?_⟩
  refine t_l2 rfl rfl ?_ ?_
  ·skip
   obtain ⟨r221z,hx220z,hM⟩:=M.e_bind hM
   refine s_call cf30 [.agg #[v_b_Years,v_b_Olds,I b_First,I b_Last]] rfl (zba b_Years b_Olds b_First b_Last (hC_b_Years.app _) hs_b_Years (hC_b_Olds.app _) hs_b_Olds hx220z _ (H.gt 2)) ?_
   rintro vq w222z ⟨r0,r1,r22,r32,u0_2,u1_3,rr2_4,Bs3_5,hr223z,hvq,H2_,hf224z⟩
   subst hr223z
   subst vq
   try dsimp only at hM
   replace H:=H.bk H2_
   clear H2_
   have hvc_q225z:=Sl.cells (H.os 0)
   have hvo_q225z:=Sl.oc (H.os 0)
   have hvc_q226z:=Sl.cells (H.os 1)
   have hvo_q226z:=Sl.oc (H.os 1)
   refine s_nil ⟨(H.pk [4]),?_⟩
   refine t_l2 rfl rfl ?_ ?_
   ·skip
    obtain ⟨r242z,hx241z,hM⟩:=M.e_bind hM
    refine s_call cf31 [.agg #[v_b_Years,v_b_Olds,I b_First,I b_Last]] rfl (zai b_Years b_Olds b_First b_Last (hC_b_Years.app _) hs_b_Years (hC_b_Olds.app _) hs_b_Olds hx241z _ (H.gt 5)) ?_
    rintro vq w243z ⟨r02,r12,r23,r33,u0_6,u1_7,rr2_8,Bs3_9,hr244z,hvq,H2_,hf245z⟩
    subst hr244z
    subst vq
    try dsimp only at hM
    replace H:=H.bk H2_
    clear H2_
    have hvc_q246z:=Sl.cells (H.os 0)
    have hvo_q246z:=Sl.oc (H.os 0)
    have hvc_q247z:=Sl.cells (H.os 1)
    have hvo_q247z:=Sl.oc (H.os 1)
    refine s_nil ⟨(H.pk [7]),?_⟩
    refine t_l rfl ?_
    refine t_alloc (cs:=[.slice none 0 0,.slice none 0 0,I 0,I 0]) H Al28 rfl ?_
    intro b_10 w248z H
    refine s_nil ⟨(H.pk [8]),?_⟩
    refine t_l rfl ?_
    refine t_sw 0 0 [u0_2,u1_3,I r22,I r32] (.agg #[u0_2,u1_3,I r22,I r32]) H rfl rfl Sz28 rfl rfl rfl (by simp only [List.all_cons,List.all_nil,Bool.true_and,Bool.and_true,Sl.oc (H.os 4),Sl.oc (rowSl rfl (H.get (k:=5) rfl) (roLe _ (H.get (k:=6) rfl)) hf224z)]; try rfl) ?_
    intro w249z H
    refine s_nil ⟨(H.pk [8]),?_⟩
    refine t_l rfl ?_
    refine t_sw 7 0 [u0_6,u1_7,I r23,I r33] (.agg #[u0_6,u1_7,I r23,I r33]) H rfl rfl Sz77 rfl rfl rfl (by simp only [List.all_cons,List.all_nil,Bool.true_and,Bool.and_true,Sl.oc (H.os 1),Sl.oc (rowSl rfl (H.get (k:=2) rfl) (Cells.sup_le (hC_b_Olds.at H) (roLe _ (H.get (k:=3) rfl))) hf245z)]; try rfl) ?_
    intro w250z H
    refine s_nil ⟨(H.pk [8]),?_⟩
    refine t_nil ?_
    exact ⟨b_10,b_11,r0,r1,r22,r32,r02,r12,r23,r33,u0_6,u1_7,u0_2,u1_3,rr2_8,Bs3_9,rr2_4,Bs3_5,_,upds_of _ _ ⟨rfl,rfl,rfl,rfl,rfl,rfl,rfl,rfl,trivial⟩,hM,(H.pk [7,0,1,2,3,4,5,6,8]),hf245z,hf224z⟩
   skip
   refine t_alloc (cs:=[.slice none 0 0,.slice none 0 0,I 0,I 0]) H Al28 rfl ?_
   intro b_10 w251z H
   refine s_nil ⟨(H.pk [5]),?_⟩
   refine t_l rfl ?_
   obtain ⟨r253z,hx252z,hM⟩:=M.e_bind hM
   refine s_call cf31 [.agg #[v_b_Years,v_b_Olds,I b_First,I b_Last]] rfl (zai b_Years b_Olds b_First b_Last (hC_b_Years.app _) hs_b_Years (hC_b_Olds.app _) hs_b_Olds hx252z _ (H.gt 6)) ?_
   rintro vq w254z ⟨r02,r12,r23,r33,u0_6,u1_7,rr2_8,Bs3_9,hr255z,hvq,H2_,hf256z⟩
   subst hr255z
   subst vq
   try dsimp only at hM
   replace H:=H.bk H2_
   clear H2_
   have hvc_q257z:=Sl.cells (H.os 0)
   have hvo_q257z:=Sl.oc (H.os 0)
   have hvc_q258z:=Sl.cells (H.os 1)
   have hvo_q258z:=Sl.oc (H.os 1)
   refine s_nil ⟨(H.pk [8]),?_⟩
   refine t_l rfl ?_
   refine t_sw 3 0 [u0_2,u1_3,I r22,I r32] (.agg #[u0_2,u1_3,I r22,I r32]) H rfl rfl Sz28 rfl rfl rfl (by simp only [List.all_cons,List.all_nil,Bool.true_and,Bool.and_true,Sl.oc (H.os 4),Sl.oc (rowSl rfl (H.get (k:=5) rfl) (roLe _ (H.get (k:=6) rfl)) hf224z)]; try rfl) ?_
   intro w259z H
   refine s_nil ⟨(H.pk [8]),?_⟩
   refine t_l rfl ?_
   refine t_sw 7 0 [u0_6,u1_7,I r23,I r33] (.agg #[u0_6,u1_7,I r23,I r33]) H rfl rfl Sz77 rfl rfl rfl (by simp only [List.all_cons,List.all_nil,Bool.true_and,Bool.and_true,Sl.oc (H.os 0),Sl.oc (rowSl rfl (H.get (k:=1) rfl) (Cells.sup_le (hC_b_Olds.at H) (roLe _ (H.get (k:=2) rfl))) hf256z)]; try rfl) ?_
   intro w260z H
   refine s_nil ⟨(H.pk [8]),?_⟩
   refine t_nil ?_
   exact ⟨b_10,b_11,r0,r1,r22,r32,r02,r12,r23,r33,u0_6,u1_7,u0_2,u1_3,rr2_8,Bs3_9,rr2_4,Bs3_5,_,upds_of _ _ ⟨rfl,rfl,rfl,rfl,rfl,rfl,rfl,rfl,trivial⟩,hM,(H.pk [7,3,0,1,2,4,5,6,8]),hf256z,hf224z⟩
  skip
  refine t_alloc (cs:=[.slice none 0 0,.slice none 0 0,I 0,I 0]) H Al28 rfl ?_
  intro b_10 w261z H
  refine s_nil ⟨(H.pk [2]),?_⟩
  refine t_l rfl ?_
  obtain ⟨r263z,hx262z,hM⟩:=M.e_bind hM
  refine s_call cf30 [.agg #[v_b_Years,v_b_Olds,I b_First,I b_Last]] rfl (zba b_Years b_Olds b_First b_Last (hC_b_Years.app _) hs_b_Years (hC_b_Olds.app _) hs_b_Olds hx262z _ (H.gt 3)) ?_
  rintro vq w264z ⟨r0,r1,r22,r32,u0_2,u1_3,rr2_4,Bs3_5,hr265z,hvq,H2_,hf266z⟩
  subst hr265z
  subst vq
  try dsimp only at hM
  replace H:=H.bk H2_
  clear H2_
  have hvc_q267z:=Sl.cells (H.os 0)
  have hvo_q267z:=Sl.oc (H.os 0)
  have hvc_q268z:=Sl.cells (H.os 1)
  have hvo_q268z:=Sl.oc (H.os 1)
  refine s_nil ⟨(H.pk [5]),?_⟩
  refine t_l rfl ?_
  obtain ⟨r270z,hx269z,hM⟩:=M.e_bind hM
  refine s_call cf31 [.agg #[v_b_Years,v_b_Olds,I b_First,I b_Last]] rfl (zai b_Years b_Olds b_First b_Last (hC_b_Years.app _) hs_b_Years (hC_b_Olds.app _) hs_b_Olds hx269z _ (H.gt 6)) ?_
  rintro vq w271z ⟨r02,r12,r23,r33,u0_6,u1_7,rr2_8,Bs3_9,hr272z,hvq,H2_,hf273z⟩
  subst hr272z
  subst vq
  try dsimp only at hM
  replace H:=H.bk H2_
  clear H2_
  have hvc_q274z:=Sl.cells (H.os 0)
  have hvo_q274z:=Sl.oc (H.os 0)
  have hvc_q275z:=Sl.cells (H.os 1)
  have hvo_q275z:=Sl.oc (H.os 1)
  refine s_nil ⟨(H.pk [8]),?_⟩
  refine t_l rfl ?_
  refine t_sw 6 0 [u0_2,u1_3,I r22,I r32] (.agg #[u0_2,u1_3,I r22,I r32]) H rfl rfl Sz28 rfl rfl rfl (by simp only [List.all_cons,List.all_nil,Bool.true_and,Bool.and_true,Sl.oc (H.os 3),Sl.oc (rowSl rfl (H.get (k:=4) rfl) (roLe _ (H.get (k:=5) rfl)) hf266z)]; try rfl) ?_
  intro w276z H
  refine s_nil ⟨(H.pk [8]),?_⟩
  refine t_l rfl ?_
  refine t_sw 7 0 [u0_6,u1_7,I r23,I r33] (.agg #[u0_6,u1_7,I r23,I r33]) H rfl rfl Sz77 rfl rfl rfl (by simp only [List.all_cons,List.all_nil,Bool.true_and,Bool.and_true,Sl.oc (H.os 0),Sl.oc (rowSl rfl (H.get (k:=1) rfl) (Cells.sup_le (hC_b_Olds.at H) (roLe _ (H.get (k:=2) rfl))) hf273z)]; try rfl) ?_
  intro w277z H
  refine s_nil ⟨(H.pk [8]),?_⟩
  refine t_nil ?_
  exact ⟨b_10,b_11,r0,r1,r22,r32,r02,r12,r23,r33,u0_6,u1_7,u0_2,u1_3,rr2_8,Bs3_9,rr2_4,Bs3_5,_,upds_of _ _ ⟨rfl,rfl,rfl,rfl,rfl,rfl,rfl,rfl,trivial⟩,hM,(H.pk [7,6,0,1,2,3,4,5,8]),hf273z,hf266z⟩
 rintro _ w278z ⟨b_10,b_11,r0,r1,r22,r32,r02,r12,r23,r33,u0_6,u1_7,u0_2,u1_3,rr2_8,Bs3_9,rr2_4,Bs3_5,ρ,rfl,hM,H,hrj279z,hrj280z⟩
 unfold zcF at hM
 refine W.seq ?_
 refine W.region rfl ?_
 refine s_val (x_ld (p:=Pq b_10) (v:=.agg #[u0_2,u1_3,I r22,I r32]) rfl (ldb_ag (ds:=[u0_2,u1_3,I r22,I r32]) Ag28 Sz28 (H.bl 1) rfl rfl)) ?_
 refine zM (I from_) rfl ?_
 refine zM (I to_) rfl ?_
 refine zM (I stage) rfl ?_
 obtain ⟨r282z,hx281z,hM⟩:=M.e_bind hM
 refine s_call cf11 [.agg #[u0_2,u1_3,I r22,I r32],I from_,I to_,I stage] rfl (zbD r0 r1 r22 r32 from_ to_ stage (rdo 5) (H.os 5) (Reads.sup (rdo 6) (Reads.of (k:=7) rfl roLe)) (rowSl rfl (H.get (k:=6) rfl) (roLe _ (H.get (k:=7) rfl)) hrj280z) hx281z _ (H.gt 9)) ?_
 rintro vq w283z ⟨r00,r01,r13,hr284z,hvq,H2_⟩
 subst hr284z
 subst vq
 try dsimp only at hM
 replace H:=H.bk H2_
 clear H2_
 refine zM (.tuple #[.agg #[I r00,I r01],I r13]) rfl ?_
 refine zX [.agg #[I r00,I r01],I r13] (.agg #[I r00,I r01]) rfl rfl ?_
 refine zX [.agg #[I r00,I r01],I r13] (I r13) rfl rfl ?_
 refine t_alloc (cs:=[I 0,I 0]) H Al34 rfl ?_
 intro b_12 w285z H
 refine t_sw 0 0 [I r00,I r01] (.agg #[I r00,I r01]) H rfl rfl Sz34 rfl rfl rfl rfl ?_
 intro w286z H
 refine zA (I r13) rfl ?_
 refine s_nil ?_
 refine W.seq ?_
 refine W.region rfl ?_
 refine s_val (x_ld (p:=Pq b_11) (v:=.agg #[u0_6,u1_7,I r23,I r33]) rfl (ldb_ag (ds:=[u0_6,u1_7,I r23,I r33]) Ag77 Sz77 (H.bl 1) rfl rfl)) ?_
 refine zM (I from_) rfl ?_
 refine zM (I to_) rfl ?_
 refine zM (I stage) rfl ?_
 obtain ⟨r288z,hx287z,hM⟩:=M.e_bind hM
 refine s_call cf40 [.agg #[u0_6,u1_7,I r23,I r33],I from_,I to_,I stage] rfl (zdv r02 r12 r23 r33 from_ to_ stage (rdo 3) (H.os 3) (Reads.sup (rdo 4) (Reads.sup (hC_b_Olds.app _) (Reads.of (k:=5) rfl roLe))) (rowSl rfl (H.get (k:=4) rfl) (Cells.sup_le (hC_b_Olds.at H) (roLe _ (H.get (k:=5) rfl))) hrj279z) hx287z _ (H.gt 10)) ?_
 rintro vq w289z ⟨r002,r012,r14,hr290z,hvq,H2_⟩
 subst hr290z
 subst vq
 try dsimp only at hM
 replace H:=H.bk H2_
 clear H2_
 refine zM (.tuple #[.agg #[I r002,I r012],I r14]) rfl ?_
 refine zX [.agg #[I r002,I r012],I r14] (.agg #[I r002,I r012]) rfl rfl ?_
 refine zX [.agg #[I r002,I r012],I r14] (I r14) rfl rfl ?_
 refine t_alloc (cs:=[I 0,I 0]) H Al34 rfl ?_
 intro b_13 w291z H
 refine t_sw 0 0 [I r002,I r012] (.agg #[I r002,I r012]) H rfl rfl Sz34 rfl rfl rfl rfl ?_
 intro w292z H
 refine zA (I r14) rfl ?_
 refine s_nil ?_
 refine W.seq ?_
 refine W.seq ?_
 refine W.region rfl ?_
 refine zM (I r13) rfl ?_
 refine zM (I r14) rfl ?_
 refine zC r13 r14 (r13 != r14) rfl rfl rfl ?_
 refine zM (B (r13 != r14)) rfl ?_
 refine g_val (!(r13 != r14)) (gy_f rfl) (fun hg=>x_ld (p:=Pq b_12) (v:=.agg #[I r00,I r01]) rfl (ldb_ag (ds:=[I r00,I r01]) Ag34 Sz34 (H.bl 1) rfl rfl)) ?_
 refine g_val (!(r13 != r14)) (gy_f rfl) (fun hg=>x_ld (p:=Pq b_13) (v:=.agg #[I r002,I r012]) rfl (ldb_ag (ds:=[I r002,I r012]) Ag34 Sz34 (H.bl 0) rfl rfl)) ?_
 refine g_val (!(r13 != r14)) (gy_f rfl) (fun hg=>x_neS (eqT34 (⟨(r00:Int),(r01:Int)⟩:Span) (⟨(r002:Int),(r012:Int)⟩:Span) _) gdT34 (gd_of (c:=!(r13 != r14)) hg (.agg #[I r00,I r01])) (gd_of (c:=!(r13 != r14)) hg (.agg #[I r002,I r012]))) ?_
 refine s_val (x_por (b:=r13 != r14) (r:=!(decide ((⟨(r00:Int),(r01:Int)⟩:Span)=(⟨(r002:Int),(r012:Int)⟩:Span)))) rfl rfl (fun hb=>gd_of (c:=!(r13 != r14)) (by first | exact hb | (rw [hb]; rfl) | (rw [hg,hb]; rfl) | simp_all) (B (!(decide ((⟨(r00:Int),(r01:Int)⟩:Span)=(⟨(r002:Int),(r012:Int)⟩:Span))))))) ?_
 refine s_nil ?_
 refine W.cond ((r13 != r14)||(!(decide ((⟨(r00:Int),(r01:Int)⟩:Span)=(⟨(r002:Int),(r012:Int)⟩:Span))))) rfl (fun c293z=>?_) (fun c293z=>?_)
 ·replace hM:=M.e_t hM c293z
  refine W.seq ?_
  refine W.region rfl ?_
  refine zA (B false) rfl ?_
  refine s_nil ?_
  refine W.ret ?_
  have hr_:=M.e_pure hM
  exact ⟨_,resE_tmp rfl,⟨false,hr_,rfl,(H.pk [])⟩⟩
 replace hM:=M.e_f hM c293z
 refine W.skip ?_
 refine W.seq ?_
 refine W.region rfl ?_
 refine s_val (x_ld (p:=Pq b_10) (v:=.agg #[u0_2,u1_3,I r22,I r32]) rfl (ldb_ag (ds:=[u0_2,u1_3,I r22,I r32]) Ag28 Sz28 (H.bl 3) rfl rfl)) ?_
 refine zM (I from_) rfl ?_
 refine zM (I to_) rfl ?_
 refine zM (I stage) rfl ?_
 refine zM (B most) rfl ?_
 obtain ⟨r295z,hx294z,hM⟩:=M.e_bind hM
 refine s_call cf12 [.agg #[u0_2,u1_3,I r22,I r32],I from_,I to_,I stage,B most] rfl (zdt r0 r1 r22 r32 from_ to_ stage most (rdo 7) (H.os 7) (Reads.sup (rdo 8) (Reads.of (k:=9) rfl roLe)) (rowSl rfl (H.get (k:=8) rfl) (roLe _ (H.get (k:=9) rfl)) hrj280z) hx294z _ (H.gt 11)) ?_
 rintro vq w296z ⟨r03,r15,u0_14,hr297z,hvq,H2_⟩
 subst hr297z
 subst vq
 try dsimp only at hM
 replace H:=H.bk H2_
 clear H2_
 refine zM (.tuple #[u0_14,I r15]) rfl ?_
 refine zX [u0_14,I r15] u0_14 rfl rfl ?_
 refine zX [u0_14,I r15] (I r15) rfl rfl ?_
 refine zA u0_14 rfl ?_
 refine zA (I r15) rfl ?_
 refine s_nil ?_
 refine W.seq ?_
 refine W.seq ?_
 refine W.region rfl ?_
 refine zM (I r15) rfl ?_
 refine zM (I r14) rfl ?_
 refine zC r15 r14 (r15 != r14) rfl rfl rfl ?_
 refine zM (B (r15 != r14)) rfl ?_
 refine g_val (!(r15 != r14)) (gy_f rfl) (fun hg=>x_mv (v:=I r15) rfl) ?_
 refine g_val (!(r15 != r14)) (gy_f rfl) (fun hg=>x_cmp (kd:=.i64) (a:=r15) (b:=0) (r:=r15 != 0) (gd_of (c:=!(r15 != r14)) hg (I r15)) rfl rfl) ?_
 refine g_val (!(r15 != r14)) (gy_f rfl) (fun hg=>x_mv (v:=B (r15 != 0)) (gd_of (c:=!(r15 != r14)) hg (B (r15 != 0)))) ?_
 refine g_val ((!(r15 != r14))&&(r15 != 0)) (gy_gt rfl rfl) (fun hg=>x_mv (v:=u0_14) rfl) ?_
 refine g_val ((!(r15 != r14))&&(r15 != 0)) (gy_gt rfl rfl) (fun hg=>x_lenS T22.und (gd_of (c:=((!(r15 != r14))&&(r15 != 0))) hg (u0_14)) (H.os 0)) ?_
 refine g_val ((!(r15 != r14))&&(r15 != 0)) (gy_gt rfl rfl) (fun hg=>x_cmp (kd:=.i64) (a:=(r03.length:Int)) (b:=0) (r:=decide (0<(r03.length:Int))) (gd_of (c:=((!(r15 != r14))&&(r15 != 0))) hg (I (r03.length:Int))) rfl rfl) ?_
 refine g_val (!(r15 != r14)) (gy_f rfl) (fun hg=>x_pand (b:=r15 != 0) (r:=decide (0<(r03.length:Int))) (gd_of (c:=!(r15 != r14)) hg (B (r15 != 0))) (fun hb=>gd_of (c:=((!(r15 != r14))&&(r15 != 0))) (by first | exact hb | (rw [hb]; rfl) | (rw [hg,hb]; rfl) | simp_all) (B (decide (0<(r03.length:Int))))) rfl) ?_
 refine s_val (x_por (b:=r15 != r14) (r:=((r15 != 0)&&(decide (0<(r03.length:Int))))) rfl rfl (fun hb=>gd_of (c:=!(r15 != r14)) (by first | exact hb | (rw [hb]; rfl) | (rw [hg,hb]; rfl) | simp_all) (B ((r15 != 0)&&(decide (0<(r03.length:Int))))))) ?_
 refine s_nil ?_
 refine W.cond ((r15 != r14)||((r15 != 0)&&(decide (0<(r03.length:Int))))) rfl (fun c299z=>?_) (fun c299z=>?_)
 ·replace hM:=M.e_t hM c299z
  refine W.seq ?_
  refine W.region rfl ?_
  refine zA (B false) rfl ?_
  refine s_nil ?_
  refine W.ret ?_
  have hr_:=M.e_pure hM
  exact ⟨_,resE_tmp rfl,⟨false,hr_,rfl,(H.pk [])⟩⟩
 replace hM:=M.e_f hM c299z
 refine W.skip ?_
 refine W.seqJ (fun σ W=>∃ (ρ:Env),σ=upds ρ [(1,I from_),(2,I to_),(3,I stage),(4,I times),(6,Pq b_1),(13,Pq b_10),(14,Pq b_11),(15,Pq b_12),(17,Pq b_13)]/\(za3 b_Years b_Olds b_First b_Last from_ to_ stage times r0 r1 r22 r32 r02 r12 r23 r33).Ends r/\St w W [cOwn (α:=Int) 3 u0_14 r03,cBlk b_13 [I r002,I r012] 34,cBlk b_12 [I r00,I r01] 34,cBlk b_11 [u0_6,u1_7,I r23,I r33] 77,cBlk b_10 [u0_2,u1_3,I r22,I r32] 28,cOwn (α:=Yr) 124 u0_6 r02,cOwn (α:=Raw 3) 125 u1_7 rr2_8,cRo Bs3_9,cOwn (α:=Yr) 36 u0_2 r0,cOwn (α:=Raw 3) 38 u1_3 rr2_4,cRo Bs3_5,cBlk b_1 [v_b_Years,v_b_Olds,I b_First,I b_Last] 28] R) ?_ ?_
 ·skip
  refine W.seq ?_
  refine W.region rfl ?_
  refine zM (I r15) rfl ?_
  refine zC r15 0 (r15==0) rfl rfl rfl ?_
  refine s_nil ?_
  refine W.cond (r15==0) rfl (fun c300z=>?_) (fun c300z=>?_)
  ·replace hM:=M.e_t hM c300z
   simp only [qy1,qy2,qy3,qy4,qy5,qy6,ne_eq,qy7] at c300z
   refine W.seq ?_
   refine W.seq ?_
   refine W.region rfl ?_
   refine s_val (x_ld (p:=Pq b_11) (v:=.agg #[u0_6,u1_7,I r23,I r33]) rfl (ldb_ag (ds:=[u0_6,u1_7,I r23,I r33]) Ag77 Sz77 (H.bl 3) rfl rfl)) ?_
   refine zM u0_14 rfl ?_
   obtain ⟨r302z,hx301z,hM⟩:=M.e_bind hM
   refine s_call cf34 [.agg #[u0_6,u1_7,I r23,I r33],u0_14] rfl (zdH r02 r12 r23 r33 r03 (rdo 5) (H.os 5) (Reads.sup (rdo 6) (Reads.sup (hC_b_Olds.app _) (Reads.of (k:=7) rfl roLe))) (rowSl rfl (H.get (k:=6) rfl) (Cells.sup_le (hC_b_Olds.at H) (roLe _ (H.get (k:=7) rfl))) hrj279z) (rdo 0) (H.os 0) hx301z _ (H.gt 12)) ?_
   rintro vq w303z ⟨r04,r16,hr304z,hvq,H2_⟩
   subst hr304z
   subst vq
   try dsimp only at hM
   replace H:=H.bk H2_
   clear H2_
   refine zM (.tuple #[B r04,I r16]) rfl ?_
   refine zX [B r04,I r16] (B r04) rfl rfl ?_
   refine zX [B r04,I r16] (I r16) rfl rfl ?_
   refine zA (B r04) rfl ?_
   refine zA (I r16) rfl ?_
   refine s_nil ?_
   refine W.seq ?_
   refine W.region rfl ?_
   refine zM (I r16) rfl ?_
   refine zC r16 0 (r16 != 0) rfl rfl rfl ?_
   refine zM (B (r16 != 0)) rfl ?_
   refine g_val (!(r16 != 0)) (gy_f rfl) (fun hg=>x_mv (v:=B r04) rfl) ?_
   refine g_val (!(r16 != 0)) (gy_f rfl) (fun hg=>x_not (b:=r04) (gd_of (c:=!(r16 != 0)) hg (B r04))) ?_
   refine s_val (x_por (b:=r16 != 0) (r:=!r04) rfl rfl (fun hb=>gd_of (c:=!(r16 != 0)) (by first | exact hb | (rw [hb]; rfl) | (rw [hg,hb]; rfl) | simp_all) (B (!r04)))) ?_
   refine s_nil ?_
   refine W.cond ((r16 != 0)||(!r04)) rfl (fun c305z=>?_) (fun c305z=>?_)
   ·replace hM:=M.e_t hM c305z
    refine W.seq ?_
    refine W.region rfl ?_
    refine zA (B false) rfl ?_
    refine s_nil ?_
    refine W.ret ?_
    have hr_:=M.e_pure hM
    exact ⟨_,resE_tmp rfl,⟨false,hr_,rfl,(H.pk [])⟩⟩
   replace hM:=M.e_f hM c305z
   refine W.skip ?_
   refine W.seq ?_
   refine W.region rfl ?_
   refine zA (I 0) rfl ?_
   refine s_nil ?_
   refine W.seq ?_
   refine W.seq ?_
   refine W.region rfl ?_
   refine zM u0_14 rfl ?_
   have hl306z:=((H.os 0)).len_le
   refine s_val (x_lenS T22.und rfl (H.os 0)) ?_
   refine s_val (x_fa (a:=Pq b_1) (v:=Oq b_1 3) rfl (fa_blk (o:=0) Fd28_3 Sz3)) ?_
   refine s_val (x_ld (p:=Oq b_1 3) (v:=I b_Last) rfl (ldb_sc Sc3 (H.bl 11) rfl)) ?_
   refine s_val (x_fa (a:=Pq b_1) (v:=Oq b_1 2) rfl (fa_blk (o:=0) Fd28_2 Sz3)) ?_
   refine s_val (x_ld (p:=Oq b_1 2) (v:=I b_First) rfl (ldb_sc Sc3 (H.bl 11) rfl)) ?_
   obtain ⟨sd307z,hM⟩:=M.e_grd hM
   simp only [Bool.and_eq_true,decide_eq_true_eq] at sd307z
   refine zR b_Last b_First (b_Last-b_First) rfl rfl rfl (by omega) ?_
   obtain ⟨sd308z,hM⟩:=M.e_grd hM
   simp only [Bool.and_eq_true,decide_eq_true_eq] at sd308z
   refine zR (b_Last-b_First) 1 ((b_Last-b_First)+1) rfl rfl rfl (by omega) ?_
   refine zC (r03.length:Int) ((b_Last-b_First)+1) ((r03.length:Int) != ((b_Last-b_First)+1)) rfl rfl rfl ?_
   refine s_nil ?_
   refine W.cond ((r03.length:Int) != ((b_Last-b_First)+1)) rfl (fun c309z=>?_) (fun c309z=>?_)
   ·replace hM:=M.e_t hM c309z
    simp only [qy1,qy2,qy3,qy4,qy5,qy6,ne_eq,qy7] at c309z
    refine W.seq ?_
    refine W.region rfl ?_
    refine zA (B false) rfl ?_
    refine s_nil ?_
    refine W.ret ?_
    have hr_:=M.e_pure hM
    exact ⟨_,resE_tmp rfl,⟨false,hr_,rfl,(H.pk [])⟩⟩
   replace hM:=M.e_f hM c309z
   simp only [qy1,qy2,qy3,qy4,qy5,qy6,ne_eq,qy7] at c309z
   refine W.skip ?_
   refine W.seq ?_
   refine W.seq ?_
   refine W.region rfl ?_
   refine zM (I from_) rfl ?_
   refine zA (I from_) rfl ?_
   refine s_nil ?_
   refine W.block ?_
   obtain ⟨ex310z,hi311z,hk312z⟩:=M.e_bind hM
   obtain ⟨m0_,hi311z⟩:=M.e_iter hi311z
   refine W.loop (fun m σ W=>∃ (n:Nat) (year:Int) (ρ:Env),σ=upds ρ [(1,I from_),(2,I to_),(3,I stage),(4,I times),(5,B most),(6,Pq b_1),(13,Pq b_10),(14,Pq b_11),(15,Pq b_12),(17,Pq b_13),(19,u0_14),(22,I (n:Int)),(23,I year)]/\M.iterN (zbL b_First to_ stage r03) m (n,year)=some ex310z/\St w W [cOwn (α:=Int) 3 u0_14 r03,cBlk b_13 [I r002,I r012] 34,cBlk b_12 [I r00,I r01] 34,cBlk b_11 [u0_6,u1_7,I r23,I r33] 77,cBlk b_10 [u0_2,u1_3,I r22,I r32] 28,cOwn (α:=Yr) 124 u0_6 r02,cOwn (α:=Raw 3) 125 u1_7 rr2_8,cRo Bs3_9,cOwn (α:=Yr) 36 u0_2 r0,cOwn (α:=Raw 3) 38 u1_3 rr2_4,cRo Bs3_5,cBlk b_1 [v_b_Years,v_b_Olds,I b_First,I b_Last] 28] R) ?_ ?_
   ·exact ⟨_,0,from_,_,upds_of _ _ ⟨rfl,rfl,rfl,rfl,rfl,rfl,rfl,rfl,rfl,rfl,rfl,rfl,rfl,trivial⟩,hi311z,H⟩
   rintro m315z σ w313z ⟨n,year,ρ,rfl,hI314z,H⟩
   obtain ⟨m316z,lt317z,x318z,hM,hN319z⟩:=M.e_iterN hI314z
   simp only [zbL] at hM
   clear hI314z
   refine W.seq ?_
   refine W.seq ?_
   refine W.region rfl ?_
   refine zM (I year) rfl ?_
   refine zM (I to_) rfl ?_
   refine zC year to_ (decide (year<=to_)) rfl rfl rfl ?_
   refine s_nil ?_
   refine W.cond (decide (year<=to_)) rfl (fun c320z=>?_) (fun c320z=>?_)
   ·replace hM:=M.e_t hM c320z
    simp only [qy1,qy2,qy3,qy4,qy5,qy6,ne_eq,qy7] at c320z
    refine W.skip ?_
    refine W.seq ?_
    refine W.block ?_
    refine W.seq ?_
    refine W.region rfl ?_
    refine zM u0_14 rfl ?_
    refine zM (I year) rfl ?_
    refine s_val (x_fa (a:=Pq b_1) (v:=Oq b_1 2) rfl (fa_blk (o:=0) Fd28_2 Sz3)) ?_
    refine s_val (x_ld (p:=Oq b_1 2) (v:=I b_First) rfl (ldb_sc Sc3 (H.bl 11) rfl)) ?_
    obtain ⟨sd321z,hM⟩:=M.e_grd hM
    simp only [Bool.and_eq_true,decide_eq_true_eq] at sd321z
    refine zR year b_First (year-b_First) rfl rfl rfl (by omega) ?_
    obtain ⟨sd322z,hM⟩:=M.e_grd hM
    simp only [Bool.and_eq_true,decide_eq_true_eq] at sd322z
    refine s_val (x_ix (a:=u0_14) (b:=I (year-b_First)) (v:=vat u0_14 1 (Int.toNat (year-b_First))) rfl rfl (Sl.ix (α:=Int) T22.und T22.size (H.os 0) (by omega) (by omega))) ?_
    refine s_val (x_ld (p:=vat u0_14 1 (Int.toNat (year-b_First))) (v:=I (r03.getD (Int.toNat (year-b_First)) 0)) rfl (ld_sc Sc3 (At.mono (Int_at (H.os 0) (i:=year-b_First) (by omega) (by omega)) (H.ol 0)))) ?_
    refine zM (I stage) rfl ?_
    refine zC (r03.getD (Int.toNat (year-b_First)) 0) stage (decide (stage<=(r03.getD (Int.toNat (year-b_First)) 0))) rfl rfl rfl ?_
    refine s_nil ?_
    refine W.cond (decide (stage<=(r03.getD (Int.toNat (year-b_First)) 0))) rfl (fun c323z=>?_) (fun c323z=>?_)
    ·replace hM:=M.e_t hM c323z
     simp only [qy1,qy2,qy3,qy4,qy5,qy6,ne_eq,qy7] at c323z
     refine W.region rfl ?_
     refine zM (I (n:Int)) rfl ?_
     obtain ⟨sd324z,hM⟩:=M.e_grd hM
     simp only [Bool.and_eq_true,decide_eq_true_eq] at sd324z
     refine zR (n:Int) 1 ((n:Int)+1) rfl rfl rfl (by omega) ?_
     refine zA (I ((n:Int)+1)) rfl ?_
     refine s_nil ?_
     refine W.region rfl ?_
     refine zM (I year) rfl ?_
     obtain ⟨sd325z,hM⟩:=M.e_grd hM
     simp only [Bool.and_eq_true,decide_eq_true_eq] at sd325z
     refine zR year 1 (year+1) rfl rfl rfl (by omega) ?_
     refine zA (I (year+1)) rfl ?_
     refine s_nil ?_
     exact ⟨m316z,lt317z,n+1,year+1,_,upds_of _ _ ⟨rfl,rfl,rfl,rfl,rfl,rfl,rfl,rfl,rfl,rfl,rfl,rfl,rfl,trivial⟩,M.e_inl hM hN319z,H⟩
    replace hM:=M.e_f hM c323z
    simp only [qy1,qy2,qy3,qy4,qy5,qy6,ne_eq,qy7] at c323z
    refine W.skip ?_
    refine W.region rfl ?_
    refine zM (I year) rfl ?_
    obtain ⟨sd326z,hM⟩:=M.e_grd hM
    simp only [Bool.and_eq_true,decide_eq_true_eq] at sd326z
    refine zR year 1 (year+1) rfl rfl rfl (by omega) ?_
    refine zA (I (year+1)) rfl ?_
    refine s_nil ?_
    exact ⟨m316z,lt317z,n,year+1,_,upds_of _ _ ⟨rfl,rfl,rfl,rfl,rfl,rfl,rfl,rfl,rfl,rfl,rfl,rfl,rfl,trivial⟩,M.e_inl hM hN319z,H⟩
   replace hM:=M.e_f hM c320z
   simp only [qy1,qy2,qy3,qy4,qy5,qy6,ne_eq,qy7] at c320z
   refine W.exit ?_
   have hX327z:=M.e_inr hM hN319z
   subst hX327z
   replace hM:=hk312z
   try dsimp only at hM
   refine W.seq ?_
   refine W.region rfl ?_
   refine zM (B most) rfl ?_
   refine zM (B most) rfl ?_
   refine g_val most (gy_t rfl) (fun hg=>x_mv (v:=I (n:Int)) rfl) ?_
   refine g_val most (gy_t rfl) (fun hg=>x_fa (a:=Pq b_13) (v:=Oq b_13 1) rfl (fa_blk (o:=0) Fd34_1 Sz3)) ?_
   refine g_val most (gy_t rfl) (fun hg=>x_ld (p:=Oq b_13 1) (v:=I r012) (gd_of (c:=most) hg (Oq b_13 1)) (ldb_sc Sc3 (H.bl 1) rfl)) ?_
   refine g_val most (gy_t rfl) (fun hg=>x_cmp (kd:=.i64) (a:=(n:Int)) (b:=r012) (r:=(n:Int) != r012) (gd_of (c:=most) hg (I (n:Int))) (gd_of (c:=most) hg (I r012)) rfl) ?_
   refine s_val (x_pand (b:=most) (r:=(n:Int) != r012) rfl (fun hb=>gd_of (c:=most) (by first | exact hb | (rw [hb]; rfl) | (rw [hg,hb]; rfl) | simp_all) (B ((n:Int) != r012))) rfl) ?_
   refine zM (B (most&&((n:Int) != r012))) rfl ?_
   refine g_val (!(most&&((n:Int) != r012))) (gy_f rfl) (fun hg=>x_mv (v:=B most) rfl) ?_
   refine g_val (!(most&&((n:Int) != r012))) (gy_f rfl) (fun hg=>x_not (b:=most) (gd_of (c:=!(most&&((n:Int) != r012))) hg (B most))) ?_
   refine g_val (!(most&&((n:Int) != r012))) (gy_f rfl) (fun hg=>x_mv (v:=B (!most)) (gd_of (c:=!(most&&((n:Int) != r012))) hg (B (!most)))) ?_
   refine g_val ((!(most&&((n:Int) != r012)))&&(!most)) (gy_gt rfl rfl) (fun hg=>x_mv (v:=I (n:Int)) rfl) ?_
   refine g_val ((!(most&&((n:Int) != r012)))&&(!most)) (gy_gt rfl rfl) (fun hg=>x_fa (a:=Pq b_13) (v:=Pq b_13) rfl (fa_blk (o:=0) Fd34_0 Sz3)) ?_
   refine g_val ((!(most&&((n:Int) != r012)))&&(!most)) (gy_gt rfl rfl) (fun hg=>x_ld (p:=Pq b_13) (v:=I r002) (gd_of (c:=((!(most&&((n:Int) != r012)))&&(!most))) hg (Pq b_13)) (ldb_sc Sc3 (H.bl 1) rfl)) ?_
   refine g_val ((!(most&&((n:Int) != r012)))&&(!most)) (gy_gt rfl rfl) (fun hg=>x_cmp (kd:=.i64) (a:=(n:Int)) (b:=r002) (r:=(n:Int) != r002) (gd_of (c:=((!(most&&((n:Int) != r012)))&&(!most))) hg (I (n:Int))) (gd_of (c:=((!(most&&((n:Int) != r012)))&&(!most))) hg (I r002)) rfl) ?_
   refine g_val (!(most&&((n:Int) != r012))) (gy_f rfl) (fun hg=>x_pand (b:=!most) (r:=(n:Int) != r002) (gd_of (c:=!(most&&((n:Int) != r012))) hg (B (!most))) (fun hb=>gd_of (c:=((!(most&&((n:Int) != r012)))&&(!most))) (by first | exact hb | (rw [hb]; rfl) | (rw [hg,hb]; rfl) | simp_all) (B ((n:Int) != r002))) rfl) ?_
   refine s_val (x_por (b:=(most&&((n:Int) != r012))) (r:=((!most)&&((n:Int) != r002))) rfl rfl (fun hb=>gd_of (c:=!(most&&((n:Int) != r012))) (by first | exact hb | (rw [hb]; rfl) | (rw [hg,hb]; rfl) | simp_all) (B ((!most)&&((n:Int) != r002))))) ?_
   refine s_nil ?_
   refine W.cond ((most&&((n:Int) != r012))||((!most)&&((n:Int) != r002))) rfl (fun c328z=>?_) (fun c328z=>?_)
   ·replace hM:=M.e_t hM c328z
    refine W.seq ?_
    refine W.region rfl ?_
    refine zA (B false) rfl ?_
    refine s_nil ?_
    refine W.ret ?_
    have hr_:=M.e_pure hM
    exact ⟨_,resE_tmp rfl,⟨false,hr_,rfl,(H.pk [])⟩⟩
   replace hM:=M.e_f hM c328z
   refine W.skip ?_
   exact ⟨_,upds_of _ _ ⟨rfl,rfl,rfl,rfl,rfl,rfl,rfl,rfl,rfl,trivial⟩,hM,H⟩
  replace hM:=M.e_f hM c300z
  simp only [qy1,qy2,qy3,qy4,qy5,qy6,ne_eq,qy7] at c300z
  refine W.skip ?_
  exact ⟨_,upds_of _ _ ⟨rfl,rfl,rfl,rfl,rfl,rfl,rfl,rfl,rfl,trivial⟩,hM,H⟩
 rintro _ w329z ⟨ρ,rfl,hM,H⟩
 unfold za3 at hM
 refine W.seq ?_
 refine W.region rfl ?_
 refine s_val (x_ld (p:=Pq b_10) (v:=.agg #[u0_2,u1_3,I r22,I r32]) rfl (ldb_ag (ds:=[u0_2,u1_3,I r22,I r32]) Ag28 Sz28 (H.bl 4) rfl rfl)) ?_
 refine zM (I stage) rfl ?_
 obtain ⟨r331z,hx330z,hM⟩:=M.e_bind hM
 refine s_call cf13 [.agg #[u0_2,u1_3,I r22,I r32],I stage] rfl (zde r0 r1 r22 r32 stage (rdo 8) (H.os 8) (Reads.sup (rdo 9) (Reads.of (k:=10) rfl roLe)) (rowSl rfl (H.get (k:=9) rfl) (roLe _ (H.get (k:=10) rfl)) hrj280z) hx330z _ (H.gt 12)) ?_
 rintro vq w332z ⟨r003,r013,r10,r11,r24,hr333z,hvq,H2_⟩
 subst hr333z
 subst vq
 try dsimp only at hM
 replace H:=H.bk H2_
 clear H2_
 refine zM (.tuple #[.agg #[I r003,I r013],.agg #[I r10,I r11],I r24]) rfl ?_
 refine zX [.agg #[I r003,I r013],.agg #[I r10,I r11],I r24] (.agg #[I r003,I r013]) rfl rfl ?_
 refine zX [.agg #[I r003,I r013],.agg #[I r10,I r11],I r24] (.agg #[I r10,I r11]) rfl rfl ?_
 refine zX [.agg #[I r003,I r013],.agg #[I r10,I r11],I r24] (I r24) rfl rfl ?_
 refine t_alloc (cs:=[I 0,I 0]) H Al51 rfl ?_
 intro b_15 w334z H
 refine t_alloc (cs:=[I 0,I 0]) H Al51 rfl ?_
 intro b_16 w335z H
 refine t_sw 1 0 [I r003,I r013] (.agg #[I r003,I r013]) H rfl rfl Sz51 rfl rfl rfl rfl ?_
 intro w336z H
 refine t_sw 0 0 [I r10,I r11] (.agg #[I r10,I r11]) H rfl rfl Sz51 rfl rfl rfl rfl ?_
 intro w337z H
 refine zA (I r24) rfl ?_
 refine s_nil ?_
 refine W.seq ?_
 refine W.region rfl ?_
 refine s_val (x_ld (p:=Pq b_11) (v:=.agg #[u0_6,u1_7,I r23,I r33]) rfl (ldb_ag (ds:=[u0_6,u1_7,I r23,I r33]) Ag77 Sz77 (H.bl 5) rfl rfl)) ?_
 refine s_val (x_fa (a:=Pq b_1) (v:=Oq b_1 2) rfl (fa_blk (o:=0) Fd28_2 Sz3)) ?_
 refine s_val (x_ld (p:=Oq b_1 2) (v:=I b_First) rfl (ldb_sc Sc3 (H.bl 13) rfl)) ?_
 refine s_val (x_fa (a:=Pq b_1) (v:=Oq b_1 3) rfl (fa_blk (o:=0) Fd28_3 Sz3)) ?_
 refine s_val (x_ld (p:=Oq b_1 3) (v:=I b_Last) rfl (ldb_sc Sc3 (H.bl 13) rfl)) ?_
 refine zM (I stage) rfl ?_
 obtain ⟨r339z,hx338z,hM⟩:=M.e_bind hM
 refine s_call cf40 [.agg #[u0_6,u1_7,I r23,I r33],I b_First,I b_Last,I stage] rfl (zdv r02 r12 r23 r33 b_First b_Last stage (rdo 7) (H.os 7) (Reads.sup (rdo 8) (Reads.sup (hC_b_Olds.app _) (Reads.of (k:=9) rfl roLe))) (rowSl rfl (H.get (k:=8) rfl) (Cells.sup_le (hC_b_Olds.at H) (roLe _ (H.get (k:=9) rfl))) hrj279z) hx338z _ (H.gt 14)) ?_
 rintro vq w340z ⟨r004,r014,r17,hr341z,hvq,H2_⟩
 subst hr341z
 subst vq
 try dsimp only at hM
 replace H:=H.bk H2_
 clear H2_
 refine zM (.tuple #[.agg #[I r004,I r014],I r17]) rfl ?_
 refine zX [.agg #[I r004,I r014],I r17] (.agg #[I r004,I r014]) rfl rfl ?_
 refine zX [.agg #[I r004,I r014],I r17] (I r17) rfl rfl ?_
 refine t_sw 3 0 [I r004,I r014] (.agg #[I r004,I r014]) H rfl rfl Sz34 rfl rfl rfl rfl ?_
 intro w342z H
 refine zA (I r17) rfl ?_
 refine s_nil ?_
 refine W.seq ?_
 refine W.seq ?_
 refine W.region rfl ?_
 refine zM (I r24) rfl ?_
 refine zM (I r17) rfl ?_
 refine zC r24 r17 (r24 != r17) rfl rfl rfl ?_
 refine zM (B (r24 != r17)) rfl ?_
 refine g_val (!(r24 != r17)) (gy_f rfl) (fun hg=>x_mv (v:=I r24) rfl) ?_
 refine g_val (!(r24 != r17)) (gy_f rfl) (fun hg=>x_cmp (kd:=.i64) (a:=r24) (b:=0) (r:=r24 != 0) (gd_of (c:=!(r24 != r17)) hg (I r24)) rfl rfl) ?_
 refine g_val (!(r24 != r17)) (gy_f rfl) (fun hg=>x_mv (v:=B (r24 != 0)) (gd_of (c:=!(r24 != r17)) hg (B (r24 != 0)))) ?_
 refine g_val ((!(r24 != r17))&&(r24 != 0)) (gy_gt rfl rfl) (fun hg=>x_ld (p:=Pq b_15) (v:=.agg #[I r003,I r013]) rfl (ldb_ag (ds:=[I r003,I r013]) Ag51 Sz51 (H.bl 1) rfl rfl)) ?_
 refine g_val ((!(r24 != r17))&&(r24 != 0)) (gy_gt rfl rfl) (fun hg=>x_bld (ps:=[]) (zs:=[I 0,I 0]) (L':=[I 0,I 0]) rfl Tryz.underlying51 Al51 rfl (Bd51 Tryz.underlying51) (.nil)) ?_
 refine g_val ((!(r24 != r17))&&(r24 != 0)) (gy_gt rfl rfl) (fun hg=>x_neS (eqT51 (⟨(r003:Int),(r013:Int)⟩:Rto) (⟨(0:Int),(0:Int)⟩:Rto) _) gdT51 (gd_of (c:=((!(r24 != r17))&&(r24 != 0))) hg (.agg #[I r003,I r013])) (gd_of (c:=((!(r24 != r17))&&(r24 != 0))) hg (.agg #[I 0,I 0]))) ?_
 refine g_val ((!(r24 != r17))&&(r24 != 0)) (gy_gt rfl rfl) (fun hg=>x_mv (v:=B (!(decide ((⟨(r003:Int),(r013:Int)⟩:Rto)=(⟨(0:Int),(0:Int)⟩:Rto))))) (gd_of (c:=((!(r24 != r17))&&(r24 != 0))) hg (B (!(decide ((⟨(r003:Int),(r013:Int)⟩:Rto)=(⟨(0:Int),(0:Int)⟩:Rto))))))) ?_
 refine g_val (((!(r24 != r17))&&(r24 != 0))&&!(!(decide ((⟨(r003:Int),(r013:Int)⟩:Rto)=(⟨(0:Int),(0:Int)⟩:Rto))))) (gy_gf rfl rfl) (fun hg=>x_ld (p:=Pq b_16) (v:=.agg #[I r10,I r11]) rfl (ldb_ag (ds:=[I r10,I r11]) Ag51 Sz51 (H.bl 0) rfl rfl)) ?_
 refine g_val (((!(r24 != r17))&&(r24 != 0))&&!(!(decide ((⟨(r003:Int),(r013:Int)⟩:Rto)=(⟨(0:Int),(0:Int)⟩:Rto))))) (gy_gf rfl rfl) (fun hg=>x_bld (ps:=[]) (zs:=[I 0,I 0]) (L':=[I 0,I 0]) rfl Tryz.underlying51 Al51 rfl (Bd51 Tryz.underlying51) (.nil)) ?_
 refine g_val (((!(r24 != r17))&&(r24 != 0))&&!(!(decide ((⟨(r003:Int),(r013:Int)⟩:Rto)=(⟨(0:Int),(0:Int)⟩:Rto))))) (gy_gf rfl rfl) (fun hg=>x_neS (eqT51 (⟨(r10:Int),(r11:Int)⟩:Rto) (⟨(0:Int),(0:Int)⟩:Rto) _) gdT51 (gd_of (c:=(((!(r24 != r17))&&(r24 != 0))&&!(!(decide ((⟨(r003:Int),(r013:Int)⟩:Rto)=(⟨(0:Int),(0:Int)⟩:Rto)))))) hg (.agg #[I r10,I r11])) (gd_of (c:=(((!(r24 != r17))&&(r24 != 0))&&!(!(decide ((⟨(r003:Int),(r013:Int)⟩:Rto)=(⟨(0:Int),(0:Int)⟩:Rto)))))) hg (.agg #[I 0,I 0]))) ?_
 refine g_val ((!(r24 != r17))&&(r24 != 0)) (gy_gt rfl rfl) (fun hg=>x_por (b:=!(decide ((⟨(r003:Int),(r013:Int)⟩:Rto)=(⟨(0:Int),(0:Int)⟩:Rto)))) (r:=!(decide ((⟨(r10:Int),(r11:Int)⟩:Rto)=(⟨(0:Int),(0:Int)⟩:Rto)))) (gd_of (c:=((!(r24 != r17))&&(r24 != 0))) hg (B (!(decide ((⟨(r003:Int),(r013:Int)⟩:Rto)=(⟨(0:Int),(0:Int)⟩:Rto)))))) rfl (fun hb=>gd_of (c:=(((!(r24 != r17))&&(r24 != 0))&&!(!(decide ((⟨(r003:Int),(r013:Int)⟩:Rto)=(⟨(0:Int),(0:Int)⟩:Rto)))))) (by first | exact hb | (rw [hb]; rfl) | (rw [hg,hb]; rfl) | simp_all) (B (!(decide ((⟨(r10:Int),(r11:Int)⟩:Rto)=(⟨(0:Int),(0:Int)⟩:Rto))))))) ?_
 refine g_val (!(r24 != r17)) (gy_f rfl) (fun hg=>x_pand (b:=r24 != 0) (r:=((!(decide ((⟨(r003:Int),(r013:Int)⟩:Rto)=(⟨(0:Int),(0:Int)⟩:Rto))))||(!(decide ((⟨(r10:Int),(r11:Int)⟩:Rto)=(⟨(0:Int),(0:Int)⟩:Rto)))))) (gd_of (c:=!(r24 != r17)) hg (B (r24 != 0))) (fun hb=>gd_of (c:=((!(r24 != r17))&&(r24 != 0))) (by first | exact hb | (rw [hb]; rfl) | (rw [hg,hb]; rfl) | simp_all) (B ((!(decide ((⟨(r003:Int),(r013:Int)⟩:Rto)=(⟨(0:Int),(0:Int)⟩:Rto))))||(!(decide ((⟨(r10:Int),(r11:Int)⟩:Rto)=(⟨(0:Int),(0:Int)⟩:Rto))))))) rfl) ?_
 refine s_val (x_por (b:=r24 != r17) (r:=((r24 != 0)&&((!(decide ((⟨(r003:Int),(r013:Int)⟩:Rto)=(⟨(0:Int),(0:Int)⟩:Rto))))||(!(decide ((⟨(r10:Int),(r11:Int)⟩:Rto)=(⟨(0:Int),(0:Int)⟩:Rto))))))) rfl rfl (fun hb=>gd_of (c:=!(r24 != r17)) (by first | exact hb | (rw [hb]; rfl) | (rw [hg,hb]; rfl) | simp_all) (B ((r24 != 0)&&((!(decide ((⟨(r003:Int),(r013:Int)⟩:Rto)=(⟨(0:Int),(0:Int)⟩:Rto))))||(!(decide ((⟨(r10:Int),(r11:Int)⟩:Rto)=(⟨(0:Int),(0:Int)⟩:Rto))))))))) ?_
 refine zM (B ((r24 != r17)||((r24 != 0)&&((!(decide ((⟨(r003:Int),(r013:Int)⟩:Rto)=(⟨(0:Int),(0:Int)⟩:Rto))))||(!(decide ((⟨(r10:Int),(r11:Int)⟩:Rto)=(⟨(0:Int),(0:Int)⟩:Rto)))))))) rfl ?_
 refine g_val (!((r24 != r17)||((r24 != 0)&&((!(decide ((⟨(r003:Int),(r013:Int)⟩:Rto)=(⟨(0:Int),(0:Int)⟩:Rto))))||(!(decide ((⟨(r10:Int),(r11:Int)⟩:Rto)=(⟨(0:Int),(0:Int)⟩:Rto)))))))) (gy_f rfl) (fun hg=>x_mv (v:=I r24) rfl) ?_
 refine g_val (!((r24 != r17)||((r24 != 0)&&((!(decide ((⟨(r003:Int),(r013:Int)⟩:Rto)=(⟨(0:Int),(0:Int)⟩:Rto))))||(!(decide ((⟨(r10:Int),(r11:Int)⟩:Rto)=(⟨(0:Int),(0:Int)⟩:Rto)))))))) (gy_f rfl) (fun hg=>x_cmp (kd:=.i64) (a:=r24) (b:=0) (r:=r24==0) (gd_of (c:=!((r24 != r17)||((r24 != 0)&&((!(decide ((⟨(r003:Int),(r013:Int)⟩:Rto)=(⟨(0:Int),(0:Int)⟩:Rto))))||(!(decide ((⟨(r10:Int),(r11:Int)⟩:Rto)=(⟨(0:Int),(0:Int)⟩:Rto)))))))) hg (I r24)) rfl rfl) ?_
 refine g_val (!((r24 != r17)||((r24 != 0)&&((!(decide ((⟨(r003:Int),(r013:Int)⟩:Rto)=(⟨(0:Int),(0:Int)⟩:Rto))))||(!(decide ((⟨(r10:Int),(r11:Int)⟩:Rto)=(⟨(0:Int),(0:Int)⟩:Rto)))))))) (gy_f rfl) (fun hg=>x_mv (v:=B (r24==0)) (gd_of (c:=!((r24 != r17)||((r24 != 0)&&((!(decide ((⟨(r003:Int),(r013:Int)⟩:Rto)=(⟨(0:Int),(0:Int)⟩:Rto))))||(!(decide ((⟨(r10:Int),(r11:Int)⟩:Rto)=(⟨(0:Int),(0:Int)⟩:Rto)))))))) hg (B (r24==0)))) ?_
 refine g_val ((!((r24 != r17)||((r24 != 0)&&((!(decide ((⟨(r003:Int),(r013:Int)⟩:Rto)=(⟨(0:Int),(0:Int)⟩:Rto))))||(!(decide ((⟨(r10:Int),(r11:Int)⟩:Rto)=(⟨(0:Int),(0:Int)⟩:Rto))))))))&&(r24==0)) (gy_gt rfl rfl) (fun hg=>x_ld (p:=Pq b_11) (v:=.agg #[u0_6,u1_7,I r23,I r33]) rfl (ldb_ag (ds:=[u0_6,u1_7,I r23,I r33]) Ag77 Sz77 (H.bl 5) rfl rfl)) ?_
 refine g_val ((!((r24 != r17)||((r24 != 0)&&((!(decide ((⟨(r003:Int),(r013:Int)⟩:Rto)=(⟨(0:Int),(0:Int)⟩:Rto))))||(!(decide ((⟨(r10:Int),(r11:Int)⟩:Rto)=(⟨(0:Int),(0:Int)⟩:Rto))))))))&&(r24==0)) (gy_gt rfl rfl) (fun hg=>x_ld (p:=Pq b_15) (v:=.agg #[I r003,I r013]) rfl (ldb_ag (ds:=[I r003,I r013]) Ag51 Sz51 (H.bl 1) rfl rfl)) ?_
 refine g_val ((!((r24 != r17)||((r24 != 0)&&((!(decide ((⟨(r003:Int),(r013:Int)⟩:Rto)=(⟨(0:Int),(0:Int)⟩:Rto))))||(!(decide ((⟨(r10:Int),(r11:Int)⟩:Rto)=(⟨(0:Int),(0:Int)⟩:Rto))))))))&&(r24==0)) (gy_gt rfl rfl) (fun hg=>x_fa (a:=Pq b_13) (v:=Pq b_13) rfl (fa_blk (o:=0) Fd34_0 Sz3)) ?_
 refine g_val ((!((r24 != r17)||((r24 != 0)&&((!(decide ((⟨(r003:Int),(r013:Int)⟩:Rto)=(⟨(0:Int),(0:Int)⟩:Rto))))||(!(decide ((⟨(r10:Int),(r11:Int)⟩:Rto)=(⟨(0:Int),(0:Int)⟩:Rto))))))))&&(r24==0)) (gy_gt rfl rfl) (fun hg=>x_ld (p:=Pq b_13) (v:=I r004) (gd_of (c:=((!((r24 != r17)||((r24 != 0)&&((!(decide ((⟨(r003:Int),(r013:Int)⟩:Rto)=(⟨(0:Int),(0:Int)⟩:Rto))))||(!(decide ((⟨(r10:Int),(r11:Int)⟩:Rto)=(⟨(0:Int),(0:Int)⟩:Rto))))))))&&(r24==0))) hg (Pq b_13)) (ldb_sc Sc3 (H.bl 3) rfl)) ?_
 obtain ⟨r4,hx343z,hM⟩:=M.e_bind hM
 refine t_gcall ((!((r24 != r17)||((r24 != 0)&&((!(decide ((⟨(r003:Int),(r013:Int)⟩:Rto)=(⟨(0:Int),(0:Int)⟩:Rto))))||(!(decide ((⟨(r10:Int),(r11:Int)⟩:Rto)=(⟨(0:Int),(0:Int)⟩:Rto))))))))&&(r24==0)) (gy_gt rfl rfl) cf41 (B r4) (fun _=>[.agg #[u0_6,u1_7,I r23,I r33],.agg #[I r003,I r013],I r004]) (fun hg=>lst3 (gd_of (c:=((!((r24 != r17)||((r24 != 0)&&((!(decide ((⟨(r003:Int),(r013:Int)⟩:Rto)=(⟨(0:Int),(0:Int)⟩:Rto))))||(!(decide ((⟨(r10:Int),(r11:Int)⟩:Rto)=(⟨(0:Int),(0:Int)⟩:Rto))))))))&&(r24==0))) hg (.agg #[u0_6,u1_7,I r23,I r33])) (gd_of (c:=((!((r24 != r17)||((r24 != 0)&&((!(decide ((⟨(r003:Int),(r013:Int)⟩:Rto)=(⟨(0:Int),(0:Int)⟩:Rto))))||(!(decide ((⟨(r10:Int),(r11:Int)⟩:Rto)=(⟨(0:Int),(0:Int)⟩:Rto))))))))&&(r24==0))) hg (.agg #[I r003,I r013])) (gd_of (c:=((!((r24 != r17)||((r24 != 0)&&((!(decide ((⟨(r003:Int),(r013:Int)⟩:Rto)=(⟨(0:Int),(0:Int)⟩:Rto))))||(!(decide ((⟨(r10:Int),(r11:Int)⟩:Rto)=(⟨(0:Int),(0:Int)⟩:Rto))))))))&&(r24==0))) hg (I r004))) H (fun hg=>(zdM r02 r12 r23 r33 (⟨(r003:Int),(r013:Int)⟩:Rto) r004 (rdo 7) (H.os 7) (Reads.sup (rdo 8) (Reads.sup (hC_b_Olds.app _) (Reads.of (k:=9) rfl roLe))) (rowSl rfl (H.get (k:=8) rfl) (Cells.sup_le (hC_b_Olds.at H) (roLe _ (H.get (k:=9) rfl))) hrj279z) (M.e_opt hx343z hg) _ (H.give (A:=[]) rfl)).mono fun v_ w_ ⟨y_,hr_,hv_,H_⟩=>by subst hr_; exact ⟨hv_,H.via H_⟩) ?_
 intro w344z H
 refine g_val ((!((r24 != r17)||((r24 != 0)&&((!(decide ((⟨(r003:Int),(r013:Int)⟩:Rto)=(⟨(0:Int),(0:Int)⟩:Rto))))||(!(decide ((⟨(r10:Int),(r11:Int)⟩:Rto)=(⟨(0:Int),(0:Int)⟩:Rto))))))))&&(r24==0)) (gy_gt rfl rfl) (fun hg=>x_not (b:=r4) (gd_of (c:=((!((r24 != r17)||((r24 != 0)&&((!(decide ((⟨(r003:Int),(r013:Int)⟩:Rto)=(⟨(0:Int),(0:Int)⟩:Rto))))||(!(decide ((⟨(r10:Int),(r11:Int)⟩:Rto)=(⟨(0:Int),(0:Int)⟩:Rto))))))))&&(r24==0))) hg (B r4))) ?_
 refine g_val ((!((r24 != r17)||((r24 != 0)&&((!(decide ((⟨(r003:Int),(r013:Int)⟩:Rto)=(⟨(0:Int),(0:Int)⟩:Rto))))||(!(decide ((⟨(r10:Int),(r11:Int)⟩:Rto)=(⟨(0:Int),(0:Int)⟩:Rto))))))))&&(r24==0)) (gy_gt rfl rfl) (fun hg=>x_mv (v:=B (!r4)) (gd_of (c:=((!((r24 != r17)||((r24 != 0)&&((!(decide ((⟨(r003:Int),(r013:Int)⟩:Rto)=(⟨(0:Int),(0:Int)⟩:Rto))))||(!(decide ((⟨(r10:Int),(r11:Int)⟩:Rto)=(⟨(0:Int),(0:Int)⟩:Rto))))))))&&(r24==0))) hg (B (!r4)))) ?_
 refine g_val (((!((r24 != r17)||((r24 != 0)&&((!(decide ((⟨(r003:Int),(r013:Int)⟩:Rto)=(⟨(0:Int),(0:Int)⟩:Rto))))||(!(decide ((⟨(r10:Int),(r11:Int)⟩:Rto)=(⟨(0:Int),(0:Int)⟩:Rto))))))))&&(r24==0))&&!(!r4)) (gy_gf rfl rfl) (fun hg=>x_ld (p:=Pq b_11) (v:=.agg #[u0_6,u1_7,I r23,I r33]) rfl (ldb_ag (ds:=[u0_6,u1_7,I r23,I r33]) Ag77 Sz77 (H.bl 5) rfl rfl)) ?_
 refine g_val (((!((r24 != r17)||((r24 != 0)&&((!(decide ((⟨(r003:Int),(r013:Int)⟩:Rto)=(⟨(0:Int),(0:Int)⟩:Rto))))||(!(decide ((⟨(r10:Int),(r11:Int)⟩:Rto)=(⟨(0:Int),(0:Int)⟩:Rto))))))))&&(r24==0))&&!(!r4)) (gy_gf rfl rfl) (fun hg=>x_ld (p:=Pq b_16) (v:=.agg #[I r10,I r11]) rfl (ldb_ag (ds:=[I r10,I r11]) Ag51 Sz51 (H.bl 0) rfl rfl)) ?_
 refine g_val (((!((r24 != r17)||((r24 != 0)&&((!(decide ((⟨(r003:Int),(r013:Int)⟩:Rto)=(⟨(0:Int),(0:Int)⟩:Rto))))||(!(decide ((⟨(r10:Int),(r11:Int)⟩:Rto)=(⟨(0:Int),(0:Int)⟩:Rto))))))))&&(r24==0))&&!(!r4)) (gy_gf rfl rfl) (fun hg=>x_fa (a:=Pq b_13) (v:=Oq b_13 1) rfl (fa_blk (o:=0) Fd34_1 Sz3)) ?_
 refine g_val (((!((r24 != r17)||((r24 != 0)&&((!(decide ((⟨(r003:Int),(r013:Int)⟩:Rto)=(⟨(0:Int),(0:Int)⟩:Rto))))||(!(decide ((⟨(r10:Int),(r11:Int)⟩:Rto)=(⟨(0:Int),(0:Int)⟩:Rto))))))))&&(r24==0))&&!(!r4)) (gy_gf rfl rfl) (fun hg=>x_ld (p:=Oq b_13 1) (v:=I r014) (gd_of (c:=(((!((r24 != r17)||((r24 != 0)&&((!(decide ((⟨(r003:Int),(r013:Int)⟩:Rto)=(⟨(0:Int),(0:Int)⟩:Rto))))||(!(decide ((⟨(r10:Int),(r11:Int)⟩:Rto)=(⟨(0:Int),(0:Int)⟩:Rto))))))))&&(r24==0))&&!(!r4))) hg (Oq b_13 1)) (ldb_sc Sc3 (H.bl 3) rfl)) ?_
 obtain ⟨r5,hx345z,hM⟩:=M.e_bind hM
 refine t_gcall (((!((r24 != r17)||((r24 != 0)&&((!(decide ((⟨(r003:Int),(r013:Int)⟩:Rto)=(⟨(0:Int),(0:Int)⟩:Rto))))||(!(decide ((⟨(r10:Int),(r11:Int)⟩:Rto)=(⟨(0:Int),(0:Int)⟩:Rto))))))))&&(r24==0))&&!(!r4)) (gy_gf rfl rfl) cf41 (B r5) (fun _=>[.agg #[u0_6,u1_7,I r23,I r33],.agg #[I r10,I r11],I r014]) (fun hg=>lst3 (gd_of (c:=(((!((r24 != r17)||((r24 != 0)&&((!(decide ((⟨(r003:Int),(r013:Int)⟩:Rto)=(⟨(0:Int),(0:Int)⟩:Rto))))||(!(decide ((⟨(r10:Int),(r11:Int)⟩:Rto)=(⟨(0:Int),(0:Int)⟩:Rto))))))))&&(r24==0))&&!(!r4))) hg (.agg #[u0_6,u1_7,I r23,I r33])) (gd_of (c:=(((!((r24 != r17)||((r24 != 0)&&((!(decide ((⟨(r003:Int),(r013:Int)⟩:Rto)=(⟨(0:Int),(0:Int)⟩:Rto))))||(!(decide ((⟨(r10:Int),(r11:Int)⟩:Rto)=(⟨(0:Int),(0:Int)⟩:Rto))))))))&&(r24==0))&&!(!r4))) hg (.agg #[I r10,I r11])) (gd_of (c:=(((!((r24 != r17)||((r24 != 0)&&((!(decide ((⟨(r003:Int),(r013:Int)⟩:Rto)=(⟨(0:Int),(0:Int)⟩:Rto))))||(!(decide ((⟨(r10:Int),(r11:Int)⟩:Rto)=(⟨(0:Int),(0:Int)⟩:Rto))))))))&&(r24==0))&&!(!r4))) hg (I r014))) H (fun hg=>(zdM r02 r12 r23 r33 (⟨(r10:Int),(r11:Int)⟩:Rto) r014 (rdo 7) (H.os 7) (Reads.sup (rdo 8) (Reads.sup (hC_b_Olds.app _) (Reads.of (k:=9) rfl roLe))) (rowSl rfl (H.get (k:=8) rfl) (Cells.sup_le (hC_b_Olds.at H) (roLe _ (H.get (k:=9) rfl))) hrj279z) (M.e_opt hx345z hg) _ (H.give (A:=[]) rfl)).mono fun v_ w_ ⟨y_,hr_,hv_,H_⟩=>by subst hr_; exact ⟨hv_,H.via H_⟩) ?_
 intro w346z H
 refine g_val (((!((r24 != r17)||((r24 != 0)&&((!(decide ((⟨(r003:Int),(r013:Int)⟩:Rto)=(⟨(0:Int),(0:Int)⟩:Rto))))||(!(decide ((⟨(r10:Int),(r11:Int)⟩:Rto)=(⟨(0:Int),(0:Int)⟩:Rto))))))))&&(r24==0))&&!(!r4)) (gy_gf rfl rfl) (fun hg=>x_not (b:=r5) (gd_of (c:=(((!((r24 != r17)||((r24 != 0)&&((!(decide ((⟨(r003:Int),(r013:Int)⟩:Rto)=(⟨(0:Int),(0:Int)⟩:Rto))))||(!(decide ((⟨(r10:Int),(r11:Int)⟩:Rto)=(⟨(0:Int),(0:Int)⟩:Rto))))))))&&(r24==0))&&!(!r4))) hg (B r5))) ?_
 refine g_val ((!((r24 != r17)||((r24 != 0)&&((!(decide ((⟨(r003:Int),(r013:Int)⟩:Rto)=(⟨(0:Int),(0:Int)⟩:Rto))))||(!(decide ((⟨(r10:Int),(r11:Int)⟩:Rto)=(⟨(0:Int),(0:Int)⟩:Rto))))))))&&(r24==0)) (gy_gt rfl rfl) (fun hg=>x_por (b:=!r4) (r:=!r5) (gd_of (c:=((!((r24 != r17)||((r24 != 0)&&((!(decide ((⟨(r003:Int),(r013:Int)⟩:Rto)=(⟨(0:Int),(0:Int)⟩:Rto))))||(!(decide ((⟨(r10:Int),(r11:Int)⟩:Rto)=(⟨(0:Int),(0:Int)⟩:Rto))))))))&&(r24==0))) hg (B (!r4))) rfl (fun hb=>gd_of (c:=(((!((r24 != r17)||((r24 != 0)&&((!(decide ((⟨(r003:Int),(r013:Int)⟩:Rto)=(⟨(0:Int),(0:Int)⟩:Rto))))||(!(decide ((⟨(r10:Int),(r11:Int)⟩:Rto)=(⟨(0:Int),(0:Int)⟩:Rto))))))))&&(r24==0))&&!(!r4))) (by first | exact hb | (rw [hb]; rfl) | (rw [hg,hb]; rfl) | simp_all) (B (!r5)))) ?_
 refine g_val (!((r24 != r17)||((r24 != 0)&&((!(decide ((⟨(r003:Int),(r013:Int)⟩:Rto)=(⟨(0:Int),(0:Int)⟩:Rto))))||(!(decide ((⟨(r10:Int),(r11:Int)⟩:Rto)=(⟨(0:Int),(0:Int)⟩:Rto)))))))) (gy_f rfl) (fun hg=>x_pand (b:=r24==0) (r:=((!r4)||(!r5))) (gd_of (c:=!((r24 != r17)||((r24 != 0)&&((!(decide ((⟨(r003:Int),(r013:Int)⟩:Rto)=(⟨(0:Int),(0:Int)⟩:Rto))))||(!(decide ((⟨(r10:Int),(r11:Int)⟩:Rto)=(⟨(0:Int),(0:Int)⟩:Rto)))))))) hg (B (r24==0))) (fun hb=>gd_of (c:=((!((r24 != r17)||((r24 != 0)&&((!(decide ((⟨(r003:Int),(r013:Int)⟩:Rto)=(⟨(0:Int),(0:Int)⟩:Rto))))||(!(decide ((⟨(r10:Int),(r11:Int)⟩:Rto)=(⟨(0:Int),(0:Int)⟩:Rto))))))))&&(r24==0))) (by first | exact hb | (rw [hb]; rfl) | (rw [hg,hb]; rfl) | simp_all) (B ((!r4)||(!r5)))) rfl) ?_
 refine s_val (x_por (b:=((r24 != r17)||((r24 != 0)&&((!(decide ((⟨(r003:Int),(r013:Int)⟩:Rto)=(⟨(0:Int),(0:Int)⟩:Rto))))||(!(decide ((⟨(r10:Int),(r11:Int)⟩:Rto)=(⟨(0:Int),(0:Int)⟩:Rto)))))))) (r:=((r24==0)&&((!r4)||(!r5)))) rfl rfl (fun hb=>gd_of (c:=!((r24 != r17)||((r24 != 0)&&((!(decide ((⟨(r003:Int),(r013:Int)⟩:Rto)=(⟨(0:Int),(0:Int)⟩:Rto))))||(!(decide ((⟨(r10:Int),(r11:Int)⟩:Rto)=(⟨(0:Int),(0:Int)⟩:Rto)))))))) (by first | exact hb | (rw [hb]; rfl) | (rw [hg,hb]; rfl) | simp_all) (B ((r24==0)&&((!r4)||(!r5)))))) ?_
 refine s_nil ?_
 refine W.cond (((r24 != r17)||((r24 != 0)&&((!(decide ((⟨(r003:Int),(r013:Int)⟩:Rto)=(⟨(0:Int),(0:Int)⟩:Rto))))||(!(decide ((⟨(r10:Int),(r11:Int)⟩:Rto)=(⟨(0:Int),(0:Int)⟩:Rto)))))))||((r24==0)&&((!r4)||(!r5)))) rfl (fun c347z=>?_) (fun c347z=>?_)
 ·replace hM:=M.e_t hM c347z
  refine W.seq ?_
  refine W.region rfl ?_
  refine zA (B false) rfl ?_
  refine s_nil ?_
  refine W.ret ?_
  have hr_:=M.e_pure hM
  exact ⟨_,resE_tmp rfl,⟨false,hr_,rfl,(H.pk [])⟩⟩
 replace hM:=M.e_f hM c347z
 refine W.skip ?_
 refine W.seq ?_
 refine W.region rfl ?_
 refine s_val (x_ld (p:=Pq b_10) (v:=.agg #[u0_2,u1_3,I r22,I r32]) rfl (ldb_ag (ds:=[u0_2,u1_3,I r22,I r32]) Ag28 Sz28 (H.bl 6) rfl rfl)) ?_
 refine zM (I from_) rfl ?_
 refine zM (I to_) rfl ?_
 refine zM (I times) rfl ?_
 obtain ⟨r349z,hx348z,hM⟩:=M.e_bind hM
 refine s_call cf14 [.agg #[u0_2,u1_3,I r22,I r32],I from_,I to_,I times] rfl (zdp r0 r1 r22 r32 from_ to_ times (rdo 10) (H.os 10) (Reads.sup (rdo 11) (Reads.of (k:=12) rfl roLe)) (rowSl rfl (H.get (k:=11) rfl) (roLe _ (H.get (k:=12) rfl)) hrj280z) hx348z _ (H.gt 14)) ?_
 rintro vq w350z ⟨r005,r015,r18,hr351z,hvq,H2_⟩
 subst hr351z
 subst vq
 try dsimp only at hM
 replace H:=H.bk H2_
 clear H2_
 refine zM (.tuple #[.agg #[I r005,I r015],I r18]) rfl ?_
 refine zX [.agg #[I r005,I r015],I r18] (.agg #[I r005,I r015]) rfl rfl ?_
 refine zX [.agg #[I r005,I r015],I r18] (I r18) rfl rfl ?_
 refine t_sw 4 0 [I r005,I r015] (.agg #[I r005,I r015]) H rfl rfl Sz34 rfl rfl rfl rfl ?_
 intro w352z H
 refine zA (I r18) rfl ?_
 refine s_nil ?_
 refine W.seq ?_
 refine W.region rfl ?_
 refine s_val (x_ld (p:=Pq b_11) (v:=.agg #[u0_6,u1_7,I r23,I r33]) rfl (ldb_ag (ds:=[u0_6,u1_7,I r23,I r33]) Ag77 Sz77 (H.bl 5) rfl rfl)) ?_
 refine zM (I from_) rfl ?_
 refine zM (I to_) rfl ?_
 refine zM (I times) rfl ?_
 obtain ⟨r354z,hx353z,hM⟩:=M.e_bind hM
 refine s_call cf42 [.agg #[u0_6,u1_7,I r23,I r33],I from_,I to_,I times] rfl (zea r02 r12 r23 r33 from_ to_ times (rdo 7) (H.os 7) (Reads.sup (rdo 8) (Reads.sup (hC_b_Olds.app _) (Reads.of (k:=9) rfl roLe))) (rowSl rfl (H.get (k:=8) rfl) (Cells.sup_le (hC_b_Olds.at H) (roLe _ (H.get (k:=9) rfl))) hrj279z) hx353z _ (H.gt 14)) ?_
 rintro vq w355z ⟨r006,r016,r19,hr356z,hvq,H2_⟩
 subst hr356z
 subst vq
 try dsimp only at hM
 replace H:=H.bk H2_
 clear H2_
 refine zM (.tuple #[.agg #[I r006,I r016],I r19]) rfl ?_
 refine zX [.agg #[I r006,I r016],I r19] (.agg #[I r006,I r016]) rfl rfl ?_
 refine zX [.agg #[I r006,I r016],I r19] (I r19) rfl rfl ?_
 refine t_sw 3 0 [I r006,I r016] (.agg #[I r006,I r016]) H rfl rfl Sz34 rfl rfl rfl rfl ?_
 intro w357z H
 refine zA (I r19) rfl ?_
 refine s_nil ?_
 refine W.seq ?_
 refine W.region rfl ?_
 refine zM (I r18) rfl ?_
 refine zM (I r19) rfl ?_
 refine zC r18 r19 (r18==r19) rfl rfl rfl ?_
 refine zM (B (r18==r19)) rfl ?_
 refine g_val (r18==r19) (gy_t rfl) (fun hg=>x_ld (p:=Pq b_12) (v:=.agg #[I r005,I r015]) rfl (ldb_ag (ds:=[I r005,I r015]) Ag34 Sz34 (H.bl 4) rfl rfl)) ?_
 refine g_val (r18==r19) (gy_t rfl) (fun hg=>x_ld (p:=Pq b_13) (v:=.agg #[I r006,I r016]) rfl (ldb_ag (ds:=[I r006,I r016]) Ag34 Sz34 (H.bl 3) rfl rfl)) ?_
 refine g_val (r18==r19) (gy_t rfl) (fun hg=>x_eqS (eqT34 (⟨(r005:Int),(r015:Int)⟩:Span) (⟨(r006:Int),(r016:Int)⟩:Span) _) gdT34 (gd_of (c:=r18==r19) hg (.agg #[I r005,I r015])) (gd_of (c:=r18==r19) hg (.agg #[I r006,I r016]))) ?_
 refine s_val (x_pand (b:=r18==r19) (r:=decide ((⟨(r005:Int),(r015:Int)⟩:Span)=(⟨(r006:Int),(r016:Int)⟩:Span))) rfl (fun hb=>gd_of (c:=r18==r19) (by first | exact hb | (rw [hb]; rfl) | (rw [hg,hb]; rfl) | simp_all) (B (decide ((⟨(r005:Int),(r015:Int)⟩:Span)=(⟨(r006:Int),(r016:Int)⟩:Span))))) rfl) ?_
 refine zM (B ((r18==r19)&&(decide ((⟨(r005:Int),(r015:Int)⟩:Span)=(⟨(r006:Int),(r016:Int)⟩:Span))))) rfl ?_
 refine g_val ((r18==r19)&&(decide ((⟨(r005:Int),(r015:Int)⟩:Span)=(⟨(r006:Int),(r016:Int)⟩:Span)))) (gy_t rfl) (fun hg=>x_ld (p:=Pq b_10) (v:=.agg #[u0_2,u1_3,I r22,I r32]) rfl (ldb_ag (ds:=[u0_2,u1_3,I r22,I r32]) Ag28 Sz28 (H.bl 6) rfl rfl)) ?_
 refine g_val ((r18==r19)&&(decide ((⟨(r005:Int),(r015:Int)⟩:Span)=(⟨(r006:Int),(r016:Int)⟩:Span)))) (gy_t rfl) (fun hg=>x_ld (p:=Pq b_1) (v:=.agg #[v_b_Years,v_b_Olds,I b_First,I b_Last]) rfl (ldb_ag (ds:=[v_b_Years,v_b_Olds,I b_First,I b_Last]) Ag28 Sz28 (H.bl 13) rfl rfl)) ?_
 obtain ⟨r6,hx358z,hM⟩:=M.e_bind hM
 refine t_gcall ((r18==r19)&&(decide ((⟨(r005:Int),(r015:Int)⟩:Span)=(⟨(r006:Int),(r016:Int)⟩:Span)))) (gy_t rfl) cf39 (B r6) (fun _=>[.agg #[u0_2,u1_3,I r22,I r32],.agg #[v_b_Years,v_b_Olds,I b_First,I b_Last]]) (fun hg=>lst2 (gd_of (c:=((r18==r19)&&(decide ((⟨(r005:Int),(r015:Int)⟩:Span)=(⟨(r006:Int),(r016:Int)⟩:Span))))) hg (.agg #[u0_2,u1_3,I r22,I r32])) (gd_of (c:=((r18==r19)&&(decide ((⟨(r005:Int),(r015:Int)⟩:Span)=(⟨(r006:Int),(r016:Int)⟩:Span))))) hg (.agg #[v_b_Years,v_b_Olds,I b_First,I b_Last]))) H (fun hg=>(zdG r0 r1 r22 r32 b_Years b_Olds b_First b_Last (rdo 10) (H.os 10) (Reads.sup (rdo 11) (Reads.of (k:=12) rfl roLe)) (rowSl rfl (H.get (k:=11) rfl) (roLe _ (H.get (k:=12) rfl)) hrj280z) (hC_b_Years.app _) hs_b_Years (hC_b_Olds.app _) hs_b_Olds (M.e_opt hx358z hg) _ (H.give (A:=[]) rfl)).mono fun v_ w_ ⟨y_,hr_,hv_,H_⟩=>by subst hr_; exact ⟨hv_,H.via H_⟩) ?_
 intro w359z H
 refine s_val (x_pand (b:=((r18==r19)&&(decide ((⟨(r005:Int),(r015:Int)⟩:Span)=(⟨(r006:Int),(r016:Int)⟩:Span))))) (r:=r6) rfl (fun hb=>gd_of (c:=((r18==r19)&&(decide ((⟨(r005:Int),(r015:Int)⟩:Span)=(⟨(r006:Int),(r016:Int)⟩:Span))))) (by first | exact hb | (rw [hb]; rfl) | (rw [hg,hb]; rfl) | simp_all) (B r6)) rfl) ?_
 refine zM (B (((r18==r19)&&(decide ((⟨(r005:Int),(r015:Int)⟩:Span)=(⟨(r006:Int),(r016:Int)⟩:Span))))&&r6)) rfl ?_
 obtain ⟨r7,hx360z,hM⟩:=M.e_bind hM
 refine t_gcall (((r18==r19)&&(decide ((⟨(r005:Int),(r015:Int)⟩:Span)=(⟨(r006:Int),(r016:Int)⟩:Span))))&&r6) (gy_t rfl) cf15 (B r7) (fun _=>[]) (fun _=>rfl) H (fun hg=>(zar (M.e_opt hx360z hg) _ (H.give (A:=[]) rfl)).mono fun v_ w_ ⟨y_,hr_,hv_,H_⟩=>by subst hr_; exact ⟨hv_,H.via H_⟩) ?_
 intro w361z H
 refine s_val (x_pand (b:=(((r18==r19)&&(decide ((⟨(r005:Int),(r015:Int)⟩:Span)=(⟨(r006:Int),(r016:Int)⟩:Span))))&&r6)) (r:=r7) rfl (fun hb=>gd_of (c:=(((r18==r19)&&(decide ((⟨(r005:Int),(r015:Int)⟩:Span)=(⟨(r006:Int),(r016:Int)⟩:Span))))&&r6)) (by first | exact hb | (rw [hb]; rfl) | (rw [hg,hb]; rfl) | simp_all) (B r7)) rfl) ?_
 refine zA (B ((((r18==r19)&&(decide ((⟨(r005:Int),(r015:Int)⟩:Span)=(⟨(r006:Int),(r016:Int)⟩:Span))))&&r6)&&r7)) rfl ?_
 refine s_nil ?_
 refine W.ret ?_
 have hr_:=M.e_pure hM
 exact ⟨_,resE_tmp rfl,⟨((((r18==r19)&&(decide ((⟨(r005:Int),(r015:Int)⟩:Span)=(⟨(r006:Int),(r016:Int)⟩:Span))))&&r6)&&r7),hr_,rfl,(H.pk [])⟩⟩

end Go.Proofs.YtejefipopolccaaGreat
end
