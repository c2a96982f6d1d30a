/- Part 3 of the texts on which the proof rests. Conditions: none. -/
import Derived.Test.YtejefipopolccaaGreatZA2
set_option linter.unusedVariables false
set_option linter.unusedSimpArgs false
set_option linter.unusedSectionVars false
section
set_option maxRecDepth 100000
set_option maxHeartbeats 16000000
namespace Go.Proofs.YtejefipopolccaaGreat
open Go Go.Nm
attribute [local irreducible] gd execOp SL SLD SLT WR
def zaH (stage:Int):(Int × Int)->(Int × Span)->M ((Int × Int) ⊕ Unit):=fun (s,s2) (x,x2) =>
  M.bind (zcE) fun (_:Unit) =>
  M.bind (zcQ x2) fun r2 =>
  M.bind (zcS stage r2) fun r3 =>
  bif r3 then (
  M.grd (decide ((-9223372036854775808:Int)<=(s+1))&&decide ((s+1)<=(9223372036854775807:Int))) <|
  M.bind (zcb) fun (_:Unit) =>
  M.bind (zbO x2) fun r4 =>
  M.bind (zcS stage r4) fun r5 =>
  bif r5 then (
  M.grd (decide ((-9223372036854775808:Int)<=(s2+1))&&decide ((s2+1)<=(9223372036854775807:Int))) <|
  M.pure (.inl (s+1,s2+1)))
  else (
  M.pure (.inl (s+1,s2))))
  else (
  M.bind (zcb) fun (_:Unit) =>
  M.bind (zbO x2) fun r4 =>
  M.bind (zcS stage r4) fun r5 =>
  bif r5 then (
  M.grd (decide ((-9223372036854775808:Int)<=(s2+1))&&decide ((s2+1)<=(9223372036854775807:Int))) <|
  M.pure (.inl (s,s2+1)))
  else (
  M.pure (.inl (s,s2))))
def zak (b_Years:List Yr) (b_Olds:List Old10) (b_First:Int) (b_Last:Int) (from_:Int) (to_:Int) (stage:Int):M (Int × Int × Int) :=
  M.bind (zaR b_Years b_Olds b_First b_Last from_ to_ stage 0 2000) fun x_=>match x_ with
  | (.inl r1)=>(
  bif r1 != 0 then (
  M.pure (0,0,r1))
  else (
  M.fail))
  | (.inr (r02,r03,r04,r12))=>(
  bif r12 != 0 then (
  M.fail)
  else (
  M.bind (zaf b_Years b_Olds r02 r03 r04 from_ to_) fun (r00,r10) =>
  M.bind (zaj (M.yl (zaH stage)) (.inl (0,0)) r00 r10 b_Years b_Olds r02 r03 r04) fun x_=>match x_ with
  | .inl (s,s2)=>(
  M.pure (s,s2,0))
  | .inr _=>M.fail))
theorem zbD {R:List Chunk} {C_b_Years:Cells} {v_b_Years:Value} {C_b_Olds:Cells} {v_b_Olds:Value} (b_Years:List Yr) (b_Olds:List Old10) (b_First:Int) (b_Last:Int) (from_:Int) (to_:Int) (stage:Int) (hC_b_Years:Reads R C_b_Years) (hs_b_Years:Sl C_b_Years v_b_Years b_Years) (hC_b_Olds:Reads R C_b_Olds) (hs_b_Olds:Sl C_b_Olds v_b_Olds b_Olds) {r:(Int × Int × Int)} (hM:(zak b_Years b_Olds b_First b_Last from_ to_ stage).Ends r) (w:World) (H:St w w [] R):Ret Tryz.prog 11 #[.agg #[v_b_Years,v_b_Olds,I b_First,I b_Last],I from_,I to_,I stage] w fun v w'=>∃ (y0:Int) (y1:Int) (y2:Int),(y0,y1,y2)=r/\v = .tuple #[.agg #[I y0,I y1],I y2]/\St w w' [] R:=by
 refine ret_of_WD Tryz.func11 rfl rfl rfl ?_
 replace H:St w w [cMk ([])] R:=H.mk0
 have hl_b_Years:=hs_b_Years.len_le
 have hl_b_Olds:=hs_b_Olds.len_le
 unfold zak at hM
 refine WD.seq ?_
 refine WD.of ?_
 refine W.region rfl ?_
 refine t_box (v:=.agg #[v_b_Years,v_b_Olds,I b_First,I b_Last]) (cs:=[v_b_Years,v_b_Olds,I b_First,I b_Last]) H rfl rfl ?_
 intro b_1 w1z H
 refine t_alloc (cs:=[I 0,I 0]) H Al34 rfl ?_
 intro b_2 w2z H
 refine kg 2 ?_
 refine WD.seq ?_
 refine WD.of ?_
 refine kg 5 ?_
 obtain ⟨r4z,hx3z,hM⟩:=M.e_bind hM
 refine s_call cf48 [.agg #[v_b_Years,v_b_Olds,I b_First,I b_Last],I from_,I to_,I stage,I 0,I 2000] rfl (zdd b_Years b_Olds b_First b_Last from_ to_ stage 0 2000 (hC_b_Years.app _) hs_b_Years (hC_b_Olds.app _) hs_b_Olds hx3z _ (H.gt 3)) ?_
 rintro vq w5z (⟨r1,hr6z,hvq,H2_⟩ | ⟨r02,r03,r04,r12,nb0_3,nb1_4,hr7z,hvq,H2_⟩)
 ·subst hr6z
  subst vq
  try dsimp only at hM
  replace H:=H.bk H2_
  clear H2_
  refine kg 6 ?_
  refine WD.seq ?_
  refine WD.seq ?_
  refine WD.of ?_
  refine kg 4 ?_
  refine WD.cond (r1 != 0) rfl (fun c8z=>?_) (fun c8z=>?_)
  ·replace hM:=M.e_t hM c8z
   simp only [qy1,qy2,qy3,qy4,qy5,qy6,ne_eq,qy7] at c8z
   refine WD.seq ?_
   refine WD.of ?_
   refine W.region rfl ?_
   refine s_val (x_bld (ps:=[]) (zs:=[I 0,I 0]) (L':=[I 0,I 0]) rfl Tryz.underlying34 Al34 rfl (Bd34 Tryz.underlying34) (.nil)) ?_
   refine kg 1 ?_
   refine t_sw 0 0 [I 0,I 0] (.agg #[I 0,I 0]) H rfl rfl Sz34 rfl rfl rfl rfl ?_
   intro w9z H
   refine kg 2 ?_
   refine WD.of ?_
   refine W.ret ?_
   refine bodyD_r (H.pk [2,0,1]) ?_
   intro w10z H
   replace H:=H.nf
   have hb11z:=(H.bl 0)
   have hr_:=M.e_pure hM
   exact ⟨_,(resE_ofn (vs:=[.agg #[I 0,I 0],I r1]) rfl rfl (.cell (v:=.agg #[I 0,I 0]) rfl (run_loadVar_ag (ds:=[I 0,I 0]) Ag34 Sz34 hb11z rfl rfl)<|.tmp (v:=I r1) rfl<|.nil)),⟨0,0,r1,hr_,rfl,(H.pk [])⟩⟩
  replace hM:=M.e_f hM c8z
  exact (M.e_fail hM).elim
 subst hr7z
 subst vq
 try dsimp only at hM
 replace H:=H.bk H2_
 clear H2_
 refine kg 6 ?_
 refine WD.seq ?_
 refine WD.seq ?_
 refine WD.of ?_
 refine kg 4 ?_
 refine WD.cond (r12 != 0) rfl (fun c12z=>?_) (fun c12z=>?_)
 ·replace hM:=M.e_t hM c12z
  exact (M.e_fail hM).elim
 replace hM:=M.e_f hM c12z
 simp only [qy1,qy2,qy3,qy4,qy5,qy6,ne_eq,qy7] at c12z
 refine WD.of ?_
 refine W.skip ?_
 refine WD.seq ?_
 refine WD.of ?_
 refine kg 2 ?_
 refine s_val (x_bld (ps:=[(0,I stage)]) (zs:=[I 0]) (L':=[I stage]) rfl Tryz.underlying98 Al98 rfl (Bd98 Tryz.underlying98) (.cons (cs:=[I stage]) rfl rfl rfl rfl rfl<|.nil)) ?_
 refine s_val (x_mf (fs:=[.agg #[I stage]]) (cs:=[]) rfl rfl) ?_
 refine t_alloc (cs:=[.nilFunc]) H Al96 rfl ?_
 intro b_5 w13z H
 refine t_sw 0 0 [.func (.func 49) #[.agg #[I stage]] #[]] (.func (.func 49) #[.agg #[I stage]] #[]) H rfl rfl Sz96 rfl rfl rfl rfl ?_
 intro w14z H
 refine s_nil ?_
 refine WD.seq ?_
 refine WD.of ?_
 refine W.region rfl ?_
 refine t_alloc (cs:=[I 0,I 0]) H Al34 rfl ?_
 intro b_6 w15z H
 refine s_nil ?_
 refine WD.seq ?_
 refine WD.seq ?_
 refine WD.of ?_
 refine kg 4 ?_
 obtain ⟨r17z,hx16z,hM⟩:=M.e_bind hM
 refine s_call cf50 [Pq nb0_3,I from_,I to_] rfl (zaz b_Years b_Olds r02 r03 r04 from_ to_ (hC_b_Years.app _) hs_b_Years (hC_b_Olds.app _) hs_b_Olds (Has.here (k:=3) rfl) (Has.here (k:=2) rfl) hx16z _ (H.gt 7)) ?_
 rintro vq w18z ⟨r00,r10,nb0_7,nb1_8,nb2_9,hr19z,hvq,H2_⟩
 subst hr19z
 subst vq
 try dsimp only at hM
 replace H:=H.bk H2_
 clear H2_
 refine s_nil ?_
 refine WD.block ?_
 obtain ⟨t20z,hx21z,hM⟩:=M.e_bind hM
 refine WD.range (L:=[cBlk b_6 [I 0,I 0] 34,cBlk nb0_7 [I r00] 3,cBlk nb1_8 [I r10] 3,cBlk nb2_9 [Pq nb0_3] 93,cBlk b_5 [.func (.func 49) #[.agg #[I stage]] #[]] 96,cBlk nb0_3 [v_b_Years,v_b_Olds,I r02,I r03,.map (some nb1_4)] 132,cMl I encSp nb1_4 r04,cBlk b_2 [I 0,I 0] 34,cBlk b_1 [v_b_Years,v_b_Olds,I b_First,I b_Last] 28]) [Pq nb0_7,Pq nb1_8,Pq nb2_9] (H.pk [9,3,0,1,2,4,5,6,7,8]) rfl cf81 ?_
 intro l22z D23z r24z w25z hr26z H
 have hYC:YieldC Tryz.prog ([cMk (D23z :: ([])),cBlk nb0_7 [I r00] 3,cBlk nb1_8 [I r10] 3,cBlk nb2_9 [Pq nb0_3] 93,cBlk b_5 [.func (.func 49) #[.agg #[I stage]] #[]] 96,cBlk nb0_3 [v_b_Years,v_b_Olds,I r02,I r03,.map (some nb1_4)] 132,cMl I encSp nb1_4 r04,cBlk b_2 [I 0,I 0] 34,cBlk b_1 [v_b_Years,v_b_Olds,I b_First,I b_Last] 28]++R) arISpan (yJ l22z r24z (fun (s,s2) Ls_=>Ls_=[cBlk b_6 [I s,I s2] 34]) (fun (_:Unit) _=>False) (fun _=>.ret)) (.func (.yield l22z) #[] #[]) (M.yl (zaH stage)):=by
  refine YieldC.mk2 hr26z (fun (s,s2) Ls_=>Ls_=[cBlk b_6 [I s,I s2] 34]) (fun (_:Unit) _=>False) (fun _=>.ret) (zaH stage) (by rintro ⟨s,s2⟩ _ h_; obtain ⟨rfl⟩:=h_; rfl) (fun _ _ h_=>h_.elim) rfl (arISpan_len rfl) ?_
  intro C_ vs_ x_ hA_
  obtain ⟨x,x2⟩:=x_
  obtain rfl:=hA_
  intro w R hR_ Ls_ s_ r hY_ hM H
  obtain ⟨s,s2⟩:=s_
  obtain ⟨rfl⟩:=hY_
  replace H:=H.nf
  refine W.region rfl ?_
  refine t_alloc (cs:=[I 0,I 0]) H Al34 rfl ?_
  intro b_10 w27z H
  refine t_sw 0 0 [I x2.lo,I x2.hi] (.agg #[I x2.lo,I x2.hi]) H rfl rfl Sz34 rfl rfl rfl rfl ?_
  intro w28z H
  refine s_nil ?_
  refine ⟨rfl,[cBlk b_10 [I x2.lo,I x2.hi] 34],H.pick [0,1,2,3,4,5,6,7,8,9,10] (by decide) rfl,?_⟩
  clear H hR_
  intro w R hR_ H
  replace hC_b_Years:=hC_b_Years.sub hR_
  replace hC_b_Olds:=hC_b_Olds.sub hR_
  replace hM:(zaH stage (s,s2) (x,x2)).Ends r:=hM
  simp only [zaH] at hM
  replace H:=H.nf
  refine kg 3 ?_
  refine W.draw (fun W=>St w W [cBlk b_10 [I x2.lo,I x2.hi] 34,cBlk b_6 [I s,I s2] 34,cMk (D23z :: ([])),cBlk nb0_7 [I r00] 3,cBlk nb1_8 [I r10] 3,cBlk nb2_9 [Pq nb0_3] 93,cBlk b_5 [.func (.func 49) #[.agg #[I stage]] #[]] 96,cBlk nb0_3 [v_b_Years,v_b_Olds,I r02,I r03,.map (some nb1_4)] 132,cMl I encSp nb1_4 r04,cBlk b_2 [I 0,I 0] 34,cBlk b_1 [v_b_Years,v_b_Olds,I b_First,I b_Last] 28] R) [(0,true),(3,true),(1,false),(2,true),(4,false),(5,false)] mixed (by decide +kernel) rfl ?_
  intro w29z hx_
  replace H:=H.ext hx_
  clear hx_
  refine ⟨(H.pk [0,1,2,3,4,5,6,7,8,9,10]),?_⟩
  refine kg 2 ?_
  refine d_l rfl ?_
  obtain ⟨r31z,hx30z,hM⟩:=M.e_bind hM
  refine s_call cf51 [] rfl (zdf hx30z _ (H.gt 11)) ?_
  rintro vq w32z ⟨hr33z,hvq,H2_⟩
  subst hr33z
  subst vq
  try dsimp only at hM
  replace H:=H.bk H2_
  clear H2_
  refine s_nil ⟨(H.pk [0,1,2,3,4,5,6,7,8,9,10]),?_⟩
  refine d_q rfl (fun w' H=>x_fd (cs:=[.func (.func 82) #[] #[]]) (v:=.func (.func 82) #[] #[]) Fd104_0 Sc102 rfl rfl) ?_
  refine d_l rfl ?_
  obtain ⟨r35z,hx34z,hM⟩:=M.e_bind hM
  refine s_callv (f:=82) rfl cf82 [.agg #[I x2.lo,I x2.hi]] rfl (zbA x2 hx34z _ (H.gt 11)) ?_
  rintro vq w36z ⟨r2,hr37z,hvq,H2_⟩
  subst hr37z
  subst vq
  try dsimp only at hM
  replace H:=H.bk H2_
  clear H2_
  refine s_nil ⟨(H.pk [0,1,2,3,4,5,6,7,8,9,10]),?_⟩
  refine d_l rfl ?_
  obtain ⟨r39z,hx38z,hM⟩:=M.e_bind hM
  refine s_callm (f:=49) (fs:=[.agg #[I stage]]) rfl cf49 [I r2] rfl (zda stage r2 hx38z _ (H.gt 11)) ?_
  rintro vq w40z ⟨r3,hr41z,hvq,H2_⟩
  subst hr41z
  subst vq
  try dsimp only at hM
  replace H:=H.bk H2_
  clear H2_
  refine s_nil ⟨(H.pk [0,1,2,3,4,5,6,7,8,9,10]),?_⟩
  refine d_nil ?_
  refine W.cond r3 rfl (fun c42z=>?_) (fun c42z=>?_)
  ·replace hM:=M.e_t hM c42z
   obtain ⟨sd43z,hM⟩:=M.e_grd hM
   simp only [Bool.and_eq_true,decide_eq_true_eq] at sd43z
   refine kg 5 ?_
   refine t_sw 1 0 [I (s+1)] (I (s+1)) H rfl rfl Sz3 rfl rfl rfl rfl ?_
   intro w44z H
   refine kg 2 ?_
   refine W.draw (fun W=>St w W [cBlk b_10 [I x2.lo,I x2.hi] 34,cBlk b_6 [I (s+1),I s2] 34,cMk (D23z :: ([])),cBlk nb0_7 [I r00] 3,cBlk nb1_8 [I r10] 3,cBlk nb2_9 [Pq nb0_3] 93,cBlk b_5 [.func (.func 49) #[.agg #[I stage]] #[]] 96,cBlk nb0_3 [v_b_Years,v_b_Olds,I r02,I r03,.map (some nb1_4)] 132,cMl I encSp nb1_4 r04,cBlk b_2 [I 0,I 0] 34,cBlk b_1 [v_b_Years,v_b_Olds,I b_First,I b_Last] 28] R) [(0,true),(3,true),(1,false),(2,true),(4,false),(5,false)] mixed (by decide +kernel) rfl ?_
   intro w45z hx_
   replace H:=H.ext hx_
   clear hx_
   refine ⟨(H.pk [0,1,2,3,4,5,6,7,8,9,10]),?_⟩
   refine kg 2 ?_
   refine d_l rfl ?_
   obtain ⟨r47z,hx46z,hM⟩:=M.e_bind hM
   refine s_call cf52 [] rfl (zc7 hx46z _ (H.gt 11)) ?_
   rintro vq w48z ⟨hr49z,hvq,H2_⟩
   subst hr49z
   subst vq
   try dsimp only at hM
   replace H:=H.bk H2_
   clear H2_
   refine s_nil ⟨(H.pk [0,1,2,3,4,5,6,7,8,9,10]),?_⟩
   refine d_q rfl (fun w' H=>x_fd (cs:=[.func (.func 83) #[] #[]]) (v:=.func (.func 83) #[] #[]) Fd104_0 Sc102 rfl rfl) ?_
   refine d_l rfl ?_
   obtain ⟨r51z,hx50z,hM⟩:=M.e_bind hM
   refine s_callv (f:=83) rfl cf83 [.agg #[I x2.lo,I x2.hi]] rfl (zbk x2 hx50z _ (H.gt 11)) ?_
   rintro vq w52z ⟨r4,hr53z,hvq,H2_⟩
   subst hr53z
   subst vq
   try dsimp only at hM
   replace H:=H.bk H2_
   clear H2_
   refine s_nil ⟨(H.pk [0,1,2,3,4,5,6,7,8,9,10]),?_⟩
   refine d_l rfl ?_
   obtain ⟨r55z,hx54z,hM⟩:=M.e_bind hM
   refine s_callm (f:=49) (fs:=[.agg #[I stage]]) rfl cf49 [I r4] rfl (zda stage r4 hx54z _ (H.gt 11)) ?_
   rintro vq w56z ⟨r5,hr57z,hvq,H2_⟩
   subst hr57z
   subst vq
   try dsimp only at hM
   replace H:=H.bk H2_
   clear H2_
   refine s_nil ⟨(H.pk [0,1,2,3,4,5,6,7,8,9,10]),?_⟩
   refine d_nil ?_
   refine W.cond r5 rfl (fun c58z=>?_) (fun c58z=>?_)
   ·replace hM:=M.e_t hM c58z
    obtain ⟨sd59z,hM⟩:=M.e_grd hM
    simp only [Bool.and_eq_true,decide_eq_true_eq] at sd59z
    refine kg 5 ?_
    refine t_sw 1 1 [I (s2+1)] (I (s2+1)) H rfl rfl Sz3 rfl rfl rfl rfl ?_
    intro w60z H
    refine s_nil ?_
    exact ⟨(s+1,s2+1),[cBlk b_6 [I (s+1),I (s2+1)] 34],(M.e_pure hM).symm,rfl,H.pick [1,2,3,4,5,6,7,8,9,10] (by decide) rfl⟩
   replace hM:=M.e_f hM c58z
   refine W.skip ?_
   exact ⟨(s+1,s2),[cBlk b_6 [I (s+1),I s2] 34],(M.e_pure hM).symm,rfl,H.pick [1,2,3,4,5,6,7,8,9,10] (by decide) rfl⟩
  replace hM:=M.e_f hM c42z
  refine kg 2 ?_
  refine W.draw (fun W=>St w W [cBlk b_10 [I x2.lo,I x2.hi] 34,cBlk b_6 [I s,I s2] 34,cMk (D23z :: ([])),cBlk nb0_7 [I r00] 3,cBlk nb1_8 [I r10] 3,cBlk nb2_9 [Pq nb0_3] 93,cBlk b_5 [.func (.func 49) #[.agg #[I stage]] #[]] 96,cBlk nb0_3 [v_b_Years,v_b_Olds,I r02,I r03,.map (some nb1_4)] 132,cMl I encSp nb1_4 r04,cBlk b_2 [I 0,I 0] 34,cBlk b_1 [v_b_Years,v_b_Olds,I b_First,I b_Last] 28] R) [(0,true),(3,true),(1,false),(2,true),(4,false),(5,false)] mixed (by decide +kernel) rfl ?_
  intro w61z hx_
  replace H:=H.ext hx_
  clear hx_
  refine ⟨(H.pk [0,1,2,3,4,5,6,7,8,9,10]),?_⟩
  refine kg 2 ?_
  refine d_l rfl ?_
  obtain ⟨r63z,hx62z,hM⟩:=M.e_bind hM
  refine s_call cf52 [] rfl (zc7 hx62z _ (H.gt 11)) ?_
  rintro vq w64z ⟨hr65z,hvq,H2_⟩
  subst hr65z
  subst vq
  try dsimp only at hM
  replace H:=H.bk H2_
  clear H2_
  refine s_nil ⟨(H.pk [0,1,2,3,4,5,6,7,8,9,10]),?_⟩
  refine d_q rfl (fun w' H=>x_fd (cs:=[.func (.func 83) #[] #[]]) (v:=.func (.func 83) #[] #[]) Fd104_0 Sc102 rfl rfl) ?_
  refine d_l rfl ?_
  obtain ⟨r67z,hx66z,hM⟩:=M.e_bind hM
  refine s_callv (f:=83) rfl cf83 [.agg #[I x2.lo,I x2.hi]] rfl (zbk x2 hx66z _ (H.gt 11)) ?_
  rintro vq w68z ⟨r4,hr69z,hvq,H2_⟩
  subst hr69z
  subst vq
  try dsimp only at hM
  replace H:=H.bk H2_
  clear H2_
  refine s_nil ⟨(H.pk [0,1,2,3,4,5,6,7,8,9,10]),?_⟩
  refine d_l rfl ?_
  obtain ⟨r71z,hx70z,hM⟩:=M.e_bind hM
  refine s_callm (f:=49) (fs:=[.agg #[I stage]]) rfl cf49 [I r4] rfl (zda stage r4 hx70z _ (H.gt 11)) ?_
  rintro vq w72z ⟨r5,hr73z,hvq,H2_⟩
  subst hr73z
  subst vq
  try dsimp only at hM
  replace H:=H.bk H2_
  clear H2_
  refine s_nil ⟨(H.pk [0,1,2,3,4,5,6,7,8,9,10]),?_⟩
  refine d_nil ?_
  refine W.cond r5 rfl (fun c74z=>?_) (fun c74z=>?_)
  ·replace hM:=M.e_t hM c74z
   obtain ⟨sd75z,hM⟩:=M.e_grd hM
   simp only [Bool.and_eq_true,decide_eq_true_eq] at sd75z
   refine kg 5 ?_
   refine t_sw 1 1 [I (s2+1)] (I (s2+1)) H rfl rfl Sz3 rfl rfl rfl rfl ?_
   intro w76z H
   refine s_nil ?_
   exact ⟨(s,s2+1),[cBlk b_6 [I s,I (s2+1)] 34],(M.e_pure hM).symm,rfl,H.pick [1,2,3,4,5,6,7,8,9,10] (by decide) rfl⟩
  replace hM:=M.e_f hM c74z
  refine W.skip ?_
  exact ⟨(s,s2),[cBlk b_6 [I s,I s2] 34],(M.e_pure hM).symm,rfl,H.pick [1,2,3,4,5,6,7,8,9,10] (by decide) rfl⟩
 replace H:St w w25z (cAll (cObj l22z (.loop r24z) :: [cBlk b_6 [I 0,I 0] 34]) :: [cMk (D23z :: ([])),cBlk nb0_7 [I r00] 3,cBlk nb1_8 [I r10] 3,cBlk nb2_9 [Pq nb0_3] 93,cBlk b_5 [.func (.func 49) #[.agg #[I stage]] #[]] 96,cBlk nb0_3 [v_b_Years,v_b_Olds,I r02,I r03,.map (some nb1_4)] 132,cMl I encSp nb1_4 r04,cBlk b_2 [I 0,I 0] 34,cBlk b_1 [v_b_Years,v_b_Olds,I b_First,I b_Last] 28]) R:=St.bundleB (A:=cObj l22z (.loop r24z) :: [cBlk b_6 [I 0,I 0] 34]) (T:=[cMk (D23z :: ([])),cBlk nb0_7 [I r00] 3,cBlk nb1_8 [I r10] 3,cBlk nb2_9 [Pq nb0_3] 93,cBlk b_5 [.func (.func 49) #[.agg #[I stage]] #[]] 96,cBlk nb0_3 [v_b_Years,v_b_Olds,I r02,I r03,.map (some nb1_4)] 132,cMl I encSp nb1_4 r04,cBlk b_2 [I 0,I 0] 34,cBlk b_1 [v_b_Years,v_b_Olds,I b_First,I b_Last] 28]) rfl (H.pk [0,2,1,3,4,5,6,7,8,9,10])
 refine (zaE (M.yl (zaH stage)) (.inl (0,0)) r00 r10 b_Years b_Olds r02 r03 r04 hYC ⟨_,rfl,rfl⟩ (Has.here (k:=1) rfl) (Has.here (k:=2) rfl) (hC_b_Years.app _) hs_b_Years (hC_b_Olds.app _) hs_b_Olds (Has.here (k:=6) rfl) (Has.here (k:=5) rfl) (Has.here (k:=3) rfl) hx21z _ (H.gt 9)).mono ?_
 rintro vq w77z ⟨t81z,Ls79z,hq82z,hvq,H2_,hY80z⟩
 subst hq82z
 replace H:=H.back H2_ rfl
 clear H2_ hYC
 rcases t81z with ⟨s,s2⟩ | _
 ·try dsimp only at hM
  obtain ⟨_,rfl,rfl⟩:=hY80z
  refine ⟨_,[cBlk b_6 [I s,I s2] 34,cBlk nb0_7 [I r00] 3,cBlk nb1_8 [I r10] 3,cBlk nb2_9 [Pq nb0_3] 93,cBlk b_5 [.func (.func 49) #[.agg #[I stage]] #[]] 96,cBlk nb0_3 [v_b_Years,v_b_Olds,I r02,I r03,.map (some nb1_4)] 132,cMl I encSp nb1_4 r04,cBlk b_2 [I 0,I 0] 34,cBlk b_1 [v_b_Years,v_b_Olds,I b_First,I b_Last] 28],H.unbundle.pick [0,2,1,3,4,5,6,7,8,9,10] (by decide) rfl,hr26z.nb,?_⟩
  intro w78z H
  rw [hr26z.pd]
  replace H:=H.nf
  try simp only []
  refine WD.seq ?_
  refine WD.of ?_
  refine kg 2 ?_
  refine t_sw 8 0 [I s,I s2] (.agg #[I s,I s2]) H rfl rfl Sz34 rfl rfl rfl rfl ?_
  intro w83z H
  refine kg 2 ?_
  refine WD.of ?_
  refine W.ret ?_
  refine bodyD_r (H.pk [0,1,2,3,4,5,6,7,8,9]) ?_
  intro w84z H
  replace H:=H.nf
  have hb85z:=(H.bl 7)
  have hr_:=M.e_pure hM
  exact ⟨_,(resE_ofn (vs:=[.agg #[I s,I s2],I 0]) rfl rfl (.cell (v:=.agg #[I s,I s2]) rfl (run_loadVar_ag (ds:=[I s,I s2]) Ag34 Sz34 hb85z rfl rfl)<|.tmp (v:=I 0) rfl<|.nil)),⟨s,s2,0,hr_,rfl,(H.pk [])⟩⟩
 obtain ⟨_,_,h_⟩:=hY80z; exact h_.elim

def zc0:(Int × Int)->M ((Int × Int) ⊕ Int):=fun (a,b) =>
  bif b != 0 then (
  M.grd (decide ((0:Int)<=a)&&decide ((0:Int)<b)) <|
  M.pure (.inl (b,a % b)))
  else (
  M.pure (.inr a))
def zcn (n:Int) (of_:Int):M (Int × Int) :=
  M.bind (M.iter (zc0) (n,of_)) fun a2 =>
  M.grd (decide (0<=n)&&decide (n<=(9223372036854775807:Int))&&decide ((0:Int)<a2)) <|
  M.grd (decide (0<=of_)&&decide (of_<=(9223372036854775807:Int))&&decide ((0:Int)<a2)) <|
  M.pure ((n / a2),(of_ / a2))
theorem zdA {R:List Chunk}  (n:Int) (of_:Int)  {r:(Int × Int)} (hM:(zcn n of_).Ends r) (w:World) (H:St w w [] R):Ret Tryz.prog 53 #[I n,I of_] w fun v w'=>∃ (y0:Int) (y1:Int),(y0,y1)=r/\v = .agg #[I y0,I y1]/\St w w' [] R:=by
 refine ret_of_W Tryz.func53 rfl rfl rfl ?_
 refine kg 2 ?_
 refine t_alloc (cs:=[I 0,I 0]) H Al51 rfl ?_
 intro b_1 w1z H
 refine kg 10 ?_
 obtain ⟨ex2z,hi3z,hk4z⟩:=M.e_bind hM
 obtain ⟨m0_,hi3z⟩:=M.e_iter hi3z
 refine W.loop (fun m σ W=>∃ (a:Int) (b:Int) (ρ:Env),σ=upds ρ [(0,I n),(1,I of_),(4,Pq b_1),(5,I a),(6,I b)]/\M.iterN (zc0) m (a,b)=some ex2z/\St w W [cBlk b_1 [I 0,I 0] 51] R) ?_ ?_
 ·exact ⟨_,n,of_,_,upds_of _ _ ⟨rfl,rfl,rfl,rfl,rfl,trivial⟩,hi3z,H⟩
 rintro m7z σ w5z ⟨a,b,ρ,rfl,hI6z,H⟩
 obtain ⟨m8z,lt9z,x10z,hM,hN11z⟩:=M.e_iterN hI6z
 simp only [zc0] at hM
 clear hI6z
 refine kg 6 ?_
 refine W.cond (b != 0) rfl (fun c12z=>?_) (fun c12z=>?_)
 ·replace hM:=M.e_t hM c12z
  simp only [qy1,qy2,qy3,qy4,qy5,qy6,ne_eq,qy7] at c12z
  refine kg 2 ?_
  refine W.draw (fun W=>St w W [cBlk b_1 [I 0,I 0] 51] R) [(0,true),(1,true),(2,true),(3,true),(4,true),(5,true)] mixed (by decide +kernel) rfl ?_
  intro w13z hx_
  replace H:=H.ext hx_
  clear hx_
  refine ⟨(H.pk [0]),?_⟩
  obtain ⟨sd14z,hM⟩:=M.e_grd hM
  simp only [Bool.and_eq_true,decide_eq_true_eq] at sd14z
  refine kg 3 ?_
  refine d_q rfl (fun w' H=>x_rem' (a:=a) (b:=b) rfl rfl (by omega)) ?_
  refine kg 3 ?_
  exact ⟨m8z,lt9z,b,a % b,_,upds_of _ _ ⟨rfl,rfl,rfl,rfl,rfl,trivial⟩,M.e_inl hM hN11z,H⟩
 replace hM:=M.e_f hM c12z
 simp only [qy1,qy2,qy3,qy4,qy5,qy6,ne_eq,qy7] at c12z
 refine W.exit ?_
 have hX15z:=M.e_inr hM hN11z
 subst hX15z
 replace hM:=hk4z
 try dsimp only at hM
 refine W.seq ?_
 refine W.draw (fun W=>St w W [] R) [(0,true),(1,true),(2,true),(3,true),(4,true),(5,true),(6,true),(7,false)] mixed (by decide +kernel) rfl ?_
 intro w16z hx_
 replace H:=H.ext hx_
 clear hx_
 refine ⟨(H.pk []),?_⟩
 obtain ⟨sd17z,hM⟩:=M.e_grd hM
 simp only [Bool.and_eq_true,decide_eq_true_eq] at sd17z
 obtain ⟨sd18z,hM⟩:=M.e_grd hM
 simp only [Bool.and_eq_true,decide_eq_true_eq] at sd18z
 refine kg 6 ?_
 refine d_q rfl (fun w' H=>x_bld (ps:=[(0,I (n / a)),(1,I (of_ / a))]) (zs:=[I 0,I 0]) (L':=[I (n / a),I (of_ / a)]) rfl Tryz.underlying51 Al51 rfl (Bd51 Tryz.underlying51) (.cons (cs:=[I (n / a)]) rfl rfl rfl rfl rfl<|.cons (cs:=[I (of_ / a)]) rfl rfl rfl rfl rfl<|.nil)) ?_
 refine d_l rfl ?_
 refine t_sw 0 0 [I (n / a),I (of_ / a)] (.agg #[I (n / a),I (of_ / a)]) H rfl rfl Sz51 rfl rfl rfl rfl ?_
 intro w19z H
 refine s_nil ⟨(H.pk []),?_⟩
 refine d_nil ?_
 refine W.ret ?_
 have hb20z:=(H.bl 0)
 have hr_:=M.e_pure hM
 exact ⟨_,(resE_of1 (v:=.agg #[I (n / a),I (of_ / a)]) rfl (.cell (v:=.agg #[I (n / a),I (of_ / a)]) rfl (run_loadVar_ag (ds:=[I (n / a),I (of_ / a)]) Ag51 Sz51 hb20z rfl rfl)<|.nil)),⟨(n / a),(of_ / a),hr_,rfl,(H.pk [])⟩⟩

def zaM (b_Years:List Yr) (b_Olds:List Old10) (b_First:Int) (b_Last:Int) (stage:Int):M (Int × Int × Int × Int × Int) :=
  M.bind (zak b_Years b_Olds b_First b_Last b_First b_Last stage) fun (r00,r01,r1) =>
  bif r1 != 0 then (
  M.pure (0,0,0,0,r1))
  else (
  M.grd (decide ((-9223372036854775808:Int)<=(b_Last-b_First))&&decide ((b_Last-b_First)<=(9223372036854775807:Int))) <|
  M.grd (decide ((-9223372036854775808:Int)<=((b_Last-b_First)+1))&&decide (((b_Last-b_First)+1)<=(9223372036854775807:Int))) <|
  M.bind (zcn r00 ((b_Last-b_First)+1)) fun (r0,r12) =>
  M.bind (zcn r01 ((b_Last-b_First)+1)) fun (r02,r13) =>
  M.pure (r0,r12,r02,r13,0))
theorem zde {R:List Chunk} {C_b_Years:Cells} {v_b_Years:Value} {C_b_Olds:Cells} {v_b_Olds:Value} (b_Years:List Yr) (b_Olds:List Old10) (b_First:Int) (b_Last:Int) (stage:Int) (hC_b_Years:Reads R C_b_Years) (hs_b_Years:Sl C_b_Years v_b_Years b_Years) (hC_b_Olds:Reads R C_b_Olds) (hs_b_Olds:Sl C_b_Olds v_b_Olds b_Olds) {r:(Int × Int × Int × Int × Int)} (hM:(zaM b_Years b_Olds b_First b_Last stage).Ends r) (w:World) (H:St w w [] R):Ret Tryz.prog 13 #[.agg #[v_b_Years,v_b_Olds,I b_First,I b_Last],I stage] w fun v w'=>∃ (y0:Int) (y1:Int) (y2:Int) (y3:Int) (y4:Int),(y0,y1,y2,y3,y4)=r/\v = .tuple #[.agg #[I y0,I y1],.agg #[I y2,I y3],I y4]/\St w w' [] R:=by
 refine ret_of_W Tryz.func13 rfl rfl rfl ?_
 refine kg 2 ?_
 refine t_box (v:=.agg #[v_b_Years,v_b_Olds,I b_First,I b_Last]) (cs:=[v_b_Years,v_b_Olds,I b_First,I b_Last]) H rfl rfl ?_
 intro b_1 w1z H
 refine t_alloc (cs:=[I 0,I 0]) H Al51 rfl ?_
 intro b_2 w2z H
 refine t_alloc (cs:=[I 0,I 0]) H Al51 rfl ?_
 intro b_3 w3z H
 refine kg 10 ?_
 obtain ⟨r5z,hx4z,hM⟩:=M.e_bind hM
 refine s_call cf11 [.agg #[v_b_Years,v_b_Olds,I b_First,I b_Last],I b_First,I b_Last,I stage] rfl (zbD b_Years b_Olds b_First b_Last b_First b_Last stage (hC_b_Years.app _) hs_b_Years (hC_b_Olds.app _) hs_b_Olds hx4z _ (H.gt 3)) ?_
 rintro vq w6z ⟨r00,r01,r1,hr7z,hvq,H2_⟩
 subst hr7z
 subst vq
 try dsimp only at hM
 replace H:=H.bk H2_
 clear H2_
 refine kg 3 ?_
 refine t_alloc (cs:=[I 0,I 0]) H Al34 rfl ?_
 intro b_4 w8z H
 refine t_sw 0 0 [I r00,I r01] (.agg #[I r00,I r01]) H rfl rfl Sz34 rfl rfl rfl rfl ?_
 intro w9z H
 refine kg 8 ?_
 refine W.cond (r1 != 0) rfl (fun c10z=>?_) (fun c10z=>?_)
 ·replace hM:=M.e_t hM c10z
  simp only [qy1,qy2,qy3,qy4,qy5,qy6,ne_eq,qy7] at c10z
  refine W.seq ?_
  refine W.drawT (fun W=>St w W [cBlk b_4 [I r00,I r01] 34,cBlk b_1 [v_b_Years,v_b_Olds,I b_First,I b_Last] 28] R) (.q 2 (.l2 0 (.l2 1 (.l 3 (.l 4 (.q 5 .nil))) 3 (.l 1 (.l 4 (.q 5 .nil)))) 1 (.l 0 (.l 3 (.l 4 (.q 5 .nil)))))) mixed (by decide +kernel) rfl ?_
  intro w11z hx_
  replace H:=H.ext hx_
  clear hx_
  refine ⟨(H.pk [0,3]),?_⟩
  refine kg 1 ?_
  refine t_l2 rfl rfl ?_ ?_
  ·skip
   refine kg 1 ?_
   refine s_nil ⟨(H.pk [0,3]),?_⟩
   refine t_l2 rfl rfl ?_ ?_
   ·skip
    refine kg 1 ?_
    refine s_nil ⟨(H.pk [0,3]),?_⟩
    refine t_l rfl ?_
    refine t_sw 2 0 [I 0,I 0] (.agg #[I 0,I 0]) H rfl rfl Sz51 rfl rfl rfl rfl ?_
    intro w14z H
    refine s_nil ⟨(H.pk [0,3]),?_⟩
    refine t_l rfl ?_
    refine t_sw 1 0 [I 0,I 0] (.agg #[I 0,I 0]) H rfl rfl Sz51 rfl rfl rfl rfl ?_
    intro w15z H
    refine s_nil ⟨(H.pk [0,3]),?_⟩
    refine kg 2 ?_
    refine W.ret ?_
    have hb16z:=(H.bl 2)
    have hb17z:=(H.bl 1)
    have hr_:=M.e_pure hM
    exact ⟨_,(resE_ofn (vs:=[.agg #[I 0,I 0],.agg #[I 0,I 0],I r1]) rfl rfl (.cell (v:=.agg #[I 0,I 0]) rfl (run_loadVar_ag (ds:=[I 0,I 0]) Ag51 Sz51 hb16z rfl rfl)<|.cell (v:=.agg #[I 0,I 0]) rfl (run_loadVar_ag (ds:=[I 0,I 0]) Ag51 Sz51 hb17z rfl rfl)<|.tmp (v:=I r1) rfl<|.nil)),⟨0,0,0,0,r1,hr_,rfl,(H.pk [])⟩⟩
   skip
   refine t_sw 2 0 [I 0,I 0] (.agg #[I 0,I 0]) H rfl rfl Sz51 rfl rfl rfl rfl ?_
   intro w18z H
   refine s_nil ⟨(H.pk [0,3]),?_⟩
   refine t_l rfl ?_
   refine kg 1 ?_
   refine s_nil ⟨(H.pk [0,3]),?_⟩
   refine t_l rfl ?_
   refine t_sw 1 0 [I 0,I 0] (.agg #[I 0,I 0]) H rfl rfl Sz51 rfl rfl rfl rfl ?_
   intro w19z H
   refine s_nil ⟨(H.pk [0,3]),?_⟩
   refine kg 2 ?_
   refine W.ret ?_
   have hb20z:=(H.bl 2)
   have hb21z:=(H.bl 1)
   have hr_:=M.e_pure hM
   exact ⟨_,(resE_ofn (vs:=[.agg #[I 0,I 0],.agg #[I 0,I 0],I r1]) rfl rfl (.cell (v:=.agg #[I 0,I 0]) rfl (run_loadVar_ag (ds:=[I 0,I 0]) Ag51 Sz51 hb20z rfl rfl)<|.cell (v:=.agg #[I 0,I 0]) rfl (run_loadVar_ag (ds:=[I 0,I 0]) Ag51 Sz51 hb21z rfl rfl)<|.tmp (v:=I r1) rfl<|.nil)),⟨0,0,0,0,r1,hr_,rfl,(H.pk [])⟩⟩
  skip
  refine kg 1 ?_
  refine s_nil ⟨(H.pk [0,3]),?_⟩
  refine t_l rfl ?_
  refine kg 1 ?_
  refine s_nil ⟨(H.pk [0,3]),?_⟩
  refine t_l rfl ?_
  refine t_sw 2 0 [I 0,I 0] (.agg #[I 0,I 0]) H rfl rfl Sz51 rfl rfl rfl rfl ?_
  intro w22z H
  refine s_nil ⟨(H.pk [0,3]),?_⟩
  refine t_l rfl ?_
  refine t_sw 1 0 [I 0,I 0] (.agg #[I 0,I 0]) H rfl rfl Sz51 rfl rfl rfl rfl ?_
  intro w23z H
  refine s_nil ⟨(H.pk [0,3]),?_⟩
  refine kg 2 ?_
  refine W.ret ?_
  have hb24z:=(H.bl 2)
  have hb25z:=(H.bl 1)
  have hr_:=M.e_pure hM
  exact ⟨_,(resE_ofn (vs:=[.agg #[I 0,I 0],.agg #[I 0,I 0],I r1]) rfl rfl (.cell (v:=.agg #[I 0,I 0]) rfl (run_loadVar_ag (ds:=[I 0,I 0]) Ag51 Sz51 hb24z rfl rfl)<|.cell (v:=.agg #[I 0,I 0]) rfl (run_loadVar_ag (ds:=[I 0,I 0]) Ag51 Sz51 hb25z rfl rfl)<|.tmp (v:=I r1) rfl<|.nil)),⟨0,0,0,0,r1,hr_,rfl,(H.pk [])⟩⟩
 replace hM:=M.e_f hM c10z
 simp only [qy1,qy2,qy3,qy4,qy5,qy6,ne_eq,qy7] at c10z
 obtain ⟨sd26z,hM⟩:=M.e_grd hM
 simp only [Bool.and_eq_true,decide_eq_true_eq] at sd26z
 obtain ⟨sd27z,hM⟩:=M.e_grd hM
 simp only [Bool.and_eq_true,decide_eq_true_eq] at sd27z
 refine kg 12 ?_
 refine W.draw (fun W=>St w W [cBlk b_4 [I r00,I r01] 34,cBlk b_1 [v_b_Years,v_b_Olds,I b_First,I b_Last] 28] R) [(0,true),(1,true),(2,true),(4,true),(5,true),(6,true),(3,false),(7,false),(8,false),(9,false),(10,true)] mixed (by decide +kernel) rfl ?_
 intro w28z hx_
 replace H:=H.ext hx_
 clear hx_
 refine ⟨(H.pk [0,3]),?_⟩
 refine kg 6 ?_
 refine d_l rfl ?_
 obtain ⟨r30z,hx29z,hM⟩:=M.e_bind hM
 refine s_call cf53 [I r00,I ((b_Last-b_First)+1)] rfl (zdA r00 ((b_Last-b_First)+1) hx29z _ (H.gt 4)) ?_
 rintro vq w31z ⟨r0,r12,hr32z,hvq,H2_⟩
 subst hr32z
 subst vq
 try dsimp only at hM
 replace H:=H.bk H2_
 clear H2_
 refine s_nil ⟨(H.pk [0,3]),?_⟩
 refine d_l rfl ?_
 obtain ⟨r34z,hx33z,hM⟩:=M.e_bind hM
 refine s_call cf53 [I r01,I ((b_Last-b_First)+1)] rfl (zdA r01 ((b_Last-b_First)+1) hx33z _ (H.gt 4)) ?_
 rintro vq w35z ⟨r02,r13,hr36z,hvq,H2_⟩
 subst hr36z
 subst vq
 try dsimp only at hM
 replace H:=H.bk H2_
 clear H2_
 refine s_nil ⟨(H.pk [0,3]),?_⟩
 refine d_l rfl ?_
 refine t_sw 2 0 [I r0,I r12] (.agg #[I r0,I r12]) H rfl rfl Sz51 rfl rfl rfl rfl ?_
 intro w37z H
 refine s_nil ⟨(H.pk [0,3]),?_⟩
 refine d_l rfl ?_
 refine t_sw 1 0 [I r02,I r13] (.agg #[I r02,I r13]) H rfl rfl Sz51 rfl rfl rfl rfl ?_
 intro w38z H
 refine s_nil ⟨(H.pk [0,3]),?_⟩
 refine kg 2 ?_
 refine W.ret ?_
 have hb39z:=(H.bl 2)
 have hb40z:=(H.bl 1)
 have hr_:=M.e_pure hM
 exact ⟨_,(resE_ofn (vs:=[.agg #[I r0,I r12],.agg #[I r02,I r13],I 0]) rfl rfl (.cell (v:=.agg #[I r0,I r12]) rfl (run_loadVar_ag (ds:=[I r0,I r12]) Ag51 Sz51 hb39z rfl rfl)<|.cell (v:=.agg #[I r02,I r13]) rfl (run_loadVar_ag (ds:=[I r02,I r13]) Ag51 Sz51 hb40z rfl rfl)<|.tmp (v:=I 0) rfl<|.nil)),⟨r0,r12,r02,r13,0,hr_,rfl,(H.pk [])⟩⟩

def zay:(List Int)->(Int × Span)->M ((List Int) ⊕ Unit):=fun l (x2,x3) =>
  M.bind (zcQ x3) fun r2 =>
  M.grd (decide ((l.length+([(r2:Int)]).length)*8<=140737488355328)) <|
  M.pure (.inl (l++([(r2:Int)])))
def zbu (k020:List Yr) (k021:List Old10) (k022:Int) (k023:Int) (k024:List (Int × Span)) (k12:Int) (k22:Int) (k32:Int):M Int :=
  M.bind (zaf k020 k021 k022 k023 k024 k12 k22) fun (r00,r10) =>
  M.bind (zaj (M.yl zay) (.inl ([])) r00 r10 k020 k021 k022 k023 k024) fun x_=>match x_ with
  | .inl l=>(
  M.grd (decide (l.length<=1000000)) <|
  M.grd (decide ((-9223372036854775808:Int)<=(((isort l).length:Int)-k32))&&decide ((((isort l).length:Int)-k32)<=(9223372036854775807:Int))) <|
  M.grd (decide ((0:Int)<=(((isort l).length:Int)-k32))&&decide ((((isort l).length:Int)-k32)<((isort l).length:Int))) <|
  M.pure ((isort l).getD (Int.toNat (((isort l).length:Int)-k32)) 0))
  | .inr _=>M.fail
theorem zd1 {R:List Chunk} {b_k0:Nat} {b_k02:Nat} {C_k020:Cells} {v_k020:Value} {C_k021:Cells} {v_k021:Value} {b_k024:Nat} {b_k1:Nat} {b_k2:Nat} {b_k3:Nat} (k020:List Yr) (k021:List Old10) (k022:Int) (k023:Int) (k024:List (Int × Span)) (k12:Int) (k22:Int) (k32:Int) (hC_k020:Reads R C_k020) (hs_k020:Sl C_k020 v_k020 k020) (hC_k021:Reads R C_k021) (hs_k021:Sl C_k021 v_k021 k021) (h_b_k024:Has R (cMl I encSp b_k024 k024)) (h_b_k02:Has R (cBlk b_k02 [v_k020,v_k021,I k022,I k023,.map (some b_k024)] 132)) (h_b_k0:Has R (cBlk b_k0 [Pq b_k02] 93)) (h_b_k1:Has R (cBlk b_k1 [I k12] 3)) (h_b_k2:Has R (cBlk b_k2 [I k22] 3)) (h_b_k3:Has R (cBlk b_k3 [I k32] 3)) {r:Int} (hM:(zbu k020 k021 k022 k023 k024 k12 k22 k32).Ends r) (w:World) (H:St w w [] R):Ret Tryz.prog 54 #[.agg #[.func (.func 82) #[] #[]],Pq b_k0,Pq b_k1,Pq b_k2,Pq b_k3] w fun v w'=>∃ (y0:Int),y0=r/\v=I y0/\St w w' [] R:=by
 refine ret_of_WD Tryz.func54 rfl rfl rfl ?_
 replace H:St w w [cMk ([])] R:=H.mk0
 have hl_k020:=hs_k020.len_le
 have hl_k021:=hs_k021.len_le
 unfold zbu at hM
 refine WD.seq ?_
 refine WD.of ?_
 refine W.region rfl ?_
 refine t_box (v:=.agg #[.func (.func 82) #[] #[]]) (cs:=[.func (.func 82) #[] #[]]) H rfl rfl ?_
 intro b_1 w1z H
 refine kg 2 ?_
 refine WD.seq ?_
 refine WD.of ?_
 refine W.region rfl ?_
 refine t_alloc (cs:=[.slice none 0 0]) H Al22 rfl ?_
 intro b_2 w2z H
 refine s_nil ?_
 refine WD.seq ?_
 refine WD.seq ?_
 refine WD.of ?_
 refine kg 4 ?_
 obtain ⟨r4z,hx3z,hM⟩:=M.e_bind hM
 refine s_call cf50 [Pq b_k02,I k12,I k22] rfl (zaz k020 k021 k022 k023 k024 k12 k22 (hC_k020.app _) hs_k020 (hC_k021.app _) hs_k021 (h_b_k024.app _) (h_b_k02.app _) hx3z _ (H.gt 3)) ?_
 rintro vq w5z ⟨r00,r10,nb0_3,nb1_4,nb2_5,hr6z,hvq,H2_⟩
 subst hr6z
 subst vq
 try dsimp only at hM
 replace H:=H.bk H2_
 clear H2_
 refine s_nil ?_
 refine WD.block ?_
 replace H:=H.nilOwn (α:=Int) 3
 obtain ⟨t7z,hx8z,hM⟩:=M.e_bind hM
 refine WD.range (L:=[cOwn (α:=Int) 3 (.slice none 0 0) ([]),cBlk b_2 [(.slice none 0 0)] 22,cBlk nb0_3 [I r00] 3,cBlk nb1_4 [I r10] 3,cBlk nb2_5 [Pq b_k02] 93,cBlk b_1 [.func (.func 82) #[] #[]] 104]) [Pq nb0_3,Pq nb1_4,Pq nb2_5] (H.pk [6,0,4,1,2,3,5]) rfl cf81 ?_
 intro l9z D10z r11z w12z hr13z H
 have hYC:YieldC Tryz.prog ([cMk (D10z :: ([])),cBlk nb0_3 [I r00] 3,cBlk nb1_4 [I r10] 3,cBlk nb2_5 [Pq b_k02] 93,cBlk b_1 [.func (.func 82) #[] #[]] 104]++R) arISpan (yJ l9z r11z (fun l Ls_=>∃ (v_l:Value),Ls_=[cOwn (α:=Int) 3 v_l l,cBlk b_2 [v_l] 22]) (fun (_:Unit) _=>False) (fun _=>.ret)) (.func (.yield l9z) #[] #[]) (M.yl zay):=by
  refine YieldC.mk2 hr13z (fun l Ls_=>∃ (v_l:Value),Ls_=[cOwn (α:=Int) 3 v_l l,cBlk b_2 [v_l] 22]) (fun (_:Unit) _=>False) (fun _=>.ret) zay (by rintro l _ h_; obtain ⟨_,rfl⟩:=h_; rfl) (fun _ _ h_=>h_.elim) rfl (arISpan_len rfl) ?_
  intro C_ vs_ x_ hA_
  obtain ⟨x2,x3⟩:=x_
  obtain rfl:=hA_
  intro w R hR_ Ls_ s_ r hY_ hM H
  skip
  obtain ⟨l,hs_eq_⟩:∃ y_,y_=s_:=⟨_,rfl⟩
  subst hs_eq_
  obtain ⟨v_l,rfl⟩:=hY_
  replace H:=H.nf
  refine W.region rfl ?_
  refine t_alloc (cs:=[I 0,I 0]) H Al34 rfl ?_
  intro b_6 w14z H
  refine t_sw 0 0 [I x3.lo,I x3.hi] (.agg #[I x3.lo,I x3.hi]) H rfl rfl Sz34 rfl rfl rfl rfl ?_
  intro w15z H
  refine s_nil ?_
  refine ⟨rfl,[cBlk b_6 [I x3.lo,I x3.hi] 34],H.pick [0,1,2,3,4,5,6,7] (by decide) rfl,?_⟩
  clear H hR_
  intro w R hR_ H
  replace hC_k020:=hC_k020.sub hR_
  replace hC_k021:=hC_k021.sub hR_
  replace h_b_k024:=h_b_k024.sub hR_
  replace h_b_k02:=h_b_k02.sub hR_
  replace h_b_k0:=h_b_k0.sub hR_
  replace h_b_k1:=h_b_k1.sub hR_
  replace h_b_k2:=h_b_k2.sub hR_
  replace h_b_k3:=h_b_k3.sub hR_
  replace hM:(zay l (x2,x3)).Ends r:=hM
  simp only [zay] at hM
  replace H:=H.nf
  refine W.block ?_
  refine W.drawT (fun W=>St w W [cBlk b_6 [I x3.lo,I x3.hi] 34,cMk (D10z :: ([])),cBlk nb0_3 [I r00] 3,cBlk nb1_4 [I r10] 3,cBlk nb2_5 [Pq b_k02] 93,cBlk b_1 [.func (.func 82) #[] #[]] 104] R) (.q 1 (.q 2 (.q 3 (.l2 0 (.l 4 (.l 5 (.l 6 (.l 7 .nil)))) 4 (.l2 0 (.l 5 (.l 6 (.l 7 .nil))) 5 (.l 0 (.l 6 (.l 7 .nil)))))))) mixed (by decide +kernel) rfl ?_
  intro w16z hx_
  replace H:=H.ext hx_
  clear hx_
  refine ⟨(H.pk [0,3,4,5,6,7]),?_⟩
  refine kg 3 ?_
  refine t_l2 rfl rfl ?_ ?_
  ·skip
   refine kg 1 ?_
   have hvc_q27z:=Sl.cells (H.os 1)
   have hvo_q27z:=Sl.oc (H.os 1)
   refine s_nil ⟨(H.pk [0,3,4,5,6,7]),?_⟩
   refine t_l rfl ?_
   obtain ⟨r29z,hx28z,hM⟩:=M.e_bind hM
   refine s_callv (f:=82) rfl cf82 [.agg #[I x3.lo,I x3.hi]] rfl (zbA x3 hx28z _ (H.gt 8)) ?_
   rintro vq w30z ⟨r2,hr31z,hvq,H2_⟩
   subst hr31z
   subst vq
   try dsimp only at hM
   replace H:=H.bk H2_
   clear H2_
   refine s_nil ⟨(H.pk [0,3,4,5,6,7]),?_⟩
   refine t_l rfl ?_
   refine t_bs (α:=Int) T22 [I r2] [(r2:Int)] H rfl (.cons rfl (Flat.rep_enc _ (r2:Int))<|.nil) rfl rfl rfl ?_
   intro v32z w33z H
   have hvc_q34z:=Sl.cells (H.os 0)
   have hvo_q34z:=Sl.oc (H.os 0)
   refine s_nil ⟨(H.pk [1,4,5,6,7,8]),?_⟩
   refine t_l rfl ?_
   obtain ⟨sd35z,hM⟩:=M.e_grd hM
   simp only [Bool.and_eq_true,decide_eq_true_eq] at sd35z
   refine t_app (α:=Int) (k:=2) (l:=l) (l2:=[(r2:Int)]) (l':=l++([(r2:Int)])) (vy:=v32z) T22 rfl H rfl rfl rfl (H.os 0) (H.ol 0) (rfl) (by first | omega | (simp only [List.length_nil] at *; omega)) ?_
   intro v36z w37z H
   replace H:=H.nf
   have hvc_q38z:=Sl.cells (H.os 2)
   have hvo_q38z:=Sl.oc (H.os 2)
   refine s_nil ⟨(H.pk [1,4,5,6,7,8]),?_⟩
   refine t_l rfl ?_
   refine t_sw 3 0 [v36z] v36z H rfl rfl Sz22 (Sl.cells (H.os 2)) rfl rfl (by simp only [List.all_cons,List.all_nil,Bool.true_and,Bool.and_true,Sl.oc (H.os 2)]; try rfl) ?_
   intro w39z H
   refine s_nil ⟨(H.pk [1,4,5,6,7,8]),?_⟩
   refine t_nil ?_
   exact ⟨l++([(r2:Int)]),[cOwn (α:=Int) 3 v36z (l++([(r2:Int)])),cBlk b_2 [v36z] 22],(M.e_pure hM).symm,⟨v36z,rfl⟩,H.pick [2,3,4,5,6,7,8] (by decide) rfl⟩
  skip
  obtain ⟨r41z,hx40z,hM⟩:=M.e_bind hM
  refine s_callv (f:=82) rfl cf82 [.agg #[I x3.lo,I x3.hi]] rfl (zbA x3 hx40z _ (H.gt 8)) ?_
  rintro vq w42z ⟨r2,hr43z,hvq,H2_⟩
  subst hr43z
  subst vq
  try dsimp only at hM
  replace H:=H.bk H2_
  clear H2_
  have hvc_q44z:=Sl.cells (H.os 1)
  have hvo_q44z:=Sl.oc (H.os 1)
  refine s_nil ⟨(H.pk [0,3,4,5,6,7]),?_⟩
  obtain ⟨sd47z,hM⟩:=M.e_grd hM
  simp only [Bool.and_eq_true,decide_eq_true_eq] at sd47z
  refine t_l2 rfl rfl ?_ ?_
  ·skip
   refine kg 1 ?_
   refine s_nil ⟨(H.pk [0,3,4,5,6,7]),?_⟩
   refine t_l rfl ?_
   refine t_bs (α:=Int) T22 [I r2] [(r2:Int)] H rfl (.cons rfl (Flat.rep_enc _ (r2:Int))<|.nil) rfl rfl rfl ?_
   intro v51z w52z H
   have hvc_q53z:=Sl.cells (H.os 0)
   have hvo_q53z:=Sl.oc (H.os 0)
   refine s_nil ⟨(H.pk [1,4,5,6,7,8]),?_⟩
   refine t_l rfl ?_
   refine t_app (α:=Int) (k:=2) (l:=l) (l2:=[(r2:Int)]) (l':=l++([(r2:Int)])) (vy:=v51z) T22 rfl H rfl rfl rfl (H.os 0) (H.ol 0) (rfl) (by first | omega | (simp only [List.length_nil] at *; omega)) ?_
   intro v54z w55z H
   replace H:=H.nf
   have hvc_q56z:=Sl.cells (H.os 2)
   have hvo_q56z:=Sl.oc (H.os 2)
   refine s_nil ⟨(H.pk [1,4,5,6,7,8]),?_⟩
   refine t_l rfl ?_
   refine t_sw 3 0 [v54z] v54z H rfl rfl Sz22 (Sl.cells (H.os 2)) rfl rfl (by simp only [List.all_cons,List.all_nil,Bool.true_and,Bool.and_true,Sl.oc (H.os 2)]; try rfl) ?_
   intro w57z H
   refine s_nil ⟨(H.pk [1,4,5,6,7,8]),?_⟩
   refine t_nil ?_
   exact ⟨l++([(r2:Int)]),[cOwn (α:=Int) 3 v54z (l++([(r2:Int)])),cBlk b_2 [v54z] 22],(M.e_pure hM).symm,⟨v54z,rfl⟩,H.pick [2,3,4,5,6,7,8] (by decide) rfl⟩
  skip
  refine t_bs (α:=Int) T22 [I r2] [(r2:Int)] H rfl (.cons rfl (Flat.rep_enc _ (r2:Int))<|.nil) rfl rfl rfl ?_
  intro v58z w59z H
  have hvc_q60z:=Sl.cells (H.os 0)
  have hvo_q60z:=Sl.oc (H.os 0)
  refine s_nil ⟨(H.pk [1,4,5,6,7,8]),?_⟩
  refine t_l rfl ?_
  refine kg 1 ?_
  refine s_nil ⟨(H.pk [1,4,5,6,7,8]),?_⟩
  refine t_l rfl ?_
  refine t_app (α:=Int) (k:=2) (l:=l) (l2:=[(r2:Int)]) (l':=l++([(r2:Int)])) (vy:=v58z) T22 rfl H rfl rfl rfl (H.os 0) (H.ol 0) (rfl) (by first | omega | (simp only [List.length_nil] at *; omega)) ?_
  intro v61z w62z H
  replace H:=H.nf
  have hvc_q63z:=Sl.cells (H.os 2)
  have hvo_q63z:=Sl.oc (H.os 2)
  refine s_nil ⟨(H.pk [1,4,5,6,7,8]),?_⟩
  refine t_l rfl ?_
  refine t_sw 3 0 [v61z] v61z H rfl rfl Sz22 (Sl.cells (H.os 2)) rfl rfl (by simp only [List.all_cons,List.all_nil,Bool.true_and,Bool.and_true,Sl.oc (H.os 2)]; try rfl) ?_
  intro w64z H
  refine s_nil ⟨(H.pk [1,4,5,6,7,8]),?_⟩
  refine t_nil ?_
  exact ⟨l++([(r2:Int)]),[cOwn (α:=Int) 3 v61z (l++([(r2:Int)])),cBlk b_2 [v61z] 22],(M.e_pure hM).symm,⟨v61z,rfl⟩,H.pick [2,3,4,5,6,7,8] (by decide) rfl⟩
 replace H:St w w12z (cAll (cObj l9z (.loop r11z) :: [cOwn (α:=Int) 3 (.slice none 0 0) ([]),cBlk b_2 [(.slice none 0 0)] 22]) :: [cMk (D10z :: ([])),cBlk nb0_3 [I r00] 3,cBlk nb1_4 [I r10] 3,cBlk nb2_5 [Pq b_k02] 93,cBlk b_1 [.func (.func 82) #[] #[]] 104]) R:=St.bundleB (A:=cObj l9z (.loop r11z) :: [cOwn (α:=Int) 3 (.slice none 0 0) ([]),cBlk b_2 [(.slice none 0 0)] 22]) (T:=[cMk (D10z :: ([])),cBlk nb0_3 [I r00] 3,cBlk nb1_4 [I r10] 3,cBlk nb2_5 [Pq b_k02] 93,cBlk b_1 [.func (.func 82) #[] #[]] 104]) rfl (H.pk [0,2,3,1,4,5,6,7])
 refine (zaE (M.yl zay) (.inl ([])) r00 r10 k020 k021 k022 k023 k024 hYC ⟨_,rfl,⟨(.slice none 0 0),rfl⟩⟩ (Has.here (k:=1) rfl) (Has.here (k:=2) rfl) (hC_k020.app _) hs_k020 (hC_k021.app _) hs_k021 (h_b_k024.app _) (h_b_k02.app _) (Has.here (k:=3) rfl) hx8z _ (H.gt 5)).mono ?_
 rintro vq w65z ⟨t69z,Ls67z,hq70z,hvq,H2_,hY68z⟩
 subst hq70z
 replace H:=H.back H2_ rfl
 clear H2_ hYC
 rcases t69z with l | _
 ·try dsimp only at hM
  obtain ⟨_,rfl,v_l,rfl⟩:=hY68z
  refine ⟨_,[cOwn (α:=Int) 3 v_l l,cBlk b_2 [v_l] 22,cBlk nb0_3 [I r00] 3,cBlk nb1_4 [I r10] 3,cBlk nb2_5 [Pq b_k02] 93,cBlk b_1 [.func (.func 82) #[] #[]] 104],H.unbundle.pick [0,3,1,2,4,5,6,7] (by decide) rfl,hr13z.nb,?_⟩
  intro w66z H
  rw [hr13z.pd]
  replace H:=H.nf
  try simp only []
  refine WD.seq ?_
  refine WD.of ?_
  obtain ⟨sd72z,hM⟩:=M.e_grd hM
  simp only [Bool.and_eq_true,decide_eq_true_eq] at sd72z
  refine kg 2 ?_
  refine s_call cf55 [v_l] rfl (sort_any (H.get (k:=1) rfl) (by omega)) ?_
  rintro _ w71z ⟨rfl,ho_,kp_,hs_⟩
  replace H:St w w71z [cMk (D10z :: ([])),cOwn (α:=Int) 3 v_l (isort l),cBlk b_2 [v_l] 22,cBlk nb0_3 [I r00] 3,cBlk nb1_4 [I r10] 3,cBlk nb2_5 [Pq b_k02] 93,cBlk b_1 [.func (.func 82) #[] #[]] 104] R:=H.sorted (k:=1) rfl ho_ kp_ hs_ rfl
  clear ho_ kp_ hs_
  refine s_nil ?_
  refine WD.seq ?_
  refine WD.of ?_
  have hl73z:=((H.os 1)).len_le
  obtain ⟨sd74z,hM⟩:=M.e_grd hM
  simp only [Bool.and_eq_true,decide_eq_true_eq] at sd74z
  obtain ⟨sd75z,hM⟩:=M.e_grd hM
  simp only [Bool.and_eq_true,decide_eq_true_eq] at sd75z
  refine kg 10 ?_
  refine WD.of ?_
  refine W.ret ?_
  refine bodyD_r (H.pk [0,1,2,3,4,5,6]) ?_
  intro w76z H
  replace H:=H.nf
  have hr_:=M.e_pure hM
  exact ⟨_,resE_tmp rfl,⟨((isort l).getD (Int.toNat (((isort l).length:Int)-k32)) 0),hr_,rfl,(H.pk [])⟩⟩
 obtain ⟨_,_,h_⟩:=hY68z; exact h_.elim

def zaK:(List Int)->(Int × Span)->M ((List Int) ⊕ Unit):=fun l (x2,x3) =>
  M.bind (zbO x3) fun r2 =>
  M.grd (decide ((l.length+([(r2:Int)]).length)*8<=140737488355328)) <|
  M.pure (.inl (l++([(r2:Int)])))
def zbm (k020:List Yr) (k021:List Old10) (k022:Int) (k023:Int) (k024:List (Int × Span)) (k12:Int) (k22:Int) (k32:Int):M Int :=
  M.bind (zaf k020 k021 k022 k023 k024 k12 k22) fun (r00,r10) =>
  M.bind (zaj (M.yl zaK) (.inl ([])) r00 r10 k020 k021 k022 k023 k024) fun x_=>match x_ with
  | .inl l=>(
  M.grd (decide (l.length<=1000000)) <|
  M.grd (decide ((-9223372036854775808:Int)<=(((isort l).length:Int)-k32))&&decide ((((isort l).length:Int)-k32)<=(9223372036854775807:Int))) <|
  M.grd (decide ((0:Int)<=(((isort l).length:Int)-k32))&&decide ((((isort l).length:Int)-k32)<((isort l).length:Int))) <|
  M.pure ((isort l).getD (Int.toNat (((isort l).length:Int)-k32)) 0))
  | .inr _=>M.fail
theorem zd7 {R:List Chunk} {b_k0:Nat} {b_k02:Nat} {C_k020:Cells} {v_k020:Value} {C_k021:Cells} {v_k021:Value} {b_k024:Nat} {b_k1:Nat} {b_k2:Nat} {b_k3:Nat} (k020:List Yr) (k021:List Old10) (k022:Int) (k023:Int) (k024:List (Int × Span)) (k12:Int) (k22:Int) (k32:Int) (hC_k020:Reads R C_k020) (hs_k020:Sl C_k020 v_k020 k020) (hC_k021:Reads R C_k021) (hs_k021:Sl C_k021 v_k021 k021) (h_b_k024:Has R (cMl I encSp b_k024 k024)) (h_b_k02:Has R (cBlk b_k02 [v_k020,v_k021,I k022,I k023,.map (some b_k024)] 132)) (h_b_k0:Has R (cBlk b_k0 [Pq b_k02] 93)) (h_b_k1:Has R (cBlk b_k1 [I k12] 3)) (h_b_k2:Has R (cBlk b_k2 [I k22] 3)) (h_b_k3:Has R (cBlk b_k3 [I k32] 3)) {r:Int} (hM:(zbm k020 k021 k022 k023 k024 k12 k22 k32).Ends r) (w:World) (H:St w w [] R):Ret Tryz.prog 54 #[.agg #[.func (.func 83) #[] #[]],Pq b_k0,Pq b_k1,Pq b_k2,Pq b_k3] w fun v w'=>∃ (y0:Int),y0=r/\v=I y0/\St w w' [] R:=by
 refine ret_of_WD Tryz.func54 rfl rfl rfl ?_
 replace H:St w w [cMk ([])] R:=H.mk0
 have hl_k020:=hs_k020.len_le
 have hl_k021:=hs_k021.len_le
 unfold zbm at hM
 refine WD.seq ?_
 refine WD.of ?_
 refine W.region rfl ?_
 refine t_box (v:=.agg #[.func (.func 83) #[] #[]]) (cs:=[.func (.func 83) #[] #[]]) H rfl rfl ?_
 intro b_1 w1z H
 refine kg 2 ?_
 refine WD.seq ?_
 refine WD.of ?_
 refine W.region rfl ?_
 refine t_alloc (cs:=[.slice none 0 0]) H Al22 rfl ?_
 intro b_2 w2z H
 refine s_nil ?_
 refine WD.seq ?_
 refine WD.seq ?_
 refine WD.of ?_
 refine kg 4 ?_
 obtain ⟨r4z,hx3z,hM⟩:=M.e_bind hM
 refine s_call cf50 [Pq b_k02,I k12,I k22] rfl (zaz k020 k021 k022 k023 k024 k12 k22 (hC_k020.app _) hs_k020 (hC_k021.app _) hs_k021 (h_b_k024.app _) (h_b_k02.app _) hx3z _ (H.gt 3)) ?_
 rintro vq w5z ⟨r00,r10,nb0_3,nb1_4,nb2_5,hr6z,hvq,H2_⟩
 subst hr6z
 subst vq
 try dsimp only at hM
 replace H:=H.bk H2_
 clear H2_
 refine s_nil ?_
 refine WD.block ?_
 replace H:=H.nilOwn (α:=Int) 3
 obtain ⟨t7z,hx8z,hM⟩:=M.e_bind hM
 refine WD.range (L:=[cOwn (α:=Int) 3 (.slice none 0 0) ([]),cBlk b_2 [(.slice none 0 0)] 22,cBlk nb0_3 [I r00] 3,cBlk nb1_4 [I r10] 3,cBlk nb2_5 [Pq b_k02] 93,cBlk b_1 [.func (.func 83) #[] #[]] 104]) [Pq nb0_3,Pq nb1_4,Pq nb2_5] (H.pk [6,0,4,1,2,3,5]) rfl cf81 ?_
 intro l9z D10z r11z w12z hr13z H
 have hYC:YieldC Tryz.prog ([cMk (D10z :: ([])),cBlk nb0_3 [I r00] 3,cBlk nb1_4 [I r10] 3,cBlk nb2_5 [Pq b_k02] 93,cBlk b_1 [.func (.func 83) #[] #[]] 104]++R) arISpan (yJ l9z r11z (fun l Ls_=>∃ (v_l:Value),Ls_=[cOwn (α:=Int) 3 v_l l,cBlk b_2 [v_l] 22]) (fun (_:Unit) _=>False) (fun _=>.ret)) (.func (.yield l9z) #[] #[]) (M.yl zaK):=by
  refine YieldC.mk2 hr13z (fun l Ls_=>∃ (v_l:Value),Ls_=[cOwn (α:=Int) 3 v_l l,cBlk b_2 [v_l] 22]) (fun (_:Unit) _=>False) (fun _=>.ret) zaK (by rintro l _ h_; obtain ⟨_,rfl⟩:=h_; rfl) (fun _ _ h_=>h_.elim) rfl (arISpan_len rfl) ?_
  intro C_ vs_ x_ hA_
  obtain ⟨x2,x3⟩:=x_
  obtain rfl:=hA_
  intro w R hR_ Ls_ s_ r hY_ hM H
  skip
  obtain ⟨l,hs_eq_⟩:∃ y_,y_=s_:=⟨_,rfl⟩
  subst hs_eq_
  obtain ⟨v_l,rfl⟩:=hY_
  replace H:=H.nf
  refine W.region rfl ?_
  refine t_alloc (cs:=[I 0,I 0]) H Al34 rfl ?_
  intro b_6 w14z H
  refine t_sw 0 0 [I x3.lo,I x3.hi] (.agg #[I x3.lo,I x3.hi]) H rfl rfl Sz34 rfl rfl rfl rfl ?_
  intro w15z H
  refine s_nil ?_
  refine ⟨rfl,[cBlk b_6 [I x3.lo,I x3.hi] 34],H.pick [0,1,2,3,4,5,6,7] (by decide) rfl,?_⟩
  clear H hR_
  intro w R hR_ H
  replace hC_k020:=hC_k020.sub hR_
  replace hC_k021:=hC_k021.sub hR_
  replace h_b_k024:=h_b_k024.sub hR_
  replace h_b_k02:=h_b_k02.sub hR_
  replace h_b_k0:=h_b_k0.sub hR_
  replace h_b_k1:=h_b_k1.sub hR_
  replace h_b_k2:=h_b_k2.sub hR_
  replace h_b_k3:=h_b_k3.sub hR_
  replace hM:(zaK l (x2,x3)).Ends r:=hM
  simp only [zaK] at hM
  replace H:=H.nf
  refine W.block ?_
  refine W.drawT (fun W=>St w W [cBlk b_6 [I x3.lo,I x3.hi] 34,cMk (D10z :: ([])),cBlk nb0_3 [I r00] 3,cBlk nb1_4 [I r10] 3,cBlk nb2_5 [Pq b_k02] 93,cBlk b_1 [.func (.func 83) #[] #[]] 104] R) (.q 1 (.q 2 (.q 3 (.l2 0 (.l 4 (.l 5 (.l 6 (.l 7 .nil)))) 4 (.l2 0 (.l 5 (.l 6 (.l 7 .nil))) 5 (.l 0 (.l 6 (.l 7 .nil)))))))) mixed (by decide +kernel) rfl ?_
  intro w16z hx_
  replace H:=H.ext hx_
  clear hx_
  refine ⟨(H.pk [0,3,4,5,6,7]),?_⟩
  refine kg 3 ?_
  refine t_l2 rfl rfl ?_ ?_
  ·skip
   refine kg 1 ?_
   have hvc_q27z:=Sl.cells (H.os 1)
   have hvo_q27z:=Sl.oc (H.os 1)
   refine s_nil ⟨(H.pk [0,3,4,5,6,7]),?_⟩
   refine t_l rfl ?_
   obtain ⟨r29z,hx28z,hM⟩:=M.e_bind hM
   refine s_callv (f:=83) rfl cf83 [.agg #[I x3.lo,I x3.hi]] rfl (zbk x3 hx28z _ (H.gt 8)) ?_
   rintro vq w30z ⟨r2,hr31z,hvq,H2_⟩
   subst hr31z
   subst vq
   try dsimp only at hM
   replace H:=H.bk H2_
   clear H2_
   refine s_nil ⟨(H.pk [0,3,4,5,6,7]),?_⟩
   refine t_l rfl ?_
   refine t_bs (α:=Int) T22 [I r2] [(r2:Int)] H rfl (.cons rfl (Flat.rep_enc _ (r2:Int))<|.nil) rfl rfl rfl ?_
   intro v32z w33z H
   have hvc_q34z:=Sl.cells (H.os 0)
   have hvo_q34z:=Sl.oc (H.os 0)
   refine s_nil ⟨(H.pk [1,4,5,6,7,8]),?_⟩
   refine t_l rfl ?_
   obtain ⟨sd35z,hM⟩:=M.e_grd hM
   simp only [Bool.and_eq_true,decide_eq_true_eq] at sd35z
   refine t_app (α:=Int) (k:=2) (l:=l) (l2:=[(r2:Int)]) (l':=l++([(r2:Int)])) (vy:=v32z) T22 rfl H rfl rfl rfl (H.os 0) (H.ol 0) (rfl) (by first | omega | (simp only [List.length_nil] at *; omega)) ?_
   intro v36z w37z H
   replace H:=H.nf
   have hvc_q38z:=Sl.cells (H.os 2)
   have hvo_q38z:=Sl.oc (H.os 2)
   refine s_nil ⟨(H.pk [1,4,5,6,7,8]),?_⟩
   refine t_l rfl ?_
   refine t_sw 3 0 [v36z] v36z H rfl rfl Sz22 (Sl.cells (H.os 2)) rfl rfl (by simp only [List.all_cons,List.all_nil,Bool.true_and,Bool.and_true,Sl.oc (H.os 2)]; try rfl) ?_
   intro w39z H
   refine s_nil ⟨(H.pk [1,4,5,6,7,8]),?_⟩
   refine t_nil ?_
   exact ⟨l++([(r2:Int)]),[cOwn (α:=Int) 3 v36z (l++([(r2:Int)])),cBlk b_2 [v36z] 22],(M.e_pure hM).symm,⟨v36z,rfl⟩,H.pick [2,3,4,5,6,7,8] (by decide) rfl⟩
  skip
  obtain ⟨r41z,hx40z,hM⟩:=M.e_bind hM
  refine s_callv (f:=83) rfl cf83 [.agg #[I x3.lo,I x3.hi]] rfl (zbk x3 hx40z _ (H.gt 8)) ?_
  rintro vq w42z ⟨r2,hr43z,hvq,H2_⟩
  subst hr43z
  subst vq
  try dsimp only at hM
  replace H:=H.bk H2_
  clear H2_
  have hvc_q44z:=Sl.cells (H.os 1)
  have hvo_q44z:=Sl.oc (H.os 1)
  refine s_nil ⟨(H.pk [0,3,4,5,6,7]),?_⟩
  obtain ⟨sd47z,hM⟩:=M.e_grd hM
  simp only [Bool.and_eq_true,decide_eq_true_eq] at sd47z
  refine t_l2 rfl rfl ?_ ?_
  ·skip
   refine kg 1 ?_
   refine s_nil ⟨(H.pk [0,3,4,5,6,7]),?_⟩
   refine t_l rfl ?_
   refine t_bs (α:=Int) T22 [I r2] [(r2:Int)] H rfl (.cons rfl (Flat.rep_enc _ (r2:Int))<|.nil) rfl rfl rfl ?_
   intro v51z w52z H
   have hvc_q53z:=Sl.cells (H.os 0)
   have hvo_q53z:=Sl.oc (H.os 0)
   refine s_nil ⟨(H.pk [1,4,5,6,7,8]),?_⟩
   refine t_l rfl ?_
   refine t_app (α:=Int) (k:=2) (l:=l) (l2:=[(r2:Int)]) (l':=l++([(r2:Int)])) (vy:=v51z) T22 rfl H rfl rfl rfl (H.os 0) (H.ol 0) (rfl) (by first | omega | (simp only [List.length_nil] at *; omega)) ?_
   intro v54z w55z H
   replace H:=H.nf
   have hvc_q56z:=Sl.cells (H.os 2)
   have hvo_q56z:=Sl.oc (H.os 2)
   refine s_nil ⟨(H.pk [1,4,5,6,7,8]),?_⟩
   refine t_l rfl ?_
   refine t_sw 3 0 [v54z] v54z H rfl rfl Sz22 (Sl.cells (H.os 2)) rfl rfl (by simp only [List.all_cons,List.all_nil,Bool.true_and,Bool.and_true,Sl.oc (H.os 2)]; try rfl) ?_
   intro w57z H
   refine s_nil ⟨(H.pk [1,4,5,6,7,8]),?_⟩
   refine t_nil ?_
   exact ⟨l++([(r2:Int)]),[cOwn (α:=Int) 3 v54z (l++([(r2:Int)])),cBlk b_2 [v54z] 22],(M.e_pure hM).symm,⟨v54z,rfl⟩,H.pick [2,3,4,5,6,7,8] (by decide) rfl⟩
  skip
  refine t_bs (α:=Int) T22 [I r2] [(r2:Int)] H rfl (.cons rfl (Flat.rep_enc _ (r2:Int))<|.nil) rfl rfl rfl ?_
  intro v58z w59z H
  have hvc_q60z:=Sl.cells (H.os 0)
  have hvo_q60z:=Sl.oc (H.os 0)
  refine s_nil ⟨(H.pk [1,4,5,6,7,8]),?_⟩
  refine t_l rfl ?_
  refine kg 1 ?_
  refine s_nil ⟨(H.pk [1,4,5,6,7,8]),?_⟩
  refine t_l rfl ?_
  refine t_app (α:=Int) (k:=2) (l:=l) (l2:=[(r2:Int)]) (l':=l++([(r2:Int)])) (vy:=v58z) T22 rfl H rfl rfl rfl (H.os 0) (H.ol 0) (rfl) (by first | omega | (simp only [List.length_nil] at *; omega)) ?_
  intro v61z w62z H
  replace H:=H.nf
  have hvc_q63z:=Sl.cells (H.os 2)
  have hvo_q63z:=Sl.oc (H.os 2)
  refine s_nil ⟨(H.pk [1,4,5,6,7,8]),?_⟩
  refine t_l rfl ?_
  refine t_sw 3 0 [v61z] v61z H rfl rfl Sz22 (Sl.cells (H.os 2)) rfl rfl (by simp only [List.all_cons,List.all_nil,Bool.true_and,Bool.and_true,Sl.oc (H.os 2)]; try rfl) ?_
  intro w64z H
  refine s_nil ⟨(H.pk [1,4,5,6,7,8]),?_⟩
  refine t_nil ?_
  exact ⟨l++([(r2:Int)]),[cOwn (α:=Int) 3 v61z (l++([(r2:Int)])),cBlk b_2 [v61z] 22],(M.e_pure hM).symm,⟨v61z,rfl⟩,H.pick [2,3,4,5,6,7,8] (by decide) rfl⟩
 replace H:St w w12z (cAll (cObj l9z (.loop r11z) :: [cOwn (α:=Int) 3 (.slice none 0 0) ([]),cBlk b_2 [(.slice none 0 0)] 22]) :: [cMk (D10z :: ([])),cBlk nb0_3 [I r00] 3,cBlk nb1_4 [I r10] 3,cBlk nb2_5 [Pq b_k02] 93,cBlk b_1 [.func (.func 83) #[] #[]] 104]) R:=St.bundleB (A:=cObj l9z (.loop r11z) :: [cOwn (α:=Int) 3 (.slice none 0 0) ([]),cBlk b_2 [(.slice none 0 0)] 22]) (T:=[cMk (D10z :: ([])),cBlk nb0_3 [I r00] 3,cBlk nb1_4 [I r10] 3,cBlk nb2_5 [Pq b_k02] 93,cBlk b_1 [.func (.func 83) #[] #[]] 104]) rfl (H.pk [0,2,3,1,4,5,6,7])
 refine (zaE (M.yl zaK) (.inl ([])) r00 r10 k020 k021 k022 k023 k024 hYC ⟨_,rfl,⟨(.slice none 0 0),rfl⟩⟩ (Has.here (k:=1) rfl) (Has.here (k:=2) rfl) (hC_k020.app _) hs_k020 (hC_k021.app _) hs_k021 (h_b_k024.app _) (h_b_k02.app _) (Has.here (k:=3) rfl) hx8z _ (H.gt 5)).mono ?_
 rintro vq w65z ⟨t69z,Ls67z,hq70z,hvq,H2_,hY68z⟩
 subst hq70z
 replace H:=H.back H2_ rfl
 clear H2_ hYC
 rcases t69z with l | _
 ·try dsimp only at hM
  obtain ⟨_,rfl,v_l,rfl⟩:=hY68z
  refine ⟨_,[cOwn (α:=Int) 3 v_l l,cBlk b_2 [v_l] 22,cBlk nb0_3 [I r00] 3,cBlk nb1_4 [I r10] 3,cBlk nb2_5 [Pq b_k02] 93,cBlk b_1 [.func (.func 83) #[] #[]] 104],H.unbundle.pick [0,3,1,2,4,5,6,7] (by decide) rfl,hr13z.nb,?_⟩
  intro w66z H
  rw [hr13z.pd]
  replace H:=H.nf
  try simp only []
  refine WD.seq ?_
  refine WD.of ?_
  obtain ⟨sd72z,hM⟩:=M.e_grd hM
  simp only [Bool.and_eq_true,decide_eq_true_eq] at sd72z
  refine kg 2 ?_
  refine s_call cf55 [v_l] rfl (sort_any (H.get (k:=1) rfl) (by omega)) ?_
  rintro _ w71z ⟨rfl,ho_,kp_,hs_⟩
  replace H:St w w71z [cMk (D10z :: ([])),cOwn (α:=Int) 3 v_l (isort l),cBlk b_2 [v_l] 22,cBlk nb0_3 [I r00] 3,cBlk nb1_4 [I r10] 3,cBlk nb2_5 [Pq b_k02] 93,cBlk b_1 [.func (.func 83) #[] #[]] 104] R:=H.sorted (k:=1) rfl ho_ kp_ hs_ rfl
  clear ho_ kp_ hs_
  refine s_nil ?_
  refine WD.seq ?_
  refine WD.of ?_
  have hl73z:=((H.os 1)).len_le
  obtain ⟨sd74z,hM⟩:=M.e_grd hM
  simp only [Bool.and_eq_true,decide_eq_true_eq] at sd74z
  obtain ⟨sd75z,hM⟩:=M.e_grd hM
  simp only [Bool.and_eq_true,decide_eq_true_eq] at sd75z
  refine kg 10 ?_
  refine WD.of ?_
  refine W.ret ?_
  refine bodyD_r (H.pk [0,1,2,3,4,5,6]) ?_
  intro w76z H
  replace H:=H.nf
  have hr_:=M.e_pure hM
  exact ⟨_,resE_tmp rfl,⟨((isort l).getD (Int.toNat (((isort l).length:Int)-k32)) 0),hr_,rfl,(H.pk [])⟩⟩
 obtain ⟨_,_,h_⟩:=hY68z; exact h_.elim

def zap (b_Years:List Yr) (b_Olds:List Old10) (b_First:Int) (b_Last:Int) (from_:Int) (to_:Int) (times:Int):M (Int × Int × Int) :=
  M.bind (zaR b_Years b_Olds b_First b_Last from_ to_ times 1 (wr64 ((wr64 (to_-from_))+1))) fun x_=>match x_ with
  | (.inl r1)=>(
  bif r1 != 0 then (
  M.pure (0,0,r1))
  else (
  M.fail))
  | (.inr (r02,r03,r04,r12))=>(
  bif r12 != 0 then (
  M.fail)
  else (
  M.bind (zcE) fun (_:Unit) =>
  M.bind (zbu b_Years b_Olds r02 r03 r04 from_ to_ times) fun r2 =>
  M.bind (zcb) fun (_:Unit) =>
  M.bind (zbm b_Years b_Olds r02 r03 r04 from_ to_ times) fun r3 =>
  M.pure (r2,r3,0)))
theorem zdp {R:List Chunk} {C_b_Years:Cells} {v_b_Years:Value} {C_b_Olds:Cells} {v_b_Olds:Value} (b_Years:List Yr) (b_Olds:List Old10) (b_First:Int) (b_Last:Int) (from_:Int) (to_:Int) (times:Int) (hC_b_Years:Reads R C_b_Years) (hs_b_Years:Sl C_b_Years v_b_Years b_Years) (hC_b_Olds:Reads R C_b_Olds) (hs_b_Olds:Sl C_b_Olds v_b_Olds b_Olds) {r:(Int × Int × Int)} (hM:(zap b_Years b_Olds b_First b_Last from_ to_ times).Ends r) (w:World) (H:St w w [] R):Ret Tryz.prog 14 #[.agg #[v_b_Years,v_b_Olds,I b_First,I b_Last],I from_,I to_,I times] w fun v w'=>∃ (y0:Int) (y1:Int) (y2:Int),(y0,y1,y2)=r/\v = .tuple #[.agg #[I y0,I y1],I y2]/\St w w' [] R:=by
 refine ret_of_W Tryz.func14 rfl rfl rfl ?_
 refine kg 2 ?_
 refine t_box (v:=.agg #[v_b_Years,v_b_Olds,I b_First,I b_Last]) (cs:=[v_b_Years,v_b_Olds,I b_First,I b_Last]) H rfl rfl ?_
 intro b_1 w1z H
 refine t_box (v:=I from_) (cs:=[I from_]) H rfl rfl ?_
 intro b_2 w2z H
 refine t_box (v:=I to_) (cs:=[I to_]) H rfl rfl ?_
 intro b_3 w3z H
 refine t_box (v:=I times) (cs:=[I times]) H rfl rfl ?_
 intro b_4 w4z H
 refine t_alloc (cs:=[I 0,I 0]) H Al34 rfl ?_
 intro b_5 w5z H
 refine kg 10 ?_
 refine s_val (x_subW (a:=to_) (b:=from_) rfl rfl) ?_
 refine s_val (x_addW (a:=wr64 (to_-from_)) (b:=1) rfl rfl) ?_
 obtain ⟨r7z,hx6z,hM⟩:=M.e_bind hM
 refine s_call cf48 [.agg #[v_b_Years,v_b_Olds,I b_First,I b_Last],I from_,I to_,I times,I 1,I (wr64 ((wr64 (to_-from_))+1))] rfl (zdd b_Years b_Olds b_First b_Last from_ to_ times 1 (wr64 ((wr64 (to_-from_))+1)) (hC_b_Years.app _) hs_b_Years (hC_b_Olds.app _) hs_b_Olds hx6z _ (H.gt 5)) ?_
 rintro vq w8z (⟨r1,hr9z,hvq,H2_⟩ | ⟨r02,r03,r04,r12,nb0_6,nb1_7,hr10z,hvq,H2_⟩)
 ·subst hr9z
  subst vq
  try dsimp only at hM
  replace H:=H.bk H2_
  clear H2_
  refine kg 3 ?_
  refine t_alloc (cs:=[.pointer none]) H Al93 rfl ?_
  intro b_8 w11z H
  refine t_sw 0 0 [.pointer none] (.pointer none) H rfl rfl Sz93 rfl rfl rfl rfl ?_
  intro w12z H
  refine kg 8 ?_
  refine W.cond (r1 != 0) rfl (fun c13z=>?_) (fun c13z=>?_)
  ·replace hM:=M.e_t hM c13z
   simp only [qy1,qy2,qy3,qy4,qy5,qy6,ne_eq,qy7] at c13z
   refine kg 2 ?_
   refine s_val (x_bld (ps:=[]) (zs:=[I 0,I 0]) (L':=[I 0,I 0]) rfl Tryz.underlying34 Al34 rfl (Bd34 Tryz.underlying34) (.nil)) ?_
   refine kg 1 ?_
   refine t_sw 1 0 [I 0,I 0] (.agg #[I 0,I 0]) H rfl rfl Sz34 rfl rfl rfl rfl ?_
   intro w14z H
   refine kg 2 ?_
   refine W.ret ?_
   have hb15z:=(H.bl 1)
   have hr_:=M.e_pure hM
   exact ⟨_,(resE_ofn (vs:=[.agg #[I 0,I 0],I r1]) rfl rfl (.cell (v:=.agg #[I 0,I 0]) rfl (run_loadVar_ag (ds:=[I 0,I 0]) Ag34 Sz34 hb15z rfl rfl)<|.tmp (v:=I r1) rfl<|.nil)),⟨0,0,r1,hr_,rfl,(H.pk [])⟩⟩
  replace hM:=M.e_f hM c13z
  exact (M.e_fail hM).elim
 subst hr10z
 subst vq
 try dsimp only at hM
 replace H:=H.bk H2_
 clear H2_
 refine kg 3 ?_
 refine t_alloc (cs:=[.pointer none]) H Al93 rfl ?_
 intro b_8 w16z H
 refine t_sw 0 0 [Pq nb0_6] (Pq nb0_6) H rfl rfl Sz93 rfl rfl rfl rfl ?_
 intro w17z H
 refine kg 8 ?_
 refine W.cond (r12 != 0) rfl (fun c18z=>?_) (fun c18z=>?_)
 ·replace hM:=M.e_t hM c18z
  exact (M.e_fail hM).elim
 replace hM:=M.e_f hM c18z
 simp only [qy1,qy2,qy3,qy4,qy5,qy6,ne_eq,qy7] at c18z
 refine kg 3 ?_
 refine s_val (x_mf (fs:=[]) (cs:=[Pq b_8,Pq b_2,Pq b_3,Pq b_4]) rfl rfl) ?_
 refine kg 5 ?_
 obtain ⟨r20z,hx19z,hM⟩:=M.e_bind hM
 refine s_call cf51 [] rfl (zdf hx19z _ (H.gt 8)) ?_
 rintro vq w21z ⟨hr22z,hvq,H2_⟩
 subst hr22z
 subst vq
 try dsimp only at hM
 replace H:=H.bk H2_
 clear H2_
 obtain ⟨r24z,hx23z,hM⟩:=M.e_bind hM
 refine s_callv (f:=54) rfl cf54 [.agg #[.func (.func 82) #[] #[]]] rfl (zd1 b_Years b_Olds r02 r03 r04 from_ to_ times (hC_b_Years.app _) hs_b_Years (hC_b_Olds.app _) hs_b_Olds (Has.here (k:=2) rfl) (Has.here (k:=1) rfl) (Has.here (k:=0) rfl) (Has.here (k:=6) rfl) (Has.here (k:=5) rfl) (Has.here (k:=4) rfl) hx23z _ (H.gt 8)) ?_
 rintro vq w25z ⟨r2,hr26z,hvq,H2_⟩
 subst hr26z
 subst vq
 try dsimp only at hM
 replace H:=H.bk H2_
 clear H2_
 refine kg 1 ?_
 obtain ⟨r28z,hx27z,hM⟩:=M.e_bind hM
 refine s_call cf52 [] rfl (zc7 hx27z _ (H.gt 8)) ?_
 rintro vq w29z ⟨hr30z,hvq,H2_⟩
 subst hr30z
 subst vq
 try dsimp only at hM
 replace H:=H.bk H2_
 clear H2_
 obtain ⟨r32z,hx31z,hM⟩:=M.e_bind hM
 refine s_callv (f:=54) rfl cf54 [.agg #[.func (.func 83) #[] #[]]] rfl (zd7 b_Years b_Olds r02 r03 r04 from_ to_ times (hC_b_Years.app _) hs_b_Years (hC_b_Olds.app _) hs_b_Olds (Has.here (k:=2) rfl) (Has.here (k:=1) rfl) (Has.here (k:=0) rfl) (Has.here (k:=6) rfl) (Has.here (k:=5) rfl) (Has.here (k:=4) rfl) hx31z _ (H.gt 8)) ?_
 rintro vq w33z ⟨r3,hr34z,hvq,H2_⟩
 subst hr34z
 subst vq
 try dsimp only at hM
 replace H:=H.bk H2_
 clear H2_
 refine s_val (x_bld (ps:=[(0,I r2),(1,I r3)]) (zs:=[I 0,I 0]) (L':=[I r2,I r3]) rfl Tryz.underlying34 Al34 rfl (Bd34 Tryz.underlying34) (.cons (cs:=[I r2]) rfl rfl rfl rfl rfl<|.cons (cs:=[I r3]) rfl rfl rfl rfl rfl<|.nil)) ?_
 refine t_sw 3 0 [I r2,I r3] (.agg #[I r2,I r3]) H rfl rfl Sz34 rfl rfl rfl rfl ?_
 intro w35z H
 refine kg 2 ?_
 refine W.ret ?_
 have hb36z:=(H.bl 3)
 have hr_:=M.e_pure hM
 exact ⟨_,(resE_ofn (vs:=[.agg #[I r2,I r3],I 0]) rfl rfl (.cell (v:=.agg #[I r2,I r3]) rfl (run_loadVar_ag (ds:=[I r2,I r3]) Ag34 Sz34 hb36z rfl rfl)<|.tmp (v:=I 0) rfl<|.nil)),⟨r2,r3,0,hr_,rfl,(H.pk [])⟩⟩

def zag:M Bool :=
  M.bind (zaF) fun r2 =>
  M.bind (zcx r2 7 200) fun (r0,r1,r22) =>
  M.bind (zaF) fun r3 =>
  M.bind (zbJ r3 7 200 ([(1:Int),(3:Int)])) fun (r02,r12) =>
  M.bind (zaF) fun r4 =>
  M.bind (zat r4 7 200 300 ([(0:Int),(100:Int),(120:Int),(80:Int)])) fun (r03,r13) =>
  M.bind (zaF) fun r5 =>
  M.bind (zat r5 7 200 300 ([(0:Int),(99:Int),(120:Int),(80:Int)])) fun (r04,r14) =>
  M.bind (M.opt (!((((r22 != 0)||(r12 != 0))||(r13 != 0))||(r14 != 0))) (zah r0 ([(0:Int),(2:Int),(3:Int)])) false) fun r6 =>
  bif (((((((((r22 != 0)||(r12 != 0))||(r13 != 0))||(r14 != 0))||(!r6))||(r1 != 300))||(r02 != 230))||(!r03))||r04) then (
  M.pure false)
  else (
  M.bind (zbQ) fun (r05,r15,r23,r32) =>
  M.bind (zak r05 r15 r23 r32 1900 1909 500) fun (r00,r01,r16) =>
  M.bind (zbQ) fun (r06,r17,r24,r33) =>
  M.bind (zak r06 r17 r24 r33 1900 1909 410) fun (r002,r012,r18) =>
  M.bind (zbQ) fun (r07,r19,r25,r34) =>
  M.bind (zaM r07 r19 r25 r34 410) fun (r003,r013,r10,r11,r26) =>
  M.bind (zbQ) fun (r08,r110,r27,r35) =>
  M.bind (zap r08 r110 r27 r35 1900 1906 2) fun (r004,r014,r111) =>
  M.pure (((((((((r16==0)&&(r18==0))&&(r26==0))&&(r111==0))&&(decide ((⟨(r00:Int),(r01:Int)⟩:Span)=(⟨(1:Int),(4:Int)⟩:Span))))&&(decide ((⟨(r002:Int),(r012:Int)⟩:Span)=(⟨(1:Int),(9:Int)⟩:Span))))&&(decide ((⟨(r003:Int),(r013:Int)⟩:Rto)=(⟨(1:Int),(10:Int)⟩:Rto))))&&(decide ((⟨(r10:Int),(r11:Int)⟩:Rto)=(⟨(9:Int),(10:Int)⟩:Rto))))&&(decide ((⟨(r004:Int),(r014:Int)⟩:Span)=(⟨(400:Int),(499:Int)⟩:Span)))))
theorem zar {R:List Chunk}    {r:Bool} (hM:(zag).Ends r) (w:World) (H:St w w [] R):Ret Tryz.prog 15 #[] w fun v w'=>∃ (y0:Bool),y0=r/\v=B y0/\St w w' [] R:=by
 refine ret_of_W Tryz.func15 rfl rfl rfl ?_
 refine kg 6 ?_
 obtain ⟨r2z,hx1z,hM⟩:=M.e_bind hM
 refine s_call cf4 [] rfl (zcj hx1z _ (H.gt 0)) ?_
 rintro vq w3z ⟨r2,u0_1,hr4z,hvq,H2_⟩
 subst hr4z
 subst vq
 try dsimp only at hM
 replace H:=H.bk H2_
 clear H2_
 obtain ⟨r6z,hx5z,hM⟩:=M.e_bind hM
 refine s_call cf22 [u0_1,I 7,I 200] rfl (zdF r2 7 200 (rdo 0) (H.os 0) hx5z _ (H.gt 1)) ?_
 rintro vq w7z ⟨r0,r1,r22,u0_2,hr8z,hvq,H2_⟩
 subst hr8z
 subst vq
 try dsimp only at hM
 replace H:=H.bk H2_
 clear H2_
 refine kg 10 ?_
 obtain ⟨r10z,hx9z,hM⟩:=M.e_bind hM
 refine s_call cf4 [] rfl (zcj hx9z _ (H.gt 2)) ?_
 rintro vq w11z ⟨r3,u0_3,hr12z,hvq,H2_⟩
 subst hr12z
 subst vq
 try dsimp only at hM
 replace H:=H.bk H2_
 clear H2_
 refine t_bs (α:=Int) T22 [I 1,I 3] [(1:Int),(3:Int)] H rfl (.cons rfl (Flat.rep_enc _ (1:Int))<|.cons rfl (Flat.rep_enc _ (3:Int))<|.nil) rfl rfl rfl ?_
 intro v13z w14z H
 obtain ⟨r16z,hx15z,hM⟩:=M.e_bind hM
 refine s_call cf20 [u0_3,I 7,I 200,v13z] rfl (zdE r3 7 200 ([(1:Int),(3:Int)]) (rdo 1) (H.os 1) (rdo 0) (H.os 0) hx15z _ (H.gt 4)) ?_
 rintro vq w17z ⟨r02,r12,hr18z,hvq,H2_⟩
 subst hr18z
 subst vq
 try dsimp only at hM
 replace H:=H.bk H2_
 clear H2_
 refine kg 8 ?_
 obtain ⟨r20z,hx19z,hM⟩:=M.e_bind hM
 refine s_call cf4 [] rfl (zcj hx19z _ (H.gt 4)) ?_
 rintro vq w21z ⟨r4,u0_5,hr22z,hvq,H2_⟩
 subst hr22z
 subst vq
 try dsimp only at hM
 replace H:=H.bk H2_
 clear H2_
 refine t_bs (α:=Int) T22 [I 0,I 100,I 120,I 80] [(0:Int),(100:Int),(120:Int),(80:Int)] H rfl (.cons rfl (Flat.rep_enc _ (0:Int))<|.cons rfl (Flat.rep_enc _ (100:Int))<|.cons rfl (Flat.rep_enc _ (120:Int))<|.cons rfl (Flat.rep_enc _ (80:Int))<|.nil) rfl rfl rfl ?_
 intro v23z w24z H
 obtain ⟨r26z,hx25z,hM⟩:=M.e_bind hM
 refine s_call cf26 [u0_5,I 7,I 200,I 300,v23z] rfl (zc4 r4 7 200 300 ([(0:Int),(100:Int),(120:Int),(80:Int)]) (rdo 1) (H.os 1) (rdo 0) (H.os 0) hx25z _ (H.gt 6)) ?_
 rintro vq w27z ⟨r03,r13,hr28z,hvq,H2_⟩
 subst hr28z
 subst vq
 try dsimp only at hM
 replace H:=H.bk H2_
 clear H2_
 refine kg 8 ?_
 obtain ⟨r30z,hx29z,hM⟩:=M.e_bind hM
 refine s_call cf4 [] rfl (zcj hx29z _ (H.gt 6)) ?_
 rintro vq w31z ⟨r5,u0_7,hr32z,hvq,H2_⟩
 subst hr32z
 subst vq
 try dsimp only at hM
 replace H:=H.bk H2_
 clear H2_
 refine t_bs (α:=Int) T22 [I 0,I 99,I 120,I 80] [(0:Int),(99:Int),(120:Int),(80:Int)] H rfl (.cons rfl (Flat.rep_enc _ (0:Int))<|.cons rfl (Flat.rep_enc _ (99:Int))<|.cons rfl (Flat.rep_enc _ (120:Int))<|.cons rfl (Flat.rep_enc _ (80:Int))<|.nil) rfl rfl rfl ?_
 intro v33z w34z H
 obtain ⟨r36z,hx35z,hM⟩:=M.e_bind hM
 refine s_call cf26 [u0_7,I 7,I 200,I 300,v33z] rfl (zc4 r5 7 200 300 ([(0:Int),(99:Int),(120:Int),(80:Int)]) (rdo 1) (H.os 1) (rdo 0) (H.os 0) hx35z _ (H.gt 8)) ?_
 rintro vq w37z ⟨r04,r14,hr38z,hvq,H2_⟩
 subst hr38z
 subst vq
 try dsimp only at hM
 replace H:=H.bk H2_
 clear H2_
 refine kg 25 ?_
 refine t_gbs (α:=Int) T22 (!((((r22 != 0)||(r12 != 0))||(r13 != 0))||(r14 != 0))) (gy_f rfl) [I 0,I 2,I 3] [(0:Int),(2:Int),(3:Int)] H (fun _=>rfl) (.cons rfl (Flat.rep_enc _ (0:Int))<|.cons rfl (Flat.rep_enc _ (2:Int))<|.cons rfl (Flat.rep_enc _ (3:Int))<|.nil) rfl rfl rfl ?_
 intro v39z Bs_9 w40z H hf41z
 obtain ⟨r6,hx42z,hM⟩:=M.e_bind hM
 refine t_gcall (!((((r22 != 0)||(r12 != 0))||(r13 != 0))||(r14 != 0))) (gy_f rfl) cf28 (B r6) (fun _=>[u0_2,v39z]) (fun hg=>lst2 (gd_of (c:=!((((r22 != 0)||(r12 != 0))||(r13 != 0))||(r14 != 0))) hg (u0_2)) (gd_of (c:=!((((r22 != 0)||(r12 != 0))||(r13 != 0))||(r14 != 0))) hg (v39z))) H (fun hg=>(zaq r0 ([(0:Int),(2:Int),(3:Int)]) (rdo 7) (H.os 7) (Reads.of (k:=0) rfl roLe) (hf41z hg) (M.e_opt hx42z hg) _ (H.give (A:=[]) rfl)).mono fun v_ w_ ⟨y_,hr_,hv_,H_⟩=>by subst hr_; exact ⟨hv_,H.via H_⟩) ?_
 intro w43z H
 refine kg 18 ?_
 refine W.cond (((((((((r22 != 0)||(r12 != 0))||(r13 != 0))||(r14 != 0))||(!r6))||(r1 != 300))||(r02 != 230))||(!r03))||r04) rfl (fun c44z=>?_) (fun c44z=>?_)
 ·replace hM:=M.e_t hM c44z
  refine kg 4 ?_
  refine W.ret ?_
  have hr_:=M.e_pure hM
  exact ⟨_,resE_tmp rfl,⟨false,hr_,rfl,(H.pk [])⟩⟩
 replace hM:=M.e_f hM c44z
 refine kg 3 ?_
 obtain ⟨r46z,hx45z,hM⟩:=M.e_bind hM
 refine s_call cf5 [] rfl (zcK hx45z _ (H.gt 9)) ?_
 rintro vq w47z ⟨r05,r15,r23,r32,u0_10,u1_11,rr2_12,Bs3_13,hr48z,hvq,H2_,hf49z⟩
 subst hr48z
 subst vq
 try dsimp only at hM
 replace H:=H.bk H2_
 clear H2_
 obtain ⟨r51z,hx50z,hM⟩:=M.e_bind hM
 refine s_call cf11 [.agg #[u0_10,u1_11,I r23,I r32],I 1900,I 1909,I 500] rfl (zbD r05 r15 r23 r32 1900 1909 500 (rdo 0) (H.os 0) (Reads.sup (rdo 1) (Reads.of (k:=2) rfl roLe)) (rowSl rfl (H.get (k:=1) rfl) (roLe _ (H.get (k:=2) rfl)) hf49z) hx50z _ (H.gt 12)) ?_
 rintro vq w52z ⟨r00,r01,r16,hr53z,hvq,H2_⟩
 subst hr53z
 subst vq
 try dsimp only at hM
 replace H:=H.bk H2_
 clear H2_
 refine kg 3 ?_
 refine t_alloc (cs:=[I 0,I 0]) H Al34 rfl ?_
 intro b_14 w54z H
 refine t_sw 0 0 [I r00,I r01] (.agg #[I r00,I r01]) H rfl rfl Sz34 rfl rfl rfl rfl ?_
 intro w55z H
 refine kg 4 ?_
 obtain ⟨r57z,hx56z,hM⟩:=M.e_bind hM
 refine s_call cf5 [] rfl (zcK hx56z _ (H.gt 13)) ?_
 rintro vq w58z ⟨r06,r17,r24,r33,u0_15,u1_16,rr2_17,Bs3_18,hr59z,hvq,H2_,hf60z⟩
 subst hr59z
 subst vq
 try dsimp only at hM
 replace H:=H.bk H2_
 clear H2_
 obtain ⟨r62z,hx61z,hM⟩:=M.e_bind hM
 refine s_call cf11 [.agg #[u0_15,u1_16,I r24,I r33],I 1900,I 1909,I 410] rfl (zbD r06 r17 r24 r33 1900 1909 410 (rdo 0) (H.os 0) (Reads.sup (rdo 1) (Reads.of (k:=2) rfl roLe)) (rowSl rfl (H.get (k:=1) rfl) (roLe _ (H.get (k:=2) rfl)) hf60z) hx61z _ (H.gt 16)) ?_
 rintro vq w63z ⟨r002,r012,r18,hr64z,hvq,H2_⟩
 subst hr64z
 subst vq
 try dsimp only at hM
 replace H:=H.bk H2_
 clear H2_
 refine kg 3 ?_
 refine t_alloc (cs:=[I 0,I 0]) H Al34 rfl ?_
 intro b_19 w65z H
 refine t_sw 0 0 [I r002,I r012] (.agg #[I r002,I r012]) H rfl rfl Sz34 rfl rfl rfl rfl ?_
 intro w66z H
 refine kg 4 ?_
 obtain ⟨r68z,hx67z,hM⟩:=M.e_bind hM
 refine s_call cf5 [] rfl (zcK hx67z _ (H.gt 17)) ?_
 rintro vq w69z ⟨r07,r19,r25,r34,u0_20,u1_21,rr2_22,Bs3_23,hr70z,hvq,H2_,hf71z⟩
 subst hr70z
 subst vq
 try dsimp only at hM
 replace H:=H.bk H2_
 clear H2_
 obtain ⟨r73z,hx72z,hM⟩:=M.e_bind hM
 refine s_call cf13 [.agg #[u0_20,u1_21,I r25,I r34],I 410] rfl (zde r07 r19 r25 r34 410 (rdo 0) (H.os 0) (Reads.sup (rdo 1) (Reads.of (k:=2) rfl roLe)) (rowSl rfl (H.get (k:=1) rfl) (roLe _ (H.get (k:=2) rfl)) hf71z) hx72z _ (H.gt 20)) ?_
 rintro vq w74z ⟨r003,r013,r10,r11,r26,hr75z,hvq,H2_⟩
 subst hr75z
 subst vq
 try dsimp only at hM
 replace H:=H.bk H2_
 clear H2_
 refine kg 4 ?_
 refine t_alloc (cs:=[I 0,I 0]) H Al51 rfl ?_
 intro b_24 w76z H
 refine t_alloc (cs:=[I 0,I 0]) H Al51 rfl ?_
 intro b_25 w77z H
 refine t_sw 1 0 [I r003,I r013] (.agg #[I r003,I r013]) H rfl rfl Sz51 rfl rfl rfl rfl ?_
 intro w78z H
 refine t_sw 0 0 [I r10,I r11] (.agg #[I r10,I r11]) H rfl rfl Sz51 rfl rfl rfl rfl ?_
 intro w79z H
 refine kg 4 ?_
 obtain ⟨r81z,hx80z,hM⟩:=M.e_bind hM
 refine s_call cf5 [] rfl (zcK hx80z _ (H.gt 22)) ?_
 rintro vq w82z ⟨r08,r110,r27,r35,u0_26,u1_27,rr2_28,Bs3_29,hr83z,hvq,H2_,hf84z⟩
 subst hr83z
 subst vq
 try dsimp only at hM
 replace H:=H.bk H2_
 clear H2_
 obtain ⟨r86z,hx85z,hM⟩:=M.e_bind hM
 refine s_call cf14 [.agg #[u0_26,u1_27,I r27,I r35],I 1900,I 1906,I 2] rfl (zdp r08 r110 r27 r35 1900 1906 2 (rdo 0) (H.os 0) (Reads.sup (rdo 1) (Reads.of (k:=2) rfl roLe)) (rowSl rfl (H.get (k:=1) rfl) (roLe _ (H.get (k:=2) rfl)) hf84z) hx85z _ (H.gt 25)) ?_
 rintro vq w87z ⟨r004,r014,r111,hr88z,hvq,H2_⟩
 subst hr88z
 subst vq
 try dsimp only at hM
 replace H:=H.bk H2_
 clear H2_
 refine kg 3 ?_
 refine t_alloc (cs:=[I 0,I 0]) H Al34 rfl ?_
 intro b_30 w89z H
 refine t_sw 0 0 [I r004,I r014] (.agg #[I r004,I r014]) H rfl rfl Sz34 rfl rfl rfl rfl ?_
 intro w90z H
 refine kg 20 ?_
 refine g_val ((((r16==0)&&(r18==0))&&(r26==0))&&(r111==0)) (gy_t rfl) (fun hg=>x_bld (ps:=[(0,I 1),(1,I 4)]) (zs:=[I 0,I 0]) (L':=[I 1,I 4]) rfl Tryz.underlying34 Al34 rfl (Bd34 Tryz.underlying34) (.cons (cs:=[I 1]) rfl rfl rfl rfl rfl<|.cons (cs:=[I 4]) rfl rfl rfl rfl rfl<|.nil)) ?_
 refine g_val ((((r16==0)&&(r18==0))&&(r26==0))&&(r111==0)) (gy_t rfl) (fun hg=>x_eqS (eqT34 (⟨(r00:Int),(r01:Int)⟩:Span) (⟨(1:Int),(4:Int)⟩:Span) _) gdT34 (gd_of (c:=((((r16==0)&&(r18==0))&&(r26==0))&&(r111==0))) hg (.agg #[I r00,I r01])) (gd_of (c:=((((r16==0)&&(r18==0))&&(r26==0))&&(r111==0))) hg (.agg #[I 1,I 4]))) ?_
 refine kg 3 ?_
 refine g_val (((((r16==0)&&(r18==0))&&(r26==0))&&(r111==0))&&(decide ((⟨(r00:Int),(r01:Int)⟩:Span)=(⟨(1:Int),(4:Int)⟩:Span)))) (gy_t rfl) (fun hg=>x_bld (ps:=[(0,I 1),(1,I 9)]) (zs:=[I 0,I 0]) (L':=[I 1,I 9]) rfl Tryz.underlying34 Al34 rfl (Bd34 Tryz.underlying34) (.cons (cs:=[I 1]) rfl rfl rfl rfl rfl<|.cons (cs:=[I 9]) rfl rfl rfl rfl rfl<|.nil)) ?_
 refine g_val (((((r16==0)&&(r18==0))&&(r26==0))&&(r111==0))&&(decide ((⟨(r00:Int),(r01:Int)⟩:Span)=(⟨(1:Int),(4:Int)⟩:Span)))) (gy_t rfl) (fun hg=>x_eqS (eqT34 (⟨(r002:Int),(r012:Int)⟩:Span) (⟨(1:Int),(9:Int)⟩:Span) _) gdT34 (gd_of (c:=(((((r16==0)&&(r18==0))&&(r26==0))&&(r111==0))&&(decide ((⟨(r00:Int),(r01:Int)⟩:Span)=(⟨(1:Int),(4:Int)⟩:Span))))) hg (.agg #[I r002,I r012])) (gd_of (c:=(((((r16==0)&&(r18==0))&&(r26==0))&&(r111==0))&&(decide ((⟨(r00:Int),(r01:Int)⟩:Span)=(⟨(1:Int),(4:Int)⟩:Span))))) hg (.agg #[I 1,I 9]))) ?_
 refine kg 3 ?_
 refine g_val ((((((r16==0)&&(r18==0))&&(r26==0))&&(r111==0))&&(decide ((⟨(r00:Int),(r01:Int)⟩:Span)=(⟨(1:Int),(4:Int)⟩:Span))))&&(decide ((⟨(r002:Int),(r012:Int)⟩:Span)=(⟨(1:Int),(9:Int)⟩:Span)))) (gy_t rfl) (fun hg=>x_bld (ps:=[(0,I 1),(1,I 10)]) (zs:=[I 0,I 0]) (L':=[I 1,I 10]) rfl Tryz.underlying51 Al51 rfl (Bd51 Tryz.underlying51) (.cons (cs:=[I 1]) rfl rfl rfl rfl rfl<|.cons (cs:=[I 10]) rfl rfl rfl rfl rfl<|.nil)) ?_
 refine g_val ((((((r16==0)&&(r18==0))&&(r26==0))&&(r111==0))&&(decide ((⟨(r00:Int),(r01:Int)⟩:Span)=(⟨(1:Int),(4:Int)⟩:Span))))&&(decide ((⟨(r002:Int),(r012:Int)⟩:Span)=(⟨(1:Int),(9:Int)⟩:Span)))) (gy_t rfl) (fun hg=>x_eqS (eqT51 (⟨(r003:Int),(r013:Int)⟩:Rto) (⟨(1:Int),(10:Int)⟩:Rto) _) gdT51 (gd_of (c:=((((((r16==0)&&(r18==0))&&(r26==0))&&(r111==0))&&(decide ((⟨(r00:Int),(r01:Int)⟩:Span)=(⟨(1:Int),(4:Int)⟩:Span))))&&(decide ((⟨(r002:Int),(r012:Int)⟩:Span)=(⟨(1:Int),(9:Int)⟩:Span))))) hg (.agg #[I r003,I r013])) (gd_of (c:=((((((r16==0)&&(r18==0))&&(r26==0))&&(r111==0))&&(decide ((⟨(r00:Int),(r01:Int)⟩:Span)=(⟨(1:Int),(4:Int)⟩:Span))))&&(decide ((⟨(r002:Int),(r012:Int)⟩:Span)=(⟨(1:Int),(9:Int)⟩:Span))))) hg (.agg #[I 1,I 10]))) ?_
 refine kg 3 ?_
 refine g_val (((((((r16==0)&&(r18==0))&&(r26==0))&&(r111==0))&&(decide ((⟨(r00:Int),(r01:Int)⟩:Span)=(⟨(1:Int),(4:Int)⟩:Span))))&&(decide ((⟨(r002:Int),(r012:Int)⟩:Span)=(⟨(1:Int),(9:Int)⟩:Span))))&&(decide ((⟨(r003:Int),(r013:Int)⟩:Rto)=(⟨(1:Int),(10:Int)⟩:Rto)))) (gy_t rfl) (fun hg=>x_bld (ps:=[(0,I 9),(1,I 10)]) (zs:=[I 0,I 0]) (L':=[I 9,I 10]) rfl Tryz.underlying51 Al51 rfl (Bd51 Tryz.underlying51) (.cons (cs:=[I 9]) rfl rfl rfl rfl rfl<|.cons (cs:=[I 10]) rfl rfl rfl rfl rfl<|.nil)) ?_
 refine g_val (((((((r16==0)&&(r18==0))&&(r26==0))&&(r111==0))&&(decide ((⟨(r00:Int),(r01:Int)⟩:Span)=(⟨(1:Int),(4:Int)⟩:Span))))&&(decide ((⟨(r002:Int),(r012:Int)⟩:Span)=(⟨(1:Int),(9:Int)⟩:Span))))&&(decide ((⟨(r003:Int),(r013:Int)⟩:Rto)=(⟨(1:Int),(10:Int)⟩:Rto)))) (gy_t rfl) (fun hg=>x_eqS (eqT51 (⟨(r10:Int),(r11:Int)⟩:Rto) (⟨(9:Int),(10:Int)⟩:Rto) _) gdT51 (gd_of (c:=(((((((r16==0)&&(r18==0))&&(r26==0))&&(r111==0))&&(decide ((⟨(r00:Int),(r01:Int)⟩:Span)=(⟨(1:Int),(4:Int)⟩:Span))))&&(decide ((⟨(r002:Int),(r012:Int)⟩:Span)=(⟨(1:Int),(9:Int)⟩:Span))))&&(decide ((⟨(r003:Int),(r013:Int)⟩:Rto)=(⟨(1:Int),(10:Int)⟩:Rto))))) hg (.agg #[I r10,I r11])) (gd_of (c:=(((((((r16==0)&&(r18==0))&&(r26==0))&&(r111==0))&&(decide ((⟨(r00:Int),(r01:Int)⟩:Span)=(⟨(1:Int),(4:Int)⟩:Span))))&&(decide ((⟨(r002:Int),(r012:Int)⟩:Span)=(⟨(1:Int),(9:Int)⟩:Span))))&&(decide ((⟨(r003:Int),(r013:Int)⟩:Rto)=(⟨(1:Int),(10:Int)⟩:Rto))))) hg (.agg #[I 9,I 10]))) ?_
 refine kg 3 ?_
 refine g_val ((((((((r16==0)&&(r18==0))&&(r26==0))&&(r111==0))&&(decide ((⟨(r00:Int),(r01:Int)⟩:Span)=(⟨(1:Int),(4:Int)⟩:Span))))&&(decide ((⟨(r002:Int),(r012:Int)⟩:Span)=(⟨(1:Int),(9:Int)⟩:Span))))&&(decide ((⟨(r003:Int),(r013:Int)⟩:Rto)=(⟨(1:Int),(10:Int)⟩:Rto))))&&(decide ((⟨(r10:Int),(r11:Int)⟩:Rto)=(⟨(9:Int),(10:Int)⟩:Rto)))) (gy_t rfl) (fun hg=>x_bld (ps:=[(0,I 400),(1,I 499)]) (zs:=[I 0,I 0]) (L':=[I 400,I 499]) rfl Tryz.underlying34 Al34 rfl (Bd34 Tryz.underlying34) (.cons (cs:=[I 400]) rfl rfl rfl rfl rfl<|.cons (cs:=[I 499]) rfl rfl rfl rfl rfl<|.nil)) ?_
 refine g_val ((((((((r16==0)&&(r18==0))&&(r26==0))&&(r111==0))&&(decide ((⟨(r00:Int),(r01:Int)⟩:Span)=(⟨(1:Int),(4:Int)⟩:Span))))&&(decide ((⟨(r002:Int),(r012:Int)⟩:Span)=(⟨(1:Int),(9:Int)⟩:Span))))&&(decide ((⟨(r003:Int),(r013:Int)⟩:Rto)=(⟨(1:Int),(10:Int)⟩:Rto))))&&(decide ((⟨(r10:Int),(r11:Int)⟩:Rto)=(⟨(9:Int),(10:Int)⟩:Rto)))) (gy_t rfl) (fun hg=>x_eqS (eqT34 (⟨(r004:Int),(r014:Int)⟩:Span) (⟨(400:Int),(499:Int)⟩:Span) _) gdT34 (gd_of (c:=((((((((r16==0)&&(r18==0))&&(r26==0))&&(r111==0))&&(decide ((⟨(r00:Int),(r01:Int)⟩:Span)=(⟨(1:Int),(4:Int)⟩:Span))))&&(decide ((⟨(r002:Int),(r012:Int)⟩:Span)=(⟨(1:Int),(9:Int)⟩:Span))))&&(decide ((⟨(r003:Int),(r013:Int)⟩:Rto)=(⟨(1:Int),(10:Int)⟩:Rto))))&&(decide ((⟨(r10:Int),(r11:Int)⟩:Rto)=(⟨(9:Int),(10:Int)⟩:Rto))))) hg (.agg #[I r004,I r014])) (gd_of (c:=((((((((r16==0)&&(r18==0))&&(r26==0))&&(r111==0))&&(decide ((⟨(r00:Int),(r01:Int)⟩:Span)=(⟨(1:Int),(4:Int)⟩:Span))))&&(decide ((⟨(r002:Int),(r012:Int)⟩:Span)=(⟨(1:Int),(9:Int)⟩:Span))))&&(decide ((⟨(r003:Int),(r013:Int)⟩:Rto)=(⟨(1:Int),(10:Int)⟩:Rto))))&&(decide ((⟨(r10:Int),(r11:Int)⟩:Rto)=(⟨(9:Int),(10:Int)⟩:Rto))))) hg (.agg #[I 400,I 499]))) ?_
 refine kg 3 ?_
 refine W.ret ?_
 have hr_:=M.e_pure hM
 exact ⟨_,resE_tmp rfl,⟨(((((((((r16==0)&&(r18==0))&&(r26==0))&&(r111==0))&&(decide ((⟨(r00:Int),(r01:Int)⟩:Span)=(⟨(1:Int),(4:Int)⟩:Span))))&&(decide ((⟨(r002:Int),(r012:Int)⟩:Span)=(⟨(1:Int),(9:Int)⟩:Span))))&&(decide ((⟨(r003:Int),(r013:Int)⟩:Rto)=(⟨(1:Int),(10:Int)⟩:Rto))))&&(decide ((⟨(r10:Int),(r11:Int)⟩:Rto)=(⟨(9:Int),(10:Int)⟩:Rto))))&&(decide ((⟨(r004:Int),(r014:Int)⟩:Span)=(⟨(400:Int),(499:Int)⟩:Span)))),hr_,rfl,(H.pk [])⟩⟩

def zdh (l:List Pk):M (List Pk) :=
  M.grd (decide ((([]:List Pk).length+l.length)*16<=140737488355328)) <|
  M.pure l
theorem zeg {R:List Chunk} {C_l:Cells} {v_l:Value} (l:List Pk) (hC_l:Reads R C_l) (hs_l:Sl C_l v_l l) {r:(List Pk)} (hM:(zdh l).Ends r) (w:World) (H:St w w [] R):Ret Tryz.prog 16 #[v_l] w fun v w'=>∃ (y0:List Pk) (u0:Value),y0=r/\v=u0/\St w w' [cOwn (α:=Pk) 32 u0 y0] R:=by
 refine ret_of_W Tryz.func16 rfl rfl rfl ?_
 refine kg 12 ?_
 replace H:=H.nilOwn (α:=Pk) 32
 obtain ⟨sd1z,hM⟩:=M.e_grd hM
 simp only [Bool.and_eq_true,decide_eq_true_eq] at sd1z
 refine t_app (α:=Pk) (k:=0) (l:=[]) (l2:=l) (l':=l) (vy:=v_l) T23 rfl H rfl rfl rfl hs_l (hC_l.at H) (List.nil_append _) (by first | omega | (simp only [List.length_nil] at *; omega)) ?_
 intro v2z w3z H
 replace H:=H.nf
 refine kg 2 ?_
 refine W.ret ?_
 have hr_:=M.e_pure hM
 exact ⟨_,resE_tmp rfl,⟨l,v2z,hr_,rfl,H⟩⟩

def zbi (l:List Int):M (List Int) :=
  M.grd (decide ((([]:List Int).length+l.length)*8<=140737488355328)) <|
  M.pure l
theorem zbS {R:List Chunk} {C_l:Cells} {v_l:Value} (l:List Int) (hC_l:Reads R C_l) (hs_l:Sl C_l v_l l) {r:(List Int)} (hM:(zbi l).Ends r) (w:World) (H:St w w [] R):Ret Tryz.prog 17 #[v_l] w fun v w'=>∃ (y0:List Int) (u0:Value),y0=r/\v=u0/\St w w' [cOwn (α:=Int) 3 u0 y0] R:=by
 refine ret_of_W Tryz.func17 rfl rfl rfl ?_
 refine kg 12 ?_
 replace H:=H.nilOwn (α:=Int) 3
 obtain ⟨sd1z,hM⟩:=M.e_grd hM
 simp only [Bool.and_eq_true,decide_eq_true_eq] at sd1z
 refine t_app (α:=Int) (k:=0) (l:=[]) (l2:=l) (l':=l) (vy:=v_l) T22 rfl H rfl rfl rfl hs_l (hC_l.at H) (List.nil_append _) (by first | omega | (simp only [List.length_nil] at *; omega)) ?_
 intro v2z w3z H
 replace H:=H.nf
 refine kg 2 ?_
 refine W.ret ?_
 have hr_:=M.e_pure hM
 exact ⟨_,resE_tmp rfl,⟨l,v2z,hr_,rfl,H⟩⟩

def zcc (l:List Pk):(Nat × (List Pk))->M ((Nat × (List Pk)) ⊕ ((List Pk) × (List Pk))):=fun (i,l2) =>
  bif decide ((i:Int)<(l.length:Int)) then (
  M.grd (decide ((i:Int)<(l.length:Int))) <|
  M.grd (decide ((l2.length+([(l.getD i default)]).length)*16<=140737488355328)) <|
  M.pure (.inl (i+1,l2++([(l.getD i default)]))))
  else (
  M.pure (.inr (l2,l2)))
def zbp (l:List Pk):M (List Pk) :=
  M.bind (M.iter (zcc l) (0,[])) fun (l3,l4) =>
  M.pure l4
theorem zd2 {R:List Chunk} {C_l:Cells} {v_l:Value} (l:List Pk) (hC_l:Reads R C_l) (hs_l:Sl C_l v_l l) {r:(List Pk)} (hM:(zbp l).Ends r) (w:World) (H:St w w [] R):Ret Tryz.prog 18 #[v_l] w fun v w'=>∃ (y0:List Pk) (u0:Value),y0=r/\v=u0/\St w w' [cOwn (α:=Pk) 109 u0 y0] R:=by
 refine ret_of_W Tryz.func18 rfl rfl rfl ?_
 refine kg 14 ?_
 replace H:=H.nilOwn (α:=Pk) 109
 obtain ⟨ex1z,hi2z,hk3z⟩:=M.e_bind hM
 obtain ⟨m0_,hi2z⟩:=M.e_iter hi2z
 refine W.loop (fun m σ W=>∃ (i:Nat) (l2:List Pk) (v_l2:Value) (ρ:Env),σ=upds ρ [(0,v_l),(3,v_l2),(4,I (i:Int))]/\M.iterN (zcc l) m (i,l2)=some ex1z/\St w W [cOwn (α:=Pk) 109 v_l2 l2] R) ?_ ?_
 ·exact ⟨_,0,[],(.slice none 0 0),_,upds_of _ _ ⟨rfl,rfl,rfl,trivial⟩,hi2z,H⟩
 rintro m6z σ w4z ⟨i,l2,v_l2,ρ,rfl,hI5z,H⟩
 obtain ⟨m7z,lt8z,x9z,hM,hN10z⟩:=M.e_iterN hI5z
 simp only [zcc] at hM
 clear hI5z
 have hl11z:=(hs_l).len_le
 refine kg 8 ?_
 refine W.cond (decide ((i:Int)<(l.length:Int))) rfl (fun c12z=>?_) (fun c12z=>?_)
 ·replace hM:=M.e_t hM c12z
  simp only [qy1,qy2,qy3,qy4,qy5,qy6,ne_eq,qy7] at c12z
  obtain ⟨sd13z,hM⟩:=M.e_grd hM
  simp only [Bool.and_eq_true,decide_eq_true_eq] at sd13z
  refine kg 9 ?_
  refine t_bs (α:=Pk) T57 [.agg #[I ((l.getD i default).day),I ((l.getD i default).stage)]] [(l.getD i default)] H rfl (.cons rfl (Flat.rep_enc _ (l.getD i default))<|.nil) rfl rfl rfl ?_
  intro v14z w15z H
  obtain ⟨sd16z,hM⟩:=M.e_grd hM
  simp only [Bool.and_eq_true,decide_eq_true_eq] at sd16z
  refine t_app (α:=Pk) (k:=1) (l:=l2) (l2:=[(l.getD i default)]) (l':=l2++([(l.getD i default)])) (vy:=v14z) T57 rfl H rfl rfl rfl (H.os 0) (H.ol 0) (rfl) (by first | omega | (simp only [List.length_nil] at *; omega)) ?_
  intro v17z w18z H
  replace H:=H.nf
  refine kg 7 ?_
  exact ⟨m7z,lt8z,i+1,l2++([(l.getD i default)]),v17z,_,upds_of _ _ ⟨rfl,rfl,rfl,trivial⟩,M.e_inl hM hN10z,(H.pk [1])⟩
 replace hM:=M.e_f hM c12z
 simp only [qy1,qy2,qy3,qy4,qy5,qy6,ne_eq,qy7] at c12z
 refine W.exit ?_
 have hX19z:=M.e_inr hM hN10z
 subst hX19z
 replace hM:=hk3z
 try dsimp only at hM
 refine kg 5 ?_
 refine W.ret ?_
 have hr_:=M.e_pure hM
 exact ⟨_,resE_tmp rfl,⟨l2,v_l2,hr_,rfl,H⟩⟩

def zac (n:Int) (a:Int) (b:Int):M Bool :=
  M.pure ((decide (n<a))||(decide (b<n)))
theorem zae {R:List Chunk}  (n:Int) (a:Int) (b:Int)  {r:Bool} (hM:(zac n a b).Ends r) (w:World) (H:St w w [] R):Ret Tryz.prog 56 #[I n,I a,I b] w fun v w'=>∃ (y0:Bool),y0=r/\v=B y0/\St w w' [] R:=by
 refine ret_of_W Tryz.func56 rfl rfl rfl ?_
 refine kg 16 ?_
 refine W.ret ?_
 have hr_:=M.e_pure hM
 exact ⟨_,resE_tmp rfl,⟨((decide (n<a))||(decide (b<n))),hr_,rfl,H⟩⟩

end Go.Proofs.YtejefipopolccaaGreat
end
section
set_option maxRecDepth 100000
set_option maxHeartbeats 16000000
namespace Go.Proofs.YtejefipopolccaaGreat
open Go Go.Nm
attribute [local irreducible] gd execOp SL SLD SLT WR
def za0 (l:List Pk):Nat->M (Nat ⊕ (Int ⊕ Unit)):=fun i =>
  bif decide ((i:Int)<(l.length:Int)) then (
  M.grd (decide ((i:Int)<(l.length:Int))) <|
  M.bind (zac ((l.getD i default).day) 0 4000) fun r2 =>
  M.bind (M.opt (!r2) (zac ((l.getD i default).stage) 0 2000) false) fun r3 =>
  bif (r2||r3) then (
  M.pure (.inr (.inl 110)))
  else (
  M.grd ((!(decide (0<(i:Int)))||(decide ((-9223372036854775808:Int)<=((i:Int)-1))&&decide (((i:Int)-1)<=(9223372036854775807:Int))))) <|
  M.grd ((!(decide (0<(i:Int)))||(decide ((0:Int)<=((i:Int)-1))&&decide (((i:Int)-1)<(l.length:Int))))) <|
  bif ((decide (0<(i:Int)))&&(decide (((l.getD i default).day)<=((l.getD (Int.toNat ((i:Int)-1)) default).day)))) then (
  M.pure (.inr (.inl 9)))
  else (
  M.pure (.inl (i+1)))))
  else (
  M.pure (.inr (.inr ())))
def zbz (l:List Pk):M Int :=
  bif decide (40<(l.length:Int)) then (
  M.pure 3)
  else (
  M.bind (M.iter (za0 l) 0) fun x_=>match x_ with
  | (.inl s)=>(
  M.pure s)
  | (.inr (_:Unit))=>(
  M.pure 0))
theorem zdz {R:List Chunk} {C_l:Cells} {v_l:Value} (l:List Pk) (hC_l:Reads R C_l) (hs_l:Sl C_l v_l l) {r:Int} (hM:(zbz l).Ends r) (w:World) (H:St w w [] R):Ret Tryz.prog 19 #[v_l] w fun v w'=>∃ (y0:Int),y0=r/\v=I y0/\St w w' [] R:=by
 refine ret_of_W Tryz.func19 rfl rfl rfl ?_
 have hl1z:=(hs_l).len_le
 refine kg 11 ?_
 refine W.cond (decide (40<(l.length:Int))) rfl (fun c2z=>?_) (fun c2z=>?_)
 ·replace hM:=M.e_t hM c2z
  simp only [qy1,qy2,qy3,qy4,qy5,qy6,ne_eq,qy7] at c2z
  refine kg 4 ?_
  refine W.ret ?_
  have hr_:=M.e_pure hM
  exact ⟨_,resE_tmp rfl,⟨3,hr_,rfl,H⟩⟩
 replace hM:=M.e_f hM c2z
 simp only [qy1,qy2,qy3,qy4,qy5,qy6,ne_eq,qy7] at c2z
 refine kg 7 ?_
 obtain ⟨ex3z,hi4z,hk5z⟩:=M.e_bind hM
 obtain ⟨m0_,hi4z⟩:=M.e_iter hi4z
 refine W.loop (fun m σ W=>∃ (i:Nat) (ρ:Env),σ=upds ρ [(0,v_l),(3,I (i:Int))]/\M.iterN (za0 l) m i=some ex3z/\St w W [] R) ?_ ?_
 ·exact ⟨_,0,_,upds_of _ _ ⟨rfl,rfl,trivial⟩,hi4z,H⟩
 rintro m8z σ w6z ⟨i,ρ,rfl,hI7z,H⟩
 obtain ⟨m9z,lt10z,x11z,hM,hN12z⟩:=M.e_iterN hI7z
 simp only [za0] at hM
 clear hI7z
 have hl13z:=(hs_l).len_le
 refine kg 8 ?_
 refine W.cond (decide ((i:Int)<(l.length:Int))) rfl (fun c14z=>?_) (fun c14z=>?_)
 ·replace hM:=M.e_t hM c14z
  simp only [qy1,qy2,qy3,qy4,qy5,qy6,ne_eq,qy7] at c14z
  obtain ⟨sd15z,hM⟩:=M.e_grd hM
  simp only [Bool.and_eq_true,decide_eq_true_eq] at sd15z
  refine kg 11 ?_
  obtain ⟨r17z,hx16z,hM⟩:=M.e_bind hM
  refine s_call cf56 [I ((l.getD i default).day),I 0,I 4000] rfl (zae ((l.getD i default).day) 0 4000 hx16z _ (H.gt 0)) ?_
  rintro vq w18z ⟨r2,hr19z,hvq,H2_⟩
  subst hr19z
  subst vq
  try dsimp only at hM
  replace H:=H.bk H2_
  clear H2_
  refine kg 6 ?_
  obtain ⟨r3,hx20z,hM⟩:=M.e_bind hM
  refine t_gcall (!r2) (gy_f rfl) cf56 (B r3) (fun _=>[I ((l.getD i default).stage),I 0,I 2000]) (fun hg=>lst3 (gd_of (c:=!r2) hg (I ((l.getD i default).stage))) rfl rfl) H (fun hg=>(zae ((l.getD i default).stage) 0 2000 (M.e_opt hx20z hg) _ (H.give (A:=[]) rfl)).mono fun v_ w_ ⟨y_,hr_,hv_,H_⟩=>by subst hr_; exact ⟨hv_,H.via H_⟩) ?_
  intro w21z H
  refine kg 2 ?_
  refine W.cond (r2||r3) rfl (fun c22z=>?_) (fun c22z=>?_)
  ·replace hM:=M.e_t hM c22z
   refine kg 4 ?_
   refine W.ret ?_
   have hX23z:=M.e_inr hM hN12z
   subst hX23z
   replace hM:=hk5z
   try dsimp only at hM
   have hr_:=M.e_pure hM
   exact ⟨_,resE_tmp rfl,⟨110,hr_,rfl,H⟩⟩
  replace hM:=M.e_f hM c22z
  refine kg 2 ?_
  refine W.draw (fun W=>St w W [] R) [(0,true),(1,true),(2,true),(3,true),(4,true),(5,true),(6,true),(7,true),(8,true),(9,true),(10,true),(11,true),(12,true),(13,true),(14,true),(15,true)] mixed (by decide +kernel) rfl ?_
  intro w24z hx_
  replace H:=H.ext hx_
  clear hx_
  refine ⟨(H.pk []),?_⟩
  obtain ⟨sd25z,hM⟩:=M.e_grd hM
  replace sd25z:=M.imp_of sd25z
  simp only [Bool.and_eq_true,decide_eq_true_eq] at sd25z
  obtain ⟨sd26z,hM⟩:=M.e_grd hM
  replace sd26z:=M.imp_of sd26z
  simp only [Bool.and_eq_true,decide_eq_true_eq] at sd26z
  refine kg 17 ?_
  refine W.cond ((decide (0<(i:Int)))&&(decide (((l.getD i default).day)<=((l.getD (Int.toNat ((i:Int)-1)) default).day)))) rfl (fun c27z=>?_) (fun c27z=>?_)
  ·replace hM:=M.e_t hM c27z
   refine kg 4 ?_
   refine W.ret ?_
   have hX28z:=M.e_inr hM hN12z
   subst hX28z
   replace hM:=hk5z
   try dsimp only at hM
   have hr_:=M.e_pure hM
   exact ⟨_,resE_tmp rfl,⟨9,hr_,rfl,H⟩⟩
  replace hM:=M.e_f hM c27z
  refine kg 6 ?_
  exact ⟨m9z,lt10z,i+1,_,upds_of _ _ ⟨rfl,rfl,trivial⟩,M.e_inl hM hN12z,H⟩
 replace hM:=M.e_f hM c14z
 simp only [qy1,qy2,qy3,qy4,qy5,qy6,ne_eq,qy7] at c14z
 refine W.exit ?_
 have hX29z:=M.e_inr hM hN12z
 subst hX29z
 replace hM:=hk5z
 try dsimp only at hM
 refine kg 4 ?_
 refine W.ret ?_
 have hr_:=M.e_pure hM
 exact ⟨_,resE_tmp rfl,⟨0,hr_,rfl,H⟩⟩

def zaX (l:List Pk) (apart:Int) (threshold:Int):M Int :=
  M.bind (zbz l) fun r2 =>
  bif r2 != 0 then (
  M.pure r2)
  else (
  M.bind (zac apart 1 60) fun r3 =>
  M.bind (M.opt (!r3) (zac threshold 0 2000) false) fun r4 =>
  bif (r3||r4) then (
  M.pure 4)
  else (
  M.pure 0))
theorem zdm {R:List Chunk} {C_l:Cells} {v_l:Value} (l:List Pk) (apart:Int) (threshold:Int) (hC_l:Reads R C_l) (hs_l:Sl C_l v_l l) {r:Int} (hM:(zaX l apart threshold).Ends r) (w:World) (H:St w w [] R):Ret Tryz.prog 59 #[v_l,I apart,I threshold] w fun v w'=>∃ (y0:Int),y0=r/\v=I y0/\St w w' [] R:=by
 refine ret_of_W Tryz.func59 rfl rfl rfl ?_
 refine kg 8 ?_
 obtain ⟨r2z,hx1z,hM⟩:=M.e_bind hM
 refine s_call cf19 [v_l] rfl (zdz l (hC_l.app _) hs_l hx1z _ (H.gt 0)) ?_
 rintro vq w3z ⟨r2,hr4z,hvq,H2_⟩
 subst hr4z
 subst vq
 try dsimp only at hM
 replace H:=H.bk H2_
 clear H2_
 refine kg 7 ?_
 refine W.cond (r2 != 0) rfl (fun c5z=>?_) (fun c5z=>?_)
 ·replace hM:=M.e_t hM c5z
  simp only [qy1,qy2,qy3,qy4,qy5,qy6,ne_eq,qy7] at c5z
  refine kg 5 ?_
  refine W.ret ?_
  have hr_:=M.e_pure hM
  exact ⟨_,resE_tmp rfl,⟨r2,hr_,rfl,H⟩⟩
 replace hM:=M.e_f hM c5z
 simp only [qy1,qy2,qy3,qy4,qy5,qy6,ne_eq,qy7] at c5z
 refine kg 5 ?_
 obtain ⟨r7z,hx6z,hM⟩:=M.e_bind hM
 refine s_call cf56 [I apart,I 1,I 60] rfl (zae apart 1 60 hx6z _ (H.gt 0)) ?_
 rintro vq w8z ⟨r3,hr9z,hvq,H2_⟩
 subst hr9z
 subst vq
 try dsimp only at hM
 replace H:=H.bk H2_
 clear H2_
 refine kg 2 ?_
 obtain ⟨r4,hx10z,hM⟩:=M.e_bind hM
 refine t_gcall (!r3) (gy_f rfl) cf56 (B r4) (fun _=>[I threshold,I 0,I 2000]) (fun hg=>lst3 (gd_of (c:=!r3) hg (I threshold)) rfl rfl) H (fun hg=>(zae threshold 0 2000 (M.e_opt hx10z hg) _ (H.give (A:=[]) rfl)).mono fun v_ w_ ⟨y_,hr_,hv_,H_⟩=>by subst hr_; exact ⟨hv_,H.via H_⟩) ?_
 intro w11z H
 refine kg 2 ?_
 refine W.cond (r3||r4) rfl (fun c12z=>?_) (fun c12z=>?_)
 ·replace hM:=M.e_t hM c12z
  refine kg 4 ?_
  refine W.ret ?_
  have hr_:=M.e_pure hM
  exact ⟨_,resE_tmp rfl,⟨4,hr_,rfl,H⟩⟩
 replace hM:=M.e_f hM c12z
 refine kg 5 ?_
 refine W.ret ?_
 have hr_:=M.e_pure hM
 exact ⟨_,resE_tmp rfl,⟨0,hr_,rfl,H⟩⟩

def zck (l:List Pk) (choice:List Int):Nat->M (Nat ⊕ (Unit ⊕ Unit)):=fun k =>
  bif decide ((k:Int)<(choice.length:Int)) then (
  M.grd (decide ((k:Int)<(choice.length:Int))) <|
  M.bind (zac (choice.getD k 0) 0 ((l.length:Int)-1)) fun r3 =>
  M.grd ((!((!r3)&&(decide (0<(k:Int))))||(decide ((-9223372036854775808:Int)<=((k:Int)-1))&&decide (((k:Int)-1)<=(9223372036854775807:Int))))) <|
  M.grd ((!((!r3)&&(decide (0<(k:Int))))||(decide ((0:Int)<=((k:Int)-1))&&decide (((k:Int)-1)<(choice.length:Int))))) <|
  bif (r3||((decide (0<(k:Int)))&&(decide ((choice.getD k 0)<=(choice.getD (Int.toNat ((k:Int)-1)) 0))))) then (
  M.pure (.inr (.inl ())))
  else (
  M.pure (.inl (k+1))))
  else (
  M.pure (.inr (.inr ())))
def zbt (l:List Pk) (apart:Int) (choice:List Int) (k2:Nat):Nat->M (Nat ⊕ (Unit ⊕ Unit)):=fun j =>
  bif decide ((j:Int)<(k2:Int)) then (
  M.grd (decide ((j:Int)<(choice.length:Int))) <|
  M.grd (decide ((0:Int)<=(choice.getD j 0))&&decide ((choice.getD j 0)<(l.length:Int))) <|
  M.grd (decide ((-9223372036854775808:Int)<=(((l.getD (Int.toNat (choice.getD k2 0)) default).day)-((l.getD (Int.toNat (choice.getD j 0)) default).day)))&&decide ((((l.getD (Int.toNat (choice.getD k2 0)) default).day)-((l.getD (Int.toNat (choice.getD j 0)) default).day))<=(9223372036854775807:Int))) <|
  bif decide ((((l.getD (Int.toNat (choice.getD k2 0)) default).day)-((l.getD (Int.toNat (choice.getD j 0)) default).day))<apart) then (
  M.pure (.inr (.inl ())))
  else (
  M.pure (.inl (j+1))))
  else (
  M.pure (.inr (.inr ())))
def zbn (l:List Pk) (apart:Int) (threshold:Int) (choice:List Int):(Int × Nat)->M ((Int × Nat) ⊕ (Unit ⊕ Int)):=fun (sum,k2) =>
  bif decide ((k2:Int)<(choice.length:Int)) then (
  M.grd (decide ((k2:Int)<(choice.length:Int))) <|
  M.grd (decide ((0:Int)<=(choice.getD k2 0))&&decide ((choice.getD k2 0)<(l.length:Int))) <|
  bif decide (((l.getD (Int.toNat (choice.getD k2 0)) default).stage)<=threshold) then (
  M.pure (.inr (.inl ())))
  else (
  M.bind (M.iter (zbt l apart choice k2) 0) fun x_=>match x_ with
  | (.inl (_:Unit))=>(
  M.pure (.inr (.inl ())))
  | (.inr (_:Unit))=>(
  M.grd (decide ((-9223372036854775808:Int)<=(sum+((l.getD (Int.toNat (choice.getD k2 0)) default).stage)))&&decide ((sum+((l.getD (Int.toNat (choice.getD k2 0)) default).stage))<=(9223372036854775807:Int))) <|
  M.grd (decide ((-9223372036854775808:Int)<=((sum+((l.getD (Int.toNat (choice.getD k2 0)) default).stage))-threshold))&&decide (((sum+((l.getD (Int.toNat (choice.getD k2 0)) default).stage))-threshold)<=(9223372036854775807:Int))) <|
  M.pure (.inl ((sum+((l.getD (Int.toNat (choice.getD k2 0)) default).stage))-threshold,k2+1)))))
  else (
  M.pure (.inr (.inr sum)))
def zbq (l:List Pk) (apart:Int) (threshold:Int) (choice:List Int):M (Int × Int) :=
  M.bind (zaX l apart threshold) fun r2 =>
  bif r2 != 0 then (
  M.pure (0,r2))
  else (
  M.bind (M.iter (zck l choice) 0) fun x_=>match x_ with
  | (.inl (_:Unit))=>(
  M.pure (0,2))
  | (.inr (_:Unit))=>(
  M.bind (M.iter (zbn l apart threshold choice) (0,0)) fun x_=>match x_ with
  | (.inl (_:Unit))=>(
  M.pure (0,7))
  | (.inr sum2)=>(
  M.pure (sum2,0))))
theorem zdJ {R:List Chunk} {C_l:Cells} {v_l:Value} {C_choice:Cells} {v_choice:Value} (l:List Pk) (apart:Int) (threshold:Int) (choice:List Int) (hC_l:Reads R C_l) (hs_l:Sl C_l v_l l) (hC_choice:Reads R C_choice) (hs_choice:Sl C_choice v_choice choice) {r:(Int × Int)} (hM:(zbq l apart threshold choice).Ends r) (w:World) (H:St w w [] R):Ret Tryz.prog 21 #[v_l,I apart,I threshold,v_choice] w fun v w'=>∃ (y0:Int) (y1:Int),(y0,y1)=r/\v = .tuple #[I y0,I y1]/\St w w' [] R:=by
 refine ret_of_W Tryz.func21 rfl rfl rfl ?_
 refine kg 11 ?_
 obtain ⟨r2z,hx1z,hM⟩:=M.e_bind hM
 refine s_call cf59 [v_l,I apart,I threshold] rfl (zdm l apart threshold (hC_l.app _) hs_l hx1z _ (H.gt 0)) ?_
 rintro vq w3z ⟨r2,hr4z,hvq,H2_⟩
 subst hr4z
 subst vq
 try dsimp only at hM
 replace H:=H.bk H2_
 clear H2_
 refine kg 7 ?_
 refine W.cond (r2 != 0) rfl (fun c5z=>?_) (fun c5z=>?_)
 ·replace hM:=M.e_t hM c5z
  simp only [qy1,qy2,qy3,qy4,qy5,qy6,ne_eq,qy7] at c5z
  refine kg 6 ?_
  refine W.ret ?_
  have hr_:=M.e_pure hM
  exact ⟨_,resE_tmp2 rfl,⟨0,r2,hr_,rfl,H⟩⟩
 replace hM:=M.e_f hM c5z
 simp only [qy1,qy2,qy3,qy4,qy5,qy6,ne_eq,qy7] at c5z
 refine kg 7 ?_
 obtain ⟨ex6z,hi7z,hk8z⟩:=M.e_bind hM
 obtain ⟨m0_,hi7z⟩:=M.e_iter hi7z
 refine W.loop (fun m σ W=>∃ (k:Nat) (ρ:Env),σ=upds ρ [(0,v_l),(1,I apart),(2,I threshold),(3,v_choice),(11,I (k:Int))]/\M.iterN (zck l choice) m k=some ex6z/\St w W [] R) ?_ ?_
 ·exact ⟨_,0,_,upds_of _ _ ⟨rfl,rfl,rfl,rfl,rfl,trivial⟩,hi7z,H⟩
 rintro m11z σ w9z ⟨k,ρ,rfl,hI10z,H⟩
 obtain ⟨m12z,lt13z,x14z,hM,hN15z⟩:=M.e_iterN hI10z
 simp only [zck] at hM
 clear hI10z
 have hl16z:=(hs_choice).len_le
 refine kg 8 ?_
 refine W.cond (decide ((k:Int)<(choice.length:Int))) rfl (fun c17z=>?_) (fun c17z=>?_)
 ·replace hM:=M.e_t hM c17z
  simp only [qy1,qy2,qy3,qy4,qy5,qy6,ne_eq,qy7] at c17z
  refine kg 4 ?_
  refine W.draw (fun W=>St w W [] R) [(0,true),(1,true),(2,true),(3,true),(4,true),(5,true),(6,true),(7,false),(8,true),(9,true),(10,true),(11,true),(12,true),(13,true),(14,true),(15,true),(16,true),(17,true),(18,true),(19,true),(20,true),(21,true),(22,true),(23,true)] mixed (by decide +kernel) rfl ?_
  intro w18z hx_
  replace H:=H.ext hx_
  clear hx_
  refine ⟨(H.pk []),?_⟩
  obtain ⟨sd19z,hM⟩:=M.e_grd hM
  simp only [Bool.and_eq_true,decide_eq_true_eq] at sd19z
  have hl20z:=(hs_l).len_le
  refine kg 7 ?_
  refine d_l rfl ?_
  obtain ⟨r22z,hx21z,hM⟩:=M.e_bind hM
  refine s_call cf56 [I (choice.getD k 0),I 0,I ((l.length:Int)-1)] rfl (zae (choice.getD k 0) 0 ((l.length:Int)-1) hx21z _ (H.gt 0)) ?_
  rintro vq w23z ⟨r3,hr24z,hvq,H2_⟩
  subst hr24z
  subst vq
  try dsimp only at hM
  replace H:=H.bk H2_
  clear H2_
  refine s_nil ⟨(H.pk []),?_⟩
  obtain ⟨sd25z,hM⟩:=M.e_grd hM
  replace sd25z:=M.imp_of sd25z
  simp only [Bool.and_eq_true,decide_eq_true_eq] at sd25z
  obtain ⟨sd26z,hM⟩:=M.e_grd hM
  replace sd26z:=M.imp_of sd26z
  simp only [Bool.and_eq_true,decide_eq_true_eq] at sd26z
  refine kg 17 ?_
  refine W.cond (r3||((decide (0<(k:Int)))&&(decide ((choice.getD k 0)<=(choice.getD (Int.toNat ((k:Int)-1)) 0))))) rfl (fun c27z=>?_) (fun c27z=>?_)
  ·replace hM:=M.e_t hM c27z
   refine kg 5 ?_
   refine W.ret ?_
   have hX28z:=M.e_inr hM hN15z
   subst hX28z
   replace hM:=hk8z
   try dsimp only at hM
   have hr_:=M.e_pure hM
   exact ⟨_,resE_tmp2 rfl,⟨0,2,hr_,rfl,H⟩⟩
  replace hM:=M.e_f hM c27z
  refine kg 6 ?_
  exact ⟨m12z,lt13z,k+1,_,upds_of _ _ ⟨rfl,rfl,rfl,rfl,rfl,trivial⟩,M.e_inl hM hN15z,H⟩
 replace hM:=M.e_f hM c17z
 simp only [qy1,qy2,qy3,qy4,qy5,qy6,ne_eq,qy7] at c17z
 refine W.exit ?_
 have hX29z:=M.e_inr hM hN15z
 subst hX29z
 replace hM:=hk8z
 try dsimp only at hM
 refine kg 10 ?_
 obtain ⟨ex30z,hi31z,hk32z⟩:=M.e_bind hM
 obtain ⟨m0_,hi31z⟩:=M.e_iter hi31z
 refine W.loop (fun m σ W=>∃ (sum:Int) (k2:Nat) (ρ:Env),σ=upds ρ [(0,v_l),(1,I apart),(2,I threshold),(3,v_choice),(12,I sum),(13,I (k2:Int))]/\M.iterN (zbn l apart threshold choice) m (sum,k2)=some ex30z/\St w W [] R) ?_ ?_
 ·exact ⟨_,0,0,_,upds_of _ _ ⟨rfl,rfl,rfl,rfl,rfl,rfl,trivial⟩,hi31z,H⟩
 rintro m35z σ w33z ⟨sum,k2,ρ,rfl,hI34z,H⟩
 obtain ⟨m36z,lt37z,x38z,hM,hN39z⟩:=M.e_iterN hI34z
 simp only [zbn] at hM
 clear hI34z
 have hl40z:=(hs_choice).len_le
 refine kg 8 ?_
 refine W.cond (decide ((k2:Int)<(choice.length:Int))) rfl (fun c41z=>?_) (fun c41z=>?_)
 ·replace hM:=M.e_t hM c41z
  simp only [qy1,qy2,qy3,qy4,qy5,qy6,ne_eq,qy7] at c41z
  obtain ⟨sd42z,hM⟩:=M.e_grd hM
  simp only [Bool.and_eq_true,decide_eq_true_eq] at sd42z
  obtain ⟨sd43z,hM⟩:=M.e_grd hM
  simp only [Bool.and_eq_true,decide_eq_true_eq] at sd43z
  refine kg 12 ?_
  refine t_alloc (cs:=[I 0,I 0]) H Al109 rfl ?_
  intro b_1 w44z H
  refine t_sw 0 0 [I ((l.getD (Int.toNat (choice.getD k2 0)) default).day),I ((l.getD (Int.toNat (choice.getD k2 0)) default).stage)] (.agg #[I ((l.getD (Int.toNat (choice.getD k2 0)) default).day),I ((l.getD (Int.toNat (choice.getD k2 0)) default).stage)]) H rfl rfl Sz109 rfl rfl rfl rfl ?_
  intro w45z H
  refine kg 9 ?_
  refine W.cond (decide (((l.getD (Int.toNat (choice.getD k2 0)) default).stage)<=threshold)) rfl (fun c46z=>?_) (fun c46z=>?_)
  ·replace hM:=M.e_t hM c46z
   simp only [qy1,qy2,qy3,qy4,qy5,qy6,ne_eq,qy7] at c46z
   refine kg 5 ?_
   refine W.ret ?_
   have hX47z:=M.e_inr hM hN39z
   subst hX47z
   replace hM:=hk32z
   try dsimp only at hM
   have hr_:=M.e_pure hM
   exact ⟨_,resE_tmp2 rfl,⟨0,7,hr_,rfl,(H.pk [])⟩⟩
  replace hM:=M.e_f hM c46z
  simp only [qy1,qy2,qy3,qy4,qy5,qy6,ne_eq,qy7] at c46z
  refine kg 7 ?_
  obtain ⟨ex48z,hi49z,hk50z⟩:=M.e_bind hM
  obtain ⟨m0_,hi49z⟩:=M.e_iter hi49z
  refine W.loop (fun m σ W=>∃ (j:Nat) (ρ:Env),σ=upds ρ [(0,v_l),(1,I apart),(2,I threshold),(3,v_choice),(12,I sum),(13,I (k2:Int)),(14,Pq b_1),(15,I (j:Int))]/\M.iterN (zbt l apart choice k2) m j=some ex48z/\St w W [cBlk b_1 [I ((l.getD (Int.toNat (choice.getD k2 0)) default).day),I ((l.getD (Int.toNat (choice.getD k2 0)) default).stage)] 109] R) ?_ ?_
  ·exact ⟨_,0,_,upds_of _ _ ⟨rfl,rfl,rfl,rfl,rfl,rfl,rfl,rfl,trivial⟩,hi49z,H⟩
  rintro m53z σ w51z ⟨j,ρ,rfl,hI52z,H⟩
  obtain ⟨m54z,lt55z,x56z,hM,hN57z⟩:=M.e_iterN hI52z
  simp only [zbt] at hM
  clear hI52z
  refine kg 7 ?_
  refine W.cond (decide ((j:Int)<(k2:Int))) rfl (fun c58z=>?_) (fun c58z=>?_)
  ·replace hM:=M.e_t hM c58z
   simp only [qy1,qy2,qy3,qy4,qy5,qy6,ne_eq,qy7] at c58z
   refine kg 4 ?_
   refine W.draw (fun W=>St w W [cBlk b_1 [I ((l.getD (Int.toNat (choice.getD k2 0)) default).day),I ((l.getD (Int.toNat (choice.getD k2 0)) default).stage)] 109] R) [(0,true),(1,true),(2,true),(3,true),(4,true),(5,true),(6,true),(7,true),(8,true),(9,true),(10,true),(11,true),(12,true)] mixed (by decide +kernel) rfl ?_
   intro w59z hx_
   replace H:=H.ext hx_
   clear hx_
   refine ⟨(H.pk [0]),?_⟩
   obtain ⟨sd60z,hM⟩:=M.e_grd hM
   simp only [Bool.and_eq_true,decide_eq_true_eq] at sd60z
   obtain ⟨sd61z,hM⟩:=M.e_grd hM
   simp only [Bool.and_eq_true,decide_eq_true_eq] at sd61z
   obtain ⟨sd62z,hM⟩:=M.e_grd hM
   simp only [Bool.and_eq_true,decide_eq_true_eq] at sd62z
   refine kg 14 ?_
   refine W.cond (decide ((((l.getD (Int.toNat (choice.getD k2 0)) default).day)-((l.getD (Int.toNat (choice.getD j 0)) default).day))<apart)) rfl (fun c63z=>?_) (fun c63z=>?_)
   ·replace hM:=M.e_t hM c63z
    simp only [qy1,qy2,qy3,qy4,qy5,qy6,ne_eq,qy7] at c63z
    refine kg 5 ?_
    refine W.ret ?_
    have hX64z:=M.e_inr hM hN57z
    subst hX64z
    replace hM:=hk50z
    try dsimp only at hM
    have hX65z:=M.e_inr hM hN39z
    subst hX65z
    replace hM:=hk32z
    try dsimp only at hM
    have hr_:=M.e_pure hM
    exact ⟨_,resE_tmp2 rfl,⟨0,7,hr_,rfl,(H.pk [])⟩⟩
   replace hM:=M.e_f hM c63z
   simp only [qy1,qy2,qy3,qy4,qy5,qy6,ne_eq,qy7] at c63z
   refine kg 6 ?_
   exact ⟨m54z,lt55z,j+1,_,upds_of _ _ ⟨rfl,rfl,rfl,rfl,rfl,rfl,rfl,rfl,trivial⟩,M.e_inl hM hN57z,H⟩
  replace hM:=M.e_f hM c58z
  simp only [qy1,qy2,qy3,qy4,qy5,qy6,ne_eq,qy7] at c58z
  refine W.exit ?_
  have hX66z:=M.e_inr hM hN57z
  subst hX66z
  replace hM:=hk50z
  try dsimp only at hM
  obtain ⟨sd67z,hM⟩:=M.e_grd hM
  simp only [Bool.and_eq_true,decide_eq_true_eq] at sd67z
  obtain ⟨sd68z,hM⟩:=M.e_grd hM
  simp only [Bool.and_eq_true,decide_eq_true_eq] at sd68z
  refine kg 14 ?_
  exact ⟨m36z,lt37z,(sum+((l.getD (Int.toNat (choice.getD k2 0)) default).stage))-threshold,k2+1,_,upds_of _ _ ⟨rfl,rfl,rfl,rfl,rfl,rfl,trivial⟩,M.e_inl hM hN39z,(H.pk [])⟩
 replace hM:=M.e_f hM c41z
 simp only [qy1,qy2,qy3,qy4,qy5,qy6,ne_eq,qy7] at c41z
 refine W.exit ?_
 have hX69z:=M.e_inr hM hN39z
 subst hX69z
 replace hM:=hk32z
 try dsimp only at hM
 refine kg 6 ?_
 refine W.ret ?_
 have hr_:=M.e_pure hM
 exact ⟨_,resE_tmp2 rfl,⟨sum,0,hr_,rfl,H⟩⟩

def zcD (l:List Pk) (apart:Int) (i:Nat):Int->M (Int ⊕ Int):=fun k =>
  M.grd ((!(decide (0<k))||(decide ((i:Int)<(l.length:Int))))) <|
  M.grd ((!(decide (0<k))||(decide ((-9223372036854775808:Int)<=(k-1))&&decide ((k-1)<=(9223372036854775807:Int))))) <|
  M.grd ((!(decide (0<k))||(decide ((0:Int)<=(k-1))&&decide ((k-1)<(l.length:Int))))) <|
  M.grd ((!(decide (0<k))||(decide ((-9223372036854775808:Int)<=(((l.getD i default).day)-((l.getD (Int.toNat (k-1)) default).day)))&&decide ((((l.getD i default).day)-((l.getD (Int.toNat (k-1)) default).day))<=(9223372036854775807:Int))))) <|
  bif ((decide (0<k))&&(decide ((((l.getD i default).day)-((l.getD (Int.toNat (k-1)) default).day))<apart))) then (
  M.grd (decide ((-9223372036854775808:Int)<=(k-1))&&decide ((k-1)<=(9223372036854775807:Int))) <|
  M.pure (.inl (k-1)))
  else (
  M.pure (.inr k))
def zbl (l:List Pk) (apart:Int) (threshold:Int):((List Int) × Nat)->M (((List Int) × Nat) ⊕ ((List Int) × (List Int))):=fun (l2,i) =>
  bif decide ((i:Int)<(l.length:Int)) then (
  M.bind (M.iter (zcD l apart i) (i:Int)) fun k2 =>
  M.grd (decide ((i:Int)<(l.length:Int))) <|
  M.grd (decide ((i:Int)<(l2.length:Int))) <|
  M.grd (decide ((0:Int)<=k2)&&decide (k2<(l2.length:Int))) <|
  M.grd (decide ((-9223372036854775808:Int)<=((l2.getD (Int.toNat k2) 0)+((l.getD i default).stage)))&&decide (((l2.getD (Int.toNat k2) 0)+((l.getD i default).stage))<=(9223372036854775807:Int))) <|
  M.grd (decide ((-9223372036854775808:Int)<=(((l2.getD (Int.toNat k2) 0)+((l.getD i default).stage))-threshold))&&decide ((((l2.getD (Int.toNat k2) 0)+((l.getD i default).stage))-threshold)<=(9223372036854775807:Int))) <|
  M.grd (decide ((0:Int)<=((i:Int)+1))&&decide (((i:Int)+1)<(l2.length:Int))) <|
  M.pure (.inl (l2.set (Int.toNat ((i:Int)+1)) (max (l2.getD i 0) (((l2.getD (Int.toNat k2) 0)+((l.getD i default).stage))-threshold):Int),i+1)))
  else (
  M.pure (.inr (l2,l2)))
def zcR (l:List Pk) (apart:Int) (threshold:Int):M (Int × Int) :=
  M.bind (zaX l apart threshold) fun r2 =>
  bif r2 != 0 then (
  M.pure (0,r2))
  else (
  M.grd (decide ((-9223372036854775808:Int)<=((l.length:Int)+1))&&decide (((l.length:Int)+1)<=(9223372036854775807:Int))) <|
  M.grd (decide ((0:Int)<=((l.length:Int)+1))&&decide ((8:Int)*((l.length:Int)+1)<=281474976710656)&&decide (((l.length:Int)+1)<=(9223372036854775807:Int))) <|
  M.bind (M.iter (zbl l apart threshold) (List.replicate (Int.toNat ((l.length:Int)+1)) (0:Int),0)) fun (l3,l4) =>
  M.grd (decide ((0:Int)<=(l.length:Int))&&decide ((l.length:Int)<(l4.length:Int))) <|
  M.pure ((l4.getD (l.length) 0),0))
theorem zdW {R:List Chunk} {C_l:Cells} {v_l:Value} (l:List Pk) (apart:Int) (threshold:Int) (hC_l:Reads R C_l) (hs_l:Sl C_l v_l l) {r:(Int × Int)} (hM:(zcR l apart threshold).Ends r) (w:World) (H:St w w [] R):Ret Tryz.prog 23 #[v_l,I apart,I threshold] w fun v w'=>∃ (y0:Int) (y1:Int),(y0,y1)=r/\v = .tuple #[I y0,I y1]/\St w w' [] R:=by
 refine ret_of_W Tryz.func23 rfl rfl rfl ?_
 refine kg 11 ?_
 obtain ⟨r2z,hx1z,hM⟩:=M.e_bind hM
 refine s_call cf59 [v_l,I apart,I threshold] rfl (zdm l apart threshold (hC_l.app _) hs_l hx1z _ (H.gt 0)) ?_
 rintro vq w3z ⟨r2,hr4z,hvq,H2_⟩
 subst hr4z
 subst vq
 try dsimp only at hM
 replace H:=H.bk H2_
 clear H2_
 refine kg 7 ?_
 refine W.cond (r2 != 0) rfl (fun c5z=>?_) (fun c5z=>?_)
 ·replace hM:=M.e_t hM c5z
  simp only [qy1,qy2,qy3,qy4,qy5,qy6,ne_eq,qy7] at c5z
  refine kg 6 ?_
  refine W.ret ?_
  have hr_:=M.e_pure hM
  exact ⟨_,resE_tmp2 rfl,⟨0,r2,hr_,rfl,H⟩⟩
 replace hM:=M.e_f hM c5z
 simp only [qy1,qy2,qy3,qy4,qy5,qy6,ne_eq,qy7] at c5z
 have hl6z:=(hs_l).len_le
 obtain ⟨sd7z,hM⟩:=M.e_grd hM
 simp only [Bool.and_eq_true,decide_eq_true_eq] at sd7z
 obtain ⟨sd8z,hM⟩:=M.e_grd hM
 simp only [Bool.and_eq_true,decide_eq_true_eq] at sd8z
 refine kg 6 ?_
 refine t_mk (α:=Int) T22 (0:Int) rfl (n:=(l.length:Int)+1) H rfl rfl (by omega) (by omega) (by omega) ?_
 intro v9z w10z H
 replace H:=H.nf
 refine kg 8 ?_
 obtain ⟨ex11z,hi12z,hk13z⟩:=M.e_bind hM
 obtain ⟨m0_,hi12z⟩:=M.e_iter hi12z
 refine W.loop (fun m σ W=>∃ (l2:List Int) (i:Nat) (v_l2:Value) (ρ:Env),σ=upds ρ [(0,v_l),(1,I apart),(2,I threshold),(9,v_l2),(10,I (i:Int))]/\M.iterN (zbl l apart threshold) m (l2,i)=some ex11z/\St w W [cOwn (α:=Int) 3 v_l2 l2] R) ?_ ?_
 ·exact ⟨_,List.replicate (Int.toNat ((l.length:Int)+1)) (0:Int),0,v9z,_,upds_of _ _ ⟨rfl,rfl,rfl,rfl,rfl,trivial⟩,hi12z,H⟩
 rintro m16z σ w14z ⟨l2,i,v_l2,ρ,rfl,hI15z,H⟩
 obtain ⟨m17z,lt18z,x19z,hM,hN20z⟩:=M.e_iterN hI15z
 simp only [zbl] at hM
 clear hI15z
 have hl21z:=(hs_l).len_le
 refine kg 8 ?_
 refine W.cond (decide ((i:Int)<(l.length:Int))) rfl (fun c22z=>?_) (fun c22z=>?_)
 ·replace hM:=M.e_t hM c22z
  simp only [qy1,qy2,qy3,qy4,qy5,qy6,ne_eq,qy7] at c22z
  refine kg 10 ?_
  obtain ⟨ex23z,hi24z,hk25z⟩:=M.e_bind hM
  obtain ⟨m0_,hi24z⟩:=M.e_iter hi24z
  refine W.loop (fun m σ W=>∃ (k:Int) (ρ:Env),σ=upds ρ [(0,v_l),(1,I apart),(2,I threshold),(9,v_l2),(10,I (i:Int)),(11,I k)]/\M.iterN (zcD l apart i) m k=some ex23z/\St w W [cOwn (α:=Int) 3 v_l2 l2] R) ?_ ?_
  ·exact ⟨_,(i:Int),_,upds_of _ _ ⟨rfl,rfl,rfl,rfl,rfl,rfl,trivial⟩,hi24z,H⟩
  rintro m28z σ w26z ⟨k,ρ,rfl,hI27z,H⟩
  obtain ⟨m29z,lt30z,x31z,hM,hN32z⟩:=M.e_iterN hI27z
  simp only [zcD] at hM
  clear hI27z
  refine kg 2 ?_
  refine W.draw (fun W=>St w W [cOwn (α:=Int) 3 v_l2 l2] R) [(0,true),(1,true),(2,true),(3,true),(4,true),(5,true),(6,true),(7,true),(8,true),(9,true),(10,true),(11,true),(12,true),(13,true),(14,true),(15,true),(16,true),(17,true)] mixed (by decide +kernel) rfl ?_
  intro w33z hx_
  replace H:=H.ext hx_
  clear hx_
  refine ⟨(H.pk [0]),?_⟩
  obtain ⟨sd34z,hM⟩:=M.e_grd hM
  replace sd34z:=M.imp_of sd34z
  simp only [Bool.and_eq_true,decide_eq_true_eq] at sd34z
  obtain ⟨sd35z,hM⟩:=M.e_grd hM
  replace sd35z:=M.imp_of sd35z
  simp only [Bool.and_eq_true,decide_eq_true_eq] at sd35z
  obtain ⟨sd36z,hM⟩:=M.e_grd hM
  replace sd36z:=M.imp_of sd36z
  simp only [Bool.and_eq_true,decide_eq_true_eq] at sd36z
  obtain ⟨sd37z,hM⟩:=M.e_grd hM
  replace sd37z:=M.imp_of sd37z
  simp only [Bool.and_eq_true,decide_eq_true_eq] at sd37z
  refine kg 19 ?_
  refine W.cond ((decide (0<k))&&(decide ((((l.getD i default).day)-((l.getD (Int.toNat (k-1)) default).day))<apart))) rfl (fun c38z=>?_) (fun c38z=>?_)
  ·replace hM:=M.e_t hM c38z
   obtain ⟨sd39z,hM⟩:=M.e_grd hM
   simp only [Bool.and_eq_true,decide_eq_true_eq] at sd39z
   refine kg 7 ?_
   exact ⟨m29z,lt30z,k-1,_,upds_of _ _ ⟨rfl,rfl,rfl,rfl,rfl,rfl,trivial⟩,M.e_inl hM hN32z,H⟩
  replace hM:=M.e_f hM c38z
  refine W.exit ?_
  have hX40z:=M.e_inr hM hN32z
  subst hX40z
  replace hM:=hk25z
  try dsimp only at hM
  refine W.drawT (fun W=>St w W [] R) (.q 0 (.q 1 (.q 2 (.q 3 (.q 4 (.q 7 (.q 8 (.q 11 (.q 12 (.q 13 (.q 14 (.q 15 (.q 17 (.l2 5 (.l2 6 (.l 9 (.l 10 (.q 16 (.q 18 (.q 19 (.l 20 (.l 21 .nil))))))) 9 (.l2 6 (.l 10 (.q 16 (.q 18 (.q 19 (.l 20 (.l 21 .nil)))))) 10 (.q 16 (.q 18 (.l 6 (.q 19 (.l 20 (.l 21 .nil)))))))) 9 (.l2 5 (.l2 6 (.l 10 (.q 16 (.q 18 (.q 19 (.l 20 (.l 21 .nil)))))) 10 (.q 16 (.q 18 (.l 6 (.q 19 (.l 20 (.l 21 .nil))))))) 10 (.q 16 (.q 18 (.l 5 (.l 6 (.q 19 (.l 20 (.l 21 .nil)))))))))))))))))))))) mixed (by decide +kernel) rfl ?_
  intro w41z hx_
  replace H:=H.ext hx_
  clear hx_
  refine ⟨(H.pk []),?_⟩
  obtain ⟨sd42z,hM⟩:=M.e_grd hM
  simp only [Bool.and_eq_true,decide_eq_true_eq] at sd42z
  obtain ⟨sd43z,hM⟩:=M.e_grd hM
  simp only [Bool.and_eq_true,decide_eq_true_eq] at sd43z
  obtain ⟨sd44z,hM⟩:=M.e_grd hM
  simp only [Bool.and_eq_true,decide_eq_true_eq] at sd44z
  obtain ⟨sd45z,hM⟩:=M.e_grd hM
  simp only [Bool.and_eq_true,decide_eq_true_eq] at sd45z
  obtain ⟨sd46z,hM⟩:=M.e_grd hM
  simp only [Bool.and_eq_true,decide_eq_true_eq] at sd46z
  obtain ⟨sd47z,hM⟩:=M.e_grd hM
  simp only [Bool.and_eq_true,decide_eq_true_eq] at sd47z
  refine kg 13 ?_
  refine t_l2 rfl rfl ?_ ?_
  ·skip
   refine kg 1 ?_
   have hvc_q49z:=Sl.cells (H.os 0)
   have hvo_q49z:=Sl.oc (H.os 0)
   refine s_nil ⟨(H.pk []),?_⟩
   refine t_l2 rfl rfl ?_ ?_
   ·skip
    refine kg 1 ?_
    refine s_nil ⟨(H.pk []),?_⟩
    refine t_l rfl ?_
    refine kg 1 ?_
    refine s_nil ⟨(H.pk []),?_⟩
    refine t_l rfl ?_
    refine kg 1 ?_
    refine s_nil ⟨(H.pk []),?_⟩
    refine kg 3 ?_
    refine t_l rfl ?_
    refine kg 1 ?_
    refine s_nil ⟨(H.pk []),?_⟩
    refine t_l rfl ?_
    refine t_ost (k:=0) (i:=(i:Int)+1) (l:=l2) (l':=l2.set (Int.toNat ((i:Int)+1)) (max (l2.getD i 0) (((l2.getD (Int.toNat k) 0)+((l.getD i default).stage))-threshold):Int)) (val:=I (max (l2.getD i 0) (((l2.getD (Int.toNat k) 0)+((l.getD i default).stage))-threshold))) (L':=[cOwn (α:=Int) 3 v_l2 (l2.set (Int.toNat ((i:Int)+1)) (max (l2.getD i 0) (((l2.getD (Int.toNat k) 0)+((l.getD i default).stage))-threshold):Int))]) H rfl Sz3 (by omega) (by omega) (max (l2.getD i 0) (((l2.getD (Int.toNat k) 0)+((l.getD i default).stage))-threshold):Int) rfl rfl rfl rfl rfl ?_
    intro w50z H
    refine s_nil ⟨(H.pk []),?_⟩
    refine kg 6 ?_
    exact ⟨m17z,lt18z,l2.set (Int.toNat ((i:Int)+1)) (max (l2.getD i 0) (((l2.getD (Int.toNat k) 0)+((l.getD i default).stage))-threshold):Int),i+1,v_l2,_,upds_of _ _ ⟨rfl,rfl,rfl,rfl,rfl,trivial⟩,M.e_inl hM hN20z,H⟩
   skip
   refine kg 1 ?_
   refine s_nil ⟨(H.pk []),?_⟩
   refine t_l2 rfl rfl ?_ ?_
   ·skip
    refine kg 1 ?_
    refine s_nil ⟨(H.pk []),?_⟩
    refine t_l rfl ?_
    refine kg 1 ?_
    refine s_nil ⟨(H.pk []),?_⟩
    refine kg 3 ?_
    refine t_l rfl ?_
    refine kg 1 ?_
    refine s_nil ⟨(H.pk []),?_⟩
    refine t_l rfl ?_
    refine t_ost (k:=0) (i:=(i:Int)+1) (l:=l2) (l':=l2.set (Int.toNat ((i:Int)+1)) (max (l2.getD i 0) (((l2.getD (Int.toNat k) 0)+((l.getD i default).stage))-threshold):Int)) (val:=I (max (l2.getD i 0) (((l2.getD (Int.toNat k) 0)+((l.getD i default).stage))-threshold))) (L':=[cOwn (α:=Int) 3 v_l2 (l2.set (Int.toNat ((i:Int)+1)) (max (l2.getD i 0) (((l2.getD (Int.toNat k) 0)+((l.getD i default).stage))-threshold):Int))]) H rfl Sz3 (by omega) (by omega) (max (l2.getD i 0) (((l2.getD (Int.toNat k) 0)+((l.getD i default).stage))-threshold):Int) rfl rfl rfl rfl rfl ?_
    intro w51z H
    refine s_nil ⟨(H.pk []),?_⟩
    refine kg 6 ?_
    exact ⟨m17z,lt18z,l2.set (Int.toNat ((i:Int)+1)) (max (l2.getD i 0) (((l2.getD (Int.toNat k) 0)+((l.getD i default).stage))-threshold):Int),i+1,v_l2,_,upds_of _ _ ⟨rfl,rfl,rfl,rfl,rfl,trivial⟩,M.e_inl hM hN20z,H⟩
   skip
   refine kg 1 ?_
   refine s_nil ⟨(H.pk []),?_⟩
   refine kg 2 ?_
   refine t_l rfl ?_
   refine kg 1 ?_
   refine s_nil ⟨(H.pk []),?_⟩
   refine kg 1 ?_
   refine t_l rfl ?_
   refine kg 1 ?_
   refine s_nil ⟨(H.pk []),?_⟩
   refine t_l rfl ?_
   refine t_ost (k:=0) (i:=(i:Int)+1) (l:=l2) (l':=l2.set (Int.toNat ((i:Int)+1)) (max (l2.getD i 0) (((l2.getD (Int.toNat k) 0)+((l.getD i default).stage))-threshold):Int)) (val:=I (max (l2.getD i 0) (((l2.getD (Int.toNat k) 0)+((l.getD i default).stage))-threshold))) (L':=[cOwn (α:=Int) 3 v_l2 (l2.set (Int.toNat ((i:Int)+1)) (max (l2.getD i 0) (((l2.getD (Int.toNat k) 0)+((l.getD i default).stage))-threshold):Int))]) H rfl Sz3 (by omega) (by omega) (max (l2.getD i 0) (((l2.getD (Int.toNat k) 0)+((l.getD i default).stage))-threshold):Int) rfl rfl rfl rfl rfl ?_
   intro w52z H
   refine s_nil ⟨(H.pk []),?_⟩
   refine kg 6 ?_
   exact ⟨m17z,lt18z,l2.set (Int.toNat ((i:Int)+1)) (max (l2.getD i 0) (((l2.getD (Int.toNat k) 0)+((l.getD i default).stage))-threshold):Int),i+1,v_l2,_,upds_of _ _ ⟨rfl,rfl,rfl,rfl,rfl,trivial⟩,M.e_inl hM hN20z,H⟩
  skip
  refine kg 1 ?_
  have hvc_q53z:=Sl.cells (H.os 0)
  have hvo_q53z:=Sl.oc (H.os 0)
  refine s_nil ⟨(H.pk []),?_⟩
  refine t_l2 rfl rfl ?_ ?_
  ·skip
   refine kg 1 ?_
   refine s_nil ⟨(H.pk []),?_⟩
   refine t_l2 rfl rfl ?_ ?_
   ·skip
    refine kg 1 ?_
    refine s_nil ⟨(H.pk []),?_⟩
    refine t_l rfl ?_
    refine kg 1 ?_
    refine s_nil ⟨(H.pk []),?_⟩
    refine kg 3 ?_
    refine t_l rfl ?_
    refine kg 1 ?_
    refine s_nil ⟨(H.pk []),?_⟩
    refine t_l rfl ?_
    refine t_ost (k:=0) (i:=(i:Int)+1) (l:=l2) (l':=l2.set (Int.toNat ((i:Int)+1)) (max (l2.getD i 0) (((l2.getD (Int.toNat k) 0)+((l.getD i default).stage))-threshold):Int)) (val:=I (max (l2.getD i 0) (((l2.getD (Int.toNat k) 0)+((l.getD i default).stage))-threshold))) (L':=[cOwn (α:=Int) 3 v_l2 (l2.set (Int.toNat ((i:Int)+1)) (max (l2.getD i 0) (((l2.getD (Int.toNat k) 0)+((l.getD i default).stage))-threshold):Int))]) H rfl Sz3 (by omega) (by omega) (max (l2.getD i 0) (((l2.getD (Int.toNat k) 0)+((l.getD i default).stage))-threshold):Int) rfl rfl rfl rfl rfl ?_
    intro w54z H
    refine s_nil ⟨(H.pk []),?_⟩
    refine kg 6 ?_
    exact ⟨m17z,lt18z,l2.set (Int.toNat ((i:Int)+1)) (max (l2.getD i 0) (((l2.getD (Int.toNat k) 0)+((l.getD i default).stage))-threshold):Int),i+1,v_l2,_,upds_of _ _ ⟨rfl,rfl,rfl,rfl,rfl,trivial⟩,M.e_inl hM hN20z,H⟩
   skip
   refine kg 1 ?_
   refine s_nil ⟨(H.pk []),?_⟩
   refine kg 2 ?_
   refine t_l rfl ?_
   refine kg 1 ?_
   refine s_nil ⟨(H.pk []),?_⟩
   refine kg 1 ?_
   refine t_l rfl ?_
   refine kg 1 ?_
   refine s_nil ⟨(H.pk []),?_⟩
   refine t_l rfl ?_
   refine t_ost (k:=0) (i:=(i:Int)+1) (l:=l2) (l':=l2.set (Int.toNat ((i:Int)+1)) (max (l2.getD i 0) (((l2.getD (Int.toNat k) 0)+((l.getD i default).stage))-threshold):Int)) (val:=I (max (l2.getD i 0) (((l2.getD (Int.toNat k) 0)+((l.getD i default).stage))-threshold))) (L':=[cOwn (α:=Int) 3 v_l2 (l2.set (Int.toNat ((i:Int)+1)) (max (l2.getD i 0) (((l2.getD (Int.toNat k) 0)+((l.getD i default).stage))-threshold):Int))]) H rfl Sz3 (by omega) (by omega) (max (l2.getD i 0) (((l2.getD (Int.toNat k) 0)+((l.getD i default).stage))-threshold):Int) rfl rfl rfl rfl rfl ?_
   intro w55z H
   refine s_nil ⟨(H.pk []),?_⟩
   refine kg 6 ?_
   exact ⟨m17z,lt18z,l2.set (Int.toNat ((i:Int)+1)) (max (l2.getD i 0) (((l2.getD (Int.toNat k) 0)+((l.getD i default).stage))-threshold):Int),i+1,v_l2,_,upds_of _ _ ⟨rfl,rfl,rfl,rfl,rfl,trivial⟩,M.e_inl hM hN20z,H⟩
  skip
  refine kg 1 ?_
  refine s_nil ⟨(H.pk []),?_⟩
  refine kg 2 ?_
  refine t_l rfl ?_
  refine kg 1 ?_
  refine s_nil ⟨(H.pk []),?_⟩
  refine t_l rfl ?_
  refine kg 1 ?_
  refine s_nil ⟨(H.pk []),?_⟩
  refine kg 1 ?_
  refine t_l rfl ?_
  refine kg 1 ?_
  refine s_nil ⟨(H.pk []),?_⟩
  refine t_l rfl ?_
  refine t_ost (k:=0) (i:=(i:Int)+1) (l:=l2) (l':=l2.set (Int.toNat ((i:Int)+1)) (max (l2.getD i 0) (((l2.getD (Int.toNat k) 0)+((l.getD i default).stage))-threshold):Int)) (val:=I (max (l2.getD i 0) (((l2.getD (Int.toNat k) 0)+((l.getD i default).stage))-threshold))) (L':=[cOwn (α:=Int) 3 v_l2 (l2.set (Int.toNat ((i:Int)+1)) (max (l2.getD i 0) (((l2.getD (Int.toNat k) 0)+((l.getD i default).stage))-threshold):Int))]) H rfl Sz3 (by omega) (by omega) (max (l2.getD i 0) (((l2.getD (Int.toNat k) 0)+((l.getD i default).stage))-threshold):Int) rfl rfl rfl rfl rfl ?_
  intro w56z H
  refine s_nil ⟨(H.pk []),?_⟩
  refine kg 6 ?_
  exact ⟨m17z,lt18z,l2.set (Int.toNat ((i:Int)+1)) (max (l2.getD i 0) (((l2.getD (Int.toNat k) 0)+((l.getD i default).stage))-threshold):Int),i+1,v_l2,_,upds_of _ _ ⟨rfl,rfl,rfl,rfl,rfl,trivial⟩,M.e_inl hM hN20z,H⟩
 replace hM:=M.e_f hM c22z
 simp only [qy1,qy2,qy3,qy4,qy5,qy6,ne_eq,qy7] at c22z
 refine W.exit ?_
 have hX57z:=M.e_inr hM hN20z
 subst hX57z
 replace hM:=hk13z
 try dsimp only at hM
 have hl58z:=(hs_l).len_le
 obtain ⟨sd59z,hM⟩:=M.e_grd hM
 simp only [Bool.and_eq_true,decide_eq_true_eq] at sd59z
 refine kg 10 ?_
 refine W.ret ?_
 have hr_:=M.e_pure hM
 exact ⟨_,resE_tmp2 rfl,⟨(l2.getD (l.length) 0),0,hr_,rfl,(H.pk [])⟩⟩

def zcA (i:Int) (n:Int) (k02:List Int):M (List Int) :=
  M.grd (decide ((0:Int)<=i)&&decide (i<(k02.length:Int))) <|
  M.grd (decide ((-9223372036854775808:Int)<=((k02.getD (Int.toNat i) 0)+n))&&decide (((k02.getD (Int.toNat i) 0)+n)<=(9223372036854775807:Int))) <|
  M.pure (k02.set (Int.toNat i) ((k02.getD (Int.toNat i) 0)+n:Int))
theorem zef {R:List Chunk} {b_k0:Nat} {v_k02:Value} (i:Int) (n:Int) (k02:List Int)  {r:(List Int)} (hM:(zcA i n k02).Ends r) (w:World) (H:St w w [cOwn (α:=Int) 3 v_k02 k02,cBlk b_k0 [v_k02] 22] R):Ret Tryz.prog 66 #[I i,I n,Pq b_k0] w fun v w'=>∃ (y0:List Int) (u0:Value),y0=r/\v = .tuple #[]/\St w w' [cOwn (α:=Int) 3 u0 y0,cBlk b_k0 [u0] 22] R:=by
 refine ret_of_W Tryz.func66 rfl rfl rfl ?_
 obtain ⟨sd1z,hM⟩:=M.e_grd hM
 simp only [Bool.and_eq_true,decide_eq_true_eq] at sd1z
 obtain ⟨sd2z,hM⟩:=M.e_grd hM
 simp only [Bool.and_eq_true,decide_eq_true_eq] at sd2z
 refine kg 8 ?_
 refine t_ost (k:=0) (i:=i) (l:=k02) (l':=k02.set (Int.toNat i) ((k02.getD (Int.toNat i) 0)+n:Int)) (val:=I ((k02.getD (Int.toNat i) 0)+n)) (L':=[cOwn (α:=Int) 3 v_k02 (k02.set (Int.toNat i) ((k02.getD (Int.toNat i) 0)+n:Int)),cBlk b_k0 [v_k02] 22]) H rfl Sz3 (by omega) (by omega) ((k02.getD (Int.toNat i) 0)+n:Int) rfl rfl rfl rfl rfl ?_
 intro w3z H
 refine s_nil ?_
 have hr_:=M.e_pure hM
 exact ⟨_,resE_tmp0 rfl,⟨(k02.set (Int.toNat i) ((k02.getD (Int.toNat i) 0)+n:Int)),v_k02,hr_,rfl,H⟩⟩

def zbo (l2:List Int) (s2:Nat) (r3:Int):(Int × Nat)->M ((Int × Nat) ⊕ Int):=fun (lacks,s) =>
  bif decide ((s:Int)<(((l2.take (Int.toNat r3)).drop s2).length:Int)) then (
  M.grd (decide ((s:Int)<(((l2.take (Int.toNat r3)).drop s2).length:Int))) <|
  M.grd (decide ((-9223372036854775808:Int)<=(lacks-(((l2.take (Int.toNat r3)).drop s2).getD s 0)))&&decide ((lacks-(((l2.take (Int.toNat r3)).drop s2).getD s 0))<=(9223372036854775807:Int))) <|
  M.pure (.inl (lacks-(((l2.take (Int.toNat r3)).drop s2).getD s 0),s+1)))
  else (
  M.pure (.inr lacks))
def zcl (l:List Pk) (apart:Int) (threshold:Int):((List Int) × Nat)->M (((List Int) × Nat) ⊕ ((List Int) × (List Int))):=fun (l2,s2) =>
  bif decide ((s2:Int)<(l.length:Int)) then (
  M.grd (decide ((s2:Int)<(l.length:Int))) <|
  M.bind (zbj l (s2:Int) apart) fun r3 =>
  M.grd (decide ((-9223372036854775808:Int)<=(((l.getD s2 default).stage)-threshold))&&decide ((((l.getD s2 default).stage)-threshold)<=(9223372036854775807:Int))) <|
  M.grd (decide ((0:Int)<=(s2:Int))&&decide ((s2:Int)<=r3)&&decide (r3<=(l2.length:Int))) <|
  M.bind (M.iter (zbo l2 s2 r3) (((l.getD s2 default).stage)-threshold,0)) fun lacks2 =>
  M.grd (decide ((-9223372036854775808:Int)<=(r3-1))&&decide ((r3-1)<=(9223372036854775807:Int))) <|
  M.bind (zaG ([(lacks2:Int)])) fun r4 =>
  M.bind (zcA (r3-1) r4 l2) fun l_k02 =>
  M.pure (.inl (l_k02,s2+1)))
  else (
  M.pure (.inr (l2,l2)))
def zc2 (l:List Pk) (apart:Int) (threshold:Int):M ((List Int) × Int) :=
  M.bind (zaN l apart threshold) fun r2 =>
  bif r2 != 0 then (
  M.pure (([]),r2))
  else (
  M.grd (decide ((0:Int)<=(l.length:Int))&&decide ((8:Int)*(l.length:Int)<=281474976710656)&&decide ((l.length:Int)<=(9223372036854775807:Int))) <|
  M.bind (M.iter (zcl l apart threshold) (List.replicate (l.length) (0:Int),0)) fun (l3,l4) =>
  M.pure (l4,0))
theorem zd0 {R:List Chunk} {C_l:Cells} {v_l:Value} (l:List Pk) (apart:Int) (threshold:Int) (hC_l:Reads R C_l) (hs_l:Sl C_l v_l l) {r:((List Int) × Int)} (hM:(zc2 l apart threshold).Ends r) (w:World) (H:St w w [] R):Ret Tryz.prog 24 #[v_l,I apart,I threshold] w fun v w'=>∃ (y0:List Int) (y1:Int) (u0:Value),(y0,y1)=r/\v = .tuple #[u0,I y1]/\St w w' [cOwn (α:=Int) 3 u0 y0] R:=by
 refine ret_of_W Tryz.func24 rfl rfl rfl ?_
 refine kg 11 ?_
 obtain ⟨r2z,hx1z,hM⟩:=M.e_bind hM
 refine s_call cf57 [v_l,I apart,I threshold] rfl (zcG l apart threshold (hC_l.app _) hs_l hx1z _ (H.gt 0)) ?_
 rintro vq w3z ⟨r2,hr4z,hvq,H2_⟩
 subst hr4z
 subst vq
 try dsimp only at hM
 replace H:=H.bk H2_
 clear H2_
 refine kg 7 ?_
 refine W.cond (r2 != 0) rfl (fun c5z=>?_) (fun c5z=>?_)
 ·replace hM:=M.e_t hM c5z
  simp only [qy1,qy2,qy3,qy4,qy5,qy6,ne_eq,qy7] at c5z
  refine kg 6 ?_
  refine W.ret ?_
  have hr_:=M.e_pure hM
  replace H:=H.nilOwn (α:=Int) 3
  exact ⟨_,resE_tmp2 rfl,⟨([]),r2,(.slice none 0 0),hr_,rfl,H⟩⟩
 replace hM:=M.e_f hM c5z
 simp only [qy1,qy2,qy3,qy4,qy5,qy6,ne_eq,qy7] at c5z
 have hl6z:=(hs_l).len_le
 obtain ⟨sd7z,hM⟩:=M.e_grd hM
 simp only [Bool.and_eq_true,decide_eq_true_eq] at sd7z
 refine kg 5 ?_
 refine t_mk (α:=Int) T22 (0:Int) rfl (n:=(l.length:Int)) H rfl rfl (by omega) (by omega) (by omega) ?_
 intro v8z w9z H
 replace H:=H.nf
 refine t_alloc (cs:=[.slice none 0 0]) H Al22 rfl ?_
 intro b_2 w10z H
 refine t_sw 0 0 [v8z] v8z H rfl rfl Sz22 (Sl.cells (H.os 1)) rfl rfl (by simp only [List.all_cons,List.all_nil,Bool.true_and,Bool.and_true,Sl.oc (H.os 1)]; try rfl) ?_
 intro w11z H
 refine kg 3 ?_
 refine s_val (x_mf (fs:=[]) (cs:=[Pq b_2]) rfl rfl) ?_
 have hl12z:=(hs_l).len_le
 refine kg 10 ?_
 obtain ⟨ex13z,hi14z,hk15z⟩:=M.e_bind hM
 obtain ⟨m0_,hi14z⟩:=M.e_iter hi14z
 refine W.loop (fun m σ W=>∃ (l2:List Int) (s2:Nat) (v_l2:Value) (ρ:Env),σ=upds ρ [(0,v_l),(1,I apart),(2,I threshold),(9,Pq b_2),(10,.func (.func 66) #[] #[Pq b_2]),(28,v_l),(29,I (l.length:Int)),(30,I (s2:Int))]/\M.iterN (zcl l apart threshold) m (l2,s2)=some ex13z/\St w W [cBlk b_2 [v_l2] 22,cOwn (α:=Int) 3 v_l2 l2] R) ?_ ?_
 ·exact ⟨_,List.replicate (l.length) (0:Int),0,v8z,_,upds_of _ _ ⟨rfl,rfl,rfl,rfl,rfl,rfl,rfl,rfl,trivial⟩,hi14z,H⟩
 rintro m18z σ w16z ⟨l2,s2,v_l2,ρ,rfl,hI17z,H⟩
 obtain ⟨m19z,lt20z,x21z,hM,hN22z⟩:=M.e_iterN hI17z
 simp only [zcl] at hM
 clear hI17z
 refine kg 5 ?_
 refine W.cond (decide ((s2:Int)<(l.length:Int))) rfl (fun c23z=>?_) (fun c23z=>?_)
 ·replace hM:=M.e_t hM c23z
  simp only [qy1,qy2,qy3,qy4,qy5,qy6,ne_eq,qy7] at c23z
  obtain ⟨sd24z,hM⟩:=M.e_grd hM
  simp only [Bool.and_eq_true,decide_eq_true_eq] at sd24z
  refine kg 8 ?_
  refine t_alloc (cs:=[I 0,I 0]) H Al32 rfl ?_
  intro b_3 w25z H
  refine kg 1 ?_
  refine t_sw 0 0 [I ((l.getD s2 default).day),I ((l.getD s2 default).stage)] (.agg #[I ((l.getD s2 default).day),I ((l.getD s2 default).stage)]) H rfl rfl Sz32 rfl rfl rfl rfl ?_
  intro w26z H
  refine kg 6 ?_
  obtain ⟨r28z,hx27z,hM⟩:=M.e_bind hM
  refine s_call cf67 [v_l,I (s2:Int),I apart] rfl (zdx l (s2:Int) apart (hC_l.app _) hs_l hx27z _ (H.gt 3)) ?_
  rintro vq w29z ⟨r3,hr30z,hvq,H2_⟩
  subst hr30z
  subst vq
  try dsimp only at hM
  replace H:=H.bk H2_
  clear H2_
  obtain ⟨sd31z,hM⟩:=M.e_grd hM
  simp only [Bool.and_eq_true,decide_eq_true_eq] at sd31z
  obtain ⟨sd32z,hM⟩:=M.e_grd hM
  simp only [Bool.and_eq_true,decide_eq_true_eq] at sd32z
  refine kg 16 ?_
  obtain ⟨u33z,hr_u33z,hs34z⟩:=sl_lohi T22.und T22.size (H.os 2) (i:=(s2:Int)) (j:=r3) (by omega) (by omega) (by omega)
  replace hs34z:Sl _ u33z ((l2.take (Int.toNat r3)).drop s2):=hs34z
  refine s_val (x_sl (v:=v_l2) (u:=u33z) (lo':=some (I (s2:Int))) (hi':=some (I r3)) (mx':=none) rfl rfl rfl rfl (hr_u33z _)) ?_
  have hl35z:=(hs34z).len_le
  refine kg 4 ?_
  obtain ⟨ex36z,hi37z,hk38z⟩:=M.e_bind hM
  obtain ⟨m0_,hi37z⟩:=M.e_iter hi37z
  refine W.loop (fun m σ W=>∃ (lacks:Int) (s:Nat) (ρ:Env),σ=upds ρ [(0,v_l),(1,I apart),(2,I threshold),(9,Pq b_2),(10,.func (.func 66) #[] #[Pq b_2]),(13,I r3),(14,I lacks),(28,v_l),(29,I (l.length:Int)),(30,I (s2:Int)),(46,u33z),(47,I (((l2.take (Int.toNat r3)).drop s2).length:Int)),(48,I (s:Int))]/\M.iterN (zbo l2 s2 r3) m (lacks,s)=some ex36z/\St w W [cBlk b_3 [I ((l.getD s2 default).day),I ((l.getD s2 default).stage)] 32,cBlk b_2 [v_l2] 22,cOwn (α:=Int) 3 v_l2 l2] R) ?_ ?_
  ·exact ⟨_,((l.getD s2 default).stage)-threshold,0,_,upds_of _ _ ⟨rfl,rfl,rfl,rfl,rfl,rfl,rfl,rfl,rfl,rfl,rfl,rfl,rfl,trivial⟩,hi37z,H⟩
  rintro m41z σ w39z ⟨lacks,s,ρ,rfl,hI40z,H⟩
  obtain ⟨m42z,lt43z,x44z,hM,hN45z⟩:=M.e_iterN hI40z
  simp only [zbo] at hM
  clear hI40z
  refine kg 5 ?_
  refine W.cond (decide ((s:Int)<(((l2.take (Int.toNat r3)).drop s2).length:Int))) rfl (fun c46z=>?_) (fun c46z=>?_)
  ·replace hM:=M.e_t hM c46z
   simp only [qy1,qy2,qy3,qy4,qy5,qy6,ne_eq,qy7] at c46z
   obtain ⟨sd47z,hM⟩:=M.e_grd hM
   simp only [Bool.and_eq_true,decide_eq_true_eq] at sd47z
   obtain ⟨sd48z,hM⟩:=M.e_grd hM
   simp only [Bool.and_eq_true,decide_eq_true_eq] at sd48z
   refine kg 19 ?_
   exact ⟨m42z,lt43z,lacks-(((l2.take (Int.toNat r3)).drop s2).getD s 0),s+1,_,upds_of _ _ ⟨rfl,rfl,rfl,rfl,rfl,rfl,rfl,rfl,rfl,rfl,rfl,rfl,rfl,trivial⟩,M.e_inl hM hN45z,H⟩
  replace hM:=M.e_f hM c46z
  simp only [qy1,qy2,qy3,qy4,qy5,qy6,ne_eq,qy7] at c46z
  refine W.exit ?_
  have hX49z:=M.e_inr hM hN45z
  subst hX49z
  replace hM:=hk38z
  try dsimp only at hM
  obtain ⟨sd50z,hM⟩:=M.e_grd hM
  simp only [Bool.and_eq_true,decide_eq_true_eq] at sd50z
  refine kg 5 ?_
  refine t_bs (α:=Int) T22 [I lacks] [(lacks:Int)] H rfl (.cons rfl (Flat.rep_enc _ (lacks:Int))<|.nil) rfl rfl rfl ?_
  intro v51z w52z H
  obtain ⟨r54z,hx53z,hM⟩:=M.e_bind hM
  refine s_call cf65 [v51z] rfl (zdj ([(lacks:Int)]) (rdo 0) (H.os 0) hx53z _ (H.gt 4)) ?_
  rintro vq w55z ⟨r4,hr56z,hvq,H2_⟩
  subst hr56z
  subst vq
  try dsimp only at hM
  replace H:=H.bk H2_
  clear H2_
  obtain ⟨r58z,hx57z,hM⟩:=M.e_bind hM
  refine s_callv (f:=66) rfl cf66 [I (r3-1),I r4] rfl (zef (r3-1) r4 l2 hx57z _ ((H.pk [3,2,0,1]).gt 2)) ?_
  rintro vq w59z ⟨l_k02,u0_5,hr60z,hvq,H2_⟩
  subst hr60z
  subst vq
  try dsimp only at hM
  replace H:=H.pk [3,2,0,1] |>.bk H2_
  clear H2_
  refine kg 5 ?_
  exact ⟨m19z,lt20z,l_k02,s2+1,u0_5,_,upds_of _ _ ⟨rfl,rfl,rfl,rfl,rfl,rfl,rfl,rfl,trivial⟩,M.e_inl hM hN22z,(H.pk [1,0])⟩
 replace hM:=M.e_f hM c23z
 simp only [qy1,qy2,qy3,qy4,qy5,qy6,ne_eq,qy7] at c23z
 refine W.exit ?_
 have hX61z:=M.e_inr hM hN22z
 subst hX61z
 replace hM:=hk15z
 try dsimp only at hM
 refine kg 6 ?_
 refine W.ret ?_
 have hr_:=M.e_pure hM
 exact ⟨_,resE_tmp2 rfl,⟨l2,0,v_l2,hr_,rfl,(H.pk [1])⟩⟩

def zb1 (dues:List Int):(Int × Nat)->M ((Int × Nat) ⊕ (Unit ⊕ Int)):=fun (sum,i) =>
  bif decide ((i:Int)<(dues.length:Int)) then (
  M.grd (decide ((i:Int)<(dues.length:Int))) <|
  M.bind (zac (dues.getD i 0) 0 2000) fun r3 =>
  bif r3 then (
  M.pure (.inr (.inl ())))
  else (
  M.grd (decide ((-9223372036854775808:Int)<=(sum+(dues.getD i 0)))&&decide ((sum+(dues.getD i 0))<=(9223372036854775807:Int))) <|
  M.pure (.inl (sum+(dues.getD i 0),i+1))))
  else (
  M.pure (.inr (.inr sum)))
def zbT (l:List Pk) (apart:Int) (dues:List Int) (i2:Nat):(Int × Nat)->M ((Int × Nat) ⊕ Int):=fun (has,k) =>
  bif decide ((k:Int)<(l.length:Int)) then (
  M.grd (decide ((k:Int)<(l.length:Int))) <|
  M.grd (decide ((i2:Int)<(l.length:Int))) <|
  M.grd ((!(decide (((l.getD i2 default).day)<=((l.getD k default).day)))||(decide ((-9223372036854775808:Int)<=(((l.getD i2 default).day)+apart))&&decide ((((l.getD i2 default).day)+apart)<=(9223372036854775807:Int))))) <|
  M.grd ((!(decide (((l.getD i2 default).day)<=((l.getD k default).day)))||(decide ((-9223372036854775808:Int)<=((((l.getD i2 default).day)+apart)-1))&&decide (((((l.getD i2 default).day)+apart)-1)<=(9223372036854775807:Int))))) <|
  bif ((decide (((l.getD i2 default).day)<=((l.getD k default).day)))&&(decide (((l.getD k default).day)<=((((l.getD i2 default).day)+apart)-1)))) then (
  M.grd (decide ((k:Int)<(dues.length:Int))) <|
  M.grd (decide ((-9223372036854775808:Int)<=(has+(dues.getD k 0)))&&decide ((has+(dues.getD k 0))<=(9223372036854775807:Int))) <|
  M.pure (.inl (has+(dues.getD k 0),k+1)))
  else (
  M.pure (.inl (has,k+1))))
  else (
  M.pure (.inr has))
def zb3 (l:List Pk) (apart:Int) (threshold:Int) (dues:List Int):Nat->M (Nat ⊕ (Unit ⊕ Unit)):=fun i2 =>
  bif decide ((i2:Int)<(l.length:Int)) then (
  M.bind (M.iter (zbT l apart dues i2) (0,0)) fun has2 =>
  M.grd (decide ((i2:Int)<(l.length:Int))) <|
  M.grd ((!(decide (threshold<((l.getD i2 default).stage)))||(decide ((-9223372036854775808:Int)<=(((l.getD i2 default).stage)-threshold))&&decide ((((l.getD i2 default).stage)-threshold)<=(9223372036854775807:Int))))) <|
  bif ((decide (threshold<((l.getD i2 default).stage)))&&(decide (has2<(((l.getD i2 default).stage)-threshold)))) then (
  M.pure (.inr (.inl ())))
  else (
  M.pure (.inl (i2+1))))
  else (
  M.pure (.inr (.inr ())))
def zaw (l:List Pk) (apart:Int) (threshold:Int) (worth:Int) (dues:List Int):M (Bool × Int) :=
  M.bind (zaX l apart threshold) fun r2 =>
  bif r2 != 0 then (
  M.pure (false,r2))
  else (
  bif (dues.length:Int) != (l.length:Int) then (
  M.pure (false,2))
  else (
  M.bind (M.iter (zb1 dues) (0,0)) fun x_=>match x_ with
  | (.inl (_:Unit))=>(
  M.pure (false,4))
  | (.inr sum2)=>(
  M.bind (M.iter (zb3 l apart threshold dues) 0) fun x_=>match x_ with
  | (.inl (_:Unit))=>(
  M.pure (false,0))
  | (.inr (_:Unit))=>(
  M.pure ((decide (sum2<=worth)),0)))))
theorem zdk {R:List Chunk} {C_l:Cells} {v_l:Value} {C_dues:Cells} {v_dues:Value} (l:List Pk) (apart:Int) (threshold:Int) (worth:Int) (dues:List Int) (hC_l:Reads R C_l) (hs_l:Sl C_l v_l l) (hC_dues:Reads R C_dues) (hs_dues:Sl C_dues v_dues dues) {r:(Bool × Int)} (hM:(zaw l apart threshold worth dues).Ends r) (w:World) (H:St w w [] R):Ret Tryz.prog 25 #[v_l,I apart,I threshold,I worth,v_dues] w fun v w'=>∃ (y0:Bool) (y1:Int),(y0,y1)=r/\v = .tuple #[B y0,I y1]/\St w w' [] R:=by
 refine ret_of_W Tryz.func25 rfl rfl rfl ?_
 refine kg 11 ?_
 obtain ⟨r2z,hx1z,hM⟩:=M.e_bind hM
 refine s_call cf59 [v_l,I apart,I threshold] rfl (zdm l apart threshold (hC_l.app _) hs_l hx1z _ (H.gt 0)) ?_
 rintro vq w3z ⟨r2,hr4z,hvq,H2_⟩
 subst hr4z
 subst vq
 try dsimp only at hM
 replace H:=H.bk H2_
 clear H2_
 refine kg 7 ?_
 refine W.cond (r2 != 0) rfl (fun c5z=>?_) (fun c5z=>?_)
 ·replace hM:=M.e_t hM c5z
  simp only [qy1,qy2,qy3,qy4,qy5,qy6,ne_eq,qy7] at c5z
  refine kg 6 ?_
  refine W.ret ?_
  have hr_:=M.e_pure hM
  exact ⟨_,resE_tmp2 rfl,⟨false,r2,hr_,rfl,H⟩⟩
 replace hM:=M.e_f hM c5z
 simp only [qy1,qy2,qy3,qy4,qy5,qy6,ne_eq,qy7] at c5z
 have hl6z:=(hs_dues).len_le
 have hl7z:=(hs_l).len_le
 refine kg 10 ?_
 refine W.cond ((dues.length:Int) != (l.length:Int)) rfl (fun c8z=>?_) (fun c8z=>?_)
 ·replace hM:=M.e_t hM c8z
  simp only [qy1,qy2,qy3,qy4,qy5,qy6,ne_eq,qy7] at c8z
  refine kg 5 ?_
  refine W.ret ?_
  have hr_:=M.e_pure hM
  exact ⟨_,resE_tmp2 rfl,⟨false,2,hr_,rfl,H⟩⟩
 replace hM:=M.e_f hM c8z
 simp only [qy1,qy2,qy3,qy4,qy5,qy6,ne_eq,qy7] at c8z
 refine kg 11 ?_
 obtain ⟨ex9z,hi10z,hk11z⟩:=M.e_bind hM
 obtain ⟨m0_,hi10z⟩:=M.e_iter hi10z
 refine W.loop (fun m σ W=>∃ (sum:Int) (i:Nat) (ρ:Env),σ=upds ρ [(0,v_l),(1,I apart),(2,I threshold),(3,I worth),(4,v_dues),(13,I sum),(14,I (i:Int))]/\M.iterN (zb1 dues) m (sum,i)=some ex9z/\St w W [] R) ?_ ?_
 ·exact ⟨_,0,0,_,upds_of _ _ ⟨rfl,rfl,rfl,rfl,rfl,rfl,rfl,trivial⟩,hi10z,H⟩
 rintro m14z σ w12z ⟨sum,i,ρ,rfl,hI13z,H⟩
 obtain ⟨m15z,lt16z,x17z,hM,hN18z⟩:=M.e_iterN hI13z
 simp only [zb1] at hM
 clear hI13z
 have hl19z:=(hs_dues).len_le
 refine kg 8 ?_
 refine W.cond (decide ((i:Int)<(dues.length:Int))) rfl (fun c20z=>?_) (fun c20z=>?_)
 ·replace hM:=M.e_t hM c20z
  simp only [qy1,qy2,qy3,qy4,qy5,qy6,ne_eq,qy7] at c20z
  obtain ⟨sd21z,hM⟩:=M.e_grd hM
  simp only [Bool.and_eq_true,decide_eq_true_eq] at sd21z
  refine kg 10 ?_
  obtain ⟨r23z,hx22z,hM⟩:=M.e_bind hM
  refine s_call cf56 [I (dues.getD i 0),I 0,I 2000] rfl (zae (dues.getD i 0) 0 2000 hx22z _ (H.gt 0)) ?_
  rintro vq w24z ⟨r3,hr25z,hvq,H2_⟩
  subst hr25z
  subst vq
  try dsimp only at hM
  replace H:=H.bk H2_
  clear H2_
  refine s_nil ?_
  refine W.cond r3 rfl (fun c26z=>?_) (fun c26z=>?_)
  ·replace hM:=M.e_t hM c26z
   refine kg 5 ?_
   refine W.ret ?_
   have hX27z:=M.e_inr hM hN18z
   subst hX27z
   replace hM:=hk11z
   try dsimp only at hM
   have hr_:=M.e_pure hM
   exact ⟨_,resE_tmp2 rfl,⟨false,4,hr_,rfl,H⟩⟩
  replace hM:=M.e_f hM c26z
  obtain ⟨sd28z,hM⟩:=M.e_grd hM
  simp only [Bool.and_eq_true,decide_eq_true_eq] at sd28z
  refine kg 15 ?_
  exact ⟨m15z,lt16z,sum+(dues.getD i 0),i+1,_,upds_of _ _ ⟨rfl,rfl,rfl,rfl,rfl,rfl,rfl,trivial⟩,M.e_inl hM hN18z,H⟩
 replace hM:=M.e_f hM c20z
 simp only [qy1,qy2,qy3,qy4,qy5,qy6,ne_eq,qy7] at c20z
 refine W.exit ?_
 have hX29z:=M.e_inr hM hN18z
 subst hX29z
 replace hM:=hk11z
 try dsimp only at hM
 refine kg 6 ?_
 obtain ⟨ex30z,hi31z,hk32z⟩:=M.e_bind hM
 obtain ⟨m0_,hi31z⟩:=M.e_iter hi31z
 refine W.loop (fun m σ W=>∃ (i2:Nat) (ρ:Env),σ=upds ρ [(0,v_l),(1,I apart),(2,I threshold),(3,I worth),(4,v_dues),(13,I sum),(15,I (i2:Int))]/\M.iterN (zb3 l apart threshold dues) m i2=some ex30z/\St w W [] R) ?_ ?_
 ·exact ⟨_,0,_,upds_of _ _ ⟨rfl,rfl,rfl,rfl,rfl,rfl,rfl,trivial⟩,hi31z,H⟩
 rintro m35z σ w33z ⟨i2,ρ,rfl,hI34z,H⟩
 obtain ⟨m36z,lt37z,x38z,hM,hN39z⟩:=M.e_iterN hI34z
 simp only [zb3] at hM
 clear hI34z
 have hl40z:=(hs_l).len_le
 refine kg 8 ?_
 refine W.cond (decide ((i2:Int)<(l.length:Int))) rfl (fun c41z=>?_) (fun c41z=>?_)
 ·replace hM:=M.e_t hM c41z
  simp only [qy1,qy2,qy3,qy4,qy5,qy6,ne_eq,qy7] at c41z
  refine kg 13 ?_
  obtain ⟨ex42z,hi43z,hk44z⟩:=M.e_bind hM
  obtain ⟨m0_,hi43z⟩:=M.e_iter hi43z
  refine W.loop (fun m σ W=>∃ (has:Int) (k:Nat) (ρ:Env),σ=upds ρ [(0,v_l),(1,I apart),(2,I threshold),(3,I worth),(4,v_dues),(13,I sum),(15,I (i2:Int)),(16,I has),(17,I (k:Int))]/\M.iterN (zbT l apart dues i2) m (has,k)=some ex42z/\St w W [] R) ?_ ?_
  ·exact ⟨_,0,0,_,upds_of _ _ ⟨rfl,rfl,rfl,rfl,rfl,rfl,rfl,rfl,rfl,trivial⟩,hi43z,H⟩
  rintro m47z σ w45z ⟨has,k,ρ,rfl,hI46z,H⟩
  obtain ⟨m48z,lt49z,x50z,hM,hN51z⟩:=M.e_iterN hI46z
  simp only [zbT] at hM
  clear hI46z
  have hl52z:=(hs_l).len_le
  refine kg 8 ?_
  refine W.cond (decide ((k:Int)<(l.length:Int))) rfl (fun c53z=>?_) (fun c53z=>?_)
  ·replace hM:=M.e_t hM c53z
   simp only [qy1,qy2,qy3,qy4,qy5,qy6,ne_eq,qy7] at c53z
   refine kg 4 ?_
   refine W.draw (fun W=>St w W [] R) [(0,true),(1,true),(2,true),(3,true),(4,true),(5,true),(6,true),(7,true),(8,true),(9,true),(10,true),(11,true),(12,true),(13,true),(14,true),(15,true),(16,true),(17,true),(18,true),(19,true),(20,true),(21,true),(22,true),(23,true),(24,true),(25,true),(26,true)] mixed (by decide +kernel) rfl ?_
   intro w54z hx_
   replace H:=H.ext hx_
   clear hx_
   refine ⟨(H.pk []),?_⟩
   obtain ⟨sd55z,hM⟩:=M.e_grd hM
   simp only [Bool.and_eq_true,decide_eq_true_eq] at sd55z
   obtain ⟨sd56z,hM⟩:=M.e_grd hM
   simp only [Bool.and_eq_true,decide_eq_true_eq] at sd56z
   obtain ⟨sd57z,hM⟩:=M.e_grd hM
   replace sd57z:=M.imp_of sd57z
   simp only [Bool.and_eq_true,decide_eq_true_eq] at sd57z
   obtain ⟨sd58z,hM⟩:=M.e_grd hM
   replace sd58z:=M.imp_of sd58z
   simp only [Bool.and_eq_true,decide_eq_true_eq] at sd58z
   refine kg 28 ?_
   refine W.cond ((decide (((l.getD i2 default).day)<=((l.getD k default).day)))&&(decide (((l.getD k default).day)<=((((l.getD i2 default).day)+apart)-1)))) rfl (fun c59z=>?_) (fun c59z=>?_)
   ·replace hM:=M.e_t hM c59z
    obtain ⟨sd60z,hM⟩:=M.e_grd hM
    simp only [Bool.and_eq_true,decide_eq_true_eq] at sd60z
    obtain ⟨sd61z,hM⟩:=M.e_grd hM
    simp only [Bool.and_eq_true,decide_eq_true_eq] at sd61z
    refine kg 14 ?_
    exact ⟨m48z,lt49z,has+(dues.getD k 0),k+1,_,upds_of _ _ ⟨rfl,rfl,rfl,rfl,rfl,rfl,rfl,rfl,rfl,trivial⟩,M.e_inl hM hN51z,H⟩
   replace hM:=M.e_f hM c59z
   refine kg 6 ?_
   exact ⟨m48z,lt49z,has,k+1,_,upds_of _ _ ⟨rfl,rfl,rfl,rfl,rfl,rfl,rfl,rfl,rfl,trivial⟩,M.e_inl hM hN51z,H⟩
  replace hM:=M.e_f hM c53z
  simp only [qy1,qy2,qy3,qy4,qy5,qy6,ne_eq,qy7] at c53z
  refine W.exit ?_
  have hX62z:=M.e_inr hM hN51z
  subst hX62z
  replace hM:=hk44z
  try dsimp only at hM
  obtain ⟨sd63z,hM⟩:=M.e_grd hM
  simp only [Bool.and_eq_true,decide_eq_true_eq] at sd63z
  obtain ⟨sd64z,hM⟩:=M.e_grd hM
  replace sd64z:=M.imp_of sd64z
  simp only [Bool.and_eq_true,decide_eq_true_eq] at sd64z
  refine kg 21 ?_
  refine W.cond ((decide (threshold<((l.getD i2 default).stage)))&&(decide (has<(((l.getD i2 default).stage)-threshold)))) rfl (fun c65z=>?_) (fun c65z=>?_)
  ·replace hM:=M.e_t hM c65z
   refine kg 5 ?_
   refine W.ret ?_
   have hX66z:=M.e_inr hM hN39z
   subst hX66z
   replace hM:=hk32z
   try dsimp only at hM
   have hr_:=M.e_pure hM
   exact ⟨_,resE_tmp2 rfl,⟨false,0,hr_,rfl,H⟩⟩
  replace hM:=M.e_f hM c65z
  refine kg 6 ?_
  exact ⟨m36z,lt37z,i2+1,_,upds_of _ _ ⟨rfl,rfl,rfl,rfl,rfl,rfl,rfl,trivial⟩,M.e_inl hM hN39z,H⟩
 replace hM:=M.e_f hM c41z
 simp only [qy1,qy2,qy3,qy4,qy5,qy6,ne_eq,qy7] at c41z
 refine W.exit ?_
 have hX67z:=M.e_inr hM hN39z
 subst hX67z
 replace hM:=hk32z
 try dsimp only at hM
 refine kg 8 ?_
 refine W.ret ?_
 have hr_:=M.e_pure hM
 exact ⟨_,resE_tmp2 rfl,⟨(decide (sum<=worth)),0,hr_,rfl,H⟩⟩

def zbH (a:List Pk) (b:List Pk):Nat->M (Nat ⊕ (Unit ⊕ Unit)):=fun i =>
  bif decide ((i:Int)<(a.length:Int)) then (
  M.grd (decide ((i:Int)<(a.length:Int))) <|
  M.grd (decide ((i:Int)<(b.length:Int))) <|
  bif !(decide ((a.getD i default)=(b.getD i default))) then (
  M.pure (.inr (.inl ())))
  else (
  M.pure (.inl (i+1))))
  else (
  M.pure (.inr (.inr ())))
def zbf (a:List Pk) (b:List Pk):M Bool :=
  bif (a.length:Int) != (b.length:Int) then (
  M.pure false)
  else (
  M.bind (M.iter (zbH a b) 0) fun x_=>match x_ with
  | (.inl (_:Unit))=>(
  M.pure false)
  | (.inr (_:Unit))=>(
  M.pure true))
theorem zdD {R:List Chunk} {C_a:Cells} {v_a:Value} {C_b:Cells} {v_b:Value} (a:List Pk) (b:List Pk) (hC_a:Reads R C_a) (hs_a:Sl C_a v_a a) (hC_b:Reads R C_b) (hs_b:Sl C_b v_b b) {r:Bool} (hM:(zbf a b).Ends r) (w:World) (H:St w w [] R):Ret Tryz.prog 27 #[v_a,v_b] w fun v w'=>∃ (y0:Bool),y0=r/\v=B y0/\St w w' [] R:=by
 refine ret_of_W Tryz.func27 rfl rfl rfl ?_
 have hl1z:=(hs_a).len_le
 have hl2z:=(hs_b).len_le
 refine kg 13 ?_
 refine W.cond ((a.length:Int) != (b.length:Int)) rfl (fun c3z=>?_) (fun c3z=>?_)
 ·replace hM:=M.e_t hM c3z
  simp only [qy1,qy2,qy3,qy4,qy5,qy6,ne_eq,qy7] at c3z
  refine kg 4 ?_
  refine W.ret ?_
  have hr_:=M.e_pure hM
  exact ⟨_,resE_tmp rfl,⟨false,hr_,rfl,H⟩⟩
 replace hM:=M.e_f hM c3z
 simp only [qy1,qy2,qy3,qy4,qy5,qy6,ne_eq,qy7] at c3z
 refine kg 7 ?_
 obtain ⟨ex4z,hi5z,hk6z⟩:=M.e_bind hM
 obtain ⟨m0_,hi5z⟩:=M.e_iter hi5z
 refine W.loop (fun m σ W=>∃ (i:Nat) (ρ:Env),σ=upds ρ [(0,v_a),(1,v_b),(5,I (i:Int))]/\M.iterN (zbH a b) m i=some ex4z/\St w W [] R) ?_ ?_
 ·exact ⟨_,0,_,upds_of _ _ ⟨rfl,rfl,rfl,trivial⟩,hi5z,H⟩
 rintro m9z σ w7z ⟨i,ρ,rfl,hI8z,H⟩
 obtain ⟨m10z,lt11z,x12z,hM,hN13z⟩:=M.e_iterN hI8z
 simp only [zbH] at hM
 clear hI8z
 have hl14z:=(hs_a).len_le
 refine kg 8 ?_
 refine W.cond (decide ((i:Int)<(a.length:Int))) rfl (fun c15z=>?_) (fun c15z=>?_)
 ·replace hM:=M.e_t hM c15z
  simp only [qy1,qy2,qy3,qy4,qy5,qy6,ne_eq,qy7] at c15z
  refine kg 4 ?_
  refine W.draw (fun W=>St w W [] R) [(0,true),(1,true),(2,true),(3,true),(4,true),(5,true),(6,true),(7,true),(8,true)] mixed (by decide +kernel) rfl ?_
  intro w16z hx_
  replace H:=H.ext hx_
  clear hx_
  refine ⟨(H.pk []),?_⟩
  obtain ⟨sd17z,hM⟩:=M.e_grd hM
  simp only [Bool.and_eq_true,decide_eq_true_eq] at sd17z
  obtain ⟨sd18z,hM⟩:=M.e_grd hM
  simp only [Bool.and_eq_true,decide_eq_true_eq] at sd18z
  refine kg 8 ?_
  refine d_q rfl (fun w' H=>x_neS (eqT32 (a.getD i default) (b.getD i default) _) gdT32 rfl rfl) ?_
  refine d_nil ?_
  refine W.cond (!(decide ((a.getD i default)=(b.getD i default)))) rfl (fun c19z=>?_) (fun c19z=>?_)
  ·replace hM:=M.e_t hM c19z
   refine kg 4 ?_
   refine W.ret ?_
   have hX20z:=M.e_inr hM hN13z
   subst hX20z
   replace hM:=hk6z
   try dsimp only at hM
   have hr_:=M.e_pure hM
   exact ⟨_,resE_tmp rfl,⟨false,hr_,rfl,H⟩⟩
  replace hM:=M.e_f hM c19z
  refine kg 6 ?_
  exact ⟨m10z,lt11z,i+1,_,upds_of _ _ ⟨rfl,rfl,rfl,trivial⟩,M.e_inl hM hN13z,H⟩
 replace hM:=M.e_f hM c15z
 simp only [qy1,qy2,qy3,qy4,qy5,qy6,ne_eq,qy7] at c15z
 refine W.exit ?_
 have hX21z:=M.e_inr hM hN13z
 subst hX21z
 replace hM:=hk6z
 try dsimp only at hM
 refine kg 4 ?_
 refine W.ret ?_
 have hr_:=M.e_pure hM
 exact ⟨_,resE_tmp rfl,⟨true,hr_,rfl,H⟩⟩

end Go.Proofs.YtejefipopolccaaGreat
end
section
set_option maxRecDepth 100000
set_option maxHeartbeats 16000000
namespace Go.Proofs.YtejefipopolccaaGreat
open Go Go.Nm
attribute [local irreducible] gd execOp SL SLD SLT WR
def zav (l:List Pk) (apart:Int) (threshold:Int) (choice:List Int) (worth:Int) (dues:List Int):M Bool :=
  bif (((decide (45<(l.length:Int)))||(decide (45<(choice.length:Int))))||(decide (45<(dues.length:Int)))) then (
  M.bind (zag) fun r2 =>
  M.pure r2)
  else (
  M.bind (zdh l) fun r3 =>
  M.bind (zbi choice) fun r4 =>
  M.bind (zbi dues) fun r5 =>
  M.bind (zbp l) fun r6 =>
  M.bind (zaY r3) fun r7 =>
  M.bind (zbz r6) fun r8 =>
  bif r7 != r8 then (
  M.pure false)
  else (
  M.bind (zbJ r3 apart threshold r4) fun (r0,r1) =>
  M.bind (zbq r6 apart threshold choice) fun (r02,r12) =>
  bif ((r1 != r12)||(r0 != r02)) then (
  M.pure false)
  else (
  M.bind (zcx r3 apart threshold) fun (r03,r13,r22) =>
  M.bind (zcR r6 apart threshold) fun (r04,r14) =>
  M.bind (zc2 r3 apart threshold) fun (r05,r15) =>
  M.grd ((!((!(((r22 != r14)||(r15 != r14))||(r13 != r04)))&&(r22 != 0))||(decide ((-9223372036854775808:Int)<=((r03.length:Int)+(r05.length:Int)))&&decide (((r03.length:Int)+(r05.length:Int))<=(9223372036854775807:Int))))) <|
  bif ((((r22 != r14)||(r15 != r14))||(r13 != r04))||((r22 != 0)&&(decide (0<((r03.length:Int)+(r05.length:Int)))))) then (
  M.pure false)
  else (
  bif r22==0 then (
  M.bind (zbq r6 apart threshold r03) fun (r06,r16) =>
  bif ((r16 != 0)||(r06 != r13)) then (
  M.pure false)
  else (
  M.bind (zaw r6 apart threshold r13 r05) fun (r07,r17) =>
  bif ((r17 != 0)||(!r07)) then (
  M.pure false)
  else (
  M.bind (zat r3 apart threshold worth r5) fun (r08,r18) =>
  M.bind (zaw r6 apart threshold worth dues) fun (r09,r19) =>
  M.bind (M.opt ((r18==r19)&&(r08==r09)) (zbf r3 l) false) fun r9 =>
  M.bind (M.opt (((r18==r19)&&(r08==r09))&&r9) (zah r4 choice) false) fun r10 =>
  M.bind (M.opt ((((r18==r19)&&(r08==r09))&&r9)&&r10) (zah r5 dues) false) fun r11 =>
  M.bind (M.opt (((((r18==r19)&&(r08==r09))&&r9)&&r10)&&r11) (zag) false) fun r20 =>
  M.pure ((((((r18==r19)&&(r08==r09))&&r9)&&r10)&&r11)&&r20))))
  else (
  M.bind (zat r3 apart threshold worth r5) fun (r08,r18) =>
  M.bind (zaw r6 apart threshold worth dues) fun (r09,r19) =>
  M.bind (M.opt ((r18==r19)&&(r08==r09)) (zbf r3 l) false) fun r9 =>
  M.bind (M.opt (((r18==r19)&&(r08==r09))&&r9) (zah r4 choice) false) fun r10 =>
  M.bind (M.opt ((((r18==r19)&&(r08==r09))&&r9)&&r10) (zah r5 dues) false) fun r11 =>
  M.bind (M.opt (((((r18==r19)&&(r08==r09))&&r9)&&r10)&&r11) (zag) false) fun r20 =>
  M.pure ((((((r18==r19)&&(r08==r09))&&r9)&&r10)&&r11)&&r20))))))
theorem zcZ {R:List Chunk} {C_l:Cells} {v_l:Value} {C_choice:Cells} {v_choice:Value} {C_dues:Cells} {v_dues:Value} (l:List Pk) (apart:Int) (threshold:Int) (choice:List Int) (worth:Int) (dues:List Int) (hC_l:Reads R C_l) (hs_l:Sl C_l v_l l) (hC_choice:Reads R C_choice) (hs_choice:Sl C_choice v_choice choice) (hC_dues:Reads R C_dues) (hs_dues:Sl C_dues v_dues dues) {r:Bool} (hM:(zav l apart threshold choice worth dues).Ends r) (w:World) (H:St w w [] R):Ret Tryz.prog 6 #[v_l,I apart,I threshold,v_choice,I worth,v_dues] w fun v w'=>∃ (y0:Bool),y0=r/\v=B y0/\St w w' [] R:=by
 refine ret_of_W Tryz.func6 rfl rfl rfl ?_
 have hl1z:=(hs_l).len_le
 have hl2z:=(hs_choice).len_le
 have hl3z:=(hs_dues).len_le
 refine kg 21 ?_
 refine W.cond (((decide (45<(l.length:Int)))||(decide (45<(choice.length:Int))))||(decide (45<(dues.length:Int)))) rfl (fun c4z=>?_) (fun c4z=>?_)
 ·replace hM:=M.e_t hM c4z
  refine kg 2 ?_
  obtain ⟨r6z,hx5z,hM⟩:=M.e_bind hM
  refine s_call cf15 [] rfl (zar hx5z _ (H.gt 0)) ?_
  rintro vq w7z ⟨r2,hr8z,hvq,H2_⟩
  subst hr8z
  subst vq
  try dsimp only at hM
  replace H:=H.bk H2_
  clear H2_
  refine kg 2 ?_
  refine W.ret ?_
  have hr_:=M.e_pure hM
  exact ⟨_,resE_tmp rfl,⟨r2,hr_,rfl,H⟩⟩
 replace hM:=M.e_f hM c4z
 refine kg 4 ?_
 obtain ⟨r10z,hx9z,hM⟩:=M.e_bind hM
 refine s_call cf16 [v_l] rfl (zeg l (hC_l.app _) hs_l hx9z _ (H.gt 0)) ?_
 rintro vq w11z ⟨r3,u0_1,hr12z,hvq,H2_⟩
 subst hr12z
 subst vq
 try dsimp only at hM
 replace H:=H.bk H2_
 clear H2_
 refine kg 1 ?_
 obtain ⟨r14z,hx13z,hM⟩:=M.e_bind hM
 refine s_call cf17 [v_choice] rfl (zbS choice (hC_choice.app _) hs_choice hx13z _ (H.gt 1)) ?_
 rintro vq w15z ⟨r4,u0_2,hr16z,hvq,H2_⟩
 subst hr16z
 subst vq
 try dsimp only at hM
 replace H:=H.bk H2_
 clear H2_
 refine kg 1 ?_
 obtain ⟨r18z,hx17z,hM⟩:=M.e_bind hM
 refine s_call cf17 [v_dues] rfl (zbS dues (hC_dues.app _) hs_dues hx17z _ (H.gt 2)) ?_
 rintro vq w19z ⟨r5,u0_3,hr20z,hvq,H2_⟩
 subst hr20z
 subst vq
 try dsimp only at hM
 replace H:=H.bk H2_
 clear H2_
 refine kg 7 ?_
 obtain ⟨r22z,hx21z,hM⟩:=M.e_bind hM
 refine s_call cf18 [v_l] rfl (zd2 l (hC_l.app _) hs_l hx21z _ (H.gt 3)) ?_
 rintro vq w23z ⟨r6,u0_4,hr24z,hvq,H2_⟩
 subst hr24z
 subst vq
 try dsimp only at hM
 replace H:=H.bk H2_
 clear H2_
 refine kg 6 ?_
 obtain ⟨r26z,hx25z,hM⟩:=M.e_bind hM
 refine s_call cf9 [u0_1] rfl (zdn r3 (rdo 3) (H.os 3) hx25z _ (H.gt 4)) ?_
 rintro vq w27z ⟨r7,hr28z,hvq,H2_⟩
 subst hr28z
 subst vq
 try dsimp only at hM
 replace H:=H.bk H2_
 clear H2_
 refine kg 1 ?_
 obtain ⟨r30z,hx29z,hM⟩:=M.e_bind hM
 refine s_call cf19 [u0_4] rfl (zdz r6 (rdo 0) (H.os 0) hx29z _ (H.gt 4)) ?_
 rintro vq w31z ⟨r8,hr32z,hvq,H2_⟩
 subst hr32z
 subst vq
 try dsimp only at hM
 replace H:=H.bk H2_
 clear H2_
 refine kg 2 ?_
 refine W.cond (r7 != r8) rfl (fun c33z=>?_) (fun c33z=>?_)
 ·replace hM:=M.e_t hM c33z
  simp only [qy1,qy2,qy3,qy4,qy5,qy6,ne_eq,qy7] at c33z
  refine kg 4 ?_
  refine W.ret ?_
  have hr_:=M.e_pure hM
  exact ⟨_,resE_tmp rfl,⟨false,hr_,rfl,(H.pk [])⟩⟩
 replace hM:=M.e_f hM c33z
 simp only [qy1,qy2,qy3,qy4,qy5,qy6,ne_eq,qy7] at c33z
 refine kg 7 ?_
 obtain ⟨r35z,hx34z,hM⟩:=M.e_bind hM
 refine s_call cf20 [u0_1,I apart,I threshold,u0_2] rfl (zdE r3 apart threshold r4 (rdo 3) (H.os 3) (rdo 2) (H.os 2) hx34z _ (H.gt 4)) ?_
 rintro vq w36z ⟨r0,r1,hr37z,hvq,H2_⟩
 subst hr37z
 subst vq
 try dsimp only at hM
 replace H:=H.bk H2_
 clear H2_
 refine kg 12 ?_
 obtain ⟨r39z,hx38z,hM⟩:=M.e_bind hM
 refine s_call cf21 [u0_4,I apart,I threshold,v_choice] rfl (zdJ r6 apart threshold choice (rdo 0) (H.os 0) (hC_choice.app _) hs_choice hx38z _ (H.gt 4)) ?_
 rintro vq w40z ⟨r02,r12,hr41z,hvq,H2_⟩
 subst hr41z
 subst vq
 try dsimp only at hM
 replace H:=H.bk H2_
 clear H2_
 refine kg 18 ?_
 refine W.cond ((r1 != r12)||(r0 != r02)) rfl (fun c42z=>?_) (fun c42z=>?_)
 ·replace hM:=M.e_t hM c42z
  refine kg 4 ?_
  refine W.ret ?_
  have hr_:=M.e_pure hM
  exact ⟨_,resE_tmp rfl,⟨false,hr_,rfl,(H.pk [])⟩⟩
 replace hM:=M.e_f hM c42z
 refine kg 6 ?_
 obtain ⟨r44z,hx43z,hM⟩:=M.e_bind hM
 refine s_call cf22 [u0_1,I apart,I threshold] rfl (zdF r3 apart threshold (rdo 3) (H.os 3) hx43z _ (H.gt 4)) ?_
 rintro vq w45z ⟨r03,r13,r22,u0_5,hr46z,hvq,H2_⟩
 subst hr46z
 subst vq
 try dsimp only at hM
 replace H:=H.bk H2_
 clear H2_
 refine kg 13 ?_
 obtain ⟨r48z,hx47z,hM⟩:=M.e_bind hM
 refine s_call cf23 [u0_4,I apart,I threshold] rfl (zdW r6 apart threshold (rdo 1) (H.os 1) hx47z _ (H.gt 5)) ?_
 rintro vq w49z ⟨r04,r14,hr50z,hvq,H2_⟩
 subst hr50z
 subst vq
 try dsimp only at hM
 replace H:=H.bk H2_
 clear H2_
 refine kg 11 ?_
 obtain ⟨r52z,hx51z,hM⟩:=M.e_bind hM
 refine s_call cf24 [u0_1,I apart,I threshold] rfl (zd0 r3 apart threshold (rdo 4) (H.os 4) hx51z _ (H.gt 5)) ?_
 rintro vq w53z ⟨r05,r15,u0_6,hr54z,hvq,H2_⟩
 subst hr54z
 subst vq
 try dsimp only at hM
 replace H:=H.bk H2_
 clear H2_
 obtain ⟨sd57z,hM⟩:=M.e_grd hM
 replace sd57z:=M.imp_of sd57z
 simp only [Bool.and_eq_true,decide_eq_true_eq] at sd57z
 refine kg 35 ?_
 refine W.cond ((((r22 != r14)||(r15 != r14))||(r13 != r04))||((r22 != 0)&&(decide (0<((r03.length:Int)+(r05.length:Int)))))) rfl (fun c58z=>?_) (fun c58z=>?_)
 ·replace hM:=M.e_t hM c58z
  refine kg 4 ?_
  refine W.ret ?_
  have hr_:=M.e_pure hM
  exact ⟨_,resE_tmp rfl,⟨false,hr_,rfl,(H.pk [])⟩⟩
 replace hM:=M.e_f hM c58z
 refine kg 7 ?_
 refine W.cond (r22==0) rfl (fun c59z=>?_) (fun c59z=>?_)
 ·replace hM:=M.e_t hM c59z
  simp only [qy1,qy2,qy3,qy4,qy5,qy6,ne_eq,qy7] at c59z
  refine kg 7 ?_
  obtain ⟨r61z,hx60z,hM⟩:=M.e_bind hM
  refine s_call cf21 [u0_4,I apart,I threshold,u0_5] rfl (zdJ r6 apart threshold r03 (rdo 2) (H.os 2) (rdo 1) (H.os 1) hx60z _ (H.gt 6)) ?_
  rintro vq w62z ⟨r06,r16,hr63z,hvq,H2_⟩
  subst hr63z
  subst vq
  try dsimp only at hM
  replace H:=H.bk H2_
  clear H2_
  refine kg 16 ?_
  refine W.cond ((r16 != 0)||(r06 != r13)) rfl (fun c64z=>?_) (fun c64z=>?_)
  ·replace hM:=M.e_t hM c64z
   refine kg 4 ?_
   refine W.ret ?_
   have hr_:=M.e_pure hM
   exact ⟨_,resE_tmp rfl,⟨false,hr_,rfl,(H.pk [])⟩⟩
  replace hM:=M.e_f hM c64z
  refine kg 8 ?_
  obtain ⟨r66z,hx65z,hM⟩:=M.e_bind hM
  refine s_call cf25 [u0_4,I apart,I threshold,I r13,u0_6] rfl (zdk r6 apart threshold r13 r05 (rdo 2) (H.os 2) (rdo 0) (H.os 0) hx65z _ (H.gt 6)) ?_
  rintro vq w67z ⟨r07,r17,hr68z,hvq,H2_⟩
  subst hr68z
  subst vq
  try dsimp only at hM
  replace H:=H.bk H2_
  clear H2_
  refine kg 15 ?_
  refine W.cond ((r17 != 0)||(!r07)) rfl (fun c69z=>?_) (fun c69z=>?_)
  ·replace hM:=M.e_t hM c69z
   refine kg 4 ?_
   refine W.ret ?_
   have hr_:=M.e_pure hM
   exact ⟨_,resE_tmp rfl,⟨false,hr_,rfl,(H.pk [])⟩⟩
  replace hM:=M.e_f hM c69z
  refine kg 8 ?_
  obtain ⟨r71z,hx70z,hM⟩:=M.e_bind hM
  refine s_call cf26 [u0_1,I apart,I threshold,I worth,u0_3] rfl (zc4 r3 apart threshold worth r5 (rdo 5) (H.os 5) (rdo 3) (H.os 3) hx70z _ (H.gt 6)) ?_
  rintro vq w72z ⟨r08,r18,hr73z,hvq,H2_⟩
  subst hr73z
  subst vq
  try dsimp only at hM
  replace H:=H.bk H2_
  clear H2_
  refine kg 13 ?_
  obtain ⟨r75z,hx74z,hM⟩:=M.e_bind hM
  refine s_call cf25 [u0_4,I apart,I threshold,I worth,v_dues] rfl (zdk r6 apart threshold worth dues (rdo 2) (H.os 2) (hC_dues.app _) hs_dues hx74z _ (H.gt 6)) ?_
  rintro vq w76z ⟨r09,r19,hr77z,hvq,H2_⟩
  subst hr77z
  subst vq
  try dsimp only at hM
  replace H:=H.bk H2_
  clear H2_
  refine kg 14 ?_
  refine g_val (r18==r19) (gy_t rfl) (fun hg=>x_eqb (a:=r08) (b:=r09) (r:=(r08==r09)) (gd_of (c:=r18==r19) hg (B r08)) (gd_of (c:=r18==r19) hg (B r09)) Tryz.underlying4 rfl) ?_
  refine kg 4 ?_
  obtain ⟨r9,hx78z,hM⟩:=M.e_bind hM
  refine t_gcall ((r18==r19)&&(r08==r09)) (gy_t rfl) cf27 (B r9) (fun _=>[u0_1,v_l]) (fun hg=>lst2 (gd_of (c:=((r18==r19)&&(r08==r09))) hg (u0_1)) (gd_of (c:=((r18==r19)&&(r08==r09))) hg (v_l))) H (fun hg=>(zdD r3 l (rdo 5) (H.os 5) (hC_l.app _) hs_l (M.e_opt hx78z hg) _ (H.give (A:=[]) rfl)).mono fun v_ w_ ⟨y_,hr_,hv_,H_⟩=>by subst hr_; exact ⟨hv_,H.via H_⟩) ?_
  intro w79z H
  refine kg 4 ?_
  obtain ⟨r10,hx80z,hM⟩:=M.e_bind hM
  refine t_gcall (((r18==r19)&&(r08==r09))&&r9) (gy_t rfl) cf28 (B r10) (fun _=>[u0_2,v_choice]) (fun hg=>lst2 (gd_of (c:=(((r18==r19)&&(r08==r09))&&r9)) hg (u0_2)) (gd_of (c:=(((r18==r19)&&(r08==r09))&&r9)) hg (v_choice))) H (fun hg=>(zaq r4 choice (rdo 4) (H.os 4) (hC_choice.app _) hs_choice (M.e_opt hx80z hg) _ (H.give (A:=[]) rfl)).mono fun v_ w_ ⟨y_,hr_,hv_,H_⟩=>by subst hr_; exact ⟨hv_,H.via H_⟩) ?_
  intro w81z H
  refine kg 4 ?_
  obtain ⟨r11,hx82z,hM⟩:=M.e_bind hM
  refine t_gcall ((((r18==r19)&&(r08==r09))&&r9)&&r10) (gy_t rfl) cf28 (B r11) (fun _=>[u0_3,v_dues]) (fun hg=>lst2 (gd_of (c:=((((r18==r19)&&(r08==r09))&&r9)&&r10)) hg (u0_3)) (gd_of (c:=((((r18==r19)&&(r08==r09))&&r9)&&r10)) hg (v_dues))) H (fun hg=>(zaq r5 dues (rdo 3) (H.os 3) (hC_dues.app _) hs_dues (M.e_opt hx82z hg) _ (H.give (A:=[]) rfl)).mono fun v_ w_ ⟨y_,hr_,hv_,H_⟩=>by subst hr_; exact ⟨hv_,H.via H_⟩) ?_
  intro w83z H
  refine kg 2 ?_
  obtain ⟨r20,hx84z,hM⟩:=M.e_bind hM
  refine t_gcall (((((r18==r19)&&(r08==r09))&&r9)&&r10)&&r11) (gy_t rfl) cf15 (B r20) (fun _=>[]) (fun _=>rfl) H (fun hg=>(zar (M.e_opt hx84z hg) _ (H.give (A:=[]) rfl)).mono fun v_ w_ ⟨y_,hr_,hv_,H_⟩=>by subst hr_; exact ⟨hv_,H.via H_⟩) ?_
  intro w85z H
  refine kg 3 ?_
  refine W.ret ?_
  have hr_:=M.e_pure hM
  exact ⟨_,resE_tmp rfl,⟨((((((r18==r19)&&(r08==r09))&&r9)&&r10)&&r11)&&r20),hr_,rfl,(H.pk [])⟩⟩
 replace hM:=M.e_f hM c59z
 simp only [qy1,qy2,qy3,qy4,qy5,qy6,ne_eq,qy7] at c59z
 refine kg 8 ?_
 obtain ⟨r87z,hx86z,hM⟩:=M.e_bind hM
 refine s_call cf26 [u0_1,I apart,I threshold,I worth,u0_3] rfl (zc4 r3 apart threshold worth r5 (rdo 5) (H.os 5) (rdo 3) (H.os 3) hx86z _ (H.gt 6)) ?_
 rintro vq w88z ⟨r08,r18,hr89z,hvq,H2_⟩
 subst hr89z
 subst vq
 try dsimp only at hM
 replace H:=H.bk H2_
 clear H2_
 refine kg 13 ?_
 obtain ⟨r91z,hx90z,hM⟩:=M.e_bind hM
 refine s_call cf25 [u0_4,I apart,I threshold,I worth,v_dues] rfl (zdk r6 apart threshold worth dues (rdo 2) (H.os 2) (hC_dues.app _) hs_dues hx90z _ (H.gt 6)) ?_
 rintro vq w92z ⟨r09,r19,hr93z,hvq,H2_⟩
 subst hr93z
 subst vq
 try dsimp only at hM
 replace H:=H.bk H2_
 clear H2_
 refine kg 14 ?_
 refine g_val (r18==r19) (gy_t rfl) (fun hg=>x_eqb (a:=r08) (b:=r09) (r:=(r08==r09)) (gd_of (c:=r18==r19) hg (B r08)) (gd_of (c:=r18==r19) hg (B r09)) Tryz.underlying4 rfl) ?_
 refine kg 4 ?_
 obtain ⟨r9,hx94z,hM⟩:=M.e_bind hM
 refine t_gcall ((r18==r19)&&(r08==r09)) (gy_t rfl) cf27 (B r9) (fun _=>[u0_1,v_l]) (fun hg=>lst2 (gd_of (c:=((r18==r19)&&(r08==r09))) hg (u0_1)) (gd_of (c:=((r18==r19)&&(r08==r09))) hg (v_l))) H (fun hg=>(zdD r3 l (rdo 5) (H.os 5) (hC_l.app _) hs_l (M.e_opt hx94z hg) _ (H.give (A:=[]) rfl)).mono fun v_ w_ ⟨y_,hr_,hv_,H_⟩=>by subst hr_; exact ⟨hv_,H.via H_⟩) ?_
 intro w95z H
 refine kg 4 ?_
 obtain ⟨r10,hx96z,hM⟩:=M.e_bind hM
 refine t_gcall (((r18==r19)&&(r08==r09))&&r9) (gy_t rfl) cf28 (B r10) (fun _=>[u0_2,v_choice]) (fun hg=>lst2 (gd_of (c:=(((r18==r19)&&(r08==r09))&&r9)) hg (u0_2)) (gd_of (c:=(((r18==r19)&&(r08==r09))&&r9)) hg (v_choice))) H (fun hg=>(zaq r4 choice (rdo 4) (H.os 4) (hC_choice.app _) hs_choice (M.e_opt hx96z hg) _ (H.give (A:=[]) rfl)).mono fun v_ w_ ⟨y_,hr_,hv_,H_⟩=>by subst hr_; exact ⟨hv_,H.via H_⟩) ?_
 intro w97z H
 refine kg 4 ?_
 obtain ⟨r11,hx98z,hM⟩:=M.e_bind hM
 refine t_gcall ((((r18==r19)&&(r08==r09))&&r9)&&r10) (gy_t rfl) cf28 (B r11) (fun _=>[u0_3,v_dues]) (fun hg=>lst2 (gd_of (c:=((((r18==r19)&&(r08==r09))&&r9)&&r10)) hg (u0_3)) (gd_of (c:=((((r18==r19)&&(r08==r09))&&r9)&&r10)) hg (v_dues))) H (fun hg=>(zaq r5 dues (rdo 3) (H.os 3) (hC_dues.app _) hs_dues (M.e_opt hx98z hg) _ (H.give (A:=[]) rfl)).mono fun v_ w_ ⟨y_,hr_,hv_,H_⟩=>by subst hr_; exact ⟨hv_,H.via H_⟩) ?_
 intro w99z H
 refine kg 2 ?_
 obtain ⟨r20,hx100z,hM⟩:=M.e_bind hM
 refine t_gcall (((((r18==r19)&&(r08==r09))&&r9)&&r10)&&r11) (gy_t rfl) cf15 (B r20) (fun _=>[]) (fun _=>rfl) H (fun hg=>(zar (M.e_opt hx100z hg) _ (H.give (A:=[]) rfl)).mono fun v_ w_ ⟨y_,hr_,hv_,H_⟩=>by subst hr_; exact ⟨hv_,H.via H_⟩) ?_
 intro w101z H
 refine kg 3 ?_
 refine W.ret ?_
 have hr_:=M.e_pure hM
 exact ⟨_,resE_tmp rfl,⟨((((((r18==r19)&&(r08==r09))&&r9)&&r10)&&r11)&&r20),hr_,rfl,(H.pk [])⟩⟩

end Go.Proofs.YtejefipopolccaaGreat
end
section
set_option maxRecDepth 100000
set_option maxHeartbeats 16000000
namespace Go.Proofs.YtejefipopolccaaGreat
open Go Go.Nm
attribute [local irreducible] gd execOp SL SLD SLT WR
def zcd (b_Olds:List Old10):Nat->M (Nat ⊕ (Unit ⊕ Unit)):=fun i =>
  bif decide ((i:Int)<(b_Olds.length:Int)) then (
  M.grd (decide ((i:Int)<(b_Olds.length:Int))) <|
  bif decide (12<(((b_Olds.getD i default).passed).length:Int)) then (
  M.pure (.inr (.inl ())))
  else (
  M.pure (.inl (i+1))))
  else (
  M.pure (.inr (.inr ())))
def zbY (b_Years:List Yr) (b_Olds:List Old10) (b_First:Int) (b_Last:Int):M Bool :=
  bif (((decide (65<(b_Years.length:Int)))||(decide (10<(b_Olds.length:Int))))||((((decide (0<=b_First))&&(decide (b_Last<=3000)))&&(decide (40<(wr64 (b_Last-b_First)))))&&(decide ((wr64 (b_Last-b_First))<1000)))) then (
  M.pure true)
  else (
  M.bind (M.iter (zcd b_Olds) 0) fun x_=>match x_ with
  | (.inl (_:Unit))=>(
  M.pure true)
  | (.inr (_:Unit))=>(
  M.pure false))
theorem zdL {R:List Chunk} {C_b_Years:Cells} {v_b_Years:Value} {C_b_Olds:Cells} {v_b_Olds:Value} (b_Years:List Yr) (b_Olds:List Old10) (b_First:Int) (b_Last:Int) (hC_b_Years:Reads R C_b_Years) (hs_b_Years:Sl C_b_Years v_b_Years b_Years) (hC_b_Olds:Reads R C_b_Olds) (hs_b_Olds:Sl C_b_Olds v_b_Olds b_Olds) {r:Bool} (hM:(zbY b_Years b_Olds b_First b_Last).Ends r) (w:World) (H:St w w [] R):Ret Tryz.prog 29 #[.agg #[v_b_Years,v_b_Olds,I b_First,I b_Last]] w fun v w'=>∃ (y0:Bool),y0=r/\v=B y0/\St w w' [] R:=by
 refine ret_of_W Tryz.func29 rfl rfl rfl ?_
 refine kg 2 ?_
 refine t_box (v:=.agg #[v_b_Years,v_b_Olds,I b_First,I b_Last]) (cs:=[v_b_Years,v_b_Olds,I b_First,I b_Last]) H rfl rfl ?_
 intro b_1 w1z H
 have hl2z:=(hs_b_Years).len_le
 have hl3z:=(hs_b_Olds).len_le
 refine kg 29 ?_
 refine g_val ((!((decide (65<(b_Years.length:Int)))||(decide (10<(b_Olds.length:Int)))))&&((decide (0<=b_First))&&(decide (b_Last<=3000)))) (gy_gt rfl rfl) (fun hg=>x_subW (a:=b_Last) (b:=b_First) (gd_of (c:=((!((decide (65<(b_Years.length:Int)))||(decide (10<(b_Olds.length:Int)))))&&((decide (0<=b_First))&&(decide (b_Last<=3000))))) hg (I b_Last)) (gd_of (c:=((!((decide (65<(b_Years.length:Int)))||(decide (10<(b_Olds.length:Int)))))&&((decide (0<=b_First))&&(decide (b_Last<=3000))))) hg (I b_First))) ?_
 refine kg 7 ?_
 refine g_val ((!((decide (65<(b_Years.length:Int)))||(decide (10<(b_Olds.length:Int)))))&&(((decide (0<=b_First))&&(decide (b_Last<=3000)))&&(decide (40<(wr64 (b_Last-b_First)))))) (gy_gt rfl rfl) (fun hg=>x_subW (a:=b_Last) (b:=b_First) (gd_of (c:=((!((decide (65<(b_Years.length:Int)))||(decide (10<(b_Olds.length:Int)))))&&(((decide (0<=b_First))&&(decide (b_Last<=3000)))&&(decide (40<(wr64 (b_Last-b_First))))))) hg (I b_Last)) (gd_of (c:=((!((decide (65<(b_Years.length:Int)))||(decide (10<(b_Olds.length:Int)))))&&(((decide (0<=b_First))&&(decide (b_Last<=3000)))&&(decide (40<(wr64 (b_Last-b_First))))))) hg (I b_First))) ?_
 refine kg 4 ?_
 refine W.cond (((decide (65<(b_Years.length:Int)))||(decide (10<(b_Olds.length:Int))))||((((decide (0<=b_First))&&(decide (b_Last<=3000)))&&(decide (40<(wr64 (b_Last-b_First)))))&&(decide ((wr64 (b_Last-b_First))<1000)))) rfl (fun c4z=>?_) (fun c4z=>?_)
 ·replace hM:=M.e_t hM c4z
  refine kg 4 ?_
  refine W.ret ?_
  have hr_:=M.e_pure hM
  exact ⟨_,resE_tmp rfl,⟨true,hr_,rfl,(H.pk [])⟩⟩
 replace hM:=M.e_f hM c4z
 refine kg 7 ?_
 obtain ⟨ex5z,hi6z,hk7z⟩:=M.e_bind hM
 obtain ⟨m0_,hi6z⟩:=M.e_iter hi6z
 refine W.loop (fun m σ W=>∃ (i:Nat) (ρ:Env),σ=upds ρ [(1,Pq b_1),(3,I (i:Int))]/\M.iterN (zcd b_Olds) m i=some ex5z/\St w W [cBlk b_1 [v_b_Years,v_b_Olds,I b_First,I b_Last] 28] R) ?_ ?_
 ·exact ⟨_,0,_,upds_of _ _ ⟨rfl,rfl,trivial⟩,hi6z,H⟩
 rintro m10z σ w8z ⟨i,ρ,rfl,hI9z,H⟩
 obtain ⟨m11z,lt12z,x13z,hM,hN14z⟩:=M.e_iterN hI9z
 simp only [zcd] at hM
 clear hI9z
 have hl15z:=(hs_b_Olds).len_le
 refine kg 9 ?_
 refine W.cond (decide ((i:Int)<(b_Olds.length:Int))) rfl (fun c16z=>?_) (fun c16z=>?_)
 ·replace hM:=M.e_t hM c16z
  simp only [qy1,qy2,qy3,qy4,qy5,qy6,ne_eq,qy7] at c16z
  obtain ⟨sd17z,hM⟩:=M.e_grd hM
  simp only [Bool.and_eq_true,decide_eq_true_eq] at sd17z
  refine kg 10 ?_
  obtain ⟨u18z,ha_u18z,hs19z⟩:=Old10_at3 hs_b_Olds (i:=(i:Int)) (by omega) (by omega)
  replace hs19z:Sl _ u18z (b_Olds.getD i default).passed:=hs19z
  have hl_hs19z:=hs19z.len_le
  refine s_val (x_ld (p:=fat (vat v_b_Olds 4 (Int.toNat (i:Int))) 3) (v:=u18z) rfl (ld_sc Sc22 (At.mono (ha_u18z) (hC_b_Olds.at H)))) ?_
  have hl20z:=(hs19z).len_le
  refine kg 3 ?_
  refine W.cond (decide (12<(((b_Olds.getD i default).passed).length:Int))) rfl (fun c21z=>?_) (fun c21z=>?_)
  ·replace hM:=M.e_t hM c21z
   simp only [qy1,qy2,qy3,qy4,qy5,qy6,ne_eq,qy7] at c21z
   refine kg 4 ?_
   refine W.ret ?_
   have hX22z:=M.e_inr hM hN14z
   subst hX22z
   replace hM:=hk7z
   try dsimp only at hM
   have hr_:=M.e_pure hM
   exact ⟨_,resE_tmp rfl,⟨true,hr_,rfl,(H.pk [])⟩⟩
  replace hM:=M.e_f hM c21z
  simp only [qy1,qy2,qy3,qy4,qy5,qy6,ne_eq,qy7] at c21z
  refine kg 6 ?_
  exact ⟨m11z,lt12z,i+1,_,upds_of _ _ ⟨rfl,rfl,trivial⟩,M.e_inl hM hN14z,H⟩
 replace hM:=M.e_f hM c16z
 simp only [qy1,qy2,qy3,qy4,qy5,qy6,ne_eq,qy7] at c16z
 refine W.exit ?_
 have hX23z:=M.e_inr hM hN14z
 subst hX23z
 replace hM:=hk7z
 try dsimp only at hM
 refine kg 4 ?_
 refine W.ret ?_
 have hr_:=M.e_pure hM
 exact ⟨_,resE_tmp rfl,⟨false,hr_,rfl,(H.pk [])⟩⟩

def zdi (l:List Yr):M (List Yr) :=
  M.grd (decide ((([]:List Yr).length+l.length)*24<=140737488355328)) <|
  M.pure l
theorem zdC {R:List Chunk} {C_l:Cells} {v_l:Value} (l:List Yr) (hC_l:Reads R C_l) (hs_l:Sl C_l v_l l) {r:(List Yr)} (hM:(zdi l).Ends r) (w:World) (H:St w w [] R):Ret Tryz.prog 70 #[v_l] w fun v w'=>∃ (y0:List Yr) (u0:Value),y0=r/\v=u0/\St w w' [cOwn (α:=Yr) 36 u0 y0] R:=by
 refine ret_of_W Tryz.func70 rfl rfl rfl ?_
 refine kg 12 ?_
 replace H:=H.nilOwn (α:=Yr) 36
 obtain ⟨sd1z,hM⟩:=M.e_grd hM
 simp only [Bool.and_eq_true,decide_eq_true_eq] at sd1z
 refine t_app (α:=Yr) (k:=0) (l:=[]) (l2:=l) (l':=l) (vy:=v_l) T25 rfl H rfl rfl rfl hs_l (hC_l.at H) (List.nil_append _) (by first | omega | (simp only [List.length_nil] at *; omega)) ?_
 intro v2z w3z H
 replace H:=H.nf
 refine kg 2 ?_
 refine W.ret ?_
 have hr_:=M.e_pure hM
 exact ⟨_,resE_tmp rfl,⟨l,v2z,hr_,rfl,H⟩⟩

def zaB (b_Olds:List Old10):(Nat × (List Old10))->M ((Nat × (List Old10)) ⊕ ((List Old10) × (List Old10))):=fun (i,l) =>
  bif decide ((i:Int)<(b_Olds.length:Int)) then (
  M.grd (decide ((i:Int)<(b_Olds.length:Int))) <|
  M.bind (zbi ((b_Olds.getD i default).passed)) fun r3 =>
  M.grd (decide ((l.length+([(⟨((b_Olds.getD i default).src:Int),((b_Olds.getD i default).dst:Int),((b_Olds.getD i default).stage:Int),r3⟩:Old10)]).length)*48<=140737488355328)) <|
  M.pure (.inl (i+1,l++([(⟨((b_Olds.getD i default).src:Int),((b_Olds.getD i default).dst:Int),((b_Olds.getD i default).stage:Int),r3⟩:Old10)]))))
  else (
  M.pure (.inr (l,l)))
def zbB (b_Years:List Yr) (b_Olds:List Old10) (b_First:Int) (b_Last:Int):M ((List Yr) × (List Old10) × Int × Int) :=
  M.bind (zdi b_Years) fun r2 =>
  M.bind (M.iter (zaB b_Olds) (0,[])) fun (l2,l3) =>
  M.pure (r2,l3,b_First,b_Last)
theorem zba {R:List Chunk} {C_b_Years:Cells} {v_b_Years:Value} {C_b_Olds:Cells} {v_b_Olds:Value} (b_Years:List Yr) (b_Olds:List Old10) (b_First:Int) (b_Last:Int) (hC_b_Years:Reads R C_b_Years) (hs_b_Years:Sl C_b_Years v_b_Years b_Years) (hC_b_Olds:Reads R C_b_Olds) (hs_b_Olds:Sl C_b_Olds v_b_Olds b_Olds) {r:((List Yr) × (List Old10) × Int × Int)} (hM:(zbB b_Years b_Olds b_First b_Last).Ends r) (w:World) (H:St w w [] R):Ret Tryz.prog 30 #[.agg #[v_b_Years,v_b_Olds,I b_First,I b_Last]] w fun v w'=>∃ (y0:List Yr) (y1:List Old10) (y2:Int) (y3:Int) (u0:Value) (u1:Value) (rr2:List (Raw 3)) (Bs3:Base),(y0,y1,y2,y3)=r/\v = .agg #[u0,u1,I y2,I y3]/\St w w' [cOwn (α:=Yr) 36 u0 y0,cOwn (α:=Raw 3) 38 u1 rr2,cRo Bs3] R/\RepR (α:=Old10) Bs3.cells rr2 y1:=by
 refine ret_of_W Tryz.func30 rfl rfl rfl ?_
 refine kg 2 ?_
 refine t_box (v:=.agg #[v_b_Years,v_b_Olds,I b_First,I b_Last]) (cs:=[v_b_Years,v_b_Olds,I b_First,I b_Last]) H rfl rfl ?_
 intro b_1 w1z H
 refine t_alloc (cs:=[.slice none 0 0,.slice none 0 0,I 0,I 0]) H Al28 rfl ?_
 intro b_2 w2z H
 refine kg 2 ?_
 refine W.drawT (fun W=>St w W [cBlk b_2 [.slice none 0 0,.slice none 0 0,I 0,I 0] 28,cBlk b_1 [v_b_Years,v_b_Olds,I b_First,I b_Last] 28] R) (.q 0 (.q 1 (.q 2 (.q 3 (.q 4 (.q 5 (.l2 6 (.q 7 (.l 8 (.l 9 .nil))) 8 (.l 6 (.q 7 (.l 9 .nil)))))))))) mixed (by decide +kernel) rfl ?_
 intro w3z hx_
 replace H:=H.ext hx_
 clear hx_
 refine ⟨(H.pk [0,1]),?_⟩
 refine kg 6 ?_
 refine t_l2 rfl rfl ?_ ?_
 ·skip
  obtain ⟨r16z,hx15z,hM⟩:=M.e_bind hM
  refine s_call cf70 [v_b_Years] rfl (zdC b_Years (hC_b_Years.app _) hs_b_Years hx15z _ (H.gt 2)) ?_
  rintro vq w17z ⟨r2,u0_3,hr18z,hvq,H2_⟩
  subst hr18z
  subst vq
  try dsimp only at hM
  replace H:=H.bk H2_
  clear H2_
  have hvc_q19z:=Sl.cells (H.os 0)
  have hvo_q19z:=Sl.oc (H.os 0)
  refine s_nil ⟨(H.pk [1,2]),?_⟩
  refine t_q rfl (fun w' H=>x_bld (ps:=[(2,I b_First),(3,I b_Last),(0,u0_3)]) (zs:=[.slice none 0 0,.slice none 0 0,I 0,I 0]) (L':=[u0_3,.slice none 0 0,I b_First,I b_Last]) rfl Tryz.underlying28 Al28 rfl (Bd28 Tryz.underlying28) (.cons (cs:=[I b_First]) rfl rfl rfl rfl rfl<|.cons (cs:=[I b_Last]) rfl rfl rfl rfl rfl<|.cons (cs:=[u0_3]) hvc_q19z rfl rfl rfl rfl<|.nil)) ?_
  refine t_l rfl ?_
  refine t_alloc (cs:=[.slice none 0 0,.slice none 0 0,I 0,I 0]) H Al28 rfl ?_
  intro b_4 w20z H
  refine s_nil ⟨(H.pk [2,3]),?_⟩
  refine t_l rfl ?_
  refine t_sw 0 0 [u0_3,.slice none 0 0,I b_First,I b_Last] (.agg #[u0_3,.slice none 0 0,I b_First,I b_Last]) H rfl rfl Sz28 rfl rfl rfl (by simp only [List.all_cons,List.all_nil,Bool.true_and,Bool.and_true,Sl.oc (H.os 1)]; try rfl) ?_
  intro w21z H
  refine s_nil ⟨(H.pk [2,3]),?_⟩
  refine kg 7 ?_
  obtain ⟨Bs_14,H⟩:=H.emptyE
  replace H:=H.nilOwn (α:=Raw 3) 38
  have hr22z:RepR (α:=Old10) (n:=3) Bs_14.cells [] []:=.nil
  obtain ⟨ex23z,hi24z,hk25z⟩:=M.e_bind hM
  obtain ⟨m0_,hi24z⟩:=M.e_iter hi24z
  refine W.loop (fun m σ W=>∃ (i:Nat) (l:List Old10) (v_l:Value) (rw_l:List (Raw 3)) (B_l:Base) (ρ:Env),σ=upds ρ [(1,Pq b_1),(2,Pq b_2),(3,Pq b_4),(4,I (i:Int))]/\M.iterN (zaB b_Olds) m (i,l)=some ex23z/\St w W [cOwn (α:=Raw 3) 38 v_l rw_l,cRo B_l,cBlk b_4 [u0_3,v_l,I b_First,I b_Last] 28,cOwn (α:=Yr) 36 u0_3 r2,cBlk b_2 [.slice none 0 0,.slice none 0 0,I 0,I 0] 28,cBlk b_1 [v_b_Years,v_b_Olds,I b_First,I b_Last] 28] R/\RepR (α:=Old10) B_l.cells rw_l l) ?_ ?_
  ·exact ⟨_,0,[],(.slice none 0 0),[],Bs_14,_,upds_of _ _ ⟨rfl,rfl,rfl,rfl,trivial⟩,hi24z,H,hr22z⟩
  rintro m28z σ w26z ⟨i,l,v_l,rw_l,B_l,ρ,rfl,hI27z,H,hr_l⟩
  obtain ⟨m29z,lt30z,x31z,hM,hN32z⟩:=M.e_iterN hI27z
  simp only [zaB] at hM
  clear hI27z
  have hl33z:=(hs_b_Olds).len_le
  refine kg 9 ?_
  refine W.cond (decide ((i:Int)<(b_Olds.length:Int))) rfl (fun c34z=>?_) (fun c34z=>?_)
  ·replace hM:=M.e_t hM c34z
   simp only [qy1,qy2,qy3,qy4,qy5,qy6,ne_eq,qy7] at c34z
   obtain ⟨sd35z,hM⟩:=M.e_grd hM
   simp only [Bool.and_eq_true,decide_eq_true_eq] at sd35z
   refine kg 9 ?_
   obtain ⟨u36z,ha38z,hs37z⟩:=Old10_atA hs_b_Olds (i:=(i:Int)) (by omega) (by omega)
   replace hs37z:Sl _ u36z (b_Olds.getD i default).passed:=hs37z
   have hl_hs37z:=hs37z.len_le
   refine s_val (x_ld (p:=vat v_b_Olds 4 (Int.toNat (i:Int))) (v:=.agg #[I ((b_Olds.getD i default).src),I ((b_Olds.getD i default).dst),I ((b_Olds.getD i default).stage),u36z]) rfl (ld_ag Ag38 Sz38 (At.mono ha38z (hC_b_Olds.at H)))) ?_
   refine t_alloc (cs:=[I 0,I 0,I 0,.slice none 0 0]) H Al38 rfl ?_
   intro b_5 w39z H
   refine t_sw 0 0 [I ((b_Olds.getD i default).src),I ((b_Olds.getD i default).dst),I ((b_Olds.getD i default).stage),u36z] (.agg #[I ((b_Olds.getD i default).src),I ((b_Olds.getD i default).dst),I ((b_Olds.getD i default).stage),u36z]) H rfl rfl Sz38 rfl rfl rfl (by simp only [List.all_cons,List.all_nil,Bool.true_and,Bool.and_true,Sl.oc hs37z]; try rfl) ?_
   intro w40z H
   refine kg 5 ?_
   obtain ⟨r42z,hx41z,hM⟩:=M.e_bind hM
   refine s_call cf17 [u36z] rfl (zbS ((b_Olds.getD i default).passed) (hC_b_Olds.app _) hs37z hx41z _ (H.gt 7)) ?_
   rintro vq w43z ⟨r3,u0_6,hr44z,hvq,H2_⟩
   subst hr44z
   subst vq
   try dsimp only at hM
   replace H:=H.bk H2_
   clear H2_
   refine kg 1 ?_
   refine t_sw 1 3 [u0_6] u0_6 H rfl rfl Sz22 (Sl.cells (H.os 0)) rfl rfl (by simp only [List.all_cons,List.all_nil,Bool.true_and,Bool.and_true,Sl.oc (H.os 0)]; try rfl) ?_
   intro w45z H
   refine kg 5 ?_
   obtain ⟨Bs_7,H⟩:=H.emptyE
   obtain ⟨Bs_8,H,hs47z⟩:=H.freezeE (k:=1) rfl
   replace H:=H.nf
   have hq46z:=hs47z
   obtain ⟨Bs_9,H,le48z,le49z⟩:=H.joinE (i:=0) (j:=1) rfl rfl
   replace hq46z:=hq46z.mono le49z
   obtain ⟨rw50z,hrw_rw50z⟩:∃ r:Raw 3,r.cs=[I ((b_Olds.getD i default).src),I ((b_Olds.getD i default).dst),I ((b_Olds.getD i default).stage),u0_6]:=⟨Raw.of [I ((b_Olds.getD i default).src),I ((b_Olds.getD i default).dst),I ((b_Olds.getD i default).stage),u0_6] rfl (by simp only [List.all_cons,List.all_nil,Bool.true_and,Bool.and_true,Sl.oc hq46z]; try rfl),rfl⟩
   have hr51z:RepR (α:=Old10) Bs_9.cells [rw50z] [(⟨((b_Olds.getD i default).src:Int),((b_Olds.getD i default).dst:Int),((b_Olds.getD i default).stage:Int),r3⟩:Old10)]:=.cons (by rw [hrw_rw50z]; exact ⟨_,rfl,hq46z⟩)<|.nil
   refine t_bs (α:=Raw 3) T26 [.agg #[I ((b_Olds.getD i default).src),I ((b_Olds.getD i default).dst),I ((b_Olds.getD i default).stage),u0_6]] [rw50z] H rfl (.cons (by rw [show (Flat.enc rw50z:List Value)=rw50z.cs from rfl,hrw_rw50z]; rfl) (Flat.rep_enc _ _)<|.nil) rfl rfl rfl ?_
   intro v52z w53z H
   replace H:=H.nf
   obtain ⟨sd54z,hM⟩:=M.e_grd hM
   simp only [Bool.and_eq_true,decide_eq_true_eq] at sd54z
   have hr55z:=hr51z
   obtain ⟨Bs_13,H,le56z,le57z⟩:=H.joinE (i:=6) (j:=1) rfl rfl
   replace hr_l:=hr_l.mono le56z
   replace hr55z:=hr55z.mono le57z
   have hr60z:=hr_l.app hr55z
   refine t_app (α:=Raw 3) (k:=6) (l:=rw_l) (l2:=[rw50z]) (l':=rw_l++([rw50z])) (vy:=v52z) T26 rfl H rfl rfl rfl (H.os 1) (H.ol 1) (rfl) (by have a_:=hr_l.len; have b_:=hr55z.len; (try simp only [List.length_nil] at *); first | omega | (rw [a_,b_]; omega)) ?_
   intro v58z w59z H
   replace H:=H.nf
   refine kg 1 ?_
   refine t_sw 8 1 [v58z] v58z H rfl rfl Sz26 (Sl.cells (rowSl rfl (H.get (k:=6) rfl) (roLe _ (H.get (k:=0) rfl)) hr60z)) rfl rfl (by simp only [List.all_cons,List.all_nil,Bool.true_and,Bool.and_true,Sl.oc (rowSl rfl (H.get (k:=6) rfl) (roLe _ (H.get (k:=0) rfl)) hr60z)]; try rfl) ?_
   intro w61z H
   refine kg 6 ?_
   exact ⟨m29z,lt30z,i+1,l++([(⟨((b_Olds.getD i default).src:Int),((b_Olds.getD i default).dst:Int),((b_Olds.getD i default).stage:Int),r3⟩:Old10)]),v58z,rw_l++([rw50z]),Bs_13,_,upds_of _ _ ⟨rfl,rfl,rfl,rfl,trivial⟩,M.e_inl hM hN32z,(H.pk [6,0,8,9,10,11]),hr60z⟩
  replace hM:=M.e_f hM c34z
  simp only [qy1,qy2,qy3,qy4,qy5,qy6,ne_eq,qy7] at c34z
  refine W.exit ?_
  have hX62z:=M.e_inr hM hN32z
  subst hX62z
  replace hM:=hk25z
  try dsimp only at hM
  refine kg 3 ?_
  refine t_sw 4 0 [u0_3,v_l,I b_First,I b_Last] (.agg #[u0_3,v_l,I b_First,I b_Last]) H rfl rfl Sz28 rfl rfl rfl (by simp only [List.all_cons,List.all_nil,Bool.true_and,Bool.and_true,Sl.oc (H.os 3),Sl.oc (rowSl rfl (H.get (k:=0) rfl) (roLe _ (H.get (k:=1) rfl)) hr_l)]; try rfl) ?_
  intro w63z H
  refine s_nil ?_
  refine W.ret ?_
  have hb64z:=(H.bl 4)
  have hr_:=M.e_pure hM
  exact ⟨_,(resE_of1 (v:=.agg #[u0_3,v_l,I b_First,I b_Last]) rfl (.cell (v:=.agg #[u0_3,v_l,I b_First,I b_Last]) rfl (run_loadVar_ag (ds:=[u0_3,v_l,I b_First,I b_Last]) Ag28 Sz28 hb64z rfl rfl)<|.nil)),⟨r2,l,b_First,b_Last,u0_3,v_l,rw_l,B_l,hr_,rfl,(H.pk [3,0,1]),hr_l⟩⟩
 skip
 refine t_alloc (cs:=[.slice none 0 0,.slice none 0 0,I 0,I 0]) H Al28 rfl ?_
 intro b_4 w65z H
 refine s_nil ⟨(H.pk [1,2]),?_⟩
 refine t_l rfl ?_
 obtain ⟨r67z,hx66z,hM⟩:=M.e_bind hM
 refine s_call cf70 [v_b_Years] rfl (zdC b_Years (hC_b_Years.app _) hs_b_Years hx66z _ (H.gt 3)) ?_
 rintro vq w68z ⟨r2,u0_3,hr69z,hvq,H2_⟩
 subst hr69z
 subst vq
 try dsimp only at hM
 replace H:=H.bk H2_
 clear H2_
 have hvc_q70z:=Sl.cells (H.os 0)
 have hvo_q70z:=Sl.oc (H.os 0)
 refine s_nil ⟨(H.pk [2,3]),?_⟩
 refine t_q rfl (fun w' H=>x_bld (ps:=[(2,I b_First),(3,I b_Last),(0,u0_3)]) (zs:=[.slice none 0 0,.slice none 0 0,I 0,I 0]) (L':=[u0_3,.slice none 0 0,I b_First,I b_Last]) rfl Tryz.underlying28 Al28 rfl (Bd28 Tryz.underlying28) (.cons (cs:=[I b_First]) rfl rfl rfl rfl rfl<|.cons (cs:=[I b_Last]) rfl rfl rfl rfl rfl<|.cons (cs:=[u0_3]) hvc_q70z rfl rfl rfl rfl<|.nil)) ?_
 refine t_l rfl ?_
 refine t_sw 1 0 [u0_3,.slice none 0 0,I b_First,I b_Last] (.agg #[u0_3,.slice none 0 0,I b_First,I b_Last]) H rfl rfl Sz28 rfl rfl rfl (by simp only [List.all_cons,List.all_nil,Bool.true_and,Bool.and_true,Sl.oc (H.os 0)]; try rfl) ?_
 intro w71z H
 refine s_nil ⟨(H.pk [2,3]),?_⟩
 refine kg 7 ?_
 obtain ⟨Bs_14,H⟩:=H.emptyE
 replace H:=H.nilOwn (α:=Raw 3) 38
 have hr72z:RepR (α:=Old10) (n:=3) Bs_14.cells [] []:=.nil
 obtain ⟨ex73z,hi74z,hk75z⟩:=M.e_bind hM
 obtain ⟨m0_,hi74z⟩:=M.e_iter hi74z
 refine W.loop (fun m σ W=>∃ (i:Nat) (l:List Old10) (v_l:Value) (rw_l:List (Raw 3)) (B_l:Base) (ρ:Env),σ=upds ρ [(1,Pq b_1),(2,Pq b_2),(3,Pq b_4),(4,I (i:Int))]/\M.iterN (zaB b_Olds) m (i,l)=some ex73z/\St w W [cOwn (α:=Raw 3) 38 v_l rw_l,cRo B_l,cOwn (α:=Yr) 36 u0_3 r2,cBlk b_4 [u0_3,v_l,I b_First,I b_Last] 28,cBlk b_2 [.slice none 0 0,.slice none 0 0,I 0,I 0] 28,cBlk b_1 [v_b_Years,v_b_Olds,I b_First,I b_Last] 28] R/\RepR (α:=Old10) B_l.cells rw_l l) ?_ ?_
 ·exact ⟨_,0,[],(.slice none 0 0),[],Bs_14,_,upds_of _ _ ⟨rfl,rfl,rfl,rfl,trivial⟩,hi74z,H,hr72z⟩
 rintro m78z σ w76z ⟨i,l,v_l,rw_l,B_l,ρ,rfl,hI77z,H,hr_l⟩
 obtain ⟨m79z,lt80z,x81z,hM,hN82z⟩:=M.e_iterN hI77z
 simp only [zaB] at hM
 clear hI77z
 have hl83z:=(hs_b_Olds).len_le
 refine kg 9 ?_
 refine W.cond (decide ((i:Int)<(b_Olds.length:Int))) rfl (fun c84z=>?_) (fun c84z=>?_)
 ·replace hM:=M.e_t hM c84z
  simp only [qy1,qy2,qy3,qy4,qy5,qy6,ne_eq,qy7] at c84z
  obtain ⟨sd85z,hM⟩:=M.e_grd hM
  simp only [Bool.and_eq_true,decide_eq_true_eq] at sd85z
  refine kg 9 ?_
  obtain ⟨u86z,ha88z,hs87z⟩:=Old10_atA hs_b_Olds (i:=(i:Int)) (by omega) (by omega)
  replace hs87z:Sl _ u86z (b_Olds.getD i default).passed:=hs87z
  have hl_hs87z:=hs87z.len_le
  refine s_val (x_ld (p:=vat v_b_Olds 4 (Int.toNat (i:Int))) (v:=.agg #[I ((b_Olds.getD i default).src),I ((b_Olds.getD i default).dst),I ((b_Olds.getD i default).stage),u86z]) rfl (ld_ag Ag38 Sz38 (At.mono ha88z (hC_b_Olds.at H)))) ?_
  refine t_alloc (cs:=[I 0,I 0,I 0,.slice none 0 0]) H Al38 rfl ?_
  intro b_5 w89z H
  refine t_sw 0 0 [I ((b_Olds.getD i default).src),I ((b_Olds.getD i default).dst),I ((b_Olds.getD i default).stage),u86z] (.agg #[I ((b_Olds.getD i default).src),I ((b_Olds.getD i default).dst),I ((b_Olds.getD i default).stage),u86z]) H rfl rfl Sz38 rfl rfl rfl (by simp only [List.all_cons,List.all_nil,Bool.true_and,Bool.and_true,Sl.oc hs87z]; try rfl) ?_
  intro w90z H
  refine kg 5 ?_
  obtain ⟨r92z,hx91z,hM⟩:=M.e_bind hM
  refine s_call cf17 [u86z] rfl (zbS ((b_Olds.getD i default).passed) (hC_b_Olds.app _) hs87z hx91z _ (H.gt 7)) ?_
  rintro vq w93z ⟨r3,u0_6,hr94z,hvq,H2_⟩
  subst hr94z
  subst vq
  try dsimp only at hM
  replace H:=H.bk H2_
  clear H2_
  refine kg 1 ?_
  refine t_sw 1 3 [u0_6] u0_6 H rfl rfl Sz22 (Sl.cells (H.os 0)) rfl rfl (by simp only [List.all_cons,List.all_nil,Bool.true_and,Bool.and_true,Sl.oc (H.os 0)]; try rfl) ?_
  intro w95z H
  refine kg 5 ?_
  obtain ⟨Bs_7,H⟩:=H.emptyE
  obtain ⟨Bs_8,H,hs97z⟩:=H.freezeE (k:=1) rfl
  replace H:=H.nf
  have hq96z:=hs97z
  obtain ⟨Bs_9,H,le98z,le99z⟩:=H.joinE (i:=0) (j:=1) rfl rfl
  replace hq96z:=hq96z.mono le99z
  obtain ⟨rw100z,hrw_rw100z⟩:∃ r:Raw 3,r.cs=[I ((b_Olds.getD i default).src),I ((b_Olds.getD i default).dst),I ((b_Olds.getD i default).stage),u0_6]:=⟨Raw.of [I ((b_Olds.getD i default).src),I ((b_Olds.getD i default).dst),I ((b_Olds.getD i default).stage),u0_6] rfl (by simp only [List.all_cons,List.all_nil,Bool.true_and,Bool.and_true,Sl.oc hq96z]; try rfl),rfl⟩
  have hr101z:RepR (α:=Old10) Bs_9.cells [rw100z] [(⟨((b_Olds.getD i default).src:Int),((b_Olds.getD i default).dst:Int),((b_Olds.getD i default).stage:Int),r3⟩:Old10)]:=.cons (by rw [hrw_rw100z]; exact ⟨_,rfl,hq96z⟩)<|.nil
  refine t_bs (α:=Raw 3) T26 [.agg #[I ((b_Olds.getD i default).src),I ((b_Olds.getD i default).dst),I ((b_Olds.getD i default).stage),u0_6]] [rw100z] H rfl (.cons (by rw [show (Flat.enc rw100z:List Value)=rw100z.cs from rfl,hrw_rw100z]; rfl) (Flat.rep_enc _ _)<|.nil) rfl rfl rfl ?_
  intro v102z w103z H
  replace H:=H.nf
  obtain ⟨sd104z,hM⟩:=M.e_grd hM
  simp only [Bool.and_eq_true,decide_eq_true_eq] at sd104z
  have hr105z:=hr101z
  obtain ⟨Bs_13,H,le106z,le107z⟩:=H.joinE (i:=6) (j:=1) rfl rfl
  replace hr_l:=hr_l.mono le106z
  replace hr105z:=hr105z.mono le107z
  have hr110z:=hr_l.app hr105z
  refine t_app (α:=Raw 3) (k:=6) (l:=rw_l) (l2:=[rw100z]) (l':=rw_l++([rw100z])) (vy:=v102z) T26 rfl H rfl rfl rfl (H.os 1) (H.ol 1) (rfl) (by have a_:=hr_l.len; have b_:=hr105z.len; (try simp only [List.length_nil] at *); first | omega | (rw [a_,b_]; omega)) ?_
  intro v108z w109z H
  replace H:=H.nf
  refine kg 1 ?_
  refine t_sw 9 1 [v108z] v108z H rfl rfl Sz26 (Sl.cells (rowSl rfl (H.get (k:=6) rfl) (roLe _ (H.get (k:=0) rfl)) hr110z)) rfl rfl (by simp only [List.all_cons,List.all_nil,Bool.true_and,Bool.and_true,Sl.oc (rowSl rfl (H.get (k:=6) rfl) (roLe _ (H.get (k:=0) rfl)) hr110z)]; try rfl) ?_
  intro w111z H
  refine kg 6 ?_
  exact ⟨m79z,lt80z,i+1,l++([(⟨((b_Olds.getD i default).src:Int),((b_Olds.getD i default).dst:Int),((b_Olds.getD i default).stage:Int),r3⟩:Old10)]),v108z,rw_l++([rw100z]),Bs_13,_,upds_of _ _ ⟨rfl,rfl,rfl,rfl,trivial⟩,M.e_inl hM hN82z,(H.pk [6,0,8,9,10,11]),hr110z⟩
 replace hM:=M.e_f hM c84z
 simp only [qy1,qy2,qy3,qy4,qy5,qy6,ne_eq,qy7] at c84z
 refine W.exit ?_
 have hX112z:=M.e_inr hM hN82z
 subst hX112z
 replace hM:=hk75z
 try dsimp only at hM
 refine kg 3 ?_
 refine t_sw 4 0 [u0_3,v_l,I b_First,I b_Last] (.agg #[u0_3,v_l,I b_First,I b_Last]) H rfl rfl Sz28 rfl rfl rfl (by simp only [List.all_cons,List.all_nil,Bool.true_and,Bool.and_true,Sl.oc (H.os 2),Sl.oc (rowSl rfl (H.get (k:=0) rfl) (roLe _ (H.get (k:=1) rfl)) hr_l)]; try rfl) ?_
 intro w113z H
 refine s_nil ?_
 refine W.ret ?_
 have hb114z:=(H.bl 4)
 have hr_:=M.e_pure hM
 exact ⟨_,(resE_of1 (v:=.agg #[u0_3,v_l,I b_First,I b_Last]) rfl (.cell (v:=.agg #[u0_3,v_l,I b_First,I b_Last]) rfl (run_loadVar_ag (ds:=[u0_3,v_l,I b_First,I b_Last]) Ag28 Sz28 hb114z rfl rfl)<|.nil)),⟨r2,l,b_First,b_Last,u0_3,v_l,rw_l,B_l,hr_,rfl,(H.pk [2,0,1]),hr_l⟩⟩

def zbF (b_Years:List Yr):(Nat × (List Yr))->M ((Nat × (List Yr)) ⊕ ((List Yr) × (List Yr))):=fun (i,l) =>
  bif decide ((i:Int)<(b_Years.length:Int)) then (
  M.grd (decide ((i:Int)<(b_Years.length:Int))) <|
  M.grd (decide ((l.length+([(b_Years.getD i default)]).length)*24<=140737488355328)) <|
  M.pure (.inl (i+1,l++([(b_Years.getD i default)]))))
  else (
  M.pure (.inr (l,l)))
def zcg (b_Olds:List Old10):(Nat × (List Old10))->M ((Nat × (List Old10)) ⊕ ((List Old10) × (List Old10))):=fun (i2,l4) =>
  bif decide ((i2:Int)<(b_Olds.length:Int)) then (
  M.grd (decide ((i2:Int)<(b_Olds.length:Int))) <|
  M.grd (decide ((l4.length+([(b_Olds.getD i2 default)]).length)*48<=140737488355328)) <|
  M.pure (.inl (i2+1,l4++([(b_Olds.getD i2 default)]))))
  else (
  M.pure (.inr (l4,l4)))
def zbM (b_Years:List Yr) (b_Olds:List Old10) (b_First:Int) (b_Last:Int):M ((List Yr) × (List Old10) × Int × Int) :=
  M.bind (M.iter (zbF b_Years) (0,[])) fun (l2,l3) =>
  M.bind (M.iter (zcg b_Olds) (0,[])) fun (l5,l6) =>
  M.pure (l3,l6,b_First,b_Last)
theorem zai {R:List Chunk} {C_b_Years:Cells} {v_b_Years:Value} {C_b_Olds:Cells} {v_b_Olds:Value} (b_Years:List Yr) (b_Olds:List Old10) (b_First:Int) (b_Last:Int) (hC_b_Years:Reads R C_b_Years) (hs_b_Years:Sl C_b_Years v_b_Years b_Years) (hC_b_Olds:Reads R C_b_Olds) (hs_b_Olds:Sl C_b_Olds v_b_Olds b_Olds) {r:((List Yr) × (List Old10) × Int × Int)} (hM:(zbM b_Years b_Olds b_First b_Last).Ends r) (w:World) (H:St w w [] R):Ret Tryz.prog 31 #[.agg #[v_b_Years,v_b_Olds,I b_First,I b_Last]] w fun v w'=>∃ (y0:List Yr) (y1:List Old10) (y2:Int) (y3:Int) (u0:Value) (u1:Value) (rr2:List (Raw 3)) (Bs3:Base),(y0,y1,y2,y3)=r/\v = .agg #[u0,u1,I y2,I y3]/\St w w' [cOwn (α:=Yr) 124 u0 y0,cOwn (α:=Raw 3) 125 u1 rr2,cRo Bs3] R/\RepR (α:=Old10) (Cells.sup C_b_Olds Bs3.cells) rr2 y1:=by
 refine ret_of_W Tryz.func31 rfl rfl rfl ?_
 refine kg 2 ?_
 refine t_box (v:=.agg #[v_b_Years,v_b_Olds,I b_First,I b_Last]) (cs:=[v_b_Years,v_b_Olds,I b_First,I b_Last]) H rfl rfl ?_
 intro b_1 w1z H
 refine t_alloc (cs:=[.slice none 0 0,.slice none 0 0,I 0,I 0]) H Al77 rfl ?_
 intro b_2 w2z H
 refine kg 7 ?_
 refine s_val (x_bld (ps:=[(2,I b_First),(3,I b_Last)]) (zs:=[.slice none 0 0,.slice none 0 0,I 0,I 0]) (L':=[.slice none 0 0,.slice none 0 0,I b_First,I b_Last]) rfl Tryz.underlying77 Al77 rfl (Bd77 Tryz.underlying77) (.cons (cs:=[I b_First]) rfl rfl rfl rfl rfl<|.cons (cs:=[I b_Last]) rfl rfl rfl rfl rfl<|.nil)) ?_
 refine t_alloc (cs:=[.slice none 0 0,.slice none 0 0,I 0,I 0]) H Al77 rfl ?_
 intro b_3 w3z H
 refine t_sw 0 0 [.slice none 0 0,.slice none 0 0,I b_First,I b_Last] (.agg #[.slice none 0 0,.slice none 0 0,I b_First,I b_Last]) H rfl rfl Sz77 rfl rfl rfl rfl ?_
 intro w4z H
 refine kg 7 ?_
 replace H:=H.nilOwn (α:=Yr) 124
 obtain ⟨ex5z,hi6z,hk7z⟩:=M.e_bind hM
 obtain ⟨m0_,hi6z⟩:=M.e_iter hi6z
 refine W.loop (fun m σ W=>∃ (i:Nat) (l:List Yr) (v_l:Value) (ρ:Env),σ=upds ρ [(1,Pq b_1),(2,Pq b_2),(3,Pq b_3),(4,I (i:Int))]/\M.iterN (zbF b_Years) m (i,l)=some ex5z/\St w W [cOwn (α:=Yr) 124 v_l l,cBlk b_3 [v_l,.slice none 0 0,I b_First,I b_Last] 77,cBlk b_2 [.slice none 0 0,.slice none 0 0,I 0,I 0] 77,cBlk b_1 [v_b_Years,v_b_Olds,I b_First,I b_Last] 28] R) ?_ ?_
 ·exact ⟨_,0,[],(.slice none 0 0),_,upds_of _ _ ⟨rfl,rfl,rfl,rfl,trivial⟩,hi6z,H⟩
 rintro m10z σ w8z ⟨i,l,v_l,ρ,rfl,hI9z,H⟩
 obtain ⟨m11z,lt12z,x13z,hM,hN14z⟩:=M.e_iterN hI9z
 simp only [zbF] at hM
 clear hI9z
 have hl15z:=(hs_b_Years).len_le
 refine kg 9 ?_
 refine W.cond (decide ((i:Int)<(b_Years.length:Int))) rfl (fun c16z=>?_) (fun c16z=>?_)
 ·replace hM:=M.e_t hM c16z
  simp only [qy1,qy2,qy3,qy4,qy5,qy6,ne_eq,qy7] at c16z
  refine kg 3 ?_
  refine W.drawT (fun W=>St w W [cBlk b_2 [.slice none 0 0,.slice none 0 0,I 0,I 0] 77,cBlk b_1 [v_b_Years,v_b_Olds,I b_First,I b_Last] 28] R) (.q 0 (.q 2 (.q 3 (.q 4 (.q 5 (.q 6 (.l2 1 (.l 7 (.l 8 (.q 9 (.l 10 .nil)))) 7 (.l 1 (.l 8 (.q 9 (.l 10 .nil))))))))))) mixed (by decide +kernel) rfl ?_
  intro w17z hx_
  replace H:=H.ext hx_
  clear hx_
  refine ⟨(H.pk [2,3]),?_⟩
  obtain ⟨sd18z,hM⟩:=M.e_grd hM
  simp only [Bool.and_eq_true,decide_eq_true_eq] at sd18z
  obtain ⟨sd21z,hM⟩:=M.e_grd hM
  simp only [Bool.and_eq_true,decide_eq_true_eq] at sd21z
  refine kg 6 ?_
  refine t_l2 rfl rfl ?_ ?_
  ·skip
   refine kg 1 ?_
   have hvc_q25z:=Sl.cells (H.os 0)
   have hvo_q25z:=Sl.oc (H.os 0)
   refine s_nil ⟨(H.pk [2,3]),?_⟩
   refine t_l rfl ?_
   refine t_bs (α:=Yr) T74 [.agg #[I ((b_Years.getD i default).year),I ((b_Years.getD i default).lo),I ((b_Years.getD i default).hi)]] [(b_Years.getD i default)] H rfl (.cons rfl (Flat.rep_enc _ (b_Years.getD i default))<|.nil) rfl rfl rfl ?_
   intro v26z w27z H
   have hvc_q28z:=Sl.cells (H.os 0)
   have hvo_q28z:=Sl.oc (H.os 0)
   refine s_nil ⟨(H.pk [3,4]),?_⟩
   refine t_l rfl ?_
   refine t_app (α:=Yr) (k:=1) (l:=l) (l2:=[(b_Years.getD i default)]) (l':=l++([(b_Years.getD i default)])) (vy:=v26z) T74 rfl H rfl rfl rfl (H.os 0) (H.ol 0) (rfl) (by first | omega | (simp only [List.length_nil] at *; omega)) ?_
   intro v29z w30z H
   replace H:=H.nf
   have hvc_q31z:=Sl.cells (H.os 1)
   have hvo_q31z:=Sl.oc (H.os 1)
   refine s_nil ⟨(H.pk [3,4]),?_⟩
   refine kg 1 ?_
   refine t_l rfl ?_
   refine t_sw 2 0 [v29z] v29z H rfl rfl Sz74 (Sl.cells (H.os 1)) rfl rfl (by simp only [List.all_cons,List.all_nil,Bool.true_and,Bool.and_true,Sl.oc (H.os 1)]; try rfl) ?_
   intro w32z H
   refine s_nil ⟨(H.pk [3,4]),?_⟩
   refine kg 6 ?_
   exact ⟨m11z,lt12z,i+1,l++([(b_Years.getD i default)]),v29z,_,upds_of _ _ ⟨rfl,rfl,rfl,rfl,trivial⟩,M.e_inl hM hN14z,(H.pk [1,2,3,4])⟩
  skip
  refine t_bs (α:=Yr) T74 [.agg #[I ((b_Years.getD i default).year),I ((b_Years.getD i default).lo),I ((b_Years.getD i default).hi)]] [(b_Years.getD i default)] H rfl (.cons rfl (Flat.rep_enc _ (b_Years.getD i default))<|.nil) rfl rfl rfl ?_
  intro v33z w34z H
  have hvc_q35z:=Sl.cells (H.os 0)
  have hvo_q35z:=Sl.oc (H.os 0)
  have hvc_q36z:=Sl.cells (H.os 1)
  have hvo_q36z:=Sl.oc (H.os 1)
  refine s_nil ⟨(H.pk [3,4]),?_⟩
  refine t_l rfl ?_
  refine kg 1 ?_
  refine s_nil ⟨(H.pk [3,4]),?_⟩
  refine t_l rfl ?_
  refine t_app (α:=Yr) (k:=1) (l:=l) (l2:=[(b_Years.getD i default)]) (l':=l++([(b_Years.getD i default)])) (vy:=v33z) T74 rfl H rfl rfl rfl (H.os 0) (H.ol 0) (rfl) (by first | omega | (simp only [List.length_nil] at *; omega)) ?_
  intro v37z w38z H
  replace H:=H.nf
  have hvc_q39z:=Sl.cells (H.os 1)
  have hvo_q39z:=Sl.oc (H.os 1)
  refine s_nil ⟨(H.pk [3,4]),?_⟩
  refine kg 1 ?_
  refine t_l rfl ?_
  refine t_sw 2 0 [v37z] v37z H rfl rfl Sz74 (Sl.cells (H.os 1)) rfl rfl (by simp only [List.all_cons,List.all_nil,Bool.true_and,Bool.and_true,Sl.oc (H.os 1)]; try rfl) ?_
  intro w40z H
  refine s_nil ⟨(H.pk [3,4]),?_⟩
  refine kg 6 ?_
  exact ⟨m11z,lt12z,i+1,l++([(b_Years.getD i default)]),v37z,_,upds_of _ _ ⟨rfl,rfl,rfl,rfl,trivial⟩,M.e_inl hM hN14z,(H.pk [1,2,3,4])⟩
 replace hM:=M.e_f hM c16z
 simp only [qy1,qy2,qy3,qy4,qy5,qy6,ne_eq,qy7] at c16z
 refine W.exit ?_
 have hX41z:=M.e_inr hM hN14z
 subst hX41z
 replace hM:=hk7z
 try dsimp only at hM
 refine kg 6 ?_
 obtain ⟨Bs_12,H⟩:=H.emptyE
 replace H:=H.nilOwn (α:=Raw 3) 125
 have hr42z:RepR (α:=Old10) (n:=3) Bs_12.cells [] []:=.nil
 replace hr42z:=hr42z.mono (Cells.sup_r (hC_b_Olds.at H) (roLe _ (H.get (k:=1) rfl)))
 obtain ⟨ex43z,hi44z,hk45z⟩:=M.e_bind hM
 obtain ⟨m0_,hi44z⟩:=M.e_iter hi44z
 refine W.loop (fun m σ W=>∃ (i2:Nat) (l4:List Old10) (v_l4:Value) (rw_l4:List (Raw 3)) (B_l4:Base) (ρ:Env),σ=upds ρ [(1,Pq b_1),(2,Pq b_2),(3,Pq b_3),(5,I (i2:Int))]/\M.iterN (zcg b_Olds) m (i2,l4)=some ex43z/\St w W [cOwn (α:=Raw 3) 125 v_l4 rw_l4,cRo B_l4,cOwn (α:=Yr) 124 v_l l,cBlk b_3 [v_l,v_l4,I b_First,I b_Last] 77,cBlk b_2 [.slice none 0 0,.slice none 0 0,I 0,I 0] 77,cBlk b_1 [v_b_Years,v_b_Olds,I b_First,I b_Last] 28] R/\RepR (α:=Old10) (Cells.sup C_b_Olds B_l4.cells) rw_l4 l4) ?_ ?_
 ·exact ⟨_,0,[],(.slice none 0 0),[],Bs_12,_,upds_of _ _ ⟨rfl,rfl,rfl,rfl,trivial⟩,hi44z,H,hr42z⟩
 rintro m48z σ w46z ⟨i2,l4,v_l4,rw_l4,B_l4,ρ,rfl,hI47z,H,hr_l4⟩
 obtain ⟨m49z,lt50z,x51z,hM,hN52z⟩:=M.e_iterN hI47z
 simp only [zcg] at hM
 clear hI47z
 have hl53z:=(hs_b_Olds).len_le
 refine kg 9 ?_
 refine W.cond (decide ((i2:Int)<(b_Olds.length:Int))) rfl (fun c54z=>?_) (fun c54z=>?_)
 ·replace hM:=M.e_t hM c54z
  simp only [qy1,qy2,qy3,qy4,qy5,qy6,ne_eq,qy7] at c54z
  refine kg 3 ?_
  refine W.drawT (fun W=>St w W [cRo B_l4,cOwn (α:=Yr) 124 v_l l,cBlk b_2 [.slice none 0 0,.slice none 0 0,I 0,I 0] 77,cBlk b_1 [v_b_Years,v_b_Olds,I b_First,I b_Last] 28] R) (.q 0 (.q 2 (.q 3 (.q 4 (.q 5 (.q 6 (.l2 1 (.l 7 (.l 8 (.q 9 (.l 10 .nil)))) 7 (.l 1 (.l 8 (.q 9 (.l 10 .nil))))))))))) mixed (by decide +kernel) rfl ?_
  intro w55z hx_
  replace H:=H.ext hx_
  clear hx_
  refine ⟨(H.pk [1,2,4,5]),?_⟩
  obtain ⟨sd56z,hM⟩:=M.e_grd hM
  simp only [Bool.and_eq_true,decide_eq_true_eq] at sd56z
  refine kg 5 ?_
  obtain ⟨u57z,ha59z,hs58z⟩:=Old10_atA hs_b_Olds (i:=(i2:Int)) (by omega) (by omega)
  replace hs58z:Sl _ u57z (b_Olds.getD i2 default).passed:=hs58z
  have hl_hs58z:=hs58z.len_le
  refine t_q rfl (fun w' H=>x_ld (p:=vat v_b_Olds 4 (Int.toNat (i2:Int))) (v:=.agg #[I ((b_Olds.getD i2 default).src),I ((b_Olds.getD i2 default).dst),I ((b_Olds.getD i2 default).stage),u57z]) rfl (ld_ag Ag38 Sz38 (At.mono ha59z (hC_b_Olds.at H)))) ?_
  obtain ⟨sd65z,hM⟩:=M.e_grd hM
  simp only [Bool.and_eq_true,decide_eq_true_eq] at sd65z
  refine t_l2 rfl rfl ?_ ?_
  ·skip
   refine kg 1 ?_
   have hvc_q73z:=Sl.cells (H.os 0)
   have hvo_q73z:=Sl.oc (H.os 0)
   refine s_nil ⟨(H.pk [1,2,4,5]),?_⟩
   refine t_l rfl ?_
   obtain ⟨Bs_7,H⟩:=H.emptyE
   have hq74z:=hs58z
   replace hq74z:=hq74z.mono (Cells.sup_l _ Bs_7.cells)
   obtain ⟨rw75z,hrw_rw75z⟩:∃ r:Raw 3,r.cs=[I ((b_Olds.getD i2 default).src),I ((b_Olds.getD i2 default).dst),I ((b_Olds.getD i2 default).stage),u57z]:=⟨Raw.of [I ((b_Olds.getD i2 default).src),I ((b_Olds.getD i2 default).dst),I ((b_Olds.getD i2 default).stage),u57z] rfl (by simp only [List.all_cons,List.all_nil,Bool.true_and,Bool.and_true,Sl.oc hq74z]; try rfl),rfl⟩
   have hr76z:RepR (α:=Old10) (Cells.sup C_b_Olds Bs_7.cells) [rw75z] [(b_Olds.getD i2 default)]:=.cons (by rw [hrw_rw75z]; exact ⟨_,rfl,hq74z⟩)<|.nil
   refine t_bs (α:=Raw 3) T75 [.agg #[I ((b_Olds.getD i2 default).src),I ((b_Olds.getD i2 default).dst),I ((b_Olds.getD i2 default).stage),u57z]] [rw75z] H rfl (.cons (by rw [show (Flat.enc rw75z:List Value)=rw75z.cs from rfl,hrw_rw75z]; rfl) (Flat.rep_enc _ _)<|.nil) rfl rfl rfl ?_
   intro v77z w78z H
   replace H:=H.nf
   have hvc_q79z:=Sl.cells (H.os 0)
   have hvo_q79z:=Sl.oc (H.os 0)
   refine s_nil ⟨(H.pk [3,4,6,7]),?_⟩
   refine t_l rfl ?_
   have hr80z:=hr76z
   obtain ⟨Bs_11,H,le81z,le82z⟩:=H.joinE (i:=3) (j:=1) rfl rfl
   replace hr_l4:=hr_l4.mono (Cells.sup_mono le81z (hC_b_Olds.at H) (roLe _ (H.get (k:=0) rfl)))
   replace hr80z:=hr80z.mono (Cells.sup_mono le82z (hC_b_Olds.at H) (roLe _ (H.get (k:=0) rfl)))
   have hr85z:=hr_l4.app hr80z
   refine t_app (α:=Raw 3) (k:=3) (l:=rw_l4) (l2:=[rw75z]) (l':=rw_l4++([rw75z])) (vy:=v77z) T75 rfl H rfl rfl rfl (H.os 1) (H.ol 1) (rfl) (by have a_:=hr_l4.len; have b_:=hr80z.len; (try simp only [List.length_nil] at *); first | omega | (rw [a_,b_]; omega)) ?_
   intro v83z w84z H
   replace H:=H.nf
   have hvc_q86z:=Sl.cells (H.os 3)
   have hvo_q86z:=Sl.oc (H.os 3)
   refine s_nil ⟨(H.pk [4,5,7,8]),?_⟩
   refine kg 1 ?_
   refine t_l rfl ?_
   refine t_sw 6 1 [v83z] v83z H rfl rfl Sz75 (Sl.cells (rowSl rfl (H.get (k:=3) rfl) (Cells.sup_le (hC_b_Olds.at H) (roLe _ (H.get (k:=0) rfl))) hr85z)) rfl rfl (by simp only [List.all_cons,List.all_nil,Bool.true_and,Bool.and_true,Sl.oc (rowSl rfl (H.get (k:=3) rfl) (Cells.sup_le (hC_b_Olds.at H) (roLe _ (H.get (k:=0) rfl))) hr85z)]; try rfl) ?_
   intro w87z H
   refine s_nil ⟨(H.pk [4,5,7,8]),?_⟩
   refine kg 6 ?_
   exact ⟨m49z,lt50z,i2+1,l4++([(b_Olds.getD i2 default)]),v83z,rw_l4++([rw75z]),Bs_11,_,upds_of _ _ ⟨rfl,rfl,rfl,rfl,trivial⟩,M.e_inl hM hN52z,(H.pk [3,0,5,6,7,8]),hr85z⟩
  skip
  obtain ⟨Bs_7,H⟩:=H.emptyE
  have hq88z:=hs58z
  replace hq88z:=hq88z.mono (Cells.sup_l _ Bs_7.cells)
  obtain ⟨rw89z,hrw_rw89z⟩:∃ r:Raw 3,r.cs=[I ((b_Olds.getD i2 default).src),I ((b_Olds.getD i2 default).dst),I ((b_Olds.getD i2 default).stage),u57z]:=⟨Raw.of [I ((b_Olds.getD i2 default).src),I ((b_Olds.getD i2 default).dst),I ((b_Olds.getD i2 default).stage),u57z] rfl (by simp only [List.all_cons,List.all_nil,Bool.true_and,Bool.and_true,Sl.oc hq88z]; try rfl),rfl⟩
  have hr90z:RepR (α:=Old10) (Cells.sup C_b_Olds Bs_7.cells) [rw89z] [(b_Olds.getD i2 default)]:=.cons (by rw [hrw_rw89z]; exact ⟨_,rfl,hq88z⟩)<|.nil
  refine t_bs (α:=Raw 3) T75 [.agg #[I ((b_Olds.getD i2 default).src),I ((b_Olds.getD i2 default).dst),I ((b_Olds.getD i2 default).stage),u57z]] [rw89z] H rfl (.cons (by rw [show (Flat.enc rw89z:List Value)=rw89z.cs from rfl,hrw_rw89z]; rfl) (Flat.rep_enc _ _)<|.nil) rfl rfl rfl ?_
  intro v91z w92z H
  replace H:=H.nf
  have hvc_q93z:=Sl.cells (H.os 0)
  have hvo_q93z:=Sl.oc (H.os 0)
  have hvc_q94z:=Sl.cells (H.os 2)
  have hvo_q94z:=Sl.oc (H.os 2)
  refine s_nil ⟨(H.pk [3,4,6,7]),?_⟩
  refine t_l rfl ?_
  refine kg 1 ?_
  refine s_nil ⟨(H.pk [3,4,6,7]),?_⟩
  refine t_l rfl ?_
  have hr95z:=hr90z
  obtain ⟨Bs_11,H,le96z,le97z⟩:=H.joinE (i:=3) (j:=1) rfl rfl
  replace hr_l4:=hr_l4.mono (Cells.sup_mono le96z (hC_b_Olds.at H) (roLe _ (H.get (k:=0) rfl)))
  replace hr95z:=hr95z.mono (Cells.sup_mono le97z (hC_b_Olds.at H) (roLe _ (H.get (k:=0) rfl)))
  have hr100z:=hr_l4.app hr95z
  refine t_app (α:=Raw 3) (k:=3) (l:=rw_l4) (l2:=[rw89z]) (l':=rw_l4++([rw89z])) (vy:=v91z) T75 rfl H rfl rfl rfl (H.os 1) (H.ol 1) (rfl) (by have a_:=hr_l4.len; have b_:=hr95z.len; (try simp only [List.length_nil] at *); first | omega | (rw [a_,b_]; omega)) ?_
  intro v98z w99z H
  replace H:=H.nf
  have hvc_q101z:=Sl.cells (H.os 3)
  have hvo_q101z:=Sl.oc (H.os 3)
  refine s_nil ⟨(H.pk [4,5,7,8]),?_⟩
  refine kg 1 ?_
  refine t_l rfl ?_
  refine t_sw 6 1 [v98z] v98z H rfl rfl Sz75 (Sl.cells (rowSl rfl (H.get (k:=3) rfl) (Cells.sup_le (hC_b_Olds.at H) (roLe _ (H.get (k:=0) rfl))) hr100z)) rfl rfl (by simp only [List.all_cons,List.all_nil,Bool.true_and,Bool.and_true,Sl.oc (rowSl rfl (H.get (k:=3) rfl) (Cells.sup_le (hC_b_Olds.at H) (roLe _ (H.get (k:=0) rfl))) hr100z)]; try rfl) ?_
  intro w102z H
  refine s_nil ⟨(H.pk [4,5,7,8]),?_⟩
  refine kg 6 ?_
  exact ⟨m49z,lt50z,i2+1,l4++([(b_Olds.getD i2 default)]),v98z,rw_l4++([rw89z]),Bs_11,_,upds_of _ _ ⟨rfl,rfl,rfl,rfl,trivial⟩,M.e_inl hM hN52z,(H.pk [3,0,5,6,7,8]),hr100z⟩
 replace hM:=M.e_f hM c54z
 simp only [qy1,qy2,qy3,qy4,qy5,qy6,ne_eq,qy7] at c54z
 refine W.exit ?_
 have hX103z:=M.e_inr hM hN52z
 subst hX103z
 replace hM:=hk45z
 try dsimp only at hM
 refine kg 3 ?_
 refine t_sw 4 0 [v_l,v_l4,I b_First,I b_Last] (.agg #[v_l,v_l4,I b_First,I b_Last]) H rfl rfl Sz77 rfl rfl rfl (by simp only [List.all_cons,List.all_nil,Bool.true_and,Bool.and_true,Sl.oc (H.os 2),Sl.oc (rowSl rfl (H.get (k:=0) rfl) (Cells.sup_le (hC_b_Olds.at H) (roLe _ (H.get (k:=1) rfl))) hr_l4)]; try rfl) ?_
 intro w104z H
 refine s_nil ?_
 refine W.ret ?_
 have hb105z:=(H.bl 4)
 have hr_:=M.e_pure hM
 exact ⟨_,(resE_of1 (v:=.agg #[v_l,v_l4,I b_First,I b_Last]) rfl (.cell (v:=.agg #[v_l,v_l4,I b_First,I b_Last]) rfl (run_loadVar_ag (ds:=[v_l,v_l4,I b_First,I b_Last]) Ag77 Sz77 hb105z rfl rfl)<|.nil)),⟨l,l4,b_First,b_Last,v_l,v_l4,rw_l4,B_l4,hr_,rfl,(H.pk [2,0,1]),hr_l4⟩⟩

def zcp (l:List Int) (a:Int) (b:Int):Nat->M (Nat ⊕ (Unit ⊕ Unit)):=fun i =>
  bif decide ((i:Int)<(l.length:Int)) then (
  M.grd (decide ((i:Int)<(l.length:Int))) <|
  M.bind (zac (l.getD i 0) a b) fun r2 =>
  M.grd ((!((!r2)&&(decide (0<(i:Int))))||(decide ((-9223372036854775808:Int)<=((i:Int)-1))&&decide (((i:Int)-1)<=(9223372036854775807:Int))))) <|
  M.grd ((!((!r2)&&(decide (0<(i:Int))))||(decide ((0:Int)<=((i:Int)-1))&&decide (((i:Int)-1)<(l.length:Int))))) <|
  bif (r2||((decide (0<(i:Int)))&&(decide ((l.getD i 0)<=(l.getD (Int.toNat ((i:Int)-1)) 0))))) then (
  M.pure (.inr (.inl ())))
  else (
  M.pure (.inl (i+1))))
  else (
  M.pure (.inr (.inr ())))
def zc6 (l:List Int) (a:Int) (b:Int):M Bool :=
  M.bind (M.iter (zcp l a b) 0) fun x_=>match x_ with
  | (.inl (_:Unit))=>(
  M.pure true)
  | (.inr (_:Unit))=>(
  M.pure false)
theorem zd4 {R:List Chunk} {C_l:Cells} {v_l:Value} (l:List Int) (a:Int) (b:Int) (hC_l:Reads R C_l) (hs_l:Sl C_l v_l l) {r:Bool} (hM:(zc6 l a b).Ends r) (w:World) (H:St w w [] R):Ret Tryz.prog 71 #[v_l,I a,I b] w fun v w'=>∃ (y0:Bool),y0=r/\v=B y0/\St w w' [] R:=by
 refine ret_of_W Tryz.func71 rfl rfl rfl ?_
 refine kg 10 ?_
 obtain ⟨ex1z,hi2z,hk3z⟩:=M.e_bind hM
 obtain ⟨m0_,hi2z⟩:=M.e_iter hi2z
 refine W.loop (fun m σ W=>∃ (i:Nat) (ρ:Env),σ=upds ρ [(0,v_l),(1,I a),(2,I b),(7,I (i:Int))]/\M.iterN (zcp l a b) m i=some ex1z/\St w W [] R) ?_ ?_
 ·exact ⟨_,0,_,upds_of _ _ ⟨rfl,rfl,rfl,rfl,trivial⟩,hi2z,H⟩
 rintro m6z σ w4z ⟨i,ρ,rfl,hI5z,H⟩
 obtain ⟨m7z,lt8z,x9z,hM,hN10z⟩:=M.e_iterN hI5z
 simp only [zcp] at hM
 clear hI5z
 have hl11z:=(hs_l).len_le
 refine kg 8 ?_
 refine W.cond (decide ((i:Int)<(l.length:Int))) rfl (fun c12z=>?_) (fun c12z=>?_)
 ·replace hM:=M.e_t hM c12z
  simp only [qy1,qy2,qy3,qy4,qy5,qy6,ne_eq,qy7] at c12z
  refine kg 4 ?_
  refine W.draw (fun W=>St w W [] R) [(0,true),(1,true),(2,true),(3,true),(4,true),(5,true),(6,false),(7,true),(8,true),(9,true),(10,true),(11,true),(12,true),(13,true),(14,true),(15,true),(16,true),(17,true),(18,true),(19,true),(20,true),(21,true),(22,true)] mixed (by decide +kernel) rfl ?_
  intro w13z hx_
  replace H:=H.ext hx_
  clear hx_
  refine ⟨(H.pk []),?_⟩
  obtain ⟨sd14z,hM⟩:=M.e_grd hM
  simp only [Bool.and_eq_true,decide_eq_true_eq] at sd14z
  refine kg 6 ?_
  refine d_l rfl ?_
  obtain ⟨r16z,hx15z,hM⟩:=M.e_bind hM
  refine s_call cf56 [I (l.getD i 0),I a,I b] rfl (zae (l.getD i 0) a b hx15z _ (H.gt 0)) ?_
  rintro vq w17z ⟨r2,hr18z,hvq,H2_⟩
  subst hr18z
  subst vq
  try dsimp only at hM
  replace H:=H.bk H2_
  clear H2_
  refine s_nil ⟨(H.pk []),?_⟩
  obtain ⟨sd19z,hM⟩:=M.e_grd hM
  replace sd19z:=M.imp_of sd19z
  simp only [Bool.and_eq_true,decide_eq_true_eq] at sd19z
  obtain ⟨sd20z,hM⟩:=M.e_grd hM
  replace sd20z:=M.imp_of sd20z
  simp only [Bool.and_eq_true,decide_eq_true_eq] at sd20z
  refine kg 17 ?_
  refine W.cond (r2||((decide (0<(i:Int)))&&(decide ((l.getD i 0)<=(l.getD (Int.toNat ((i:Int)-1)) 0))))) rfl (fun c21z=>?_) (fun c21z=>?_)
  ·replace hM:=M.e_t hM c21z
   refine kg 4 ?_
   refine W.ret ?_
   have hX22z:=M.e_inr hM hN10z
   subst hX22z
   replace hM:=hk3z
   try dsimp only at hM
   have hr_:=M.e_pure hM
   exact ⟨_,resE_tmp rfl,⟨true,hr_,rfl,H⟩⟩
  replace hM:=M.e_f hM c21z
  refine kg 6 ?_
  exact ⟨m7z,lt8z,i+1,_,upds_of _ _ ⟨rfl,rfl,rfl,rfl,trivial⟩,M.e_inl hM hN10z,H⟩
 replace hM:=M.e_f hM c12z
 simp only [qy1,qy2,qy3,qy4,qy5,qy6,ne_eq,qy7] at c12z
 refine W.exit ?_
 have hX23z:=M.e_inr hM hN10z
 subst hX23z
 replace hM:=hk3z
 try dsimp only at hM
 refine kg 4 ?_
 refine W.ret ?_
 have hr_:=M.e_pure hM
 exact ⟨_,resE_tmp rfl,⟨false,hr_,rfl,H⟩⟩

def zaT (b_Olds:List Old10):Nat->M (Nat ⊕ (Unit ⊕ Unit)):=fun i =>
  bif decide ((i:Int)<(b_Olds.length:Int)) then (
  M.grd (decide ((i:Int)<(b_Olds.length:Int))) <|
  bif decide (10<(((b_Olds.getD i default).passed).length:Int)) then (
  M.pure (.inr (.inl ())))
  else (
  M.pure (.inl (i+1))))
  else (
  M.pure (.inr (.inr ())))
def zbb (b_Years:List Yr) (b_First:Int) (b_Last:Int):Nat->M (Nat ⊕ (Int ⊕ Unit)):=fun i2 =>
  bif decide ((i2:Int)<(b_Years.length:Int)) then (
  M.grd (decide ((i2:Int)<(b_Years.length:Int))) <|
  M.bind (zac ((b_Years.getD i2 default).year) b_First b_Last) fun r4 =>
  bif (((r4||(decide (((b_Years.getD i2 default).lo)<0)))||(decide (2000<((b_Years.getD i2 default).hi))))||(decide (((b_Years.getD i2 default).hi)<((b_Years.getD i2 default).lo)))) then (
  M.pure (.inr (.inl 110)))
  else (
  M.grd ((!(decide (0<(i2:Int)))||(decide ((-9223372036854775808:Int)<=((i2:Int)-1))&&decide (((i2:Int)-1)<=(9223372036854775807:Int))))) <|
  M.grd ((!(decide (0<(i2:Int)))||(decide ((0:Int)<=((i2:Int)-1))&&decide (((i2:Int)-1)<(b_Years.length:Int))))) <|
  bif ((decide (0<(i2:Int)))&&(decide (((b_Years.getD i2 default).year)<=((b_Years.getD (Int.toNat ((i2:Int)-1)) default).year)))) then (
  M.pure (.inr (.inl 9)))
  else (
  M.pure (.inl (i2+1)))))
  else (
  M.pure (.inr (.inr ())))
def zaP (b_Olds:List Old10) (b_First:Int) (b_Last:Int):Nat->M (Nat ⊕ (Unit ⊕ Unit)):=fun i3 =>
  bif decide ((i3:Int)<(b_Olds.length:Int)) then (
  M.grd (decide ((i3:Int)<(b_Olds.length:Int))) <|
  M.bind (zac ((b_Olds.getD i3 default).src) b_First b_Last) fun r5 =>
  M.bind (M.opt (!r5) (zac ((b_Olds.getD i3 default).dst) b_First b_Last) false) fun r6 =>
  M.bind (M.opt (!((r5||r6)||(decide (((b_Olds.getD i3 default).dst)<((b_Olds.getD i3 default).src))))) (zac ((b_Olds.getD i3 default).stage) 1 2000) false) fun r7 =>
  M.bind (M.opt (!(((r5||r6)||(decide (((b_Olds.getD i3 default).dst)<((b_Olds.getD i3 default).src))))||r7)) (zc6 ((b_Olds.getD i3 default).passed) ((b_Olds.getD i3 default).src) ((b_Olds.getD i3 default).dst)) false) fun r8 =>
  bif ((((r5||r6)||(decide (((b_Olds.getD i3 default).dst)<((b_Olds.getD i3 default).src))))||r7)||r8) then (
  M.pure (.inr (.inl ())))
  else (
  M.pure (.inl (i3+1))))
  else (
  M.pure (.inr (.inr ())))
def za7 (b_Years:List Yr) (b_Olds:List Old10) (b_First:Int) (b_Last:Int):M Int :=
  M.bind (zac b_First 0 3000) fun r2 =>
  M.bind (M.opt (!r2) (zac b_Last 0 3000) false) fun r3 =>
  M.grd ((!(!((r2||r3)||(decide (b_Last<b_First))))||(decide ((-9223372036854775808:Int)<=(b_Last-b_First))&&decide ((b_Last-b_First)<=(9223372036854775807:Int))))) <|
  bif (((r2||r3)||(decide (b_Last<b_First)))||(decide (999<(b_Last-b_First)))) then (
  M.pure 110)
  else (
  bif ((decide (60<(b_Years.length:Int)))||(decide (8<(b_Olds.length:Int)))) then (
  M.pure 3)
  else (
  M.bind (M.iter (zaT b_Olds) 0) fun x_=>match x_ with
  | (.inl (_:Unit))=>(
  M.pure 3)
  | (.inr (_:Unit))=>(
  M.bind (M.iter (zbb b_Years b_First b_Last) 0) fun x_=>match x_ with
  | (.inl s)=>(
  M.pure s)
  | (.inr (_:Unit))=>(
  M.bind (M.iter (zaP b_Olds b_First b_Last) 0) fun x_=>match x_ with
  | (.inl (_:Unit))=>(
  M.pure 110)
  | (.inr (_:Unit))=>(
  M.pure 0)))))
theorem zdo {R:List Chunk} {C_b_Years:Cells} {v_b_Years:Value} {C_b_Olds:Cells} {v_b_Olds:Value} (b_Years:List Yr) (b_Olds:List Old10) (b_First:Int) (b_Last:Int) (hC_b_Years:Reads R C_b_Years) (hs_b_Years:Sl C_b_Years v_b_Years b_Years) (hC_b_Olds:Reads R C_b_Olds) (hs_b_Olds:Sl C_b_Olds v_b_Olds b_Olds) {r:Int} (hM:(za7 b_Years b_Olds b_First b_Last).Ends r) (w:World) (H:St w w [] R):Ret Tryz.prog 32 #[.agg #[v_b_Years,v_b_Olds,I b_First,I b_Last]] w fun v w'=>∃ (y0:Int),y0=r/\v=I y0/\St w w' [] R:=by
 refine ret_of_W Tryz.func32 rfl rfl rfl ?_
 refine kg 2 ?_
 refine t_box (v:=.agg #[v_b_Years,v_b_Olds,I b_First,I b_Last]) (cs:=[v_b_Years,v_b_Olds,I b_First,I b_Last]) H rfl rfl ?_
 intro b_1 w1z H
 refine kg 7 ?_
 obtain ⟨r3z,hx2z,hM⟩:=M.e_bind hM
 refine s_call cf56 [I b_First,I 0,I 3000] rfl (zae b_First 0 3000 hx2z _ (H.gt 1)) ?_
 rintro vq w4z ⟨r2,hr5z,hvq,H2_⟩
 subst hr5z
 subst vq
 try dsimp only at hM
 replace H:=H.bk H2_
 clear H2_
 refine kg 3 ?_
 obtain ⟨r3,hx6z,hM⟩:=M.e_bind hM
 refine t_gcall (!r2) (gy_f rfl) cf56 (B r3) (fun _=>[I b_Last,I 0,I 3000]) (fun hg=>lst3 (gd_of (c:=!r2) hg (I b_Last)) rfl rfl) H (fun hg=>(zae b_Last 0 3000 (M.e_opt hx6z hg) _ (H.give (A:=[]) rfl)).mono fun v_ w_ ⟨y_,hr_,hv_,H_⟩=>by subst hr_; exact ⟨hv_,H.via H_⟩) ?_
 intro w7z H
 obtain ⟨sd8z,hM⟩:=M.e_grd hM
 replace sd8z:=M.imp_of sd8z
 simp only [Bool.and_eq_true,decide_eq_true_eq] at sd8z
 refine kg 17 ?_
 refine W.cond (((r2||r3)||(decide (b_Last<b_First)))||(decide (999<(b_Last-b_First)))) rfl (fun c9z=>?_) (fun c9z=>?_)
 ·replace hM:=M.e_t hM c9z
  refine kg 4 ?_
  refine W.ret ?_
  have hr_:=M.e_pure hM
  exact ⟨_,resE_tmp rfl,⟨110,hr_,rfl,(H.pk [])⟩⟩
 replace hM:=M.e_f hM c9z
 have hl10z:=(hs_b_Years).len_le
 have hl11z:=(hs_b_Olds).len_le
 refine kg 15 ?_
 refine W.cond ((decide (60<(b_Years.length:Int)))||(decide (8<(b_Olds.length:Int)))) rfl (fun c12z=>?_) (fun c12z=>?_)
 ·replace hM:=M.e_t hM c12z
  refine kg 4 ?_
  refine W.ret ?_
  have hr_:=M.e_pure hM
  exact ⟨_,resE_tmp rfl,⟨3,hr_,rfl,(H.pk [])⟩⟩
 replace hM:=M.e_f hM c12z
 refine kg 7 ?_
 obtain ⟨ex13z,hi14z,hk15z⟩:=M.e_bind hM
 obtain ⟨m0_,hi14z⟩:=M.e_iter hi14z
 refine W.loop (fun m σ W=>∃ (i:Nat) (ρ:Env),σ=upds ρ [(1,Pq b_1),(3,I (i:Int))]/\M.iterN (zaT b_Olds) m i=some ex13z/\St w W [cBlk b_1 [v_b_Years,v_b_Olds,I b_First,I b_Last] 77] R) ?_ ?_
 ·exact ⟨_,0,_,upds_of _ _ ⟨rfl,rfl,trivial⟩,hi14z,H⟩
 rintro m18z σ w16z ⟨i,ρ,rfl,hI17z,H⟩
 obtain ⟨m19z,lt20z,x21z,hM,hN22z⟩:=M.e_iterN hI17z
 simp only [zaT] at hM
 clear hI17z
 have hl23z:=(hs_b_Olds).len_le
 refine kg 9 ?_
 refine W.cond (decide ((i:Int)<(b_Olds.length:Int))) rfl (fun c24z=>?_) (fun c24z=>?_)
 ·replace hM:=M.e_t hM c24z
  simp only [qy1,qy2,qy3,qy4,qy5,qy6,ne_eq,qy7] at c24z
  obtain ⟨sd25z,hM⟩:=M.e_grd hM
  simp only [Bool.and_eq_true,decide_eq_true_eq] at sd25z
  refine kg 10 ?_
  obtain ⟨u26z,ha_u26z,hs27z⟩:=Old10_at3 hs_b_Olds (i:=(i:Int)) (by omega) (by omega)
  replace hs27z:Sl _ u26z (b_Olds.getD i default).passed:=hs27z
  have hl_hs27z:=hs27z.len_le
  refine s_val (x_ld (p:=fat (vat v_b_Olds 4 (Int.toNat (i:Int))) 3) (v:=u26z) rfl (ld_sc Sc22 (At.mono (ha_u26z) (hC_b_Olds.at H)))) ?_
  have hl28z:=(hs27z).len_le
  refine kg 3 ?_
  refine W.cond (decide (10<(((b_Olds.getD i default).passed).length:Int))) rfl (fun c29z=>?_) (fun c29z=>?_)
  ·replace hM:=M.e_t hM c29z
   simp only [qy1,qy2,qy3,qy4,qy5,qy6,ne_eq,qy7] at c29z
   refine kg 4 ?_
   refine W.ret ?_
   have hX30z:=M.e_inr hM hN22z
   subst hX30z
   replace hM:=hk15z
   try dsimp only at hM
   have hr_:=M.e_pure hM
   exact ⟨_,resE_tmp rfl,⟨3,hr_,rfl,(H.pk [])⟩⟩
  replace hM:=M.e_f hM c29z
  simp only [qy1,qy2,qy3,qy4,qy5,qy6,ne_eq,qy7] at c29z
  refine kg 6 ?_
  exact ⟨m19z,lt20z,i+1,_,upds_of _ _ ⟨rfl,rfl,trivial⟩,M.e_inl hM hN22z,H⟩
 replace hM:=M.e_f hM c24z
 simp only [qy1,qy2,qy3,qy4,qy5,qy6,ne_eq,qy7] at c24z
 refine W.exit ?_
 have hX31z:=M.e_inr hM hN22z
 subst hX31z
 replace hM:=hk15z
 try dsimp only at hM
 refine kg 6 ?_
 obtain ⟨ex32z,hi33z,hk34z⟩:=M.e_bind hM
 obtain ⟨m0_,hi33z⟩:=M.e_iter hi33z
 refine W.loop (fun m σ W=>∃ (i2:Nat) (ρ:Env),σ=upds ρ [(1,Pq b_1),(4,I (i2:Int))]/\M.iterN (zbb b_Years b_First b_Last) m i2=some ex32z/\St w W [cBlk b_1 [v_b_Years,v_b_Olds,I b_First,I b_Last] 77] R) ?_ ?_
 ·exact ⟨_,0,_,upds_of _ _ ⟨rfl,rfl,trivial⟩,hi33z,H⟩
 rintro m37z σ w35z ⟨i2,ρ,rfl,hI36z,H⟩
 obtain ⟨m38z,lt39z,x40z,hM,hN41z⟩:=M.e_iterN hI36z
 simp only [zbb] at hM
 clear hI36z
 have hl42z:=(hs_b_Years).len_le
 refine kg 9 ?_
 refine W.cond (decide ((i2:Int)<(b_Years.length:Int))) rfl (fun c43z=>?_) (fun c43z=>?_)
 ·replace hM:=M.e_t hM c43z
  simp only [qy1,qy2,qy3,qy4,qy5,qy6,ne_eq,qy7] at c43z
  obtain ⟨sd44z,hM⟩:=M.e_grd hM
  simp only [Bool.and_eq_true,decide_eq_true_eq] at sd44z
  refine kg 10 ?_
  refine t_alloc (cs:=[I 0,I 0,I 0]) H Al124 rfl ?_
  intro b_2 w45z H
  refine t_sw 0 0 [I ((b_Years.getD i2 default).year),I ((b_Years.getD i2 default).lo),I ((b_Years.getD i2 default).hi)] (.agg #[I ((b_Years.getD i2 default).year),I ((b_Years.getD i2 default).lo),I ((b_Years.getD i2 default).hi)]) H rfl rfl Sz124 rfl rfl rfl rfl ?_
  intro w46z H
  refine kg 10 ?_
  obtain ⟨r48z,hx47z,hM⟩:=M.e_bind hM
  refine s_call cf56 [I ((b_Years.getD i2 default).year),I b_First,I b_Last] rfl (zae ((b_Years.getD i2 default).year) b_First b_Last hx47z _ (H.gt 2)) ?_
  rintro vq w49z ⟨r4,hr50z,hvq,H2_⟩
  subst hr50z
  subst vq
  try dsimp only at hM
  replace H:=H.bk H2_
  clear H2_
  refine kg 22 ?_
  refine W.cond (((r4||(decide (((b_Years.getD i2 default).lo)<0)))||(decide (2000<((b_Years.getD i2 default).hi))))||(decide (((b_Years.getD i2 default).hi)<((b_Years.getD i2 default).lo)))) rfl (fun c51z=>?_) (fun c51z=>?_)
  ·replace hM:=M.e_t hM c51z
   refine kg 4 ?_
   refine W.ret ?_
   have hX52z:=M.e_inr hM hN41z
   subst hX52z
   replace hM:=hk34z
   try dsimp only at hM
   have hr_:=M.e_pure hM
   exact ⟨_,resE_tmp rfl,⟨110,hr_,rfl,(H.pk [])⟩⟩
  replace hM:=M.e_f hM c51z
  refine kg 2 ?_
  refine W.draw (fun W=>St w W [cBlk b_2 [I ((b_Years.getD i2 default).year),I ((b_Years.getD i2 default).lo),I ((b_Years.getD i2 default).hi)] 124,cBlk b_1 [v_b_Years,v_b_Olds,I b_First,I b_Last] 77] R) [(0,true),(1,true),(2,true),(3,true),(4,true),(5,true),(6,true),(7,true),(8,true),(9,true),(10,true),(11,true),(12,true),(13,true)] mixed (by decide +kernel) rfl ?_
  intro w53z hx_
  replace H:=H.ext hx_
  clear hx_
  refine ⟨(H.pk [0,1]),?_⟩
  obtain ⟨sd54z,hM⟩:=M.e_grd hM
  replace sd54z:=M.imp_of sd54z
  simp only [Bool.and_eq_true,decide_eq_true_eq] at sd54z
  obtain ⟨sd55z,hM⟩:=M.e_grd hM
  replace sd55z:=M.imp_of sd55z
  simp only [Bool.and_eq_true,decide_eq_true_eq] at sd55z
  refine kg 15 ?_
  refine W.cond ((decide (0<(i2:Int)))&&(decide (((b_Years.getD i2 default).year)<=((b_Years.getD (Int.toNat ((i2:Int)-1)) default).year)))) rfl (fun c56z=>?_) (fun c56z=>?_)
  ·replace hM:=M.e_t hM c56z
   refine kg 4 ?_
   refine W.ret ?_
   have hX57z:=M.e_inr hM hN41z
   subst hX57z
   replace hM:=hk34z
   try dsimp only at hM
   have hr_:=M.e_pure hM
   exact ⟨_,resE_tmp rfl,⟨9,hr_,rfl,(H.pk [])⟩⟩
  replace hM:=M.e_f hM c56z
  refine kg 6 ?_
  exact ⟨m38z,lt39z,i2+1,_,upds_of _ _ ⟨rfl,rfl,trivial⟩,M.e_inl hM hN41z,(H.pk [1])⟩
 replace hM:=M.e_f hM c43z
 simp only [qy1,qy2,qy3,qy4,qy5,qy6,ne_eq,qy7] at c43z
 refine W.exit ?_
 have hX58z:=M.e_inr hM hN41z
 subst hX58z
 replace hM:=hk34z
 try dsimp only at hM
 refine kg 6 ?_
 obtain ⟨ex59z,hi60z,hk61z⟩:=M.e_bind hM
 obtain ⟨m0_,hi60z⟩:=M.e_iter hi60z
 refine W.loop (fun m σ W=>∃ (i3:Nat) (ρ:Env),σ=upds ρ [(1,Pq b_1),(6,I (i3:Int))]/\M.iterN (zaP b_Olds b_First b_Last) m i3=some ex59z/\St w W [cBlk b_1 [v_b_Years,v_b_Olds,I b_First,I b_Last] 77] R) ?_ ?_
 ·exact ⟨_,0,_,upds_of _ _ ⟨rfl,rfl,trivial⟩,hi60z,H⟩
 rintro m64z σ w62z ⟨i3,ρ,rfl,hI63z,H⟩
 obtain ⟨m65z,lt66z,x67z,hM,hN68z⟩:=M.e_iterN hI63z
 simp only [zaP] at hM
 clear hI63z
 have hl69z:=(hs_b_Olds).len_le
 refine kg 9 ?_
 refine W.cond (decide ((i3:Int)<(b_Olds.length:Int))) rfl (fun c70z=>?_) (fun c70z=>?_)
 ·replace hM:=M.e_t hM c70z
  simp only [qy1,qy2,qy3,qy4,qy5,qy6,ne_eq,qy7] at c70z
  obtain ⟨sd71z,hM⟩:=M.e_grd hM
  simp only [Bool.and_eq_true,decide_eq_true_eq] at sd71z
  refine kg 9 ?_
  obtain ⟨u72z,ha74z,hs73z⟩:=Old10_atA hs_b_Olds (i:=(i3:Int)) (by omega) (by omega)
  replace hs73z:Sl _ u72z (b_Olds.getD i3 default).passed:=hs73z
  have hl_hs73z:=hs73z.len_le
  refine s_val (x_ld (p:=vat v_b_Olds 4 (Int.toNat (i3:Int))) (v:=.agg #[I ((b_Olds.getD i3 default).src),I ((b_Olds.getD i3 default).dst),I ((b_Olds.getD i3 default).stage),u72z]) rfl (ld_ag Ag125 Sz125 (At.mono ha74z (hC_b_Olds.at H)))) ?_
  refine t_alloc (cs:=[I 0,I 0,I 0,.slice none 0 0]) H Al125 rfl ?_
  intro b_3 w75z H
  refine t_sw 0 0 [I ((b_Olds.getD i3 default).src),I ((b_Olds.getD i3 default).dst),I ((b_Olds.getD i3 default).stage),u72z] (.agg #[I ((b_Olds.getD i3 default).src),I ((b_Olds.getD i3 default).dst),I ((b_Olds.getD i3 default).stage),u72z]) H rfl rfl Sz125 rfl rfl rfl (by simp only [List.all_cons,List.all_nil,Bool.true_and,Bool.and_true,Sl.oc hs73z]; try rfl) ?_
  intro w76z H
  refine kg 9 ?_
  obtain ⟨r78z,hx77z,hM⟩:=M.e_bind hM
  refine s_call cf56 [I ((b_Olds.getD i3 default).src),I b_First,I b_Last] rfl (zae ((b_Olds.getD i3 default).src) b_First b_Last hx77z _ (H.gt 2)) ?_
  rintro vq w79z ⟨r5,hr80z,hvq,H2_⟩
  subst hr80z
  subst vq
  try dsimp only at hM
  replace H:=H.bk H2_
  clear H2_
  refine kg 7 ?_
  obtain ⟨r6,hx81z,hM⟩:=M.e_bind hM
  refine t_gcall (!r5) (gy_f rfl) cf56 (B r6) (fun _=>[I ((b_Olds.getD i3 default).dst),I b_First,I b_Last]) (fun hg=>lst3 (gd_of (c:=!r5) hg (I ((b_Olds.getD i3 default).dst))) (gd_of (c:=!r5) hg (I b_First)) (gd_of (c:=!r5) hg (I b_Last))) H (fun hg=>(zae ((b_Olds.getD i3 default).dst) b_First b_Last (M.e_opt hx81z hg) _ (H.give (A:=[]) rfl)).mono fun v_ w_ ⟨y_,hr_,hv_,H_⟩=>by subst hr_; exact ⟨hv_,H.via H_⟩) ?_
  intro w82z H
  refine kg 11 ?_
  obtain ⟨r7,hx83z,hM⟩:=M.e_bind hM
  refine t_gcall (!((r5||r6)||(decide (((b_Olds.getD i3 default).dst)<((b_Olds.getD i3 default).src))))) (gy_f rfl) cf56 (B r7) (fun _=>[I ((b_Olds.getD i3 default).stage),I 1,I 2000]) (fun hg=>lst3 (gd_of (c:=!((r5||r6)||(decide (((b_Olds.getD i3 default).dst)<((b_Olds.getD i3 default).src))))) hg (I ((b_Olds.getD i3 default).stage))) rfl rfl) H (fun hg=>(zae ((b_Olds.getD i3 default).stage) 1 2000 (M.e_opt hx83z hg) _ (H.give (A:=[]) rfl)).mono fun v_ w_ ⟨y_,hr_,hv_,H_⟩=>by subst hr_; exact ⟨hv_,H.via H_⟩) ?_
  intro w84z H
  refine kg 8 ?_
  obtain ⟨r8,hx85z,hM⟩:=M.e_bind hM
  refine t_gcall (!(((r5||r6)||(decide (((b_Olds.getD i3 default).dst)<((b_Olds.getD i3 default).src))))||r7)) (gy_f rfl) cf71 (B r8) (fun _=>[u72z,I ((b_Olds.getD i3 default).src),I ((b_Olds.getD i3 default).dst)]) (fun hg=>lst3 (gd_of (c:=!(((r5||r6)||(decide (((b_Olds.getD i3 default).dst)<((b_Olds.getD i3 default).src))))||r7)) hg (u72z)) (gd_of (c:=!(((r5||r6)||(decide (((b_Olds.getD i3 default).dst)<((b_Olds.getD i3 default).src))))||r7)) hg (I ((b_Olds.getD i3 default).src))) (gd_of (c:=!(((r5||r6)||(decide (((b_Olds.getD i3 default).dst)<((b_Olds.getD i3 default).src))))||r7)) hg (I ((b_Olds.getD i3 default).dst)))) H (fun hg=>(zd4 ((b_Olds.getD i3 default).passed) ((b_Olds.getD i3 default).src) ((b_Olds.getD i3 default).dst) (hC_b_Olds.app _) hs73z (M.e_opt hx85z hg) _ (H.give (A:=[]) rfl)).mono fun v_ w_ ⟨y_,hr_,hv_,H_⟩=>by subst hr_; exact ⟨hv_,H.via H_⟩) ?_
  intro w86z H
  refine kg 2 ?_
  refine W.cond ((((r5||r6)||(decide (((b_Olds.getD i3 default).dst)<((b_Olds.getD i3 default).src))))||r7)||r8) rfl (fun c87z=>?_) (fun c87z=>?_)
  ·replace hM:=M.e_t hM c87z
   refine kg 4 ?_
   refine W.ret ?_
   have hX88z:=M.e_inr hM hN68z
   subst hX88z
   replace hM:=hk61z
   try dsimp only at hM
   have hr_:=M.e_pure hM
   exact ⟨_,resE_tmp rfl,⟨110,hr_,rfl,(H.pk [])⟩⟩
  replace hM:=M.e_f hM c87z
  refine kg 6 ?_
  exact ⟨m65z,lt66z,i3+1,_,upds_of _ _ ⟨rfl,rfl,trivial⟩,M.e_inl hM hN68z,(H.pk [1])⟩
 replace hM:=M.e_f hM c70z
 simp only [qy1,qy2,qy3,qy4,qy5,qy6,ne_eq,qy7] at c70z
 refine W.exit ?_
 have hX89z:=M.e_inr hM hN68z
 subst hX89z
 replace hM:=hk61z
 try dsimp only at hM
 refine kg 4 ?_
 refine W.ret ?_
 have hr_:=M.e_pure hM
 exact ⟨_,resE_tmp rfl,⟨0,hr_,rfl,(H.pk [])⟩⟩

def zcH (n:Int):M Bool :=
  M.bind (zab n 0 2000) fun r2 =>
  M.pure r2
theorem zdR {R:List Chunk}  (n:Int)  {r:Bool} (hM:(zcH n).Ends r) (w:World) (H:St w w [] R):Ret Tryz.prog 73 #[I n] w fun v w'=>∃ (y0:Bool),y0=r/\v=B y0/\St w w' [] R:=by
 refine ret_of_W Tryz.func73 rfl rfl rfl ?_
 refine kg 7 ?_
 obtain ⟨r2z,hx1z,hM⟩:=M.e_bind hM
 refine s_call cf45 [I n,I 0,I 2000] rfl (zad n 0 2000 hx1z _ (H.gt 0)) ?_
 rintro vq w3z ⟨r2,hr4z,hvq,H2_⟩
 subst hr4z
 subst vq
 try dsimp only at hM
 replace H:=H.bk H2_
 clear H2_
 refine kg 2 ?_
 refine W.ret ?_
 have hr_:=M.e_pure hM
 exact ⟨_,resE_tmp rfl,⟨r2,hr_,rfl,H⟩⟩

end Go.Proofs.YtejefipopolccaaGreat
end
