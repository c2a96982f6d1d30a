/- Part 3 of the texts on which the proof rests. Conditions: none. -/
import Derived.Test.YtkclldpnmolljaaGreatZA2
set_option linter.unusedVariables false
set_option linter.unusedSimpArgs false
set_option linter.unusedSectionVars false
section
set_option maxRecDepth 100000
set_option maxHeartbeats 16000000
namespace Go.Proofs.YtkclldpnmolljaaGreat
open Go Go.Nm
attribute [local irreducible] gd execOp SL SLD SLT WR
def zb0 (w_:List Work):((List Int) × Nat)->M (((List Int) × Nat) ⊕ ((List Int) × (List Int))):=fun (l,s) =>
  bif decide ((s:Int)<((List.replicate (w_.length) (0:Int)).length:Int)) then (
  M.grd (decide ((s:Int)<(l.length:Int))) <|
  M.grd (decide ((-9223372036854775808:Int)<=((s:Int)+1))&&decide (((s:Int)+1)<=(9223372036854775807:Int))) <|
  M.pure (.inl (l.set s (s:Int),s+1)))
  else (
  M.pure (.inr (l,l)))
def zeb (w_:List Work) (revised:List Int) (work aa:Int) (ab:Gate->Option Int) (ac:Int->Option Bool) (l3:List Int):((List Int) × Int)->M (((List Int) × Int) ⊕ ((List Int) × (List Int))):=fun (l4,s2) =>
  bif s2 != work then (
  M.grd (decide ((l4.length+([(s2:Int)]).length)*8<=140737488355328)) <|
  M.bind (zaR l3 (fun ae=>zcJ ae w_ revised aa ab ac s2)) fun r4 =>
  M.pure (.inl (l4++([(s2:Int)]),r4)))
  else (
  M.pure (.inr (l4,l4)))
def zd8 (w_:List Work) (revised:List Int) (work ab:Int) (ac:Gate->Option Int) (ae:Int->Option Bool) (l3:List Int) (s4:Nat):(Nat × (List (List Int)))->M ((Nat × (List (List Int))) ⊕ ((List (List Int)) × (List (List Int)))):=fun (s3,aa) =>
  bif decide ((s3:Int)<(l3.length:Int)) then (
  M.grd (decide ((s3:Int)<(l3.length:Int))) <|
  M.bind (zbi w_ revised ab ac ae (l3.getD s3 0)) fun r2 =>
  M.bind (M.opt (!(!r2)) (zdd (revised.getD s4 0) (l3.getD s3 0) w_ revised ab ac ae) false) fun r3 =>
  bif ((!r2)||(!r3)) then (
  M.grd (decide ((-9223372036854775808:Int)<=((s3:Int)+1))&&decide (((s3:Int)+1)<=(9223372036854775807:Int))) <|
  M.pure (.inl (s3+1,aa)))
  else (
  M.bind (M.iter (zeb w_ revised work ab ac ae l3) ([(revised.getD s4 0:Int)],l3.getD s3 0)) fun (l5,l6) =>
  M.grd (decide ((l6.length+([(work:Int)]).length)*8<=140737488355328)) <|
  M.grd (decide ((aa.length+([l6++([(work:Int)])]).length)*24<=140737488355328)) <|
  M.grd (decide ((-9223372036854775808:Int)<=((s3:Int)+1))&&decide (((s3:Int)+1)<=(9223372036854775807:Int))) <|
  M.pure (.inl (s3+1,aa++([l6++([(work:Int)])])))))
  else (
  M.pure (.inr (aa,aa)))
def zel (w_:List Work) (revised:List Int) (work ab:Int) (ac:Gate->Option Int) (ae:Int->Option Bool) (l3:List Int):(Nat × (List (List Int)))->M ((Nat × (List (List Int))) ⊕ ((List (List Int)) × (List (List Int)))):=fun (s4,aa) =>
  bif decide ((s4:Int)<(revised.length:Int)) then (
  M.grd (decide ((s4:Int)<(revised.length:Int))) <|
  M.bind (M.iter (zd8 w_ revised work ab ac ae l3 s4) (0,aa)) fun (l8,ag) =>
  M.grd (decide ((-9223372036854775808:Int)<=((s4:Int)+1))&&decide (((s4:Int)+1)<=(9223372036854775807:Int))) <|
  M.pure (.inl (s4+1,ag)))
  else (
  M.pure (.inr (aa,aa)))
def zcS (w_:List Work) (revised:List Int) (work:Int):M ((List (List Int)) × Int) :=
  M.bind (zdk w_ revised work) fun x_=>match x_ with
  | (.inl r1)=>(
  bif r1 != 0 then (
  M.pure (([]),r1))
  else (
  M.fail))
  | (.inr (aa,ab,ac,ae))=>(
  bif ae != 0 then (
  M.fail)
  else (
  M.grd (decide ((0:Int)<=(w_.length:Int))&&decide ((8:Int)*(w_.length:Int)<=281474976710656)&&decide ((w_.length:Int)<=(9223372036854775807:Int))) <|
  M.bind (M.iter (zb0 w_) (List.replicate (w_.length) (0:Int),0)) fun (l2,l3) =>
  M.bind (M.iter (zel w_ revised work aa ab ac l3) (0,[])) fun (ah,ag) =>
  M.pure (ag,0)))
theorem zfl {R:List Chunk} {aZ:Cells} {aq:Value} {a0:Cells} {ae:Value} (w_:List Work) (revised:List Int) (work:Int) (aM:Reads R aZ) (aD:Sl aZ aq w_) (aN:Reads R a0) (aE:Sl a0 ae revised) {r:((List (List Int)) × Int)} (hM:(zcS w_ revised work).Ends r) (w:World) (H:St w w [] R):Ret Tryz.prog 49 #[aq,ae,I work] w fun v w'=>∃ (y0:List (List Int)) (y1:Int) (u0:Value) (rr1:List (Raw 0)) (a4:Base),(y0,y1)=r/\v = .tuple #[u0,I y1]/\St w w' [cOwn (α:=Raw 0) 22 u0 rr1,cRo a4] R/\RepR (α:=List Int) a4.cells rr1 y0:=by
 refine ret_of_W Tryz.func49 rfl rfl rfl ?_;refine kg 10 ?_;obtain ⟨cj,bn,hM⟩:=M.e_bind hM;refine s_call cf99 [aq,ae,I work] rfl (zfg w_ revised work (aM.app _) aD (aN.app _) aE bn _ (H.gt 0)) ?_
 rintro vq ck (⟨r1,bo,hvq,ak⟩ | ⟨ag,ah,ai,bp,ac,al,am,ao,br,hvq,ak⟩)
 ·subst bo;subst vq;(try dsimp only at hM);replace H:=H.bk ak;clear ak;refine kg 3 ?_;refine t_alloc (cs:=[.pointer none]) H Al136 rfl ?_;intro aa cl H;refine t_sw 0 0 [.pointer none] (.pointer none) H rfl rfl Sz136 rfl rfl rfl rfl ?_;intro cm H;refine kg 8 ?_
  refine W.cond (r1 != 0) rfl (fun aF=>?_) (fun aF=>?_)
  ·replace hM:=M.e_t hM aF
   replace aF:=dI aF
   refine kg 6 ?_;refine W.ret ?_
   have aG:=M.e_pure hM
   obtain ⟨a5,H⟩:=H.emptyE
   replace H:=H.nilOwn (α:=Raw 0) 22
   have bt:RepR (α:=List Int) (n:=0) a5.cells [] []:=.nil
   exact ⟨_,resE_tmp2 rfl,⟨([]),r1,(.slice none 0 0),[],a5,aG,rfl,(H.pk [0,1]),bt⟩⟩
  replace hM:=M.e_f hM aF
  exact (M.e_fail hM).elim
 subst br;subst vq;(try dsimp only at hM);replace H:=H.bk ak;clear ak;refine kg 3 ?_;refine t_alloc (cs:=[.pointer none]) H Al136 rfl ?_;intro aa cn H;refine t_sw 0 0 [Pq ac] (Pq ac) H rfl rfl Sz136 rfl rfl rfl rfl ?_;intro co H;refine kg 8 ?_
 refine W.cond (bp != 0) rfl (fun aH=>?_) (fun aH=>?_)
 ·replace hM:=M.e_t hM aH
  exact (M.e_fail hM).elim
 replace hM:=M.e_f hM aH
 replace aH:=dI aH
 refine kg 3 ?_;refine s_val (x_mf (fs:=[]) (cs:=[Pq aa]) rfl rfl) ?_;refine t_alloc (cs:=[.nilFunc]) H Al145 rfl ?_;intro aj cp H;refine t_sw 0 0 [.func (.func 102) #[] #[Pq aa]] (.func (.func 102) #[] #[Pq aa]) H rfl rfl Sz145 rfl rfl rfl rfl ?_;intro cq H
 have cr:=(aD).len_le
 obtain ⟨ct,hM⟩:=M.e_gd hM;refine kg 5 ?_;refine t_mk (α:=Int) T22 (0:Int) rfl (n:=(w_.length:Int)) H rfl rfl (by omega) (by omega) (by omega) ?_;intro bu cu H;replace H:=H.nf
 have cv:=((H.os 0)).len_le
 refine kg 10 ?_;obtain ⟨bv,aP,bw⟩:=M.e_bind hM
 obtain ⟨aQ,aP⟩:=M.e_iter aP
 refine W.loop (fun m σ W=>∃ (l:List Int) (s:Nat) (ab:Value) (ρ:Env),σ=upds ρ [(1,ae),(2,I work),(8,Pq aa),(10,Pq aj),(11,ab),(35,I ((List.replicate (w_.length) (0:Int)).length:Int)),(36,I (s:Int))]/\M.iterN (zb0 w_) m (l,s)=some bv/\St w W [cOwn (α:=Int) 3 ab l,cBlk aj [.func (.func 102) #[] #[Pq aa]] 145,cBlk aa [Pq ac] 136,cBlk ac [Pq al,ae,I ag,.map (some am),.map (some ao)] 142,cBlk al [aq] 97,cMap encG I am ah,cMap I B ao ai] R) ?_ ?_
 ·exact ⟨_,List.replicate (w_.length) (0:Int),0,bu,_,upds_of _ _ ⟨rfl,rfl,rfl,rfl,rfl,rfl,rfl,trivial⟩,aP,H⟩
 rintro cw σ cx ⟨l,s,ab,ρ,rfl,a6,H⟩
 obtain ⟨bx,bz,cy,hM,a7⟩:=M.e_iterN a6
 simp only [zb0] at hM
 clear a6;refine kg 5 ?_
 refine W.cond (decide ((s:Int)<((List.replicate (w_.length) (0:Int)).length:Int))) rfl (fun au=>?_) (fun au=>?_)
 ·replace hM:=M.e_t hM au
  replace au:=dI au
  obtain ⟨cz,hM⟩:=M.e_gd hM;refine kg 13 ?_;refine t_ost (k:=0) (i:=(s:Int)) (l:=l) (l':=l.set s (s:Int)) (val:=I (s:Int)) (L':=[cOwn (α:=Int) 3 ab (l.set s (s:Int)),cBlk aj [.func (.func 102) #[] #[Pq aa]] 145,cBlk aa [Pq ac] 136,cBlk ac [Pq al,ae,I ag,.map (some am),.map (some ao)] 142,cBlk al [aq] 97,cMap encG I am ah,cMap I B ao ai]) H rfl Sz3 (by omega) (by omega) (s:Int) rfl rfl rfl rfl rfl ?_;intro cA H;obtain ⟨cB,hM⟩:=M.e_gd hM;refine kg 5 ?_
  exact ⟨bx,bz,l.set s (s:Int),s+1,ab,_,upds_of _ _ ⟨rfl,rfl,rfl,rfl,rfl,rfl,rfl,trivial⟩,M.e_inl hM a7,H⟩
 replace hM:=M.e_f hM au
 replace au:=dI au
 refine W.exit ?_
 have bA:=M.e_inr hM a7
 subst bA;replace hM:=bw;(try dsimp only at hM)
 have cC:=(aE).len_le
 refine kg 12 ?_
 obtain ⟨a8,H⟩:=H.emptyE
 replace H:=H.nilOwn (α:=Raw 0) 22
 have bB:RepR (α:=List Int) (n:=0) a8.cells [] []:=.nil
 obtain ⟨bC,aR,bD⟩:=M.e_bind hM
 obtain ⟨aQ,aR⟩:=M.e_iter aR
 refine W.loop (fun m σ W=>∃ (s4:Nat) (aI:List (List Int)) (aJ:Value) (aK:List (Raw 0)) (B_l12:Base) (ρ:Env),σ=upds ρ [(2,I work),(8,Pq aa),(10,Pq aj),(11,ab),(13,aJ),(44,ae),(45,I (revised.length:Int)),(46,I (s4:Int))]/\M.iterN (zel w_ revised work ag ah ai l) m (s4,aI)=some bC/\St w W [cOwn (α:=Raw 0) 22 aJ aK,cRo B_l12,cOwn (α:=Int) 3 ab l,cBlk aj [.func (.func 102) #[] #[Pq aa]] 145,cBlk aa [Pq ac] 136,cBlk ac [Pq al,ae,I ag,.map (some am),.map (some ao)] 142,cBlk al [aq] 97,cMap encG I am ah,cMap I B ao ai] R/\RepR (α:=List Int) B_l12.cells aK aI) ?_ ?_
 ·exact ⟨_,0,[],(.slice none 0 0),[],a8,_,upds_of _ _ ⟨rfl,rfl,rfl,rfl,rfl,rfl,rfl,rfl,trivial⟩,aR,H,bB⟩
 rintro cD σ cE ⟨s4,aI,aJ,aK,B_l12,ρ,rfl,a9,H,ba⟩
 obtain ⟨bE,bF,cF,hM,bb⟩:=M.e_iterN a9
 simp only [zel] at hM
 clear a9;refine kg 5 ?_
 refine W.cond (decide ((s4:Int)<(revised.length:Int))) rfl (fun av=>?_) (fun av=>?_)
 ·replace hM:=M.e_t hM av
  replace av:=dI av
  obtain ⟨cG,hM⟩:=M.e_gd hM
  have cH:=((H.os 2)).len_le
  refine kg 16 ?_;obtain ⟨bG,aS,bH⟩:=M.e_bind hM
  obtain ⟨aQ,aS⟩:=M.e_iter aS
  refine W.loop (fun m σ W=>∃ (s3:Nat) (aA:List (List Int)) (aw:Value) (ap:List (Raw 0)) (B_l10:Base) (ρ:Env),σ=upds ρ [(2,I work),(8,Pq aa),(10,Pq aj),(11,ab),(13,aw),(15,I (revised.getD s4 0)),(44,ae),(45,I (revised.length:Int)),(46,I (s4:Int)),(50,ab),(51,I (l.length:Int)),(52,I (s3:Int))]/\M.iterN (zd8 w_ revised work ag ah ai l s4) m (s3,aA)=some bG/\St w W [cOwn (α:=Raw 0) 22 aw ap,cRo B_l10,cOwn (α:=Int) 3 ab l,cBlk aj [.func (.func 102) #[] #[Pq aa]] 145,cBlk aa [Pq ac] 136,cBlk ac [Pq al,ae,I ag,.map (some am),.map (some ao)] 142,cBlk al [aq] 97,cMap encG I am ah,cMap I B ao ai] R/\RepR (α:=List Int) B_l10.cells ap aA) ?_ ?_
  ·exact ⟨_,0,aI,aJ,aK,B_l12,_,upds_of _ _ ⟨rfl,rfl,rfl,rfl,rfl,rfl,rfl,rfl,rfl,rfl,rfl,rfl,trivial⟩,aS,H,ba⟩
  rintro cI σ cJ ⟨s3,aA,aw,ap,B_l10,ρ,rfl,bc,H,aB⟩
  obtain ⟨bf,bg,cK,hM,aT⟩:=M.e_iterN bc
  simp only [zd8] at hM
  clear bc;refine kg 5 ?_
  refine W.cond (decide ((s3:Int)<(l.length:Int))) rfl (fun ax=>?_) (fun ax=>?_)
  ·replace hM:=M.e_t hM ax
   replace ax:=dI ax
   obtain ⟨cL,hM⟩:=M.e_gd hM;refine kg 14 ?_;obtain ⟨cM,bI,hM⟩:=M.e_bind hM;refine s_call cf101 [Pq ac,I (l.getD s3 0)] rfl (zbR w_ revised ag ah ai (l.getD s3 0) (aM.app _) aD (Has.here (k:=6) rfl) (aN.app _) aE (Has.here (k:=7) rfl) (Has.here (k:=8) rfl) (Has.here (k:=5) rfl) bI _ (H.gt 9)) ?_
   rintro vq cN ⟨r2,rfl,hvq,ak⟩
   subst vq;(try dsimp only at hM);replace H:=H.bk ak;clear ak;refine kg 5 ?_;obtain ⟨r3,bJ,hM⟩:=M.e_bind hM;refine t_gcallv (cap:=[Pq aa]) (!(!r2)) (gy_f rfl) cf102 (fun hg=>(gd_of hg (.func (.func 102) #[] #[Pq aa]))) (B r3) (fun _=>[I (revised.getD s4 0),I (l.getD s3 0)]) (fun hg=>lst2 (gd_of hg (I (revised.getD s4 0))) (gd_of hg (I (l.getD s3 0)))) H (fun hg=>(zet (revised.getD s4 0) (l.getD s3 0) w_ revised ag ah ai (aM.app _) aD (Has.here (k:=6) rfl) (aN.app _) aE (Has.here (k:=7) rfl) (Has.here (k:=8) rfl) (Has.here (k:=5) rfl) (Has.here (k:=4) rfl) (M.e_opt bJ hg) _ (H.give (A:=[]) rfl)).mono fun v_ w_ ⟨y_,aG,bK,H_⟩=>by subst aG; exact ⟨bK,H.via H_⟩) ?_;intro cO H;refine kg 1 ?_;refine s_val (x_por (b:=!r2) (r:=!r3) rfl rfl (fun hb=>gd_of (c:=!(!r2)) (by first | exact hb | (rw [hb]; rfl) | simp_all) (B (!r3))))<|s_nil ?_
   refine W.cond ((!r2)||(!r3)) rfl (fun aU=>?_) (fun aU=>?_)
   ·replace hM:=M.e_t hM aU;refine W.exit ?_;obtain ⟨cP,hM⟩:=M.e_gd hM;refine kg 4 ?_
    exact ⟨bf,bg,s3+1,aA,aw,ap,B_l10,_,upds_of _ _ ⟨rfl,rfl,rfl,rfl,rfl,rfl,rfl,rfl,rfl,rfl,rfl,rfl,trivial⟩,M.e_inl hM aT,H,aB⟩
   replace hM:=M.e_f hM aU;refine kg 4 ?_;refine t_bs (α:=Int) T22 [I (revised.getD s4 0)] [(revised.getD s4 0:Int)] H rfl (.cons rfl (Flat.rep_enc _ (revised.getD s4 0:Int))<|.nil) rfl rfl rfl ?_;intro bL cQ H;refine kg 6 ?_;refine t_alloc (cs:=[I 0]) H Al3 rfl ?_;intro bM cR H;refine t_sw 0 0 [I (l.getD s3 0)] (I (l.getD s3 0)) H rfl rfl Sz3 rfl rfl rfl rfl ?_;intro cS H;refine kg 2 ?_;obtain ⟨bN,aV,bO⟩:=M.e_bind hM
   obtain ⟨aQ,aV⟩:=M.e_iter aV
   refine W.loop (fun m σ W=>∃ (aC:Nat) (l4:List Int) (s2:Int) (aW:Value) (ρ:Env),σ=upds ρ [(2,I work),(8,Pq aa),(10,Pq aj),(11,ab),(13,aw),(15,I (revised.getD s4 0)),(18,aW),(19,Pq aC),(44,ae),(45,I (revised.length:Int)),(46,I (s4:Int)),(50,ab),(51,I (l.length:Int)),(52,I (s3:Int)),(61,gd (!(!r2)) (.func (.func 102) #[] #[Pq aa])),(62,gd (!(!r2)) (I (revised.getD s4 0))),(63,gd (!(!r2)) (I (l.getD s3 0))),(64,gd (!(!r2)) (B r3)),(65,gd (!(!r2)) (B (!r3)))]/\M.iterN (zeb w_ revised work ag ah ai l) m (l4,s2)=some bN/\St w W [cBlk aC [I s2] 3,cOwn (α:=Int) 3 aW l4,cOwn (α:=Raw 0) 22 aw ap,cRo B_l10,cOwn (α:=Int) 3 ab l,cBlk aj [.func (.func 102) #[] #[Pq aa]] 145,cBlk aa [Pq ac] 136,cBlk ac [Pq al,ae,I ag,.map (some am),.map (some ao)] 142,cBlk al [aq] 97,cMap encG I am ah,cMap I B ao ai] R) ?_ ?_
   ·exact ⟨_,bM,[(revised.getD s4 0:Int)],l.getD s3 0,bL,_,upds_of _ _ ⟨rfl,rfl,rfl,rfl,rfl,rfl,rfl,rfl,rfl,rfl,rfl,rfl,rfl,rfl,rfl,rfl,rfl,rfl,rfl,trivial⟩,aV,H⟩
   rintro cT σ cU ⟨aC,l4,s2,aW,ρ,rfl,bh,H⟩
   obtain ⟨bP,bQ,cV,hM,bi⟩:=M.e_iterN bh
   simp only [zeb] at hM
   clear bh;refine kg 7 ?_
   refine W.cond (s2 != work) rfl (fun ay=>?_) (fun ay=>?_)
   ·replace hM:=M.e_t hM ay
    replace ay:=dI ay
    refine kg 7 ?_;refine t_bs (α:=Int) T22 [I s2] [(s2:Int)] H rfl (.cons rfl (Flat.rep_enc _ (s2:Int))<|.nil) rfl rfl rfl ?_;intro bR cW H;obtain ⟨cX,hM⟩:=M.e_gd hM;refine t_app (α:=Int) (k:=2) (l:=l4) (l2:=[(s2:Int)]) (l':=l4++([(s2:Int)])) (vy:=bR) T22 rfl H rfl rfl rfl (H.os 0) (H.ol 0) (rfl) (by first | omega | (simp only [List.length_nil] at *; omega)) ?_;intro bS cY H;replace H:=H.nf;refine kg 4 ?_;refine s_val (x_mf (fs:=[]) (cs:=[Pq aj,Pq aC]) rfl rfl) ?_;obtain ⟨cZ,bT,hM⟩:=M.e_bind hM;refine s_call cf60 [ab,.func (.func 103) #[] #[Pq aj,Pq aC]] rfl (zbo l (fun aX=>zcJ aX w_ revised ag ah ai s2) (rdo 5) (H.os 5) ⟨103,[Pq aj,Pq aC],rfl,cf103,fun bj c0 c3 bU aX c4 bV c6 bW bX=>by obtain rfl:=Arg.int bW; exact (zf2 aX w_ revised ag ah ai s2 (Reads.app (aM.app _) _) aD (Has.app (Has.here (k:=9) rfl) _) (Reads.app (aN.app _) _) aE (Has.app (Has.here (k:=10) rfl) _) (Has.app (Has.here (k:=11) rfl) _) (Has.app (Has.here (k:=8) rfl) _) (Has.app (Has.here (k:=7) rfl) _) (Has.app (Has.here (k:=6) rfl) _) (Has.app (Has.here (k:=1) rfl) _) bX bj (St.refl bV)).mono fun bU bj ⟨c7,bY,bZ,b0⟩=>by subst bY; exact ⟨bZ,b0⟩⟩ bT _ (H.gt 12)) ?_
    rintro vq c8 ⟨r4,rfl,hvq,ak⟩
    subst vq;(try dsimp only at hM);replace H:=H.bk ak;clear ak;refine t_sw 1 0 [I r4] (I r4) H rfl rfl Sz3 rfl rfl rfl rfl ?_;intro c9 H;refine kg 6 ?_;refine t_alloc (cs:=[I 0]) H Al3 rfl ?_;intro b4 da H;refine t_sw 0 0 [I r4] (I r4) H rfl rfl Sz3 rfl rfl rfl rfl ?_;intro db H;refine s_nil ?_
    exact ⟨bP,bQ,b4,l4++([(s2:Int)]),r4,bS,_,upds_of _ _ ⟨rfl,rfl,rfl,rfl,rfl,rfl,rfl,rfl,rfl,rfl,rfl,rfl,rfl,rfl,rfl,rfl,rfl,rfl,rfl,trivial⟩,M.e_inl hM bi,(H.pk [0,3,4,5,6,7,8,9,10,11,12])⟩
   replace hM:=M.e_f hM ay
   replace ay:=dI ay
   refine W.exit ?_
   have b5:=M.e_inr hM bi
   subst b5;replace hM:=bO;(try dsimp only at hM);refine kg 4 ?_;refine t_bs (α:=Int) T22 [I work] [(work:Int)] H rfl (.cons rfl (Flat.rep_enc _ (work:Int))<|.nil) rfl rfl rfl ?_;intro b6 dc H;obtain ⟨dd,hM⟩:=M.e_gd hM;refine t_app (α:=Int) (k:=2) (l:=l4) (l2:=[(work:Int)]) (l':=l4++([(work:Int)])) (vy:=b6) T22 rfl H rfl rfl rfl (H.os 0) (H.ol 0) (rfl) (by first | omega | (simp only [List.length_nil] at *; omega)) ?_;intro aY dg H;replace H:=H.nf
   obtain ⟨dh,H⟩:=H.emptyE
   obtain ⟨di,H,b7⟩:=H.freezeE (k:=3) rfl
   replace H:=H.nf
   have aL:=b7
   obtain ⟨b8,H,dj,b9⟩:=H.joinE (i:=0) (j:=3) rfl rfl
   replace aL:=aL.mono b9
   obtain ⟨az,bm⟩:∃ r:Raw 0,r.cs=[aY]:=⟨Raw.of [aY] rfl (by simp only [List.all_cons,List.all_nil,Bool.true_and,Bool.and_true,Sl.oc aL]; try rfl),rfl⟩
   have ca:RepR (α:=List Int) b8.cells [az] [l4++([(work:Int)])]:=.cons (by rw [bm]; exact ⟨_,rfl,aL⟩)<|.nil
   refine t_bs (α:=Raw 0) T31 [aY] [az] H rfl (.cons (by rw [show (Flat.enc az:List Value)=az.cs from rfl,bm]; exact Sl.cells aL) (Flat.rep_enc _ _)<|.nil) rfl rfl rfl ?_;intro cb dk H;replace H:=H.nf;obtain ⟨dl,hM⟩:=M.e_gd hM
   have aO:=ca
   obtain ⟨cc,H,cd,ce⟩:=H.joinE (i:=7) (j:=1) rfl rfl
   replace aB:=aB.mono cd
   replace aO:=aO.mono ce
   have cf:=aB.app aO
   refine t_app (α:=Raw 0) (k:=7) (l:=ap) (l2:=[az]) (l':=ap++([az])) (vy:=cb) T31 rfl H rfl rfl rfl (H.os 1) (H.ol 1) (rfl) (by have a_:=aB.len; have b_:=aO.len; (try simp only [List.length_nil] at *); first | omega | (rw [a_,b_]; omega)) ?_;intro cg dm H;replace H:=H.nf;refine kg 2 ?_;replace H:=H.pk [0,7,8,9,10,11,12,13,14,15];obtain ⟨dp,hM⟩:=M.e_gd hM;refine kg 4 ?_
   exact ⟨bf,bg,s3+1,aA++([l4++([(work:Int)])]),cg,ap++([az]),cc,_,upds_of _ _ ⟨rfl,rfl,rfl,rfl,rfl,rfl,rfl,rfl,rfl,rfl,rfl,rfl,trivial⟩,M.e_inl hM aT,(H.pk [1,0,3,4,5,6,7,8,9]),cf⟩
  replace hM:=M.e_f hM ax
  replace ax:=dI ax
  refine W.exit ?_
  have ch:=M.e_inr hM aT
  subst ch;replace hM:=bH;(try dsimp only at hM);obtain ⟨dq,hM⟩:=M.e_gd hM;refine kg 4 ?_
  exact ⟨bE,bF,s4+1,aA,aw,ap,B_l10,_,upds_of _ _ ⟨rfl,rfl,rfl,rfl,rfl,rfl,rfl,rfl,trivial⟩,M.e_inl hM bb,H,aB⟩
 replace hM:=M.e_f hM av
 replace av:=dI av
 refine W.exit ?_
 have ci:=M.e_inr hM bb
 subst ci;replace hM:=bD;(try dsimp only at hM);replace H:=H.pk [0,1];refine kg 6 ?_;refine W.ret ?_
 have aG:=M.e_pure hM
 exact ⟨_,resE_tmp2 rfl,⟨aI,0,aJ,aK,B_l12,aG,rfl,H,ba⟩⟩

def zaS (s:List Pub) (f:Pub->M Bool):Nat->M (Nat ⊕ (Int ⊕ Unit)):=fun s2 =>
  bif decide ((s2:Int)<(s.length:Int)) then (
  M.grd (decide ((s2:Int)<(s.length:Int))) <|
  M.bind (f (s.getD s2 default)) fun r2 =>
  bif r2 then (
  M.pure (.inr (.inl (s2:Int))))
  else (
  M.pure (.inl (s2+1))))
  else (
  M.pure (.inr (.inr ())))
def zcr (s:List Pub) (f:Pub->M Bool):M Int :=
  M.bind (M.iter (zaS s f) 0) fun x_=>match x_ with
  | (.inl s3)=>(
  M.pure s3)
  | (.inr (_:Unit))=>(
  M.pure (-1))
theorem zf1 {R:List Chunk} {aj:Cells} {ab:Value} {ac:Value} (s:List Pub) (f:Pub->M Bool) (ao:Reads R aj) (ak:Sl aj ab s) (ap:FnM Tryz.prog R ac f) {r:Int} (hM:(zcr s f).Ends r) (w:World) (H:St w w [] R):Ret Tryz.prog 128 #[ab,ac] w fun v w'=>∃ (y0:Int),y0=r/\v=I y0/\St w w' [] R:=by
 refine ret_of_W Tryz.func128 rfl rfl rfl ?_
 have az:=(ak).len_le
 refine kg 12 ?_;obtain ⟨aq,ae,al⟩:=M.e_bind hM
 obtain ⟨aA,ae⟩:=M.e_iter ae
 refine W.loop (fun m σ W=>∃ (s2:Nat) (ρ:Env),σ=upds ρ [(0,ab),(1,ac),(7,I (s.length:Int)),(8,I (s2:Int))]/\M.iterN (zaS s f) m s2=some aq/\St w W [] R) ?_ ?_
 ·exact ⟨_,0,_,upds_of _ _ ⟨rfl,rfl,rfl,rfl,trivial⟩,ae,H⟩
 rintro aB σ aC ⟨s2,ρ,rfl,am,H⟩
 obtain ⟨au,av,aD,hM,ag⟩:=M.e_iterN am
 simp only [zaS] at hM
 clear am;refine kg 5 ?_
 refine W.cond (decide ((s2:Int)<(s.length:Int))) rfl (fun aa=>?_) (fun aa=>?_)
 ·replace hM:=M.e_t hM aa
  replace aa:=dI aa
  obtain ⟨aE,hM⟩:=M.e_gd hM;refine kg 14 ?_;refine s_val (x_ld (v:=.agg #[I ((s.getD s2 default).work),I ((s.getD s2 default).value)]) rfl (ld_ag Ag29 Sz29 (At.mono (Pub_atA ak (i:=(s2:Int)) (by omega) (by omega)) (ao.at H)))) ?_;obtain ⟨r2,aw,hM⟩:=M.e_bind hM;refine t_callM H ap rfl rfl (s.getD s2 default) Reads.none ⟨_,rfl,rfl⟩ aw ?_;intro aF H;refine s_nil ?_
  refine W.cond r2 rfl (fun ah=>?_) (fun ah=>?_)
  ·replace hM:=M.e_t hM ah;refine kg 5 ?_;refine W.ret ?_
   have ax:=M.e_inr hM ag
   subst ax;replace hM:=al;(try dsimp only at hM)
   have ai:=M.e_pure hM
   exact ⟨_,resE_tmp rfl,⟨(s2:Int),ai,rfl,H⟩⟩
  replace hM:=M.e_f hM ah;refine kg 5 ?_
  exact ⟨au,av,s2+1,_,upds_of _ _ ⟨rfl,rfl,rfl,rfl,trivial⟩,M.e_inl hM ag,H⟩
 replace hM:=M.e_f hM aa
 replace aa:=dI aa
 refine W.exit ?_
 have ay:=M.e_inr hM ag
 subst ay;replace hM:=al;(try dsimp only at hM);refine kg 4 ?_;refine W.ret ?_
 have ai:=M.e_pure hM
 exact ⟨_,resE_tmp rfl,⟨(-1),ai,rfl,H⟩⟩

def zdg (s:List Pub) (f:Pub->M Bool):M Bool :=
  M.bind (zcr s f) fun r2 =>
  M.pure (decide (0<=r2))
theorem zfV {R:List Chunk} {ac:Cells} {aa:Value} {ab:Value} (s:List Pub) (f:Pub->M Bool) (ag:Reads R ac) (ah:Sl ac aa s) (ai:FnM Tryz.prog R ab f) {r:Bool} (hM:(zdg s f).Ends r) (w:World) (H:St w w [] R):Ret Tryz.prog 114 #[aa,ab] w fun v w'=>∃ (y0:Bool),y0=r/\v=B y0/\St w w' [] R:=by
 refine ret_of_W Tryz.func114 rfl rfl rfl ?_;refine kg 8 ?_;obtain ⟨al,aj,hM⟩:=M.e_bind hM;refine s_call cf128 [aa,ab] rfl (zf1 s f (ag.app _) ah (ai.app _) aj _ (H.gt 0)) ?_
 rintro vq am ⟨r2,rfl,hvq,ae⟩
 subst vq;(try dsimp only at hM);replace H:=H.bk ae;clear ae;refine kg 3 ?_;refine W.ret ?_
 have ak:=M.e_pure hM
 exact ⟨_,resE_tmp rfl,⟨(decide (0<=r2)),ak,rfl,H⟩⟩

def zb3 (x:Pub) (aa:Pub->M Bool):M Bool :=
  M.bind (aa x) fun r2 =>
  M.pure (!r2)
theorem zf7 {R:List Chunk} {aa:Nat} {ab:Value} (x:Pub) (ac:Pub->M Bool) (ae:FnM Tryz.prog R ab ac) (ai:Has R (cBlk aa [ab] 118)) {r:Bool} (hM:(zb3 x ac).Ends r) (w:World) (H:St w w [] R):Ret Tryz.prog 115 #[.agg #[I x.work,I x.value],Pq aa] w fun v w'=>∃ (y0:Bool),y0=r/\v=B y0/\St w w' [] R:=by
 refine ret_of_W Tryz.func115 rfl rfl rfl ?_;refine kg 2 ?_;refine t_bx [I x.work,I x.value] H rfl ?_;intro aj ak H;refine kg 6 ?_;obtain ⟨r2,ag,hM⟩:=M.e_bind hM;refine t_callM H ae rfl rfl x Reads.none ⟨_,rfl,rfl⟩ ag ?_;intro al H;refine kg 3 ?_;refine W.ret ?_
 have ah:=M.e_pure hM
 exact ⟨_,resE_tmp rfl,⟨(!r2),ah,rfl,(H.pk [])⟩⟩

def zbU (so:Pub->M Bool) (l:List Pub):M Bool :=
  M.bind (zdg l (fun aa=>zb3 aa so)) fun r2 =>
  M.pure (!r2)
theorem zfu {R:List Chunk} {aa:Value} {ag:Cells} {ab:Value} (so:Pub->M Bool) (l:List Pub) (ah:FnM Tryz.prog R aa so) (ak:Reads R ag) (al:Sl ag ab l) {r:Bool} (hM:(zbU so l).Ends r) (w:World) (H:St w w [] R):Ret Tryz.prog 78 #[aa,ab] w fun v w'=>∃ (y0:Bool),y0=r/\v=B y0/\St w w' [] R:=by
 refine ret_of_W Tryz.func78 rfl rfl rfl ?_;refine kg 2 ?_;refine t_box (v:=aa) (cs:=[aa]) H rfl (FnM.cells ah) ?_;intro ac az H;refine kg 5 ?_;refine s_val (x_mf (fs:=[]) (cs:=[Pq ac]) rfl rfl) ?_;obtain ⟨aA,am,hM⟩:=M.e_bind hM;refine s_call cf114 [ab,.func (.func 115) #[] #[Pq ac]] rfl (zfV l (fun ae=>zb3 ae so) (ak.app _) al ⟨115,[Pq ac],rfl,cf115,fun ai aB aC ao ae aD ap aE aq au=>by obtain rfl:=Pub_arg aq; exact (zf7 ae so (FnM.app (ah.app _) _) (Has.app (Has.here (k:=0) rfl) _) au ai (St.refl ap)).mono fun ao ai ⟨aF,av,aw,ax⟩=>by subst av; exact ⟨aw,ax⟩⟩ am _ (H.gt 1)) ?_
 rintro vq aG ⟨r2,rfl,hvq,aj⟩
 subst vq;(try dsimp only at hM);replace H:=H.bk aj;clear aj;refine kg 3 ?_;refine W.ret ?_
 have ay:=M.e_pure hM
 exact ⟨_,resE_tmp rfl,⟨(!r2),ay,rfl,(H.pk [])⟩⟩

def zcI (p:Pub) (aa:List Work):M Bool :=
  M.bind (zal p.work 0 ((aa.length:Int)-1)) fun r2 =>
  M.pure r2
theorem zft {R:List Chunk} {ab:Nat} {ac:Cells} {ae:Value} (p:Pub) (aa:List Work) (ak:Reads R ac) (ah:Sl ac ae aa) (al:Has R (cBlk ab [ae] 23)) {r:Bool} (hM:(zcI p aa).Ends r) (w:World) (H:St w w [] R):Ret Tryz.prog 79 #[.agg #[I p.work,I p.value],Pq ab] w fun v w'=>∃ (y0:Bool),y0=r/\v=B y0/\St w w' [] R:=by
 refine ret_of_W Tryz.func79 rfl rfl rfl ?_;refine kg 2 ?_;refine t_bx [I p.work,I p.value] H rfl ?_;intro am ao H
 have ap:=(ah).len_le
 refine kg 9 ?_;obtain ⟨aq,ai,hM⟩:=M.e_bind hM;refine s_call cf66 [I p.work,I 0,I ((aa.length:Int)-1)] rfl (zap p.work 0 ((aa.length:Int)-1) ai _ (H.gt 1)) ?_
 rintro vq au ⟨r2,rfl,hvq,ag⟩
 subst vq;(try dsimp only at hM);replace H:=H.bk ag;clear ag;refine kg 2 ?_;refine W.ret ?_
 have aj:=M.e_pure hM
 exact ⟨_,resE_tmp rfl,⟨r2,aj,rfl,(H.pk [])⟩⟩

def zbd (published:List Pub) (r0:List Int):(Nat × (List Int))->M ((Nat × (List Int)) ⊕ ((List Int) × (List Int))):=fun (s,l2) =>
  bif decide ((s:Int)<(published.length:Int)) then (
  M.grd (decide ((s:Int)<(published.length:Int))) <|
  M.grd (decide ((0:Int)<=((published.getD s default).work))&&decide (((published.getD s default).work)<(r0.length:Int))) <|
  bif (((r0.getD (Int.toNat ((published.getD s default).work)) 0)==(-1))||((r0.getD (Int.toNat ((published.getD s default).work)) 0) != ((published.getD s default).value))) then (
  M.grd (decide ((l2.length+([(s:Int)]).length)*8<=140737488355328)) <|
  M.pure (.inl (s+1,l2++([(s:Int)]))))
  else (
  M.pure (.inl (s+1,l2))))
  else (
  M.pure (.inr (l2,l2)))
def zav (w_:List Work) (l:List Note) (published:List Pub):M ((List Int) × Int) :=
  M.bind (zaw w_ l) fun (r0,r1) =>
  bif r1 != 0 then (
  M.pure (([]),r1))
  else (
  bif decide (200<(published.length:Int)) then (
  M.pure (([]),3))
  else (
  M.bind (zbU (fun aa=>zcI aa w_) published) fun r2 =>
  bif !r2 then (
  M.pure (([]),2))
  else (
  M.bind (M.iter (zbd published r0) (0,[])) fun (l3,l4) =>
  M.pure (l4,0))))
theorem zeu {R:List Chunk} {ay:Cells} {aa:Value} {az:Cells} {am:Value} {aA:Cells} {ak:Value} (w_:List Work) (l:List Note) (published:List Pub) (aB:Reads R ay) (ao:Sl ay aa w_) (aI:Reads R az) (aJ:Sl az am l) (aC:Reads R aA) (al:Sl aA ak published) {r:((List Int) × Int)} (hM:(zav w_ l published).Ends r) (w:World) (H:St w w [] R):Ret Tryz.prog 31 #[aa,am,ak] w fun v w'=>∃ (y0:List Int) (y1:Int) (u0:Value),(y0,y1)=r/\v = .tuple #[u0,I y1]/\St w w' [cOwn (α:=Int) 3 u0 y0] R:=by
 refine ret_of_W Tryz.func31 rfl rfl rfl ?_;refine kg 2 ?_;refine t_box (v:=aa) (cs:=[aa]) H rfl (Sl.cells ao) ?_;intro ai aZ H;refine kg 7 ?_;obtain ⟨a0,aK,hM⟩:=M.e_bind hM;refine s_call cf28 [aa,am] rfl (zcm w_ l (aB.app _) ao (aI.app _) aJ aK _ (H.gt 1)) ?_
 rintro vq a4 ⟨r0,r1,ap,rfl,hvq,aj⟩
 subst vq;(try dsimp only at hM);replace H:=H.bk aj;clear aj;refine kg 14 ?_
 refine W.cond (r1 != 0) rfl (fun ab=>?_) (fun ab=>?_)
 ·replace hM:=M.e_t hM ab
  replace ab:=dI ab
  refine kg 6 ?_;replace H:=H.pk [];refine W.ret ?_
  have ac:=M.e_pure hM
  replace H:=H.nilOwn (α:=Int) 3
  exact ⟨_,resE_tmp2 rfl,⟨([]),r1,(.slice none 0 0),ac,rfl,H⟩⟩
 replace hM:=M.e_f hM ab
 replace ab:=dI ab
 have a5:=(al).len_le
 refine kg 7 ?_
 refine W.cond (decide (200<(published.length:Int))) rfl (fun ae=>?_) (fun ae=>?_)
 ·replace hM:=M.e_t hM ae
  replace ae:=dI ae
  refine kg 5 ?_;replace H:=H.pk [];refine W.ret ?_
  have ac:=M.e_pure hM
  replace H:=H.nilOwn (α:=Int) 3
  exact ⟨_,resE_tmp2 rfl,⟨([]),3,(.slice none 0 0),ac,rfl,H⟩⟩
 replace hM:=M.e_f hM ae
 replace ae:=dI ae
 refine kg 2 ?_;refine s_val (x_mf (fs:=[]) (cs:=[Pq ai]) rfl rfl) ?_;refine kg 1 ?_;obtain ⟨a6,aL,hM⟩:=M.e_bind hM;refine s_call cf78 [.func (.func 79) #[] #[Pq ai],ak] rfl (zfu (fun aq=>zcI aq w_) published ⟨79,[Pq ai],rfl,cf79,fun aD a7 a8 aM aq a9 aN ba aO aP=>by obtain rfl:=Pub_arg aO; exact (zft aq w_ (Reads.app (aB.app _) _) ao (Has.app (Has.here (k:=1) rfl) _) aP aD (St.refl aN)).mono fun aM aD ⟨bb,aQ,aR,aS⟩=>by subst aQ; exact ⟨aR,aS⟩⟩ (aC.app _) al aL _ (H.gt 2)) ?_
 rintro vq bc ⟨r2,rfl,hvq,aj⟩
 subst vq;(try dsimp only at hM);replace H:=H.bk aj;clear aj;refine kg 3 ?_
 refine W.cond (!r2) rfl (fun au=>?_) (fun au=>?_)
 ·replace hM:=M.e_t hM au;refine kg 5 ?_;replace H:=H.pk [];refine W.ret ?_
  have ac:=M.e_pure hM
  replace H:=H.nilOwn (α:=Int) 3
  exact ⟨_,resE_tmp2 rfl,⟨([]),2,(.slice none 0 0),ac,rfl,H⟩⟩
 replace hM:=M.e_f hM au
 have bf:=(al).len_le
 refine kg 13 ?_
 replace H:=H.nilOwn (α:=Int) 3
 obtain ⟨aT,av,aU⟩:=M.e_bind hM
 obtain ⟨bg,av⟩:=M.e_iter av
 refine W.loop (fun m σ W=>∃ (s:Nat) (l2:List Int) (ah:Value) (ρ:Env),σ=upds ρ [(8,ap),(10,ah),(32,ak),(33,I (published.length:Int)),(34,I (s:Int))]/\M.iterN (zbd published r0) m (s,l2)=some aT/\St w W [cOwn (α:=Int) 3 ah l2,cOwn (α:=Int) 3 ap r0,cBlk ai [aa] 23] R) ?_ ?_
 ·exact ⟨_,0,[],(.slice none 0 0),_,upds_of _ _ ⟨rfl,rfl,rfl,rfl,rfl,trivial⟩,av,H⟩
 rintro bh σ bi ⟨s,l2,ah,ρ,rfl,aE,H⟩
 obtain ⟨aF,aG,bj,hM,aw⟩:=M.e_iterN aE
 simp only [zbd] at hM
 clear aE;refine kg 5 ?_
 refine W.cond (decide ((s:Int)<(published.length:Int))) rfl (fun ag=>?_) (fun ag=>?_)
 ·replace hM:=M.e_t hM ag
  replace ag:=dI ag
  obtain ⟨bm,hM⟩:=M.e_gd hM;refine kg 7 ?_;refine s_val (x_ld (v:=.agg #[I ((published.getD s default).work),I ((published.getD s default).value)]) rfl (ld_ag Ag29 Sz29 (At.mono (Pub_atA al (i:=(s:Int)) (by omega) (by omega)) (aC.at H)))) ?_;refine t_alloc (cs:=[I 0,I 0]) H Al29 rfl ?_;intro aV bn H;refine kg 1 ?_;refine t_sw 0 0 [I ((published.getD s default).work),I ((published.getD s default).value)] (.agg #[I ((published.getD s default).work),I ((published.getD s default).value)]) H rfl rfl Sz29 rfl rfl rfl rfl ?_;intro bo H;refine kg 2 ?_;refine W.draw (fun W=>St w W [cBlk aV [I ((published.getD s default).work),I ((published.getD s default).value)] 29,cOwn (α:=Int) 3 ah l2,cOwn (α:=Int) 3 ap r0,cBlk ai [aa] 23] R) [(0,true),(1,true),(2,true),(3,true),(4,true),(5,true),(6,true),(7,true),(8,true),(9,true),(10,true),(11,true),(12,true),(13,true),(14,true),(15,true)] mixed (by decide +kernel) rfl ?_;intro bp aH;replace H:=H.ext aH;clear aH
  refine ⟨(H.pk [0,1,2,3]),?_⟩
  obtain ⟨br,hM⟩:=M.e_gd hM;refine kg 15 ?_;refine d_q rfl (fun w' H=>x_por (b:=(r0.getD (Int.toNat ((published.getD s default).work)) 0)==(-1)) (r:=(r0.getD (Int.toNat ((published.getD s default).work)) 0) != ((published.getD s default).value)) rfl rfl (fun hb=>gd_of (c:=!((r0.getD (Int.toNat ((published.getD s default).work)) 0)==(-1))) (by first | exact hb | (rw [hb]; rfl) | simp_all) (B ((r0.getD (Int.toNat ((published.getD s default).work)) 0) != ((published.getD s default).value))))) ?_;refine d_nil ?_
  refine W.cond (((r0.getD (Int.toNat ((published.getD s default).work)) 0)==(-1))||((r0.getD (Int.toNat ((published.getD s default).work)) 0) != ((published.getD s default).value))) rfl (fun ax=>?_) (fun ax=>?_)
  ·replace hM:=M.e_t hM ax;refine kg 3 ?_;refine t_bs (α:=Int) T22 [I (s:Int)] [(s:Int)] H rfl (.cons rfl (Flat.rep_enc _ (s:Int))<|.nil) rfl rfl rfl ?_;intro aW bt H;obtain ⟨bu,hM⟩:=M.e_gd hM;refine t_app (α:=Int) (k:=2) (l:=l2) (l2:=[(s:Int)]) (l':=l2++([(s:Int)])) (vy:=aW) T22 rfl H rfl rfl rfl (H.os 0) (H.ol 0) (rfl) (by first | omega | (simp only [List.length_nil] at *; omega)) ?_;intro aX bv H;replace H:=H.nf;refine kg 6 ?_
   exact ⟨aF,aG,s+1,l2++([(s:Int)]),aX,_,upds_of _ _ ⟨rfl,rfl,rfl,rfl,rfl,trivial⟩,M.e_inl hM aw,(H.pk [2,3,4])⟩
  replace hM:=M.e_f hM ax;refine kg 5 ?_
  exact ⟨aF,aG,s+1,l2,ah,_,upds_of _ _ ⟨rfl,rfl,rfl,rfl,rfl,trivial⟩,M.e_inl hM aw,(H.pk [1,2,3])⟩
 replace hM:=M.e_f hM ag
 replace ag:=dI ag
 refine W.exit ?_
 have aY:=M.e_inr hM aw
 subst aY;replace hM:=aU;(try dsimp only at hM);replace H:=H.pk [0];refine kg 6 ?_;refine W.ret ?_
 have ac:=M.e_pure hM
 exact ⟨_,resE_tmp2 rfl,⟨l2,0,ah,ac,rfl,H⟩⟩

def zam  : M Bool :=
  M.bind (zaj) fun r2 =>
  M.bind (zaw r2 ([(⟨(0:Int),(2:Int),(7:Int)⟩:Note),(⟨(1:Int),(0:Int),(9:Int)⟩:Note)])) fun (r0,r1) =>
  M.bind (zaj) fun r3 =>
  M.bind (zcu r3 ([(0:Int)])) fun (ao,aa) =>
  M.bind (zaj) fun r4 =>
  M.bind (zb7 r4 ([(1:Int)])) fun (ap,ab) =>
  M.bind (zaj) fun r5 =>
  M.bind (zck r5 ([(0:Int)])) fun (aq,ac) =>
  M.bind (M.opt (!((((r1 != 0)||(aa != 0))||(ab != 0))||(ac != 0))) (zab r0 ([(7:Int),(9:Int),(26:Int),(10:Int),(47:Int),(48:Int)])) false) fun r6 =>
  M.bind (M.opt (!(((((r1 != 0)||(aa != 0))||(ab != 0))||(ac != 0))||(!r6))) (zab ao ([(0:Int),(2:Int),(4:Int),(5:Int)])) false) fun r7 =>
  M.bind (M.opt (!((((((r1 != 0)||(aa != 0))||(ab != 0))||(ac != 0))||(!r6))||(!r7))) (zab ap ([(-1:Int),(6:Int),(16:Int),(36:Int),(56:Int),(57:Int)])) false) fun r8 =>
  M.bind (M.opt (!(((((((r1 != 0)||(aa != 0))||(ab != 0))||(ac != 0))||(!r6))||(!r7))||(!r8))) (zab aq ([(0:Int),(2:Int),(4:Int),(5:Int)])) false) fun r9 =>
  bif ((((((((r1 != 0)||(aa != 0))||(ab != 0))||(ac != 0))||(!r6))||(!r7))||(!r8))||(!r9)) then (
  M.pure false)
  else (
  M.bind (zaj) fun au =>
  M.bind (zaU au ([(0:Int)]) ([(0:Int),(2:Int),(4:Int),(5:Int)])) fun (ae,ag) =>
  M.bind (zaj) fun av =>
  M.bind (zaU av ([(0:Int)]) ([(0:Int),(2:Int),(4:Int)])) fun (ah,ai) =>
  M.bind (zaj) fun aw =>
  M.bind (zbO aw ([(1:Int)]) 4) fun (ax,aj) =>
  M.bind (zaj) fun ay =>
  M.bind (zcS ay ([(1:Int)]) 4) fun (az,ak) =>
  M.bind (zaj) fun aA =>
  M.bind (zbO aA ([(1:Int)]) 3) fun (aF,al) =>
  M.bind (M.opt (!(((((((ag != 0)||(ai != 0))||(aj != 0))||(ak != 0))||(al != 5))||(!ae))||ah)) (zab ax ([(2:Int),(3:Int)])) false) fun aB =>
  bif (((((((((ag != 0)||(ai != 0))||(aj != 0))||(ak != 0))||(al != 5))||(!ae))||ah)||(!aB))||((az.length:Int) != 2)) then (
  M.pure false)
  else (
  M.bind (zaj) fun aC =>
  M.bind (zav aC ([(⟨(0:Int),(3:Int),(8:Int)⟩:Note),(⟨(0:Int),(2:Int),(7:Int)⟩:Note),(⟨(1:Int),(0:Int),(9:Int)⟩:Note)]) ([(⟨(2:Int),(26:Int)⟩:Pub),(⟨(3:Int),(10:Int)⟩:Pub)])) fun (aD,am) =>
  M.bind (M.opt (am==0) (zab aD ([(0:Int)])) false) fun aE =>
  M.pure ((am==0)&&aE)))
theorem zar {R:List Chunk}    {r:Bool} (hM:(zam).Ends r) (w:World) (H:St w w [] R):Ret Tryz.prog 10 #[] w fun v w'=>∃ (y0:Bool),y0=r/\v=B y0/\St w w' [] R:=by
 refine ret_of_W Tryz.func10 rfl rfl rfl ?_;refine kg 6 ?_;obtain ⟨ce,aM,hM⟩:=M.e_bind hM;refine s_call cf4 [] rfl (zan aM _ (H.gt 0)) ?_
 rintro vq cf ⟨r2,aN,cg,ch,rfl,hvq,aa,aO⟩
 subst vq;(try dsimp only at hM);replace H:=H.bk aa;clear aa;refine s_val (x_bld (ps:=[(0,I 0),(1,I 2),(2,I 7)]) (zs:=[I 0,I 0,I 0]) (L':=[I 0,I 2,I 7]) rfl Tryz.underlying26 Al26 rfl (Bd26 Tryz.underlying26) (.cons (cs:=[I 0]) rfl rfl rfl rfl rfl<|.cons (cs:=[I 2]) rfl rfl rfl rfl rfl<|.cons (cs:=[I 7]) rfl rfl rfl rfl rfl<|.nil))<|s_val (x_bld (ps:=[(0,I 1),(2,I 9)]) (zs:=[I 0,I 0,I 0]) (L':=[I 1,I 0,I 9]) rfl Tryz.underlying26 Al26 rfl (Bd26 Tryz.underlying26) (.cons (cs:=[I 1]) rfl rfl rfl rfl rfl<|.cons (cs:=[I 9]) rfl rfl rfl rfl rfl<|.nil)) ?_;refine t_bs (α:=Note) T27 [.agg #[I 0,I 2,I 7],.agg #[I 1,I 0,I 9]] [(⟨(0:Int),(2:Int),(7:Int)⟩:Note),(⟨(1:Int),(0:Int),(9:Int)⟩:Note)] H rfl (.cons rfl (Flat.rep_enc _ (⟨(0:Int),(2:Int),(7:Int)⟩:Note))<|.cons rfl (Flat.rep_enc _ (⟨(1:Int),(0:Int),(9:Int)⟩:Note))<|.nil) rfl rfl rfl ?_;intro aP ci H;obtain ⟨cj,aQ,hM⟩:=M.e_bind hM;refine s_call cf28 [aN,aP] rfl (zcm r2 ([(⟨(0:Int),(2:Int),(7:Int)⟩:Note),(⟨(1:Int),(0:Int),(9:Int)⟩:Note)]) (Reads.sup (rdo 1) (Reads.of (k:=2) rfl roLe)) (rowSl rfl (H.get (k:=1) rfl) (roLe _ (H.get (k:=2) rfl)) aO) (rdo 0) (H.os 0) aQ _ (H.gt 3)) ?_
 rintro vq ck ⟨r0,r1,ax,rfl,hvq,aa⟩
 subst vq;(try dsimp only at hM);replace H:=H.bk aa;clear aa;refine kg 6 ?_;replace H:=H.pk [0];refine kg 2 ?_;obtain ⟨cl,aR,hM⟩:=M.e_bind hM;refine s_call cf4 [] rfl (zan aR _ (H.gt 1)) ?_
 rintro vq cm ⟨r3,aS,cn,co,rfl,hvq,aa,aT⟩
 subst vq;(try dsimp only at hM);replace H:=H.bk aa;clear aa;refine t_bs (α:=Int) T22 [I 0] [(0:Int)] H rfl (.cons rfl (Flat.rep_enc _ (0:Int))<|.nil) rfl rfl rfl ?_;intro aU cp H;obtain ⟨cq,aV,hM⟩:=M.e_bind hM;refine s_call cf35 [aS,aU] rfl (ze1 r3 ([(0:Int)]) (Reads.sup (rdo 1) (Reads.of (k:=2) rfl roLe)) (rowSl rfl (H.get (k:=1) rfl) (roLe _ (H.get (k:=2) rfl)) aT) (rdo 0) (H.os 0) aV _ (H.gt 4)) ?_
 rintro vq cr ⟨aW,ab,ay,rfl,hvq,aa⟩
 subst vq;(try dsimp only at hM);replace H:=H.bk aa;clear aa;refine kg 6 ?_;replace H:=H.pk [0,4];refine kg 2 ?_;obtain ⟨ct,aX,hM⟩:=M.e_bind hM;refine s_call cf4 [] rfl (zan aX _ (H.gt 2)) ?_
 rintro vq cu ⟨r4,aY,cv,cw,rfl,hvq,aa,aZ⟩
 subst vq;(try dsimp only at hM);replace H:=H.bk aa;clear aa;refine t_bs (α:=Int) T22 [I 1] [(1:Int)] H rfl (.cons rfl (Flat.rep_enc _ (1:Int))<|.nil) rfl rfl rfl ?_;intro a0 cx H;obtain ⟨cy,a4,hM⟩:=M.e_bind hM;refine s_call cf39 [aY,a0] rfl (zfh r4 ([(1:Int)]) (Reads.sup (rdo 1) (Reads.of (k:=2) rfl roLe)) (rowSl rfl (H.get (k:=1) rfl) (roLe _ (H.get (k:=2) rfl)) aZ) (rdo 0) (H.os 0) a4 _ (H.gt 5)) ?_
 rintro vq cz ⟨a5,ag,az,rfl,hvq,aa⟩
 subst vq;(try dsimp only at hM);replace H:=H.bk aa;clear aa;refine kg 6 ?_;replace H:=H.pk [0,4,5];refine kg 2 ?_;obtain ⟨cA,a6,hM⟩:=M.e_bind hM;refine s_call cf4 [] rfl (zan a6 _ (H.gt 3)) ?_
 rintro vq cB ⟨r5,a7,cC,cD,rfl,hvq,aa,a8⟩
 subst vq;(try dsimp only at hM);replace H:=H.bk aa;clear aa;refine t_bs (α:=Int) T22 [I 0] [(0:Int)] H rfl (.cons rfl (Flat.rep_enc _ (0:Int))<|.nil) rfl rfl rfl ?_;intro a9 cE H;obtain ⟨cF,ba,hM⟩:=M.e_bind hM;refine s_call cf41 [a7,a9] rfl (ze9 r5 ([(0:Int)]) (Reads.sup (rdo 1) (Reads.of (k:=2) rfl roLe)) (rowSl rfl (H.get (k:=1) rfl) (roLe _ (H.get (k:=2) rfl)) a8) (rdo 0) (H.os 0) ba _ (H.gt 6)) ?_
 rintro vq cG ⟨bb,ai,aA,rfl,hvq,aa⟩
 subst vq;(try dsimp only at hM);replace H:=H.bk aa;clear aa;refine kg 6 ?_;replace H:=H.pk [0,4,5,6];refine kg 8 ?_;refine s_val (x_por (b:=r1 != 0) (r:=ab != 0) rfl rfl (fun hb=>gd_of (c:=!(r1 != 0)) (by first | exact hb | (rw [hb]; rfl) | simp_all) (B (ab != 0))))<|zM (B ((r1 != 0)||(ab != 0))) rfl<|g_val (!((r1 != 0)||(ab != 0))) (gy_f rfl) (fun hg=>x_mv (v:=I ag) rfl)<|g_val (!((r1 != 0)||(ab != 0))) (gy_f rfl) (fun hg=>x_cmp (kd:=.i64) (r:=ag != 0) (gd_of hg (I ag)) rfl rfl)<|s_val (x_por (b:=((r1 != 0)||(ab != 0))) (r:=ag != 0) rfl rfl (fun hb=>gd_of (c:=!((r1 != 0)||(ab != 0))) (by first | exact hb | (rw [hb]; rfl) | simp_all) (B (ag != 0))))<|zM (B (((r1 != 0)||(ab != 0))||(ag != 0))) rfl<|g_val (!(((r1 != 0)||(ab != 0))||(ag != 0))) (gy_f rfl) (fun hg=>x_mv (v:=I ai) rfl)<|g_val (!(((r1 != 0)||(ab != 0))||(ag != 0))) (gy_f rfl) (fun hg=>x_cmp (kd:=.i64) (r:=ai != 0) (gd_of hg (I ai)) rfl rfl)<|s_val (x_por (b:=(((r1 != 0)||(ab != 0))||(ag != 0))) (r:=ai != 0) rfl rfl (fun hb=>gd_of (c:=!(((r1 != 0)||(ab != 0))||(ag != 0))) (by first | exact hb | (rw [hb]; rfl) | simp_all) (B (ai != 0))))<|zM (B ((((r1 != 0)||(ab != 0))||(ag != 0))||(ai != 0))) rfl ?_;refine g_val (!((((r1 != 0)||(ab != 0))||(ag != 0))||(ai != 0))) (gy_f rfl) (fun hg=>x_mv (v:=ax) rfl) ?_;refine t_gbs (α:=Int) T22 (!((((r1 != 0)||(ab != 0))||(ag != 0))||(ai != 0))) (gy_f rfl) [I 7,I 9,I 26,I 10,I 47,I 48] [(7:Int),(9:Int),(26:Int),(10:Int),(47:Int),(48:Int)] H (fun _=>rfl) (.cons rfl (Flat.rep_enc _ (7:Int))<|.cons rfl (Flat.rep_enc _ (9:Int))<|.cons rfl (Flat.rep_enc _ (26:Int))<|.cons rfl (Flat.rep_enc _ (10:Int))<|.cons rfl (Flat.rep_enc _ (47:Int))<|.cons rfl (Flat.rep_enc _ (48:Int))<|.nil) rfl rfl rfl ?_;intro aE cH cI H bc;obtain ⟨r6,bf,hM⟩:=M.e_bind hM;refine t_gcall (!((((r1 != 0)||(ab != 0))||(ag != 0))||(ai != 0))) (gy_f rfl) cf20 (B r6) (fun _=>[ax,aE]) (fun hg=>lst2 (gd_of hg (ax)) (gd_of hg (aE))) H (fun hg=>(zac r0 ([(7:Int),(9:Int),(26:Int),(10:Int),(47:Int),(48:Int)]) (rdo 4) (H.os 4) (Reads.of (k:=0) rfl roLe) (bc hg) (M.e_opt bf hg) _ (H.give (A:=[]) rfl)).mono fun v_ w_ ⟨y_,am,aq,H_⟩=>by subst am; exact ⟨aq,H.via H_⟩) ?_;intro cJ H;refine g_val (!((((r1 != 0)||(ab != 0))||(ag != 0))||(ai != 0))) (gy_f rfl) (fun hg=>x_not (b:=r6) (gd_of hg (B r6)))<|s_val (x_por (b:=((((r1 != 0)||(ab != 0))||(ag != 0))||(ai != 0))) (r:=!r6) rfl rfl (fun hb=>gd_of (c:=!((((r1 != 0)||(ab != 0))||(ag != 0))||(ai != 0))) (by first | exact hb | (rw [hb]; rfl) | simp_all) (B (!r6))))<|zM (B (((((r1 != 0)||(ab != 0))||(ag != 0))||(ai != 0))||(!r6))) rfl<|g_val (!(((((r1 != 0)||(ab != 0))||(ag != 0))||(ai != 0))||(!r6))) (gy_f rfl) (fun hg=>x_mv (v:=ay) rfl) ?_;refine t_gbs (α:=Int) T22 (!(((((r1 != 0)||(ab != 0))||(ag != 0))||(ai != 0))||(!r6))) (gy_f rfl) [I 0,I 2,I 4,I 5] [(0:Int),(2:Int),(4:Int),(5:Int)] H (fun _=>rfl) (.cons rfl (Flat.rep_enc _ (0:Int))<|.cons rfl (Flat.rep_enc _ (2:Int))<|.cons rfl (Flat.rep_enc _ (4:Int))<|.cons rfl (Flat.rep_enc _ (5:Int))<|.nil) rfl rfl rfl ?_;intro aF cK cL H bg;obtain ⟨r7,bh,hM⟩:=M.e_bind hM;refine t_gcall (!(((((r1 != 0)||(ab != 0))||(ag != 0))||(ai != 0))||(!r6))) (gy_f rfl) cf20 (B r7) (fun _=>[ay,aF]) (fun hg=>lst2 (gd_of hg (ay)) (gd_of hg (aF))) H (fun hg=>(zac aW ([(0:Int),(2:Int),(4:Int),(5:Int)]) (rdo 4) (H.os 4) (Reads.of (k:=0) rfl roLe) (bg hg) (M.e_opt bh hg) _ (H.give (A:=[]) rfl)).mono fun v_ w_ ⟨y_,am,aq,H_⟩=>by subst am; exact ⟨aq,H.via H_⟩) ?_;intro cM H;refine g_val (!(((((r1 != 0)||(ab != 0))||(ag != 0))||(ai != 0))||(!r6))) (gy_f rfl) (fun hg=>x_not (b:=r7) (gd_of hg (B r7)))<|s_val (x_por (b:=(((((r1 != 0)||(ab != 0))||(ag != 0))||(ai != 0))||(!r6))) (r:=!r7) rfl rfl (fun hb=>gd_of (c:=!(((((r1 != 0)||(ab != 0))||(ag != 0))||(ai != 0))||(!r6))) (by first | exact hb | (rw [hb]; rfl) | simp_all) (B (!r7))))<|zM (B ((((((r1 != 0)||(ab != 0))||(ag != 0))||(ai != 0))||(!r6))||(!r7))) rfl<|g_val (!((((((r1 != 0)||(ab != 0))||(ag != 0))||(ai != 0))||(!r6))||(!r7))) (gy_f rfl) (fun hg=>x_mv (v:=az) rfl) ?_;refine t_gbs (α:=Int) T22 (!((((((r1 != 0)||(ab != 0))||(ag != 0))||(ai != 0))||(!r6))||(!r7))) (gy_f rfl) [I (-1),I 6,I 16,I 36,I 56,I 57] [(-1:Int),(6:Int),(16:Int),(36:Int),(56:Int),(57:Int)] H (fun _=>rfl) (.cons rfl (Flat.rep_enc _ (-1:Int))<|.cons rfl (Flat.rep_enc _ (6:Int))<|.cons rfl (Flat.rep_enc _ (16:Int))<|.cons rfl (Flat.rep_enc _ (36:Int))<|.cons rfl (Flat.rep_enc _ (56:Int))<|.cons rfl (Flat.rep_enc _ (57:Int))<|.nil) rfl rfl rfl ?_;intro aG cN cO H bi;obtain ⟨r8,bj,hM⟩:=M.e_bind hM;refine t_gcall (!((((((r1 != 0)||(ab != 0))||(ag != 0))||(ai != 0))||(!r6))||(!r7))) (gy_f rfl) cf20 (B r8) (fun _=>[az,aG]) (fun hg=>lst2 (gd_of hg (az)) (gd_of hg (aG))) H (fun hg=>(zac a5 ([(-1:Int),(6:Int),(16:Int),(36:Int),(56:Int),(57:Int)]) (rdo 4) (H.os 4) (Reads.of (k:=0) rfl roLe) (bi hg) (M.e_opt bj hg) _ (H.give (A:=[]) rfl)).mono fun v_ w_ ⟨y_,am,aq,H_⟩=>by subst am; exact ⟨aq,H.via H_⟩) ?_;intro cP H;refine g_val (!((((((r1 != 0)||(ab != 0))||(ag != 0))||(ai != 0))||(!r6))||(!r7))) (gy_f rfl) (fun hg=>x_not (b:=r8) (gd_of hg (B r8)))<|s_val (x_por (b:=((((((r1 != 0)||(ab != 0))||(ag != 0))||(ai != 0))||(!r6))||(!r7))) (r:=!r8) rfl rfl (fun hb=>gd_of (c:=!((((((r1 != 0)||(ab != 0))||(ag != 0))||(ai != 0))||(!r6))||(!r7))) (by first | exact hb | (rw [hb]; rfl) | simp_all) (B (!r8))))<|zM (B (((((((r1 != 0)||(ab != 0))||(ag != 0))||(ai != 0))||(!r6))||(!r7))||(!r8))) rfl<|g_val (!(((((((r1 != 0)||(ab != 0))||(ag != 0))||(ai != 0))||(!r6))||(!r7))||(!r8))) (gy_f rfl) (fun hg=>x_mv (v:=aA) rfl) ?_;refine t_gbs (α:=Int) T22 (!(((((((r1 != 0)||(ab != 0))||(ag != 0))||(ai != 0))||(!r6))||(!r7))||(!r8))) (gy_f rfl) [I 0,I 2,I 4,I 5] [(0:Int),(2:Int),(4:Int),(5:Int)] H (fun _=>rfl) (.cons rfl (Flat.rep_enc _ (0:Int))<|.cons rfl (Flat.rep_enc _ (2:Int))<|.cons rfl (Flat.rep_enc _ (4:Int))<|.cons rfl (Flat.rep_enc _ (5:Int))<|.nil) rfl rfl rfl ?_;intro aH cQ cR H bm;obtain ⟨r9,bn,hM⟩:=M.e_bind hM;refine t_gcall (!(((((((r1 != 0)||(ab != 0))||(ag != 0))||(ai != 0))||(!r6))||(!r7))||(!r8))) (gy_f rfl) cf20 (B r9) (fun _=>[aA,aH]) (fun hg=>lst2 (gd_of hg (aA)) (gd_of hg (aH))) H (fun hg=>(zac bb ([(0:Int),(2:Int),(4:Int),(5:Int)]) (rdo 4) (H.os 4) (Reads.of (k:=0) rfl roLe) (bm hg) (M.e_opt bn hg) _ (H.give (A:=[]) rfl)).mono fun v_ w_ ⟨y_,am,aq,H_⟩=>by subst am; exact ⟨aq,H.via H_⟩) ?_;intro cS H;refine g_val (!(((((((r1 != 0)||(ab != 0))||(ag != 0))||(ai != 0))||(!r6))||(!r7))||(!r8))) (gy_f rfl) (fun hg=>x_not (b:=r9) (gd_of hg (B r9)))<|s_val (x_por (b:=(((((((r1 != 0)||(ab != 0))||(ag != 0))||(ai != 0))||(!r6))||(!r7))||(!r8))) (r:=!r9) rfl rfl (fun hb=>gd_of (c:=!(((((((r1 != 0)||(ab != 0))||(ag != 0))||(ai != 0))||(!r6))||(!r7))||(!r8))) (by first | exact hb | (rw [hb]; rfl) | simp_all) (B (!r9))))<|s_nil ?_;replace H:=H.pk []
 refine W.cond ((((((((r1 != 0)||(ab != 0))||(ag != 0))||(ai != 0))||(!r6))||(!r7))||(!r8))||(!r9)) rfl (fun aB=>?_) (fun aB=>?_)
 ·replace hM:=M.e_t hM aB;refine kg 4 ?_;refine W.ret ?_
  have am:=M.e_pure hM
  exact ⟨_,resE_tmp rfl,⟨false,am,rfl,H⟩⟩
 replace hM:=M.e_f hM aB;refine kg 3 ?_;obtain ⟨cT,bo,hM⟩:=M.e_bind hM;refine s_call cf4 [] rfl (zan bo _ (H.gt 0)) ?_
 rintro vq cU ⟨bp,br,cV,cW,rfl,hvq,aa,bt⟩
 subst vq;(try dsimp only at hM);replace H:=H.bk aa;clear aa;refine t_bs (α:=Int) T22 [I 0] [(0:Int)] H rfl (.cons rfl (Flat.rep_enc _ (0:Int))<|.nil) rfl rfl rfl ?_;intro bu cX H;refine t_bs (α:=Int) T22 [I 0,I 2,I 4,I 5] [(0:Int),(2:Int),(4:Int),(5:Int)] H rfl (.cons rfl (Flat.rep_enc _ (0:Int))<|.cons rfl (Flat.rep_enc _ (2:Int))<|.cons rfl (Flat.rep_enc _ (4:Int))<|.cons rfl (Flat.rep_enc _ (5:Int))<|.nil) rfl rfl rfl ?_;intro bv cY H;obtain ⟨cZ,bw,hM⟩:=M.e_bind hM;refine s_call cf37 [br,bu,bv] rfl (zcD bp ([(0:Int)]) ([(0:Int),(2:Int),(4:Int),(5:Int)]) (Reads.sup (rdo 2) (Reads.of (k:=3) rfl roLe)) (rowSl rfl (H.get (k:=2) rfl) (roLe _ (H.get (k:=3) rfl)) bt) (rdo 1) (H.os 1) (rdo 0) (H.os 0) bw _ (H.gt 4)) ?_
 rintro vq c0 ⟨al,ac,rfl,hvq,aa⟩
 subst vq;(try dsimp only at hM);replace H:=H.bk aa;clear aa;refine kg 6 ?_;replace H:=H.pk [];refine kg 2 ?_;obtain ⟨c3,bx,hM⟩:=M.e_bind hM;refine s_call cf4 [] rfl (zan bx _ (H.gt 0)) ?_
 rintro vq c4 ⟨bz,bA,c6,c7,rfl,hvq,aa,bB⟩
 subst vq;(try dsimp only at hM);replace H:=H.bk aa;clear aa;refine t_bs (α:=Int) T22 [I 0] [(0:Int)] H rfl (.cons rfl (Flat.rep_enc _ (0:Int))<|.nil) rfl rfl rfl ?_;intro bC c8 H;refine t_bs (α:=Int) T22 [I 0,I 2,I 4] [(0:Int),(2:Int),(4:Int)] H rfl (.cons rfl (Flat.rep_enc _ (0:Int))<|.cons rfl (Flat.rep_enc _ (2:Int))<|.cons rfl (Flat.rep_enc _ (4:Int))<|.nil) rfl rfl rfl ?_;intro bD c9 H;obtain ⟨da,bE,hM⟩:=M.e_bind hM;refine s_call cf37 [bA,bC,bD] rfl (zcD bz ([(0:Int)]) ([(0:Int),(2:Int),(4:Int)]) (Reads.sup (rdo 2) (Reads.of (k:=3) rfl roLe)) (rowSl rfl (H.get (k:=2) rfl) (roLe _ (H.get (k:=3) rfl)) bB) (rdo 1) (H.os 1) (rdo 0) (H.os 0) bE _ (H.gt 4)) ?_
 rintro vq db ⟨ao,ae,rfl,hvq,aa⟩
 subst vq;(try dsimp only at hM);replace H:=H.bk aa;clear aa;refine kg 6 ?_;replace H:=H.pk [];refine kg 2 ?_;obtain ⟨dc,bF,hM⟩:=M.e_bind hM;refine s_call cf4 [] rfl (zan bF _ (H.gt 0)) ?_
 rintro vq dd ⟨bG,bH,dg,dh,rfl,hvq,aa,bI⟩
 subst vq;(try dsimp only at hM);replace H:=H.bk aa;clear aa;refine t_bs (α:=Int) T22 [I 1] [(1:Int)] H rfl (.cons rfl (Flat.rep_enc _ (1:Int))<|.nil) rfl rfl rfl ?_;intro bJ di H;obtain ⟨dj,bK,hM⟩:=M.e_bind hM;refine s_call cf48 [bH,bJ,I 4] rfl (zbX bG ([(1:Int)]) 4 (Reads.sup (rdo 1) (Reads.of (k:=2) rfl roLe)) (rowSl rfl (H.get (k:=1) rfl) (roLe _ (H.get (k:=2) rfl)) bI) (rdo 0) (H.os 0) bK _ (H.gt 3)) ?_
 rintro vq dk ⟨bL,ah,aC,rfl,hvq,aa⟩
 subst vq;(try dsimp only at hM);replace H:=H.bk aa;clear aa;refine kg 6 ?_;replace H:=H.pk [0];refine kg 2 ?_;obtain ⟨dl,bM,hM⟩:=M.e_bind hM;refine s_call cf4 [] rfl (zan bM _ (H.gt 1)) ?_
 rintro vq dm ⟨bN,bO,dp,dq,rfl,hvq,aa,bP⟩
 subst vq;(try dsimp only at hM);replace H:=H.bk aa;clear aa;refine t_bs (α:=Int) T22 [I 1] [(1:Int)] H rfl (.cons rfl (Flat.rep_enc _ (1:Int))<|.nil) rfl rfl rfl ?_;intro bQ dr H;obtain ⟨dt,bR,hM⟩:=M.e_bind hM;refine s_call cf49 [bO,bQ,I 4] rfl (zfl bN ([(1:Int)]) 4 (Reads.sup (rdo 1) (Reads.of (k:=2) rfl roLe)) (rowSl rfl (H.get (k:=1) rfl) (roLe _ (H.get (k:=2) rfl)) bP) (rdo 0) (H.os 0) bR _ (H.gt 4)) ?_
 rintro vq du ⟨au,aj,aI,dv,dw,rfl,hvq,aa,bS⟩
 subst vq;(try dsimp only at hM);replace H:=H.bk aa;clear aa;refine kg 6 ?_;replace H:=H.pk [0,1,5];refine kg 2 ?_;obtain ⟨dx,bT,hM⟩:=M.e_bind hM;refine s_call cf4 [] rfl (zan bT _ (H.gt 3)) ?_
 rintro vq dy ⟨bU,bV,dz,dA,rfl,hvq,aa,bW⟩
 subst vq;(try dsimp only at hM);replace H:=H.bk aa;clear aa;refine t_bs (α:=Int) T22 [I 1] [(1:Int)] H rfl (.cons rfl (Flat.rep_enc _ (1:Int))<|.nil) rfl rfl rfl ?_;intro bX dB H;obtain ⟨dC,bY,hM⟩:=M.e_bind hM;refine s_call cf48 [bV,bX,I 3] rfl (zbX bU ([(1:Int)]) 3 (Reads.sup (rdo 1) (Reads.of (k:=2) rfl roLe)) (rowSl rfl (H.get (k:=1) rfl) (roLe _ (H.get (k:=2) rfl)) bW) (rdo 0) (H.os 0) bY _ (H.gt 6)) ?_
 rintro vq dD ⟨dE,ak,dF,rfl,hvq,aa⟩
 subst vq;(try dsimp only at hM);replace H:=H.bk aa;clear aa;refine kg 6 ?_;replace H:=H.pk [4,5,6];refine kg 8 ?_;refine s_val (x_por (b:=ac != 0) (r:=ae != 0) rfl rfl (fun hb=>gd_of (c:=!(ac != 0)) (by first | exact hb | (rw [hb]; rfl) | simp_all) (B (ae != 0))))<|zM (B ((ac != 0)||(ae != 0))) rfl<|g_val (!((ac != 0)||(ae != 0))) (gy_f rfl) (fun hg=>x_mv (v:=I ah) rfl)<|g_val (!((ac != 0)||(ae != 0))) (gy_f rfl) (fun hg=>x_cmp (kd:=.i64) (r:=ah != 0) (gd_of hg (I ah)) rfl rfl)<|s_val (x_por (b:=((ac != 0)||(ae != 0))) (r:=ah != 0) rfl rfl (fun hb=>gd_of (c:=!((ac != 0)||(ae != 0))) (by first | exact hb | (rw [hb]; rfl) | simp_all) (B (ah != 0))))<|zM (B (((ac != 0)||(ae != 0))||(ah != 0))) rfl<|g_val (!(((ac != 0)||(ae != 0))||(ah != 0))) (gy_f rfl) (fun hg=>x_mv (v:=I aj) rfl)<|g_val (!(((ac != 0)||(ae != 0))||(ah != 0))) (gy_f rfl) (fun hg=>x_cmp (kd:=.i64) (r:=aj != 0) (gd_of hg (I aj)) rfl rfl)<|s_val (x_por (b:=(((ac != 0)||(ae != 0))||(ah != 0))) (r:=aj != 0) rfl rfl (fun hb=>gd_of (c:=!(((ac != 0)||(ae != 0))||(ah != 0))) (by first | exact hb | (rw [hb]; rfl) | simp_all) (B (aj != 0))))<|zM (B ((((ac != 0)||(ae != 0))||(ah != 0))||(aj != 0))) rfl ?_;refine g_val (!((((ac != 0)||(ae != 0))||(ah != 0))||(aj != 0))) (gy_f rfl) (fun hg=>x_mv (v:=I ak) rfl)<|g_val (!((((ac != 0)||(ae != 0))||(ah != 0))||(aj != 0))) (gy_f rfl) (fun hg=>x_cmp (kd:=.i64) (r:=ak != 5) (gd_of hg (I ak)) rfl rfl)<|s_val (x_por (b:=((((ac != 0)||(ae != 0))||(ah != 0))||(aj != 0))) (r:=ak != 5) rfl rfl (fun hb=>gd_of (c:=!((((ac != 0)||(ae != 0))||(ah != 0))||(aj != 0))) (by first | exact hb | (rw [hb]; rfl) | simp_all) (B (ak != 5))))<|zM (B (((((ac != 0)||(ae != 0))||(ah != 0))||(aj != 0))||(ak != 5))) rfl<|g_val (!(((((ac != 0)||(ae != 0))||(ah != 0))||(aj != 0))||(ak != 5))) (gy_f rfl) (fun hg=>x_mv (v:=B al) rfl)<|g_val (!(((((ac != 0)||(ae != 0))||(ah != 0))||(aj != 0))||(ak != 5))) (gy_f rfl) (fun hg=>x_not (b:=al) (gd_of hg (B al)))<|s_val (x_por (b:=(((((ac != 0)||(ae != 0))||(ah != 0))||(aj != 0))||(ak != 5))) (r:=!al) rfl rfl (fun hb=>gd_of (c:=!(((((ac != 0)||(ae != 0))||(ah != 0))||(aj != 0))||(ak != 5))) (by first | exact hb | (rw [hb]; rfl) | simp_all) (B (!al))))<|zM (B ((((((ac != 0)||(ae != 0))||(ah != 0))||(aj != 0))||(ak != 5))||(!al))) rfl<|g_val (!((((((ac != 0)||(ae != 0))||(ah != 0))||(aj != 0))||(ak != 5))||(!al))) (gy_f rfl) (fun hg=>x_mv (v:=B ao) rfl)<|s_val (x_por (b:=((((((ac != 0)||(ae != 0))||(ah != 0))||(aj != 0))||(ak != 5))||(!al))) (r:=ao) rfl rfl (fun hb=>gd_of (c:=!((((((ac != 0)||(ae != 0))||(ah != 0))||(aj != 0))||(ak != 5))||(!al))) (by first | exact hb | (rw [hb]; rfl) | simp_all) (B ao))) ?_;refine zM (B (((((((ac != 0)||(ae != 0))||(ah != 0))||(aj != 0))||(ak != 5))||(!al))||ao)) rfl<|g_val (!(((((((ac != 0)||(ae != 0))||(ah != 0))||(aj != 0))||(ak != 5))||(!al))||ao)) (gy_f rfl) (fun hg=>x_mv (v:=aC) rfl) ?_;refine t_gbs (α:=Int) T22 (!(((((((ac != 0)||(ae != 0))||(ah != 0))||(aj != 0))||(ak != 5))||(!al))||ao)) (gy_f rfl) [I 2,I 3] [(2:Int),(3:Int)] H (fun _=>rfl) (.cons rfl (Flat.rep_enc _ (2:Int))<|.cons rfl (Flat.rep_enc _ (3:Int))<|.nil) rfl rfl rfl ?_;intro aJ dG dH H bZ;obtain ⟨ap,b0,hM⟩:=M.e_bind hM;refine t_gcall (!(((((((ac != 0)||(ae != 0))||(ah != 0))||(aj != 0))||(ak != 5))||(!al))||ao)) (gy_f rfl) cf20 (B ap) (fun _=>[aC,aJ]) (fun hg=>lst2 (gd_of hg (aC)) (gd_of hg (aJ))) H (fun hg=>(zac bL ([(2:Int),(3:Int)]) (rdo 3) (H.os 3) (Reads.of (k:=0) rfl roLe) (bZ hg) (M.e_opt b0 hg) _ (H.give (A:=[]) rfl)).mono fun v_ w_ ⟨y_,am,aq,H_⟩=>by subst am; exact ⟨aq,H.via H_⟩) ?_;intro dJ H;refine g_val (!(((((((ac != 0)||(ae != 0))||(ah != 0))||(aj != 0))||(ak != 5))||(!al))||ao)) (gy_f rfl) (fun hg=>x_not (b:=ap) (gd_of hg (B ap)))<|s_val (x_por (b:=(((((((ac != 0)||(ae != 0))||(ah != 0))||(aj != 0))||(ak != 5))||(!al))||ao)) (r:=!ap) rfl rfl (fun hb=>gd_of (c:=!(((((((ac != 0)||(ae != 0))||(ah != 0))||(aj != 0))||(ak != 5))||(!al))||ao)) (by first | exact hb | (rw [hb]; rfl) | simp_all) (B (!ap))))<|zM (B ((((((((ac != 0)||(ae != 0))||(ah != 0))||(aj != 0))||(ak != 5))||(!al))||ao)||(!ap))) rfl<|g_val (!((((((((ac != 0)||(ae != 0))||(ah != 0))||(aj != 0))||(ak != 5))||(!al))||ao)||(!ap))) (gy_f rfl) (fun hg=>x_mv (v:=aI) rfl)<|g_val (!((((((((ac != 0)||(ae != 0))||(ah != 0))||(aj != 0))||(ak != 5))||(!al))||ao)||(!ap))) (gy_f rfl) (fun hg=>x_lenS T31.und (gd_of hg (aI)) (rowSl rfl (H.get (k:=1) rfl) (roLe _ (H.get (k:=2) rfl)) bS))<|g_val (!((((((((ac != 0)||(ae != 0))||(ah != 0))||(aj != 0))||(ak != 5))||(!al))||ao)||(!ap))) (gy_f rfl) (fun hg=>x_cmp (kd:=.i64) (r:=(au.length:Int) != 2) (gd_of hg (I (au.length:Int))) rfl rfl)<|s_val (x_por (b:=((((((((ac != 0)||(ae != 0))||(ah != 0))||(aj != 0))||(ak != 5))||(!al))||ao)||(!ap))) (r:=(au.length:Int) != 2) rfl rfl (fun hb=>gd_of (c:=!((((((((ac != 0)||(ae != 0))||(ah != 0))||(aj != 0))||(ak != 5))||(!al))||ao)||(!ap))) (by first | exact hb | (rw [hb]; rfl) | simp_all) (B ((au.length:Int) != 2))))<|s_nil ?_;replace H:=H.pk []
 refine W.cond (((((((((ac != 0)||(ae != 0))||(ah != 0))||(aj != 0))||(ak != 5))||(!al))||ao)||(!ap))||((au.length:Int) != 2)) rfl (fun aD=>?_) (fun aD=>?_)
 ·replace hM:=M.e_t hM aD;refine kg 4 ?_;refine W.ret ?_
  have am:=M.e_pure hM
  exact ⟨_,resE_tmp rfl,⟨false,am,rfl,H⟩⟩
 replace hM:=M.e_f hM aD;refine kg 3 ?_;obtain ⟨dK,b4,hM⟩:=M.e_bind hM;refine s_call cf4 [] rfl (zan b4 _ (H.gt 0)) ?_
 rintro vq dL ⟨b5,b6,dM,dN,rfl,hvq,aa,b7⟩
 subst vq;(try dsimp only at hM);replace H:=H.bk aa;clear aa;refine s_val (x_bld (ps:=[(0,I 0),(1,I 3),(2,I 8)]) (zs:=[I 0,I 0,I 0]) (L':=[I 0,I 3,I 8]) rfl Tryz.underlying26 Al26 rfl (Bd26 Tryz.underlying26) (.cons (cs:=[I 0]) rfl rfl rfl rfl rfl<|.cons (cs:=[I 3]) rfl rfl rfl rfl rfl<|.cons (cs:=[I 8]) rfl rfl rfl rfl rfl<|.nil))<|s_val (x_bld (ps:=[(0,I 0),(1,I 2),(2,I 7)]) (zs:=[I 0,I 0,I 0]) (L':=[I 0,I 2,I 7]) rfl Tryz.underlying26 Al26 rfl (Bd26 Tryz.underlying26) (.cons (cs:=[I 0]) rfl rfl rfl rfl rfl<|.cons (cs:=[I 2]) rfl rfl rfl rfl rfl<|.cons (cs:=[I 7]) rfl rfl rfl rfl rfl<|.nil))<|s_val (x_bld (ps:=[(0,I 1),(2,I 9)]) (zs:=[I 0,I 0,I 0]) (L':=[I 1,I 0,I 9]) rfl Tryz.underlying26 Al26 rfl (Bd26 Tryz.underlying26) (.cons (cs:=[I 1]) rfl rfl rfl rfl rfl<|.cons (cs:=[I 9]) rfl rfl rfl rfl rfl<|.nil)) ?_;refine t_bs (α:=Note) T27 [.agg #[I 0,I 3,I 8],.agg #[I 0,I 2,I 7],.agg #[I 1,I 0,I 9]] [(⟨(0:Int),(3:Int),(8:Int)⟩:Note),(⟨(0:Int),(2:Int),(7:Int)⟩:Note),(⟨(1:Int),(0:Int),(9:Int)⟩:Note)] H rfl (.cons rfl (Flat.rep_enc _ (⟨(0:Int),(3:Int),(8:Int)⟩:Note))<|.cons rfl (Flat.rep_enc _ (⟨(0:Int),(2:Int),(7:Int)⟩:Note))<|.cons rfl (Flat.rep_enc _ (⟨(1:Int),(0:Int),(9:Int)⟩:Note))<|.nil) rfl rfl rfl ?_;intro b8 dO H;refine s_val (x_bld (ps:=[(0,I 2),(1,I 26)]) (zs:=[I 0,I 0]) (L':=[I 2,I 26]) rfl Tryz.underlying29 Al29 rfl (Bd29 Tryz.underlying29) (.cons (cs:=[I 2]) rfl rfl rfl rfl rfl<|.cons (cs:=[I 26]) rfl rfl rfl rfl rfl<|.nil))<|s_val (x_bld (ps:=[(0,I 3),(1,I 10)]) (zs:=[I 0,I 0]) (L':=[I 3,I 10]) rfl Tryz.underlying29 Al29 rfl (Bd29 Tryz.underlying29) (.cons (cs:=[I 3]) rfl rfl rfl rfl rfl<|.cons (cs:=[I 10]) rfl rfl rfl rfl rfl<|.nil)) ?_;refine t_bs (α:=Pub) T30 [.agg #[I 2,I 26],.agg #[I 3,I 10]] [(⟨(2:Int),(26:Int)⟩:Pub),(⟨(3:Int),(10:Int)⟩:Pub)] H rfl (.cons rfl (Flat.rep_enc _ (⟨(2:Int),(26:Int)⟩:Pub))<|.cons rfl (Flat.rep_enc _ (⟨(3:Int),(10:Int)⟩:Pub))<|.nil) rfl rfl rfl ?_;intro b9 dP H;obtain ⟨dQ,ca,hM⟩:=M.e_bind hM;refine s_call cf31 [b6,b8,b9] rfl (zeu b5 ([(⟨(0:Int),(3:Int),(8:Int)⟩:Note),(⟨(0:Int),(2:Int),(7:Int)⟩:Note),(⟨(1:Int),(0:Int),(9:Int)⟩:Note)]) ([(⟨(2:Int),(26:Int)⟩:Pub),(⟨(3:Int),(10:Int)⟩:Pub)]) (Reads.sup (rdo 2) (Reads.of (k:=3) rfl roLe)) (rowSl rfl (H.get (k:=2) rfl) (roLe _ (H.get (k:=3) rfl)) b7) (rdo 1) (H.os 1) (rdo 0) (H.os 0) ca _ (H.gt 4)) ?_
 rintro vq dR ⟨cb,av,aK,rfl,hvq,aa⟩
 subst vq;(try dsimp only at hM);replace H:=H.bk aa;clear aa;refine kg 6 ?_;replace H:=H.pk [0];refine kg 6 ?_;refine t_gbs (α:=Int) T22 (av==0) (gy_t rfl) [I 0] [(0:Int)] H (fun _=>rfl) (.cons rfl (Flat.rep_enc _ (0:Int))<|.nil) rfl rfl rfl ?_;intro aL dS dT H cc;obtain ⟨aw,cd,hM⟩:=M.e_bind hM;refine t_gcall (av==0) (gy_t rfl) cf20 (B aw) (fun _=>[aK,aL]) (fun hg=>lst2 (gd_of hg (aK)) (gd_of hg (aL))) H (fun hg=>(zac cb ([(0:Int)]) (rdo 1) (H.os 1) (Reads.of (k:=0) rfl roLe) (cc hg) (M.e_opt cd hg) _ (H.give (A:=[]) rfl)).mono fun v_ w_ ⟨y_,am,aq,H_⟩=>by subst am; exact ⟨aq,H.via H_⟩) ?_;intro dU H;refine s_val (x_pand (b:=av==0) (r:=aw) rfl (fun hb=>gd_of (c:=av==0) (by first | exact hb | (rw [hb]; rfl) | simp_all) (B aw)) rfl) ?_;refine kg 2 ?_;replace H:=H.pk [];refine W.ret ?_
 have am:=M.e_pure hM
 exact ⟨_,resE_tmp rfl,⟨((av==0)&&aw),am,rfl,H⟩⟩

end Go.Proofs.YtkclldpnmolljaaGreat
end
section
set_option maxRecDepth 100000
set_option maxHeartbeats 16000000
namespace Go.Proofs.YtkclldpnmolljaaGreat
open Go Go.Nm
attribute [local irreducible] gd execOp SL SLD SLT WR
def zb5 (w_:List Work):Nat->M (Nat ⊕ (Unit ⊕ Unit)):=fun s =>
  bif decide ((s:Int)<(w_.length:Int)) then (
  M.grd (decide ((s:Int)<(w_.length:Int))) <|
  bif decide (10<(((w_.getD s default).of).length:Int)) then (
  M.pure (.inr (.inl ())))
  else (
  M.pure (.inl (s+1))))
  else (
  M.pure (.inr (.inr ())))
def zc2 (lists:List (List Int)):Nat->M (Nat ⊕ (Unit ⊕ Unit)):=fun s2 =>
  bif decide ((s2:Int)<(lists.length:Int)) then (
  M.grd (decide ((s2:Int)<(lists.length:Int))) <|
  bif decide (40<((lists.getD s2 ([])).length:Int)) then (
  M.pure (.inr (.inl ())))
  else (
  M.pure (.inl (s2+1))))
  else (
  M.pure (.inr (.inr ())))
def za2 (w_:List Work) (lists:List (List Int)):M Bool :=
  bif decide (35<(w_.length:Int)) then (
  M.pure false)
  else (
  M.bind (M.iter (zb5 w_) 0) fun x_=>match x_ with
  | (.inl (_:Unit))=>(
  M.pure false)
  | (.inr (_:Unit))=>(
  M.bind (M.iter (zc2 lists) 0) fun x_=>match x_ with
  | (.inl (_:Unit))=>(
  M.pure false)
  | (.inr (_:Unit))=>(
  M.pure true)))
theorem zbG {R:List Chunk} {aw:Cells} {am:Value} {ax:Cells} {aj:Value} (w_:List Work) (lists:List (List Int)) (aE:Reads R aw) (ao:Sl aw am w_) (aF:Reads R ax) (ay:Sl ax aj lists) {r:Bool} (hM:(za2 w_ lists).Ends r) (w:World) (H:St w w [] R):Ret Tryz.prog 11 #[am,aj] w fun v w'=>∃ (y0:Bool),y0=r/\v=B y0/\St w w' [] R:=by
 refine ret_of_W Tryz.func11 rfl rfl rfl ?_
 have aT:=(ao).len_le
 refine kg 11 ?_
 refine W.cond (decide (35<(w_.length:Int))) rfl (fun aa=>?_) (fun aa=>?_)
 ·replace hM:=M.e_t hM aa
  replace aa:=dI aa
  refine kg 4 ?_;refine W.ret ?_
  have ab:=M.e_pure hM
  exact ⟨_,resE_tmp rfl,⟨false,ab,rfl,H⟩⟩
 replace hM:=M.e_f hM aa
 replace aa:=dI aa
 have aU:=(ao).len_le
 refine kg 9 ?_;obtain ⟨aG,ap,az⟩:=M.e_bind hM
 obtain ⟨aH,ap⟩:=M.e_iter ap
 refine W.loop (fun m σ W=>∃ (s:Nat) (ρ:Env),σ=upds ρ [(1,aj),(12,am),(13,I (w_.length:Int)),(14,I (s:Int))]/\M.iterN (zb5 w_) m s=some aG/\St w W [] R) ?_ ?_
 ·exact ⟨_,0,_,upds_of _ _ ⟨rfl,rfl,rfl,rfl,trivial⟩,ap,H⟩
 rintro aV σ aW ⟨s,ρ,rfl,aA,H⟩
 obtain ⟨aI,aJ,aX,hM,aq⟩:=M.e_iterN aA
 simp only [zb5] at hM
 clear aA;refine kg 5 ?_
 refine W.cond (decide ((s:Int)<(w_.length:Int))) rfl (fun ac=>?_) (fun ac=>?_)
 ·replace hM:=M.e_t hM ac
  replace ac:=dI ac
  obtain ⟨aY,hM⟩:=M.e_gd hM;refine kg 6 ?_
  obtain ⟨ak,aK,ai⟩:=Work_atA ao (i:=(s:Int)) (by omega) (by omega)
  replace ai:Sl _ ak (w_.getD s default).of:=ai
  have aZ:=ai.len_le
  refine s_val (x_ld (v:=.agg #[ak,I ((w_.getD s default).base),I ((w_.getD s default).minutes)]) rfl (ld_ag Ag34 Sz34 (At.mono aK (aE.at H)))) ?_;refine t_alloc (cs:=[.slice none 0 0,I 0,I 0]) H Al34 rfl ?_;intro a0 a4 H;refine t_sw 0 0 [ak,I ((w_.getD s default).base),I ((w_.getD s default).minutes)] (.agg #[ak,I ((w_.getD s default).base),I ((w_.getD s default).minutes)]) H rfl rfl Sz34 rfl rfl rfl (by simp only [List.all_cons,List.all_nil,Bool.true_and,Bool.and_true,Sl.oc ai]; try rfl) ?_;intro a5 H
  have a6:=(ai).len_le
  refine kg 8 ?_
  refine W.cond (decide (10<(((w_.getD s default).of).length:Int))) rfl (fun ae=>?_) (fun ae=>?_)
  ·replace hM:=M.e_t hM ae
   replace ae:=dI ae
   refine kg 4 ?_;refine W.ret ?_
   have aL:=M.e_inr hM aq
   subst aL;replace hM:=az;(try dsimp only at hM)
   have ab:=M.e_pure hM
   exact ⟨_,resE_tmp rfl,⟨false,ab,rfl,(H.pk [])⟩⟩
  replace hM:=M.e_f hM ae
  replace ae:=dI ae
  refine kg 5 ?_
  exact ⟨aI,aJ,s+1,_,upds_of _ _ ⟨rfl,rfl,rfl,rfl,trivial⟩,M.e_inl hM aq,(H.pk [])⟩
 replace hM:=M.e_f hM ac
 replace ac:=dI ac
 refine W.exit ?_
 have aM:=M.e_inr hM aq
 subst aM;replace hM:=az;(try dsimp only at hM)
 have a7:=(ay).len_le
 refine kg 8 ?_;obtain ⟨aN,au,aB⟩:=M.e_bind hM
 obtain ⟨aH,au⟩:=M.e_iter au
 refine W.loop (fun m σ W=>∃ (s2:Nat) (ρ:Env),σ=upds ρ [(23,aj),(24,I (lists.length:Int)),(25,I (s2:Int))]/\M.iterN (zc2 lists) m s2=some aN/\St w W [] R) ?_ ?_
 ·exact ⟨_,0,_,upds_of _ _ ⟨rfl,rfl,rfl,trivial⟩,au,H⟩
 rintro a8 σ a9 ⟨s2,ρ,rfl,aC,H⟩
 obtain ⟨aO,aP,ba,hM,av⟩:=M.e_iterN aC
 simp only [zc2] at hM
 clear aC;refine kg 5 ?_
 refine W.cond (decide ((s2:Int)<(lists.length:Int))) rfl (fun ag=>?_) (fun ag=>?_)
 ·replace hM:=M.e_t hM ag
  replace ag:=dI ag
  obtain ⟨bb,hM⟩:=M.e_gd hM;refine kg 6 ?_
  obtain ⟨aD,aQ,al⟩:=List_at ay (i:=(s2:Int)) (by omega) (by omega)
  replace al:Sl _ aD (lists.getD s2 ([])):=al
  have bc:=al.len_le
  refine s_val (x_ld (v:=aD) rfl (ld_sc Sc22 (At.mono (aQ) (aF.at H)))) ?_
  have bf:=(al).len_le
  refine kg 8 ?_
  refine W.cond (decide (40<((lists.getD s2 ([])).length:Int))) rfl (fun ah=>?_) (fun ah=>?_)
  ·replace hM:=M.e_t hM ah
   replace ah:=dI ah
   refine kg 4 ?_;refine W.ret ?_
   have aR:=M.e_inr hM av
   subst aR;replace hM:=aB;(try dsimp only at hM)
   have ab:=M.e_pure hM
   exact ⟨_,resE_tmp rfl,⟨false,ab,rfl,H⟩⟩
  replace hM:=M.e_f hM ah
  replace ah:=dI ah
  refine kg 5 ?_
  exact ⟨aO,aP,s2+1,_,upds_of _ _ ⟨rfl,rfl,rfl,trivial⟩,M.e_inl hM av,H⟩
 replace hM:=M.e_f hM ag
 replace ag:=dI ag
 refine W.exit ?_
 have aS:=M.e_inr hM av
 subst aS;replace hM:=aB;(try dsimp only at hM);refine kg 4 ?_;refine W.ret ?_
 have ab:=M.e_pure hM
 exact ⟨_,resE_tmp rfl,⟨true,ab,rfl,H⟩⟩

def zeB (l:List Work):M (List Work) :=
  M.grd (decide ((([]:List Work).length+l.length)*40<=140737488355328)) <|
  M.pure l
theorem zgu {R:List Chunk} {ac:Cells} {ae:Value} (l:List Work) (ai:Reads R ac) (al:Sl ac ae l) {r:(List Work)} (hM:(zeB l).Ends r) (w:World) (H:St w w [] R):Ret Tryz.prog 52 #[ae] w fun v w'=>∃ (y0:List Work) (u0:Value) (rr1:List (Raw 2)) (aj:Base),y0=r/\v=u0/\St w w' [cOwn (α:=Raw 2) 34 u0 rr1,cRo aj] R/\RepR (α:=Work) (Cells.sup ac aj.cells) rr1 y0:=by
 refine ret_of_W Tryz.func52 rfl rfl rfl ?_;refine kg 12 ?_
 obtain ⟨ag,H⟩:=H.emptyE
 replace H:=H.nilOwn (α:=Raw 2) 34
 have aa:RepR (α:=Work) (n:=2) ag.cells [] []:=.nil
 obtain ⟨aq,hM⟩:=M.e_gd hM
 obtain ⟨ah,am,ab⟩:=rawOf (n:=2) rfl al
 replace aa:=aa.mono (Cells.sup_r (ai.at H) (roLe _ (H.get (k:=1) rfl)))
 replace ab:=ab.mono (Cells.sup_l _ ag.cells)
 have ak:=aa.app ab
 simp only [List.nil_append] at ak
 refine t_app (α:=Raw 2) (k:=0) (l:=[]) (l2:=ah) (l':=ah) (vy:=ae) T23 rfl H rfl rfl rfl am (ai.at H) (List.nil_append _) (by have a_:=aa.len; have b_:=ab.len; (try simp only [List.length_nil] at *); first | omega | (rw [a_,b_]; omega)) ?_;intro ao au H;replace H:=H.nf;refine kg 2 ?_;refine W.ret ?_
 have ap:=M.e_pure hM
 exact ⟨_,resE_tmp rfl,⟨l,ao,ah,ag,ap,rfl,H,ak⟩⟩

def zay (l:List Int):M (List Int) :=
  M.grd (decide ((([]:List Int).length+l.length)*8<=140737488355328)) <|
  M.pure l
theorem zaB {R:List Chunk} {ab:Cells} {aa:Value} (l:List Int) (ac:Reads R ab) (ae:Sl ab aa l) {r:(List Int)} (hM:(zay l).Ends r) (w:World) (H:St w w [] R):Ret Tryz.prog 13 #[aa] w fun v w'=>∃ (y0:List Int) (u0:Value),y0=r/\v=u0/\St w w' [cOwn (α:=Int) 3 u0 y0] R:=by
 refine ret_of_W Tryz.func13 rfl rfl rfl ?_;refine kg 12 ?_
 replace H:=H.nilOwn (α:=Int) 3
 obtain ⟨ai,hM⟩:=M.e_gd hM;refine t_app (α:=Int) (k:=0) (l:=[]) (l2:=l) (l':=l) (vy:=aa) T22 rfl H rfl rfl rfl ae (ac.at H) (List.nil_append _) (by first | omega | (simp only [List.length_nil] at *; omega)) ?_;intro ag aj H;replace H:=H.nf;refine kg 2 ?_;refine W.ret ?_
 have ah:=M.e_pure hM
 exact ⟨_,resE_tmp rfl,⟨l,ag,ah,rfl,H⟩⟩

def zcK (w_ r2:List Work):((List Work) × Nat)->M (((List Work) × Nat) ⊕ ((List Work) × (List Work))):=fun (l,s) =>
  bif decide ((s:Int)<(r2.length:Int)) then (
  M.grd (decide ((s:Int)<(w_.length:Int))) <|
  M.bind (zay ((w_.getD s default).of)) fun r3 =>
  M.grd (decide ((s:Int)<(l.length:Int))) <|
  M.pure (.inl (l.set s ({ (l.getD s default) with of:=r3 }),s+1)))
  else (
  M.pure (.inr (l,l)))
def zbf (w_:List Work):M (List Work) :=
  M.bind (zeB w_) fun r2 =>
  M.bind (M.iter (zcK w_ r2) (r2,0)) fun (l2,l3) =>
  M.pure l3
theorem zbD {R:List Chunk} {aj:Cells} {al:Value} (w_:List Work) (ab:Reads R aj) (aw:Sl aj al w_) {r:(List Work)} (hM:(zbf w_).Ends r) (w:World) (H:St w w [] R):Ret Tryz.prog 12 #[al] w fun v w'=>∃ (y0:List Work) (u0:Value) (rr1:List (Raw 2)) (ax:Base),y0=r/\v=u0/\St w w' [cOwn (α:=Raw 2) 34 u0 rr1,cRo ax] R/\RepR (α:=Work) (Cells.sup aj ax.cells) rr1 y0:=by
 refine ret_of_W Tryz.func12 rfl rfl rfl ?_;refine kg 7 ?_;obtain ⟨aT,aB,hM⟩:=M.e_bind hM;refine s_call cf52 [al] rfl (zgu w_ (ab.app _) aw aB _ (H.gt 0)) ?_
 rintro vq aU ⟨r2,aC,aD,aE,rfl,hvq,ak,ap⟩
 subst vq;(try dsimp only at hM);replace H:=H.bk ak;clear ak
 have aV:=((rowSl rfl (H.get (k:=0) rfl) (Cells.sup_le (ab.at H) (roLe _ (H.get (k:=1) rfl))) ap)).len_le
 refine kg 6 ?_;refine s_val (x_lenS T23.und rfl (rowSl rfl (H.get (k:=0) rfl) (Cells.sup_le (ab.at H) (roLe _ (H.get (k:=1) rfl))) ap)) ?_;refine kg 3 ?_;obtain ⟨aF,aq,aG⟩:=M.e_bind hM
 obtain ⟨aW,aq⟩:=M.e_iter aq
 refine W.loop (fun m σ W=>∃ (l:List Work) (s:Nat) (ac:Value) (aa:List (Raw 2)) (B_l:Base) (ρ:Env),σ=upds ρ [(0,al),(3,ac),(8,I (r2.length:Int)),(9,I (s:Int))]/\M.iterN (zcK w_ r2) m (l,s)=some aF/\St w W [cOwn (α:=Raw 2) 34 ac aa,cRo B_l] R/\RepR (α:=Work) (Cells.sup aj B_l.cells) aa l) ?_ ?_
 ·exact ⟨_,r2,0,aC,aD,aE,_,upds_of _ _ ⟨rfl,rfl,rfl,rfl,trivial⟩,aq,H,ap⟩
 rintro aX σ aY ⟨l,s,ac,aa,B_l,ρ,rfl,ay,H,ae⟩
 obtain ⟨aH,aI,aZ,hM,az⟩:=M.e_iterN ay
 simp only [zcK] at hM
 clear ay;refine kg 5 ?_
 refine W.cond (decide ((s:Int)<(r2.length:Int))) rfl (fun ag=>?_) (fun ag=>?_)
 ·replace hM:=M.e_t hM ag
  replace ag:=dI ag
  obtain ⟨a0,hM⟩:=M.e_gd hM;refine kg 15 ?_
  obtain ⟨au,aJ,am⟩:=Work_at0 aw (i:=(s:Int)) (by omega) (by omega)
  replace am:Sl _ au (w_.getD s default).of:=am
  have a4:=am.len_le
  refine s_val (x_ld (v:=au) rfl (ld_sc Sc22 (At.mono (aJ) (ab.at H)))) ?_;obtain ⟨a5,aK,hM⟩:=M.e_bind hM;refine s_call cf13 [au] rfl (zaB ((w_.getD s default).of) (ab.app _) am aK _ (H.gt 2)) ?_
  rintro vq a6 ⟨r3,ai,rfl,hvq,ak⟩
  subst vq;(try dsimp only at hM);replace H:=H.bk ak;clear ak;obtain ⟨a7,hM⟩:=M.e_gd hM;refine s_val (x_ix (v:=vat ac 3 (Int.toNat (s:Int))) rfl rfl (Sl.ix (α:=Work) T23.und T23.size (rowSl rfl (H.get (k:=1) rfl) (Cells.sup_le (ab.at H) (roLe _ (H.get (k:=2) rfl))) ae) (by omega) (by omega)))<|s_val (x_fa (v:=fat (vat ac 3 (Int.toNat (s:Int))) 0) rfl (fa_pl Fd34_0 Sz22 (Sl.pl (i:=(s:Int)) (rowSl rfl (H.get (k:=1) rfl) (Cells.sup_le (ab.at H) (roLe _ (H.get (k:=2) rfl))) ae) (by omega) (by omega)))) ?_
  obtain ⟨aL,H,aM⟩:=H.freezeE (k:=0) rfl
  replace H:=H.nf
  have ah:=aM
  obtain ⟨av,H,aN,aO⟩:=H.joinE (i:=2) (j:=0) rfl rfl
  replace ae:=ae.mono (Cells.sup_mono aN (ab.at H) (roLe _ (H.get (k:=0) rfl)))
  replace ah:=ah.mono (aO.trans (Cells.sup_r (ab.at H) (roLe _ (H.get (k:=0) rfl))))
  have a8:=ae.len
  obtain ⟨ao,aA⟩:∃ r:List (Raw 2),(aa).set s (Raw.put ((aa).getD s default) 0 [ai] rfl (by simp only [List.all_cons,List.all_nil,Bool.true_and,Bool.and_true,Sl.oc ah]; try rfl))=r:=⟨_,rfl⟩
  have aP:RepR (α:=Work) (Cells.sup aj av.cells) ao (l.set s ({ (l.getD s default) with of:=r3 })):=by rw [← aA]; exact ae.set _ (by obtain ⟨a9,aQ,ba⟩:=ae.getD (k:=s) (by omega) default; show Elt.rep _ (((aa).getD s default).cs.take 0++[ai]++((aa).getD s default).cs.drop (0+([ai]:List Value).length)) _; rw [aQ]; exact ⟨_,rfl,ah⟩)
  refine t_fst (α:=Raw 2) (k:=2) (i:=(s:Int)) (off:=0) (l:=aa) (l':=ao) (val:=ai) (L':=[cRo av,cRo aL,cOwn (α:=Raw 2) 34 ac ao,cRo B_l]) H rfl Sz22 (by omega) (by omega) ((aa).getD s default) (Raw.put ((aa).getD s default) 0 [ai] rfl (by simp only [List.all_cons,List.all_nil,Bool.true_and,Bool.and_true,Sl.oc ah]; try rfl)) (getD_some _ (by omega) _) rfl rfl [ai] (Sl.cells ah) rfl rfl (by simp only [List.all_cons,List.all_nil,Bool.true_and,Bool.and_true,Sl.oc ah]; try rfl) rfl aA rfl ?_;intro bb H;refine kg 5 ?_
  exact ⟨aH,aI,l.set s ({ (l.getD s default) with of:=r3 }),s+1,ac,ao,av,_,upds_of _ _ ⟨rfl,rfl,rfl,rfl,trivial⟩,M.e_inl hM az,(H.pk [2,0]),aP⟩
 replace hM:=M.e_f hM ag
 replace ag:=dI ag
 refine W.exit ?_
 have aR:=M.e_inr hM az
 subst aR;replace hM:=aG;(try dsimp only at hM);refine kg 5 ?_;refine W.ret ?_
 have aS:=M.e_pure hM
 exact ⟨_,resE_tmp rfl,⟨l,ac,aa,B_l,aS,rfl,H,ae⟩⟩

def zc8 (w_:List Work):(Nat × (List Work))->M ((Nat × (List Work)) ⊕ ((List Work) × (List Work))):=fun (s,l) =>
  bif decide ((s:Int)<(w_.length:Int)) then (
  M.grd (decide ((s:Int)<(w_.length:Int))) <|
  M.bind (zay ((w_.getD s default).of)) fun r2 =>
  M.grd (decide ((l.length+([(⟨r2,((w_.getD s default).base:Int),((w_.getD s default).minutes:Int)⟩:Work)]).length)*40<=140737488355328)) <|
  M.pure (.inl (s+1,l++([(⟨r2,((w_.getD s default).base:Int),((w_.getD s default).minutes:Int)⟩:Work)]))))
  else (
  M.pure (.inr (l,l)))
def zag (w_:List Work):M (List Work) :=
  M.bind (M.iter (zc8 w_) (0,[])) fun (l2,l3) =>
  M.pure l3
theorem zah {R:List Chunk} {ap:Cells} {am:Value} (w_:List Work) (aq:Reads R ap) (au:Sl ap am w_) {r:(List Work)} (hM:(zag w_).Ends r) (w:World) (H:St w w [] R):Ret Tryz.prog 15 #[am] w fun v w'=>∃ (y0:List Work) (u0:Value) (rr1:List (Raw 2)) (av:Base),y0=r/\v=u0/\St w w' [cOwn (α:=Raw 2) 93 u0 rr1,cRo av] R/\RepR (α:=Work) av.cells rr1 y0:=by
 refine ret_of_W Tryz.func15 rfl rfl rfl ?_
 have aW:=(au).len_le
 refine kg 16 ?_
 obtain ⟨aw,H⟩:=H.emptyE
 replace H:=H.nilOwn (α:=Raw 2) 93
 have aC:RepR (α:=Work) (n:=2) aw.cells [] []:=.nil
 obtain ⟨aD,ao,aE⟩:=M.e_bind hM
 obtain ⟨aX,ao⟩:=M.e_iter ao
 refine W.loop (fun m σ W=>∃ (s:Nat) (l:List Work) (aj:Value) (aa:List (Raw 2)) (B_l:Base) (ρ:Env),σ=upds ρ [(3,aj),(6,am),(7,I (w_.length:Int)),(8,I (s:Int))]/\M.iterN (zc8 w_) m (s,l)=some aD/\St w W [cOwn (α:=Raw 2) 93 aj aa,cRo B_l] R/\RepR (α:=Work) B_l.cells aa l) ?_ ?_
 ·exact ⟨_,0,[],(.slice none 0 0),[],aw,_,upds_of _ _ ⟨rfl,rfl,rfl,rfl,trivial⟩,ao,H,aC⟩
 rintro aY σ aZ ⟨s,l,aj,aa,B_l,ρ,rfl,ax,H,ah⟩
 obtain ⟨aF,aG,a0,hM,ay⟩:=M.e_iterN ax
 simp only [zc8] at hM
 clear ax;refine kg 5 ?_
 refine W.cond (decide ((s:Int)<(w_.length:Int))) rfl (fun ab=>?_) (fun ab=>?_)
 ·replace hM:=M.e_t hM ab
  replace ab:=dI ab
  obtain ⟨a4,hM⟩:=M.e_gd hM;refine kg 6 ?_
  obtain ⟨ae,aH,ai⟩:=Work_atA au (i:=(s:Int)) (by omega) (by omega)
  replace ai:Sl _ ae (w_.getD s default).of:=ai
  have a5:=ai.len_le
  refine s_val (x_ld (v:=.agg #[ae,I ((w_.getD s default).base),I ((w_.getD s default).minutes)]) rfl (ld_ag Ag34 Sz34 (At.mono aH (aq.at H)))) ?_;refine t_alloc (cs:=[.slice none 0 0,I 0,I 0]) H Al34 rfl ?_;intro aI a6 H;refine t_sw 0 0 [ae,I ((w_.getD s default).base),I ((w_.getD s default).minutes)] (.agg #[ae,I ((w_.getD s default).base),I ((w_.getD s default).minutes)]) H rfl rfl Sz34 rfl rfl rfl (by simp only [List.all_cons,List.all_nil,Bool.true_and,Bool.and_true,Sl.oc ai]; try rfl) ?_;intro a7 H;refine s_nil ?_;refine W.draw (fun W=>St w W [cBlk aI [ae,I ((w_.getD s default).base),I ((w_.getD s default).minutes)] 34,cRo B_l] R) [(0,true),(1,true),(2,true),(4,true),(5,true),(6,true),(7,true),(3,false),(8,false),(9,false),(10,false),(11,true)] mixed (by decide +kernel) rfl ?_;intro a8 az;replace H:=H.ext az;clear az
  refine ⟨(H.pk [0,2]),?_⟩
  refine kg 7 ?_;refine d_l rfl ?_;obtain ⟨a9,aJ,hM⟩:=M.e_bind hM;refine s_call cf13 [ae] rfl (zaB ((w_.getD s default).of) (aq.app _) ai aJ _ (H.gt 3)) ?_
  rintro vq ba ⟨r2,ag,rfl,hvq,aA⟩
  subst vq;(try dsimp only at hM);replace H:=H.bk aA;clear aA
  have bb:=Sl.cells (H.os 0)
  have bc:=Sl.oc (H.os 0)
  have bf:=Sl.cells (H.os 2)
  have bg:=Sl.oc (H.os 2)
  refine s_nil ⟨(H.pk [1,3]),?_⟩
  refine d_l rfl<|s_val (x_bld (ps:=[(0,ag),(1,I ((w_.getD s default).base)),(2,I ((w_.getD s default).minutes))]) (zs:=[.slice none 0 0,I 0,I 0]) (L':=[ag,I ((w_.getD s default).base),I ((w_.getD s default).minutes)]) rfl Tryz.underlying93 Al93 rfl (Bd93 Tryz.underlying93) (.cons (cs:=[ag]) (Sl.cells (H.os 0)) rfl rfl rfl rfl<|.cons (cs:=[I ((w_.getD s default).base)]) rfl rfl rfl rfl rfl<|.cons (cs:=[I ((w_.getD s default).minutes)]) rfl rfl rfl rfl rfl<|.nil)) ?_
  refine s_nil ⟨(H.pk [1,3]),?_⟩
  refine d_l rfl ?_
  obtain ⟨bh,H⟩:=H.emptyE
  obtain ⟨bi,H,aK⟩:=H.freezeE (k:=1) rfl
  replace H:=H.nf
  have ak:=aK
  obtain ⟨aL,H,bj,aM⟩:=H.joinE (i:=0) (j:=1) rfl rfl
  replace ak:=ak.mono aM
  obtain ⟨ac,aB⟩:∃ r:Raw 2,r.cs=[ag,I ((w_.getD s default).base),I ((w_.getD s default).minutes)]:=⟨Raw.of [ag,I ((w_.getD s default).base),I ((w_.getD s default).minutes)] rfl (by simp only [List.all_cons,List.all_nil,Bool.true_and,Bool.and_true,Sl.oc ak]; try rfl),rfl⟩
  have aN:RepR (α:=Work) aL.cells [ac] [(⟨r2,((w_.getD s default).base:Int),((w_.getD s default).minutes:Int)⟩:Work)]:=.cons (by rw [aB]; exact ⟨_,rfl,ak⟩)<|.nil
  refine t_bs (α:=Raw 2) T47 [.agg #[ag,I ((w_.getD s default).base),I ((w_.getD s default).minutes)]] [ac] H rfl (.cons (by rw [show (Flat.enc ac:List Value)=ac.cs from rfl,aB]; rfl) (Flat.rep_enc _ _)<|.nil) rfl rfl rfl ?_;intro aO bm H;replace H:=H.nf
  have bn:=Sl.cells (H.os 0)
  have bo:=Sl.oc (H.os 0)
  refine s_nil ⟨(H.pk [4,6]),?_⟩
  refine d_l rfl ?_;obtain ⟨bp,hM⟩:=M.e_gd hM
  have al:=aN
  obtain ⟨aP,H,aQ,aR⟩:=H.joinE (i:=6) (j:=1) rfl rfl
  replace ah:=ah.mono aQ
  replace al:=al.mono aR
  have aS:=ah.app al
  refine t_app (α:=Raw 2) (k:=6) (l:=aa) (l2:=[ac]) (l':=aa++([ac])) (vy:=aO) T47 rfl H rfl rfl rfl (H.os 1) (H.ol 1) (rfl) (by have a_:=ah.len; have b_:=al.len; (try simp only [List.length_nil] at *); first | omega | (rw [a_,b_]; omega)) ?_;intro aT br H;replace H:=H.nf
  have bt:=Sl.cells (H.os 6)
  have bu:=Sl.oc (H.os 6)
  refine s_nil ⟨(H.pk [5,7]),?_⟩
  refine kg 2 ?_;replace H:=H.pk [0,6,7];refine kg 4 ?_
  exact ⟨aF,aG,s+1,l++([(⟨r2,((w_.getD s default).base:Int),((w_.getD s default).minutes:Int)⟩:Work)]),aT,aa++([ac]),aP,_,upds_of _ _ ⟨rfl,rfl,rfl,rfl,trivial⟩,M.e_inl hM ay,(H.pk [1,0]),aS⟩
 replace hM:=M.e_f hM ab
 replace ab:=dI ab
 refine W.exit ?_
 have aU:=M.e_inr hM ay
 subst aU;replace hM:=aE;(try dsimp only at hM);refine kg 5 ?_;refine W.ret ?_
 have aV:=M.e_pure hM
 exact ⟨_,resE_tmp rfl,⟨l,aj,aa,B_l,aV,rfl,H,ah⟩⟩

def zao (n a b:Int):M Bool :=
  M.pure ((decide (n<a))||(decide (b<n)))
theorem zas {R:List Chunk}  (n:Int) (a:Int) (b:Int)  {r:Bool} (hM:(zao n a b).Ends r) (w:World) (H:St w w [] R):Ret Tryz.prog 68 #[I n,I a,I b] w fun v w'=>∃ (y0:Bool),y0=r/\v=B y0/\St w w' [] R:=by
 refine ret_of_W Tryz.func68 rfl rfl rfl ?_;refine kg 13 ?_;refine s_val (x_por (b:=decide (n<a)) (r:=decide (b<n)) rfl rfl (fun hb=>gd_of (c:=!(decide (n<a))) (by first | exact hb | (rw [hb]; rfl) | simp_all) (B (decide (b<n)))))<|zA (B ((decide (n<a))||(decide (b<n)))) rfl<|s_nil ?_;refine W.ret ?_
 have aa:=M.e_pure hM
 exact ⟨_,resE_tmp rfl,⟨((decide (n<a))||(decide (b<n))),aa,rfl,H⟩⟩

def zbW (l:List Int) (n:Int):Nat->M (Nat ⊕ (Unit ⊕ Unit)):=fun i =>
  bif decide ((i:Int)<(l.length:Int)) then (
  M.grd (decide ((i:Int)<(l.length:Int))) <|
  bif (l.getD i 0)==n then (
  M.pure (.inr (.inl ())))
  else (
  M.pure (.inl (i+1))))
  else (
  M.pure (.inr (.inr ())))
def zad (l:List Int) (n:Int):M Bool :=
  M.bind (M.iter (zbW l n) 0) fun x_=>match x_ with
  | (.inl (_:Unit))=>(
  M.pure true)
  | (.inr (_:Unit))=>(
  M.pure false)
theorem zae {R:List Chunk} {ai:Cells} {ac:Value} (l:List Int) (n:Int) (av:Reads R ai) (al:Sl ai ac l) {r:Bool} (hM:(zad l n).Ends r) (w:World) (H:St w w [] R):Ret Tryz.prog 63 #[ac,I n] w fun v w'=>∃ (y0:Bool),y0=r/\v=B y0/\St w w' [] R:=by
 refine ret_of_W Tryz.func63 rfl rfl rfl ?_;refine kg 10 ?_;obtain ⟨am,ae,aj⟩:=M.e_bind hM
 obtain ⟨aw,ae⟩:=M.e_iter ae
 refine W.loop (fun m σ W=>∃ (i:Nat) (ρ:Env),σ=upds ρ [(0,ac),(1,I n),(5,I (i:Int))]/\M.iterN (zbW l n) m i=some am/\St w W [] R) ?_ ?_
 ·exact ⟨_,0,_,upds_of _ _ ⟨rfl,rfl,rfl,trivial⟩,ae,H⟩
 rintro ax σ ay ⟨i,ρ,rfl,ak,H⟩
 obtain ⟨ao,ap,az,hM,ag⟩:=M.e_iterN ak
 simp only [zbW] at hM
 clear ak
 have aA:=(al).len_le
 refine kg 8 ?_
 refine W.cond (decide ((i:Int)<(l.length:Int))) rfl (fun aa=>?_) (fun aa=>?_)
 ·replace hM:=M.e_t hM aa
  replace aa:=dI aa
  obtain ⟨aB,hM⟩:=M.e_gd hM;refine kg 12 ?_
  refine W.cond ((l.getD i 0)==n) rfl (fun ab=>?_) (fun ab=>?_)
  ·replace hM:=M.e_t hM ab
   replace ab:=dI ab
   refine kg 4 ?_;refine W.ret ?_
   have aq:=M.e_inr hM ag
   subst aq;replace hM:=aj;(try dsimp only at hM)
   have ah:=M.e_pure hM
   exact ⟨_,resE_tmp rfl,⟨true,ah,rfl,H⟩⟩
  replace hM:=M.e_f hM ab
  replace ab:=dI ab
  refine kg 6 ?_
  exact ⟨ao,ap,i+1,_,upds_of _ _ ⟨rfl,rfl,rfl,trivial⟩,M.e_inl hM ag,H⟩
 replace hM:=M.e_f hM aa
 replace aa:=dI aa
 refine W.exit ?_
 have au:=M.e_inr hM ag
 subst au;replace hM:=aj;(try dsimp only at hM);refine kg 4 ?_;refine W.ret ?_
 have ah:=M.e_pure hM
 exact ⟨_,resE_tmp rfl,⟨false,ah,rfl,H⟩⟩

def zd7 (w_:List Work):Nat->M (Nat ⊕ (Unit ⊕ Unit)):=fun i =>
  bif decide ((i:Int)<(w_.length:Int)) then (
  M.grd (decide ((i:Int)<(w_.length:Int))) <|
  bif decide (5<(((w_.getD i default).of).length:Int)) then (
  M.pure (.inr (.inl ())))
  else (
  M.pure (.inl (i+1))))
  else (
  M.pure (.inr (.inr ())))
def zcF (w_:List Work) (i2:Nat):Nat->M (Nat ⊕ (Unit ⊕ Unit)):=fun k =>
  bif decide ((k:Int)<(((w_.getD i2 default).of).length:Int)) then (
  M.grd (decide ((k:Int)<(((w_.getD i2 default).of).length:Int))) <|
  M.bind (zao (((w_.getD i2 default).of).getD k 0) 0 ((w_.length:Int)-1)) fun r4 =>
  bif (r4||((((w_.getD i2 default).of).getD k 0)==(i2:Int))) then (
  M.pure (.inr (.inl ())))
  else (
  M.pure (.inl (k+1))))
  else (
  M.pure (.inr (.inr ())))
def zc0 (w_:List Work):Nat->M (Nat ⊕ (Unit ⊕ Unit)):=fun i2 =>
  bif decide ((i2:Int)<(w_.length:Int)) then (
  M.grd (decide ((i2:Int)<(w_.length:Int))) <|
  M.bind (zao ((w_.getD i2 default).base) 0 1000002) fun r2 =>
  M.bind (M.opt (!r2) (zao ((w_.getD i2 default).minutes) 0 10000) false) fun r3 =>
  bif (r2||r3) then (
  M.pure (.inr (.inl ())))
  else (
  M.bind (M.iter (zcF w_ i2) 0) fun x_=>match x_ with
  | (.inl (_:Unit))=>(
  M.pure (.inr (.inl ())))
  | (.inr (_:Unit))=>(
  M.pure (.inl (i2+1)))))
  else (
  M.pure (.inr (.inr ())))
def zb4 (w_:List Work) (i3:Nat):Nat->M (Nat ⊕ (Unit ⊕ Unit)):=fun k2 =>
  M.grd (decide ((i3:Int)<(w_.length:Int))) <|
  bif decide ((k2:Int)<(((w_.getD i3 default).of).length:Int)) then (
  M.grd (decide ((k2:Int)<=(((w_.getD i3 default).of).length:Int))) <|
  M.bind (zad (((w_.getD i3 default).of).take k2) (((w_.getD i3 default).of).getD k2 0)) fun r5 =>
  bif r5 then (
  M.pure (.inr (.inl ())))
  else (
  M.pure (.inl (k2+1))))
  else (
  M.pure (.inr (.inr ())))
def zdD (w_:List Work):Nat->M (Nat ⊕ (Unit ⊕ Unit)):=fun i3 =>
  bif decide ((i3:Int)<(w_.length:Int)) then (
  M.bind (M.iter (zb4 w_ i3) 0) fun x_=>match x_ with
  | (.inl (_:Unit))=>(
  M.pure (.inr (.inl ())))
  | (.inr (_:Unit))=>(
  M.pure (.inl (i3+1))))
  else (
  M.pure (.inr (.inr ())))
def zfm (w_:List Work):M Int :=
  bif ((decide ((w_.length:Int)<1))||(decide (30<(w_.length:Int)))) then (
  M.pure 3)
  else (
  M.bind (M.iter (zd7 w_) 0) fun x_=>match x_ with
  | (.inl (_:Unit))=>(
  M.pure 3)
  | (.inr (_:Unit))=>(
  M.bind (M.iter (zc0 w_) 0) fun x_=>match x_ with
  | (.inl (_:Unit))=>(
  M.pure 140)
  | (.inr (_:Unit))=>(
  M.bind (M.iter (zdD w_) 0) fun x_=>match x_ with
  | (.inl (_:Unit))=>(
  M.pure 10)
  | (.inr (_:Unit))=>(
  M.pure 0))))
theorem zgh {R:List Chunk} {aR:Cells} {ac:Value} (w_:List Work) (ae:Reads R aR) (aa:Sl aR ac w_) {r:Int} (hM:(zfm w_).Ends r) (w:World) (H:St w w [] R):Ret Tryz.prog 53 #[ac] w fun v w'=>∃ (y0:Int),y0=r/\v=I y0/\St w w' [] R:=by
 refine ret_of_W Tryz.func53 rfl rfl rfl ?_
 have bV:=(aa).len_le
 have bW:=(aa).len_le
 refine kg 14 ?_;refine s_val (x_por (b:=decide ((w_.length:Int)<1)) (r:=decide (30<(w_.length:Int))) rfl rfl (fun hb=>gd_of (c:=!(decide ((w_.length:Int)<1))) (by first | exact hb | (rw [hb]; rfl) | simp_all) (B (decide (30<(w_.length:Int))))))<|s_nil ?_
 refine W.cond ((decide ((w_.length:Int)<1))||(decide (30<(w_.length:Int)))) rfl (fun ay=>?_) (fun ay=>?_)
 ·replace hM:=M.e_t hM ay;refine kg 4 ?_;refine W.ret ?_
  have ab:=M.e_pure hM
  exact ⟨_,resE_tmp rfl,⟨3,ab,rfl,H⟩⟩
 replace hM:=M.e_f hM ay;refine kg 7 ?_;obtain ⟨bb,az,aS⟩:=M.e_bind hM
 obtain ⟨ap,az⟩:=M.e_iter az
 refine W.loop (fun m σ W=>∃ (i:Nat) (ρ:Env),σ=upds ρ [(0,ac),(3,I (i:Int))]/\M.iterN (zd7 w_) m i=some bb/\St w W [] R) ?_ ?_
 ·exact ⟨_,0,_,upds_of _ _ ⟨rfl,rfl,trivial⟩,az,H⟩
 rintro bX σ bY ⟨i,ρ,rfl,aT,H⟩
 obtain ⟨bc,bf,bZ,hM,aA⟩:=M.e_iterN aT
 simp only [zd7] at hM
 clear aT
 have b0:=(aa).len_le
 refine kg 8 ?_
 refine W.cond (decide ((i:Int)<(w_.length:Int))) rfl (fun ai=>?_) (fun ai=>?_)
 ·replace hM:=M.e_t hM ai
  replace ai:=dI ai
  obtain ⟨b4,hM⟩:=M.e_gd hM;refine kg 9 ?_
  obtain ⟨aU,bg,aq⟩:=Work_at0 aa (i:=(i:Int)) (by omega) (by omega)
  replace aq:Sl _ aU (w_.getD i default).of:=aq
  have b5:=aq.len_le
  refine s_val (x_ld (v:=aU) rfl (ld_sc Sc22 (At.mono (bg) (ae.at H)))) ?_
  have b6:=(aq).len_le
  refine kg 3 ?_
  refine W.cond (decide (5<(((w_.getD i default).of).length:Int))) rfl (fun aj=>?_) (fun aj=>?_)
  ·replace hM:=M.e_t hM aj
   replace aj:=dI aj
   refine kg 4 ?_;refine W.ret ?_
   have bh:=M.e_inr hM aA
   subst bh;replace hM:=aS;(try dsimp only at hM)
   have ab:=M.e_pure hM
   exact ⟨_,resE_tmp rfl,⟨3,ab,rfl,H⟩⟩
  replace hM:=M.e_f hM aj
  replace aj:=dI aj
  refine kg 6 ?_
  exact ⟨bc,bf,i+1,_,upds_of _ _ ⟨rfl,rfl,trivial⟩,M.e_inl hM aA,H⟩
 replace hM:=M.e_f hM ai
 replace ai:=dI ai
 refine W.exit ?_
 have bi:=M.e_inr hM aA
 subst bi;replace hM:=aS;(try dsimp only at hM);refine kg 6 ?_;obtain ⟨bj,aB,aC⟩:=M.e_bind hM
 obtain ⟨ap,aB⟩:=M.e_iter aB
 refine W.loop (fun m σ W=>∃ (i2:Nat) (ρ:Env),σ=upds ρ [(0,ac),(4,I (i2:Int))]/\M.iterN (zc0 w_) m i2=some bj/\St w W [] R) ?_ ?_
 ·exact ⟨_,0,_,upds_of _ _ ⟨rfl,rfl,trivial⟩,aB,H⟩
 rintro b7 σ b8 ⟨i2,ρ,rfl,aV,H⟩
 obtain ⟨bm,bn,b9,hM,au⟩:=M.e_iterN aV
 simp only [zc0] at hM
 clear aV
 have ca:=(aa).len_le
 refine kg 8 ?_
 refine W.cond (decide ((i2:Int)<(w_.length:Int))) rfl (fun ak=>?_) (fun ak=>?_)
 ·replace hM:=M.e_t hM ak
  replace ak:=dI ak
  obtain ⟨cb,hM⟩:=M.e_gd hM;refine kg 10 ?_;refine s_val (x_ld (v:=I ((w_.getD i2 default).base)) rfl (ld_sc Sc3 (At.mono (Work_at1 aa (i:=(i2:Int)) (by omega) (by omega)) (ae.at H)))) ?_;obtain ⟨cc,bo,hM⟩:=M.e_bind hM;refine s_call cf68 [I ((w_.getD i2 default).base),I 0,I 1000002] rfl (zas ((w_.getD i2 default).base) 0 1000002 bo _ (H.gt 0)) ?_
  rintro vq cd ⟨r2,rfl,hvq,ah⟩
  subst vq;(try dsimp only at hM);replace H:=H.bk ah;clear ah;refine kg 5 ?_;refine g_val (!r2) (gy_f rfl) (fun hg=>x_ld (v:=I ((w_.getD i2 default).minutes)) (gd_of hg (fat (vat ac 3 (Int.toNat (i2:Int))) 2)) (ld_sc Sc3 (At.mono (Work_at2 aa (i:=(i2:Int)) (by first | omega | (have ag:=hg; simp at ag; omega)) (by first | omega | (have ag:=hg; simp at ag; omega))) (ae.at H)))) ?_;obtain ⟨r3,bp,hM⟩:=M.e_bind hM;refine t_gcall (!r2) (gy_f rfl) cf68 (B r3) (fun _=>[I ((w_.getD i2 default).minutes),I 0,I 10000]) (fun hg=>lst3 (gd_of hg (I ((w_.getD i2 default).minutes))) rfl rfl) H (fun hg=>(zas ((w_.getD i2 default).minutes) 0 10000 (M.e_opt bp hg) _ (H.give (A:=[]) rfl)).mono fun v_ w_ ⟨y_,ab,br,H_⟩=>by subst ab; exact ⟨br,H.via H_⟩) ?_;intro ce H;refine s_val (x_por (b:=r2) (r:=r3) rfl rfl (fun hb=>gd_of (c:=!r2) (by first | exact hb | (rw [hb]; rfl) | simp_all) (B r3)))<|s_nil ?_
  refine W.cond (r2||r3) rfl (fun aD=>?_) (fun aD=>?_)
  ·replace hM:=M.e_t hM aD;refine kg 4 ?_;refine W.ret ?_
   have bt:=M.e_inr hM au
   subst bt;replace hM:=aC;(try dsimp only at hM)
   have ab:=M.e_pure hM
   exact ⟨_,resE_tmp rfl,⟨140,ab,rfl,H⟩⟩
  replace hM:=M.e_f hM aD;refine kg 6 ?_;obtain ⟨bu,aE,aW⟩:=M.e_bind hM
  obtain ⟨ap,aE⟩:=M.e_iter aE
  refine W.loop (fun m σ W=>∃ (k:Nat) (ρ:Env),σ=upds ρ [(0,ac),(4,I (i2:Int)),(5,I (k:Int)),(42,gd (!r2) ac),(43,gd (!r2) (I (i2:Int))),(44,gd (!r2) (vat ac 3 (Int.toNat (i2:Int)))),(45,gd (!r2) (fat (vat ac 3 (Int.toNat (i2:Int))) 2)),(46,gd (!r2) (I ((w_.getD i2 default).minutes))),(47,gd (!r2) (B r3))]/\M.iterN (zcF w_ i2) m k=some bu/\St w W [] R) ?_ ?_
  ·exact ⟨_,0,_,upds_of _ _ ⟨rfl,rfl,rfl,rfl,rfl,rfl,rfl,rfl,rfl,trivial⟩,aE,H⟩
  rintro cf σ cg ⟨k,ρ,rfl,aX,H⟩
  obtain ⟨bv,bw,ch,hM,aF⟩:=M.e_iterN aX
  simp only [zcF] at hM
  clear aX;refine kg 8 ?_
  obtain ⟨aY,bx,av⟩:=Work_at0 aa (i:=(i2:Int)) (by omega) (by omega)
  replace av:Sl _ aY (w_.getD i2 default).of:=av
  have ci:=av.len_le
  refine s_val (x_ld (v:=aY) rfl (ld_sc Sc22 (At.mono (bx) (ae.at H)))) ?_
  have cj:=(av).len_le
  refine kg 3 ?_
  refine W.cond (decide ((k:Int)<(((w_.getD i2 default).of).length:Int))) rfl (fun al=>?_) (fun al=>?_)
  ·replace hM:=M.e_t hM al
   replace al:=dI al
   refine kg 9 ?_
   obtain ⟨aZ,bz,aG⟩:=Work_at0 aa (i:=(i2:Int)) (by omega) (by omega)
   replace aG:Sl _ aZ (w_.getD i2 default).of:=aG
   have ck:=aG.len_le
   refine s_val (x_ld (v:=aZ) rfl (ld_sc Sc22 (At.mono (bz) (ae.at H)))) ?_;obtain ⟨cl,hM⟩:=M.e_gd hM
   have cm:=(aa).len_le
   refine kg 6 ?_;obtain ⟨cn,bA,hM⟩:=M.e_bind hM;refine s_call cf68 [I (((w_.getD i2 default).of).getD k 0),I 0,I ((w_.length:Int)-1)] rfl (zas (((w_.getD i2 default).of).getD k 0) 0 ((w_.length:Int)-1) bA _ (H.gt 0)) ?_
   rintro vq co ⟨r4,rfl,hvq,ah⟩
   subst vq;(try dsimp only at hM);replace H:=H.bk ah;clear ah;refine kg 5 ?_
   obtain ⟨a0,bB,a4⟩:=gd_ex (c:=!r4) fun hg=>Work_at0 aa (i:=(i2:Int)) (by first | omega | (have ag:=hg; simp at ag; omega)) (by first | omega | (have ag:=hg; simp at ag; omega))
   replace a4:(!r4)=true->Sl _ a0 (w_.getD i2 default).of:=a4
   refine g_val (!r4) (gy_f rfl) (fun hg=>x_ld (v:=a0) (gd_of hg (fat (vat ac 3 (Int.toNat (i2:Int))) 0)) (ld_sc Sc22 (At.mono (bB hg) (ae.at H)))) ?_;refine kg 5 ?_;refine s_val (x_por (b:=r4) (r:=(((w_.getD i2 default).of).getD k 0)==(i2:Int)) rfl rfl (fun hb=>gd_of (c:=!r4) (by first | exact hb | (rw [hb]; rfl) | simp_all) (B ((((w_.getD i2 default).of).getD k 0)==(i2:Int)))))<|s_nil ?_
   refine W.cond (r4||((((w_.getD i2 default).of).getD k 0)==(i2:Int))) rfl (fun aH=>?_) (fun aH=>?_)
   ·replace hM:=M.e_t hM aH;refine kg 4 ?_;refine W.ret ?_
    have bC:=M.e_inr hM aF
    subst bC;replace hM:=aW;(try dsimp only at hM)
    have bD:=M.e_inr hM au
    subst bD;replace hM:=aC;(try dsimp only at hM)
    have ab:=M.e_pure hM
    exact ⟨_,resE_tmp rfl,⟨140,ab,rfl,H⟩⟩
   replace hM:=M.e_f hM aH;refine kg 6 ?_
   exact ⟨bv,bw,k+1,_,upds_of _ _ ⟨rfl,rfl,rfl,rfl,rfl,rfl,rfl,rfl,rfl,trivial⟩,M.e_inl hM aF,H⟩
  replace hM:=M.e_f hM al
  replace al:=dI al
  refine W.exit ?_
  have bE:=M.e_inr hM aF
  subst bE;replace hM:=aW;(try dsimp only at hM);refine kg 5 ?_
  exact ⟨bm,bn,i2+1,_,upds_of _ _ ⟨rfl,rfl,trivial⟩,M.e_inl hM au,H⟩
 replace hM:=M.e_f hM ak
 replace ak:=dI ak
 refine W.exit ?_
 have bF:=M.e_inr hM au
 subst bF;replace hM:=aC;(try dsimp only at hM);refine kg 6 ?_;obtain ⟨bG,aI,a5⟩:=M.e_bind hM
 obtain ⟨ap,aI⟩:=M.e_iter aI
 refine W.loop (fun m σ W=>∃ (i3:Nat) (ρ:Env),σ=upds ρ [(0,ac),(6,I (i3:Int))]/\M.iterN (zdD w_) m i3=some bG/\St w W [] R) ?_ ?_
 ·exact ⟨_,0,_,upds_of _ _ ⟨rfl,rfl,trivial⟩,aI,H⟩
 rintro cp σ cq ⟨i3,ρ,rfl,a6,H⟩
 obtain ⟨bH,bI,cr,hM,aJ⟩:=M.e_iterN a6
 simp only [zdD] at hM
 clear a6
 have ct:=(aa).len_le
 refine kg 8 ?_
 refine W.cond (decide ((i3:Int)<(w_.length:Int))) rfl (fun am=>?_) (fun am=>?_)
 ·replace hM:=M.e_t hM am
  replace am:=dI am
  refine kg 8 ?_;obtain ⟨bJ,aK,a7⟩:=M.e_bind hM
  obtain ⟨ap,aK⟩:=M.e_iter aK
  refine W.loop (fun m σ W=>∃ (k2:Nat) (ρ:Env),σ=upds ρ [(0,ac),(6,I (i3:Int)),(7,I (k2:Int))]/\M.iterN (zb4 w_ i3) m k2=some bJ/\St w W [] R) ?_ ?_
  ·exact ⟨_,0,_,upds_of _ _ ⟨rfl,rfl,rfl,trivial⟩,aK,H⟩
  rintro cu σ cv ⟨k2,ρ,rfl,a8,H⟩
  obtain ⟨bK,bL,cw,hM,aL⟩:=M.e_iterN a8
  simp only [zb4] at hM
  clear a8;obtain ⟨cx,hM⟩:=M.e_gd hM;refine kg 8 ?_
  obtain ⟨a9,bM,aw⟩:=Work_at0 aa (i:=(i3:Int)) (by omega) (by omega)
  replace aw:Sl _ a9 (w_.getD i3 default).of:=aw
  have cy:=aw.len_le
  refine s_val (x_ld (v:=a9) rfl (ld_sc Sc22 (At.mono (bM) (ae.at H)))) ?_
  have cz:=(aw).len_le
  refine kg 3 ?_
  refine W.cond (decide ((k2:Int)<(((w_.getD i3 default).of).length:Int))) rfl (fun ao=>?_) (fun ao=>?_)
  ·replace hM:=M.e_t hM ao
   replace ao:=dI ao
   refine kg 4 ?_;refine W.draw (fun W=>St w W [] R) [(0,true),(1,true),(2,true),(3,true),(4,true),(5,true),(6,true),(7,true),(8,true),(9,true),(10,true),(11,true),(12,true),(13,true),(14,true),(15,false)] mixed (by decide +kernel) rfl ?_;intro cA ag;replace H:=H.ext ag;clear ag
   refine ⟨(H.pk []),?_⟩
   refine kg 4 ?_
   obtain ⟨aM,bN,ax⟩:=Work_at0 aa (i:=(i3:Int)) (by omega) (by omega)
   replace ax:Sl _ aM (w_.getD i3 default).of:=ax
   have cB:=ax.len_le
   refine d_q rfl (fun w' H=>x_ld (v:=aM) rfl (ld_sc Sc22 (At.mono (bN) (ae.at H)))) ?_;obtain ⟨cC,hM⟩:=M.e_gd hM;refine kg 1 ?_
   obtain ⟨aN,bO,aO⟩:=sl_hi T22.und T22.size ax (j:=(k2:Int)) (by omega) (by omega)
   replace aO:Sl _ aN (((w_.getD i3 default).of).take k2):=aO
   refine d_q rfl (fun w' H=>x_sl (v:=aM) (u:=aN) (lo':=none) (hi':=some (I (k2:Int))) (mx':=none) rfl rfl rfl rfl (bO _)) ?_;refine kg 4 ?_
   obtain ⟨ba,bP,aP⟩:=Work_at0 aa (i:=(i3:Int)) (by omega) (by omega)
   replace aP:Sl _ ba (w_.getD i3 default).of:=aP
   have cD:=aP.len_le
   refine d_q rfl (fun w' H=>x_ld (v:=ba) rfl (ld_sc Sc22 (At.mono (bP) (ae.at H)))) ?_;refine kg 3 ?_;refine d_l rfl ?_;obtain ⟨cE,bQ,hM⟩:=M.e_bind hM;refine s_call cf63 [aN,I (((w_.getD i3 default).of).getD k2 0)] rfl (zae (((w_.getD i3 default).of).take k2) (((w_.getD i3 default).of).getD k2 0) (ae.app _) aO bQ _ (H.gt 0)) ?_
   rintro vq cF ⟨r5,rfl,hvq,ah⟩
   subst vq;(try dsimp only at hM);replace H:=H.bk ah;clear ah
   refine s_nil ⟨(H.pk []),?_⟩
   refine d_nil ?_
   refine W.cond r5 rfl (fun aQ=>?_) (fun aQ=>?_)
   ·replace hM:=M.e_t hM aQ;refine kg 4 ?_;refine W.ret ?_
    have bR:=M.e_inr hM aL
    subst bR;replace hM:=a7;(try dsimp only at hM)
    have bS:=M.e_inr hM aJ
    subst bS;replace hM:=a5;(try dsimp only at hM)
    have ab:=M.e_pure hM
    exact ⟨_,resE_tmp rfl,⟨10,ab,rfl,H⟩⟩
   replace hM:=M.e_f hM aQ;refine kg 6 ?_
   exact ⟨bK,bL,k2+1,_,upds_of _ _ ⟨rfl,rfl,rfl,trivial⟩,M.e_inl hM aL,H⟩
  replace hM:=M.e_f hM ao
  replace ao:=dI ao
  refine W.exit ?_
  have bT:=M.e_inr hM aL
  subst bT;replace hM:=a7;(try dsimp only at hM);refine kg 5 ?_
  exact ⟨bH,bI,i3+1,_,upds_of _ _ ⟨rfl,rfl,trivial⟩,M.e_inl hM aJ,H⟩
 replace hM:=M.e_f hM am
 replace am:=dI am
 refine W.exit ?_
 have bU:=M.e_inr hM aJ
 subst bU;replace hM:=a5;(try dsimp only at hM);refine kg 4 ?_;refine W.ret ?_
 have ab:=M.e_pure hM
 exact ⟨_,resE_tmp rfl,⟨0,ab,rfl,H⟩⟩

def zdU (w_:List Work):(Nat × (List (List Bool)))->M ((Nat × (List (List Bool))) ⊕ ((List (List Bool)) × (List (List Bool)))):=fun (i,l) =>
  bif decide ((i:Int)<(w_.length:Int)) then (
  M.grd (decide ((0:Int)<=(w_.length:Int))&&decide ((1:Int)*(w_.length:Int)<=281474976710656)&&decide ((w_.length:Int)<=(9223372036854775807:Int))) <|
  M.grd (decide ((l.length+1)*24<=140737488355328)) <|
  M.pure (.inl (i+1,l++[List.replicate (w_.length) false])))
  else (
  M.pure (.inr (l,l)))
def zcy (w_:List Work) (b k:Nat):((List (List Bool)) × Bool × Nat)->M (((List (List Bool)) × Bool × Nat) ⊕ ((List (List Bool)) × Bool × (List (List Bool)))):=fun (l4,changed,a) =>
  bif decide ((a:Int)<(w_.length:Int)) then (
  M.grd ((!(!((a:Int)==(((w_.getD b default).of).getD k 0)))||(decide ((a:Int)<(l4.length:Int))))) <|
  M.grd ((!(!((a:Int)==(((w_.getD b default).of).getD k 0)))||(decide ((0:Int)<=(((w_.getD b default).of).getD k 0))&&decide ((((w_.getD b default).of).getD k 0)<((l4.getD a ([])).length:Int))))) <|
  M.grd ((!(((a:Int)==(((w_.getD b default).of).getD k 0))||((l4.getD a ([])).getD (Int.toNat (((w_.getD b default).of).getD k 0)) false))||(decide ((a:Int)<(l4.length:Int))))) <|
  M.grd ((!(((a:Int)==(((w_.getD b default).of).getD k 0))||((l4.getD a ([])).getD (Int.toNat (((w_.getD b default).of).getD k 0)) false))||(decide ((b:Int)<((l4.getD a ([])).length:Int))))) <|
  bif ((((a:Int)==(((w_.getD b default).of).getD k 0))||((l4.getD a ([])).getD (Int.toNat (((w_.getD b default).of).getD k 0)) false))&&(!((l4.getD a ([])).getD b false))) then (
  M.grd (decide ((a:Int)<(l4.length:Int))) <|
  M.grd (decide ((b:Int)<((l4.getD a ([])).length:Int))) <|
  M.pure (.inl (l4.set a ((l4.getD a ([])).set b true),true,a+1)))
  else (
  M.pure (.inl (l4,changed,a+1))))
  else (
  M.pure (.inr (l4,changed,l4)))
def zcX (w_:List Work) (b:Nat):((List (List Bool)) × Bool × Nat)->M (((List (List Bool)) × Bool × Nat) ⊕ ((List (List Bool)) × Bool × (List (List Bool)))):=fun (l7,changed3,k) =>
  M.grd (decide ((b:Int)<(w_.length:Int))) <|
  bif decide ((k:Int)<(((w_.getD b default).of).length:Int)) then (
  M.grd (decide ((k:Int)<(((w_.getD b default).of).length:Int))) <|
  M.bind (M.iter (zcy w_ b k) (l7,changed3,0)) fun (l5,changed2,l6) =>
  M.pure (.inl (l6,changed2,k+1)))
  else (
  M.pure (.inr (l7,changed3,l7)))
def zcd (w_:List Work):((List (List Bool)) × Bool × Nat)->M (((List (List Bool)) × Bool × Nat) ⊕ ((List (List Bool)) × Bool × (List (List Bool)))):=fun (aa,changed5,b) =>
  bif decide ((b:Int)<(w_.length:Int)) then (
  M.bind (M.iter (zcX w_ b) (aa,changed5,0)) fun (l8,changed4,l9) =>
  M.pure (.inl (l9,changed4,b+1)))
  else (
  M.pure (.inr (aa,changed5,aa)))
def zd9 (w_:List Work):((List (List Bool)) × Bool)->M (((List (List Bool)) × Bool) ⊕ ((List (List Bool)) × (List (List Bool)))):=fun (aa,changed7) =>
  bif changed7 then (
  M.bind (M.iter (zcd w_) (aa,false,0)) fun (ac,changed6,ab) =>
  M.pure (.inl (ab,changed6)))
  else (
  M.pure (.inr (aa,aa)))
def zbN (w_:List Work):M (List (List Bool)) :=
  M.bind (M.iter (zdU w_) (0,[])) fun (l2,l3) =>
  M.bind (M.iter (zd9 w_) (l3,true)) fun (ab,aa) =>
  M.pure aa
theorem zdl {R:List Chunk} {aO:Cells} {al:Value} (w_:List Work) (aP:Reads R aO) (au:Sl aO al w_) {r:(List (List Bool))} (hM:(zbN w_).Ends r) (w:World) (H:St w w [] R):Ret Tryz.prog 54 #[al] w fun v w'=>∃ (y0:List (List Bool)) (u0:Value) (aQ:Base),y0=r/\v=u0/\St w w' [cRo aQ] R/\Sl aQ.cells u0 y0:=by
 refine ret_of_W Tryz.func54 rfl rfl rfl ?_;refine kg 14 ?_
 replace H:St w w [cMat (α:=Bool) 92 4 (.slice none 0 0) ([]) ([])] R:=H.nilMat (α:=Bool) 92 4
 have a7:([]:List SV).length=([]:List (List Bool)).length:=rfl
 obtain ⟨a8,aF,a9⟩:=M.e_bind hM
 obtain ⟨aC,aF⟩:=M.e_iter aF
 refine W.loop (fun m σ W=>∃ (i:Nat) (l:List (List Bool)) (aD:Value) (us_l:List SV) (ρ:Env),σ=upds ρ [(0,al),(3,aD),(4,I (i:Int))]/\M.iterN (zdU w_) m (i,l)=some a8/\St w W [cMat (α:=Bool) 92 4 aD us_l l] R/\us_l.length=l.length) ?_ ?_
 ·exact ⟨_,0,[],(.slice none 0 0),[],_,upds_of _ _ ⟨rfl,rfl,rfl,trivial⟩,aF,H,a7⟩
 rintro bK σ bL ⟨i,l,aD,us_l,ρ,rfl,aR,H,hus_l⟩
 obtain ⟨ba,bb,bM,hM,aS⟩:=M.e_iterN aR
 simp only [zdU] at hM
 clear aR
 have bN:=(au).len_le
 refine kg 8 ?_
 refine W.cond (decide ((i:Int)<(w_.length:Int))) rfl (fun am=>?_) (fun am=>?_)
 ·replace hM:=M.e_t hM am
  replace am:=dI am
  have bO:=(au).len_le
  obtain ⟨bP,hM⟩:=M.e_gd hM;refine kg 7 ?_;refine t_mk (α:=Bool) T92 false rfl (n:=(w_.length:Int)) H rfl rfl (by omega) (by omega) (by omega) ?_;intro ax bQ H;replace H:=H.nf
  have ay:=sl_one (H.os 0)
  refine t_bs (α:=SV) T90 [ax] [(⟨ax,ay⟩:SV)] H rfl (.cons (oneCell_cells ay) rfl<|.nil) rfl rfl rfl ?_;intro bR bS H;replace H:=H.nf;obtain ⟨bT,hM⟩:=M.e_gd hM;replace H:=H.pk [2,1,0];refine t_matapp (T:=l) (row:=List.replicate (w_.length) false) (sv:=(⟨ax,ay⟩:SV)) T90 rfl H hus_l rfl rfl rfl (H.os 2) (H.ol 2) (by first | omega | (simp only [List.length_nil] at *; omega)) ?_;intro bc bU H;replace H:=H.nf
  have bf:(us_l++[(⟨ax,ay⟩:SV)]).length=(l++[List.replicate (w_.length) false]).length:=by simp only [List.length_append,List.length_cons,List.length_nil,hus_l]
  refine kg 7 ?_
  exact ⟨ba,bb,i+1,l++[List.replicate (w_.length) false],bc,us_l++[(⟨ax,ay⟩:SV)],_,upds_of _ _ ⟨rfl,rfl,rfl,trivial⟩,M.e_inl hM aS,(H.pk [0]),bf⟩
 replace hM:=M.e_f hM am
 replace am:=dI am
 refine W.exit ?_
 have bg:=M.e_inr hM aS
 subst bg;replace hM:=a9;(try dsimp only at hM);refine kg 6 ?_;obtain ⟨bh,aG,bi⟩:=M.e_bind hM
 obtain ⟨aC,aG⟩:=M.e_iter aG
 refine W.loop (fun m σ W=>∃ (av:List (List Bool)) (changed7:Bool) (az:Value) (us_l13:List SV) (ρ:Env),σ=upds ρ [(0,al),(3,az),(5,B changed7)]/\M.iterN (zd9 w_) m (av,changed7)=some bh/\St w W [cMat (α:=Bool) 92 4 az us_l13 av] R/\us_l13.length=av.length) ?_ ?_
 ·exact ⟨_,l,true,aD,us_l,_,upds_of _ _ ⟨rfl,rfl,rfl,trivial⟩,aG,H,hus_l⟩
 rintro bV σ bW ⟨av,changed7,az,us_l13,ρ,rfl,aT,H,hus_l13⟩
 obtain ⟨bj,bm,bX,hM,aU⟩:=M.e_iterN aT
 simp only [zd9] at hM
 clear aT;refine kg 5 ?_
 refine W.cond changed7 rfl (fun aH=>?_) (fun aH=>?_)
 ·replace hM:=M.e_t hM aH;refine kg 11 ?_;obtain ⟨bn,aI,bo⟩:=M.e_bind hM
  obtain ⟨aC,aI⟩:=M.e_iter aI
  refine W.loop (fun m σ W=>∃ (aw:List (List Bool)) (changed5:Bool) (b:Nat) (aA:Value) (us_l10:List SV) (ρ:Env),σ=upds ρ [(0,al),(3,aA),(5,B changed5),(6,I (b:Int))]/\M.iterN (zcd w_) m (aw,changed5,b)=some bn/\St w W [cMat (α:=Bool) 92 4 aA us_l10 aw] R/\us_l10.length=aw.length) ?_ ?_
  ·exact ⟨_,av,false,0,az,us_l13,_,upds_of _ _ ⟨rfl,rfl,rfl,rfl,trivial⟩,aI,H,hus_l13⟩
  rintro bY σ bZ ⟨aw,changed5,b,aA,us_l10,ρ,rfl,aV,H,hus_l10⟩
  obtain ⟨bp,br,b0,hM,aW⟩:=M.e_iterN aV
  simp only [zcd] at hM
  clear aV
  have b4:=(au).len_le
  refine kg 8 ?_
  refine W.cond (decide ((b:Int)<(w_.length:Int))) rfl (fun ao=>?_) (fun ao=>?_)
  ·replace hM:=M.e_t hM ao
   replace ao:=dI ao
   refine kg 8 ?_;obtain ⟨bt,aJ,bu⟩:=M.e_bind hM
   obtain ⟨aC,aJ⟩:=M.e_iter aJ
   refine W.loop (fun m σ W=>∃ (l7:List (List Bool)) (changed3:Bool) (k:Nat) (aB:Value) (us_l7:List SV) (ρ:Env),σ=upds ρ [(0,al),(3,aB),(5,B changed3),(6,I (b:Int)),(7,I (k:Int))]/\M.iterN (zcX w_ b) m (l7,changed3,k)=some bt/\St w W [cMat (α:=Bool) 92 4 aB us_l7 l7] R/\us_l7.length=l7.length) ?_ ?_
   ·exact ⟨_,aw,changed5,0,aA,us_l10,_,upds_of _ _ ⟨rfl,rfl,rfl,rfl,rfl,trivial⟩,aJ,H,hus_l10⟩
   rintro b5 σ b6 ⟨l7,changed3,k,aB,us_l7,ρ,rfl,aX,H,hus_l7⟩
   obtain ⟨bv,bw,b7,hM,aY⟩:=M.e_iterN aX
   simp only [zcX] at hM
   clear aX;obtain ⟨b8,hM⟩:=M.e_gd hM;refine kg 8 ?_
   obtain ⟨aZ,bx,aE⟩:=Work_at0 au (i:=(b:Int)) (by omega) (by omega)
   replace aE:Sl _ aZ (w_.getD b default).of:=aE
   have b9:=aE.len_le
   refine s_val (x_ld (v:=aZ) rfl (ld_sc Sc22 (At.mono (bx) (aP.at H)))) ?_
   have ca:=(aE).len_le
   refine kg 3 ?_
   refine W.cond (decide ((k:Int)<(((w_.getD b default).of).length:Int))) rfl (fun ap=>?_) (fun ap=>?_)
   ·replace hM:=M.e_t hM ap
    replace ap:=dI ap
    refine kg 9 ?_
    obtain ⟨a0,bz,aK⟩:=Work_at0 au (i:=(b:Int)) (by omega) (by omega)
    replace aK:Sl _ a0 (w_.getD b default).of:=aK
    have cb:=aK.len_le
    refine s_val (x_ld (v:=a0) rfl (ld_sc Sc22 (At.mono (bz) (aP.at H)))) ?_;obtain ⟨cc,hM⟩:=M.e_gd hM;refine kg 10 ?_;obtain ⟨bA,aL,bB⟩:=M.e_bind hM
    obtain ⟨aC,aL⟩:=M.e_iter aL
    refine W.loop (fun m σ W=>∃ (l4:List (List Bool)) (changed:Bool) (a:Nat) (ag:Value) (us_l4:List SV) (ρ:Env),σ=upds ρ [(0,al),(3,ag),(5,B changed),(6,I (b:Int)),(7,I (k:Int)),(8,I (((w_.getD b default).of).getD k 0)),(9,I (a:Int))]/\M.iterN (zcy w_ b k) m (l4,changed,a)=some bA/\St w W [cMat (α:=Bool) 92 4 ag us_l4 l4] R/\us_l4.length=l4.length) ?_ ?_
    ·exact ⟨_,l7,changed3,0,aB,us_l7,_,upds_of _ _ ⟨rfl,rfl,rfl,rfl,rfl,rfl,rfl,trivial⟩,aL,H,hus_l7⟩
    rintro cd σ ce ⟨l4,changed,a,ag,us_l4,ρ,rfl,a4,H,hus_l4⟩
    obtain ⟨a5,a6,cf,hM,aM⟩:=M.e_iterN a4
    simp only [zcy] at hM
    clear a4
    have cg:=(au).len_le
    refine kg 8 ?_
    refine W.cond (decide ((a:Int)<(w_.length:Int))) rfl (fun aq=>?_) (fun aq=>?_)
    ·replace hM:=M.e_t hM aq
     replace aq:=dI aq
     obtain ⟨ah,hM⟩:=M.e_grd hM
     replace ah:=M.imp_of ah
     simp only [Bool.and_eq_true,decide_eq_true_eq] at ah
     refine kg 11 ?_;refine g_val (!((a:Int)==(((w_.getD b default).of).getD k 0))) (gy_f rfl) (fun hg=>x_ix (v:=vat ag 1 (Int.toNat (a:Int))) (gd_of hg (ag)) (gd_of hg (I (a:Int))) (Sl.ix (α:=SV) T90.und T90.size (ownSl (matOuter (H.get (k:=0) rfl))) (by have ae:=hus_l4; have aa:=ah.resolve_left (by rw [hg]; decide); first | exact aa | exact aa.1 | exact aa.2 | omega | (have ac:=hg; simp at ac; omega)) (by have ae:=hus_l4; have aa:=ah.resolve_left (by rw [hg]; decide); first | exact aa | exact aa.1 | exact aa.2 | omega | (have ac:=hg; simp at ac; omega))))<|g_val (!((a:Int)==(((w_.getD b default).of).getD k 0))) (gy_f rfl) (fun hg=>x_ld (v:=((us_l4).getD a default).v) (gd_of hg (vat ag 1 (Int.toNat (a:Int)))) (ld_sc Sc92 (At.mono (matCells (i:=(a:Int)) (H.get (k:=0) rfl) hus_l4 (by have ae:=hus_l4; have aa:=ah.resolve_left (by rw [hg]; decide); first | exact aa | exact aa.1 | exact aa.2 | omega | (have ac:=hg; simp at ac; omega)) (by have ae:=hus_l4; have aa:=ah.resolve_left (by rw [hg]; decide); first | exact aa | exact aa.1 | exact aa.2 | omega | (have ac:=hg; simp at ac; omega))) (ownLe _ (matOuter (H.get (k:=0) rfl)))))) ?_;obtain ⟨aj,hM⟩:=M.e_grd hM
     replace aj:=M.imp_of aj
     simp only [Bool.and_eq_true,decide_eq_true_eq] at aj
     refine kg 1 ?_;refine g_val (!((a:Int)==(((w_.getD b default).of).getD k 0))) (gy_f rfl) (fun hg=>x_ix (v:=vat (((us_l4).getD a default).v) 1 (Int.toNat (((w_.getD b default).of).getD k 0))) (gd_of hg (((us_l4).getD a default).v)) (gd_of hg (I (((w_.getD b default).of).getD k 0))) (Sl.ix (α:=Bool) T92.und T92.size (ownSl (matRow (H.get (k:=0) rfl) hus_l4 (by have ae:=hus_l4; have aa:=ah.resolve_left (by rw [hg]; decide); have ab:=aj.resolve_left (by rw [hg]; decide); first | exact aa | exact aa.1 | exact aa.2 | exact ab | exact ab.1 | exact ab.2 | omega | (have ac:=hg; simp at ac; omega)))) (by have aa:=ah.resolve_left (by rw [hg]; decide); have ab:=aj.resolve_left (by rw [hg]; decide); first | exact aa | exact aa.1 | exact aa.2 | exact ab | exact ab.1 | exact ab.2 | omega | (have ac:=hg; simp at ac; omega)) (by have aa:=ah.resolve_left (by rw [hg]; decide); have ab:=aj.resolve_left (by rw [hg]; decide); first | exact aa | exact aa.1 | exact aa.2 | exact ab | exact ab.1 | exact ab.2 | omega | (have ac:=hg; simp at ac; omega))))<|g_val (!((a:Int)==(((w_.getD b default).of).getD k 0))) (gy_f rfl) (fun hg=>x_ld (v:=B ((l4.getD a ([])).getD (Int.toNat (((w_.getD b default).of).getD k 0)) false)) (gd_of hg (vat (((us_l4).getD a default).v) 1 (Int.toNat (((w_.getD b default).of).getD k 0)))) (ld_sc Sc4 (At.mono (Bool_at (ownSl (matRow (H.get (k:=0) rfl) hus_l4 (by have ae:=hus_l4; have aa:=ah.resolve_left (by rw [hg]; decide); have ab:=aj.resolve_left (by rw [hg]; decide); first | exact aa | exact aa.1 | exact aa.2 | exact ab | exact ab.1 | exact ab.2 | omega | (have ac:=hg; simp at ac; omega)))) (i:=((w_.getD b default).of).getD k 0) (by have aa:=ah.resolve_left (by rw [hg]; decide); have ab:=aj.resolve_left (by rw [hg]; decide); first | exact aa | exact aa.1 | exact aa.2 | exact ab | exact ab.1 | exact ab.2 | omega | (have ac:=hg; simp at ac; omega)) (by have aa:=ah.resolve_left (by rw [hg]; decide); have ab:=aj.resolve_left (by rw [hg]; decide); first | exact aa | exact aa.1 | exact aa.2 | exact ab | exact ab.1 | exact ab.2 | omega | (have ac:=hg; simp at ac; omega))) (ownLe _ (matRow (H.get (k:=0) rfl) hus_l4 (by have ae:=hus_l4; have aa:=ah.resolve_left (by rw [hg]; decide); have ab:=aj.resolve_left (by rw [hg]; decide); first | exact aa | exact aa.1 | exact aa.2 | exact ab | exact ab.1 | exact ab.2 | omega | (have ac:=hg; simp at ac; omega)))))))<|s_val (x_por (b:=(a:Int)==(((w_.getD b default).of).getD k 0)) (r:=(l4.getD a ([])).getD (Int.toNat (((w_.getD b default).of).getD k 0)) false) rfl rfl (fun hb=>gd_of (c:=!((a:Int)==(((w_.getD b default).of).getD k 0))) (by first | exact hb | (rw [hb]; rfl) | simp_all) (B ((l4.getD a ([])).getD (Int.toNat (((w_.getD b default).of).getD k 0)) false))))<|zM (B (((a:Int)==(((w_.getD b default).of).getD k 0))||((l4.getD a ([])).getD (Int.toNat (((w_.getD b default).of).getD k 0)) false))) rfl<|g_val (((a:Int)==(((w_.getD b default).of).getD k 0))||((l4.getD a ([])).getD (Int.toNat (((w_.getD b default).of).getD k 0)) false)) (gy_t rfl) (fun hg=>x_mv (v:=ag) rfl)<|g_val (((a:Int)==(((w_.getD b default).of).getD k 0))||((l4.getD a ([])).getD (Int.toNat (((w_.getD b default).of).getD k 0)) false)) (gy_t rfl) (fun hg=>x_mv (v:=I (a:Int)) rfl) ?_;obtain ⟨ai,hM⟩:=M.e_grd hM
     replace ai:=M.imp_of ai
     simp only [Bool.and_eq_true,decide_eq_true_eq] at ai
     refine g_val (((a:Int)==(((w_.getD b default).of).getD k 0))||((l4.getD a ([])).getD (Int.toNat (((w_.getD b default).of).getD k 0)) false)) (gy_t rfl) (fun hg=>x_ix (v:=vat ag 1 (Int.toNat (a:Int))) (gd_of hg (ag)) (gd_of hg (I (a:Int))) (Sl.ix (α:=SV) T90.und T90.size (ownSl (matOuter (H.get (k:=0) rfl))) (by have ae:=hus_l4; have aa:=ai.resolve_left (by rw [hg]; decide); first | exact aa | exact aa.1 | exact aa.2 | omega | (have ac:=hg; simp at ac; omega)) (by have ae:=hus_l4; have aa:=ai.resolve_left (by rw [hg]; decide); first | exact aa | exact aa.1 | exact aa.2 | omega | (have ac:=hg; simp at ac; omega))))<|g_val (((a:Int)==(((w_.getD b default).of).getD k 0))||((l4.getD a ([])).getD (Int.toNat (((w_.getD b default).of).getD k 0)) false)) (gy_t rfl) (fun hg=>x_ld (v:=((us_l4).getD a default).v) (gd_of hg (vat ag 1 (Int.toNat (a:Int)))) (ld_sc Sc92 (At.mono (matCells (i:=(a:Int)) (H.get (k:=0) rfl) hus_l4 (by have ae:=hus_l4; have aa:=ai.resolve_left (by rw [hg]; decide); first | exact aa | exact aa.1 | exact aa.2 | omega | (have ac:=hg; simp at ac; omega)) (by have ae:=hus_l4; have aa:=ai.resolve_left (by rw [hg]; decide); first | exact aa | exact aa.1 | exact aa.2 | omega | (have ac:=hg; simp at ac; omega))) (ownLe _ (matOuter (H.get (k:=0) rfl))))))<|g_val (((a:Int)==(((w_.getD b default).of).getD k 0))||((l4.getD a ([])).getD (Int.toNat (((w_.getD b default).of).getD k 0)) false)) (gy_t rfl) (fun hg=>x_mv (v:=I (b:Int)) rfl) ?_;obtain ⟨ak,hM⟩:=M.e_grd hM
     replace ak:=M.imp_of ak
     simp only [Bool.and_eq_true,decide_eq_true_eq] at ak
     refine g_val (((a:Int)==(((w_.getD b default).of).getD k 0))||((l4.getD a ([])).getD (Int.toNat (((w_.getD b default).of).getD k 0)) false)) (gy_t rfl) (fun hg=>x_ix (v:=vat (((us_l4).getD a default).v) 1 (Int.toNat (b:Int))) (gd_of hg (((us_l4).getD a default).v)) (gd_of hg (I (b:Int))) (Sl.ix (α:=Bool) T92.und T92.size (ownSl (matRow (H.get (k:=0) rfl) hus_l4 (by have ae:=hus_l4; have aa:=ai.resolve_left (by rw [hg]; decide); have ab:=ak.resolve_left (by rw [hg]; decide); first | exact aa | exact aa.1 | exact aa.2 | exact ab | exact ab.1 | exact ab.2 | omega | (have ac:=hg; simp at ac; omega)))) (by have aa:=ai.resolve_left (by rw [hg]; decide); have ab:=ak.resolve_left (by rw [hg]; decide); first | exact aa | exact aa.1 | exact aa.2 | exact ab | exact ab.1 | exact ab.2 | omega | (have ac:=hg; simp at ac; omega)) (by have aa:=ai.resolve_left (by rw [hg]; decide); have ab:=ak.resolve_left (by rw [hg]; decide); first | exact aa | exact aa.1 | exact aa.2 | exact ab | exact ab.1 | exact ab.2 | omega | (have ac:=hg; simp at ac; omega))))<|g_val (((a:Int)==(((w_.getD b default).of).getD k 0))||((l4.getD a ([])).getD (Int.toNat (((w_.getD b default).of).getD k 0)) false)) (gy_t rfl) (fun hg=>x_ld (v:=B ((l4.getD a ([])).getD b false)) (gd_of hg (vat (((us_l4).getD a default).v) 1 (Int.toNat (b:Int)))) (ld_sc Sc4 (At.mono (Bool_at (ownSl (matRow (H.get (k:=0) rfl) hus_l4 (by have ae:=hus_l4; have aa:=ai.resolve_left (by rw [hg]; decide); have ab:=ak.resolve_left (by rw [hg]; decide); first | exact aa | exact aa.1 | exact aa.2 | exact ab | exact ab.1 | exact ab.2 | omega | (have ac:=hg; simp at ac; omega)))) (i:=(b:Int)) (by have aa:=ai.resolve_left (by rw [hg]; decide); have ab:=ak.resolve_left (by rw [hg]; decide); first | exact aa | exact aa.1 | exact aa.2 | exact ab | exact ab.1 | exact ab.2 | omega | (have ac:=hg; simp at ac; omega)) (by have aa:=ai.resolve_left (by rw [hg]; decide); have ab:=ak.resolve_left (by rw [hg]; decide); first | exact aa | exact aa.1 | exact aa.2 | exact ab | exact ab.1 | exact ab.2 | omega | (have ac:=hg; simp at ac; omega))) (ownLe _ (matRow (H.get (k:=0) rfl) hus_l4 (by have ae:=hus_l4; have aa:=ai.resolve_left (by rw [hg]; decide); have ab:=ak.resolve_left (by rw [hg]; decide); first | exact aa | exact aa.1 | exact aa.2 | exact ab | exact ab.1 | exact ab.2 | omega | (have ac:=hg; simp at ac; omega)))))))<|g_val (((a:Int)==(((w_.getD b default).of).getD k 0))||((l4.getD a ([])).getD (Int.toNat (((w_.getD b default).of).getD k 0)) false)) (gy_t rfl) (fun hg=>x_not (b:=(l4.getD a ([])).getD b false) (gd_of hg (B ((l4.getD a ([])).getD b false))))<|s_val (x_pand (b:=(((a:Int)==(((w_.getD b default).of).getD k 0))||((l4.getD a ([])).getD (Int.toNat (((w_.getD b default).of).getD k 0)) false))) (r:=!((l4.getD a ([])).getD b false)) rfl (fun hb=>gd_of (c:=(((a:Int)==(((w_.getD b default).of).getD k 0))||((l4.getD a ([])).getD (Int.toNat (((w_.getD b default).of).getD k 0)) false))) (by first | exact hb | (rw [hb]; rfl) | simp_all) (B (!((l4.getD a ([])).getD b false)))) rfl)<|s_nil ?_
     refine W.cond ((((a:Int)==(((w_.getD b default).of).getD k 0))||((l4.getD a ([])).getD (Int.toNat (((w_.getD b default).of).getD k 0)) false))&&(!((l4.getD a ([])).getD b false))) rfl (fun aN=>?_) (fun aN=>?_)
     ·replace hM:=M.e_t hM aN;obtain ⟨ch,hM⟩:=M.e_gd hM;refine kg 4 ?_;refine s_val (x_ix (v:=vat ag 1 (Int.toNat (a:Int))) rfl rfl (Sl.ix (α:=SV) T90.und T90.size (ownSl (matOuter (H.get (k:=0) rfl))) (by have ae:=hus_l4; omega) (by have ae:=hus_l4; omega)))<|s_val (x_ld (v:=((us_l4).getD a default).v) rfl (ld_sc Sc92 (At.mono (matCells (i:=(a:Int)) (H.get (k:=0) rfl) hus_l4 (by have ae:=hus_l4; omega) (by have ae:=hus_l4; omega)) (ownLe _ (matOuter (H.get (k:=0) rfl)))))) ?_;obtain ⟨ci,hM⟩:=M.e_gd hM;refine kg 1 ?_;refine s_val (x_ix (v:=vat (((us_l4).getD a default).v) 1 (Int.toNat (b:Int))) rfl rfl (Sl.ix (α:=Bool) T92.und T92.size (ownSl (matRow (H.get (k:=0) rfl) hus_l4 (by have ae:=hus_l4; omega))) (by omega) (by omega))) ?_;refine t_matst (k:=0) (i:=a) (j:=(b:Int)) (T:=l4) (T':=l4.set a ((l4.getD a ([])).set b true)) (L':=[cMat (α:=Bool) 92 4 ag us_l4 (l4.set a ((l4.getD a ([])).set b true))]) H rfl hus_l4 Sz4 (by have ae:=hus_l4; omega) (by omega) (by omega) true rfl rfl rfl rfl rfl ?_;intro cj H
      have bC:(us_l4).length=(l4.set a ((l4.getD a ([])).set b true)).length:=hus_l4.trans (List.length_set).symm
      refine kg 9 ?_
      exact ⟨a5,a6,l4.set a ((l4.getD a ([])).set b true),true,a+1,ag,us_l4,_,upds_of _ _ ⟨rfl,rfl,rfl,rfl,rfl,rfl,rfl,trivial⟩,M.e_inl hM aM,H,bC⟩
     replace hM:=M.e_f hM aN;refine kg 6 ?_
     exact ⟨a5,a6,l4,changed,a+1,ag,us_l4,_,upds_of _ _ ⟨rfl,rfl,rfl,rfl,rfl,rfl,rfl,trivial⟩,M.e_inl hM aM,H,hus_l4⟩
    replace hM:=M.e_f hM aq
    replace aq:=dI aq
    refine W.exit ?_
    have bD:=M.e_inr hM aM
    subst bD;replace hM:=bB;(try dsimp only at hM);refine kg 5 ?_
    exact ⟨bv,bw,l4,changed,k+1,ag,us_l4,_,upds_of _ _ ⟨rfl,rfl,rfl,rfl,rfl,trivial⟩,M.e_inl hM aY,H,hus_l4⟩
   replace hM:=M.e_f hM ap
   replace ap:=dI ap
   refine W.exit ?_
   have bE:=M.e_inr hM aY
   subst bE;replace hM:=bu;(try dsimp only at hM);refine kg 5 ?_
   exact ⟨bp,br,l7,changed3,b+1,aB,us_l7,_,upds_of _ _ ⟨rfl,rfl,rfl,rfl,trivial⟩,M.e_inl hM aW,H,hus_l7⟩
  replace hM:=M.e_f hM ao
  replace ao:=dI ao
  refine W.exit ?_
  have bF:=M.e_inr hM aW
  subst bF;replace hM:=bo;(try dsimp only at hM)
  exact ⟨bj,bm,aw,changed5,aA,us_l10,_,upds_of _ _ ⟨rfl,rfl,rfl,trivial⟩,M.e_inl hM aU,H,hus_l10⟩
 replace hM:=M.e_f hM aH;refine W.exit ?_
 have bG:=M.e_inr hM aU
 subst bG;replace hM:=bi;(try dsimp only at hM);refine kg 5 ?_;refine W.ret ?_
 obtain ⟨bH,H,bI⟩:=H.matE (k:=0) rfl hus_l13
 replace H:=H.nf
 have bJ:=M.e_pure hM
 exact ⟨_,resE_tmp rfl,⟨av,az,bH,bJ,rfl,H,bI⟩⟩

def zcc (w_:List Work) (r3:List (List Bool)):Nat->M (Nat ⊕ (Unit ⊕ Unit)):=fun i =>
  bif decide ((i:Int)<(w_.length:Int)) then (
  M.grd (decide ((i:Int)<(r3.length:Int))) <|
  M.grd (decide ((i:Int)<((r3.getD i ([])).length:Int))) <|
  bif (r3.getD i ([])).getD i false then (
  M.pure (.inr (.inl ())))
  else (
  M.pure (.inl (i+1))))
  else (
  M.pure (.inr (.inr ())))
def zaK (w_:List Work):M Int :=
  M.bind (zfm w_) fun r2 =>
  bif r2 != 0 then (
  M.pure r2)
  else (
  M.bind (zbN w_) fun r3 =>
  M.bind (M.iter (zcc w_ r3) 0) fun x_=>match x_ with
  | (.inl (_:Unit))=>(
  M.pure 9)
  | (.inr (_:Unit))=>(
  M.pure 0))
theorem zbe {R:List Chunk} {am:Cells} {ac:Value} (w_:List Work) (ao:Reads R am) (ai:Sl am ac w_) {r:Int} (hM:(zaK w_).Ends r) (w:World) (H:St w w [] R):Ret Tryz.prog 14 #[ac] w fun v w'=>∃ (y0:Int),y0=r/\v=I y0/\St w w' [] R:=by
 refine ret_of_W Tryz.func14 rfl rfl rfl ?_;refine kg 8 ?_;obtain ⟨aG,av,hM⟩:=M.e_bind hM;refine s_call cf53 [ac] rfl (zgh w_ (ao.app _) ai av _ (H.gt 0)) ?_
 rintro vq aH ⟨r2,rfl,hvq,ae⟩
 subst vq;(try dsimp only at hM);replace H:=H.bk ae;clear ae;refine kg 7 ?_
 refine W.cond (r2 != 0) rfl (fun aa=>?_) (fun aa=>?_)
 ·replace hM:=M.e_t hM aa
  replace aa:=dI aa
  refine kg 5 ?_;refine W.ret ?_
  have ag:=M.e_pure hM
  exact ⟨_,resE_tmp rfl,⟨r2,ag,rfl,H⟩⟩
 replace hM:=M.e_f hM aa
 replace aa:=dI aa
 refine kg 4 ?_;obtain ⟨aI,aw,hM⟩:=M.e_bind hM;refine s_call cf54 [ac] rfl (zdl w_ (ao.app _) ai aw _ (H.gt 0)) ?_
 rintro vq aJ ⟨r3,ax,ay,rfl,hvq,ae,az⟩
 subst vq;(try dsimp only at hM);replace H:=H.bk ae;clear ae;refine kg 8 ?_;obtain ⟨aA,aj,ap⟩:=M.e_bind hM
 obtain ⟨aK,aj⟩:=M.e_iter aj
 refine W.loop (fun m σ W=>∃ (i:Nat) (ρ:Env),σ=upds ρ [(0,ac),(4,ax),(5,I (i:Int))]/\M.iterN (zcc w_ r3) m i=some aA/\St w W [cRo ay] R) ?_ ?_
 ·exact ⟨_,0,_,upds_of _ _ ⟨rfl,rfl,rfl,trivial⟩,aj,H⟩
 rintro aL σ aM ⟨i,ρ,rfl,aq,H⟩
 obtain ⟨aB,aC,aN,hM,ak⟩:=M.e_iterN aq
 simp only [zcc] at hM
 clear aq
 have aO:=(ai).len_le
 refine kg 8 ?_
 refine W.cond (decide ((i:Int)<(w_.length:Int))) rfl (fun ab=>?_) (fun ab=>?_)
 ·replace hM:=M.e_t hM ab
  replace ab:=dI ab
  obtain ⟨aP,hM⟩:=M.e_gd hM;refine kg 8 ?_
  obtain ⟨au,aD,ah⟩:=List_at az (i:=(i:Int)) (by omega) (by omega)
  replace ah:Sl _ au (r3.getD i ([])):=ah
  have aQ:=ah.len_le
  refine s_val (x_ld (v:=au) rfl (ld_sc Sc92 (At.mono (aD) (roLe _ (H.get (k:=0) rfl))))) ?_;obtain ⟨aR,hM⟩:=M.e_gd hM;refine kg 2 ?_;refine s_val (x_ld (v:=B ((r3.getD i ([])).getD i false)) rfl (ld_sc Sc4 (At.mono (Bool_at ah (i:=(i:Int)) (by omega) (by omega)) (roLe _ (H.get (k:=0) rfl)))))<|s_nil ?_
  refine W.cond ((r3.getD i ([])).getD i false) rfl (fun al=>?_) (fun al=>?_)
  ·replace hM:=M.e_t hM al;refine kg 4 ?_;refine W.ret ?_
   have aE:=M.e_inr hM ak
   subst aE;replace hM:=ap;(try dsimp only at hM)
   have ag:=M.e_pure hM
   exact ⟨_,resE_tmp rfl,⟨9,ag,rfl,(H.pk [])⟩⟩
  replace hM:=M.e_f hM al;refine kg 6 ?_
  exact ⟨aB,aC,i+1,_,upds_of _ _ ⟨rfl,rfl,rfl,trivial⟩,M.e_inl hM ak,H⟩
 replace hM:=M.e_f hM ab
 replace ab:=dI ab
 refine W.exit ?_
 have aF:=M.e_inr hM ak
 subst aF;replace hM:=ap;(try dsimp only at hM);refine kg 4 ?_;refine W.ret ?_
 have ag:=M.e_pure hM
 exact ⟨_,resE_tmp rfl,⟨0,ag,rfl,(H.pk [])⟩⟩

def zbv (w_:List Work):M Int :=
  M.bind (zaD w_) fun x_=>match x_ with
  | (.inl r2)=>(
  M.pure r2)
  | (.inr (r1,aa))=>(
  M.pure aa)
theorem zat {R:List Chunk} {ae:Cells} {ab:Value} (w_:List Work) (ag:Reads R ae) (ah:Sl ae ab w_) {r:Int} (hM:(zbv w_).Ends r) (w:World) (H:St w w [] R):Ret Tryz.prog 9 #[ab] w fun v w'=>∃ (y0:Int),y0=r/\v=I y0/\St w w' [] R:=by
 refine ret_of_W Tryz.func9 rfl rfl rfl ?_;refine kg 7 ?_;obtain ⟨am,ai,hM⟩:=M.e_bind hM;refine s_call cf51 [ab] rfl (zaO w_ (ag.app _) ah ai _ (H.gt 0)) ?_
 rintro vq ao (⟨r2,aj,hvq,aa⟩ | ⟨r1,ak,ap,aq,al,hvq,aa⟩)
 ·subst aj;subst vq;(try dsimp only at hM);replace H:=H.bk aa;clear aa;refine kg 13 ?_;refine W.ret ?_
  have ac:=M.e_pure hM
  exact ⟨_,resE_tmp rfl,⟨r2,ac,rfl,H⟩⟩
 subst al;subst vq;(try dsimp only at hM);replace H:=H.bk aa;clear aa;refine kg 8 ?_;replace H:=H.pk [];refine kg 5 ?_;refine W.ret ?_
 have ac:=M.e_pure hM
 exact ⟨_,resE_tmp rfl,⟨ak,ac,rfl,H⟩⟩

def ze4 (s:List Int):M (List Int) :=
  M.grd (decide (0<s.length)) <|
  M.grd (decide ((([]:List Int).length+s.length)*8<=140737488355328)) <|
  M.pure s
theorem zf3 {R:List Chunk} {ab:Cells} {aa:Value} (s:List Int) (ag:Reads R ab) (ac:Sl ab aa s) {r:(List Int)} (hM:(ze4 s).Ends r) (w:World) (H:St w w [] R):Ret Tryz.prog 59 #[aa] w fun v w'=>∃ (y0:List Int) (u0:Value),y0=r/\v=u0/\St w w' [cOwn (α:=Int) 3 u0 y0] R:=by
 refine ret_of_W Tryz.func59 rfl rfl rfl ?_;obtain ⟨aj,hM⟩:=M.e_gd hM;refine kg 8 ?_;refine s_val (x_eqnilp (α:=Int) T22.und rfl rfl ac (by omega))<|s_nil ?_
 refine W.cond false rfl (fun ae=>?_) (fun ae=>?_)
 ·skip
  exact absurd ae (by decide)
 skip
 refine kg 3 ?_;refine t_bs0 (α:=Int) T22 H ?_;intro ak al H;obtain ⟨am,hM⟩:=M.e_gd hM;refine kg 1 ?_;refine t_app (α:=Int) (k:=0) (l:=[]) (l2:=s) (l':=s) (vy:=aa) T22 rfl H rfl rfl rfl ac (ag.at H) (List.nil_append _) (by first | omega | (simp only [List.length_nil] at *; omega)) ?_;intro ah ao H;replace H:=H.nf;refine kg 2 ?_;refine W.ret ?_
 have ai:=M.e_pure hM
 exact ⟨_,resE_tmp rfl,⟨s,ah,ai,rfl,H⟩⟩

def zd1 (k:Int) (aa:List Int):M Bool :=
  M.bind (zak aa k) fun r2 =>
  M.pure (!r2)
theorem zfW {R:List Chunk} {ac:Nat} {ae:Cells} {aa:Value} (k:Int) (ab:List Int) (ah:Reads R ae) (ai:Sl ae aa ab) (al:Has R (cBlk ac [aa] 22)) {r:Bool} (hM:(zd1 k ab).Ends r) (w:World) (H:St w w [] R):Ret Tryz.prog 61 #[I k,Pq ac] w fun v w'=>∃ (y0:Bool),y0=r/\v=B y0/\St w w' [] R:=by
 refine ret_of_W Tryz.func61 rfl rfl rfl ?_;refine kg 8 ?_;obtain ⟨am,aj,hM⟩:=M.e_bind hM;refine s_call cf62 [aa,I k] rfl (zaq ab k (ah.app _) ai aj _ (H.gt 0)) ?_
 rintro vq ao ⟨r2,rfl,hvq,ag⟩
 subst vq;(try dsimp only at hM);replace H:=H.bk ag;clear ag;refine kg 3 ?_;refine W.ret ?_
 have ak:=M.e_pure hM
 exact ⟨_,resE_tmp rfl,⟨(!r2),ak,rfl,H⟩⟩

def zbJ (ae:(Int × (List Int) × (List Work) × (List Int))->M ((List Int) × (List Int))):(Int × (List Int) × (List Work) × (List Int))->M ((List Int) × (List Int)):=fun (i,aa,ab,ac) =>
  M.bind (zbK aa i) fun r2 =>
  bif r2 != (-1) then (
  M.grd (decide ((0:Int)<=r2)&&decide (r2<=(aa.length:Int))) <|
  M.bind (ze4 (aa.drop (Int.toNat r2))) fun r3 =>
  M.pure (r3,aa))
  else (
  M.grd (decide ((aa.length+([(i:Int)]).length)*8<=140737488355328)) <|
  M.grd (decide ((0:Int)<=i)&&decide (i<(ab.length:Int))) <|
  M.bind (zaR ((ab.getD (Int.toNat i) default).of) (fun ag=>zd1 ag ac)) fun r4 =>
  M.grd (decide ((0:Int)<=r4)&&decide (r4<(((ab.getD (Int.toNat i) default).of).length:Int))) <|
  M.bind (ae ((((ab.getD (Int.toNat i) default).of).getD (Int.toNat r4) 0),(aa++([(i:Int)])),ab,ac)) fun (r5,l_k02) =>
  M.pure (r5,l_k02))
theorem zfQ  : M.Mon zbJ:=by
  intro n f g h a
  obtain ⟨i,aa,ab,ac⟩:=a
  simp only [zbJ]
  repeat' (first | exact M.le_same _ _ | exact h _ | refine M.le_grd ?_ | refine M.le_if ?_ ?_ | refine M.le_bind ?_ (fun x=>?_) | refine M.le_opt ?_ | refine M.le_iter (fun x=>?_) _ | refine zbS (M.le_yl (fun s_ a_=>?_)) _ _ _ | (rename_i x; cases x) | (rename_i x; obtain ⟨_,_⟩:=x))
def zez (i:Int) (aa:List Int) (ab:List Work) (ac:List Int):M ((List Int) × (List Int)):=M.fix zbJ zfQ (i,aa,ab,ac)
theorem zf0 (n_:Nat):∀ {R:List Chunk} {aj:Nat} {ag:Value} {al:Nat} {ap:Cells} {aq:Value} {ae:Nat} {au:Cells} {av:Value} {am:Nat} (i:Int) (aa:List Int) (ac:List Work) (ah:List Int) (ak:Reads R ap) (ao:Sl ap aq ac) (aA:Has R (cBlk al [aq] 23)) (aw:Reads R au) (ax:Sl au av ah) (ay:Has R (cBlk ae [av] 22)) (aB:Has R (cBlk am [.func (.func 57) #[] #[Pq aj,Pq al,Pq ae,Pq am]] 99)) {r:((List Int) × (List Int))} (hM:(M.fixN zbJ n_ (i,aa,ac,ah)).Ends r) (w:World) (H:St w w [cOwn (α:=Int) 3 ag aa,cBlk aj [ag] 22] R),Ret Tryz.prog 57 #[I i,Pq aj,Pq al,Pq ae,Pq am] w fun v w'=>∃ (y0:List Int) (y1:List Int) (u0:Value) (u1:Value),(y0,y1)=r/\v=u0/\St w w' [cOwn (α:=Int) 3 u0 y0,cOwn (α:=Int) 3 u1 y1,cBlk aj [u1] 22] R:=by
  induction n_ with
  | zero=>intro R aj ag al ap aq ae au av am i aa ac ah ak ao aA aw ax ay aB r hM w H; exact (M.e_fail hM).elim
  | succ n_ ih =>
    intro R aj ag al ap aq ae au av am i aa ac ah ak ao aA aw ax ay aB r hM w H;refine ret_of_W Tryz.func57 rfl rfl rfl ?_;refine kg 9 ?_;obtain ⟨a7,aN,hM⟩:=M.e_bind hM;refine s_call cf58 [ag,I i] rfl (zaP aa i (rdo 0) (H.os 0) aN _ (H.gt 2)) ?_
    rintro vq a8 ⟨r2,rfl,hvq,ab⟩
    subst vq;(try dsimp only at hM);replace H:=H.bk ab;clear ab;refine kg 7 ?_
    refine W.cond (r2 != (-1)) rfl (fun ai=>?_) (fun ai=>?_)
    ·replace hM:=M.e_t hM ai
     replace ai:=dI ai
     obtain ⟨a9,hM⟩:=M.e_gd hM;refine kg 4 ?_
     obtain ⟨aC,aO,aD⟩:=sl_lo T22.und T22.size (H.os 0) (i:=r2) (by omega) (by omega)
     replace aD:Sl _ aC (aa.drop (Int.toNat r2)):=aD
     refine s_val (x_sl (v:=ag) (u:=aC) (lo':=some (I r2)) (hi':=none) (mx':=none) rfl rfl rfl rfl (aO _)) ?_;obtain ⟨ba,aP,hM⟩:=M.e_bind hM;refine s_call cf59 [aC] rfl (zf3 (aa.drop (Int.toNat r2)) (rdo 0) aD aP _ (H.gt 2)) ?_
     rintro vq bb ⟨r3,aQ,rfl,hvq,ab⟩
     subst vq;(try dsimp only at hM);replace H:=H.bk ab;clear ab;refine kg 2 ?_;refine W.ret ?_
     have aE:=M.e_pure hM
     exact ⟨_,resE_tmp rfl,⟨r3,aa,aQ,ag,aE,rfl,H⟩⟩
    replace hM:=M.e_f hM ai
    replace ai:=dI ai
    refine kg 5 ?_;refine t_bs (α:=Int) T22 [I i] [(i:Int)] H rfl (.cons rfl (Flat.rep_enc _ (i:Int))<|.nil) rfl rfl rfl ?_;intro aI bc H;obtain ⟨bf,hM⟩:=M.e_gd hM;refine t_app (α:=Int) (k:=1) (l:=aa) (l2:=[(i:Int)]) (l':=aa++([(i:Int)])) (vy:=aI) T22 rfl H rfl rfl rfl (H.os 0) (H.ol 0) (rfl) (by first | omega | (simp only [List.length_nil] at *; omega)) ?_;intro aJ bg H;replace H:=H.nf;refine t_sw 2 0 [aJ] aJ H rfl rfl Sz22 (Sl.cells (H.os 1)) rfl rfl (by simp only [List.all_cons,List.all_nil,Bool.true_and,Bool.and_true,Sl.oc (H.os 1)]; try rfl) ?_;intro bh H;obtain ⟨bi,hM⟩:=M.e_gd hM;refine kg 7 ?_
    obtain ⟨aF,aR,az⟩:=Work_at0 ao (i:=i) (by omega) (by omega)
    replace az:Sl _ aF (ac.getD (Int.toNat i) default).of:=az
    have bj:=az.len_le
    refine s_val (x_ld (v:=aF) rfl (ld_sc Sc22 (At.mono (aR) (ak.at H))))<|s_val (x_mf (fs:=[]) (cs:=[Pq ae]) rfl rfl) ?_;obtain ⟨bm,aS,hM⟩:=M.e_bind hM;refine s_call cf60 [aF,.func (.func 61) #[] #[Pq ae]] rfl (zbo ((ac.getD (Int.toNat i) default).of) (fun aG=>zd1 aG ah) (ak.app _) az ⟨61,[Pq ae],rfl,cf61,fun aK bn bo aT aG bp aU br aV aW=>by obtain rfl:=Arg.int aV; exact (zfW aG ah (Reads.app (aw.app _) _) ax (Has.app (ay.app _) _) aW aK (St.refl aU)).mono fun aT aK ⟨bt,aX,aY,aZ⟩=>by subst aX; exact ⟨aY,aZ⟩⟩ aS _ (H.gt 3)) ?_
    rintro vq bu ⟨r4,rfl,hvq,ab⟩
    subst vq;(try dsimp only at hM);replace H:=H.bk ab;clear ab;refine kg 3 ?_;refine W.draw (fun W=>St w W [cOwn (α:=Int) 3 aI ([(i:Int)])] R) [(0,true),(1,true),(2,true),(3,true),(4,true),(5,true),(6,true),(7,true),(8,true),(9,false),(10,true)] mixed (by decide +kernel) rfl ?_;intro bv aL;replace H:=H.ext aL;clear aL
    refine ⟨(H.pk [0]),?_⟩
    refine kg 5 ?_
    obtain ⟨aM,a0,aH⟩:=Work_at0 ao (i:=i) (by omega) (by omega)
    replace aH:Sl _ aM (ac.getD (Int.toNat i) default).of:=aH
    have bw:=aH.len_le
    refine d_q rfl (fun w' H=>x_ld (v:=aM) rfl (ld_sc Sc22 (At.mono (a0) (ak.at H)))) ?_;obtain ⟨bx,hM⟩:=M.e_gd hM;refine kg 3 ?_;refine d_l rfl ?_;obtain ⟨bz,a4,hM⟩:=M.e_bind hM;refine s_callv (f:=57) rfl cf57 [I (((ac.getD (Int.toNat i) default).of).getD (Int.toNat r4) 0)] rfl (ih (((ac.getD (Int.toNat i) default).of).getD (Int.toNat r4) 0) (aa++([(i:Int)])) ac ah (ak.app _) ao (aA.app _) (aw.app _) ax (ay.app _) (aB.app _) a4 _ ((H.pk [1,2,0]).gt 1)) ?_
    rintro vq bA ⟨r5,l_k02,a5,a6,rfl,hvq,ab⟩
    subst vq;(try dsimp only at hM)
    replace H:=H.pk [1,2,0] |>.bk ab
    clear ab
    have bB:=Sl.cells (H.os 0)
    have bC:=Sl.oc (H.os 0)
    have bD:=Sl.cells (H.os 1)
    have bE:=Sl.oc (H.os 1)
    refine s_nil ⟨(H.pk [3]),?_⟩
    refine kg 2 ?_;refine W.ret ?_
    have aE:=M.e_pure hM
    exact ⟨_,resE_tmp rfl,⟨r5,l_k02,a5,a6,aE,rfl,(H.pk [0,1,2])⟩⟩
theorem zfX {R:List Chunk} {aa:Nat} {aj:Value} {ab:Nat} {ak:Cells} {al:Value} {ac:Nat} {am:Cells} {ao:Value} {ae:Nat} (i:Int) (ag:List Int) (ah:List Work) (ai:List Int) (ap:Reads R ak) (aq:Sl ak al ah) (au:Has R (cBlk ab [al] 23)) (av:Reads R am) (aw:Sl am ao ai) (ax:Has R (cBlk ac [ao] 22)) (ay:Has R (cBlk ae [.func (.func 57) #[] #[Pq aa,Pq ab,Pq ac,Pq ae]] 99)) {r:((List Int) × (List Int))} (hM:(zez i ag ah ai).Ends r) (w:World) (H:St w w [cOwn (α:=Int) 3 aj ag,cBlk aa [aj] 22] R):Ret Tryz.prog 57 #[I i,Pq aa,Pq ab,Pq ac,Pq ae] w fun v w'=>∃ (y0:List Int) (y1:List Int) (u0:Value) (u1:Value),(y0,y1)=r/\v=u0/\St w w' [cOwn (α:=Int) 3 u0 y0,cOwn (α:=Int) 3 u1 y1,cBlk aa [u1] 22] R:=by
  obtain ⟨n_,hM⟩:=M.e_fix hM
  exact zf0 n_ i ag ah ai ap aq au av aw ax ay hM w H

end Go.Proofs.YtkclldpnmolljaaGreat
end
section
set_option maxRecDepth 100000
set_option maxHeartbeats 16000000
namespace Go.Proofs.YtkclldpnmolljaaGreat
open Go Go.Nm
attribute [local irreducible] gd execOp SL SLD SLT WR
def zdF (w_:List Work) (r3:List Int):Nat->M (Nat ⊕ (((List Int) × (List Int)) ⊕ Unit)):=fun s =>
  bif decide ((s:Int)<(w_.length:Int)) then (
  M.bind (zak r3 (s:Int)) fun r4 =>
  bif !r4 then (
  M.bind (zez (s:Int) ([]:List Int) w_ r3) fun (r5,l_k02) =>
  M.pure (.inr (.inl (r5,l_k02))))
  else (
  M.pure (.inl (s+1))))
  else (
  M.pure (.inr (.inr ())))
def zfi (w_:List Work):M ((List Int) × Int) :=
  M.bind (zci w_) fun r2 =>
  bif r2 != 0 then (
  M.pure (([]),r2))
  else (
  M.bind (zdq w_) fun r3 =>
  M.bind (M.iter (zdF w_ r3) 0) fun x_=>match x_ with
  | (.inl (l,l2))=>(
  M.pure (l,0))
  | (.inr (_:Unit))=>(
  M.pure (([]),5)))
theorem zgt {R:List Chunk} {av:Cells} {aa:Value} (w_:List Work) (ao:Reads R av) (ag:Sl av aa w_) {r:((List Int) × Int)} (hM:(zfi w_).Ends r) (w:World) (H:St w w [] R):Ret Tryz.prog 16 #[aa] w fun v w'=>∃ (y0:List Int) (y1:Int) (u0:Value),(y0,y1)=r/\v = .tuple #[u0,I y1]/\St w w' [cOwn (α:=Int) 3 u0 y0] R:=by
 refine ret_of_W Tryz.func16 rfl rfl rfl ?_;refine kg 2 ?_;refine t_box (v:=aa) (cs:=[aa]) H rfl (Sl.cells ag) ?_;intro aj aJ H;refine kg 7 ?_;obtain ⟨aK,az,hM⟩:=M.e_bind hM;refine s_call cf55 [aa] rfl (ze7 w_ (ao.app _) ag az _ (H.gt 1)) ?_
 rintro vq aL ⟨r2,rfl,hvq,ab⟩
 subst vq;(try dsimp only at hM);replace H:=H.bk ab;clear ab;refine kg 7 ?_
 refine W.cond (r2 != 0) rfl (fun ac=>?_) (fun ac=>?_)
 ·replace hM:=M.e_t hM ac
  replace ac:=dI ac
  refine kg 6 ?_;refine W.ret ?_
  have ak:=M.e_pure hM
  replace H:=H.nilOwn (α:=Int) 3
  exact ⟨_,resE_tmp2 rfl,⟨([]),r2,(.slice none 0 0),ak,rfl,(H.pk [0])⟩⟩
 replace hM:=M.e_f hM ac
 replace ac:=dI ac
 refine kg 4 ?_;refine s_val (x_bld (ps:=[(0,aa)]) (zs:=[.slice none 0 0]) (L':=[aa]) rfl Tryz.underlying95 Al95 rfl (Bd95 Tryz.underlying95) (.cons (cs:=[aa]) (Sl.cells ag) rfl rfl rfl rfl<|.nil))<|s_val (x_bld (ps:=[(0,.agg #[aa])]) (zs:=[.slice none 0 0]) (L':=[aa]) rfl Tryz.underlying97 Al97 rfl (Bd97 Tryz.underlying97) (.cons (cs:=[aa]) rfl rfl rfl rfl rfl<|.nil)) ?_;refine t_bx [aa] H rfl ?_;intro aw aM H;refine kg 5 ?_;obtain ⟨aN,aA,hM⟩:=M.e_bind hM;refine s_call cf56 [Pq aw] rfl (zeM w_ (ao.app _) ag (Has.here (k:=0) rfl) aA _ (H.gt 2)) ?_
 rintro vq aO ⟨r3,al,rfl,hvq,ab⟩
 subst vq;(try dsimp only at hM);replace H:=H.bk ab;clear ab;refine t_alloc (cs:=[.slice none 0 0]) H Al22 rfl ?_;intro ah aP H;refine t_sw 0 0 [al] al H rfl rfl Sz22 (Sl.cells (H.os 1)) rfl rfl (by simp only [List.all_cons,List.all_nil,Bool.true_and,Bool.and_true,Sl.oc (H.os 1)]; try rfl) ?_;intro aQ H;refine kg 3 ?_;refine t_alloc (cs:=[.slice none 0 0]) H Al22 rfl ?_;intro am aR H;refine kg 3 ?_;refine t_alloc (cs:=[.nilFunc]) H Al99 rfl ?_;intro ai aS H;refine kg 3 ?_;refine s_val (x_mf (fs:=[]) (cs:=[Pq am,Pq aj,Pq ah,Pq ai]) rfl rfl) ?_;refine t_sw 0 0 [.func (.func 57) #[] #[Pq am,Pq aj,Pq ah,Pq ai]] (.func (.func 57) #[] #[Pq am,Pq aj,Pq ah,Pq ai]) H rfl rfl Sz99 rfl rfl rfl rfl ?_;intro aT H
 have aU:=(ag).len_le
 refine kg 9 ?_;obtain ⟨aB,ap,ax⟩:=M.e_bind hM
 obtain ⟨aV,ap⟩:=M.e_iter ap
 refine W.loop (fun m σ W=>∃ (s:Nat) (ρ:Env),σ=upds ρ [(6,Pq ah),(8,Pq ai),(23,I (w_.length:Int)),(24,I (s:Int))]/\M.iterN (zdF w_ r3) m s=some aB/\St w W [cBlk ai [.func (.func 57) #[] #[Pq am,Pq aj,Pq ah,Pq ai]] 99,cBlk am [.slice none 0 0] 22,cBlk ah [al] 22,cOwn (α:=Int) 3 al r3,cBlk aw [aa] 97,cBlk aj [aa] 23] R) ?_ ?_
 ·exact ⟨_,0,_,upds_of _ _ ⟨rfl,rfl,rfl,rfl,trivial⟩,ap,H⟩
 rintro aW σ aX ⟨s,ρ,rfl,ay,H⟩
 obtain ⟨aC,aD,aY,hM,aq⟩:=M.e_iterN ay
 simp only [zdF] at hM
 clear ay;refine kg 5 ?_
 refine W.cond (decide ((s:Int)<(w_.length:Int))) rfl (fun ae=>?_) (fun ae=>?_)
 ·replace hM:=M.e_t hM ae
  replace ae:=dI ae
  refine kg 12 ?_;obtain ⟨aZ,aE,hM⟩:=M.e_bind hM;refine s_call cf62 [al,I (s:Int)] rfl (zaq r3 (s:Int) (rdo 3) (H.os 3) aE _ (H.gt 6)) ?_
  rintro vq a0 ⟨r4,rfl,hvq,ab⟩
  subst vq;(try dsimp only at hM);replace H:=H.bk ab;clear ab;refine kg 2 ?_
  refine W.cond (!r4) rfl (fun au=>?_) (fun au=>?_)
  ·replace hM:=M.e_t hM au;refine kg 4 ?_
   replace H:=H.nilOwn (α:=Int) 3
   replace H:=H.nf;obtain ⟨a4,aF,hM⟩:=M.e_bind hM;refine s_callv (f:=57) rfl cf57 [I (s:Int)] rfl (zfX (s:Int) ([]:List Int) w_ r3 (ao.app _) ag (Has.here (k:=4) rfl) (rdo 2) (H.os 4) (Has.here (k:=1) rfl) (Has.here (k:=0) rfl) aF _ ((H.pk [0,2,1,3,4,5,6]).gt 5)) ?_
   rintro vq a5 ⟨r5,l_k02,aG,a6,rfl,hvq,ab⟩
   subst vq;(try dsimp only at hM)
   replace H:=H.pk [0,2,1,3,4,5,6] |>.bk ab
   clear ab;refine kg 3 ?_;refine W.ret ?_
   have aH:=M.e_inr hM aq
   subst aH;replace hM:=ax;(try dsimp only at hM)
   have ak:=M.e_pure hM
   exact ⟨_,resE_tmp2 rfl,⟨r5,0,aG,ak,rfl,(H.pk [0])⟩⟩
  replace hM:=M.e_f hM au;refine kg 5 ?_
  exact ⟨aC,aD,s+1,_,upds_of _ _ ⟨rfl,rfl,rfl,rfl,trivial⟩,M.e_inl hM aq,H⟩
 replace hM:=M.e_f hM ae
 replace ae:=dI ae
 refine W.exit ?_
 have aI:=M.e_inr hM aq
 subst aI;replace hM:=ax;(try dsimp only at hM);replace H:=H.pk [];refine kg 5 ?_;refine W.ret ?_
 have ak:=M.e_pure hM
 replace H:=H.nilOwn (α:=Int) 3
 exact ⟨_,resE_tmp2 rfl,⟨([]),5,(.slice none 0 0),ak,rfl,H⟩⟩

def zcb (w_:List Work) (l:List Int) (s3:Nat):(Bool × Nat)->M ((Bool × Nat) ⊕ Bool):=fun (there,s) =>
  bif decide ((s:Int)<(((w_.getD (Int.toNat (l.getD s3 0)) default).of).length:Int)) then (
  M.grd (decide ((s:Int)<(((w_.getD (Int.toNat (l.getD s3 0)) default).of).length:Int))) <|
  M.pure (.inl ((there||((((w_.getD (Int.toNat (l.getD s3 0)) default).of).getD s 0)==(l.getD (Int.toNat (((s3:Int)+1) % (l.length:Int))) 0))),s+1)))
  else (
  M.pure (.inr there))
def zcO (l:List Int) (s3:Nat):Nat->M (Nat ⊕ (Unit ⊕ Unit)):=fun s2 =>
  bif decide ((s2:Int)<(s3:Int)) then (
  M.grd (decide ((s2:Int)<(l.length:Int))) <|
  bif (l.getD s2 0)==(l.getD s3 0) then (
  M.pure (.inr (.inl ())))
  else (
  M.pure (.inl (s2+1))))
  else (
  M.pure (.inr (.inr ())))
def zea (w_:List Work) (l:List Int):Nat->M (Nat ⊕ (Unit ⊕ Unit)):=fun s3 =>
  bif decide ((s3:Int)<(l.length:Int)) then (
  M.grd (decide ((s3:Int)<(l.length:Int))) <|
  bif ((decide ((l.getD s3 0)<0))||(decide ((w_.length:Int)<=(l.getD s3 0)))) then (
  M.pure (.inr (.inl ())))
  else (
  M.grd (decide ((0:Int)<=((s3:Int)+1))&&decide ((0:Int)<(l.length:Int))) <|
  M.grd (decide ((0:Int)<=(((s3:Int)+1) % (l.length:Int)))&&decide ((((s3:Int)+1) % (l.length:Int))<(l.length:Int))) <|
  M.grd (decide ((0:Int)<=(l.getD s3 0))&&decide ((l.getD s3 0)<(w_.length:Int))) <|
  M.bind (M.iter (zcb w_ l s3) (false,0)) fun there2 =>
  M.bind (M.iter (zcO l s3) 0) fun x_=>match x_ with
  | (.inl (_:Unit))=>(
  M.pure (.inr (.inl ())))
  | (.inr (_:Unit))=>(
  bif !there2 then (
  M.pure (.inr (.inl ())))
  else (
  M.pure (.inl (s3+1))))))
  else (
  M.pure (.inr (.inr ())))
def zfk (w_:List Work) (l:List Int):M Bool :=
  M.bind (M.iter (zea w_ l) 0) fun x_=>match x_ with
  | (.inl (_:Unit))=>(
  M.pure false)
  | (.inr (_:Unit))=>(
  M.pure (decide (0<(l.length:Int))))
theorem zfx {R:List Chunk} {ay:Cells} {ab:Value} {az:Cells} {aa:Value} (w_:List Work) (l:List Int) (aH:Reads R ay) (aA:Sl ay ab w_) (a0:Reads R az) (am:Sl az aa l) {r:Bool} (hM:(zfk w_ l).Ends r) (w:World) (H:St w w [] R):Ret Tryz.prog 17 #[ab,aa] w fun v w'=>∃ (y0:Bool),y0=r/\v=B y0/\St w w' [] R:=by
 refine ret_of_W Tryz.func17 rfl rfl rfl ?_
 have a4:=(am).len_le
 refine kg 12 ?_;obtain ⟨aI,ao,ak⟩:=M.e_bind hM
 obtain ⟨aB,ao⟩:=M.e_iter ao
 refine W.loop (fun m σ W=>∃ (s3:Nat) (ρ:Env),σ=upds ρ [(0,ab),(1,aa),(12,aa),(13,I (l.length:Int)),(14,I (s3:Int))]/\M.iterN (zea w_ l) m s3=some aI/\St w W [] R) ?_ ?_
 ·exact ⟨_,0,_,upds_of _ _ ⟨rfl,rfl,rfl,rfl,rfl,trivial⟩,ao,H⟩
 rintro a5 σ a6 ⟨s3,ρ,rfl,aC,H⟩
 obtain ⟨aJ,aK,a7,hM,aj⟩:=M.e_iterN aC
 simp only [zea] at hM
 clear aC;refine kg 5 ?_
 refine W.cond (decide ((s3:Int)<(l.length:Int))) rfl (fun ac=>?_) (fun ac=>?_)
 ·replace hM:=M.e_t hM ac
  replace ac:=dI ac
  obtain ⟨a8,hM⟩:=M.e_gd hM
  have a9:=(aA).len_le
  refine kg 21 ?_;refine s_val (x_por (b:=decide ((l.getD s3 0)<0)) (r:=decide ((w_.length:Int)<=(l.getD s3 0))) rfl rfl (fun hb=>gd_of (c:=!(decide ((l.getD s3 0)<0))) (by first | exact hb | (rw [hb]; rfl) | simp_all) (B (decide ((w_.length:Int)<=(l.getD s3 0))))))<|s_nil ?_
  refine W.cond ((decide ((l.getD s3 0)<0))||(decide ((w_.length:Int)<=(l.getD s3 0)))) rfl (fun ap=>?_) (fun ap=>?_)
  ·replace hM:=M.e_t hM ap;refine kg 4 ?_;refine W.ret ?_
   have aL:=M.e_inr hM aj
   subst aL;replace hM:=ak;(try dsimp only at hM)
   have ae:=M.e_pure hM
   exact ⟨_,resE_tmp rfl,⟨false,ae,rfl,H⟩⟩
  replace hM:=M.e_f hM ap
  have ba:=(am).len_le
  obtain ⟨bb,hM⟩:=M.e_gd hM;refine kg 8 ?_;refine s_val (x_rem' (a:=(s3:Int)+1) (b:=(l.length:Int)) rfl rfl (by omega)) ?_;obtain ⟨bc,hM⟩:=M.e_gd hM;obtain ⟨bf,hM⟩:=M.e_gd hM;refine kg 12 ?_
  obtain ⟨aq,aM,al⟩:=Work_at0 aA (i:=l.getD s3 0) (by omega) (by omega)
  replace al:Sl _ aq (w_.getD (Int.toNat (l.getD s3 0)) default).of:=al
  have bg:=al.len_le
  refine s_val (x_ld (v:=aq) rfl (ld_sc Sc22 (At.mono (aM) (aH.at H)))) ?_
  have bh:=(al).len_le
  refine kg 4 ?_;obtain ⟨aN,au,aO⟩:=M.e_bind hM
  obtain ⟨aB,au⟩:=M.e_iter au
  refine W.loop (fun m σ W=>∃ (there:Bool) (s:Nat) (ρ:Env),σ=upds ρ [(0,ab),(1,aa),(5,I (s3:Int)),(6,I (l.getD s3 0)),(7,I (l.getD (Int.toNat (((s3:Int)+1) % (l.length:Int))) 0)),(8,B there),(12,aa),(13,I (l.length:Int)),(14,I (s3:Int)),(22,gd (!(decide ((l.getD s3 0)<0))) (I (l.getD s3 0))),(23,gd (!(decide ((l.getD s3 0)<0))) ab),(24,gd (!(decide ((l.getD s3 0)<0))) (I (w_.length:Int))),(25,gd (!(decide ((l.getD s3 0)<0))) (B (decide ((w_.length:Int)<=(l.getD s3 0))))),(39,aq),(40,I (((w_.getD (Int.toNat (l.getD s3 0)) default).of).length:Int)),(41,I (s:Int))]/\M.iterN (zcb w_ l s3) m (there,s)=some aN/\St w W [] R) ?_ ?_
  ·exact ⟨_,false,0,_,upds_of _ _ ⟨rfl,rfl,rfl,rfl,rfl,rfl,rfl,rfl,rfl,rfl,rfl,rfl,rfl,rfl,rfl,rfl,trivial⟩,au,H⟩
  rintro bi σ bj ⟨there,s,ρ,rfl,aD,H⟩
  obtain ⟨aP,aQ,bm,hM,aE⟩:=M.e_iterN aD
  simp only [zcb] at hM
  clear aD;refine kg 5 ?_
  refine W.cond (decide ((s:Int)<(((w_.getD (Int.toNat (l.getD s3 0)) default).of).length:Int))) rfl (fun ag=>?_) (fun ag=>?_)
  ·replace hM:=M.e_t hM ag
   replace ag:=dI ag
   obtain ⟨bn,hM⟩:=M.e_gd hM;refine kg 15 ?_;refine s_val (x_por (b:=there) (r:=(((w_.getD (Int.toNat (l.getD s3 0)) default).of).getD s 0)==(l.getD (Int.toNat (((s3:Int)+1) % (l.length:Int))) 0)) rfl rfl (fun hb=>gd_of (c:=!there) (by first | exact hb | (rw [hb]; rfl) | simp_all) (B ((((w_.getD (Int.toNat (l.getD s3 0)) default).of).getD s 0)==(l.getD (Int.toNat (((s3:Int)+1) % (l.length:Int))) 0)))))<|zA (B (there||((((w_.getD (Int.toNat (l.getD s3 0)) default).of).getD s 0)==(l.getD (Int.toNat (((s3:Int)+1) % (l.length:Int))) 0)))) rfl ?_;refine kg 5 ?_
   exact ⟨aP,aQ,(there||((((w_.getD (Int.toNat (l.getD s3 0)) default).of).getD s 0)==(l.getD (Int.toNat (((s3:Int)+1) % (l.length:Int))) 0))),s+1,_,upds_of _ _ ⟨rfl,rfl,rfl,rfl,rfl,rfl,rfl,rfl,rfl,rfl,rfl,rfl,rfl,rfl,rfl,rfl,trivial⟩,M.e_inl hM aE,H⟩
  replace hM:=M.e_f hM ag
  replace ag:=dI ag
  refine W.exit ?_
  have aR:=M.e_inr hM aE
  subst aR;replace hM:=aO;(try dsimp only at hM);refine kg 7 ?_;obtain ⟨aS,av,aF⟩:=M.e_bind hM
  obtain ⟨aB,av⟩:=M.e_iter av
  refine W.loop (fun m σ W=>∃ (s2:Nat) (ρ:Env),σ=upds ρ [(0,ab),(1,aa),(6,I (l.getD s3 0)),(8,B there),(12,aa),(13,I (l.length:Int)),(14,I (s3:Int)),(22,gd (!(decide ((l.getD s3 0)<0))) (I (l.getD s3 0))),(23,gd (!(decide ((l.getD s3 0)<0))) ab),(24,gd (!(decide ((l.getD s3 0)<0))) (I (w_.length:Int))),(25,gd (!(decide ((l.getD s3 0)<0))) (B (decide ((w_.length:Int)<=(l.getD s3 0))))),(52,I (s3:Int)),(53,I (s2:Int))]/\M.iterN (zcO l s3) m s2=some aS/\St w W [] R) ?_ ?_
  ·exact ⟨_,0,_,upds_of _ _ ⟨rfl,rfl,rfl,rfl,rfl,rfl,rfl,rfl,rfl,rfl,rfl,rfl,rfl,trivial⟩,av,H⟩
  rintro bo σ bp ⟨s2,ρ,rfl,aG,H⟩
  obtain ⟨aT,aU,br,hM,aw⟩:=M.e_iterN aG
  simp only [zcO] at hM
  clear aG;refine kg 5 ?_
  refine W.cond (decide ((s2:Int)<(s3:Int))) rfl (fun ah=>?_) (fun ah=>?_)
  ·replace hM:=M.e_t hM ah
   replace ah:=dI ah
   obtain ⟨bt,hM⟩:=M.e_gd hM;refine kg 17 ?_
   refine W.cond ((l.getD s2 0)==(l.getD s3 0)) rfl (fun ai=>?_) (fun ai=>?_)
   ·replace hM:=M.e_t hM ai
    replace ai:=dI ai
    refine kg 4 ?_;refine W.ret ?_
    have aV:=M.e_inr hM aw
    subst aV;replace hM:=aF;(try dsimp only at hM)
    have aW:=M.e_inr hM aj
    subst aW;replace hM:=ak;(try dsimp only at hM)
    have ae:=M.e_pure hM
    exact ⟨_,resE_tmp rfl,⟨false,ae,rfl,H⟩⟩
   replace hM:=M.e_f hM ai
   replace ai:=dI ai
   refine kg 5 ?_
   exact ⟨aT,aU,s2+1,_,upds_of _ _ ⟨rfl,rfl,rfl,rfl,rfl,rfl,rfl,rfl,rfl,rfl,rfl,rfl,rfl,trivial⟩,M.e_inl hM aw,H⟩
  replace hM:=M.e_f hM ah
  replace ah:=dI ah
  refine W.exit ?_
  have aX:=M.e_inr hM aw
  subst aX;replace hM:=aF;(try dsimp only at hM);refine kg 5 ?_
  refine W.cond (!there) rfl (fun ax=>?_) (fun ax=>?_)
  ·replace hM:=M.e_t hM ax;refine kg 4 ?_;refine W.ret ?_
   have aY:=M.e_inr hM aj
   subst aY;replace hM:=ak;(try dsimp only at hM)
   have ae:=M.e_pure hM
   exact ⟨_,resE_tmp rfl,⟨false,ae,rfl,H⟩⟩
  replace hM:=M.e_f hM ax;refine kg 5 ?_
  exact ⟨aJ,aK,s3+1,_,upds_of _ _ ⟨rfl,rfl,rfl,rfl,rfl,trivial⟩,M.e_inl hM aj,H⟩
 replace hM:=M.e_f hM ac
 replace ac:=dI ac
 refine W.exit ?_
 have aZ:=M.e_inr hM aj
 subst aZ;replace hM:=ak;(try dsimp only at hM)
 have bu:=(am).len_le
 refine kg 7 ?_;refine W.ret ?_
 have ae:=M.e_pure hM
 exact ⟨_,resE_tmp rfl,⟨(decide (0<(l.length:Int))),ae,rfl,H⟩⟩

def zeZ (w_:List Work):M ((List Int) × Int) :=
  M.bind (zaD w_) fun x_=>match x_ with
  | (.inl r2)=>(
  bif r2 != 0 then (
  M.pure (([]),r2))
  else (
  M.fail))
  | (.inr (r1,aa))=>(
  bif aa != 0 then (
  M.fail)
  else (
  M.pure (r1,0)))
theorem zfA {R:List Chunk} {ah:Cells} {ae:Value} (w_:List Work) (ai:Reads R ah) (aj:Sl ah ae w_) {r:((List Int) × Int)} (hM:(zeZ w_).Ends r) (w:World) (H:St w w [] R):Ret Tryz.prog 18 #[ae] w fun v w'=>∃ (y0:List Int) (y1:Int) (u0:Value),(y0,y1)=r/\v = .tuple #[u0,I y1]/\St w w' [cOwn (α:=Int) 3 u0 y0] R:=by
 refine ret_of_W Tryz.func18 rfl rfl rfl ?_;refine kg 8 ?_;obtain ⟨aq,ak,hM⟩:=M.e_bind hM;refine s_call cf51 [ae] rfl (zaO w_ (ai.app _) aj ak _ (H.gt 0)) ?_
 rintro vq au (⟨r2,al,hvq,aa⟩ | ⟨r1,am,av,ao,ap,hvq,aa⟩)
 ·subst al;subst vq;(try dsimp only at hM);replace H:=H.bk aa;clear aa;refine kg 14 ?_
  refine W.cond (r2 != 0) rfl (fun ab=>?_) (fun ab=>?_)
  ·replace hM:=M.e_t hM ab
   replace ab:=dI ab
   refine kg 6 ?_;refine W.ret ?_
   have ag:=M.e_pure hM
   replace H:=H.nilOwn (α:=Int) 3
   exact ⟨_,resE_tmp2 rfl,⟨([]),r2,(.slice none 0 0),ag,rfl,H⟩⟩
  replace hM:=M.e_f hM ab
  exact (M.e_fail hM).elim
 subst ap;subst vq;(try dsimp only at hM);replace H:=H.bk aa;clear aa;refine kg 14 ?_
 refine W.cond (am != 0) rfl (fun ac=>?_) (fun ac=>?_)
 ·replace hM:=M.e_t hM ac
  exact (M.e_fail hM).elim
 replace hM:=M.e_f hM ac
 replace ac:=dI ac
 refine kg 7 ?_;refine W.ret ?_
 have ag:=M.e_pure hM
 exact ⟨_,resE_tmp2 rfl,⟨r1,0,ao,ag,rfl,(H.pk [1])⟩⟩

def zee (w_:List Work) (l:List Int) (i:Int):(Bool × Nat)->M ((Bool × Nat) ⊕ Bool):=fun (ready,k) =>
  M.grd (decide ((0:Int)<=i)&&decide (i<(w_.length:Int))) <|
  bif decide ((k:Int)<(((w_.getD (Int.toNat i) default).of).length:Int)) then (
  M.grd ((!ready||(decide ((k:Int)<(((w_.getD (Int.toNat i) default).of).length:Int))))) <|
  M.bind (M.opt ready (zad l (((w_.getD (Int.toNat i) default).of).getD k 0)) false) fun r4 =>
  M.pure (.inl ((ready&&r4),k+1)))
  else (
  M.pure (.inr ready))
def zdL (w_:List Work) (l:List Int):(Int × Int)->M ((Int × Int) ⊕ Int):=fun (next,i) =>
  bif decide (0<=i) then (
  M.bind (zad l i) fun r3 =>
  M.bind (M.iter (zee w_ l i) (!r3,0)) fun ready2 =>
  bif ready2 then (
  M.grd (decide ((-9223372036854775808:Int)<=(i-1))&&decide ((i-1)<=(9223372036854775807:Int))) <|
  M.pure (.inl (i,i-1)))
  else (
  M.grd (decide ((-9223372036854775808:Int)<=(i-1))&&decide ((i-1)<=(9223372036854775807:Int))) <|
  M.pure (.inl (next,i-1))))
  else (
  M.pure (.inr next))
def zc9 (w_:List Work):(List Int)->M ((List Int) ⊕ ((List Int) × (List Int))):=fun l =>
  bif decide ((l.length:Int)<(w_.length:Int)) then (
  M.bind (M.iter (zdL w_ l) (-1,(w_.length:Int)-1)) fun next2 =>
  M.grd (decide ((l.length+([(next2:Int)]).length)*8<=140737488355328)) <|
  M.pure (.inl (l++([(next2:Int)]))))
  else (
  M.pure (.inr (l,l)))
def za5 (w_:List Work):M ((List Int) × Int) :=
  M.bind (zaK w_) fun r2 =>
  bif r2 != 0 then (
  M.pure (([]),r2))
  else (
  M.bind (M.iter (zc9 w_) []) fun (l2,l3) =>
  M.pure (l3,0))
theorem zdj {R:List Chunk} {ay:Cells} {ab:Value} (w_:List Work) (am:Reads R ay) (ai:Sl ay ab w_) {r:((List Int) × Int)} (hM:(za5 w_).Ends r) (w:World) (H:St w w [] R):Ret Tryz.prog 19 #[ab] w fun v w'=>∃ (y0:List Int) (y1:Int) (u0:Value),(y0,y1)=r/\v = .tuple #[u0,I y1]/\St w w' [cOwn (α:=Int) 3 u0 y0] R:=by
 refine ret_of_W Tryz.func19 rfl rfl rfl ?_;refine kg 9 ?_;obtain ⟨a8,aK,hM⟩:=M.e_bind hM;refine s_call cf14 [ab] rfl (zbe w_ (am.app _) ai aK _ (H.gt 0)) ?_
 rintro vq a9 ⟨r2,rfl,hvq,aj⟩
 subst vq;(try dsimp only at hM);replace H:=H.bk aj;clear aj;refine kg 7 ?_
 refine W.cond (r2 != 0) rfl (fun ac=>?_) (fun ac=>?_)
 ·replace hM:=M.e_t hM ac
  replace ac:=dI ac
  refine kg 6 ?_;refine W.ret ?_
  have ak:=M.e_pure hM
  replace H:=H.nilOwn (α:=Int) 3
  exact ⟨_,resE_tmp2 rfl,⟨([]),r2,(.slice none 0 0),ak,rfl,H⟩⟩
 replace hM:=M.e_f hM ac
 replace ac:=dI ac
 refine kg 7 ?_
 replace H:=H.nilOwn (α:=Int) 3
 obtain ⟨aL,ao,aM⟩:=M.e_bind hM
 obtain ⟨az,ao⟩:=M.e_iter ao
 refine W.loop (fun m σ W=>∃ (l:List Int) (aa:Value) (ρ:Env),σ=upds ρ [(0,ab),(5,aa)]/\M.iterN (zc9 w_) m l=some aL/\St w W [cOwn (α:=Int) 3 aa l] R) ?_ ?_
 ·exact ⟨_,[],(.slice none 0 0),_,upds_of _ _ ⟨rfl,rfl,trivial⟩,ao,H⟩
 rintro ba σ bb ⟨l,aa,ρ,rfl,aA,H⟩
 obtain ⟨aN,aO,bc,hM,aB⟩:=M.e_iterN aA
 simp only [zc9] at hM
 clear aA
 have bf:=((H.os 0)).len_le
 have bg:=(ai).len_le
 refine kg 9 ?_
 refine W.cond (decide ((l.length:Int)<(w_.length:Int))) rfl (fun ae=>?_) (fun ae=>?_)
 ·replace hM:=M.e_t hM ae
  replace ae:=dI ae
  have bh:=(ai).len_le
  refine kg 15 ?_;obtain ⟨aP,ap,aQ⟩:=M.e_bind hM
  obtain ⟨az,ap⟩:=M.e_iter ap
  refine W.loop (fun m σ W=>∃ (next:Int) (i:Int) (ρ:Env),σ=upds ρ [(0,ab),(5,aa),(6,I next),(7,I i)]/\M.iterN (zdL w_ l) m (next,i)=some aP/\St w W [cOwn (α:=Int) 3 aa l] R) ?_ ?_
  ·exact ⟨_,-1,(w_.length:Int)-1,_,upds_of _ _ ⟨rfl,rfl,rfl,rfl,trivial⟩,ap,H⟩
  rintro bi σ bj ⟨next,i,ρ,rfl,aC,H⟩
  obtain ⟨aD,aE,bm,hM,aq⟩:=M.e_iterN aC
  simp only [zdL] at hM
  clear aC;refine kg 6 ?_
  refine W.cond (decide (0<=i)) rfl (fun ag=>?_) (fun ag=>?_)
  ·replace hM:=M.e_t hM ag
   replace ag:=dI ag
   refine kg 7 ?_;obtain ⟨bn,aR,hM⟩:=M.e_bind hM;refine s_call cf63 [aa,I i] rfl (zae l i (rdo 0) (H.os 0) aR _ (H.gt 1)) ?_
   rintro vq bo ⟨r3,rfl,hvq,aj⟩
   subst vq;(try dsimp only at hM);replace H:=H.bk aj;clear aj;refine kg 9 ?_;obtain ⟨aS,au,aT⟩:=M.e_bind hM
   obtain ⟨az,au⟩:=M.e_iter au
   refine W.loop (fun m σ W=>∃ (ready:Bool) (k:Nat) (ρ:Env),σ=upds ρ [(0,ab),(5,aa),(6,I next),(7,I i),(8,B ready),(9,I (k:Int))]/\M.iterN (zee w_ l i) m (ready,k)=some aS/\St w W [cOwn (α:=Int) 3 aa l] R) ?_ ?_
   ·exact ⟨_,!r3,0,_,upds_of _ _ ⟨rfl,rfl,rfl,rfl,rfl,rfl,trivial⟩,au,H⟩
   rintro bp σ br ⟨ready,k,ρ,rfl,aF,H⟩
   obtain ⟨aU,aV,bt,hM,aG⟩:=M.e_iterN aF
   simp only [zee] at hM
   clear aF;obtain ⟨bu,hM⟩:=M.e_gd hM;refine kg 8 ?_
   obtain ⟨aH,aW,al⟩:=Work_at0 ai (i:=i) (by omega) (by omega)
   replace al:Sl _ aH (w_.getD (Int.toNat i) default).of:=al
   have bv:=al.len_le
   refine s_val (x_ld (v:=aH) rfl (ld_sc Sc22 (At.mono (aW) (am.at H)))) ?_
   have bw:=(al).len_le
   refine kg 3 ?_
   refine W.cond (decide ((k:Int)<(((w_.getD (Int.toNat i) default).of).length:Int))) rfl (fun ah=>?_) (fun ah=>?_)
   ·replace hM:=M.e_t hM ah
    replace ah:=dI ah
    refine kg 11 ?_
    obtain ⟨aI,aX,aJ⟩:=gd_ex (c:=ready) fun hg=>Work_at0 ai (i:=i) (by first | omega | (have av:=hg; simp at av; omega)) (by first | omega | (have av:=hg; simp at av; omega))
    replace aJ:ready=true->Sl _ aI (w_.getD (Int.toNat i) default).of:=aJ
    refine g_val ready (gy_t rfl) (fun hg=>x_ld (v:=aI) (gd_of hg (fat (vat ab 3 (Int.toNat i)) 0)) (ld_sc Sc22 (At.mono (aX hg) (am.at H)))) ?_;obtain ⟨aw,hM⟩:=M.e_grd hM
    replace aw:=M.imp_of aw
    simp only [Bool.and_eq_true,decide_eq_true_eq] at aw
    refine kg 3 ?_;obtain ⟨r4,aY,hM⟩:=M.e_bind hM;refine t_gcall ready (gy_t rfl) cf63 (B r4) (fun _=>[aa,I (((w_.getD (Int.toNat i) default).of).getD k 0)]) (fun hg=>lst2 (gd_of hg (aa)) (gd_of hg (I (((w_.getD (Int.toNat i) default).of).getD k 0)))) H (fun hg=>(zae l (((w_.getD (Int.toNat i) default).of).getD k 0) (rdo 0) (H.os 0) (M.e_opt aY hg) _ (H.give (A:=[]) rfl)).mono fun v_ w_ ⟨y_,ak,aZ,H_⟩=>by subst ak; exact ⟨aZ,H.via H_⟩) ?_;intro bx H;refine s_val (x_pand (b:=ready) (r:=r4) rfl (fun hb=>gd_of (c:=ready) (by first | exact hb | (rw [hb]; rfl) | simp_all) (B r4)) rfl) ?_;refine kg 7 ?_
    exact ⟨aU,aV,(ready&&r4),k+1,_,upds_of _ _ ⟨rfl,rfl,rfl,rfl,rfl,rfl,trivial⟩,M.e_inl hM aG,H⟩
   replace hM:=M.e_f hM ah
   replace ah:=dI ah
   refine W.exit ?_
   have a0:=M.e_inr hM aG
   subst a0;replace hM:=aT;(try dsimp only at hM);refine kg 4 ?_
   refine W.cond ready rfl (fun ax=>?_) (fun ax=>?_)
   ·replace hM:=M.e_t hM ax;obtain ⟨bz,hM⟩:=M.e_gd hM;refine kg 9 ?_
    exact ⟨aD,aE,i,i-1,_,upds_of _ _ ⟨rfl,rfl,rfl,rfl,trivial⟩,M.e_inl hM aq,H⟩
   replace hM:=M.e_f hM ax;obtain ⟨bA,hM⟩:=M.e_gd hM;refine kg 6 ?_
   exact ⟨aD,aE,next,i-1,_,upds_of _ _ ⟨rfl,rfl,rfl,rfl,trivial⟩,M.e_inl hM aq,H⟩
  replace hM:=M.e_f hM ag
  replace ag:=dI ag
  refine W.exit ?_
  have a4:=M.e_inr hM aq
  subst a4;replace hM:=aQ;(try dsimp only at hM);refine kg 3 ?_;refine t_bs (α:=Int) T22 [I next] [(next:Int)] H rfl (.cons rfl (Flat.rep_enc _ (next:Int))<|.nil) rfl rfl rfl ?_;intro a5 bB H;obtain ⟨bC,hM⟩:=M.e_gd hM;refine t_app (α:=Int) (k:=1) (l:=l) (l2:=[(next:Int)]) (l':=l++([(next:Int)])) (vy:=a5) T22 rfl H rfl rfl rfl (H.os 0) (H.ol 0) (rfl) (by first | omega | (simp only [List.length_nil] at *; omega)) ?_;intro a6 bD H;replace H:=H.nf;refine kg 2 ?_
  exact ⟨aN,aO,l++([(next:Int)]),a6,_,upds_of _ _ ⟨rfl,rfl,trivial⟩,M.e_inl hM aB,(H.pk [1])⟩
 replace hM:=M.e_f hM ae
 replace ae:=dI ae
 refine W.exit ?_
 have a7:=M.e_inr hM aB
 subst a7;replace hM:=aM;(try dsimp only at hM);refine kg 6 ?_;refine W.ret ?_
 have ak:=M.e_pure hM
 exact ⟨_,resE_tmp2 rfl,⟨l,0,aa,ak,rfl,H⟩⟩

def zdS (i:Int) (aa:List Work):M Bool :=
  M.bind (zal i 0 ((aa.length:Int)-1)) fun r2 =>
  M.pure r2
theorem zgf {R:List Chunk} {ab:Nat} {ac:Cells} {ae:Value} (i:Int) (aa:List Work) (ak:Reads R ac) (ah:Sl ac ae aa) (al:Has R (cBlk ab [ae] 23)) {r:Bool} (hM:(zdS i aa).Ends r) (w:World) (H:St w w [] R):Ret Tryz.prog 65 #[I i,Pq ab] w fun v w'=>∃ (y0:Bool),y0=r/\v=B y0/\St w w' [] R:=by
 refine ret_of_W Tryz.func65 rfl rfl rfl ?_
 have am:=(ah).len_le
 refine kg 10 ?_;obtain ⟨ao,ai,hM⟩:=M.e_bind hM;refine s_call cf66 [I i,I 0,I ((aa.length:Int)-1)] rfl (zap i 0 ((aa.length:Int)-1) ai _ (H.gt 0)) ?_
 rintro vq ap ⟨r2,rfl,hvq,ag⟩
 subst vq;(try dsimp only at hM);replace H:=H.bk ag;clear ag;refine kg 2 ?_;refine W.ret ?_
 have aj:=M.e_pure hM
 exact ⟨_,resE_tmp rfl,⟨r2,aj,rfl,H⟩⟩

def zdh (ab:List Work) (aa:List Int):Nat->M (Nat ⊕ (Unit ⊕ Unit)):=fun i =>
  bif decide ((i:Int)<(aa.length:Int)) then (
  M.grd (decide ((i:Int)<(aa.length:Int))) <|
  M.grd (decide ((-9223372036854775808:Int)<=((i:Int)-1))&&decide (((i:Int)-1)<=(9223372036854775807:Int))) <|
  M.grd (decide ((0:Int)<=((i:Int)-1))&&decide (((i:Int)-1)<(aa.length:Int))) <|
  M.bind (zbt ab (aa.getD i 0) (aa.getD (Int.toNat ((i:Int)-1)) 0)) fun r2 =>
  bif !r2 then (
  M.pure (.inr (.inl ())))
  else (
  M.pure (.inl (i+1))))
  else (
  M.pure (.inr (.inr ())))
def zd3 (ab:List Work) (aa:List Int):M Bool :=
  M.bind (M.iter (zdh ab aa) 1) fun x_=>match x_ with
  | (.inl (_:Unit))=>(
  M.pure false)
  | (.inr (_:Unit))=>(
  M.pure (decide (0<(aa.length:Int))))
theorem zeR {R:List Chunk} {ac:Nat} {al:Cells} {am:Value} {ao:Cells} {ag:Value} (ae:List Work) (aa:List Int) (ax:Reads R al) (ay:Sl al am ae) (az:Has R (cBlk ac [am] 97)) (aG:Reads R ao) (ap:Sl ao ag aa) {r:Bool} (hM:(zd3 ae aa).Ends r) (w:World) (H:St w w [] R):Ret Tryz.prog 67 #[Pq ac,ag] w fun v w'=>∃ (y0:Bool),y0=r/\v=B y0/\St w w' [] R:=by
 refine ret_of_W Tryz.func67 rfl rfl rfl ?_;refine kg 7 ?_;refine s_val (x_mf (fs:=[Pq ac]) (cs:=[]) rfl rfl) ?_;refine kg 8 ?_;obtain ⟨aA,ah,aq⟩:=M.e_bind hM
 obtain ⟨aH,ah⟩:=M.e_iter ah
 refine W.loop (fun m σ W=>∃ (i:Nat) (ρ:Env),σ=upds ρ [(1,ag),(5,.func (.func 109) #[Pq ac] #[]),(6,I (i:Int))]/\M.iterN (zdh ae aa) m i=some aA/\St w W [] R) ?_ ?_
 ·exact ⟨_,1,_,upds_of _ _ ⟨rfl,rfl,rfl,trivial⟩,ah,H⟩
 rintro aI σ aJ ⟨i,ρ,rfl,au,H⟩
 obtain ⟨aB,aC,aK,hM,ai⟩:=M.e_iterN au
 simp only [zdh] at hM
 clear au
 have aL:=(ap).len_le
 refine kg 8 ?_
 refine W.cond (decide ((i:Int)<(aa.length:Int))) rfl (fun ab=>?_) (fun ab=>?_)
 ·replace hM:=M.e_t hM ab
  replace ab:=dI ab
  refine kg 4 ?_;refine W.draw (fun W=>St w W [] R) [(0,true),(1,true),(2,true),(3,true),(4,true),(5,true),(6,true),(7,true),(8,true),(9,true),(10,false),(11,true)] mixed (by decide +kernel) rfl ?_;intro aM av;replace H:=H.ext av;clear av
  refine ⟨(H.pk []),?_⟩
  obtain ⟨aN,hM⟩:=M.e_gd hM;obtain ⟨aO,hM⟩:=M.e_gd hM;obtain ⟨aP,hM⟩:=M.e_gd hM;refine kg 10 ?_;refine d_l rfl ?_;obtain ⟨aQ,aD,hM⟩:=M.e_bind hM;refine s_callm (f:=109) (fs:=[Pq ac]) rfl cf109 [I (aa.getD i 0),I (aa.getD (Int.toNat ((i:Int)-1)) 0)] rfl (zeh ae (aa.getD i 0) (aa.getD (Int.toNat ((i:Int)-1)) 0) (ax.app _) ay (az.app _) aD _ (H.gt 0)) ?_
  rintro vq aR ⟨r2,rfl,hvq,aw⟩
  subst vq;(try dsimp only at hM);replace H:=H.bk aw;clear aw
  refine s_nil ⟨(H.pk []),?_⟩
  refine kg 2 ?_
  refine W.cond (!r2) rfl (fun aj=>?_) (fun aj=>?_)
  ·replace hM:=M.e_t hM aj;refine kg 4 ?_;refine W.ret ?_
   have aE:=M.e_inr hM ai
   subst aE;replace hM:=aq;(try dsimp only at hM)
   have ak:=M.e_pure hM
   exact ⟨_,resE_tmp rfl,⟨false,ak,rfl,H⟩⟩
  replace hM:=M.e_f hM aj;refine kg 6 ?_
  exact ⟨aB,aC,i+1,_,upds_of _ _ ⟨rfl,rfl,rfl,trivial⟩,M.e_inl hM ai,H⟩
 replace hM:=M.e_f hM ab
 replace ab:=dI ab
 refine W.exit ?_
 have aF:=M.e_inr hM ai
 subst aF;replace hM:=aq;(try dsimp only at hM)
 have aS:=(ap).len_le
 refine kg 7 ?_;refine W.ret ?_
 have ak:=M.e_pure hM
 exact ⟨_,resE_tmp rfl,⟨(decide (0<(aa.length:Int))),ak,rfl,H⟩⟩

def zfd (w_:List Work) (aa:List Int):M (Bool × Int) :=
  M.bind (zaD w_) fun x_=>match x_ with
  | (.inl r2)=>(
  bif r2 != 0 then (
  M.pure (false,r2))
  else (
  M.fail))
  | (.inr (r1,ab))=>(
  bif ab != 0 then (
  M.fail)
  else (
  M.bind (zaC (fun ac=>zdS ac w_) aa) fun r3 =>
  bif !r3 then (
  M.pure (false,2))
  else (
  M.bind (zd3 w_ aa) fun r4 =>
  M.pure (r4,0))))
theorem zgr {R:List Chunk} {ap:Cells} {ab:Value} {aq:Cells} {ah:Value} (w_:List Work) (ai:List Int) (ak:Reads R ap) (aj:Sl ap ab w_) (au:Reads R aq) (av:Sl aq ah ai) {r:(Bool × Int)} (hM:(zfd w_ ai).Ends r) (w:World) (H:St w w [] R):Ret Tryz.prog 21 #[ab,ah] w fun v w'=>∃ (y0:Bool) (y1:Int),(y0,y1)=r/\v = .tuple #[B y0,I y1]/\St w w' [] R:=by
 refine ret_of_W Tryz.func21 rfl rfl rfl ?_;refine kg 2 ?_;refine t_box (v:=ab) (cs:=[ab]) H rfl (Sl.cells aj) ?_;intro al aL H;refine kg 6 ?_;obtain ⟨aM,ax,hM⟩:=M.e_bind hM;refine s_call cf51 [ab] rfl (zaO w_ (ak.app _) aj ax _ (H.gt 1)) ?_
 rintro vq aN (⟨r2,ay,hvq,aa⟩ | ⟨r1,az,aA,aO,aB,hvq,aa⟩)
 ·subst ay;subst vq;(try dsimp only at hM);replace H:=H.bk aa;clear aa;refine kg 16 ?_
  refine W.cond (r2 != 0) rfl (fun ac=>?_) (fun ac=>?_)
  ·replace hM:=M.e_t hM ac
   replace ac:=dI ac
   refine kg 6 ?_;refine W.ret ?_
   have ae:=M.e_pure hM
   exact ⟨_,resE_tmp2 rfl,⟨false,r2,ae,rfl,(H.pk [])⟩⟩
  replace hM:=M.e_f hM ac
  exact (M.e_fail hM).elim
 subst aB;subst vq;(try dsimp only at hM);replace H:=H.bk aa;clear aa;refine kg 16 ?_
 refine W.cond (az != 0) rfl (fun ag=>?_) (fun ag=>?_)
 ·replace hM:=M.e_t hM ag
  exact (M.e_fail hM).elim
 replace hM:=M.e_f hM ag
 replace ag:=dI ag
 refine kg 2 ?_;refine s_val (x_mf (fs:=[]) (cs:=[Pq al]) rfl rfl) ?_;refine kg 1 ?_;obtain ⟨aP,aC,hM⟩:=M.e_bind hM;refine s_call cf64 [.func (.func 65) #[] #[Pq al],ah] rfl (zaE (fun am=>zdS am w_) ai ⟨65,[Pq al],rfl,cf65,fun aw aQ aR aD am aS aE aT aF aG=>by obtain rfl:=Arg.int aF; exact (zgf am w_ (Reads.app (ak.app _) _) aj (Has.app (Has.here (k:=2) rfl) _) aG aw (St.refl aE)).mono fun aD aw ⟨aU,aH,aI,aJ⟩=>by subst aH; exact ⟨aI,aJ⟩⟩ (au.app _) av aC _ (H.gt 3)) ?_
 rintro vq aV ⟨r3,rfl,hvq,aa⟩
 subst vq;(try dsimp only at hM);replace H:=H.bk aa;clear aa;refine kg 3 ?_;replace H:=H.pk [0]
 refine W.cond (!r3) rfl (fun ao=>?_) (fun ao=>?_)
 ·replace hM:=M.e_t hM ao;refine kg 5 ?_;refine W.ret ?_
  have ae:=M.e_pure hM
  exact ⟨_,resE_tmp2 rfl,⟨false,2,ae,rfl,(H.pk [])⟩⟩
 replace hM:=M.e_f hM ao;refine kg 5 ?_;obtain ⟨aW,aK,hM⟩:=M.e_bind hM;refine s_call cf67 [Pq aA,ah] rfl (zeR w_ ai (ak.app _) aj (Has.here (k:=0) rfl) (au.app _) av aK _ (H.gt 1)) ?_
 rintro vq aX ⟨r4,rfl,hvq,aa⟩
 subst vq;(try dsimp only at hM);replace H:=H.bk aa;clear aa;refine kg 3 ?_;refine W.ret ?_
 have ae:=M.e_pure hM
 exact ⟨_,resE_tmp2 rfl,⟨r4,0,ae,rfl,(H.pk [])⟩⟩

def zdW (w_:List Work) (l:List Int):Nat->M (Nat ⊕ (Unit ⊕ Unit)):=fun i =>
  M.grd (decide ((-9223372036854775808:Int)<=((i:Int)+1))&&decide (((i:Int)+1)<=(9223372036854775807:Int))) <|
  bif decide (((i:Int)+1)<(l.length:Int)) then (
  M.grd (decide ((0:Int)<=((i:Int)+1))&&decide (((i:Int)+1)<(l.length:Int))) <|
  M.grd (decide ((0:Int)<=(l.getD (Int.toNat ((i:Int)+1)) 0))&&decide ((l.getD (Int.toNat ((i:Int)+1)) 0)<(w_.length:Int))) <|
  M.grd (decide ((i:Int)<(l.length:Int))) <|
  M.bind (zad ((w_.getD (Int.toNat (l.getD (Int.toNat ((i:Int)+1)) 0)) default).of) (l.getD i 0)) fun r2 =>
  bif !r2 then (
  M.pure (.inr (.inl ())))
  else (
  M.pure (.inl (i+1))))
  else (
  M.pure (.inr (.inr ())))
def zb6 (w_:List Work) (l:List Int):M Bool :=
  M.bind (M.iter (zdW w_ l) 0) fun x_=>match x_ with
  | (.inl (_:Unit))=>(
  M.pure false)
  | (.inr (_:Unit))=>(
  M.pure (decide (0<(l.length:Int))))
theorem zeo {R:List Chunk} {al:Cells} {ac:Value} {am:Cells} {ae:Value} (w_:List Work) (l:List Int) (ao:Reads R al) (ax:Sl al ac w_) (aF:Reads R am) (ap:Sl am ae l) {r:Bool} (hM:(zb6 w_ l).Ends r) (w:World) (H:St w w [] R):Ret Tryz.prog 69 #[ac,ae] w fun v w'=>∃ (y0:Bool),y0=r/\v=B y0/\St w w' [] R:=by
 refine ret_of_W Tryz.func69 rfl rfl rfl ?_;refine kg 10 ?_;obtain ⟨ay,ag,aq⟩:=M.e_bind hM
 obtain ⟨aG,ag⟩:=M.e_iter ag
 refine W.loop (fun m σ W=>∃ (i:Nat) (ρ:Env),σ=upds ρ [(0,ac),(1,ae),(5,I (i:Int))]/\M.iterN (zdW w_ l) m i=some ay/\St w W [] R) ?_ ?_
 ·exact ⟨_,0,_,upds_of _ _ ⟨rfl,rfl,rfl,trivial⟩,ag,H⟩
 rintro aH σ aI ⟨i,ρ,rfl,au,H⟩
 obtain ⟨az,aA,aJ,hM,ah⟩:=M.e_iterN au
 simp only [zdW] at hM
 clear au;obtain ⟨aK,hM⟩:=M.e_gd hM
 have aL:=(ap).len_le
 refine kg 9 ?_
 refine W.cond (decide (((i:Int)+1)<(l.length:Int))) rfl (fun aa=>?_) (fun aa=>?_)
 ·replace hM:=M.e_t hM aa
  replace aa:=dI aa
  refine kg 4 ?_;refine W.draw (fun W=>St w W [] R) [(0,true),(1,true),(2,true),(3,true),(4,true),(5,true),(6,true),(7,true),(8,true),(9,true),(10,true),(11,true),(12,true),(13,false),(14,true)] mixed (by decide +kernel) rfl ?_;intro aM av;replace H:=H.ext av;clear av
  refine ⟨(H.pk []),?_⟩
  obtain ⟨aN,hM⟩:=M.e_gd hM;obtain ⟨aO,hM⟩:=M.e_gd hM;refine kg 8 ?_
  obtain ⟨ai,aB,ab⟩:=Work_at0 ax (i:=l.getD (Int.toNat ((i:Int)+1)) 0) (by omega) (by omega)
  replace ab:Sl _ ai (w_.getD (Int.toNat (l.getD (Int.toNat ((i:Int)+1)) 0)) default).of:=ab
  have aP:=ab.len_le
  refine d_q rfl (fun w' H=>x_ld (v:=ai) rfl (ld_sc Sc22 (At.mono (aB) (ao.at H)))) ?_;obtain ⟨aQ,hM⟩:=M.e_gd hM;refine kg 4 ?_;refine d_l rfl ?_;obtain ⟨aR,aC,hM⟩:=M.e_bind hM;refine s_call cf63 [ai,I (l.getD i 0)] rfl (zae ((w_.getD (Int.toNat (l.getD (Int.toNat ((i:Int)+1)) 0)) default).of) (l.getD i 0) (ao.app _) ab aC _ (H.gt 0)) ?_
  rintro vq aS ⟨r2,rfl,hvq,aw⟩
  subst vq;(try dsimp only at hM);replace H:=H.bk aw;clear aw
  refine s_nil ⟨(H.pk []),?_⟩
  refine kg 2 ?_
  refine W.cond (!r2) rfl (fun aj=>?_) (fun aj=>?_)
  ·replace hM:=M.e_t hM aj;refine kg 4 ?_;refine W.ret ?_
   have aD:=M.e_inr hM ah
   subst aD;replace hM:=aq;(try dsimp only at hM)
   have ak:=M.e_pure hM
   exact ⟨_,resE_tmp rfl,⟨false,ak,rfl,H⟩⟩
  replace hM:=M.e_f hM aj;refine kg 6 ?_
  exact ⟨az,aA,i+1,_,upds_of _ _ ⟨rfl,rfl,rfl,trivial⟩,M.e_inl hM ah,H⟩
 replace hM:=M.e_f hM aa
 replace aa:=dI aa
 refine W.exit ?_
 have aE:=M.e_inr hM ah
 subst aE;replace hM:=aq;(try dsimp only at hM)
 have aT:=(ap).len_le
 refine kg 7 ?_;refine W.ret ?_
 have ak:=M.e_pure hM
 exact ⟨_,resE_tmp rfl,⟨(decide (0<(l.length:Int))),ak,rfl,H⟩⟩

def zbZ (w_:List Work) (l:List Int):Nat->M (Nat ⊕ (Unit ⊕ Unit)):=fun i =>
  bif decide ((i:Int)<(l.length:Int)) then (
  M.grd (decide ((i:Int)<(l.length:Int))) <|
  M.bind (zao (l.getD i 0) 0 ((w_.length:Int)-1)) fun r3 =>
  bif r3 then (
  M.pure (.inr (.inl ())))
  else (
  M.pure (.inl (i+1))))
  else (
  M.pure (.inr (.inr ())))
def zbz (w_:List Work) (l:List Int):M (Bool × Int) :=
  M.bind (zaK w_) fun r2 =>
  bif r2 != 0 then (
  M.pure (false,r2))
  else (
  M.bind (M.iter (zbZ w_ l) 0) fun x_=>match x_ with
  | (.inl (_:Unit))=>(
  M.pure (false,2))
  | (.inr (_:Unit))=>(
  M.bind (zb6 w_ l) fun r4 =>
  M.pure (r4,0)))
theorem zda {R:List Chunk} {am:Cells} {ae:Value} {ao:Cells} {ah:Value} (w_:List Work) (l:List Int) (ap:Reads R am) (ai:Sl am ae w_) (aw:Reads R ao) (aq:Sl ao ah l) {r:(Bool × Int)} (hM:(zbz w_ l).Ends r) (w:World) (H:St w w [] R):Ret Tryz.prog 22 #[ae,ah] w fun v w'=>∃ (y0:Bool) (y1:Int),(y0,y1)=r/\v = .tuple #[B y0,I y1]/\St w w' [] R:=by
 refine ret_of_W Tryz.func22 rfl rfl rfl ?_;refine kg 9 ?_;obtain ⟨aF,ax,hM⟩:=M.e_bind hM;refine s_call cf14 [ae] rfl (zbe w_ (ap.app _) ai ax _ (H.gt 0)) ?_
 rintro vq aG ⟨r2,rfl,hvq,aa⟩
 subst vq;(try dsimp only at hM);replace H:=H.bk aa;clear aa;refine kg 7 ?_
 refine W.cond (r2 != 0) rfl (fun ab=>?_) (fun ab=>?_)
 ·replace hM:=M.e_t hM ab
  replace ab:=dI ab
  refine kg 6 ?_;refine W.ret ?_
  have ag:=M.e_pure hM
  exact ⟨_,resE_tmp2 rfl,⟨false,r2,ag,rfl,H⟩⟩
 replace hM:=M.e_f hM ab
 replace ab:=dI ab
 refine kg 7 ?_;obtain ⟨ay,aj,au⟩:=M.e_bind hM
 obtain ⟨aH,aj⟩:=M.e_iter aj
 refine W.loop (fun m σ W=>∃ (i:Nat) (ρ:Env),σ=upds ρ [(0,ae),(1,ah),(7,I (i:Int))]/\M.iterN (zbZ w_ l) m i=some ay/\St w W [] R) ?_ ?_
 ·exact ⟨_,0,_,upds_of _ _ ⟨rfl,rfl,rfl,trivial⟩,aj,H⟩
 rintro aI σ aJ ⟨i,ρ,rfl,av,H⟩
 obtain ⟨az,aA,aK,hM,ak⟩:=M.e_iterN av
 simp only [zbZ] at hM
 clear av
 have aL:=(aq).len_le
 refine kg 8 ?_
 refine W.cond (decide ((i:Int)<(l.length:Int))) rfl (fun ac=>?_) (fun ac=>?_)
 ·replace hM:=M.e_t hM ac
  replace ac:=dI ac
  obtain ⟨aM,hM⟩:=M.e_gd hM
  have aN:=(ai).len_le
  refine kg 12 ?_;obtain ⟨aO,aB,hM⟩:=M.e_bind hM;refine s_call cf68 [I (l.getD i 0),I 0,I ((w_.length:Int)-1)] rfl (zas (l.getD i 0) 0 ((w_.length:Int)-1) aB _ (H.gt 0)) ?_
  rintro vq aP ⟨r3,rfl,hvq,aa⟩
  subst vq;(try dsimp only at hM);replace H:=H.bk aa;clear aa;refine s_nil ?_
  refine W.cond r3 rfl (fun al=>?_) (fun al=>?_)
  ·replace hM:=M.e_t hM al;refine kg 5 ?_;refine W.ret ?_
   have aC:=M.e_inr hM ak
   subst aC;replace hM:=au;(try dsimp only at hM)
   have ag:=M.e_pure hM
   exact ⟨_,resE_tmp2 rfl,⟨false,2,ag,rfl,H⟩⟩
  replace hM:=M.e_f hM al;refine kg 6 ?_
  exact ⟨az,aA,i+1,_,upds_of _ _ ⟨rfl,rfl,rfl,trivial⟩,M.e_inl hM ak,H⟩
 replace hM:=M.e_f hM ac
 replace ac:=dI ac
 refine W.exit ?_
 have aD:=M.e_inr hM ak
 subst aD;replace hM:=au;(try dsimp only at hM);refine kg 4 ?_;obtain ⟨aQ,aE,hM⟩:=M.e_bind hM;refine s_call cf69 [ae,ah] rfl (zeo w_ l (ap.app _) ai (aw.app _) aq aE _ (H.gt 0)) ?_
 rintro vq aR ⟨r4,rfl,hvq,aa⟩
 subst vq;(try dsimp only at hM);replace H:=H.bk aa;clear aa;refine kg 3 ?_;refine W.ret ?_
 have ag:=M.e_pure hM
 exact ⟨_,resE_tmp2 rfl,⟨r4,0,ag,rfl,H⟩⟩

def zcj (aa:List Work) (enters:Int->M Bool):M (Int->Option Bool) :=
  M.pure (fun _=>none)
theorem zew {R:List Chunk} {aa:Nat} {ae:Cells} {ag:Value} {ab:Value} (ah:List Work) (enters:Int->M Bool) (ao:Reads R ae) (ap:Sl ae ag ah) (aq:Has R (cBlk aa [ag] 97)) (ak:FnM Tryz.prog R ab enters) {r:(Int->Option Bool)} (hM:(zcj ah enters).Ends r) (w:World) (H:St w w [] R):Ret Tryz.prog 70 #[Pq aa,ab] w fun v w'=>∃ (y0:Int->Option Bool) (ai:Nat) (aj:Nat),y0=r/\v=Pq ai/\St w w' [cBlk ai [Pq aa,ab,.map (some aj)] 149,cMap I B aj y0] R:=by
 refine ret_of_W Tryz.func70 rfl rfl rfl ?_;refine kg 8 ?_;refine t_mkmap (κ:=Int) (ν:=Bool) I B H ?_;intro ac au H;refine s_val (x_bld (ps:=[(0,Pq aa),(1,ab),(2,.map (some ac))]) (zs:=[.pointer none,.nilFunc,.map none]) (L':=[Pq aa,ab,.map (some ac)]) rfl Tryz.underlying149 Al149 rfl (Bd149 Tryz.underlying149) (.cons (cs:=[Pq aa]) rfl rfl rfl rfl rfl<|.cons (cs:=[ab]) (FnM.cells ak) rfl rfl rfl rfl<|.cons (cs:=[.map (some ac)]) rfl rfl rfl rfl rfl<|.nil)) ?_;refine t_bx [Pq aa,ab,.map (some ac)] H rfl ?_;intro al av H;refine kg 2 ?_;refine W.ret ?_
 have am:=M.e_pure hM
 exact ⟨_,resE_tmp rfl,⟨(fun _=>none),al,ac,am,rfl,H⟩⟩

def zbg (x:Int):M Bool :=
  M.pure true
theorem zfj {R:List Chunk}  (x:Int)  {r:Bool} (hM:(zbg x).Ends r) (w:World) (H:St w w [] R):Ret Tryz.prog 71 #[I x] w fun v w'=>∃ (y0:Bool),y0=r/\v=B y0/\St w w' [] R:=by
 refine ret_of_W Tryz.func71 rfl rfl rfl ?_;refine kg 8 ?_;refine W.ret ?_
 have aa:=M.e_pure hM
 exact ⟨_,resE_tmp rfl,⟨true,aa,rfl,H⟩⟩

def zaF (ae:List Work) (s_enters:Int->M Bool) (ab ac:Int) (ag:((List Work) × (Int->M Bool) × (Int->Option Bool) × Int × Int)->M ((List Int) × (Int->Option Bool))):(Int->Option Bool)->Int->M ((Int->Option Bool) ⊕ ((List Int) × (Int->Option Bool))):=fun mp x =>
  bif ((!((mp (x:Int)).getD false))&&(x != ac)) then (
  M.bind (s_enters x) fun r3 =>
  bif (((mp (x:Int)).getD false)||((x != ac)&&(!r3))) then (
  M.pure (.inl mp))
  else (
  M.bind (ag (ae,s_enters,mp,x,ac)) fun (r4,aa) =>
  bif !r4.isEmpty then (
  M.grd (decide ((([(ab:Int)]).length+r4.length)*8<=140737488355328)) <|
  M.pure (.inr (([(ab:Int)])++r4,aa)))
  else (
  M.pure (.inl aa))))
  else (
  bif (((mp (x:Int)).getD false)||false) then (
  M.pure (.inl mp))
  else (
  M.bind (ag (ae,s_enters,mp,x,ac)) fun (r4,aa) =>
  bif !r4.isEmpty then (
  M.grd (decide ((([(ab:Int)]).length+r4.length)*8<=140737488355328)) <|
  M.pure (.inr (([(ab:Int)])++r4,aa)))
  else (
  M.pure (.inl aa))))
def zaA (ag:((List Work) × (Int->M Bool) × (Int->Option Bool) × Int × Int)->M ((List Int) × (Int->Option Bool))):((List Work) × (Int->M Bool) × (Int->Option Bool) × Int × Int)->M ((List Int) × (Int->Option Bool)):=fun (ab,s_enters,ae,aa,ac) =>
  bif aa==ac then (
  M.pure (([(ac:Int)]),ae))
  else (
  M.bind (zdv ab aa) fun ah =>
  M.bind (zaH (M.yl (zaF ab s_enters aa ac ag)) (.inl (updF ae (aa:Int) true)) ab ah) fun x_=>match x_ with
  | .inl mp=>(
  M.pure (([]),mp))
  | .inr (l,ai)=>(
  M.grd (decide (0<l.length)) <|
  M.pure (l,ai)))
theorem zgn  : M.Mon zaA:=by
  intro n f g h a
  obtain ⟨aa,s_enters,ab,ac,ae⟩:=a
  simp only [zaA,zaF]
  repeat' (first | exact M.le_same _ _ | exact h _ | refine M.le_grd ?_ | refine M.le_if ?_ ?_ | refine M.le_bind ?_ (fun x=>?_) | refine M.le_opt ?_ | refine M.le_iter (fun x=>?_) _ | refine zbS (M.le_yl (fun s_ a_=>?_)) _ _ _ | (rename_i x; cases x) | (rename_i x; obtain ⟨_,_⟩:=x))
def zeI (aa:List Work) (s_enters:Int->M Bool) (ab:Int->Option Bool) (ac ae:Int):M ((List Int) × (Int->Option Bool)):=M.fix zaA zgn (aa,s_enters,ab,ac,ae)
theorem zgc (n_:Nat):∀ {R:List Chunk} {ag:Nat} {aj:Nat} {aM:Cells} {aN:Value} {aG:Value} {ac:Nat} (ai:List Work) (s_enters:Int->M Bool) (ah:Int->Option Bool) (aa:Int) (ab:Int) (au:Reads R aM) (ax:Sl aM aN ai) (av:Has R (cBlk aj [aN] 97)) (ay:FnM Tryz.prog R aG s_enters) (aE:Has R (cBlk ag [Pq aj,aG,.map (some ac)] 149)) {r:((List Int) × (Int->Option Bool))} (hM:(M.fixN zaA n_ (ai,s_enters,ah,aa,ab)).Ends r) (w:World) (H:St w w [cMap I B ac ah] R),Ret Tryz.prog 110 #[Pq ag,I aa,I ab] w fun v w'=>∃ (y0:List Int) (y1:Int->Option Bool) (u0:Value),(y0,y1)=r/\v=u0/\St w w' [cOwn (α:=Int) 3 u0 y0,cMap I B ac y1] R/\(y0=[]->u0 = .slice none 0 0):=by
  induction n_ with
  | zero=>intro R ag aj aM aN aG ac ai s_enters ah aa ab au ax av ay aE r hM w H; exact (M.e_fail hM).elim
  | succ n_ ih =>
    intro R ag aj aM aN aG ac ai s_enters ah aa ab au ax av ay aE r hM w H;refine ret_of_WD Tryz.func110 rfl rfl rfl ?_
    replace H:St w w [cMk ([]),cMap I B ac ah] R:=H.mk0
    have bn:=ax.len_le
    simp only [M.fixN,zaA] at hM
    refine WD.seq<|WD.of<|W.region rfl ?_;refine t_b1 (Pq ag) H rfl rfl ?_;intro am bo H;refine t_b1 (I aa) H rfl rfl ?_;intro ao bp H;refine t_b1 (I ab) H rfl rfl ?_;intro ap br H;refine t_alloc (cs:=[.slice none 0 0]) H Al22 rfl ?_;intro ae bt H;refine s_nil<|WD.seq<|WD.seq<|WD.of ?_;refine kg 5 ?_
    refine WD.cond (aa==ab) rfl (fun az=>?_) (fun az=>?_)
    ·replace hM:=M.e_t hM az
     replace az:=dI az
     refine WD.seq<|WD.of ?_;refine kg 2 ?_;refine t_bs (α:=Int) T22 [I ab] [(ab:Int)] H rfl (.cons rfl (Flat.rep_enc _ (ab:Int))<|.nil) rfl rfl rfl ?_;intro aH bu H;refine t_sw 1 0 [aH] aH H rfl rfl Sz22 (Sl.cells (H.os 0)) rfl rfl (by simp only [List.all_cons,List.all_nil,Bool.true_and,Bool.and_true,Sl.oc (H.os 0)]; try rfl) ?_;intro bv H;refine s_nil ?_;replace H:=H.pk [0,1,5,6];refine WD.of ?_;refine W.ret ?_;refine bodyD_r (H.pk [2,0,1,3]) ?_;intro bw H;replace H:=H.nf
     have a0:=(H.bl 1)
     have aI:=M.e_pure hM
     exact ⟨_,(resE_of1 (v:=aH) rfl (.cell (v:=aH) rfl (run_loadVar_sc Sc22 a0 rfl)<|.nil)),⟨([(ab:Int)]),ah,aH,aI,rfl,(H.pk [0,2]),(fun h_=>absurd h_ (by simp))⟩⟩
    replace hM:=M.e_f hM az
    replace az:=dI az
    refine WD.of<|W.skip<|WD.seq<|WD.of ?_;refine W.draw (fun W=>St w W [cBlk ae [.slice none 0 0] 22,cBlk ap [I ab] 3,cBlk ao [I aa] 3,cBlk am [Pq ag] 108,cMk ([])] R) [(0,true),(1,true),(2,true),(3,true),(4,true),(5,false)] mixed (by decide +kernel) rfl ?_;intro bx aJ;replace H:=H.ext aJ;clear aJ
    refine ⟨(H.pk [0,1,2,3,4]),?_⟩
    refine kg 5 ?_;refine d_l rfl ?_;refine t_mapu (i:=5) (kenc:=I) (venc:=B) (f:=ah) (k:=(aa:Int)) (v:=true) (L':=[cBlk ae [.slice none 0 0] 22,cBlk ap [I ab] 3,cBlk ao [I aa] 3,cBlk am [Pq ag] 108,cMk ([]),cMap I B ac (updF ah (aa:Int) true)]) keyIntB Tryz.underlying140 H rfl rfl rfl rfl rfl ?_;intro bz H
    refine s_nil ⟨(H.pk [0,1,2,3,4]),?_⟩
    refine d_nil<|WD.seq<|WD.seq<|WD.of ?_;refine W.draw (fun W=>St w W [cBlk ae [.slice none 0 0] 22,cBlk ap [I ab] 3,cBlk ao [I aa] 3,cBlk am [Pq ag] 108,cMk ([]),cMap I B ac (updF ah (aa:Int) true)] R) [(0,true),(1,true),(2,true),(3,true),(4,true),(5,false)] mixed (by decide +kernel) rfl ?_;intro bA aJ;replace H:=H.ext aJ;clear aJ
    refine ⟨(H.pk [0,1,2,3,4,5]),?_⟩
    refine kg 5 ?_;refine d_l rfl ?_;obtain ⟨bB,a4,hM⟩:=M.e_bind hM;refine s_call cf84 [Pq aj,I aa] rfl (zeG ai aa (au.app _) ax (av.app _) a4 _ (H.gt 6)) ?_
    rintro vq bC ⟨aA,aB,aC,rfl,hvq,ak⟩
    subst vq;(try dsimp only at hM);replace H:=H.bk ak;clear ak
    refine s_nil ⟨(H.pk [2,3,4,5,6,7]),?_⟩
    refine d_nil<|WD.block ?_;obtain ⟨bD,a5,hM⟩:=M.e_bind hM;refine WD.range (L:=[cBlk ae [.slice none 0 0] 22,cMap I B ac (updF ah (aa:Int) true),cBlk aB [Pq aj] 87,cBlk aC [I aA] 3,cBlk ap [I ab] 3,cBlk ao [I aa] 3,cBlk am [Pq ag] 108]) [Pq aB,Pq aC] (H.pk [6,2,7,0,1,3,4,5]) rfl cf118 ?_;intro aO aQ aR a6 aS H
    have hYC:YieldC Tryz.prog ([cMk (aQ :: ([])),cBlk aB [Pq aj] 87,cBlk aC [I aA] 3,cBlk ap [I ab] 3,cBlk ao [I aa] 3,cBlk am [Pq ag] 108]++R) arI (yJ aO aR (fun mp aw=>aw=[cBlk ae [.slice none 0 0] 22,cMap I B ac mp]) (fun (l,aD) aw=>∃ (al:Value),aw=[cBlk ae [al] 22,cMap I B ac aD,cOwn (α:=Int) 3 al l]) (fun _=>.ret)) (.func (.yield aO) #[] #[]) (M.yl (zaF ai s_enters aa ab (M.fixN zaA n_))):=by
     refine YieldC.mk aS (fun mp aw=>aw=[cBlk ae [.slice none 0 0] 22,cMap I B ac mp]) (fun (l,aD) aw=>∃ (al:Value),aw=[cBlk ae [al] 22,cMap I B ac aD,cOwn (α:=Int) 3 al l]) (fun _=>.ret) (zaF ai s_enters aa ab (M.fixN zaA n_)) (by rintro mp _ h_; obtain ⟨rfl⟩:=h_; rfl) (by rintro ⟨l,aD⟩ _ h_; (obtain ⟨_,rfl⟩:=h_; rfl)) rfl (arI_len rfl) ?_;intro C_ bE x W_ a7
     obtain rfl:=a7
     refine kg 3 ?_
     refine ⟨rfl,rfl,?_⟩
     intro w R aP aw s_ r a8 hM H
     skip
     obtain ⟨mp,a9⟩:∃ y_,y_=s_:=⟨_,rfl⟩
     subst a9
     obtain ⟨rfl⟩:=a8
     replace au:=au.sub aP
     replace av:=av.sub aP
     replace ay:=ay.sub aP
     replace aE:=aE.sub aP
     replace hM:(zaF ai s_enters aa ab (M.fixN zaA n_) mp x).Ends r:=hM
     simp only [zaF] at hM
     replace H:=H.pk [0,1,3,4,5,6,7,2];refine kg 9 ?_;refine s_val (q_look (kenc:=I) (venc:=B) (f:=mp) (k:=(x:Int)) (v:=B ((mp (x:Int)).getD false)) keyIntB Tryz.underlying140 Al4 rfl rfl (H.get (k:=1) rfl) false (by rw [if_neg (by decide),bool_val])) ?_;refine kg 10 ?_
     refine g_splitV ((!((mp (x:Int)).getD false))&&(x != ab)) (B false) (gy_gt rfl rfl) (fun aF=>?_) (fun aF=>?_)
     ·replace hM:=M.e_t hM aF;obtain ⟨r3,ba,hM⟩:=M.e_bind hM;refine t_callM H ay (gd_of (c:=((!((mp (x:Int)).getD false))&&(x != ab))) aF (aG)) (gd_of (c:=((!((mp (x:Int)).getD false))&&(x != ab))) aF (I x)) x Reads.none (Arg.mkI (fun _=>none) _) ba ?_;intro bF H;refine kg 1 ?_;refine g_val (!((mp (x:Int)).getD false)) (gy_f rfl) (fun hg=>x_pand (b:=x != ab) (r:=!r3) (gd_of hg (B (x != ab))) (fun hb=>gd_of (c:=((!((mp (x:Int)).getD false))&&(x != ab))) (by first | exact hb | (rw [hb]; rfl) | simp_all) (B (!r3))) rfl)<|s_val (x_por (b:=(mp (x:Int)).getD false) (r:=((x != ab)&&(!r3))) rfl rfl (fun hb=>gd_of (c:=!((mp (x:Int)).getD false)) (by first | exact hb | (rw [hb]; rfl) | simp_all) (B ((x != ab)&&(!r3)))))<|s_nil ?_
      refine W.cond (((mp (x:Int)).getD false)||((x != ab)&&(!r3))) rfl (fun aT=>?_) (fun aT=>?_)
      ·replace hM:=M.e_t hM aT;refine W.exit ?_
       exact ⟨mp,[cBlk ae [.slice none 0 0] 22,cMap I B ac mp],(M.e_pure hM).symm,rfl,H.pick [0,1,7,2,3,4,5,6] (by decide) rfl⟩
      replace hM:=M.e_f hM aT;refine kg 6 ?_;obtain ⟨bG,bb,hM⟩:=M.e_bind hM;refine s_call cf110 [Pq ag,I x,I ab] rfl (ih ai s_enters mp x ab (au.app _) ax (av.app _) (ay.app _) (aE.app _) bb _ ((H.pk [1,0,2,3,4,5,6,7]).gt 7)) ?_
      rintro vq bH ⟨r4,aq,aU,rfl,hvq,ak,bc⟩
      subst vq;(try dsimp only at hM)
      replace H:=H.pk [1,0,2,3,4,5,6,7] |>.bk ak
      clear ak;refine kg 5 ?_;refine s_val (x_nenil (α:=Int) T22.und rfl rfl (H.os 0) bc)<|s_nil ?_
      refine W.cond (!r4.isEmpty) rfl (fun aV=>?_) (fun aV=>?_)
      ·replace hM:=M.e_t hM aV;refine kg 3 ?_;refine t_bs (α:=Int) T22 [I aa] [(aa:Int)] H rfl (.cons rfl (Flat.rep_enc _ (aa:Int))<|.nil) rfl rfl rfl ?_;intro bI bJ H;obtain ⟨bK,hM⟩:=M.e_gd hM;refine kg 1 ?_;refine t_app (α:=Int) (k:=0) (l:=[(aa:Int)]) (l2:=r4) (l':=([(aa:Int)])++r4) (vy:=aU) T22 rfl H rfl rfl rfl (H.os 1) (H.ol 1) (rfl) (by first | omega | (simp only [List.length_nil] at *; omega)) ?_;intro aK bL H;replace H:=H.nf;refine t_sw 3 0 [aK] aK H rfl rfl Sz22 (Sl.cells (H.os 0)) rfl rfl (by simp only [List.all_cons,List.all_nil,Bool.true_and,Bool.and_true,Sl.oc (H.os 0)]; try rfl) ?_;intro bM H;refine s_nil ?_;refine W.ret ?_
       exact ⟨(([(aa:Int)])++r4,aq),[cBlk ae [aK] 22,cMap I B ac aq,cOwn (α:=Int) 3 aK (([(aa:Int)])++r4)],(M.e_pure hM).symm,⟨aK,rfl⟩,H.pick [3,2,0,9,4,5,6,7,8] (by decide) rfl,rfl⟩
      replace hM:=M.e_f hM aV;refine W.skip ?_
      exact ⟨aq,[cBlk ae [.slice none 0 0] 22,cMap I B ac aq],(M.e_pure hM).symm,rfl,H.pick [2,1,8,3,4,5,6,7] (by decide) rfl⟩
     replace hM:=M.e_f hM aF;refine g_val (v:=B false) ((!((mp (x:Int)).getD false))&&(x != ab)) (gy_gt rfl rfl) (fun hg=>Bool.noConfusion (aF.symm.trans hg))<|g_val (!((mp (x:Int)).getD false)) (gy_f rfl) (fun hg=>x_pand0 (b:=x != ab) (gd_of hg (B (x != ab))) (fun hb=>gd_of (c:=((!((mp (x:Int)).getD false))&&(x != ab))) (by first | exact hb | (rw [hb]; rfl) | simp_all) (B false)) rfl)<|s_val (x_por (b:=(mp (x:Int)).getD false) (r:=false) rfl rfl (fun hb=>gd_of (c:=!((mp (x:Int)).getD false)) (by first | exact hb | (rw [hb]; rfl) | simp_all) (B false)))<|s_nil ?_
     refine W.cond (((mp (x:Int)).getD false)||false) rfl (fun aW=>?_) (fun aW=>?_)
     ·replace hM:=M.e_t hM aW;refine W.exit ?_
      exact ⟨mp,[cBlk ae [.slice none 0 0] 22,cMap I B ac mp],(M.e_pure hM).symm,rfl,H.pick [0,1,7,2,3,4,5,6] (by decide) rfl⟩
     replace hM:=M.e_f hM aW;refine kg 6 ?_;obtain ⟨bN,bf,hM⟩:=M.e_bind hM;refine s_call cf110 [Pq ag,I x,I ab] rfl (ih ai s_enters mp x ab (au.app _) ax (av.app _) (ay.app _) (aE.app _) bf _ ((H.pk [1,0,2,3,4,5,6,7]).gt 7)) ?_
     rintro vq bO ⟨r4,aq,aU,rfl,hvq,ak,bg⟩
     subst vq;(try dsimp only at hM)
     replace H:=H.pk [1,0,2,3,4,5,6,7] |>.bk ak
     clear ak;refine kg 5 ?_;refine s_val (x_nenil (α:=Int) T22.und rfl rfl (H.os 0) bg)<|s_nil ?_
     refine W.cond (!r4.isEmpty) rfl (fun aX=>?_) (fun aX=>?_)
     ·replace hM:=M.e_t hM aX;refine kg 3 ?_;refine t_bs (α:=Int) T22 [I aa] [(aa:Int)] H rfl (.cons rfl (Flat.rep_enc _ (aa:Int))<|.nil) rfl rfl rfl ?_;intro bP bQ H;obtain ⟨bR,hM⟩:=M.e_gd hM;refine kg 1 ?_;refine t_app (α:=Int) (k:=0) (l:=[(aa:Int)]) (l2:=r4) (l':=([(aa:Int)])++r4) (vy:=aU) T22 rfl H rfl rfl rfl (H.os 1) (H.ol 1) (rfl) (by first | omega | (simp only [List.length_nil] at *; omega)) ?_;intro aL bS H;replace H:=H.nf;refine t_sw 3 0 [aL] aL H rfl rfl Sz22 (Sl.cells (H.os 0)) rfl rfl (by simp only [List.all_cons,List.all_nil,Bool.true_and,Bool.and_true,Sl.oc (H.os 0)]; try rfl) ?_;intro bT H;refine s_nil ?_;refine W.ret ?_
      exact ⟨(([(aa:Int)])++r4,aq),[cBlk ae [aL] 22,cMap I B ac aq,cOwn (α:=Int) 3 aL (([(aa:Int)])++r4)],(M.e_pure hM).symm,⟨aL,rfl⟩,H.pick [3,2,0,9,4,5,6,7,8] (by decide) rfl,rfl⟩
     replace hM:=M.e_f hM aX;refine W.skip ?_
     exact ⟨aq,[cBlk ae [.slice none 0 0] 22,cMap I B ac aq],(M.e_pure hM).symm,rfl,H.pick [2,1,8,3,4,5,6,7] (by decide) rfl⟩
    replace H:St w a6 (cAll (cObj aO (.loop aR) :: [cBlk ae [.slice none 0 0] 22,cMap I B ac (updF ah (aa:Int) true)]) :: [cMk (aQ :: ([])),cBlk aB [Pq aj] 87,cBlk aC [I aA] 3,cBlk ap [I ab] 3,cBlk ao [I aa] 3,cBlk am [Pq ag] 108]) R:=St.bundleB (A:=cObj aO (.loop aR) :: [cBlk ae [.slice none 0 0] 22,cMap I B ac (updF ah (aa:Int) true)]) (T:=[cMk (aQ :: ([])),cBlk aB [Pq aj] 87,cBlk aC [I aA] 3,cBlk ap [I ab] 3,cBlk ao [I aa] 3,cBlk am [Pq ag] 108]) rfl (H.pk [0,2,3,1,4,5,6,7,8])
    refine (zex (M.yl (zaF ai s_enters aa ab (M.fixN zaA n_))) (.inl (updF ah (aa:Int) true)) ai aA hYC ⟨_,rfl,rfl⟩ (au.app _) ax (av.app _) (Has.here (k:=1) rfl) (Has.here (k:=2) rfl) a5 _ (H.gt 6)).mono ?_
    rintro vq bU ⟨bh,bV,rfl,hvq,ak,aZ⟩
    replace H:=H.back ak rfl
    clear ak hYC
    rcases bh with mp | ⟨l,aD⟩
    ·(try dsimp only at hM)
     obtain ⟨_,rfl,rfl⟩:=aZ
     refine ⟨_,[cBlk ae [.slice none 0 0] 22,cMap I B ac mp,cBlk aB [Pq aj] 87,cBlk aC [I aA] 3,cBlk ap [I ab] 3,cBlk ao [I aa] 3,cBlk am [Pq ag] 108],H.unbundle.pick [0,3,1,2,4,5,6,7,8] (by decide) rfl,aS.nb,?_⟩
     intro bi H
     rw [aS.pd]
     replace H:=H.nf
     try simp only []
     replace H:=H.pk [0,1,2];refine WD.seq<|WD.of<|W.region rfl ?_;refine t_sw 1 0 [.slice none 0 0] (.slice none 0 0) H rfl rfl Sz22 rfl rfl rfl rfl ?_;intro bW H;refine s_nil<|WD.of ?_;refine W.ret ?_;refine bodyD_r (H.pk [0,1,2]) ?_;intro bX H;replace H:=H.nf
     have bj:=(H.bl 0)
     have aI:=M.e_pure hM
     replace H:=H.nilOwn (α:=Int) 3
     exact ⟨_,(resE_of1 (v:=.slice none 0 0) rfl (.cell (v:=.slice none 0 0) rfl (run_loadVar_sc Sc22 bj rfl)<|.nil)),⟨([]),mp,(.slice none 0 0),aI,rfl,(H.pk [0,2]),(fun _=>rfl)⟩⟩
    (try dsimp only at hM)
    obtain ⟨_,rfl,al,rfl⟩:=aZ
    refine ⟨_,[cBlk ae [al] 22,cMap I B ac aD,cOwn (α:=Int) 3 al l,cBlk aB [Pq aj] 87,cBlk aC [I aA] 3,cBlk ap [I ab] 3,cBlk ao [I aa] 3,cBlk am [Pq ag] 108],H.unbundle.pick [0,4,1,2,3,5,6,7,8,9] (by decide) rfl,nofun,?_⟩
    intro bi H
    show WD _ _ _ (.ret) _ _ _
    refine WD.of ?_;refine W.ret ?_;replace H:=H.nf;refine bodyD_r (H.pk [0,1,2,3,4,5,6,7,8]) ?_;intro bY H;replace H:=H.nf
    have bm:=(H.bl 0)
    obtain ⟨aY,hM⟩:=M.e_grd hM
    simp only [decide_eq_true_eq] at aY
    have aI:=M.e_pure hM
    exact ⟨_,(resE_of1 (v:=al) rfl (.cell (v:=al) rfl (run_loadVar_sc Sc22 bm rfl)<|.nil)),⟨l,aD,al,aI,rfl,(H.pk [2,1]),(fun h_=>by rw [h_] at aY; simp at aY)⟩⟩
theorem zfU {R:List Chunk} {ah:Nat} {ai:Nat} {aj:Cells} {ak:Value} {al:Value} {aa:Nat} (ab:List Work) (s_enters:Int->M Bool) (ac:Int->Option Bool) (ae:Int) (ag:Int) (am:Reads R aj) (ao:Sl aj ak ab) (ap:Has R (cBlk ai [ak] 97)) (aq:FnM Tryz.prog R al s_enters) (au:Has R (cBlk ah [Pq ai,al,.map (some aa)] 149)) {r:((List Int) × (Int->Option Bool))} (hM:(zeI ab s_enters ac ae ag).Ends r) (w:World) (H:St w w [cMap I B aa ac] R):Ret Tryz.prog 110 #[Pq ah,I ae,I ag] w fun v w'=>∃ (y0:List Int) (y1:Int->Option Bool) (u0:Value),(y0,y1)=r/\v=u0/\St w w' [cOwn (α:=Int) 3 u0 y0,cMap I B aa y1] R/\(y0=[]->u0 = .slice none 0 0):=by
  obtain ⟨n_,hM⟩:=M.e_fix hM
  exact zgc n_ ab s_enters ac ae ag am ao ap aq au hM w H

def zdt (aa:List Work) (s_enters:Int->M Bool) (ag:Int->Option Bool) (ab ac:Int):M ((List Int) × (Int->Option Bool)) :=
  M.bind (zeI aa s_enters (fun _=>none) ab ac) fun (r2,ae) =>
  M.pure (r2,ae)
theorem zeO {R:List Chunk} {ae:Nat} {ai:Nat} {aj:Cells} {ak:Value} {al:Value} {aa:Nat} (ag:List Work) (s_enters:Int->M Bool) (ah:Int->Option Bool) (ab:Int) (ac:Int) (ao:Reads R aj) (ap:Sl aj ak ag) (aq:Has R (cBlk ai [ak] 97)) (au:FnM Tryz.prog R al s_enters) (av:Has R (cBlk ae [Pq ai,al,.map (some aa)] 149)) {r:((List Int) × (Int->Option Bool))} (hM:(zdt ag s_enters ah ab ac).Ends r) (w:World) (H:St w w [cMap I B aa ah] R):Ret Tryz.prog 72 #[Pq ae,I ab,I ac] w fun v w'=>∃ (y0:List Int) (y1:Int->Option Bool) (u0:Value),(y0,y1)=r/\v=u0/\St w w' [cOwn (α:=Int) 3 u0 y0,cMap I B aa y1] R/\(y0=[]->u0 = .slice none 0 0):=by
 refine ret_of_W Tryz.func72 rfl rfl rfl ?_;refine kg 10 ?_;refine t_clearm (i:=0) (kenc:=I) (venc:=B) (f:=ah) (L':=[cMap I B aa (fun _=>none)]) (by rw [show (#[140]:Array TypeId)[0]?.bind Tryz.prog.underlying = Tryz.prog.underlying 140 from rfl,Tryz.underlying140]; rfl) H rfl rfl rfl ?_;intro aB H;refine kg 6 ?_;obtain ⟨aC,aw,hM⟩:=M.e_bind hM;refine s_call cf110 [Pq ae,I ab,I ac] rfl (zfU ag s_enters (fun _=>none) ab ac (ao.app _) ap (aq.app _) (au.app _) (av.app _) aw _ (H.gt 0)) ?_
 rintro vq aD ⟨r2,ax,ay,rfl,hvq,am,az⟩
 subst vq;(try dsimp only at hM);replace H:=H.bk am;clear am;refine kg 2 ?_;refine W.ret ?_
 have aA:=M.e_pure hM
 exact ⟨_,resE_tmp rfl,⟨r2,ax,ay,aA,rfl,H,az⟩⟩

def zeE (w_:List Work) (ab ac:Int):M ((List Int) × Int) :=
  M.bind (zaD w_) fun x_=>match x_ with
  | (.inl r2)=>(
  bif r2 != 0 then (
  M.pure (([]),r2))
  else (
  M.fail))
  | (.inr (r1,ae))=>(
  bif ae != 0 then (
  M.fail)
  else (
  M.bind (zal ab 0 ((w_.length:Int)-1)) fun r3 =>
  M.bind (M.opt (!(!r3)) (zal ac 0 ((w_.length:Int)-1)) false) fun r4 =>
  bif ((!r3)||(!r4)) then (
  M.pure (([]),2))
  else (
  M.bind (zcj w_ (fun aa=>zbg aa)) fun ag =>
  M.bind (zdt w_ (fun aa=>zbg aa) ag ab ac) fun (r5,ah) =>
  bif !r5.isEmpty then (
  M.pure (r5,0))
  else (
  M.pure (([]),5)))))
theorem zfP {R:List Chunk} {aA:Cells} {al:Value} (w_:List Work) (ag:Int) (ac:Int) (am:Reads R aA) (ah:Sl aA al w_) {r:((List Int) × Int)} (hM:(zeE w_ ag ac).Ends r) (w:World) (H:St w w [] R):Ret Tryz.prog 23 #[al,I ag,I ac] w fun v w'=>∃ (y0:List Int) (y1:Int) (u0:Value),(y0,y1)=r/\v = .tuple #[u0,I y1]/\St w w' [cOwn (α:=Int) 3 u0 y0] R:=by
 refine ret_of_W Tryz.func23 rfl rfl rfl ?_;refine kg 8 ?_;obtain ⟨aU,aB,hM⟩:=M.e_bind hM;refine s_call cf51 [al] rfl (zaO w_ (am.app _) ah aB _ (H.gt 0)) ?_
 rintro vq aV (⟨r2,aC,hvq,aa⟩ | ⟨r1,aD,aE,aW,aF,hvq,aa⟩)
 ·subst aC;subst vq;(try dsimp only at hM);replace H:=H.bk aa;clear aa;refine kg 16 ?_
  refine W.cond (r2 != 0) rfl (fun ai=>?_) (fun ai=>?_)
  ·replace hM:=M.e_t hM ai
   replace ai:=dI ai
   refine kg 6 ?_;refine W.ret ?_
   have ab:=M.e_pure hM
   replace H:=H.nilOwn (α:=Int) 3
   exact ⟨_,resE_tmp2 rfl,⟨([]),r2,(.slice none 0 0),ab,rfl,H⟩⟩
  replace hM:=M.e_f hM ai
  exact (M.e_fail hM).elim
 subst aF;subst vq;(try dsimp only at hM);replace H:=H.bk aa;clear aa;refine kg 16 ?_
 refine W.cond (aD != 0) rfl (fun aj=>?_) (fun aj=>?_)
 ·replace hM:=M.e_t hM aj
  exact (M.e_fail hM).elim
 replace hM:=M.e_f hM aj
 replace aj:=dI aj
 have aX:=(ah).len_le
 refine kg 6 ?_;obtain ⟨aY,aG,hM⟩:=M.e_bind hM;refine s_call cf66 [I ag,I 0,I ((w_.length:Int)-1)] rfl (zap ag 0 ((w_.length:Int)-1) aG _ (H.gt 2)) ?_
 rintro vq aZ ⟨r3,rfl,hvq,aa⟩
 subst vq;(try dsimp only at hM);replace H:=H.bk aa;clear aa
 have a0:=(ah).len_le
 refine kg 6 ?_;obtain ⟨r4,aH,hM⟩:=M.e_bind hM;refine t_gcall (!(!r3)) (gy_f rfl) cf66 (B r4) (fun _=>[I ac,I 0,I ((w_.length:Int)-1)]) (fun hg=>lst3 (gd_of hg (I ac)) rfl (gd_of hg (I ((w_.length:Int)-1)))) H (fun hg=>(zap ac 0 ((w_.length:Int)-1) (M.e_opt aH hg) _ (H.give (A:=[]) rfl)).mono fun v_ w_ ⟨y_,ab,aI,H_⟩=>by subst ab; exact ⟨aI,H.via H_⟩) ?_;intro a4 H;refine kg 1 ?_;refine s_val (x_por (b:=!r3) (r:=!r4) rfl rfl (fun hb=>gd_of (c:=!(!r3)) (by first | exact hb | (rw [hb]; rfl) | simp_all) (B (!r4))))<|zA (B ((!r3)||(!r4))) rfl<|s_nil ?_
 refine W.cond ((!r3)||(!r4)) rfl (fun ao=>?_) (fun ao=>?_)
 ·replace hM:=M.e_t hM ao;refine kg 5 ?_;replace H:=H.pk [];refine W.ret ?_
  have ab:=M.e_pure hM
  replace H:=H.nilOwn (α:=Int) 3
  exact ⟨_,resE_tmp2 rfl,⟨([]),2,(.slice none 0 0),ab,rfl,H⟩⟩
 replace hM:=M.e_f hM ao;refine kg 4 ?_;obtain ⟨a5,aJ,hM⟩:=M.e_bind hM;refine s_call cf70 [Pq aE,.func (.func 71) #[] #[]] rfl (zew w_ (fun ae=>zbg ae) (am.app _) ah (Has.here (k:=0) rfl) ⟨71,[],rfl,cf71,fun ak aK aL ap ae aM aq aN au av=>by obtain rfl:=Arg.int au; exact (zfj ae av ak (St.refl aq)).mono fun ap ak ⟨aO,aw,ax,ay⟩=>by subst aw; exact ⟨ax,ay⟩⟩ aJ _ (H.gt 2)) ?_
 rintro vq a6 ⟨aP,aQ,a7,rfl,hvq,aa⟩
 subst vq;(try dsimp only at hM);replace H:=H.bk aa;clear aa;refine kg 8 ?_;obtain ⟨a8,aR,hM⟩:=M.e_bind hM;refine s_call cf72 [Pq aQ,I ag,I ac] rfl (zeO w_ (fun ae=>zbg ae) aP ag ac (am.app _) ah (Has.here (k:=1) rfl) ⟨71,[],rfl,cf71,fun ak aK aL ap ae aM aq aN au av=>by obtain rfl:=Arg.int au; exact (zfj ae av ak (St.refl aq)).mono fun ap ak ⟨aO,aw,ax,ay⟩=>by subst aw; exact ⟨ax,ay⟩⟩ (Has.here (k:=0) rfl) aR _ ((H.pk [1,0,2,3]).gt 3)) ?_
 rintro vq a9 ⟨r5,ba,aS,rfl,hvq,aa,aT⟩
 subst vq;(try dsimp only at hM)
 replace H:=H.pk [1,0,2,3] |>.bk aa
 clear aa;refine kg 2 ?_;replace H:=H.pk [0];refine kg 3 ?_;refine s_val (x_nenil (α:=Int) T22.und rfl rfl (H.os 0) aT)<|s_nil ?_
 refine W.cond (!r5.isEmpty) rfl (fun az=>?_) (fun az=>?_)
 ·replace hM:=M.e_t hM az;refine kg 6 ?_;refine W.ret ?_
  have ab:=M.e_pure hM
  exact ⟨_,resE_tmp2 rfl,⟨r5,0,aS,ab,rfl,H⟩⟩
 replace hM:=M.e_f hM az;refine kg 6 ?_;refine W.ret ?_
 have ab:=M.e_pure hM
 replace H:=H.nilOwn (α:=Int) 3
 exact ⟨_,resE_tmp2 rfl,⟨([]),5,(.slice none 0 0),ab,rfl,(H.pk [0])⟩⟩

end Go.Proofs.YtkclldpnmolljaaGreat
end
section
set_option maxRecDepth 100000
set_option maxHeartbeats 16000000
namespace Go.Proofs.YtkclldpnmolljaaGreat
open Go Go.Nm
attribute [local irreducible] gd execOp SL SLD SLT WR
def zfc (w_:List Work) (aa ab:Int):M Int :=
  M.bind (zaK w_) fun r2 =>
  bif r2 != 0 then (
  M.pure r2)
  else (
  M.bind (zao aa 0 ((w_.length:Int)-1)) fun r3 =>
  M.bind (M.opt (!r3) (zao ab 0 ((w_.length:Int)-1)) false) fun r4 =>
  bif (r3||r4) then (
  M.pure 2)
  else (
  bif aa != ab then (
  M.bind (zbN w_) fun r5 =>
  M.grd ((!(aa != ab)||(decide ((0:Int)<=aa)&&decide (aa<(r5.length:Int))))) <|
  M.grd ((!(aa != ab)||(decide ((0:Int)<=ab)&&decide (ab<((r5.getD (Int.toNat aa) ([])).length:Int))))) <|
  bif ((aa != ab)&&(!((r5.getD (Int.toNat aa) ([])).getD (Int.toNat ab) false))) then (
  M.pure 5)
  else (
  M.pure 0))
  else (
  M.pure 0)))
theorem zfB {R:List Chunk} {ax:Cells} {am:Value} (w_:List Work) (aa:Int) (ab:Int) (ay:Reads R ax) (ap:Sl ax am w_) {r:Int} (hM:(zfc w_ aa ab).Ends r) (w:World) (H:St w w [] R):Ret Tryz.prog 24 #[am,I aa,I ab] w fun v w'=>∃ (y0:Int),y0=r/\v=I y0/\St w w' [] R:=by
 refine ret_of_W Tryz.func24 rfl rfl rfl ?_;refine kg 8 ?_;obtain ⟨aI,aA,hM⟩:=M.e_bind hM;refine s_call cf14 [am] rfl (zbe w_ (ay.app _) ap aA _ (H.gt 0)) ?_
 rintro vq aJ ⟨r2,rfl,hvq,ah⟩
 subst vq;(try dsimp only at hM);replace H:=H.bk ah;clear ah;refine kg 7 ?_
 refine W.cond (r2 != 0) rfl (fun ai=>?_) (fun ai=>?_)
 ·replace hM:=M.e_t hM ai
  replace ai:=dI ai
  refine kg 5 ?_;refine W.ret ?_
  have ae:=M.e_pure hM
  exact ⟨_,resE_tmp rfl,⟨r2,ae,rfl,H⟩⟩
 replace hM:=M.e_f hM ai
 replace ai:=dI ai
 have aK:=(ap).len_le
 refine kg 8 ?_;obtain ⟨aL,aB,hM⟩:=M.e_bind hM;refine s_call cf68 [I aa,I 0,I ((w_.length:Int)-1)] rfl (zas aa 0 ((w_.length:Int)-1) aB _ (H.gt 0)) ?_
 rintro vq aM ⟨r3,rfl,hvq,ah⟩
 subst vq;(try dsimp only at hM);replace H:=H.bk ah;clear ah
 have aN:=(ap).len_le
 refine kg 5 ?_;obtain ⟨r4,aC,hM⟩:=M.e_bind hM;refine t_gcall (!r3) (gy_f rfl) cf68 (B r4) (fun _=>[I ab,I 0,I ((w_.length:Int)-1)]) (fun hg=>lst3 (gd_of hg (I ab)) rfl (gd_of hg (I ((w_.length:Int)-1)))) H (fun hg=>(zas ab 0 ((w_.length:Int)-1) (M.e_opt aC hg) _ (H.give (A:=[]) rfl)).mono fun v_ w_ ⟨y_,ae,aD,H_⟩=>by subst ae; exact ⟨aD,H.via H_⟩) ?_;intro aO H;refine s_val (x_por (b:=r3) (r:=r4) rfl rfl (fun hb=>gd_of (c:=!r3) (by first | exact hb | (rw [hb]; rfl) | simp_all) (B r4)))<|s_nil ?_
 refine W.cond (r3||r4) rfl (fun aq=>?_) (fun aq=>?_)
 ·replace hM:=M.e_t hM aq;refine kg 4 ?_;refine W.ret ?_
  have ae:=M.e_pure hM
  exact ⟨_,resE_tmp rfl,⟨2,ae,rfl,H⟩⟩
 replace hM:=M.e_f hM aq;refine kg 9 ?_
 refine g_splitV (aa != ab) (.slice none 0 0) (gy_t rfl) (fun ag=>?_) (fun ag=>?_)
 ·replace hM:=M.e_t hM ag;obtain ⟨aP,aE,hM⟩:=M.e_bind hM;refine s_call cf54 [am] (lst1 (gd_of (c:=aa != ab) ag (am))) (zdl w_ (ay.app _) ap aE _ (H.gt 0)) ?_
  rintro vq aQ ⟨r5,aF,aR,rfl,hvq,ah,aG⟩
  subst vq;(try dsimp only at hM);replace H:=H.bk ah;clear ah;obtain ⟨aj,hM⟩:=M.e_grd hM
  replace aj:=M.imp_of aj
  simp only [Bool.and_eq_true,decide_eq_true_eq] at aj
  refine kg 2 ?_
  obtain ⟨au,aH,av⟩:=gd_ex (c:=aa != ab) fun hg=>List_at aG (i:=aa) (by have ac:=aj.resolve_left (by rw [hg]; decide); first | exact ac | exact ac.1 | exact ac.2 | omega | (have ak:=hg; simp at ak; omega)) (by have ac:=aj.resolve_left (by rw [hg]; decide); first | exact ac | exact ac.1 | exact ac.2 | omega | (have ak:=hg; simp at ak; omega))
  replace av:(aa != ab)=true->Sl _ au (r5.getD (Int.toNat aa) ([])):=av
  refine g_val (aa != ab) (gy_t rfl) (fun hg=>x_ld (v:=au) (gd_of hg (vat aF 1 (Int.toNat aa))) (ld_sc Sc92 (At.mono (aH hg) (roLe _ (H.get (k:=0) rfl))))) ?_;obtain ⟨ao,hM⟩:=M.e_grd hM
  replace ao:=M.imp_of ao
  simp only [Bool.and_eq_true,decide_eq_true_eq] at ao
  refine kg 2 ?_;refine g_val (aa != ab) (gy_t rfl) (fun hg=>x_ld (v:=B ((r5.getD (Int.toNat aa) ([])).getD (Int.toNat ab) false)) (gd_of hg (vat au 1 (Int.toNat ab))) (ld_sc Sc4 (At.mono (Bool_at (av hg) (i:=ab) (by have ac:=aj.resolve_left (by rw [hg]; decide); have al:=ao.resolve_left (by rw [hg]; decide); first | exact ac | exact ac.1 | exact ac.2 | exact al | exact al.1 | exact al.2 | omega | (have ak:=hg; simp at ak; omega)) (by have ac:=aj.resolve_left (by rw [hg]; decide); have al:=ao.resolve_left (by rw [hg]; decide); first | exact ac | exact ac.1 | exact ac.2 | exact al | exact al.1 | exact al.2 | omega | (have ak:=hg; simp at ak; omega))) (roLe _ (H.get (k:=0) rfl))))) ?_;refine kg 1 ?_;refine s_val (x_pand (b:=aa != ab) (r:=!((r5.getD (Int.toNat aa) ([])).getD (Int.toNat ab) false)) rfl (fun hb=>gd_of (c:=aa != ab) (by first | exact hb | (rw [hb]; rfl) | simp_all) (B (!((r5.getD (Int.toNat aa) ([])).getD (Int.toNat ab) false)))) rfl)<|s_nil ?_
  refine W.cond ((aa != ab)&&(!((r5.getD (Int.toNat aa) ([])).getD (Int.toNat ab) false))) rfl (fun aw=>?_) (fun aw=>?_)
  ·replace hM:=M.e_t hM aw;refine kg 4 ?_;refine W.ret ?_
   have ae:=M.e_pure hM
   exact ⟨_,resE_tmp rfl,⟨5,ae,rfl,(H.pk [])⟩⟩
  replace hM:=M.e_f hM aw;refine kg 5 ?_;refine W.ret ?_
  have ae:=M.e_pure hM
  exact ⟨_,resE_tmp rfl,⟨0,ae,rfl,(H.pk [])⟩⟩
 replace hM:=M.e_f hM ag;refine g_val (v:=I 0) (aa != ab) (gy_t rfl) (fun hg=>Bool.noConfusion (ag.symm.trans hg))<|g_val (v:=.slice none 0 0) (aa != ab) (gy_t rfl) (fun hg=>Bool.noConfusion (ag.symm.trans hg))<|g_val (v:=.slice none 0 0) (aa != ab) (gy_t rfl) (fun hg=>Bool.noConfusion (ag.symm.trans hg))<|g_val (v:=I 0) (aa != ab) (gy_t rfl) (fun hg=>Bool.noConfusion (ag.symm.trans hg))<|g_val (v:=.slice none 0 0) (aa != ab) (gy_t rfl) (fun hg=>Bool.noConfusion (ag.symm.trans hg))<|g_val (v:=B false) (aa != ab) (gy_t rfl) (fun hg=>Bool.noConfusion (ag.symm.trans hg))<|g_val (v:=B false) (aa != ab) (gy_t rfl) (fun hg=>Bool.noConfusion (ag.symm.trans hg))<|s_val (x_pand0 (b:=aa != ab) rfl (fun hb=>gd_of (c:=aa != ab) (by first | exact hb | (rw [hb]; rfl) | simp_all) (B false)) rfl)<|s_nil ?_
 refine W.cond false rfl (fun az=>?_) (fun az=>?_)
 ·skip
  exact absurd az (by decide)
 skip
 refine kg 5 ?_;refine W.ret ?_
 have ae:=M.e_pure hM
 exact ⟨_,resE_tmp rfl,⟨0,ae,rfl,H⟩⟩

def zcE (a b:List Work):Nat->M (Nat ⊕ (Unit ⊕ Unit)):=fun s =>
  bif decide ((s:Int)<(a.length:Int)) then (
  M.grd (decide ((s:Int)<(a.length:Int))) <|
  M.grd (decide ((s:Int)<(b.length:Int))) <|
  M.bind (M.opt (!((((a.getD s default).base) != ((b.getD s default).base))||(((a.getD s default).minutes) != ((b.getD s default).minutes)))) (zab ((a.getD s default).of) ((b.getD s default).of)) false) fun r2 =>
  bif (((((a.getD s default).base) != ((b.getD s default).base))||(((a.getD s default).minutes) != ((b.getD s default).minutes)))||(!r2)) then (
  M.pure (.inr (.inl ())))
  else (
  M.pure (.inl (s+1))))
  else (
  M.pure (.inr (.inr ())))
def zaI (a b:List Work):M Bool :=
  bif (a.length:Int) != (b.length:Int) then (
  M.pure false)
  else (
  M.bind (M.iter (zcE a b) 0) fun x_=>match x_ with
  | (.inl (_:Unit))=>(
  M.pure false)
  | (.inr (_:Unit))=>(
  M.pure true))
theorem zbc {R:List Chunk} {ax:Cells} {ab:Value} {ay:Cells} {ac:Value} (a:List Work) (b:List Work) (ak:Reads R ax) (ae:Sl ax ab a) (al:Reads R ay) (aj:Sl ay ac b) {r:Bool} (hM:(zaI a b).Ends r) (w:World) (H:St w w [] R):Ret Tryz.prog 25 #[ab,ac] w fun v w'=>∃ (y0:Bool),y0=r/\v=B y0/\St w w' [] R:=by
 refine ret_of_W Tryz.func25 rfl rfl rfl ?_
 have aK:=(ae).len_le
 have aL:=(aj).len_le
 refine kg 13 ?_
 refine W.cond ((a.length:Int) != (b.length:Int)) rfl (fun ag=>?_) (fun ag=>?_)
 ·replace hM:=M.e_t hM ag
  replace ag:=dI ag
  refine kg 4 ?_;refine W.ret ?_
  have ah:=M.e_pure hM
  exact ⟨_,resE_tmp rfl,⟨false,ah,rfl,H⟩⟩
 replace hM:=M.e_f hM ag
 replace ag:=dI ag
 have aM:=(ae).len_le
 refine kg 9 ?_;obtain ⟨aB,ap,az⟩:=M.e_bind hM
 obtain ⟨aN,ap⟩:=M.e_iter ap
 refine W.loop (fun m σ W=>∃ (s:Nat) (ρ:Env),σ=upds ρ [(0,ab),(1,ac),(12,I (a.length:Int)),(13,I (s:Int))]/\M.iterN (zcE a b) m s=some aB/\St w W [] R) ?_ ?_
 ·exact ⟨_,0,_,upds_of _ _ ⟨rfl,rfl,rfl,rfl,trivial⟩,ap,H⟩
 rintro aO σ aP ⟨s,ρ,rfl,aA,H⟩
 obtain ⟨aC,aD,aQ,hM,aq⟩:=M.e_iterN aA
 simp only [zcE] at hM
 clear aA;refine kg 5 ?_
 refine W.cond (decide ((s:Int)<(a.length:Int))) rfl (fun ai=>?_) (fun ai=>?_)
 ·replace hM:=M.e_t hM ai
  replace ai:=dI ai
  refine kg 9 ?_;refine W.draw (fun W=>St w W [] R) [(0,true),(1,true),(2,true),(3,true),(4,true),(5,true),(6,true),(7,true),(8,true),(9,true),(10,true),(11,true),(12,true),(13,true),(14,true),(15,true),(16,true),(17,true),(18,true),(19,true),(20,true),(21,true),(22,true),(23,true),(24,true),(25,true),(26,true),(27,true),(28,true),(29,true),(30,true),(31,true),(32,true),(33,true),(34,true),(35,false),(36,true),(37,true)] mixed (by decide +kernel) rfl ?_;intro aR aa;replace H:=H.ext aa;clear aa
  refine ⟨(H.pk []),?_⟩
  obtain ⟨aS,hM⟩:=M.e_gd hM;refine kg 4 ?_;refine d_q rfl (fun w' H=>x_ld (v:=I ((a.getD s default).base)) rfl (ld_sc Sc3 (At.mono (Work_at1 ae (i:=(s:Int)) (by omega) (by omega)) (ak.at H)))) ?_;obtain ⟨aT,hM⟩:=M.e_gd hM;refine kg 4 ?_;refine d_q rfl (fun w' H=>x_ld (v:=I ((b.getD s default).base)) rfl (ld_sc Sc3 (At.mono (Work_at1 aj (i:=(s:Int)) (by omega) (by omega)) (al.at H)))) ?_;refine kg 6 ?_;refine d_qg (!(((a.getD s default).base) != ((b.getD s default).base))) rfl (gy_f rfl) (fun hg=>(fun w' H=>x_ld (v:=I ((a.getD s default).minutes)) (gd_of hg (fat (vat ab 3 (Int.toNat (s:Int))) 2)) (ld_sc Sc3 (At.mono (Work_at2 ae (i:=(s:Int)) (by first | omega | (have aa:=hg; simp at aa; omega)) (by first | omega | (have aa:=hg; simp at aa; omega))) (ak.at H))))) ?_;refine kg 4 ?_;refine d_qg (!(((a.getD s default).base) != ((b.getD s default).base))) rfl (gy_f rfl) (fun hg=>(fun w' H=>x_ld (v:=I ((b.getD s default).minutes)) (gd_of hg (fat (vat ac 3 (Int.toNat (s:Int))) 2)) (ld_sc Sc3 (At.mono (Work_at2 aj (i:=(s:Int)) (by first | omega | (have aa:=hg; simp at aa; omega)) (by first | omega | (have aa:=hg; simp at aa; omega))) (al.at H))))) ?_;refine kg 1 ?_;refine d_q rfl (fun w' H=>x_por (b:=((a.getD s default).base) != ((b.getD s default).base)) (r:=((a.getD s default).minutes) != ((b.getD s default).minutes)) rfl rfl (fun hb=>gd_of (c:=!(((a.getD s default).base) != ((b.getD s default).base))) (by first | exact hb | (rw [hb]; rfl) | simp_all) (B (((a.getD s default).minutes) != ((b.getD s default).minutes)))))<|d_q rfl (fun w' H=>x_mv (v:=B ((((a.getD s default).base) != ((b.getD s default).base))||(((a.getD s default).minutes) != ((b.getD s default).minutes)))) rfl)<|d_qg (!((((a.getD s default).base) != ((b.getD s default).base))||(((a.getD s default).minutes) != ((b.getD s default).minutes)))) rfl (gy_f rfl) (fun hg=>(fun w' H=>x_mv (v:=ab) rfl))<|d_qg (!((((a.getD s default).base) != ((b.getD s default).base))||(((a.getD s default).minutes) != ((b.getD s default).minutes)))) rfl (gy_f rfl) (fun hg=>(fun w' H=>x_mv (v:=I (s:Int)) rfl))<|d_qg (!((((a.getD s default).base) != ((b.getD s default).base))||(((a.getD s default).minutes) != ((b.getD s default).minutes)))) rfl (gy_f rfl) (fun hg=>(fun w' H=>x_ix (v:=vat ab 3 (Int.toNat (s:Int))) (gd_of hg (ab)) (gd_of hg (I (s:Int))) (Sl.ix (α:=Work) T23.und T23.size ae (by first | omega | (have aa:=hg; simp at aa; omega)) (by first | omega | (have aa:=hg; simp at aa; omega)))))<|d_qg (!((((a.getD s default).base) != ((b.getD s default).base))||(((a.getD s default).minutes) != ((b.getD s default).minutes)))) rfl (gy_f rfl) (fun hg=>(fun w' H=>x_fa (v:=fat (vat ab 3 (Int.toNat (s:Int))) 0) (gd_of hg (vat ab 3 (Int.toNat (s:Int)))) (fa_pl Fd34_0 Sz22 (Sl.pl (i:=(s:Int)) ae (by first | omega | (have aa:=hg; simp at aa; omega)) (by first | omega | (have aa:=hg; simp at aa; omega)))))) ?_
  obtain ⟨am,aE,au⟩:=gd_ex (c:=!((((a.getD s default).base) != ((b.getD s default).base))||(((a.getD s default).minutes) != ((b.getD s default).minutes)))) fun hg=>Work_at0 ae (i:=(s:Int)) (by first | omega | (have aa:=hg; simp at aa; omega)) (by first | omega | (have aa:=hg; simp at aa; omega))
  replace au:(!((((a.getD s default).base) != ((b.getD s default).base))||(((a.getD s default).minutes) != ((b.getD s default).minutes))))=true->Sl _ am (a.getD s default).of:=au
  refine d_qg (!((((a.getD s default).base) != ((b.getD s default).base))||(((a.getD s default).minutes) != ((b.getD s default).minutes)))) rfl (gy_f rfl) (fun hg=>(fun w' H=>x_ld (v:=am) (gd_of hg (fat (vat ab 3 (Int.toNat (s:Int))) 0)) (ld_sc Sc22 (At.mono (aE hg) (ak.at H)))))<|d_qg (!((((a.getD s default).base) != ((b.getD s default).base))||(((a.getD s default).minutes) != ((b.getD s default).minutes)))) rfl (gy_f rfl) (fun hg=>(fun w' H=>x_mv (v:=ac) rfl))<|d_qg (!((((a.getD s default).base) != ((b.getD s default).base))||(((a.getD s default).minutes) != ((b.getD s default).minutes)))) rfl (gy_f rfl) (fun hg=>(fun w' H=>x_mv (v:=I (s:Int)) rfl))<|d_qg (!((((a.getD s default).base) != ((b.getD s default).base))||(((a.getD s default).minutes) != ((b.getD s default).minutes)))) rfl (gy_f rfl) (fun hg=>(fun w' H=>x_ix (v:=vat ac 3 (Int.toNat (s:Int))) (gd_of hg (ac)) (gd_of hg (I (s:Int))) (Sl.ix (α:=Work) T23.und T23.size aj (by first | omega | (have aa:=hg; simp at aa; omega)) (by first | omega | (have aa:=hg; simp at aa; omega)))))<|d_qg (!((((a.getD s default).base) != ((b.getD s default).base))||(((a.getD s default).minutes) != ((b.getD s default).minutes)))) rfl (gy_f rfl) (fun hg=>(fun w' H=>x_fa (v:=fat (vat ac 3 (Int.toNat (s:Int))) 0) (gd_of hg (vat ac 3 (Int.toNat (s:Int)))) (fa_pl Fd34_0 Sz22 (Sl.pl (i:=(s:Int)) aj (by first | omega | (have aa:=hg; simp at aa; omega)) (by first | omega | (have aa:=hg; simp at aa; omega)))))) ?_
  obtain ⟨ao,aF,av⟩:=gd_ex (c:=!((((a.getD s default).base) != ((b.getD s default).base))||(((a.getD s default).minutes) != ((b.getD s default).minutes)))) fun hg=>Work_at0 aj (i:=(s:Int)) (by first | omega | (have aa:=hg; simp at aa; omega)) (by first | omega | (have aa:=hg; simp at aa; omega))
  replace av:(!((((a.getD s default).base) != ((b.getD s default).base))||(((a.getD s default).minutes) != ((b.getD s default).minutes))))=true->Sl _ ao (b.getD s default).of:=av
  refine d_qg (!((((a.getD s default).base) != ((b.getD s default).base))||(((a.getD s default).minutes) != ((b.getD s default).minutes)))) rfl (gy_f rfl) (fun hg=>(fun w' H=>x_ld (v:=ao) (gd_of hg (fat (vat ac 3 (Int.toNat (s:Int))) 0)) (ld_sc Sc22 (At.mono (aF hg) (al.at H)))))<|d_l rfl ?_;obtain ⟨r2,aG,hM⟩:=M.e_bind hM;refine t_gcall (!((((a.getD s default).base) != ((b.getD s default).base))||(((a.getD s default).minutes) != ((b.getD s default).minutes)))) (gy_f rfl) cf20 (B r2) (fun _=>[am,ao]) (fun hg=>lst2 (gd_of hg (am)) (gd_of hg (ao))) H (fun hg=>(zac ((a.getD s default).of) ((b.getD s default).of) (ak.app _) (au hg) (al.app _) (av hg) (M.e_opt aG hg) _ (H.give (A:=[]) rfl)).mono fun v_ w_ ⟨y_,ah,aH,H_⟩=>by subst ah; exact ⟨aH,H.via H_⟩) ?_;intro aU H
  refine s_nil ⟨(H.pk []),?_⟩
  refine d_qg (!((((a.getD s default).base) != ((b.getD s default).base))||(((a.getD s default).minutes) != ((b.getD s default).minutes)))) rfl (gy_f rfl) (fun hg=>(fun w' H=>x_not (b:=r2) (gd_of hg (B r2))))<|d_q rfl (fun w' H=>x_por (b:=((((a.getD s default).base) != ((b.getD s default).base))||(((a.getD s default).minutes) != ((b.getD s default).minutes)))) (r:=!r2) rfl rfl (fun hb=>gd_of (c:=!((((a.getD s default).base) != ((b.getD s default).base))||(((a.getD s default).minutes) != ((b.getD s default).minutes)))) (by first | exact hb | (rw [hb]; rfl) | simp_all) (B (!r2)))) ?_;refine d_nil ?_
  refine W.cond (((((a.getD s default).base) != ((b.getD s default).base))||(((a.getD s default).minutes) != ((b.getD s default).minutes)))||(!r2)) rfl (fun aw=>?_) (fun aw=>?_)
  ·replace hM:=M.e_t hM aw;refine kg 4 ?_;refine W.ret ?_
   have aI:=M.e_inr hM aq
   subst aI;replace hM:=az;(try dsimp only at hM)
   have ah:=M.e_pure hM
   exact ⟨_,resE_tmp rfl,⟨false,ah,rfl,H⟩⟩
  replace hM:=M.e_f hM aw;refine kg 5 ?_
  exact ⟨aC,aD,s+1,_,upds_of _ _ ⟨rfl,rfl,rfl,rfl,trivial⟩,M.e_inl hM aq,H⟩
 replace hM:=M.e_f hM ai
 replace ai:=dI ai
 refine W.exit ?_
 have aJ:=M.e_inr hM aq
 subst aJ;replace hM:=az;(try dsimp only at hM);refine kg 4 ?_;refine W.ret ?_
 have ah:=M.e_pure hM
 exact ⟨_,resE_tmp rfl,⟨true,ah,rfl,H⟩⟩

def zbw (w_:List Work) (ac:List Int) (r4:List Work) (r5:List Int):M Bool :=
  M.bind (zaI r4 w_) fun aa =>
  M.bind (M.opt aa (zab r5 ac) false) fun ab =>
  M.bind (M.opt (aa&&ab) (zam) false) fun ae =>
  M.pure ((aa&&ab)&&ae)
def zbh (w_:List Work) (ag:List Int) (ab ah:Int) (r4:List Work) (r5:List Int):M Bool :=
  M.bind (zeZ r4) fun (aj,ak) =>
  M.bind (zag w_) fun al =>
  M.bind (za5 al) fun (am,ao) =>
  M.bind (zab aj am) fun ap =>
  bif ((!ap)||(ak != ao)) then (
  M.pure false)
  else (
  M.bind (zfd r4 r5) fun (aq,au) =>
  M.bind (zag w_) fun av =>
  M.bind (zbz av ag) fun (aw,ax) =>
  bif ((aq != aw)||(au != ax)) then (
  M.pure false)
  else (
  M.bind (zeE r4 ab ah) fun (aa,ai) =>
  M.bind (zag w_) fun ay =>
  M.bind (zfc ay ab ah) fun az =>
  bif ((ai != az)||((ai != 0)&&(decide (0<(aa.length:Int))))) then (
  M.pure false)
  else (
  bif ai==0 then (
  M.bind (zag w_) fun aA =>
  M.bind (zbz aA aa) fun (ac,ae) =>
  M.grd ((!(!((ae != 0)||(!ac)))||(decide (0<(aa.length:Int))))) <|
  M.grd ((!(!(((ae != 0)||(!ac))||((aa.getD 0 0) != ab)))||(decide ((-9223372036854775808:Int)<=((aa.length:Int)-1))&&decide (((aa.length:Int)-1)<=(9223372036854775807:Int))))) <|
  M.grd ((!(!(((ae != 0)||(!ac))||((aa.getD 0 0) != ab)))||(decide ((0:Int)<=((aa.length:Int)-1))&&decide (((aa.length:Int)-1)<(aa.length:Int))))) <|
  bif ((((ae != 0)||(!ac))||((aa.getD 0 0) != ab))||((aa.getD (Int.toNat ((aa.length:Int)-1)) 0) != ah)) then (
  M.pure false)
  else (
  zbw w_ ag r4 r5))
  else (
  zbw w_ ag r4 r5))))
def zbm (w_:List Work) (aa:List Int) (ab ac:Int):M Bool :=
  M.bind (za2 w_ ([aa])) fun r2 =>
  bif !r2 then (
  M.bind (zam) fun r3 =>
  M.pure r3)
  else (
  M.bind (zbf w_) fun r4 =>
  M.bind (zay aa) fun r5 =>
  M.bind (zag w_) fun r6 =>
  M.bind (zaK r6) fun r7 =>
  M.bind (zbv r4) fun r8 =>
  bif r8 != r7 then (
  M.pure false)
  else (
  M.bind (zfi r4) fun (r0,r1) =>
  bif r7==0 then (
  bif ((r1 != 5)||(decide (0<(r0.length:Int)))) then (
  M.pure false)
  else (
  zbh w_ aa ab ac r4 r5))
  else (
  bif r7 != 9 then (
  bif ((r1 != r7)||(decide (0<(r0.length:Int)))) then (
  M.pure false)
  else (
  zbh w_ aa ab ac r4 r5))
  else (
  M.bind (M.opt (!(r1 != 0)) (zfk w_ r0) false) fun r9 =>
  bif ((r1 != 0)||(!r9)) then (
  M.pure false)
  else (
  zbh w_ aa ab ac r4 r5)))))
theorem zdK {R:List Chunk} {ba:Cells} {am:Value} {aS:Cells} {au:Value} (w_:List Work) (aw:List Int) (ae:Int) (ao:Int) (aj:Reads R ba) (ax:Sl ba am w_) (aJ:Reads R aS) (aP:Sl aS au aw) {r:Bool} (hM:(zbm w_ aw ae ao).Ends r) (w:World) (H:St w w [] R):Ret Tryz.prog 5 #[am,au,I ae,I ao] w fun v w'=>∃ (y0:Bool),y0=r/\v=B y0/\St w w' [] R:=by
 refine ret_of_W Tryz.func5 rfl rfl rfl ?_;refine kg 9 ?_
 obtain ⟨bb,H⟩:=H.emptyE
 have aK:=aP
 replace aK:=aK.mono (Cells.sup_l _ bb.cells)
 obtain ⟨aQ,bc⟩:∃ r:Raw 0,r.cs=[au]:=⟨Raw.of [au] rfl (by simp only [List.all_cons,List.all_nil,Bool.true_and,Bool.and_true,Sl.oc aK]; try rfl),rfl⟩
 have bh:RepR (α:=List Int) (Cells.sup aS bb.cells) [aQ] [aw]:=.cons (by rw [bc]; exact ⟨_,rfl,aK⟩)<|.nil
 refine t_bs (α:=Raw 0) T31 [au] [aQ] H rfl (.cons (by rw [show (Flat.enc aQ:List Value)=aQ.cs from rfl,bc]; exact Sl.cells aK) (Flat.rep_enc _ _)<|.nil) rfl rfl rfl ?_;intro bi b7 H;replace H:=H.nf;obtain ⟨b8,bj,hM⟩:=M.e_bind hM;refine s_call cf11 [am,bi] rfl (zbG w_ ([aw]) (aj.app _) ax (Reads.sup (rdo 0) (Reads.sup (aJ.app _) (Reads.of (k:=1) rfl roLe))) (rowSl rfl (H.get (k:=0) rfl) (Cells.sup_le (aJ.at H) (roLe _ (H.get (k:=1) rfl))) bh) bj _ (H.gt 2)) ?_
 rintro vq b9 ⟨r2,rfl,hvq,aa⟩
 subst vq;(try dsimp only at hM);replace H:=H.bk aa;clear aa;refine kg 2 ?_;replace H:=H.pk []
 refine W.cond (!r2) rfl (fun aT=>?_) (fun aT=>?_)
 ·replace hM:=M.e_t hM aT;refine kg 2 ?_;obtain ⟨ca,bm,hM⟩:=M.e_bind hM;refine s_call cf10 [] rfl (zar bm _ (H.gt 0)) ?_
  rintro vq cb ⟨r3,rfl,hvq,aa⟩
  subst vq;(try dsimp only at hM);replace H:=H.bk aa;clear aa;refine kg 2 ?_;refine W.ret ?_
  have ag:=M.e_pure hM
  exact ⟨_,resE_tmp rfl,⟨r3,ag,rfl,H⟩⟩
 replace hM:=M.e_f hM aT;refine kg 4 ?_;obtain ⟨cc,bn,hM⟩:=M.e_bind hM;refine s_call cf12 [am] rfl (zbD w_ (aj.app _) ax bn _ (H.gt 0)) ?_
 rintro vq cd ⟨r4,av,bf,bg,rfl,hvq,aa,aI⟩
 subst vq;(try dsimp only at hM);replace H:=H.bk aa;clear aa;refine kg 1 ?_;obtain ⟨ce,bo,hM⟩:=M.e_bind hM;refine s_call cf13 [au] rfl (zaB aw (aJ.app _) aP bo _ (H.gt 2)) ?_
 rintro vq cf ⟨r5,az,rfl,hvq,aa⟩
 subst vq;(try dsimp only at hM);replace H:=H.bk aa;clear aa;refine kg 6 ?_;obtain ⟨cg,bp,hM⟩:=M.e_bind hM;refine s_call cf15 [am] rfl (zah w_ (aj.app _) ax bp _ (H.gt 3)) ?_
 rintro vq ch ⟨r6,br,ci,cj,rfl,hvq,aa,bt⟩
 subst vq;(try dsimp only at hM);replace H:=H.bk aa;clear aa;obtain ⟨ck,bu,hM⟩:=M.e_bind hM;refine s_call cf14 [br] rfl (zbe r6 (Reads.sup (rdo 0) (Reads.of (k:=1) rfl roLe)) (rowSl rfl (H.get (k:=0) rfl) (roLe _ (H.get (k:=1) rfl)) bt) bu _ (H.gt 5)) ?_
 rintro vq cl ⟨r7,rfl,hvq,aa⟩
 subst vq;(try dsimp only at hM);replace H:=H.bk aa;clear aa;refine kg 2 ?_;replace H:=H.pk [2,3,4];refine kg 4 ?_;obtain ⟨cm,bv,hM⟩:=M.e_bind hM;refine s_call cf9 [av] rfl (zat r4 (Reads.sup (rdo 1) (Reads.sup (aj.app _) (Reads.of (k:=2) rfl roLe))) (rowSl rfl (H.get (k:=1) rfl) (Cells.sup_le (aj.at H) (roLe _ (H.get (k:=2) rfl))) aI) bv _ (H.gt 3)) ?_
 rintro vq cn ⟨r8,rfl,hvq,aa⟩
 subst vq;(try dsimp only at hM);replace H:=H.bk aa;clear aa;refine kg 3 ?_
 refine W.cond (r8 != r7) rfl (fun aA=>?_) (fun aA=>?_)
 ·replace hM:=M.e_t hM aA
  replace aA:=dI aA
  refine kg 4 ?_;replace H:=H.pk [];refine W.ret ?_
  have ag:=M.e_pure hM
  exact ⟨_,resE_tmp rfl,⟨false,ag,rfl,H⟩⟩
 replace hM:=M.e_f hM aA
 replace aA:=dI aA
 refine kg 4 ?_;obtain ⟨co,bw,hM⟩:=M.e_bind hM;refine s_call cf16 [av] rfl (zgt r4 (Reads.sup (rdo 1) (Reads.sup (aj.app _) (Reads.of (k:=2) rfl roLe))) (rowSl rfl (H.get (k:=1) rfl) (Cells.sup_le (aj.at H) (roLe _ (H.get (k:=2) rfl))) aI) bw _ (H.gt 3)) ?_
 rintro vq cp ⟨r0,r1,aU,rfl,hvq,aa⟩
 subst vq;(try dsimp only at hM);replace H:=H.bk aa;clear aa;refine kg 6 ?_;refine W.seqJ (fun σ W=>∃ (ρ:Env),σ=upds ρ [(0,am),(1,au),(2,I ae),(3,I ao),(9,av),(10,az)]/\(zbh w_ aw ae ao r4 r5).Ends r/\St w W [cOwn (α:=Int) 3 aU r0,cOwn (α:=Int) 3 az r5,cOwn (α:=Raw 2) 34 av bf,cRo bg] R) ?_ ?_
 ·skip
  refine kg 5 ?_
  refine W.cond (r7==0) rfl (fun aB=>?_) (fun aB=>?_)
  ·replace hM:=M.e_t hM aB
   replace aB:=dI aB
   refine kg 8 ?_;refine s_val (x_por (b:=r1 != 5) (r:=decide (0<(r0.length:Int))) rfl rfl (fun hb=>gd_of (c:=!(r1 != 5)) (by first | exact hb | (rw [hb]; rfl) | simp_all) (B (decide (0<(r0.length:Int))))))<|s_nil ?_
   refine W.cond ((r1 != 5)||(decide (0<(r0.length:Int)))) rfl (fun aV=>?_) (fun aV=>?_)
   ·replace hM:=M.e_t hM aV;refine kg 4 ?_;replace H:=H.pk [];refine W.ret ?_
    have ag:=M.e_pure hM
    exact ⟨_,resE_tmp rfl,⟨false,ag,rfl,H⟩⟩
   replace hM:=M.e_f hM aV;refine W.skip ?_
   exact ⟨_,upds_of _ _ ⟨rfl,rfl,rfl,rfl,rfl,rfl,trivial⟩,hM,H⟩
  replace hM:=M.e_f hM aB
  replace aB:=dI aB
  refine kg 5 ?_
  refine W.cond (r7 != 9) rfl (fun aC=>?_) (fun aC=>?_)
  ·replace hM:=M.e_t hM aC
   replace aC:=dI aC
   refine kg 9 ?_;refine s_val (x_por (b:=r1 != r7) (r:=decide (0<(r0.length:Int))) rfl rfl (fun hb=>gd_of (c:=!(r1 != r7)) (by first | exact hb | (rw [hb]; rfl) | simp_all) (B (decide (0<(r0.length:Int))))))<|s_nil ?_
   refine W.cond ((r1 != r7)||(decide (0<(r0.length:Int)))) rfl (fun aW=>?_) (fun aW=>?_)
   ·replace hM:=M.e_t hM aW;refine kg 4 ?_;replace H:=H.pk [];refine W.ret ?_
    have ag:=M.e_pure hM
    exact ⟨_,resE_tmp rfl,⟨false,ag,rfl,H⟩⟩
   replace hM:=M.e_f hM aW;refine W.skip ?_
   exact ⟨_,upds_of _ _ ⟨rfl,rfl,rfl,rfl,rfl,rfl,trivial⟩,hM,H⟩
  replace hM:=M.e_f hM aC
  replace aC:=dI aC
  refine kg 7 ?_;obtain ⟨r9,bx,hM⟩:=M.e_bind hM;refine t_gcall (!(r1 != 0)) (gy_f rfl) cf17 (B r9) (fun _=>[am,aU]) (fun hg=>lst2 (gd_of hg (am)) (gd_of hg (aU))) H (fun hg=>(zfx w_ r0 (aj.app _) ax (rdo 0) (H.os 0) (M.e_opt bx hg) _ (H.give (A:=[]) rfl)).mono fun v_ w_ ⟨y_,ag,aL,H_⟩=>by subst ag; exact ⟨aL,H.via H_⟩) ?_;intro cq H;refine kg 1 ?_;refine s_val (x_por (b:=r1 != 0) (r:=!r9) rfl rfl (fun hb=>gd_of (c:=!(r1 != 0)) (by first | exact hb | (rw [hb]; rfl) | simp_all) (B (!r9))))<|s_nil ?_
  refine W.cond ((r1 != 0)||(!r9)) rfl (fun aX=>?_) (fun aX=>?_)
  ·replace hM:=M.e_t hM aX;refine kg 4 ?_;replace H:=H.pk [];refine W.ret ?_
   have ag:=M.e_pure hM
   exact ⟨_,resE_tmp rfl,⟨false,ag,rfl,H⟩⟩
  replace hM:=M.e_f hM aX;refine W.skip ?_
  exact ⟨_,upds_of _ _ ⟨rfl,rfl,rfl,rfl,rfl,rfl,trivial⟩,hM,H⟩
 rintro _ cr ⟨ρ,rfl,hM,H⟩
 unfold zbh at hM
 refine kg 3 ?_;obtain ⟨ct,bz,hM⟩:=M.e_bind hM;refine s_call cf18 [av] rfl (zfA r4 (Reads.sup (rdo 2) (Reads.sup (aj.app _) (Reads.of (k:=3) rfl roLe))) (rowSl rfl (H.get (k:=2) rfl) (Cells.sup_le (aj.at H) (roLe _ (H.get (k:=3) rfl))) aI) bz _ (H.gt 4)) ?_
 rintro vq cu ⟨bA,aY,bB,rfl,hvq,aa⟩
 subst vq;(try dsimp only at hM);replace H:=H.bk aa;clear aa;refine kg 9 ?_;obtain ⟨cv,bC,hM⟩:=M.e_bind hM;refine s_call cf15 [am] rfl (zah w_ (aj.app _) ax bC _ (H.gt 5)) ?_
 rintro vq cw ⟨bD,bE,cx,cy,rfl,hvq,aa,bF⟩
 subst vq;(try dsimp only at hM);replace H:=H.bk aa;clear aa;obtain ⟨cz,bG,hM⟩:=M.e_bind hM;refine s_call cf19 [bE] rfl (zdj bD (Reads.sup (rdo 0) (Reads.of (k:=1) rfl roLe)) (rowSl rfl (H.get (k:=0) rfl) (roLe _ (H.get (k:=1) rfl)) bF) bG _ (H.gt 7)) ?_
 rintro vq cA ⟨bH,aZ,bI,rfl,hvq,aa⟩
 subst vq;(try dsimp only at hM);replace H:=H.bk aa;clear aa;refine kg 6 ?_;replace H:=H.pk [0,3,5,6,7];refine kg 5 ?_;obtain ⟨cB,bJ,hM⟩:=M.e_bind hM;refine s_call cf20 [bB,bI] rfl (zac bA bH (rdo 1) (H.os 1) (rdo 0) (H.os 0) bJ _ (H.gt 5)) ?_
 rintro vq cC ⟨a0,rfl,hvq,aa⟩
 subst vq;(try dsimp only at hM);replace H:=H.bk aa;clear aa;refine kg 5 ?_;refine s_val (x_por (b:=!a0) (r:=aY != aZ) rfl rfl (fun hb=>gd_of (c:=!(!a0)) (by first | exact hb | (rw [hb]; rfl) | simp_all) (B (aY != aZ))))<|s_nil ?_;replace H:=H.pk [2,3,4]
 refine W.cond ((!a0)||(aY != aZ)) rfl (fun a4=>?_) (fun a4=>?_)
 ·replace hM:=M.e_t hM a4;refine kg 4 ?_;replace H:=H.pk [];refine W.ret ?_
  have ag:=M.e_pure hM
  exact ⟨_,resE_tmp rfl,⟨false,ag,rfl,H⟩⟩
 replace hM:=M.e_f hM a4;refine kg 5 ?_;obtain ⟨cD,bK,hM⟩:=M.e_bind hM;refine s_call cf21 [av,az] rfl (zgr r4 r5 (Reads.sup (rdo 1) (Reads.sup (aj.app _) (Reads.of (k:=2) rfl roLe))) (rowSl rfl (H.get (k:=1) rfl) (Cells.sup_le (aj.at H) (roLe _ (H.get (k:=2) rfl))) aI) (rdo 0) (H.os 0) bK _ (H.gt 3)) ?_
 rintro vq cE ⟨aM,a5,rfl,hvq,aa⟩
 subst vq;(try dsimp only at hM);replace H:=H.bk aa;clear aa;refine kg 9 ?_;obtain ⟨cF,bL,hM⟩:=M.e_bind hM;refine s_call cf15 [am] rfl (zah w_ (aj.app _) ax bL _ (H.gt 3)) ?_
 rintro vq cG ⟨bM,bN,cH,cI,rfl,hvq,aa,bO⟩
 subst vq;(try dsimp only at hM);replace H:=H.bk aa;clear aa;refine kg 1 ?_;obtain ⟨cJ,bP,hM⟩:=M.e_bind hM;refine s_call cf22 [bN,au] rfl (zda bM aw (Reads.sup (rdo 0) (Reads.of (k:=1) rfl roLe)) (rowSl rfl (H.get (k:=0) rfl) (roLe _ (H.get (k:=1) rfl)) bO) (aJ.app _) aP bP _ (H.gt 5)) ?_
 rintro vq cK ⟨aN,a6,rfl,hvq,aa⟩
 subst vq;(try dsimp only at hM);replace H:=H.bk aa;clear aa;refine kg 6 ?_;replace H:=H.pk [2,3,4];refine kg 5 ?_;refine s_val (x_eqb (a:=aM) (b:=aN) (r:=(aM != aN)) rfl rfl Tryz.underlying4 rfl) ?_;refine kg 4 ?_;refine s_val (x_por (b:=(aM != aN)) (r:=a5 != a6) rfl rfl (fun hb=>gd_of (c:=!(aM != aN)) (by first | exact hb | (rw [hb]; rfl) | simp_all) (B (a5 != a6))))<|s_nil ?_
 refine W.cond ((aM != aN)||(a5 != a6)) rfl (fun a7=>?_) (fun a7=>?_)
 ·replace hM:=M.e_t hM a7;refine kg 4 ?_;replace H:=H.pk [];refine W.ret ?_
  have ag:=M.e_pure hM
  exact ⟨_,resE_tmp rfl,⟨false,ag,rfl,H⟩⟩
 replace hM:=M.e_f hM a7;refine kg 6 ?_;obtain ⟨cL,bQ,hM⟩:=M.e_bind hM;refine s_call cf23 [av,I ae,I ao] rfl (zfP r4 ae ao (Reads.sup (rdo 1) (Reads.sup (aj.app _) (Reads.of (k:=2) rfl roLe))) (rowSl rfl (H.get (k:=1) rfl) (Cells.sup_le (aj.at H) (roLe _ (H.get (k:=2) rfl))) aI) bQ _ (H.gt 3)) ?_
 rintro vq cM ⟨ab,ap,aq,rfl,hvq,aa⟩
 subst vq;(try dsimp only at hM);replace H:=H.bk aa;clear aa;refine kg 11 ?_;obtain ⟨cN,bR,hM⟩:=M.e_bind hM;refine s_call cf15 [am] rfl (zah w_ (aj.app _) ax bR _ (H.gt 4)) ?_
 rintro vq cO ⟨bS,bT,cP,cQ,rfl,hvq,aa,bU⟩
 subst vq;(try dsimp only at hM);replace H:=H.bk aa;clear aa;refine kg 2 ?_;obtain ⟨cR,bV,hM⟩:=M.e_bind hM;refine s_call cf24 [bT,I ae,I ao] rfl (zfB bS ae ao (Reads.sup (rdo 0) (Reads.of (k:=1) rfl roLe)) (rowSl rfl (H.get (k:=0) rfl) (roLe _ (H.get (k:=1) rfl)) bU) bV _ (H.gt 6)) ?_
 rintro vq cS ⟨aO,rfl,hvq,aa⟩
 subst vq;(try dsimp only at hM);replace H:=H.bk aa;clear aa;refine kg 8 ?_;refine g_val (!(ap != aO)) (gy_f rfl) (fun hg=>x_pand (b:=ap != 0) (r:=decide (0<(ab.length:Int))) (gd_of hg (B (ap != 0))) (fun hb=>gd_of (c:=((!(ap != aO))&&(ap != 0))) (by first | exact hb | (rw [hb]; rfl) | simp_all) (B (decide (0<(ab.length:Int))))) rfl)<|s_val (x_por (b:=ap != aO) (r:=((ap != 0)&&(decide (0<(ab.length:Int))))) rfl rfl (fun hb=>gd_of (c:=!(ap != aO)) (by first | exact hb | (rw [hb]; rfl) | simp_all) (B ((ap != 0)&&(decide (0<(ab.length:Int)))))))<|s_nil ?_;replace H:=H.pk [2,3,4,5]
 refine W.cond ((ap != aO)||((ap != 0)&&(decide (0<(ab.length:Int))))) rfl (fun a8=>?_) (fun a8=>?_)
 ·replace hM:=M.e_t hM a8;refine kg 4 ?_;replace H:=H.pk [];refine W.ret ?_
  have ag:=M.e_pure hM
  exact ⟨_,resE_tmp rfl,⟨false,ag,rfl,H⟩⟩
 replace hM:=M.e_f hM a8;refine W.skip ?_;refine W.seqJ (fun σ W=>∃ (ρ:Env),σ=upds ρ [(0,am),(1,au),(9,av),(10,az)]/\(zbw w_ aw r4 r5).Ends r/\St w W [cOwn (α:=Int) 3 aq ab,cOwn (α:=Int) 3 az r5,cOwn (α:=Raw 2) 34 av bf,cRo bg] R) ?_ ?_
 ·skip
  refine kg 5 ?_
  refine W.cond (ap==0) rfl (fun aD=>?_) (fun aD=>?_)
  ·replace hM:=M.e_t hM aD
   replace aD:=dI aD
   refine kg 3 ?_;obtain ⟨cT,bW,hM⟩:=M.e_bind hM;refine s_call cf15 [am] rfl (zah w_ (aj.app _) ax bW _ (H.gt 4)) ?_
   rintro vq cU ⟨bX,bY,cV,cW,rfl,hvq,aa,bZ⟩
   subst vq;(try dsimp only at hM);replace H:=H.bk aa;clear aa;refine kg 1 ?_;obtain ⟨cX,b0,hM⟩:=M.e_bind hM;refine s_call cf22 [bY,aq] rfl (zda bX ab (Reads.sup (rdo 0) (Reads.of (k:=1) rfl roLe)) (rowSl rfl (H.get (k:=0) rfl) (roLe _ (H.get (k:=1) rfl)) bZ) (rdo 2) (H.os 2) b0 _ (H.gt 6)) ?_
   rintro vq cY ⟨ah,ai,rfl,hvq,aa⟩
   subst vq;(try dsimp only at hM);replace H:=H.bk aa;clear aa;refine kg 6 ?_;replace H:=H.pk [2,3,4,5];refine kg 7 ?_;refine s_val (x_por (b:=ai != 0) (r:=!ah) rfl rfl (fun hb=>gd_of (c:=!(ai != 0)) (by first | exact hb | (rw [hb]; rfl) | simp_all) (B (!ah))))<|zM (B ((ai != 0)||(!ah))) rfl<|g_val (!((ai != 0)||(!ah))) (gy_f rfl) (fun hg=>x_mv (v:=aq) rfl) ?_;obtain ⟨aE,hM⟩:=M.e_grd hM
   replace aE:=M.imp_of aE
   simp only [Bool.and_eq_true,decide_eq_true_eq] at aE
   refine g_val (!((ai != 0)||(!ah))) (gy_f rfl) (fun hg=>x_ix (v:=vat aq 1 (Int.toNat 0)) (gd_of hg (aq)) rfl (Sl.ix (α:=Int) T22.und T22.size (H.os 0) (by have ac:=aE.resolve_left (by rw [hg]; decide); first | exact ac | exact ac.1 | exact ac.2 | omega | (have ak:=hg; simp at ak; omega)) (by have ac:=aE.resolve_left (by rw [hg]; decide); first | exact ac | exact ac.1 | exact ac.2 | omega | (have ak:=hg; simp at ak; omega))))<|g_val (!((ai != 0)||(!ah))) (gy_f rfl) (fun hg=>x_ld (v:=I (ab.getD 0 0)) (gd_of hg (vat aq 1 (Int.toNat 0))) (ld_sc Sc3 (At.mono (Int_at (H.os 0) (i:=0) (by have ac:=aE.resolve_left (by rw [hg]; decide); first | exact ac | exact ac.1 | exact ac.2 | omega | (have ak:=hg; simp at ak; omega)) (by have ac:=aE.resolve_left (by rw [hg]; decide); first | exact ac | exact ac.1 | exact ac.2 | omega | (have ak:=hg; simp at ak; omega))) (H.ol 0))))<|g_val (!((ai != 0)||(!ah))) (gy_f rfl) (fun hg=>x_mv (v:=I ae) rfl)<|g_val (!((ai != 0)||(!ah))) (gy_f rfl) (fun hg=>x_cmp (kd:=.i64) (r:=(ab.getD 0 0) != ae) (gd_of hg (I (ab.getD 0 0))) (gd_of hg (I ae)) rfl)<|s_val (x_por (b:=((ai != 0)||(!ah))) (r:=(ab.getD 0 0) != ae) rfl rfl (fun hb=>gd_of (c:=!((ai != 0)||(!ah))) (by first | exact hb | (rw [hb]; rfl) | simp_all) (B ((ab.getD 0 0) != ae))))<|zM (B (((ai != 0)||(!ah))||((ab.getD 0 0) != ae))) rfl<|g_val (!(((ai != 0)||(!ah))||((ab.getD 0 0) != ae))) (gy_f rfl) (fun hg=>x_mv (v:=aq) rfl)<|g_val (!(((ai != 0)||(!ah))||((ab.getD 0 0) != ae))) (gy_f rfl) (fun hg=>x_mv (v:=aq) rfl)<|g_val (!(((ai != 0)||(!ah))||((ab.getD 0 0) != ae))) (gy_f rfl) (fun hg=>x_lenS T22.und (gd_of hg (aq)) (H.os 0)) ?_;obtain ⟨ay,hM⟩:=M.e_grd hM
   replace ay:=M.imp_of ay
   simp only [Bool.and_eq_true,decide_eq_true_eq] at ay
   refine g_val (!(((ai != 0)||(!ah))||((ab.getD 0 0) != ae))) (gy_f rfl) (fun hg=>x_ari (r:=(ab.length:Int)-1) (gd_of hg (I (ab.length:Int))) rfl rfl (by have ac:=ay.resolve_left (by rw [hg]; decide); first | exact ac | exact ac.1 | exact ac.2 | omega | (have ak:=hg; simp at ak; omega))) ?_;obtain ⟨aF,hM⟩:=M.e_grd hM
   replace aF:=M.imp_of aF
   simp only [Bool.and_eq_true,decide_eq_true_eq] at aF
   refine g_val (!(((ai != 0)||(!ah))||((ab.getD 0 0) != ae))) (gy_f rfl) (fun hg=>x_ix (v:=vat aq 1 (Int.toNat ((ab.length:Int)-1))) (gd_of hg (aq)) (gd_of hg (I ((ab.length:Int)-1))) (Sl.ix (α:=Int) T22.und T22.size (H.os 0) (by have ac:=ay.resolve_left (by rw [hg]; decide); have al:=aF.resolve_left (by rw [hg]; decide); first | exact ac | exact ac.1 | exact ac.2 | exact al | exact al.1 | exact al.2 | omega | (have ak:=hg; simp at ak; omega)) (by have ac:=ay.resolve_left (by rw [hg]; decide); have al:=aF.resolve_left (by rw [hg]; decide); first | exact ac | exact ac.1 | exact ac.2 | exact al | exact al.1 | exact al.2 | omega | (have ak:=hg; simp at ak; omega))))<|g_val (!(((ai != 0)||(!ah))||((ab.getD 0 0) != ae))) (gy_f rfl) (fun hg=>x_ld (v:=I (ab.getD (Int.toNat ((ab.length:Int)-1)) 0)) (gd_of hg (vat aq 1 (Int.toNat ((ab.length:Int)-1)))) (ld_sc Sc3 (At.mono (Int_at (H.os 0) (i:=(ab.length:Int)-1) (by have ac:=ay.resolve_left (by rw [hg]; decide); have al:=aF.resolve_left (by rw [hg]; decide); first | exact ac | exact ac.1 | exact ac.2 | exact al | exact al.1 | exact al.2 | omega | (have ak:=hg; simp at ak; omega)) (by have ac:=ay.resolve_left (by rw [hg]; decide); have al:=aF.resolve_left (by rw [hg]; decide); first | exact ac | exact ac.1 | exact ac.2 | exact al | exact al.1 | exact al.2 | omega | (have ak:=hg; simp at ak; omega))) (H.ol 0))))<|g_val (!(((ai != 0)||(!ah))||((ab.getD 0 0) != ae))) (gy_f rfl) (fun hg=>x_mv (v:=I ao) rfl)<|g_val (!(((ai != 0)||(!ah))||((ab.getD 0 0) != ae))) (gy_f rfl) (fun hg=>x_cmp (kd:=.i64) (r:=(ab.getD (Int.toNat ((ab.length:Int)-1)) 0) != ao) (gd_of hg (I (ab.getD (Int.toNat ((ab.length:Int)-1)) 0))) (gd_of hg (I ao)) rfl)<|s_val (x_por (b:=(((ai != 0)||(!ah))||((ab.getD 0 0) != ae))) (r:=(ab.getD (Int.toNat ((ab.length:Int)-1)) 0) != ao) rfl rfl (fun hb=>gd_of (c:=!(((ai != 0)||(!ah))||((ab.getD 0 0) != ae))) (by first | exact hb | (rw [hb]; rfl) | simp_all) (B ((ab.getD (Int.toNat ((ab.length:Int)-1)) 0) != ao))))<|s_nil ?_
   refine W.cond ((((ai != 0)||(!ah))||((ab.getD 0 0) != ae))||((ab.getD (Int.toNat ((ab.length:Int)-1)) 0) != ao)) rfl (fun a9=>?_) (fun a9=>?_)
   ·replace hM:=M.e_t hM a9;refine kg 4 ?_;replace H:=H.pk [];refine W.ret ?_
    have ag:=M.e_pure hM
    exact ⟨_,resE_tmp rfl,⟨false,ag,rfl,H⟩⟩
   replace hM:=M.e_f hM a9;refine W.skip ?_
   exact ⟨_,upds_of _ _ ⟨rfl,rfl,rfl,rfl,trivial⟩,hM,H⟩
  replace hM:=M.e_f hM aD
  replace aD:=dI aD
  refine W.skip ?_
  exact ⟨_,upds_of _ _ ⟨rfl,rfl,rfl,rfl,trivial⟩,hM,H⟩
 rintro _ cZ ⟨ρ,rfl,hM,H⟩
 unfold zbw at hM
 refine kg 4 ?_;obtain ⟨c0,b4,hM⟩:=M.e_bind hM;refine s_call cf25 [av,am] rfl (zbc r4 w_ (Reads.sup (rdo 2) (Reads.sup (aj.app _) (Reads.of (k:=3) rfl roLe))) (rowSl rfl (H.get (k:=2) rfl) (Cells.sup_le (aj.at H) (roLe _ (H.get (k:=3) rfl))) aI) (aj.app _) ax b4 _ (H.gt 4)) ?_
 rintro vq c3 ⟨aG,rfl,hvq,aa⟩
 subst vq;(try dsimp only at hM);replace H:=H.bk aa;clear aa;refine kg 3 ?_;obtain ⟨aH,b5,hM⟩:=M.e_bind hM;refine t_gcall aG (gy_t rfl) cf20 (B aH) (fun _=>[az,au]) (fun hg=>lst2 (gd_of hg (az)) (gd_of hg (au))) H (fun hg=>(zac r5 aw (rdo 1) (H.os 1) (aJ.app _) aP (M.e_opt b5 hg) _ (H.give (A:=[]) rfl)).mono fun v_ w_ ⟨y_,ag,aL,H_⟩=>by subst ag; exact ⟨aL,H.via H_⟩) ?_;intro c4 H;refine s_val (x_pand (b:=aG) (r:=aH) rfl (fun hb=>gd_of (c:=aG) (by first | exact hb | (rw [hb]; rfl) | simp_all) (B aH)) rfl) ?_;refine kg 1 ?_;obtain ⟨aR,b6,hM⟩:=M.e_bind hM;refine t_gcall (aG&&aH) (gy_t rfl) cf10 (B aR) (fun _=>[]) (fun _=>rfl) H (fun hg=>(zar (M.e_opt b6 hg) _ (H.give (A:=[]) rfl)).mono fun v_ w_ ⟨y_,ag,aL,H_⟩=>by subst ag; exact ⟨aL,H.via H_⟩) ?_;intro c6 H;refine s_val (x_pand (b:=(aG&&aH)) (r:=aR) rfl (fun hb=>gd_of (c:=(aG&&aH)) (by first | exact hb | (rw [hb]; rfl) | simp_all) (B aR)) rfl) ?_;refine kg 2 ?_;replace H:=H.pk [];refine W.ret ?_
 have ag:=M.e_pure hM
 exact ⟨_,resE_tmp rfl,⟨((aG&&aH)&&aR),ag,rfl,H⟩⟩

def zbE (l:List Note):M (List Note) :=
  M.grd (decide ((([]:List Note).length+l.length)*24<=140737488355328)) <|
  M.pure l
theorem zfY {R:List Chunk} {ab:Cells} {aa:Value} (l:List Note) (ac:Reads R ab) (ae:Sl ab aa l) {r:(List Note)} (hM:(zbE l).Ends r) (w:World) (H:St w w [] R):Ret Tryz.prog 26 #[aa] w fun v w'=>∃ (y0:List Note) (u0:Value),y0=r/\v=u0/\St w w' [cOwn (α:=Note) 26 u0 y0] R:=by
 refine ret_of_W Tryz.func26 rfl rfl rfl ?_;refine kg 12 ?_
 replace H:=H.nilOwn (α:=Note) 26
 obtain ⟨ai,hM⟩:=M.e_gd hM;refine t_app (α:=Note) (k:=0) (l:=[]) (l2:=l) (l':=l) (vy:=aa) T27 rfl H rfl rfl rfl ae (ac.at H) (List.nil_append _) (by first | omega | (simp only [List.length_nil] at *; omega)) ?_;intro ag aj H;replace H:=H.nf;refine kg 2 ?_;refine W.ret ?_
 have ah:=M.e_pure hM
 exact ⟨_,resE_tmp rfl,⟨l,ag,ah,rfl,H⟩⟩

def zbV (l:List Pub):M (List Pub) :=
  M.grd (decide ((([]:List Pub).length+l.length)*16<=140737488355328)) <|
  M.pure l
theorem zfO {R:List Chunk} {ab:Cells} {aa:Value} (l:List Pub) (ac:Reads R ab) (ae:Sl ab aa l) {r:(List Pub)} (hM:(zbV l).Ends r) (w:World) (H:St w w [] R):Ret Tryz.prog 27 #[aa] w fun v w'=>∃ (y0:List Pub) (u0:Value),y0=r/\v=u0/\St w w' [cOwn (α:=Pub) 29 u0 y0] R:=by
 refine ret_of_W Tryz.func27 rfl rfl rfl ?_;refine kg 12 ?_
 replace H:=H.nilOwn (α:=Pub) 29
 obtain ⟨ai,hM⟩:=M.e_gd hM;refine t_app (α:=Pub) (k:=0) (l:=[]) (l2:=l) (l':=l) (vy:=aa) T30 rfl H rfl rfl rfl ae (ac.at H) (List.nil_append _) (by first | omega | (simp only [List.length_nil] at *; omega)) ?_;intro ag aj H;replace H:=H.nf;refine kg 2 ?_;refine W.ret ?_
 have ah:=M.e_pure hM
 exact ⟨_,resE_tmp rfl,⟨l,ag,ah,rfl,H⟩⟩

def za1 (l:List Note):(Nat × (List Note))->M ((Nat × (List Note)) ⊕ ((List Note) × (List Note))):=fun (s,l2) =>
  bif decide ((s:Int)<(l.length:Int)) then (
  M.grd (decide ((s:Int)<(l.length:Int))) <|
  M.grd (decide ((l2.length+([(l.getD s default)]).length)*24<=140737488355328)) <|
  M.pure (.inl (s+1,l2++([(l.getD s default)]))))
  else (
  M.pure (.inr (l2,l2)))
def zaJ (l:List Note):M (List Note) :=
  M.bind (M.iter (za1 l) (0,[])) fun (l3,l4) =>
  M.pure l4
theorem ze8 {R:List Chunk} {ag:Cells} {ac:Value} (l:List Note) (ak:Reads R ag) (ah:Sl ag ac l) {r:(List Note)} (hM:(zaJ l).Ends r) (w:World) (H:St w w [] R):Ret Tryz.prog 30 #[ac] w fun v w'=>∃ (y0:List Note) (u0:Value),y0=r/\v=u0/\St w w' [cOwn (α:=Note) 116 u0 y0] R:=by
 refine ret_of_W Tryz.func30 rfl rfl rfl ?_
 have ax:=(ah).len_le
 refine kg 16 ?_
 replace H:=H.nilOwn (α:=Note) 116
 obtain ⟨al,ae,am⟩:=M.e_bind hM
 obtain ⟨ay,ae⟩:=M.e_iter ae
 refine W.loop (fun m σ W=>∃ (s:Nat) (l2:List Note) (ab:Value) (ρ:Env),σ=upds ρ [(3,ab),(6,ac),(7,I (l.length:Int)),(8,I (s:Int))]/\M.iterN (za1 l) m (s,l2)=some al/\St w W [cOwn (α:=Note) 116 ab l2] R) ?_ ?_
 ·exact ⟨_,0,[],(.slice none 0 0),_,upds_of _ _ ⟨rfl,rfl,rfl,rfl,trivial⟩,ae,H⟩
 rintro az σ aA ⟨s,l2,ab,ρ,rfl,ai,H⟩
 obtain ⟨ao,ap,aB,hM,aj⟩:=M.e_iterN ai
 simp only [za1] at hM
 clear ai;refine kg 5 ?_
 refine W.cond (decide ((s:Int)<(l.length:Int))) rfl (fun aa=>?_) (fun aa=>?_)
 ·replace hM:=M.e_t hM aa
  replace aa:=dI aa
  obtain ⟨aC,hM⟩:=M.e_gd hM;refine kg 6 ?_;refine s_val (x_ld (v:=.agg #[I ((l.getD s default).work),I ((l.getD s default).version),I ((l.getD s default).value)]) rfl (ld_ag Ag26 Sz26 (At.mono (Note_atA ah (i:=(s:Int)) (by omega) (by omega)) (ak.at H)))) ?_;refine t_alloc (cs:=[I 0,I 0,I 0]) H Al26 rfl ?_;intro aD aE H;refine t_sw 0 0 [I ((l.getD s default).work),I ((l.getD s default).version),I ((l.getD s default).value)] (.agg #[I ((l.getD s default).work),I ((l.getD s default).version),I ((l.getD s default).value)]) H rfl rfl Sz26 rfl rfl rfl rfl ?_;intro aF H;refine kg 4 ?_;refine t_bs (α:=Note) T64 [.agg #[I ((l.getD s default).work),I ((l.getD s default).version),I ((l.getD s default).value)]] [(l.getD s default)] H rfl (.cons rfl (Flat.rep_enc _ (l.getD s default))<|.nil) rfl rfl rfl ?_;intro aq aG H;obtain ⟨aH,hM⟩:=M.e_gd hM;refine t_app (α:=Note) (k:=2) (l:=l2) (l2:=[(l.getD s default)]) (l':=l2++([(l.getD s default)])) (vy:=aq) T64 rfl H rfl rfl rfl (H.os 0) (H.ol 0) (rfl) (by first | omega | (simp only [List.length_nil] at *; omega)) ?_;intro au aI H;replace H:=H.nf;refine kg 2 ?_;replace H:=H.pk [2];refine kg 4 ?_
  exact ⟨ao,ap,s+1,l2++([(l.getD s default)]),au,_,upds_of _ _ ⟨rfl,rfl,rfl,rfl,trivial⟩,M.e_inl hM aj,H⟩
 replace hM:=M.e_f hM aa
 replace aa:=dI aa
 refine W.exit ?_
 have av:=M.e_inr hM aj
 subst av;replace hM:=am;(try dsimp only at hM);refine kg 5 ?_;refine W.ret ?_
 have aw:=M.e_pure hM
 exact ⟨_,resE_tmp rfl,⟨l2,ab,aw,rfl,H⟩⟩

end Go.Proofs.YtkclldpnmolljaaGreat
end
section
set_option maxRecDepth 100000
set_option maxHeartbeats 16000000
namespace Go.Proofs.YtkclldpnmolljaaGreat
open Go Go.Nm
attribute [local irreducible] gd execOp SL SLD SLT WR
def zaT (w_:List Work) (l:List Note):Nat->M (Nat ⊕ (Unit ⊕ Unit)):=fun i =>
  bif decide ((i:Int)<(l.length:Int)) then (
  M.grd (decide ((i:Int)<(l.length:Int))) <|
  M.bind (zao ((l.getD i default).work) 0 ((w_.length:Int)-1)) fun r2 =>
  M.grd ((!(!r2)||(decide ((0:Int)<=((l.getD i default).work))&&decide (((l.getD i default).work)<(w_.length:Int))))) <|
  bif (r2||(decide (0<(((w_.getD (Int.toNat ((l.getD i default).work)) default).of).length:Int)))) then (
  M.pure (.inr (.inl ())))
  else (
  M.pure (.inl (i+1))))
  else (
  M.pure (.inr (.inr ())))
def za3 (l:List Note):Nat->M (Nat ⊕ (Unit ⊕ Unit)):=fun i2 =>
  bif decide ((i2:Int)<(l.length:Int)) then (
  M.grd (decide ((i2:Int)<(l.length:Int))) <|
  M.bind (zao ((l.getD i2 default).version) 0 1000000) fun r3 =>
  M.bind (M.opt (!r3) (zao ((l.getD i2 default).value) 0 1000002) false) fun r4 =>
  bif (r3||r4) then (
  M.pure (.inr (.inl ())))
  else (
  M.pure (.inl (i2+1))))
  else (
  M.pure (.inr (.inr ())))
def zaZ (l:List Note) (i3:Nat):Nat->M (Nat ⊕ (Unit ⊕ Unit)):=fun k =>
  bif decide ((k:Int)<(i3:Int)) then (
  M.grd (decide ((i3:Int)<(l.length:Int))) <|
  M.grd (decide ((k:Int)<(l.length:Int))) <|
  bif (((((l.getD i3 default).work)==((l.getD k default).work))&&(((l.getD i3 default).version)==((l.getD k default).version)))&&(((l.getD i3 default).value) != ((l.getD k default).value))) then (
  M.pure (.inr (.inl ())))
  else (
  M.pure (.inl (k+1))))
  else (
  M.pure (.inr (.inr ())))
def zaV (l:List Note):Nat->M (Nat ⊕ (Unit ⊕ Unit)):=fun i3 =>
  bif decide ((i3:Int)<(l.length:Int)) then (
  M.bind (M.iter (zaZ l i3) 0) fun x_=>match x_ with
  | (.inl (_:Unit))=>(
  M.pure (.inr (.inl ())))
  | (.inr (_:Unit))=>(
  M.pure (.inl (i3+1))))
  else (
  M.pure (.inr (.inr ())))
def zds (l:List Note) (r0:List Int) (n:Nat):((List Int) × Int × Nat)->M (((List Int) × Int × Nat) ⊕ ((List Int) × (List Int))):=fun (l2,best,k2) =>
  bif decide ((k2:Int)<(l.length:Int)) then (
  M.grd (decide ((k2:Int)<(l.length:Int))) <|
  bif ((((l.getD k2 default).work)==(r0.getD n 0))&&(decide (best<((l.getD k2 default).version)))) then (
  M.grd (decide ((0:Int)<=(r0.getD n 0))&&decide ((r0.getD n 0)<(l2.length:Int))) <|
  M.pure (.inl (l2.set (Int.toNat (r0.getD n 0)) ((l.getD k2 default).value:Int),(l.getD k2 default).version,k2+1)))
  else (
  M.pure (.inl (l2,best,k2+1))))
  else (
  M.pure (.inr (l2,l2)))
def zdp (w_:List Work) (r0:List Int) (n:Nat) (l4:List Int):(Int × Bool × Nat)->M ((Int × Bool × Nat) ⊕ (Int × Bool)):=fun (sum,known,k3) =>
  bif decide ((k3:Int)<(((w_.getD (Int.toNat (r0.getD n 0)) default).of).length:Int)) then (
  M.grd ((!known||(decide ((k3:Int)<(((w_.getD (Int.toNat (r0.getD n 0)) default).of).length:Int))))) <|
  M.grd ((!known||(decide ((0:Int)<=(((w_.getD (Int.toNat (r0.getD n 0)) default).of).getD k3 0))&&decide ((((w_.getD (Int.toNat (r0.getD n 0)) default).of).getD k3 0)<(l4.length:Int))))) <|
  M.grd (decide ((k3:Int)<(((w_.getD (Int.toNat (r0.getD n 0)) default).of).length:Int))) <|
  M.grd (decide ((0:Int)<=(((w_.getD (Int.toNat (r0.getD n 0)) default).of).getD k3 0))&&decide ((((w_.getD (Int.toNat (r0.getD n 0)) default).of).getD k3 0)<(l4.length:Int))) <|
  M.grd (decide ((-9223372036854775808:Int)<=(((k3:Int)+1)*(l4.getD (Int.toNat (((w_.getD (Int.toNat (r0.getD n 0)) default).of).getD k3 0)) 0)))&&decide ((((k3:Int)+1)*(l4.getD (Int.toNat (((w_.getD (Int.toNat (r0.getD n 0)) default).of).getD k3 0)) 0))<=(9223372036854775807:Int))) <|
  M.grd (decide ((-9223372036854775808:Int)<=(sum+(((k3:Int)+1)*(l4.getD (Int.toNat (((w_.getD (Int.toNat (r0.getD n 0)) default).of).getD k3 0)) 0))))&&decide ((sum+(((k3:Int)+1)*(l4.getD (Int.toNat (((w_.getD (Int.toNat (r0.getD n 0)) default).of).getD k3 0)) 0)))<=(9223372036854775807:Int))) <|
  M.pure (.inl (sum+(((k3:Int)+1)*(l4.getD (Int.toNat (((w_.getD (Int.toNat (r0.getD n 0)) default).of).getD k3 0)) 0)),(known&&((l4.getD (Int.toNat (((w_.getD (Int.toNat (r0.getD n 0)) default).of).getD k3 0)) 0) != (-1))),k3+1)))
  else (
  M.pure (.inr (sum,known)))
def zdC (w_:List Work) (l:List Note) (r0:List Int):((List Int) × Nat)->M (((List Int) × Nat) ⊕ ((List Int) × (List Int))):=fun (l5,n) =>
  bif decide ((n:Int)<(r0.length:Int)) then (
  M.grd (decide ((n:Int)<(r0.length:Int))) <|
  M.grd (decide ((0:Int)<=(r0.getD n 0))&&decide ((r0.getD n 0)<(l5.length:Int))) <|
  M.bind (M.iter (zds l r0 n) (l5.set (Int.toNat (r0.getD n 0)) (-1:Int),-1,0)) fun (l3,l4) =>
  M.grd (decide ((0:Int)<=(r0.getD n 0))&&decide ((r0.getD n 0)<(w_.length:Int))) <|
  bif (((w_.getD (Int.toNat (r0.getD n 0)) default).of).length:Int)==0 then (
  M.pure (.inl (l4,n+1)))
  else (
  M.bind (M.iter (zdp w_ r0 n l4) ((w_.getD (Int.toNat (r0.getD n 0)) default).base,true,0)) fun (sum2,known2) =>
  bif known2 then (
  M.grd (decide ((0:Int)<=sum2)&&decide ((0:Int)<1000003)) <|
  M.grd (decide ((0:Int)<=(r0.getD n 0))&&decide ((r0.getD n 0)<(l4.length:Int))) <|
  M.pure (.inl (l4.set (Int.toNat (r0.getD n 0)) (sum2 % 1000003:Int),n+1)))
  else (
  M.pure (.inl (l4,n+1)))))
  else (
  M.pure (.inr (l5,l5)))
def zax (w_:List Work) (l:List Note):M ((List Int) × Int) :=
  M.bind (za5 w_) fun (r0,r1) =>
  bif r1 != 0 then (
  M.pure (([]),r1))
  else (
  bif decide (200<(l.length:Int)) then (
  M.pure (([]),3))
  else (
  M.bind (M.iter (zaT w_ l) 0) fun x_=>match x_ with
  | (.inl (_:Unit))=>(
  M.pure (([]),2))
  | (.inr (_:Unit))=>(
  M.bind (M.iter (za3 l) 0) fun x_=>match x_ with
  | (.inl (_:Unit))=>(
  M.pure (([]),4))
  | (.inr (_:Unit))=>(
  M.bind (M.iter (zaV l) 0) fun x_=>match x_ with
  | (.inl (_:Unit))=>(
  M.pure (([]),10))
  | (.inr (_:Unit))=>(
  M.grd (decide ((0:Int)<=(w_.length:Int))&&decide ((8:Int)*(w_.length:Int)<=281474976710656)&&decide ((w_.length:Int)<=(9223372036854775807:Int))) <|
  M.bind (M.iter (zdC w_ l r0) (List.replicate (w_.length) (0:Int),0)) fun (l6,l7) =>
  M.pure (l7,0))))))
theorem zfe {R:List Chunk} {a7:Cells} {ai:Value} {a8:Cells} {ae:Value} (w_:List Work) (l:List Note) (am:Reads R a7) (ak:Sl a7 ai w_) (ag:Reads R a8) (ab:Sl a8 ae l) {r:((List Int) × Int)} (hM:(zax w_ l).Ends r) (w:World) (H:St w w [] R):Ret Tryz.prog 29 #[ai,ae] w fun v w'=>∃ (y0:List Int) (y1:Int) (u0:Value),(y0,y1)=r/\v = .tuple #[u0,I y1]/\St w w' [cOwn (α:=Int) 3 u0 y0] R:=by
 refine ret_of_W Tryz.func29 rfl rfl rfl ?_;refine kg 8 ?_;obtain ⟨ck,bB,hM⟩:=M.e_bind hM;refine s_call cf19 [ai] rfl (zdj w_ (am.app _) ak bB _ (H.gt 0)) ?_
 rintro vq cl ⟨r0,r1,ac,rfl,hvq,al⟩
 subst vq;(try dsimp only at hM);replace H:=H.bk al;clear al;refine kg 12 ?_
 refine W.cond (r1 != 0) rfl (fun ao=>?_) (fun ao=>?_)
 ·replace hM:=M.e_t hM ao
  replace ao:=dI ao
  refine kg 6 ?_;refine W.ret ?_
  have ah:=M.e_pure hM
  replace H:=H.nilOwn (α:=Int) 3
  exact ⟨_,resE_tmp2 rfl,⟨([]),r1,(.slice none 0 0),ah,rfl,(H.pk [0])⟩⟩
 replace hM:=M.e_f hM ao
 replace ao:=dI ao
 have cm:=(ab).len_le
 refine kg 8 ?_
 refine W.cond (decide (200<(l.length:Int))) rfl (fun ap=>?_) (fun ap=>?_)
 ·replace hM:=M.e_t hM ap
  replace ap:=dI ap
  refine kg 5 ?_;refine W.ret ?_
  have ah:=M.e_pure hM
  replace H:=H.nilOwn (α:=Int) 3
  exact ⟨_,resE_tmp2 rfl,⟨([]),3,(.slice none 0 0),ah,rfl,(H.pk [0])⟩⟩
 replace hM:=M.e_f hM ap
 replace ap:=dI ap
 refine kg 7 ?_;obtain ⟨bC,aI,a9⟩:=M.e_bind hM
 obtain ⟨aC,aI⟩:=M.e_iter aI
 refine W.loop (fun m σ W=>∃ (i:Nat) (ρ:Env),σ=upds ρ [(0,ai),(1,ae),(6,ac),(8,I (i:Int))]/\M.iterN (zaT w_ l) m i=some bC/\St w W [cOwn (α:=Int) 3 ac r0] R) ?_ ?_
 ·exact ⟨_,0,_,upds_of _ _ ⟨rfl,rfl,rfl,rfl,trivial⟩,aI,H⟩
 rintro cn σ co ⟨i,ρ,rfl,ba,H⟩
 obtain ⟨bD,bE,cp,hM,aJ⟩:=M.e_iterN ba
 simp only [zaT] at hM
 clear ba
 have cq:=(ab).len_le
 refine kg 8 ?_
 refine W.cond (decide ((i:Int)<(l.length:Int))) rfl (fun aq=>?_) (fun aq=>?_)
 ·replace hM:=M.e_t hM aq
  replace aq:=dI aq
  obtain ⟨cr,hM⟩:=M.e_gd hM;refine kg 9 ?_;refine s_val (x_ld (v:=I ((l.getD i default).work)) rfl (ld_sc Sc3 (At.mono (Note_at0 ab (i:=(i:Int)) (by omega) (by omega)) (ag.at H)))) ?_
  have ct:=(ak).len_le
  refine kg 3 ?_;obtain ⟨cu,bF,hM⟩:=M.e_bind hM;refine s_call cf68 [I ((l.getD i default).work),I 0,I ((w_.length:Int)-1)] rfl (zas ((l.getD i default).work) 0 ((w_.length:Int)-1) bF _ (H.gt 1)) ?_
  rintro vq cv ⟨r2,rfl,hvq,al⟩
  subst vq;(try dsimp only at hM);replace H:=H.bk al;clear al;refine kg 6 ?_;refine g_val (!r2) (gy_f rfl) (fun hg=>x_ld (v:=I ((l.getD i default).work)) (gd_of hg (fat (vat ae 3 (Int.toNat (i:Int))) 0)) (ld_sc Sc3 (At.mono (Note_at0 ab (i:=(i:Int)) (by first | omega | (have aa:=hg; simp at aa; omega)) (by first | omega | (have aa:=hg; simp at aa; omega))) (ag.at H)))) ?_;obtain ⟨aE,hM⟩:=M.e_grd hM
  replace aE:=M.imp_of aE
  simp only [Bool.and_eq_true,decide_eq_true_eq] at aE
  refine kg 2 ?_
  obtain ⟨bb,bG,bc⟩:=gd_ex (c:=!r2) fun hg=>Work_at0 ak (i:=(l.getD i default).work) (by have au:=aE.resolve_left (by rw [hg]; decide); first | exact au | exact au.1 | exact au.2 | omega | (have aa:=hg; simp at aa; omega)) (by have au:=aE.resolve_left (by rw [hg]; decide); first | exact au | exact au.1 | exact au.2 | omega | (have aa:=hg; simp at aa; omega))
  replace bc:(!r2)=true->Sl _ bb (w_.getD (Int.toNat ((l.getD i default).work)) default).of:=bc
  refine g_val (!r2) (gy_f rfl) (fun hg=>x_ld (v:=bb) (gd_of hg (fat (vat ai 3 (Int.toNat ((l.getD i default).work))) 0)) (ld_sc Sc22 (At.mono (bG hg) (am.at H)))) ?_;refine kg 2 ?_;refine s_val (x_por (b:=r2) (r:=decide (0<(((w_.getD (Int.toNat ((l.getD i default).work)) default).of).length:Int))) rfl rfl (fun hb=>gd_of (c:=!r2) (by first | exact hb | (rw [hb]; rfl) | simp_all) (B (decide (0<(((w_.getD (Int.toNat ((l.getD i default).work)) default).of).length:Int))))))<|s_nil ?_
  refine W.cond (r2||(decide (0<(((w_.getD (Int.toNat ((l.getD i default).work)) default).of).length:Int)))) rfl (fun aK=>?_) (fun aK=>?_)
  ·replace hM:=M.e_t hM aK;refine kg 5 ?_;refine W.ret ?_
   have bH:=M.e_inr hM aJ
   subst bH;replace hM:=a9;(try dsimp only at hM)
   have ah:=M.e_pure hM
   replace H:=H.nilOwn (α:=Int) 3
   exact ⟨_,resE_tmp2 rfl,⟨([]),2,(.slice none 0 0),ah,rfl,(H.pk [0])⟩⟩
  replace hM:=M.e_f hM aK;refine kg 6 ?_
  exact ⟨bD,bE,i+1,_,upds_of _ _ ⟨rfl,rfl,rfl,rfl,trivial⟩,M.e_inl hM aJ,H⟩
 replace hM:=M.e_f hM aq
 replace aq:=dI aq
 refine W.exit ?_
 have bI:=M.e_inr hM aJ
 subst bI;replace hM:=a9;(try dsimp only at hM);refine kg 6 ?_;obtain ⟨bJ,aL,bf⟩:=M.e_bind hM
 obtain ⟨aC,aL⟩:=M.e_iter aL
 refine W.loop (fun m σ W=>∃ (i2:Nat) (ρ:Env),σ=upds ρ [(0,ai),(1,ae),(6,ac),(9,I (i2:Int))]/\M.iterN (za3 l) m i2=some bJ/\St w W [cOwn (α:=Int) 3 ac r0] R) ?_ ?_
 ·exact ⟨_,0,_,upds_of _ _ ⟨rfl,rfl,rfl,rfl,trivial⟩,aL,H⟩
 rintro cw σ cx ⟨i2,ρ,rfl,bg,H⟩
 obtain ⟨bK,bL,cy,hM,aM⟩:=M.e_iterN bg
 simp only [za3] at hM
 clear bg
 have cz:=(ab).len_le
 refine kg 8 ?_
 refine W.cond (decide ((i2:Int)<(l.length:Int))) rfl (fun av=>?_) (fun av=>?_)
 ·replace hM:=M.e_t hM av
  replace av:=dI av
  obtain ⟨cA,hM⟩:=M.e_gd hM;refine kg 9 ?_;refine s_val (x_ld (v:=I ((l.getD i2 default).version)) rfl (ld_sc Sc3 (At.mono (Note_at1 ab (i:=(i2:Int)) (by omega) (by omega)) (ag.at H)))) ?_;obtain ⟨cB,bM,hM⟩:=M.e_bind hM;refine s_call cf68 [I ((l.getD i2 default).version),I 0,I 1000000] rfl (zas ((l.getD i2 default).version) 0 1000000 bM _ (H.gt 1)) ?_
  rintro vq cC ⟨r3,rfl,hvq,al⟩
  subst vq;(try dsimp only at hM);replace H:=H.bk al;clear al;refine kg 5 ?_;refine g_val (!r3) (gy_f rfl) (fun hg=>x_ld (v:=I ((l.getD i2 default).value)) (gd_of hg (fat (vat ae 3 (Int.toNat (i2:Int))) 2)) (ld_sc Sc3 (At.mono (Note_at2 ab (i:=(i2:Int)) (by first | omega | (have aa:=hg; simp at aa; omega)) (by first | omega | (have aa:=hg; simp at aa; omega))) (ag.at H)))) ?_;obtain ⟨r4,bN,hM⟩:=M.e_bind hM;refine t_gcall (!r3) (gy_f rfl) cf68 (B r4) (fun _=>[I ((l.getD i2 default).value),I 0,I 1000002]) (fun hg=>lst3 (gd_of hg (I ((l.getD i2 default).value))) rfl rfl) H (fun hg=>(zas ((l.getD i2 default).value) 0 1000002 (M.e_opt bN hg) _ (H.give (A:=[]) rfl)).mono fun v_ w_ ⟨y_,ah,bO,H_⟩=>by subst ah; exact ⟨bO,H.via H_⟩) ?_;intro cD H;refine s_val (x_por (b:=r3) (r:=r4) rfl rfl (fun hb=>gd_of (c:=!r3) (by first | exact hb | (rw [hb]; rfl) | simp_all) (B r4)))<|s_nil ?_
  refine W.cond (r3||r4) rfl (fun aN=>?_) (fun aN=>?_)
  ·replace hM:=M.e_t hM aN;refine kg 5 ?_;refine W.ret ?_
   have bP:=M.e_inr hM aM
   subst bP;replace hM:=bf;(try dsimp only at hM)
   have ah:=M.e_pure hM
   replace H:=H.nilOwn (α:=Int) 3
   exact ⟨_,resE_tmp2 rfl,⟨([]),4,(.slice none 0 0),ah,rfl,(H.pk [0])⟩⟩
  replace hM:=M.e_f hM aN;refine kg 6 ?_
  exact ⟨bK,bL,i2+1,_,upds_of _ _ ⟨rfl,rfl,rfl,rfl,trivial⟩,M.e_inl hM aM,H⟩
 replace hM:=M.e_f hM av
 replace av:=dI av
 refine W.exit ?_
 have bQ:=M.e_inr hM aM
 subst bQ;replace hM:=bf;(try dsimp only at hM);refine kg 6 ?_;obtain ⟨bR,aO,bh⟩:=M.e_bind hM
 obtain ⟨aC,aO⟩:=M.e_iter aO
 refine W.loop (fun m σ W=>∃ (i3:Nat) (ρ:Env),σ=upds ρ [(0,ai),(1,ae),(6,ac),(10,I (i3:Int))]/\M.iterN (zaV l) m i3=some bR/\St w W [cOwn (α:=Int) 3 ac r0] R) ?_ ?_
 ·exact ⟨_,0,_,upds_of _ _ ⟨rfl,rfl,rfl,rfl,trivial⟩,aO,H⟩
 rintro cE σ cF ⟨i3,ρ,rfl,bi,H⟩
 obtain ⟨bS,bT,cG,hM,aP⟩:=M.e_iterN bi
 simp only [zaV] at hM
 clear bi
 have cH:=(ab).len_le
 refine kg 8 ?_
 refine W.cond (decide ((i3:Int)<(l.length:Int))) rfl (fun aw=>?_) (fun aw=>?_)
 ·replace hM:=M.e_t hM aw
  replace aw:=dI aw
  refine kg 8 ?_;obtain ⟨bU,aQ,bj⟩:=M.e_bind hM
  obtain ⟨aC,aQ⟩:=M.e_iter aQ
  refine W.loop (fun m σ W=>∃ (k:Nat) (ρ:Env),σ=upds ρ [(0,ai),(1,ae),(6,ac),(10,I (i3:Int)),(11,I (k:Int))]/\M.iterN (zaZ l i3) m k=some bU/\St w W [cOwn (α:=Int) 3 ac r0] R) ?_ ?_
  ·exact ⟨_,0,_,upds_of _ _ ⟨rfl,rfl,rfl,rfl,rfl,trivial⟩,aQ,H⟩
  rintro cI σ cJ ⟨k,ρ,rfl,bm,H⟩
  obtain ⟨bV,bW,cK,hM,aR⟩:=M.e_iterN bm
  simp only [zaZ] at hM
  clear bm;refine kg 7 ?_
  refine W.cond (decide ((k:Int)<(i3:Int))) rfl (fun ax=>?_) (fun ax=>?_)
  ·replace hM:=M.e_t hM ax
   replace ax:=dI ax
   refine kg 4 ?_;refine W.draw (fun W=>St w W [cOwn (α:=Int) 3 ac r0] R) [(0,true),(1,true),(2,true),(3,true),(4,true),(5,true),(6,true),(7,true),(8,true),(9,true),(10,true),(11,true),(12,true),(13,true),(14,true),(15,true),(16,true),(17,true),(18,true),(19,true),(20,true),(21,true),(22,true),(23,true),(24,true),(25,true),(26,true),(27,true),(28,true),(29,true),(30,true),(31,true),(32,true),(33,true),(34,true),(35,true),(36,true)] mixed (by decide +kernel) rfl ?_;intro cL aa;replace H:=H.ext aa;clear aa
   refine ⟨(H.pk [0]),?_⟩
   obtain ⟨cM,hM⟩:=M.e_gd hM;refine kg 4 ?_;refine d_q rfl (fun w' H=>x_ld (v:=I ((l.getD i3 default).work)) rfl (ld_sc Sc3 (At.mono (Note_at0 ab (i:=(i3:Int)) (by omega) (by omega)) (ag.at H)))) ?_;obtain ⟨cN,hM⟩:=M.e_gd hM;refine kg 4 ?_;refine d_q rfl (fun w' H=>x_ld (v:=I ((l.getD k default).work)) rfl (ld_sc Sc3 (At.mono (Note_at0 ab (i:=(k:Int)) (by omega) (by omega)) (ag.at H)))) ?_;refine kg 6 ?_;refine d_qg (((l.getD i3 default).work)==((l.getD k default).work)) rfl (gy_t rfl) (fun hg=>(fun w' H=>x_ld (v:=I ((l.getD i3 default).version)) (gd_of hg (fat (vat ae 3 (Int.toNat (i3:Int))) 1)) (ld_sc Sc3 (At.mono (Note_at1 ab (i:=(i3:Int)) (by first | omega | (have aa:=hg; simp at aa; omega)) (by first | omega | (have aa:=hg; simp at aa; omega))) (ag.at H))))) ?_;refine kg 4 ?_;refine d_qg (((l.getD i3 default).work)==((l.getD k default).work)) rfl (gy_t rfl) (fun hg=>(fun w' H=>x_ld (v:=I ((l.getD k default).version)) (gd_of hg (fat (vat ae 3 (Int.toNat (k:Int))) 1)) (ld_sc Sc3 (At.mono (Note_at1 ab (i:=(k:Int)) (by first | omega | (have aa:=hg; simp at aa; omega)) (by first | omega | (have aa:=hg; simp at aa; omega))) (ag.at H))))) ?_;refine kg 1 ?_;refine d_q rfl (fun w' H=>x_pand (b:=((l.getD i3 default).work)==((l.getD k default).work)) (r:=((l.getD i3 default).version)==((l.getD k default).version)) rfl (fun hb=>gd_of (c:=((l.getD i3 default).work)==((l.getD k default).work)) (by first | exact hb | (rw [hb]; rfl) | simp_all) (B (((l.getD i3 default).version)==((l.getD k default).version)))) rfl) ?_;refine kg 5 ?_;refine d_qg ((((l.getD i3 default).work)==((l.getD k default).work))&&(((l.getD i3 default).version)==((l.getD k default).version))) rfl (gy_t rfl) (fun hg=>(fun w' H=>x_ld (v:=I ((l.getD i3 default).value)) (gd_of hg (fat (vat ae 3 (Int.toNat (i3:Int))) 2)) (ld_sc Sc3 (At.mono (Note_at2 ab (i:=(i3:Int)) (by first | omega | (have aa:=hg; simp at aa; omega)) (by first | omega | (have aa:=hg; simp at aa; omega))) (ag.at H))))) ?_;refine kg 4 ?_;refine d_qg ((((l.getD i3 default).work)==((l.getD k default).work))&&(((l.getD i3 default).version)==((l.getD k default).version))) rfl (gy_t rfl) (fun hg=>(fun w' H=>x_ld (v:=I ((l.getD k default).value)) (gd_of hg (fat (vat ae 3 (Int.toNat (k:Int))) 2)) (ld_sc Sc3 (At.mono (Note_at2 ab (i:=(k:Int)) (by first | omega | (have aa:=hg; simp at aa; omega)) (by first | omega | (have aa:=hg; simp at aa; omega))) (ag.at H))))) ?_;refine kg 1 ?_;refine d_q rfl (fun w' H=>x_pand (b:=((((l.getD i3 default).work)==((l.getD k default).work))&&(((l.getD i3 default).version)==((l.getD k default).version)))) (r:=((l.getD i3 default).value) != ((l.getD k default).value)) rfl (fun hb=>gd_of (c:=((((l.getD i3 default).work)==((l.getD k default).work))&&(((l.getD i3 default).version)==((l.getD k default).version)))) (by first | exact hb | (rw [hb]; rfl) | simp_all) (B (((l.getD i3 default).value) != ((l.getD k default).value)))) rfl) ?_;refine d_nil ?_
   refine W.cond (((((l.getD i3 default).work)==((l.getD k default).work))&&(((l.getD i3 default).version)==((l.getD k default).version)))&&(((l.getD i3 default).value) != ((l.getD k default).value))) rfl (fun aS=>?_) (fun aS=>?_)
   ·replace hM:=M.e_t hM aS;refine kg 5 ?_;refine W.ret ?_
    have bX:=M.e_inr hM aR
    subst bX;replace hM:=bj;(try dsimp only at hM)
    have bY:=M.e_inr hM aP
    subst bY;replace hM:=bh;(try dsimp only at hM)
    have ah:=M.e_pure hM
    replace H:=H.nilOwn (α:=Int) 3
    exact ⟨_,resE_tmp2 rfl,⟨([]),10,(.slice none 0 0),ah,rfl,(H.pk [0])⟩⟩
   replace hM:=M.e_f hM aS;refine kg 6 ?_
   exact ⟨bV,bW,k+1,_,upds_of _ _ ⟨rfl,rfl,rfl,rfl,rfl,trivial⟩,M.e_inl hM aR,H⟩
  replace hM:=M.e_f hM ax
  replace ax:=dI ax
  refine W.exit ?_
  have bZ:=M.e_inr hM aR
  subst bZ;replace hM:=bj;(try dsimp only at hM);refine kg 5 ?_
  exact ⟨bS,bT,i3+1,_,upds_of _ _ ⟨rfl,rfl,rfl,rfl,trivial⟩,M.e_inl hM aP,H⟩
 replace hM:=M.e_f hM aw
 replace aw:=dI aw
 refine W.exit ?_
 have b0:=M.e_inr hM aP
 subst b0;replace hM:=bh;(try dsimp only at hM)
 have cO:=(ak).len_le
 obtain ⟨cP,hM⟩:=M.e_gd hM;refine kg 4 ?_;refine t_mk (α:=Int) T22 (0:Int) rfl (n:=(w_.length:Int)) H rfl rfl (by omega) (by omega) (by omega) ?_;intro b4 cQ H;replace H:=H.nf;refine kg 8 ?_;obtain ⟨b5,aT,b6⟩:=M.e_bind hM
 obtain ⟨aC,aT⟩:=M.e_iter aT
 refine W.loop (fun m σ W=>∃ (l5:List Int) (n:Nat) (aD:Value) (ρ:Env),σ=upds ρ [(0,ai),(1,ae),(6,ac),(12,aD),(13,I (n:Int))]/\M.iterN (zdC w_ l r0) m (l5,n)=some b5/\St w W [cOwn (α:=Int) 3 aD l5,cOwn (α:=Int) 3 ac r0] R) ?_ ?_
 ·exact ⟨_,List.replicate (w_.length) (0:Int),0,b4,_,upds_of _ _ ⟨rfl,rfl,rfl,rfl,rfl,trivial⟩,aT,H⟩
 rintro cR σ cS ⟨l5,n,aD,ρ,rfl,bn,H⟩
 obtain ⟨aU,aV,cT,hM,aF⟩:=M.e_iterN bn
 simp only [zdC] at hM
 clear bn
 have cU:=((H.os 1)).len_le
 refine kg 8 ?_
 refine W.cond (decide ((n:Int)<(r0.length:Int))) rfl (fun ay=>?_) (fun ay=>?_)
 ·replace hM:=M.e_t hM ay
  replace ay:=dI ay
  obtain ⟨cV,hM⟩:=M.e_gd hM;obtain ⟨cW,hM⟩:=M.e_gd hM;refine kg 16 ?_;refine t_ost (k:=0) (i:=r0.getD n 0) (l:=l5) (l':=l5.set (Int.toNat (r0.getD n 0)) (-1:Int)) (val:=I (-1)) (L':=[cOwn (α:=Int) 3 aD (l5.set (Int.toNat (r0.getD n 0)) (-1:Int)),cOwn (α:=Int) 3 ac r0]) H rfl Sz3 (by omega) (by omega) (-1:Int) rfl rfl rfl rfl rfl ?_;intro cX H;refine kg 11 ?_;obtain ⟨b7,aW,b8⟩:=M.e_bind hM
  obtain ⟨aC,aW⟩:=M.e_iter aW
  refine W.loop (fun m σ W=>∃ (l2:List Int) (best:Int) (k2:Nat) (aj:Value) (ρ:Env),σ=upds ρ [(0,ai),(1,ae),(6,ac),(12,aj),(13,I (n:Int)),(14,I (r0.getD n 0)),(15,I best),(16,I (k2:Int))]/\M.iterN (zds l r0 n) m (l2,best,k2)=some b7/\St w W [cOwn (α:=Int) 3 aj l2,cOwn (α:=Int) 3 ac r0] R) ?_ ?_
  ·exact ⟨_,l5.set (Int.toNat (r0.getD n 0)) (-1:Int),-1,0,aD,_,upds_of _ _ ⟨rfl,rfl,rfl,rfl,rfl,rfl,rfl,rfl,trivial⟩,aW,H⟩
  rintro cY σ cZ ⟨l2,best,k2,aj,ρ,rfl,bo,H⟩
  obtain ⟨bp,br,c0,hM,aX⟩:=M.e_iterN bo
  simp only [zds] at hM
  clear bo
  have c3:=(ab).len_le
  refine kg 8 ?_
  refine W.cond (decide ((k2:Int)<(l.length:Int))) rfl (fun az=>?_) (fun az=>?_)
  ·replace hM:=M.e_t hM az
   replace az:=dI az
   obtain ⟨c4,hM⟩:=M.e_gd hM;refine kg 9 ?_;refine s_val (x_ld (v:=I ((l.getD k2 default).work)) rfl (ld_sc Sc3 (At.mono (Note_at0 ab (i:=(k2:Int)) (by omega) (by omega)) (ag.at H)))) ?_;refine kg 7 ?_;refine g_val (((l.getD k2 default).work)==(r0.getD n 0)) (gy_t rfl) (fun hg=>x_ld (v:=I ((l.getD k2 default).version)) (gd_of hg (fat (vat ae 3 (Int.toNat (k2:Int))) 1)) (ld_sc Sc3 (At.mono (Note_at1 ab (i:=(k2:Int)) (by first | omega | (have aa:=hg; simp at aa; omega)) (by first | omega | (have aa:=hg; simp at aa; omega))) (ag.at H)))) ?_;refine kg 2 ?_;refine s_val (x_pand (b:=((l.getD k2 default).work)==(r0.getD n 0)) (r:=decide (best<((l.getD k2 default).version))) rfl (fun hb=>gd_of (c:=((l.getD k2 default).work)==(r0.getD n 0)) (by first | exact hb | (rw [hb]; rfl) | simp_all) (B (decide (best<((l.getD k2 default).version))))) rfl)<|s_nil ?_
   refine W.cond ((((l.getD k2 default).work)==(r0.getD n 0))&&(decide (best<((l.getD k2 default).version)))) rfl (fun aY=>?_) (fun aY=>?_)
   ·replace hM:=M.e_t hM aY;refine kg 6 ?_;refine s_val (x_ld (v:=I ((l.getD k2 default).version)) rfl (ld_sc Sc3 (At.mono (Note_at1 ab (i:=(k2:Int)) (by omega) (by omega)) (ag.at H)))) ?_;refine kg 9 ?_;refine s_val (x_ld (v:=I ((l.getD k2 default).value)) rfl (ld_sc Sc3 (At.mono (Note_at2 ab (i:=(k2:Int)) (by omega) (by omega)) (ag.at H)))) ?_;obtain ⟨c6,hM⟩:=M.e_gd hM;refine kg 1 ?_;refine t_ost (k:=0) (i:=r0.getD n 0) (l:=l2) (l':=l2.set (Int.toNat (r0.getD n 0)) ((l.getD k2 default).value:Int)) (val:=I ((l.getD k2 default).value)) (L':=[cOwn (α:=Int) 3 aj (l2.set (Int.toNat (r0.getD n 0)) ((l.getD k2 default).value:Int)),cOwn (α:=Int) 3 ac r0]) H rfl Sz3 (by omega) (by omega) ((l.getD k2 default).value:Int) rfl rfl rfl rfl rfl ?_;intro c7 H;refine kg 6 ?_
    exact ⟨bp,br,l2.set (Int.toNat (r0.getD n 0)) ((l.getD k2 default).value:Int),(l.getD k2 default).version,k2+1,aj,_,upds_of _ _ ⟨rfl,rfl,rfl,rfl,rfl,rfl,rfl,rfl,trivial⟩,M.e_inl hM aX,H⟩
   replace hM:=M.e_f hM aY;refine kg 6 ?_
   exact ⟨bp,br,l2,best,k2+1,aj,_,upds_of _ _ ⟨rfl,rfl,rfl,rfl,rfl,rfl,rfl,rfl,trivial⟩,M.e_inl hM aX,H⟩
  replace hM:=M.e_f hM az
  replace az:=dI az
  refine W.exit ?_
  have b9:=M.e_inr hM aX
  subst b9;replace hM:=b8;(try dsimp only at hM);obtain ⟨c8,hM⟩:=M.e_gd hM;refine kg 7 ?_
  obtain ⟨bt,ca,aG⟩:=Work_at0 ak (i:=r0.getD n 0) (by omega) (by omega)
  replace aG:Sl _ bt (w_.getD (Int.toNat (r0.getD n 0)) default).of:=aG
  have c9:=aG.len_le
  refine s_val (x_ld (v:=bt) rfl (ld_sc Sc22 (At.mono (ca) (am.at H)))) ?_
  have da:=(aG).len_le
  refine kg 3 ?_
  refine W.cond ((((w_.getD (Int.toNat (r0.getD n 0)) default).of).length:Int)==0) rfl (fun aA=>?_) (fun aA=>?_)
  ·replace hM:=M.e_t hM aA
   replace aA:=dI aA
   refine W.exit ?_;refine kg 5 ?_
   exact ⟨aU,aV,l2,n+1,aj,_,upds_of _ _ ⟨rfl,rfl,rfl,rfl,rfl,trivial⟩,M.e_inl hM aF,H⟩
  replace hM:=M.e_f hM aA
  replace aA:=dI aA
  refine kg 7 ?_;refine s_val (x_ld (v:=I ((w_.getD (Int.toNat (r0.getD n 0)) default).base)) rfl (ld_sc Sc3 (At.mono (Work_at1 ak (i:=r0.getD n 0) (by omega) (by omega)) (am.at H)))) ?_;refine kg 12 ?_;obtain ⟨cb,aZ,cc⟩:=M.e_bind hM
  obtain ⟨aC,aZ⟩:=M.e_iter aZ
  refine W.loop (fun m σ W=>∃ (sum:Int) (known:Bool) (k3:Nat) (ρ:Env),σ=upds ρ [(0,ai),(1,ae),(6,ac),(12,aj),(13,I (n:Int)),(14,I (r0.getD n 0)),(17,I sum),(18,B known),(19,I (k3:Int))]/\M.iterN (zdp w_ r0 n l2) m (sum,known,k3)=some cb/\St w W [cOwn (α:=Int) 3 aj l2,cOwn (α:=Int) 3 ac r0] R) ?_ ?_
  ·exact ⟨_,(w_.getD (Int.toNat (r0.getD n 0)) default).base,true,0,_,upds_of _ _ ⟨rfl,rfl,rfl,rfl,rfl,rfl,rfl,rfl,rfl,trivial⟩,aZ,H⟩
  rintro db σ dc ⟨sum,known,k3,ρ,rfl,bu,H⟩
  obtain ⟨cd,ce,dd,hM,bv⟩:=M.e_iterN bu
  simp only [zdp] at hM
  clear bu;refine kg 8 ?_
  obtain ⟨bw,cf,aH⟩:=Work_at0 ak (i:=r0.getD n 0) (by omega) (by omega)
  replace aH:Sl _ bw (w_.getD (Int.toNat (r0.getD n 0)) default).of:=aH
  have dg:=aH.len_le
  refine s_val (x_ld (v:=bw) rfl (ld_sc Sc22 (At.mono (cf) (am.at H)))) ?_
  have dh:=(aH).len_le
  refine kg 3 ?_
  refine W.cond (decide ((k3:Int)<(((w_.getD (Int.toNat (r0.getD n 0)) default).of).length:Int))) rfl (fun aB=>?_) (fun aB=>?_)
  ·replace hM:=M.e_t hM aB
   replace aB:=dI aB
   refine kg 12 ?_
   obtain ⟨bx,cg,bz⟩:=gd_ex (c:=known) fun hg=>Work_at0 ak (i:=r0.getD n 0) (by first | omega | (have aa:=hg; simp at aa; omega)) (by first | omega | (have aa:=hg; simp at aa; omega))
   replace bz:known=true->Sl _ bx (w_.getD (Int.toNat (r0.getD n 0)) default).of:=bz
   refine g_val known (gy_t rfl) (fun hg=>x_ld (v:=bx) (gd_of hg (fat (vat ai 3 (Int.toNat (r0.getD n 0))) 0)) (ld_sc Sc22 (At.mono (cg hg) (am.at H)))) ?_;obtain ⟨a0,hM⟩:=M.e_grd hM
   replace a0:=M.imp_of a0
   simp only [Bool.and_eq_true,decide_eq_true_eq] at a0
   obtain ⟨a4,hM⟩:=M.e_grd hM
   replace a4:=M.imp_of a4
   simp only [Bool.and_eq_true,decide_eq_true_eq] at a4
   refine kg 6 ?_;refine s_val (x_pand (b:=known) (r:=(l2.getD (Int.toNat (((w_.getD (Int.toNat (r0.getD n 0)) default).of).getD k3 0)) 0) != (-1)) rfl (fun hb=>gd_of (c:=known) (by first | exact hb | (rw [hb]; rfl) | simp_all) (B ((l2.getD (Int.toNat (((w_.getD (Int.toNat (r0.getD n 0)) default).of).getD k3 0)) 0) != (-1)))) rfl) ?_;refine kg 11 ?_
   obtain ⟨bA,ch,a5⟩:=Work_at0 ak (i:=r0.getD n 0) (by omega) (by omega)
   replace a5:Sl _ bA (w_.getD (Int.toNat (r0.getD n 0)) default).of:=a5
   have di:=a5.len_le
   refine s_val (x_ld (v:=bA) rfl (ld_sc Sc22 (At.mono (ch) (am.at H)))) ?_;obtain ⟨dj,hM⟩:=M.e_gd hM;obtain ⟨dk,hM⟩:=M.e_gd hM;obtain ⟨dl,hM⟩:=M.e_gd hM;obtain ⟨dm,hM⟩:=M.e_gd hM;refine kg 14 ?_
   exact ⟨cd,ce,sum+(((k3:Int)+1)*(l2.getD (Int.toNat (((w_.getD (Int.toNat (r0.getD n 0)) default).of).getD k3 0)) 0)),(known&&((l2.getD (Int.toNat (((w_.getD (Int.toNat (r0.getD n 0)) default).of).getD k3 0)) 0) != (-1))),k3+1,_,upds_of _ _ ⟨rfl,rfl,rfl,rfl,rfl,rfl,rfl,rfl,rfl,trivial⟩,M.e_inl hM bv,H⟩
  replace hM:=M.e_f hM aB
  replace aB:=dI aB
  refine W.exit ?_
  have ci:=M.e_inr hM bv
  subst ci;replace hM:=cc;(try dsimp only at hM);refine kg 4 ?_
  refine W.cond known rfl (fun a6=>?_) (fun a6=>?_)
  ·replace hM:=M.e_t hM a6;obtain ⟨dp,hM⟩:=M.e_gd hM;refine kg 4 ?_;refine s_val (x_rem' (a:=sum) (b:=1000003) rfl rfl (by omega)) ?_;obtain ⟨dq,hM⟩:=M.e_gd hM;refine kg 1 ?_;refine t_ost (k:=0) (i:=r0.getD n 0) (l:=l2) (l':=l2.set (Int.toNat (r0.getD n 0)) (sum % 1000003:Int)) (val:=I (sum % 1000003)) (L':=[cOwn (α:=Int) 3 aj (l2.set (Int.toNat (r0.getD n 0)) (sum % 1000003:Int)),cOwn (α:=Int) 3 ac r0]) H rfl Sz3 (by omega) (by omega) (sum % 1000003:Int) rfl rfl rfl rfl rfl ?_;intro dr H;refine kg 6 ?_
   exact ⟨aU,aV,l2.set (Int.toNat (r0.getD n 0)) (sum % 1000003:Int),n+1,aj,_,upds_of _ _ ⟨rfl,rfl,rfl,rfl,rfl,trivial⟩,M.e_inl hM aF,H⟩
  replace hM:=M.e_f hM a6;refine kg 6 ?_
  exact ⟨aU,aV,l2,n+1,aj,_,upds_of _ _ ⟨rfl,rfl,rfl,rfl,rfl,trivial⟩,M.e_inl hM aF,H⟩
 replace hM:=M.e_f hM ay
 replace ay:=dI ay
 refine W.exit ?_
 have cj:=M.e_inr hM aF
 subst cj;replace hM:=b6;(try dsimp only at hM);refine kg 6 ?_;refine W.ret ?_
 have ah:=M.e_pure hM
 exact ⟨_,resE_tmp2 rfl,⟨l5,0,aD,ah,rfl,(H.pk [0])⟩⟩

def za8 (w_:List Work) (published:List Pub):Nat->M (Nat ⊕ (Unit ⊕ Unit)):=fun i =>
  bif decide ((i:Int)<(published.length:Int)) then (
  M.grd (decide ((i:Int)<(published.length:Int))) <|
  M.bind (zao ((published.getD i default).work) 0 ((w_.length:Int)-1)) fun r2 =>
  bif r2 then (
  M.pure (.inr (.inl ())))
  else (
  M.pure (.inl (i+1))))
  else (
  M.pure (.inr (.inr ())))
def za9 (published:List Pub) (r0:List Int):(Nat × (List Int))->M ((Nat × (List Int)) ⊕ ((List Int) × (List Int))):=fun (i2,l2) =>
  bif decide ((i2:Int)<(published.length:Int)) then (
  M.grd (decide ((i2:Int)<(published.length:Int))) <|
  M.grd (decide ((0:Int)<=((published.getD i2 default).work))&&decide (((published.getD i2 default).work)<(r0.length:Int))) <|
  bif (((r0.getD (Int.toNat ((published.getD i2 default).work)) 0)==(-1))||((r0.getD (Int.toNat ((published.getD i2 default).work)) 0) != ((published.getD i2 default).value))) then (
  M.grd (decide ((l2.length+([(i2:Int)]).length)*8<=140737488355328)) <|
  M.pure (.inl (i2+1,l2++([(i2:Int)]))))
  else (
  M.pure (.inl (i2+1,l2))))
  else (
  M.pure (.inr (l2,l2)))
def zaz (w_:List Work) (l:List Note) (published:List Pub):M ((List Int) × Int) :=
  M.bind (zax w_ l) fun (r0,r1) =>
  bif r1 != 0 then (
  M.pure (([]),r1))
  else (
  bif decide (200<(published.length:Int)) then (
  M.pure (([]),3))
  else (
  M.bind (M.iter (za8 w_ published) 0) fun x_=>match x_ with
  | (.inl (_:Unit))=>(
  M.pure (([]),2))
  | (.inr (_:Unit))=>(
  M.bind (M.iter (za9 published r0) (0,[])) fun (l3,l4) =>
  M.pure (l4,0))))
theorem zfG {R:List Chunk} {aA:Cells} {al:Value} {aB:Cells} {ao:Value} {aC:Cells} {ai:Value} (w_:List Work) (l:List Note) (published:List Pub) (aJ:Reads R aA) (aD:Sl aA al w_) (aK:Reads R aB) (aL:Sl aB ao l) (ap:Reads R aC) (ah:Sl aC ai published) {r:((List Int) × Int)} (hM:(zaz w_ l published).Ends r) (w:World) (H:St w w [] R):Ret Tryz.prog 32 #[al,ao,ai] w fun v w'=>∃ (y0:List Int) (y1:Int) (u0:Value),(y0,y1)=r/\v = .tuple #[u0,I y1]/\St w w' [cOwn (α:=Int) 3 u0 y0] R:=by
 refine ret_of_W Tryz.func32 rfl rfl rfl ?_;refine kg 9 ?_;obtain ⟨aZ,aM,hM⟩:=M.e_bind hM;refine s_call cf29 [al,ao] rfl (zfe w_ l (aJ.app _) aD (aK.app _) aL aM _ (H.gt 0)) ?_
 rintro vq a0 ⟨r0,r1,am,rfl,hvq,aj⟩
 subst vq;(try dsimp only at hM);replace H:=H.bk aj;clear aj;refine kg 12 ?_
 refine W.cond (r1 != 0) rfl (fun aa=>?_) (fun aa=>?_)
 ·replace hM:=M.e_t hM aa
  replace aa:=dI aa
  refine kg 6 ?_;refine W.ret ?_
  have ab:=M.e_pure hM
  replace H:=H.nilOwn (α:=Int) 3
  exact ⟨_,resE_tmp2 rfl,⟨([]),r1,(.slice none 0 0),ab,rfl,(H.pk [0])⟩⟩
 replace hM:=M.e_f hM aa
 replace aa:=dI aa
 have a4:=(ah).len_le
 refine kg 8 ?_
 refine W.cond (decide (200<(published.length:Int))) rfl (fun ac=>?_) (fun ac=>?_)
 ·replace hM:=M.e_t hM ac
  replace ac:=dI ac
  refine kg 5 ?_;refine W.ret ?_
  have ab:=M.e_pure hM
  replace H:=H.nilOwn (α:=Int) 3
  exact ⟨_,resE_tmp2 rfl,⟨([]),3,(.slice none 0 0),ab,rfl,(H.pk [0])⟩⟩
 replace hM:=M.e_f hM ac
 replace ac:=dI ac
 refine kg 7 ?_;obtain ⟨aN,aq,aE⟩:=M.e_bind hM
 obtain ⟨aO,aq⟩:=M.e_iter aq
 refine W.loop (fun m σ W=>∃ (i:Nat) (ρ:Env),σ=upds ρ [(0,al),(2,ai),(8,am),(10,I (i:Int))]/\M.iterN (za8 w_ published) m i=some aN/\St w W [cOwn (α:=Int) 3 am r0] R) ?_ ?_
 ·exact ⟨_,0,_,upds_of _ _ ⟨rfl,rfl,rfl,rfl,trivial⟩,aq,H⟩
 rintro a5 σ a6 ⟨i,ρ,rfl,aF,H⟩
 obtain ⟨aP,aQ,a7,hM,au⟩:=M.e_iterN aF
 simp only [za8] at hM
 clear aF
 have a8:=(ah).len_le
 refine kg 8 ?_
 refine W.cond (decide ((i:Int)<(published.length:Int))) rfl (fun ae=>?_) (fun ae=>?_)
 ·replace hM:=M.e_t hM ae
  replace ae:=dI ae
  obtain ⟨a9,hM⟩:=M.e_gd hM;refine kg 9 ?_;refine s_val (x_ld (v:=I ((published.getD i default).work)) rfl (ld_sc Sc3 (At.mono (Pub_at0 ah (i:=(i:Int)) (by omega) (by omega)) (ap.at H)))) ?_
  have ba:=(aD).len_le
  refine kg 3 ?_;obtain ⟨bb,aR,hM⟩:=M.e_bind hM;refine s_call cf68 [I ((published.getD i default).work),I 0,I ((w_.length:Int)-1)] rfl (zas ((published.getD i default).work) 0 ((w_.length:Int)-1) aR _ (H.gt 1)) ?_
  rintro vq bc ⟨r2,rfl,hvq,aj⟩
  subst vq;(try dsimp only at hM);replace H:=H.bk aj;clear aj;refine s_nil ?_
  refine W.cond r2 rfl (fun av=>?_) (fun av=>?_)
  ·replace hM:=M.e_t hM av;refine kg 5 ?_;refine W.ret ?_
   have aS:=M.e_inr hM au
   subst aS;replace hM:=aE;(try dsimp only at hM)
   have ab:=M.e_pure hM
   replace H:=H.nilOwn (α:=Int) 3
   exact ⟨_,resE_tmp2 rfl,⟨([]),2,(.slice none 0 0),ab,rfl,(H.pk [0])⟩⟩
  replace hM:=M.e_f hM av;refine kg 6 ?_
  exact ⟨aP,aQ,i+1,_,upds_of _ _ ⟨rfl,rfl,rfl,rfl,trivial⟩,M.e_inl hM au,H⟩
 replace hM:=M.e_f hM ae
 replace ae:=dI ae
 refine W.exit ?_
 have aT:=M.e_inr hM au
 subst aT;replace hM:=aE;(try dsimp only at hM);refine kg 10 ?_
 replace H:=H.nilOwn (α:=Int) 3
 obtain ⟨aU,aw,aV⟩:=M.e_bind hM
 obtain ⟨aO,aw⟩:=M.e_iter aw
 refine W.loop (fun m σ W=>∃ (i2:Nat) (l2:List Int) (ak:Value) (ρ:Env),σ=upds ρ [(2,ai),(8,am),(11,ak),(12,I (i2:Int))]/\M.iterN (za9 published r0) m (i2,l2)=some aU/\St w W [cOwn (α:=Int) 3 ak l2,cOwn (α:=Int) 3 am r0] R) ?_ ?_
 ·exact ⟨_,0,[],(.slice none 0 0),_,upds_of _ _ ⟨rfl,rfl,rfl,rfl,trivial⟩,aw,H⟩
 rintro bf σ bg ⟨i2,l2,ak,ρ,rfl,aG,H⟩
 obtain ⟨aH,aI,bh,hM,ax⟩:=M.e_iterN aG
 simp only [za9] at hM
 clear aG
 have bi:=(ah).len_le
 refine kg 8 ?_
 refine W.cond (decide ((i2:Int)<(published.length:Int))) rfl (fun ag=>?_) (fun ag=>?_)
 ·replace hM:=M.e_t hM ag
  replace ag:=dI ag
  obtain ⟨bj,hM⟩:=M.e_gd hM;refine kg 10 ?_;refine s_val (x_ld (v:=I ((published.getD i2 default).work)) rfl (ld_sc Sc3 (At.mono (Pub_at0 ah (i:=(i2:Int)) (by omega) (by omega)) (ap.at H)))) ?_;obtain ⟨bm,hM⟩:=M.e_gd hM;refine kg 14 ?_;refine g_val (!((r0.getD (Int.toNat ((published.getD i2 default).work)) 0)==(-1))) (gy_f rfl) (fun hg=>x_ld (v:=I ((published.getD i2 default).value)) (gd_of hg (fat (vat ai 2 (Int.toNat (i2:Int))) 1)) (ld_sc Sc3 (At.mono (Pub_at1 ah (i:=(i2:Int)) (by first | omega | (have ay:=hg; simp at ay; omega)) (by first | omega | (have ay:=hg; simp at ay; omega))) (ap.at H)))) ?_;refine kg 1 ?_;refine s_val (x_por (b:=(r0.getD (Int.toNat ((published.getD i2 default).work)) 0)==(-1)) (r:=(r0.getD (Int.toNat ((published.getD i2 default).work)) 0) != ((published.getD i2 default).value)) rfl rfl (fun hb=>gd_of (c:=!((r0.getD (Int.toNat ((published.getD i2 default).work)) 0)==(-1))) (by first | exact hb | (rw [hb]; rfl) | simp_all) (B ((r0.getD (Int.toNat ((published.getD i2 default).work)) 0) != ((published.getD i2 default).value)))))<|s_nil ?_
  refine W.cond (((r0.getD (Int.toNat ((published.getD i2 default).work)) 0)==(-1))||((r0.getD (Int.toNat ((published.getD i2 default).work)) 0) != ((published.getD i2 default).value))) rfl (fun az=>?_) (fun az=>?_)
  ·replace hM:=M.e_t hM az;refine kg 3 ?_;refine t_bs (α:=Int) T22 [I (i2:Int)] [(i2:Int)] H rfl (.cons rfl (Flat.rep_enc _ (i2:Int))<|.nil) rfl rfl rfl ?_;intro aW bn H;obtain ⟨bo,hM⟩:=M.e_gd hM;refine t_app (α:=Int) (k:=1) (l:=l2) (l2:=[(i2:Int)]) (l':=l2++([(i2:Int)])) (vy:=aW) T22 rfl H rfl rfl rfl (H.os 0) (H.ol 0) (rfl) (by first | omega | (simp only [List.length_nil] at *; omega)) ?_;intro aX bp H;replace H:=H.nf;refine kg 7 ?_
   exact ⟨aH,aI,i2+1,l2++([(i2:Int)]),aX,_,upds_of _ _ ⟨rfl,rfl,rfl,rfl,trivial⟩,M.e_inl hM ax,(H.pk [1,2])⟩
  replace hM:=M.e_f hM az;refine kg 6 ?_
  exact ⟨aH,aI,i2+1,l2,ak,_,upds_of _ _ ⟨rfl,rfl,rfl,rfl,trivial⟩,M.e_inl hM ax,H⟩
 replace hM:=M.e_f hM ag
 replace ag:=dI ag
 refine W.exit ?_
 have aY:=M.e_inr hM ax
 subst aY;replace hM:=aV;(try dsimp only at hM);refine kg 6 ?_;refine W.ret ?_
 have ab:=M.e_pure hM
 exact ⟨_,resE_tmp2 rfl,⟨l2,0,ak,ab,rfl,(H.pk [0])⟩⟩

def zaQ (a b:List Note):Nat->M (Nat ⊕ (Unit ⊕ Unit)):=fun i =>
  bif decide ((i:Int)<(a.length:Int)) then (
  M.grd (decide ((i:Int)<(a.length:Int))) <|
  M.grd (decide ((i:Int)<(b.length:Int))) <|
  bif !(decide ((a.getD i default)=(b.getD i default))) then (
  M.pure (.inr (.inl ())))
  else (
  M.pure (.inl (i+1))))
  else (
  M.pure (.inr (.inr ())))
def zbA (a b:List Note):M Bool :=
  bif (a.length:Int) != (b.length:Int) then (
  M.pure false)
  else (
  M.bind (M.iter (zaQ a b) 0) fun x_=>match x_ with
  | (.inl (_:Unit))=>(
  M.pure false)
  | (.inr (_:Unit))=>(
  M.pure true))
theorem zf5 {R:List Chunk} {al:Cells} {ae:Value} {am:Cells} {ag:Value} (a:List Note) (b:List Note) (av:Reads R al) (ah:Sl al ae a) (aw:Reads R am) (ao:Sl am ag b) {r:Bool} (hM:(zbA a b).Ends r) (w:World) (H:St w w [] R):Ret Tryz.prog 33 #[ae,ag] w fun v w'=>∃ (y0:Bool),y0=r/\v=B y0/\St w w' [] R:=by
 refine ret_of_W Tryz.func33 rfl rfl rfl ?_
 have aC:=(ah).len_le
 have aD:=(ao).len_le
 refine kg 13 ?_
 refine W.cond ((a.length:Int) != (b.length:Int)) rfl (fun aa=>?_) (fun aa=>?_)
 ·replace hM:=M.e_t hM aa
  replace aa:=dI aa
  refine kg 4 ?_;refine W.ret ?_
  have ac:=M.e_pure hM
  exact ⟨_,resE_tmp rfl,⟨false,ac,rfl,H⟩⟩
 replace hM:=M.e_f hM aa
 replace aa:=dI aa
 refine kg 7 ?_;obtain ⟨ax,ai,ap⟩:=M.e_bind hM
 obtain ⟨aE,ai⟩:=M.e_iter ai
 refine W.loop (fun m σ W=>∃ (i:Nat) (ρ:Env),σ=upds ρ [(0,ae),(1,ag),(5,I (i:Int))]/\M.iterN (zaQ a b) m i=some ax/\St w W [] R) ?_ ?_
 ·exact ⟨_,0,_,upds_of _ _ ⟨rfl,rfl,rfl,trivial⟩,ai,H⟩
 rintro aF σ aG ⟨i,ρ,rfl,aq,H⟩
 obtain ⟨ay,az,aH,hM,aj⟩:=M.e_iterN aq
 simp only [zaQ] at hM
 clear aq
 have aI:=(ah).len_le
 refine kg 8 ?_
 refine W.cond (decide ((i:Int)<(a.length:Int))) rfl (fun ab=>?_) (fun ab=>?_)
 ·replace hM:=M.e_t hM ab
  replace ab:=dI ab
  refine kg 4 ?_;refine W.draw (fun W=>St w W [] R) [(0,true),(1,true),(2,true),(3,true),(4,true),(5,true),(6,true),(7,true),(8,true)] mixed (by decide +kernel) rfl ?_;intro aJ au;replace H:=H.ext au;clear au
  refine ⟨(H.pk []),?_⟩
  obtain ⟨aK,hM⟩:=M.e_gd hM;refine kg 3 ?_;refine d_q rfl (fun w' H=>x_ld (v:=.agg #[I ((a.getD i default).work),I ((a.getD i default).version),I ((a.getD i default).value)]) rfl (ld_ag Ag26 Sz26 (At.mono (Note_atA ah (i:=(i:Int)) (by omega) (by omega)) (av.at H)))) ?_;obtain ⟨aL,hM⟩:=M.e_gd hM;refine kg 3 ?_;refine d_q rfl (fun w' H=>x_ld (v:=.agg #[I ((b.getD i default).work),I ((b.getD i default).version),I ((b.getD i default).value)]) rfl (ld_ag Ag26 Sz26 (At.mono (Note_atA ao (i:=(i:Int)) (by omega) (by omega)) (aw.at H))))<|d_q rfl (fun w' H=>x_neS (eqN (a.getD i default) (b.getD i default) _) gdN rfl rfl) ?_;refine d_nil ?_
  refine W.cond (!(decide ((a.getD i default)=(b.getD i default)))) rfl (fun ak=>?_) (fun ak=>?_)
  ·replace hM:=M.e_t hM ak;refine kg 4 ?_;refine W.ret ?_
   have aA:=M.e_inr hM aj
   subst aA;replace hM:=ap;(try dsimp only at hM)
   have ac:=M.e_pure hM
   exact ⟨_,resE_tmp rfl,⟨false,ac,rfl,H⟩⟩
  replace hM:=M.e_f hM ak;refine kg 6 ?_
  exact ⟨ay,az,i+1,_,upds_of _ _ ⟨rfl,rfl,rfl,trivial⟩,M.e_inl hM aj,H⟩
 replace hM:=M.e_f hM ab
 replace ab:=dI ab
 refine W.exit ?_
 have aB:=M.e_inr hM aj
 subst aB;replace hM:=ap;(try dsimp only at hM);refine kg 4 ?_;refine W.ret ?_
 have ac:=M.e_pure hM
 exact ⟨_,resE_tmp rfl,⟨true,ac,rfl,H⟩⟩

def zaW (a b:List Pub):Nat->M (Nat ⊕ (Unit ⊕ Unit)):=fun i =>
  bif decide ((i:Int)<(a.length:Int)) then (
  M.grd (decide ((i:Int)<(a.length:Int))) <|
  M.grd (decide ((i:Int)<(b.length:Int))) <|
  bif !(decide ((a.getD i default)=(b.getD i default))) then (
  M.pure (.inr (.inl ())))
  else (
  M.pure (.inl (i+1))))
  else (
  M.pure (.inr (.inr ())))
def zbQ (a b:List Pub):M Bool :=
  bif (a.length:Int) != (b.length:Int) then (
  M.pure false)
  else (
  M.bind (M.iter (zaW a b) 0) fun x_=>match x_ with
  | (.inl (_:Unit))=>(
  M.pure false)
  | (.inr (_:Unit))=>(
  M.pure true))
theorem zfw {R:List Chunk} {al:Cells} {ae:Value} {am:Cells} {ag:Value} (a:List Pub) (b:List Pub) (av:Reads R al) (ah:Sl al ae a) (aw:Reads R am) (ao:Sl am ag b) {r:Bool} (hM:(zbQ a b).Ends r) (w:World) (H:St w w [] R):Ret Tryz.prog 34 #[ae,ag] w fun v w'=>∃ (y0:Bool),y0=r/\v=B y0/\St w w' [] R:=by
 refine ret_of_W Tryz.func34 rfl rfl rfl ?_
 have aC:=(ah).len_le
 have aD:=(ao).len_le
 refine kg 13 ?_
 refine W.cond ((a.length:Int) != (b.length:Int)) rfl (fun aa=>?_) (fun aa=>?_)
 ·replace hM:=M.e_t hM aa
  replace aa:=dI aa
  refine kg 4 ?_;refine W.ret ?_
  have ac:=M.e_pure hM
  exact ⟨_,resE_tmp rfl,⟨false,ac,rfl,H⟩⟩
 replace hM:=M.e_f hM aa
 replace aa:=dI aa
 refine kg 7 ?_;obtain ⟨ax,ai,ap⟩:=M.e_bind hM
 obtain ⟨aE,ai⟩:=M.e_iter ai
 refine W.loop (fun m σ W=>∃ (i:Nat) (ρ:Env),σ=upds ρ [(0,ae),(1,ag),(5,I (i:Int))]/\M.iterN (zaW a b) m i=some ax/\St w W [] R) ?_ ?_
 ·exact ⟨_,0,_,upds_of _ _ ⟨rfl,rfl,rfl,trivial⟩,ai,H⟩
 rintro aF σ aG ⟨i,ρ,rfl,aq,H⟩
 obtain ⟨ay,az,aH,hM,aj⟩:=M.e_iterN aq
 simp only [zaW] at hM
 clear aq
 have aI:=(ah).len_le
 refine kg 8 ?_
 refine W.cond (decide ((i:Int)<(a.length:Int))) rfl (fun ab=>?_) (fun ab=>?_)
 ·replace hM:=M.e_t hM ab
  replace ab:=dI ab
  refine kg 4 ?_;refine W.draw (fun W=>St w W [] R) [(0,true),(1,true),(2,true),(3,true),(4,true),(5,true),(6,true),(7,true),(8,true)] mixed (by decide +kernel) rfl ?_;intro aJ au;replace H:=H.ext au;clear au
  refine ⟨(H.pk []),?_⟩
  obtain ⟨aK,hM⟩:=M.e_gd hM;refine kg 3 ?_;refine d_q rfl (fun w' H=>x_ld (v:=.agg #[I ((a.getD i default).work),I ((a.getD i default).value)]) rfl (ld_ag Ag29 Sz29 (At.mono (Pub_atA ah (i:=(i:Int)) (by omega) (by omega)) (av.at H)))) ?_;obtain ⟨aL,hM⟩:=M.e_gd hM;refine kg 3 ?_;refine d_q rfl (fun w' H=>x_ld (v:=.agg #[I ((b.getD i default).work),I ((b.getD i default).value)]) rfl (ld_ag Ag29 Sz29 (At.mono (Pub_atA ao (i:=(i:Int)) (by omega) (by omega)) (aw.at H))))<|d_q rfl (fun w' H=>x_neS (eqPb (a.getD i default) (b.getD i default) _) gdP rfl rfl) ?_;refine d_nil ?_
  refine W.cond (!(decide ((a.getD i default)=(b.getD i default)))) rfl (fun ak=>?_) (fun ak=>?_)
  ·replace hM:=M.e_t hM ak;refine kg 4 ?_;refine W.ret ?_
   have aA:=M.e_inr hM aj
   subst aA;replace hM:=ap;(try dsimp only at hM)
   have ac:=M.e_pure hM
   exact ⟨_,resE_tmp rfl,⟨false,ac,rfl,H⟩⟩
  replace hM:=M.e_f hM ak;refine kg 6 ?_
  exact ⟨ay,az,i+1,_,upds_of _ _ ⟨rfl,rfl,rfl,trivial⟩,M.e_inl hM aj,H⟩
 replace hM:=M.e_f hM ab
 replace ab:=dI ab
 refine W.exit ?_
 have aB:=M.e_inr hM aj
 subst aB;replace hM:=ap;(try dsimp only at hM);refine kg 4 ?_;refine W.ret ?_
 have ac:=M.e_pure hM
 exact ⟨_,resE_tmp rfl,⟨true,ac,rfl,H⟩⟩

def zaM (p:List Pub):(Nat × (List Pub))->M ((Nat × (List Pub)) ⊕ ((List Pub) × (List Pub))):=fun (s,l2) =>
  bif decide ((s:Int)<(p.length:Int)) then (
  M.grd (decide ((s:Int)<(p.length:Int))) <|
  M.grd (decide ((l2.length+([(p.getD s default)]).length)*16<=140737488355328)) <|
  M.pure (.inl (s+1,l2++([(p.getD s default)]))))
  else (
  M.pure (.inr (l2,l2)))
def zai (w_:List Work) (l:List Note) (p:List Pub):M Bool :=
  M.bind (za2 w_ ([]:List (List Int))) fun r2 =>
  bif (((!r2)||(decide (210<(l.length:Int))))||(decide (210<(p.length:Int)))) then (
  M.bind (zam) fun r3 =>
  M.pure r3)
  else (
  M.bind (zbf w_) fun r4 =>
  M.bind (zbE l) fun r5 =>
  M.bind (zbV p) fun r6 =>
  M.bind (zaw r4 r5) fun (r0,r1) =>
  M.bind (zag w_) fun r7 =>
  M.bind (zaJ l) fun r8 =>
  M.bind (zax r7 r8) fun (ai,aj) =>
  M.bind (zab r0 ai) fun r9 =>
  bif ((!r9)||(r1 != aj)) then (
  M.pure false)
  else (
  M.bind (M.iter (zaM p) (0,[])) fun (l3,l4) =>
  M.bind (zav r4 r5 r6) fun (ak,aa) =>
  M.bind (zag w_) fun al =>
  M.bind (zaJ l) fun am =>
  M.bind (zaz al am l4) fun (ao,ab) =>
  M.bind (zab ak ao) fun ac =>
  M.bind (M.opt (ac&&(aa==ab)) (zaI r4 w_) false) fun ae =>
  M.bind (M.opt ((ac&&(aa==ab))&&ae) (zbA r5 l) false) fun ag =>
  M.bind (M.opt (((ac&&(aa==ab))&&ae)&&ag) (zbQ r6 p) false) fun ah =>
  M.bind (M.opt ((((ac&&(aa==ab))&&ae)&&ag)&&ah) (zam) false) fun ap =>
  M.pure (((((ac&&(aa==ab))&&ae)&&ag)&&ah)&&ap)))
theorem zau {R:List Chunk} {aJ:Cells} {ak:Value} {aK:Cells} {am:Value} {aL:Cells} {al:Value} (w_:List Work) (l:List Note) (p:List Pub) (ai:Reads R aJ) (ax:Sl aJ ak w_) (aA:Reads R aK) (ay:Sl aK am l) (aD:Reads R aL) (au:Sl aL al p) {r:Bool} (hM:(zai w_ l p).Ends r) (w:World) (H:St w w [] R):Ret Tryz.prog 6 #[ak,am,al] w fun v w'=>∃ (y0:Bool),y0=r/\v=B y0/\St w w' [] R:=by
 refine ret_of_W Tryz.func6 rfl rfl rfl ?_;refine kg 8 ?_;obtain ⟨bF,aO,hM⟩:=M.e_bind hM;refine s_call cf11 [ak,.slice none 0 0] rfl (zbG w_ ([]:List (List Int)) (ai.app _) ax Reads.none (Sl.nil (fun _=>none)) aO _ (H.gt 0)) ?_
 rintro vq bG ⟨r2,rfl,hvq,aa⟩
 subst vq;(try dsimp only at hM);replace H:=H.bk aa;clear aa
 have bH:=(ay).len_le
 refine kg 5 ?_;refine s_val (x_por (b:=!r2) (r:=decide (210<(l.length:Int))) rfl rfl (fun hb=>gd_of (c:=!(!r2)) (by first | exact hb | (rw [hb]; rfl) | simp_all) (B (decide (210<(l.length:Int))))))<|zM (B ((!r2)||(decide (210<(l.length:Int))))) rfl<|g_val (!((!r2)||(decide (210<(l.length:Int))))) (gy_f rfl) (fun hg=>x_mv (v:=al) rfl) ?_
 have bI:=(au).len_le
 refine g_val (!((!r2)||(decide (210<(l.length:Int))))) (gy_f rfl) (fun hg=>x_lenS T30.und (gd_of hg (al)) au)<|g_val (!((!r2)||(decide (210<(l.length:Int))))) (gy_f rfl) (fun hg=>x_cmp (kd:=.i64) (r:=decide (210<(p.length:Int))) (gd_of hg (I (p.length:Int))) rfl rfl)<|s_val (x_por (b:=((!r2)||(decide (210<(l.length:Int))))) (r:=decide (210<(p.length:Int))) rfl rfl (fun hb=>gd_of (c:=!((!r2)||(decide (210<(l.length:Int))))) (by first | exact hb | (rw [hb]; rfl) | simp_all) (B (decide (210<(p.length:Int))))))<|s_nil ?_
 refine W.cond (((!r2)||(decide (210<(l.length:Int))))||(decide (210<(p.length:Int)))) rfl (fun aE=>?_) (fun aE=>?_)
 ·replace hM:=M.e_t hM aE;refine kg 2 ?_;obtain ⟨bJ,aP,hM⟩:=M.e_bind hM;refine s_call cf10 [] rfl (zar aP _ (H.gt 0)) ?_
  rintro vq bK ⟨r3,rfl,hvq,aa⟩
  subst vq;(try dsimp only at hM);replace H:=H.bk aa;clear aa;refine kg 2 ?_;refine W.ret ?_
  have ag:=M.e_pure hM
  exact ⟨_,resE_tmp rfl,⟨r3,ag,rfl,H⟩⟩
 replace hM:=M.e_f hM aE;refine kg 4 ?_;obtain ⟨bL,aQ,hM⟩:=M.e_bind hM;refine s_call cf12 [ak] rfl (zbD w_ (ai.app _) ax aQ _ (H.gt 0)) ?_
 rintro vq bM ⟨r4,av,aR,aS,rfl,hvq,aa,aF⟩
 subst vq;(try dsimp only at hM);replace H:=H.bk aa;clear aa;refine kg 1 ?_;obtain ⟨bN,aT,hM⟩:=M.e_bind hM;refine s_call cf26 [am] rfl (zfY l (aA.app _) ay aT _ (H.gt 2)) ?_
 rintro vq bO ⟨r5,aw,rfl,hvq,aa⟩
 subst vq;(try dsimp only at hM);replace H:=H.bk aa;clear aa;refine kg 1 ?_;obtain ⟨bP,aU,hM⟩:=M.e_bind hM;refine s_call cf27 [al] rfl (zfO p (aD.app _) au aU _ (H.gt 3)) ?_
 rintro vq bQ ⟨r6,az,rfl,hvq,aa⟩
 subst vq;(try dsimp only at hM);replace H:=H.bk aa;clear aa;refine kg 8 ?_;obtain ⟨bR,aV,hM⟩:=M.e_bind hM;refine s_call cf28 [av,aw] rfl (zcm r4 r5 (Reads.sup (rdo 2) (Reads.sup (ai.app _) (Reads.of (k:=3) rfl roLe))) (rowSl rfl (H.get (k:=2) rfl) (Cells.sup_le (ai.at H) (roLe _ (H.get (k:=3) rfl))) aF) (rdo 1) (H.os 1) aV _ (H.gt 4)) ?_
 rintro vq bS ⟨r0,r1,aW,rfl,hvq,aa⟩
 subst vq;(try dsimp only at hM);replace H:=H.bk aa;clear aa;refine kg 9 ?_;obtain ⟨bT,aX,hM⟩:=M.e_bind hM;refine s_call cf15 [ak] rfl (zah w_ (ai.app _) ax aX _ (H.gt 5)) ?_
 rintro vq bU ⟨r7,aY,bV,bW,rfl,hvq,aa,aZ⟩
 subst vq;(try dsimp only at hM);replace H:=H.bk aa;clear aa;refine kg 1 ?_;obtain ⟨bX,a0,hM⟩:=M.e_bind hM;refine s_call cf30 [am] rfl (ze8 l (aA.app _) ay a0 _ (H.gt 7)) ?_
 rintro vq bY ⟨r8,a4,rfl,hvq,aa⟩
 subst vq;(try dsimp only at hM);replace H:=H.bk aa;clear aa;obtain ⟨bZ,a5,hM⟩:=M.e_bind hM;refine s_call cf29 [aY,a4] rfl (zfe r7 r8 (Reads.sup (rdo 1) (Reads.of (k:=2) rfl roLe)) (rowSl rfl (H.get (k:=1) rfl) (roLe _ (H.get (k:=2) rfl)) aZ) (rdo 0) (H.os 0) a5 _ (H.gt 8)) ?_
 rintro vq b0 ⟨a6,aG,a7,rfl,hvq,aa⟩
 subst vq;(try dsimp only at hM);replace H:=H.bk aa;clear aa;refine kg 6 ?_;replace H:=H.pk [0,4,5,6,7,8];refine kg 5 ?_;obtain ⟨b4,a8,hM⟩:=M.e_bind hM;refine s_call cf20 [aW,a7] rfl (zac r0 a6 (rdo 1) (H.os 1) (rdo 0) (H.os 0) a8 _ (H.gt 6)) ?_
 rintro vq b5 ⟨r9,rfl,hvq,aa⟩
 subst vq;(try dsimp only at hM);replace H:=H.bk aa;clear aa;refine kg 5 ?_;refine s_val (x_por (b:=!r9) (r:=r1 != aG) rfl rfl (fun hb=>gd_of (c:=!(!r9)) (by first | exact hb | (rw [hb]; rfl) | simp_all) (B (r1 != aG))))<|s_nil ?_;replace H:=H.pk [2,3,4,5]
 refine W.cond ((!r9)||(r1 != aG)) rfl (fun aH=>?_) (fun aH=>?_)
 ·replace hM:=M.e_t hM aH;refine kg 4 ?_;replace H:=H.pk [];refine W.ret ?_
  have ag:=M.e_pure hM
  exact ⟨_,resE_tmp rfl,⟨false,ag,rfl,H⟩⟩
 replace hM:=M.e_f hM aH
 have b6:=(au).len_le
 refine kg 13 ?_
 replace H:=H.nilOwn (α:=Pub) 67
 obtain ⟨a9,aI,ba⟩:=M.e_bind hM
 obtain ⟨b7,aI⟩:=M.e_iter aI
 refine W.loop (fun m σ W=>∃ (s:Nat) (l2:List Pub) (aB:Value) (ρ:Env),σ=upds ρ [(0,ak),(1,am),(2,al),(7,av),(8,aw),(9,az),(14,aB),(60,al),(61,I (p.length:Int)),(62,I (s:Int))]/\M.iterN (zaM p) m (s,l2)=some a9/\St w W [cOwn (α:=Pub) 67 aB l2,cOwn (α:=Pub) 29 az r6,cOwn (α:=Note) 26 aw r5,cOwn (α:=Raw 2) 34 av aR,cRo aS] R) ?_ ?_
 ·exact ⟨_,0,[],(.slice none 0 0),_,upds_of _ _ ⟨rfl,rfl,rfl,rfl,rfl,rfl,rfl,rfl,rfl,rfl,trivial⟩,aI,H⟩
 rintro b8 σ b9 ⟨s,l2,aB,ρ,rfl,aM,H⟩
 obtain ⟨bb,bc,ca,hM,aN⟩:=M.e_iterN aM
 simp only [zaM] at hM
 clear aM;refine kg 5 ?_
 refine W.cond (decide ((s:Int)<(p.length:Int))) rfl (fun ao=>?_) (fun ao=>?_)
 ·replace hM:=M.e_t hM ao
  replace ao:=dI ao
  obtain ⟨cb,hM⟩:=M.e_gd hM;refine kg 6 ?_;refine s_val (x_ld (v:=.agg #[I ((p.getD s default).work),I ((p.getD s default).value)]) rfl (ld_ag Ag29 Sz29 (At.mono (Pub_atA au (i:=(s:Int)) (by omega) (by omega)) (aD.at H)))) ?_;refine t_alloc (cs:=[I 0,I 0]) H Al29 rfl ?_;intro cc cd H;refine t_sw 0 0 [I ((p.getD s default).work),I ((p.getD s default).value)] (.agg #[I ((p.getD s default).work),I ((p.getD s default).value)]) H rfl rfl Sz29 rfl rfl rfl rfl ?_;intro ce H;refine kg 4 ?_;refine t_bs (α:=Pub) T66 [.agg #[I ((p.getD s default).work),I ((p.getD s default).value)]] [(p.getD s default)] H rfl (.cons rfl (Flat.rep_enc _ (p.getD s default))<|.nil) rfl rfl rfl ?_;intro bf cf H;obtain ⟨cg,hM⟩:=M.e_gd hM;refine t_app (α:=Pub) (k:=2) (l:=l2) (l2:=[(p.getD s default)]) (l':=l2++([(p.getD s default)])) (vy:=bf) T66 rfl H rfl rfl rfl (H.os 0) (H.ol 0) (rfl) (by first | omega | (simp only [List.length_nil] at *; omega)) ?_;intro bg ch H;replace H:=H.nf;refine kg 2 ?_;replace H:=H.pk [2,3,4,5,6];refine kg 4 ?_
  exact ⟨bb,bc,s+1,l2++([(p.getD s default)]),bg,_,upds_of _ _ ⟨rfl,rfl,rfl,rfl,rfl,rfl,rfl,rfl,rfl,rfl,trivial⟩,M.e_inl hM aN,H⟩
 replace hM:=M.e_f hM ao
 replace ao:=dI ao
 refine W.exit ?_
 have bh:=M.e_inr hM aN
 subst bh;replace hM:=ba;(try dsimp only at hM);refine kg 5 ?_;obtain ⟨ci,bi,hM⟩:=M.e_bind hM;refine s_call cf31 [av,aw,az] rfl (zeu r4 r5 r6 (Reads.sup (rdo 3) (Reads.sup (ai.app _) (Reads.of (k:=4) rfl roLe))) (rowSl rfl (H.get (k:=3) rfl) (Cells.sup_le (ai.at H) (roLe _ (H.get (k:=4) rfl))) aF) (rdo 2) (H.os 2) (rdo 1) (H.os 1) bi _ (H.gt 5)) ?_
 rintro vq cj ⟨bj,ab,bm,rfl,hvq,aa⟩
 subst vq;(try dsimp only at hM);replace H:=H.bk aa;clear aa;refine kg 9 ?_;obtain ⟨ck,bn,hM⟩:=M.e_bind hM;refine s_call cf15 [ak] rfl (zah w_ (ai.app _) ax bn _ (H.gt 6)) ?_
 rintro vq cl ⟨bo,bp,cm,cn,rfl,hvq,aa,br⟩
 subst vq;(try dsimp only at hM);replace H:=H.bk aa;clear aa;refine kg 1 ?_;obtain ⟨co,bt,hM⟩:=M.e_bind hM;refine s_call cf30 [am] rfl (ze8 l (aA.app _) ay bt _ (H.gt 8)) ?_
 rintro vq cp ⟨bu,bv,rfl,hvq,aa⟩
 subst vq;(try dsimp only at hM);replace H:=H.bk aa;clear aa;refine kg 1 ?_;obtain ⟨cq,bw,hM⟩:=M.e_bind hM;refine s_call cf32 [bp,bv,aB] rfl (zfG bo bu l2 (Reads.sup (rdo 1) (Reads.of (k:=2) rfl roLe)) (rowSl rfl (H.get (k:=1) rfl) (roLe _ (H.get (k:=2) rfl)) br) (rdo 0) (H.os 0) (rdo 4) (H.os 4) bw _ (H.gt 9)) ?_
 rintro vq cr ⟨bx,ac,bz,rfl,hvq,aa⟩
 subst vq;(try dsimp only at hM);replace H:=H.bk aa;clear aa;refine kg 6 ?_;replace H:=H.pk [0,4,6,7,8,9];refine kg 4 ?_;obtain ⟨ct,bA,hM⟩:=M.e_bind hM;refine s_call cf20 [bm,bz] rfl (zac bj bx (rdo 1) (H.os 1) (rdo 0) (H.os 0) bA _ (H.gt 6)) ?_
 rintro vq cu ⟨ae,rfl,hvq,aa⟩
 subst vq;(try dsimp only at hM);replace H:=H.bk aa;clear aa;refine kg 4 ?_;refine s_val (x_pand (b:=ae) (r:=ab==ac) rfl (fun hb=>gd_of (c:=ae) (by first | exact hb | (rw [hb]; rfl) | simp_all) (B (ab==ac))) rfl) ?_;refine kg 3 ?_;obtain ⟨ah,bB,hM⟩:=M.e_bind hM;refine t_gcall (ae&&(ab==ac)) (gy_t rfl) cf25 (B ah) (fun _=>[av,ak]) (fun hg=>lst2 (gd_of hg (av)) (gd_of hg (ak))) H (fun hg=>(zbc r4 w_ (Reads.sup (rdo 4) (Reads.sup (ai.app _) (Reads.of (k:=5) rfl roLe))) (rowSl rfl (H.get (k:=4) rfl) (Cells.sup_le (ai.at H) (roLe _ (H.get (k:=5) rfl))) aF) (ai.app _) ax (M.e_opt bB hg) _ (H.give (A:=[]) rfl)).mono fun v_ w_ ⟨y_,ag,ap,H_⟩=>by subst ag; exact ⟨ap,H.via H_⟩) ?_;intro cv H;refine s_val (x_pand (b:=(ae&&(ab==ac))) (r:=ah) rfl (fun hb=>gd_of (c:=(ae&&(ab==ac))) (by first | exact hb | (rw [hb]; rfl) | simp_all) (B ah)) rfl) ?_;refine kg 3 ?_;obtain ⟨aj,bC,hM⟩:=M.e_bind hM;refine t_gcall ((ae&&(ab==ac))&&ah) (gy_t rfl) cf33 (B aj) (fun _=>[aw,am]) (fun hg=>lst2 (gd_of hg (aw)) (gd_of hg (am))) H (fun hg=>(zf5 r5 l (rdo 3) (H.os 3) (aA.app _) ay (M.e_opt bC hg) _ (H.give (A:=[]) rfl)).mono fun v_ w_ ⟨y_,ag,ap,H_⟩=>by subst ag; exact ⟨ap,H.via H_⟩) ?_;intro cw H;refine s_val (x_pand (b:=((ae&&(ab==ac))&&ah)) (r:=aj) rfl (fun hb=>gd_of (c:=((ae&&(ab==ac))&&ah)) (by first | exact hb | (rw [hb]; rfl) | simp_all) (B aj)) rfl) ?_;refine kg 3 ?_;obtain ⟨aq,bD,hM⟩:=M.e_bind hM;refine t_gcall (((ae&&(ab==ac))&&ah)&&aj) (gy_t rfl) cf34 (B aq) (fun _=>[az,al]) (fun hg=>lst2 (gd_of hg (az)) (gd_of hg (al))) H (fun hg=>(zfw r6 p (rdo 2) (H.os 2) (aD.app _) au (M.e_opt bD hg) _ (H.give (A:=[]) rfl)).mono fun v_ w_ ⟨y_,ag,ap,H_⟩=>by subst ag; exact ⟨ap,H.via H_⟩) ?_;intro cx H;refine s_val (x_pand (b:=(((ae&&(ab==ac))&&ah)&&aj)) (r:=aq) rfl (fun hb=>gd_of (c:=(((ae&&(ab==ac))&&ah)&&aj)) (by first | exact hb | (rw [hb]; rfl) | simp_all) (B aq)) rfl) ?_;refine kg 1 ?_;obtain ⟨aC,bE,hM⟩:=M.e_bind hM;refine t_gcall ((((ae&&(ab==ac))&&ah)&&aj)&&aq) (gy_t rfl) cf10 (B aC) (fun _=>[]) (fun _=>rfl) H (fun hg=>(zar (M.e_opt bE hg) _ (H.give (A:=[]) rfl)).mono fun v_ w_ ⟨y_,ag,ap,H_⟩=>by subst ag; exact ⟨ap,H.via H_⟩) ?_;intro cy H;refine s_val (x_pand (b:=((((ae&&(ab==ac))&&ah)&&aj)&&aq)) (r:=aC) rfl (fun hb=>gd_of (c:=((((ae&&(ab==ac))&&ah)&&aj)&&aq)) (by first | exact hb | (rw [hb]; rfl) | simp_all) (B aC)) rfl) ?_;refine kg 2 ?_;replace H:=H.pk [];refine W.ret ?_
 have ag:=M.e_pure hM
 exact ⟨_,resE_tmp rfl,⟨(((((ae&&(ab==ac))&&ah)&&aj)&&aq)&&aC),ag,rfl,H⟩⟩

end Go.Proofs.YtkclldpnmolljaaGreat
end
namespace Go.Nm
open Go
theorem sl_lohi {α:Type} [Elt α] {P:Program} {t e:TypeId} (hu:P.underlying t=some (.slice e)) (hs:(P.info? e).map (·.size)=some (Elt.sz α)) {C:Cells} {v:Value} {l:List α} (h:Sl C v l) {i j:Int} (h0:0<=i) (h1:i<=j) (h2:j<=l.length) :
    ∃ u,(∀ w,(Instr.sliceAt t v (some (.int .i64 i)) (some (.int .i64 j)) none).run P w = .ok u w)/\Sl C u ((l.take j.toNat).drop i.toNat):=by
  obtain ⟨a,c,hv,hc,hm,hh⟩:=h.ex
  have hlen:((l.take j.toNat).drop i.toNat).length=j.toNat-i.toNat:=by simp; omega
  refine ⟨.slice (if c=i.toNat then a else a.map (·.add (i.toNat*Elt.sz α))) (j.toNat-i.toNat) (c-i.toNat),fun w=>?_,⟨_,c-i.toNat,by rw [hlen],by omega,by omega,fun k x hx=>?_⟩⟩
  · subst hv
    have hjc:j<=(c:Int):=by omega
    simp [Instr.sliceAt,Instr.slice,Instr.sliceBounds,Instr.sliceBound,asIntOf,run_underlying hu,run_sizeOf hs,h0,hjc]
    rw [if_pos (by omega),if_pos (by omega)]
  · rw [List.getElem?_drop,List.getElem?_take] at hx
    split at hx
    · have hlt:=(List.getElem?_eq_some_iff.1 hx).1
      obtain ⟨b,o,cs,ha,hr,hy⟩:=hh _ x hx
      refine ⟨b,o+i.toNat*Elt.sz α,cs,?_,hr,fun j y hj=>?_⟩
      · rw [if_neg (by omega),ha]
        simp [add_lit]
      · have:=hy j y hj
        rwa [show o+(i.toNat+k)*Elt.sz α+j=o+i.toNat*Elt.sz α+k*Elt.sz α+j from by rw [Nat.add_mul]; omega] at this
    · cases hx
end Go.Nm
