/- Part 3 of the texts on which the proof rests. Conditions: none. -/
import Derived.Test.YtbldmjejckjflabGreatZA2
set_option linter.unusedVariables false
set_option linter.unusedSimpArgs false
set_option linter.unusedSectionVars false
section
set_option maxRecDepth 100000
set_option maxHeartbeats 16000000
namespace Go.Proofs.YtbldmjejckjflabGreat
open Go Go.Nm
attribute [local irreducible] gd execOp SL SLD SLT WR
def zbJ (ar:List Bool) (r4:List Int):Nat->M (Nat ⊕ (Unit ⊕ Unit)):=fun s =>
  bif decide ((s:Int)<(r4.length:Int)) then (
  M.grd (decide ((s:Int)<(r4.length:Int))) <|
  M.grd (decide ((0:Int)<=(r4.getD s 0))&&decide ((r4.getD s 0)<(12:Int))) <|
  bif ar.getD (Int.toNat (r4.getD s 0)) false then (
  M.pure (.inr (.inl ())))
  else (
  M.pure (.inl (s+1))))
  else (
  M.pure (.inr (.inr ())))
def zc8 (aa:List Int) (ab:List Span) (ac:List Int) (ae:List Town) (ag ah:Int) (ai:List Flood) (l_x:List Dem):(Nat × (List Bool) × (List Int) × (List Dem))->M ((Nat × (List Bool) × (List Int) × (List Dem)) ⊕ ((List Int) × (List Dem) × (List Int) × (List Dem) × (List Bool))):=fun (s2,ar,l,l2) =>
  bif decide ((s2:Int)<(l_x.length:Int)) then (
  M.grd (decide ((s2:Int)<(l_x.length:Int))) <|
  M.bind (zaa aa ab ac ae ag ah ai (l_x.getD s2 default)) fun r4 =>
  M.bind (M.iter (zbJ ar r4) 0) fun x_=>match x_ with
  | (.inl (_:Unit))=>(
  M.pure (.inl (s2+1,ar,l,l2)))
  | (.inr (_:Unit))=>(
  M.grd (decide ((0:Int)<=((r4.length:Int)-1))&&decide (((r4.length:Int)-1)<(r4.length:Int))) <|
  M.grd (decide ((0:Int)<=(r4.getD (Int.toNat ((r4.length:Int)-1)) 0))&&decide ((r4.getD (Int.toNat ((r4.length:Int)-1)) 0)<(12:Int))) <|
  M.grd (decide ((l.length+([(r4.getD (Int.toNat ((r4.length:Int)-1)) 0:Int)]).length)*8<=140737488355328)) <|
  M.grd (decide ((l2.length+([(l_x.getD s2 default)]).length)*16<=140737488355328)) <|
  M.pure (.inl (s2+1,ar.set (Int.toNat (r4.getD (Int.toNat ((r4.length:Int)-1)) 0)) true,l++([(r4.getD (Int.toNat ((r4.length:Int)-1)) 0:Int)]),l2++([(l_x.getD s2 default)])))))
  else (
  M.pure (.inr (l,l2,l,l2,ar)))
def zcI (aa:List Int) (ab:List Span) (ac:List Int) (ae:List Town) (ag ah:Int) (ai:List Flood):M ((List Int) × (List Dem) × Bool) :=
  M.bind (zaY aa ab ac ae ag ah ai) fun r2 =>
  M.bind (zdE r2 aa ab ac ae ag ah ai) fun r3 =>
  bif !r3 then (
  M.pure (([]),([]),false))
  else (
  M.bind (zel r2 aa ab ac ae ag ah ai aa ab ac ae ag ah ai) fun l_x =>
  M.bind (M.iter (zc8 aa ab ac ae ag ah ai l_x) (0,List.replicate 12 false,[],[])) fun (l3,l4,l5,l6,aj) =>
  M.grd (decide (l5.length<=1000000)) <|
  M.pure ((isort l5),l6,true))
theorem zd9 {R:List Chunk} {aj:Nat} {aX:Cells} {aY:Value} {aZ:Cells} {a6:Value} {a7:Cells} {a8:Value} {ba:Cells} {bb:Value} {bc:Cells} {bf:Value} {aq:Nat} {bu:Base} (aa:List Int) (ab:List Span) (ac:List Int) (ae:List Town) (ag:Int) (ah:Int) (ai:List Flood) (ay:Reads R aX) (az:Sl aX aY aa) (aA:Reads R aZ) (aB:Sl aZ a6 ab) (aC:Reads R a7) (aD:Sl a7 a8 ac) (aE:Reads R ba) (aF:Sl ba bb ae) (aG:Reads R bc) (aH:Sl bc bf ai) (aI:Has R (cBlk aj [aY,a6,a8,bb,I ag,I ah,bf,.map (some aq)] 113)) {r:((List Int) × (List Dem) × Bool)} (hM:(zcI aa ab ac ae ag ah ai).Ends r) (w:World) (H:St w w [cMem encDm aq bu (zaa aa ab ac ae ag ah ai)] R):Ret Tryz.prog 81 #[Pq aj] w fun v w'=>∃ (y0:List Int) (y1:List Dem) (y2:Bool) (u0:Value) (u1:Value) (bv:Base),(y0,y1,y2)=r/\v = .tuple #[u0,u1,B y2]/\St w w' [cOwn (α:=Int) 3 u0 y0,cOwn (α:=Dem) 32 u1 y1,cMem encDm aq bv (zaa aa ab ac ae ag ah ai)] R:=by
 refine ret_of_W Tryz.func81 rfl rfl rfl ?_;refine kg 2 ?_;refine t_b1 (Pq aj) H rfl rfl ?_;intro aP bZ H;refine kg 4 ?_;refine W.scope ?_;refine kg 3 ?_;obtain ⟨b0,bw,hM⟩:=M.e_bind hM;refine s_call cf68 [Pq aj] rfl (zbq aa ab ac ae ag ah ai (ay.app _) az (aA.app _) aB (aC.app _) aD (aE.app _) aF (aG.app _) aH (aI.app _) bw _ (H.gt 2)) ?_
 rintro vq b1 ⟨r2,au,rfl,hvq,ak⟩
 subst vq;(try dsimp only at hM);replace H:=H.bk ak;clear ak;refine kg 5 ?_;refine s_val (x_mf (fs:=[Pq aj]) (cs:=[]) rfl rfl) ?_;refine t_alloc (cs:=[.nilFunc]) H Al123 rfl ?_;intro al b2 H;refine t_sw 0 0 [.func (.func 72) #[Pq aj] #[]] (.func (.func 72) #[Pq aj] #[]) H rfl rfl Sz123 rfl rfl rfl rfl ?_;intro b3 H;refine kg 5 ?_;refine s_val (x_mf (fs:=[]) (cs:=[Pq al]) rfl rfl) ?_;obtain ⟨b4,bx,hM⟩:=M.e_bind hM;refine s_call cf82 [au,.func (.func 101) #[] #[Pq al]] rfl (zeI r2 aa ab ac ae ag ah ai (rdo 1) (H.os 1) (ay.app _) az (aA.app _) aB (aC.app _) aD (aE.app _) aF (aG.app _) aH (aI.app _) (Has.here (k:=0) rfl) bx _ ((H.pk [3,0,1,2]).gt 3)) ?_
 rintro vq b5 ⟨r3,bz,rfl,hvq,ak⟩
 subst vq;(try dsimp only at hM)
 replace H:=H.pk [3,0,1,2] |>.bk ak
 clear ak;refine kg 2 ?_
 refine W.cond (!r3) rfl (fun aQ=>?_) (fun aQ=>?_)
 ·replace hM:=M.e_t hM aQ;refine kg 6 ?_;replace H:=H.pk [0];refine W.ret ?_
  have aR:=M.e_pure hM
  replace H:=H.nilOwn (α:=Int) 3
  replace H:=H.nilOwn (α:=Dem) 32
  exact ⟨_,resE_tmp3 rfl,⟨([]),([]),false,(.slice none 0 0),(.slice none 0 0),bz,aR,rfl,(H.pk [1,0,2])⟩⟩
 replace hM:=M.e_f hM aQ;refine kg 3 ?_;refine s_val (x_mf (fs:=[]) (cs:=[Pq al,Pq aP]) rfl rfl) ?_;refine t_alloc (cs:=[.nilFunc]) H Al149 rfl ?_;intro bg b6 H;refine t_sw 0 0 [.func (.func 102) #[] #[Pq al,Pq aP]] (.func (.func 102) #[] #[Pq al,Pq aP]) H rfl rfl Sz149 rfl rfl rfl rfl ?_;intro b7 H;refine kg 4 ?_;refine s_val (x_mf (fs:=[]) (cs:=[Pq bg]) rfl rfl) ?_;obtain ⟨b8,bA,hM⟩:=M.e_bind hM;refine s_call cf103 [au,.func (.func 104) #[] #[Pq bg]] rfl (zeP r2 aa ab ac ae ag ah ai aa ab ac ae ag ah ai (ay.app _) az (aA.app _) aB (aC.app _) aD (aE.app _) aF (aG.app _) aH (aI.app _) (Has.here (k:=1) rfl) (ay.app _) az (aA.app _) aB (aC.app _) aD (aE.app _) aF (aG.app _) aH (aI.app _) (Has.here (k:=2) rfl) (Has.here (k:=0) rfl) bA _ ((H.pk [3,1,0,2,4]).gt 3)) ?_
 rintro vq b9 ⟨l_x,bB,rfl,hvq,ak⟩
 subst vq;(try dsimp only at hM)
 replace H:=H.pk [3,1,0,2,4] |>.bk ak
 clear ak;refine s_nil ?_;replace H:=H.pk [0,1,3];refine kg 2 ?_;refine t_alloc (cs:=encB (List.replicate 12 false)) H Al127 rfl ?_;intro ao ca H
 have bC:(List.replicate 12 false).length=12:=by simp
 refine kg 10 ?_;refine W.label ?_
 have cb:=((H.os 1)).len_le
 refine kg 8 ?_
 replace H:=H.nilOwn (α:=Dem) 32
 replace H:=H.nilOwn (α:=Int) 3
 obtain ⟨bD,aS,bE⟩:=M.e_bind hM
 obtain ⟨bF,aS⟩:=M.e_iter aS
 refine W.loop (fun m σ W=>∃ (s2:Nat) (ar:List Bool) (l:List Int) (l2:List Dem) (am:Value) (ap:Value) (B_mem:Base) (ρ:Env),σ=upds ρ [(6,Pq al),(8,Pq ao),(9,am),(10,ap),(29,au),(30,I (l_x.length:Int)),(31,I (s2:Int))]/\M.iterN (zc8 aa ab ac ae ag ah ai l_x) m (s2,ar,l,l2)=some bD/\St w W [cOwn (α:=Int) 3 am l,cOwn (α:=Dem) 32 ap l2,cBlk ao (encB ar) 127,cOwn (α:=Dem) 32 au l_x,cMem encDm aq B_mem (zaa aa ab ac ae ag ah ai),cBlk al [.func (.func 72) #[Pq aj] #[]] 123] R/\ar.length=12) ?_ ?_
 ·exact ⟨_,0,List.replicate 12 false,[],[],(.slice none 0 0),(.slice none 0 0),bB,_,upds_of _ _ ⟨rfl,rfl,rfl,rfl,rfl,rfl,rfl,trivial⟩,aS,H,bC⟩
 rintro cc σ cd ⟨s2,ar,l,l2,am,ap,B_mem,ρ,rfl,bh,H,aK⟩
 obtain ⟨aL,aM,ce,hM,aJ⟩:=M.e_iterN bh
 simp only [zc8] at hM
 clear bh;refine kg 5 ?_
 refine W.cond (decide ((s2:Int)<(l_x.length:Int))) rfl (fun av=>?_) (fun av=>?_)
 ·replace hM:=M.e_t hM av
  replace av:=dI av
  obtain ⟨cf,hM⟩:=M.e_gd hM;refine kg 6 ?_;refine s_val (x_ld (v:=.agg #[I ((l_x.getD s2 default).spring),I ((l_x.getD s2 default).town)]) rfl (ld_ag Ag32 Sz32 (At.mono (Dem_atA (H.os 3) (i:=(s2:Int)) (by omega) (by omega)) (H.ol 3)))) ?_;refine t_alloc (cs:=[I 0,I 0]) H Al32 rfl ?_;intro aN cg H;refine t_sw 0 0 [I ((l_x.getD s2 default).spring),I ((l_x.getD s2 default).town)] (.agg #[I ((l_x.getD s2 default).spring),I ((l_x.getD s2 default).town)]) H rfl rfl Sz32 rfl rfl rfl rfl ?_;intro ci H;refine kg 5 ?_;obtain ⟨cj,bG,hM⟩:=M.e_bind hM;refine s_callm (f:=72) (fs:=[Pq aj]) rfl cf72 [.agg #[I ((l_x.getD s2 default).spring),I ((l_x.getD s2 default).town)]] rfl (zaN aa ab ac ae ag ah ai (l_x.getD s2 default) (ay.app _) az (aA.app _) aB (aC.app _) aD (aE.app _) aF (aG.app _) aH (aI.app _) bG _ ((H.pk [5,0,1,2,3,4,6]).gt 6)) ?_
  rintro vq ck ⟨r4,bi,aw,rfl,hvq,ak,aO⟩
  subst vq;(try dsimp only at hM)
  replace H:=H.pk [5,0,1,2,3,4,6] |>.bk ak
  clear ak
  have cm:=(aO).len_le
  refine kg 10 ?_;obtain ⟨bH,aT,bj⟩:=M.e_bind hM
  obtain ⟨bF,aT⟩:=M.e_iter aT
  refine W.loop (fun m σ W=>∃ (s:Nat) (ρ:Env),σ=upds ρ [(6,Pq al),(8,Pq ao),(9,am),(10,ap),(12,Pq aN),(13,bi),(29,au),(30,I (l_x.length:Int)),(31,I (s2:Int)),(38,bi),(39,I (r4.length:Int)),(40,I (s:Int))]/\M.iterN (zbJ ar r4) m s=some bH/\St w W [cMem encDm aq aw (zaa aa ab ac ae ag ah ai),cBlk aN [I ((l_x.getD s2 default).spring),I ((l_x.getD s2 default).town)] 32,cOwn (α:=Int) 3 am l,cOwn (α:=Dem) 32 ap l2,cBlk ao (encB ar) 127,cOwn (α:=Dem) 32 au l_x,cBlk al [.func (.func 72) #[Pq aj] #[]] 123] R) ?_ ?_
  ·exact ⟨_,0,_,upds_of _ _ ⟨rfl,rfl,rfl,rfl,rfl,rfl,rfl,rfl,rfl,rfl,rfl,rfl,trivial⟩,aT,H⟩
  rintro cn σ co ⟨s,ρ,rfl,bm,H⟩
  obtain ⟨bI,bJ,cp,hM,aU⟩:=M.e_iterN bm
  simp only [zbJ] at hM
  clear bm;refine kg 5 ?_
  refine W.cond (decide ((s:Int)<(r4.length:Int))) rfl (fun ax=>?_) (fun ax=>?_)
  ·replace hM:=M.e_t hM ax
   replace ax:=dI ax
   obtain ⟨cq,hM⟩:=M.e_gd hM;refine kg 6 ?_;refine s_val (x_ld (v:=I (r4.getD s 0)) rfl (ld_sc Sc3 (At.mono (Int_at aO (i:=(s:Int)) (by omega) (by omega)) (memLe _ (H.get (k:=0) rfl))))) ?_;obtain ⟨cr,hM⟩:=M.e_gd hM;refine kg 5 ?_;refine s_val (x_ix (v:=.pointer (some ⟨ao,0+Int.toNat (r4.getD s 0),none⟩)) rfl rfl (run_indexArr Tryz.underlying127 Sz4 (by omega) (by omega)))<|s_val (x_ld (v:=B (ar.getD (Int.toNat (r4.getD s 0)) false)) rfl (ldArr Sc4 (H.bl 4) (by omega) (by have bK:=aK; omega)))<|s_nil ?_
   refine W.cond (ar.getD (Int.toNat (r4.getD s 0)) false) rfl (fun aV=>?_) (fun aV=>?_)
   ·replace hM:=M.e_t hM aV;refine W.exit ?_
    have bL:=M.e_inr hM aU
    subst bL;replace hM:=bj;(try dsimp only at hM);refine kg 4 ?_
    exact ⟨aL,aM,s2+1,ar,l,l2,am,ap,aw,_,upds_of _ _ ⟨rfl,rfl,rfl,rfl,rfl,rfl,rfl,trivial⟩,M.e_inl hM aJ,(H.pk [2,3,4,5,0,6]),aK⟩
   replace hM:=M.e_f hM aV;refine kg 5 ?_
   exact ⟨bI,bJ,s+1,_,upds_of _ _ ⟨rfl,rfl,rfl,rfl,rfl,rfl,rfl,rfl,rfl,rfl,rfl,rfl,trivial⟩,M.e_inl hM aU,H⟩
  replace hM:=M.e_f hM ax
  replace ax:=dI ax
  refine W.exit ?_
  have bM:=M.e_inr hM aU
  subst bM;replace hM:=bj;(try dsimp only at hM)
  have ct:=(aO).len_le
  obtain ⟨cu,hM⟩:=M.e_gd hM;refine kg 7 ?_;refine s_val (x_ld (v:=I (r4.getD (Int.toNat ((r4.length:Int)-1)) 0)) rfl (ld_sc Sc3 (At.mono (Int_at aO (i:=(r4.length:Int)-1) (by omega) (by omega)) (memLe _ (H.get (k:=0) rfl))))) ?_;obtain ⟨cv,hM⟩:=M.e_gd hM;refine kg 5 ?_;refine s_val (x_ix (v:=.pointer (some ⟨ao,0+Int.toNat (r4.getD (Int.toNat ((r4.length:Int)-1)) 0),none⟩)) rfl rfl (run_indexArr Tryz.underlying127 Sz4 (by omega) (by omega))) ?_;refine t_stArr (k:=4) (b:=ao) (l:=ar) (l':=ar.set (Int.toNat (r4.getD (Int.toNat ((r4.length:Int)-1)) 0)) true) (i:=r4.getD (Int.toNat ((r4.length:Int)-1)) 0) (v:=true) (L':=[cMem encDm aq aw (zaa aa ab ac ae ag ah ai),cBlk aN [I ((l_x.getD s2 default).spring),I ((l_x.getD s2 default).town)] 32,cOwn (α:=Int) 3 am l,cOwn (α:=Dem) 32 ap l2,cBlk ao (encB (ar.set (Int.toNat (r4.getD (Int.toNat ((r4.length:Int)-1)) 0)) true)) 127,cOwn (α:=Dem) 32 au l_x,cBlk al [.func (.func 72) #[Pq aj] #[]] 123]) H rfl rfl rfl Sz4 (by omega) (by have bK:=aK; omega) rfl rfl ?_;intro cw H
  have aW:(ar.set (Int.toNat (r4.getD (Int.toNat ((r4.length:Int)-1)) 0)) true).length=12:=List.length_set.trans aK
  refine s_nil ?_;refine W.drawT (fun W=>St w W [cMem encDm aq aw (zaa aa ab ac ae ag ah ai),cBlk aN [I ((l_x.getD s2 default).spring),I ((l_x.getD s2 default).town)] 32,cBlk ao (encB (ar.set (Int.toNat (r4.getD (Int.toNat ((r4.length:Int)-1)) 0)) true)) 127,cOwn (α:=Dem) 32 au l_x,cBlk al [.func (.func 72) #[Pq aj] #[]] 123] R) (.q 0 (.q 1 (.q 4 (.q 5 (.l2 2 (.l2 3 (.l 6 (.l 7 (.q 8 (.q 9 .nil)))) 6 (.l 3 (.l 7 (.q 8 (.q 9 .nil))))) 6 (.l 2 (.l 3 (.l 7 (.q 8 (.q 9 .nil)))))))))) mixed (by decide +kernel) rfl ?_;intro cx bn;replace H:=H.ext bn;clear bn
  refine ⟨(H.pk [0,1,4,5,6]),?_⟩
  obtain ⟨cy,hM⟩:=M.e_gd hM;obtain ⟨cz,hM⟩:=M.e_gd hM;refine kg 4 ?_;refine t_l2 rfl rfl ?_ ?_
  ·skip
   refine t_bs (α:=Int) T22 [I (r4.getD (Int.toNat ((r4.length:Int)-1)) 0)] [(r4.getD (Int.toNat ((r4.length:Int)-1)) 0:Int)] H rfl (.cons rfl (Flat.rep_enc _ (r4.getD (Int.toNat ((r4.length:Int)-1)) 0:Int))<|.nil) rfl rfl rfl ?_;intro bo cA H
   have cB:=Sl.cells (H.os 0)
   have cC:=Sl.oc (H.os 0)
   have cD:=Sl.cells (H.os 3)
   have cE:=Sl.oc (H.os 3)
   have cF:=Sl.cells (H.os 4)
   have cG:=Sl.oc (H.os 4)
   refine s_nil ⟨(H.pk [1,2,5,6,7]),?_⟩
   refine t_l2 rfl rfl ?_ ?_
   ·skip
    refine t_app (α:=Int) (k:=3) (l:=l) (l2:=[(r4.getD (Int.toNat ((r4.length:Int)-1)) 0:Int)]) (l':=l++([(r4.getD (Int.toNat ((r4.length:Int)-1)) 0:Int)])) (vy:=bo) T22 rfl H rfl rfl rfl (H.os 0) (H.ol 0) (rfl) (by first | omega | (simp only [List.length_nil] at *; omega)) ?_;intro bN cH H;replace H:=H.nf
    have cI:=Sl.cells (H.os 3)
    have cJ:=Sl.oc (H.os 3)
    refine s_nil ⟨(H.pk [1,2,5,6,7]),?_⟩
    refine t_l rfl ?_;refine t_bs (α:=Dem) T33 [.agg #[I ((l_x.getD s2 default).spring),I ((l_x.getD s2 default).town)]] [(l_x.getD s2 default)] H rfl (.cons rfl (Flat.rep_enc _ (l_x.getD s2 default))<|.nil) rfl rfl rfl ?_;intro bO cK H
    have cL:=Sl.cells (H.os 0)
    have cM:=Sl.oc (H.os 0)
    refine s_nil ⟨(H.pk [2,3,6,7,8]),?_⟩
    refine t_l rfl ?_;refine t_app (α:=Dem) (k:=5) (l:=l2) (l2:=[(l_x.getD s2 default)]) (l':=l2++([(l_x.getD s2 default)])) (vy:=bO) T33 rfl H rfl rfl rfl (H.os 0) (H.ol 0) (rfl) (by first | omega | (simp only [List.length_nil] at *; omega)) ?_;intro bP cN H;replace H:=H.nf
    have cO:=Sl.cells (H.os 5)
    have cP:=Sl.oc (H.os 5)
    refine s_nil ⟨(H.pk [2,3,6,7,8]),?_⟩
    refine kg 3 ?_;replace H:=H.pk [2,4,5,6,7,8];refine kg 4 ?_
    exact ⟨aL,aM,s2+1,ar.set (Int.toNat (r4.getD (Int.toNat ((r4.length:Int)-1)) 0)) true,l++([(r4.getD (Int.toNat ((r4.length:Int)-1)) 0:Int)]),l2++([(l_x.getD s2 default)]),bN,bP,aw,_,upds_of _ _ ⟨rfl,rfl,rfl,rfl,rfl,rfl,rfl,trivial⟩,M.e_inl hM aJ,(H.pk [1,2,3,4,0,5]),aW⟩
   skip
   refine t_bs (α:=Dem) T33 [.agg #[I ((l_x.getD s2 default).spring),I ((l_x.getD s2 default).town)]] [(l_x.getD s2 default)] H rfl (.cons rfl (Flat.rep_enc _ (l_x.getD s2 default))<|.nil) rfl rfl rfl ?_;intro bQ cQ H
   have cR:=Sl.cells (H.os 0)
   have cS:=Sl.oc (H.os 0)
   refine s_nil ⟨(H.pk [2,3,6,7,8]),?_⟩
   refine t_l rfl ?_;refine t_app (α:=Int) (k:=4) (l:=l) (l2:=[(r4.getD (Int.toNat ((r4.length:Int)-1)) 0:Int)]) (l':=l++([(r4.getD (Int.toNat ((r4.length:Int)-1)) 0:Int)])) (vy:=bo) T22 rfl H rfl rfl rfl (H.os 1) (H.ol 1) (rfl) (by first | omega | (simp only [List.length_nil] at *; omega)) ?_;intro bR cT H;replace H:=H.nf
   have cU:=Sl.cells (H.os 4)
   have cV:=Sl.oc (H.os 4)
   refine s_nil ⟨(H.pk [2,3,6,7,8]),?_⟩
   refine t_l rfl ?_;refine t_app (α:=Dem) (k:=5) (l:=l2) (l2:=[(l_x.getD s2 default)]) (l':=l2++([(l_x.getD s2 default)])) (vy:=bQ) T33 rfl H rfl rfl rfl (H.os 0) (H.ol 0) (rfl) (by first | omega | (simp only [List.length_nil] at *; omega)) ?_;intro bS cW H;replace H:=H.nf
   have cX:=Sl.cells (H.os 5)
   have cY:=Sl.oc (H.os 5)
   refine s_nil ⟨(H.pk [2,3,6,7,8]),?_⟩
   refine kg 3 ?_;replace H:=H.pk [2,4,5,6,7,8];refine kg 4 ?_
   exact ⟨aL,aM,s2+1,ar.set (Int.toNat (r4.getD (Int.toNat ((r4.length:Int)-1)) 0)) true,l++([(r4.getD (Int.toNat ((r4.length:Int)-1)) 0:Int)]),l2++([(l_x.getD s2 default)]),bR,bS,aw,_,upds_of _ _ ⟨rfl,rfl,rfl,rfl,rfl,rfl,rfl,trivial⟩,M.e_inl hM aJ,(H.pk [1,2,3,4,0,5]),aW⟩
  skip
  refine t_bs (α:=Dem) T33 [.agg #[I ((l_x.getD s2 default).spring),I ((l_x.getD s2 default).town)]] [(l_x.getD s2 default)] H rfl (.cons rfl (Flat.rep_enc _ (l_x.getD s2 default))<|.nil) rfl rfl rfl ?_;intro bT cZ H
  have c0:=Sl.cells (H.os 0)
  have c5:=Sl.oc (H.os 0)
  have c6:=Sl.cells (H.os 3)
  have c7:=Sl.oc (H.os 3)
  have c8:=Sl.cells (H.os 4)
  have c9:=Sl.oc (H.os 4)
  refine s_nil ⟨(H.pk [1,2,5,6,7]),?_⟩
  refine t_l rfl ?_;refine t_bs (α:=Int) T22 [I (r4.getD (Int.toNat ((r4.length:Int)-1)) 0)] [(r4.getD (Int.toNat ((r4.length:Int)-1)) 0:Int)] H rfl (.cons rfl (Flat.rep_enc _ (r4.getD (Int.toNat ((r4.length:Int)-1)) 0:Int))<|.nil) rfl rfl rfl ?_;intro bU da H
  have db:=Sl.cells (H.os 0)
  have dc:=Sl.oc (H.os 0)
  refine s_nil ⟨(H.pk [2,3,6,7,8]),?_⟩
  refine t_l rfl ?_;refine t_app (α:=Int) (k:=4) (l:=l) (l2:=[(r4.getD (Int.toNat ((r4.length:Int)-1)) 0:Int)]) (l':=l++([(r4.getD (Int.toNat ((r4.length:Int)-1)) 0:Int)])) (vy:=bU) T22 rfl H rfl rfl rfl (H.os 0) (H.ol 0) (rfl) (by first | omega | (simp only [List.length_nil] at *; omega)) ?_;intro bV dd H;replace H:=H.nf
  have dg:=Sl.cells (H.os 4)
  have dh:=Sl.oc (H.os 4)
  refine s_nil ⟨(H.pk [2,3,6,7,8]),?_⟩
  refine t_l rfl ?_;refine t_app (α:=Dem) (k:=5) (l:=l2) (l2:=[(l_x.getD s2 default)]) (l':=l2++([(l_x.getD s2 default)])) (vy:=bT) T33 rfl H rfl rfl rfl (H.os 1) (H.ol 1) (rfl) (by first | omega | (simp only [List.length_nil] at *; omega)) ?_;intro bW di H;replace H:=H.nf
  have dj:=Sl.cells (H.os 5)
  have dk:=Sl.oc (H.os 5)
  refine s_nil ⟨(H.pk [2,3,6,7,8]),?_⟩
  refine kg 3 ?_;replace H:=H.pk [2,4,5,6,7,8];refine kg 4 ?_
  exact ⟨aL,aM,s2+1,ar.set (Int.toNat (r4.getD (Int.toNat ((r4.length:Int)-1)) 0)) true,l++([(r4.getD (Int.toNat ((r4.length:Int)-1)) 0:Int)]),l2++([(l_x.getD s2 default)]),bV,bW,aw,_,upds_of _ _ ⟨rfl,rfl,rfl,rfl,rfl,rfl,rfl,trivial⟩,M.e_inl hM aJ,(H.pk [1,2,3,4,0,5]),aW⟩
 replace hM:=M.e_f hM av
 replace av:=dI av
 refine W.exit ?_
 have bX:=M.e_inr hM aJ
 subst bX;replace hM:=bE;(try dsimp only at hM);replace H:=H.pk [0,1,4];obtain ⟨dl,hM⟩:=M.e_gd hM;refine kg 3 ?_;refine s_call cf106 [am] rfl (sort_any (H.get (k:=0) rfl) (by omega)) ?_
 rintro _ bY ⟨rfl,bp,br,bt⟩
 replace H:St w bY [cOwn (α:=Int) 3 am (isort l),cOwn (α:=Dem) 32 ap l2,cMem encDm aq B_mem (zaa aa ab ac ae ag ah ai)] R:=H.sorted (k:=0) rfl bp br bt rfl
 clear bp br bt
 refine kg 9 ?_;refine W.ret ?_
 have aR:=M.e_pure hM
 exact ⟨_,resE_tmp3 rfl,⟨(isort l),l2,true,am,ap,B_mem,aR,rfl,H⟩⟩

def za5 (aa:List Int) (ab:List Span) (ac:List Int) (ae:List Town) (ah ai:Int) (ag:List Flood):M ((List Int) × Int) :=
  M.bind (zat aa ab ac ae ah ai ag) fun x_=>match x_ with
  | (.inl r1)=>(
  bif r1 != 0 then (
  M.pure (([]),r1))
  else (
  M.fail))
  | (.inr (aj,ak,al))=>(
  bif al != 0 then (
  M.fail)
  else (
  M.bind (zcI aa ab ac ae aj ak ag) fun (r0,am,r2) =>
  bif !r2 then (
  M.pure (([]),6))
  else (
  M.pure (r0,0))))
theorem zbx {R:List Chunk} {ax:Cells} {ai:Value} {ay:Cells} {aj:Value} {az:Cells} {ak:Value} {aA:Cells} {al:Value} {aB:Cells} {am:Value} (ao:List Int) (ap:List Span) (aq:List Int) (au:List Town) (ab:Int) (ac:Int) (av:List Flood) (aC:Reads R ax) (aD:Sl ax ai ao) (aE:Reads R ay) (aF:Sl ay aj ap) (aG:Reads R az) (aH:Sl az ak aq) (aI:Reads R aA) (aJ:Sl aA al au) (aK:Reads R aB) (aL:Sl aB am av) {r:((List Int) × Int)} (hM:(za5 ao ap aq au ab ac av).Ends r) (w:World) (H:St w w [] R):Ret Tryz.prog 33 #[.agg #[ai,aj,ak,al,I ab,I ac,am]] w fun v w'=>∃ (y0:List Int) (y1:Int) (u0:Value),(y0,y1)=r/\v = .tuple #[u0,I y1]/\St w w' [cOwn (α:=Int) 3 u0 y0] R:=by
 refine ret_of_W Tryz.func33 rfl rfl rfl ?_;refine kg 2 ?_;refine t_bx [ai,aj,ak,al,I ab,I ac,am] H rfl ?_;intro aV aW H;refine kg 6 ?_;obtain ⟨aX,aM,hM⟩:=M.e_bind hM;refine s_call cf61 [.agg #[ai,aj,ak,al,I ab,I ac,am]] rfl (zaw ao ap aq au ab ac av (aC.app _) aD (aE.app _) aF (aG.app _) aH (aI.app _) aJ (aK.app _) aL aM _ (H.gt 1)) ?_
 rintro vq aY (⟨r1,aN,hvq,aa⟩ | ⟨aO,aP,aQ,aR,aZ,a6,aS,hvq,aa⟩)
 ·subst aN;subst vq;(try dsimp only at hM);replace H:=H.bk aa;clear aa;refine kg 12 ?_
  refine W.cond (r1 != 0) rfl (fun ae=>?_) (fun ae=>?_)
  ·replace hM:=M.e_t hM ae
   replace ae:=dI ae
   refine kg 6 ?_;refine W.ret ?_
   have ag:=M.e_pure hM
   replace H:=H.nilOwn (α:=Int) 3
   exact ⟨_,resE_tmp2 rfl,⟨([]),r1,(.slice none 0 0),ag,rfl,(H.pk [0])⟩⟩
  replace hM:=M.e_f hM ae
  exact (M.e_fail hM).elim
 subst aS;subst vq;(try dsimp only at hM);replace H:=H.bk aa;clear aa;refine kg 12 ?_
 refine W.cond (aQ != 0) rfl (fun ah=>?_) (fun ah=>?_)
 ·replace hM:=M.e_t hM ah
  exact (M.e_fail hM).elim
 replace hM:=M.e_f hM ah
 replace ah:=dI ah
 refine kg 4 ?_;obtain ⟨a7,aT,hM⟩:=M.e_bind hM;refine s_call cf81 [Pq aR] rfl (zd9 ao ap aq au aO aP av (aC.app _) aD (aE.app _) aF (aG.app _) aH (aI.app _) aJ (aK.app _) aL (Has.here (k:=0) rfl) aT _ ((H.pk [1,0,2]).gt 2)) ?_
 rintro vq a8 ⟨r0,ba,r2,aU,bb,bc,rfl,hvq,aa⟩
 subst vq;(try dsimp only at hM)
 replace H:=H.pk [1,0,2] |>.bk aa
 clear aa;refine kg 8 ?_;replace H:=H.pk [0];refine kg 6 ?_
 refine W.cond (!r2) rfl (fun aw=>?_) (fun aw=>?_)
 ·replace hM:=M.e_t hM aw;refine kg 5 ?_;refine W.ret ?_
  have ag:=M.e_pure hM
  replace H:=H.nilOwn (α:=Int) 3
  exact ⟨_,resE_tmp2 rfl,⟨([]),6,(.slice none 0 0),ag,rfl,(H.pk [0])⟩⟩
 replace hM:=M.e_f hM aw;refine kg 7 ?_;refine W.ret ?_
 have ag:=M.e_pure hM
 exact ⟨_,resE_tmp2 rfl,⟨r0,0,aU,ag,rfl,H⟩⟩

def za0 (aa:List Int) (ab:List Span) (ac:List Int) (ae:List Town) (ag ah:Int) (ai:List Flood) (n:Int):M Bool :=
  M.bind (zam n 0 ((aa.length:Int)-1)) fun r2 =>
  M.pure r2
theorem zbi {R:List Chunk} {ab:Nat} {ac:Cells} {ae:Value} {ag:Cells} {ah:Value} {ai:Cells} {aj:Value} {ak:Cells} {al:Value} {am:Cells} {ao:Value} {az:Nat} (aa:List Int) (ap:List Span) (aq:List Int) (au:List Town) (av:Int) (aw:Int) (ax:List Flood) (n:Int) (aD:Reads R ac) (aA:Sl ac ae aa) (aE:Reads R ag) (aF:Sl ag ah ap) (aG:Reads R ai) (aH:Sl ai aj aq) (aI:Reads R ak) (aJ:Sl ak al au) (aK:Reads R am) (aL:Sl am ao ax) (aM:Has R (cBlk ab [ae,ah,aj,al,I av,I aw,ao,.map (some az)] 113)) {r:Bool} (hM:(za0 aa ap aq au av aw ax n).Ends r) (w:World) (H:St w w [] R):Ret Tryz.prog 62 #[Pq ab,I n] w fun v w'=>∃ (y0:Bool),y0=r/\v=B y0/\St w w' [] R:=by
 refine ret_of_W Tryz.func62 rfl rfl rfl ?_
 have aN:=(aA).len_le
 refine kg 14 ?_;obtain ⟨aO,aB,hM⟩:=M.e_bind hM;refine s_call cf45 [I n,I 0,I ((aa.length:Int)-1)] rfl (zan n 0 ((aa.length:Int)-1) aB _ (H.gt 0)) ?_
 rintro vq aP ⟨r2,rfl,hvq,ay⟩
 subst vq;(try dsimp only at hM);replace H:=H.bk ay;clear ay;refine kg 2 ?_;refine W.ret ?_
 have aC:=M.e_pure hM
 exact ⟨_,resE_tmp rfl,⟨r2,aC,rfl,H⟩⟩

def zc4 (ae:List Int) (ag:List Span) (ah:List Int) (aa:List Town) (ab ac:Int) (ai:List Flood) (watch town:Int):M (Int × Int × Int) :=
  M.bind (zat ae ag ah aa ab ac ai) fun x_=>match x_ with
  | (.inl r1)=>(
  bif r1 != 0 then (
  M.pure (0,0,r1))
  else (
  M.fail))
  | (.inr (aj,ak,al))=>(
  bif al != 0 then (
  M.fail)
  else (
  M.bind (za0 ae ag ah aa aj ak ai watch) fun r2 =>
  M.bind (M.opt (!(!r2)) (zam town 0 ((aa.length:Int)-1)) false) fun r3 =>
  bif ((!r2)||(!r3)) then (
  M.pure (0,0,2))
  else (
  M.grd (decide ((0:Int)<=town)&&decide (town<(aa.length:Int))) <|
  M.bind (zaR ae ag ah aa aj ak ai watch ((aa.getD (Int.toNat town) default).station)) fun (am,ao,ap) =>
  bif !ap then (
  M.pure (0,0,5))
  else (
  M.grd (decide (-9223372036854775807<=ac)&&decide (ac<=9223372036854775807)) <|
  M.grd (decide (-9223372036854775807<=ab)&&decide (ab<=9223372036854775807)) <|
  M.bind (zci ([(⟨(am:Int),(ao:Int)⟩:Span),(⟨(-ac:Int),(-ab:Int)⟩:Span)])) fun (r0,aq) =>
  M.pure (r0,aq,0)))))
theorem zdx {R:List Chunk} {aL:Cells} {av:Value} {aM:Cells} {aw:Value} {aN:Cells} {ax:Value} {aO:Cells} {ay:Value} {aP:Cells} {az:Value} (ak:List Int) (al:List Span) (am:List Int) (ae:List Town) (ab:Int) (ac:Int) (ao:List Flood) (watch:Int) (town:Int) (aB:Reads R aL) (aC:Sl aL av ak) (aD:Reads R aM) (aE:Sl aM aw al) (aF:Reads R aN) (aG:Sl aN ax am) (aA:Reads R aO) (ap:Sl aO ay ae) (aH:Reads R aP) (aI:Sl aP az ao) {r:(Int × Int × Int)} (hM:(zc4 ak al am ae ab ac ao watch town).Ends r) (w:World) (H:St w w [] R):Ret Tryz.prog 20 #[.agg #[av,aw,ax,ay,I ab,I ac,az],I watch,I town] w fun v w'=>∃ (y0:Int) (y1:Int) (y2:Int),(y0,y1,y2)=r/\v = .tuple #[.agg #[I y0,I y1],I y2]/\St w w' [] R:=by
 refine ret_of_W Tryz.func20 rfl rfl rfl ?_;refine kg 2 ?_;refine t_bx [av,aw,ax,ay,I ab,I ac,az] H rfl ?_;intro bh bi H;refine t_alloc (cs:=[I 0,I 0]) H Al26 rfl ?_;intro bj bm H;refine kg 5 ?_;obtain ⟨bn,aT,hM⟩:=M.e_bind hM;refine s_call cf61 [.agg #[av,aw,ax,ay,I ab,I ac,az]] rfl (zaw ak al am ae ab ac ao (aB.app _) aC (aD.app _) aE (aF.app _) aG (aA.app _) ap (aH.app _) aI aT _ (H.gt 2)) ?_
 rintro vq bo (⟨r1,aU,hvq,aa⟩ | ⟨aQ,aR,aV,aS,bp,br,aW,hvq,aa⟩)
 ·subst aU;subst vq;(try dsimp only at hM);replace H:=H.bk aa;clear aa;refine kg 14 ?_
  refine W.cond (r1 != 0) rfl (fun aq=>?_) (fun aq=>?_)
  ·replace hM:=M.e_t hM aq
   replace aq:=dI aq
   refine kg 2 ?_;refine s_val (x_bld (ps:=[]) (zs:=[I 0,I 0]) (L':=[I 0,I 0]) rfl Tryz.underlying26 Al26 rfl (Bd26 Tryz.underlying26) (.nil)) ?_;refine kg 1 ?_;refine t_sw 0 0 [I 0,I 0] (.agg #[I 0,I 0]) H rfl rfl Sz26 rfl rfl rfl rfl ?_;intro bt H;refine kg 2 ?_;refine W.ret ?_
   have aX:=(H.bl 0)
   have ag:=M.e_pure hM
   exact ⟨_,(resE_ofn (vs:=[.agg #[I 0,I 0],I r1]) rfl rfl (.cell (v:=.agg #[I 0,I 0]) rfl (run_loadVar_ag (ds:=[I 0,I 0]) Ag26 Sz26 aX rfl rfl)<|.tmp (v:=I r1) rfl<|.nil)),⟨0,0,r1,ag,rfl,(H.pk [])⟩⟩
  replace hM:=M.e_f hM aq
  exact (M.e_fail hM).elim
 subst aW;subst vq;(try dsimp only at hM);replace H:=H.bk aa;clear aa;refine kg 14 ?_
 refine W.cond (aV != 0) rfl (fun au=>?_) (fun au=>?_)
 ·replace hM:=M.e_t hM au
  exact (M.e_fail hM).elim
 replace hM:=M.e_f hM au
 replace au:=dI au
 refine kg 4 ?_;obtain ⟨bu,aY,hM⟩:=M.e_bind hM;refine s_call cf62 [Pq aS,I watch] rfl (zbi ak al am ae aQ aR ao watch (aB.app _) aC (aD.app _) aE (aF.app _) aG (aA.app _) ap (aH.app _) aI (Has.here (k:=0) rfl) aY _ (H.gt 4)) ?_
 rintro vq bv ⟨r2,rfl,hvq,aa⟩
 subst vq;(try dsimp only at hM);replace H:=H.bk aa;clear aa
 have bw:=(ap).len_le
 refine kg 7 ?_;obtain ⟨r3,aZ,hM⟩:=M.e_bind hM;refine t_gcall (!(!r2)) (gy_f rfl) cf45 (B r3) (fun _=>[I town,I 0,I ((ae.length:Int)-1)]) (fun hg=>lst3 (gd_of hg (I town)) rfl (gd_of hg (I ((ae.length:Int)-1)))) H (fun hg=>(zan town 0 ((ae.length:Int)-1) (M.e_opt aZ hg) _ (H.give (A:=[]) rfl)).mono fun v_ w_ ⟨y_,ag,a6,H_⟩=>by subst ag; exact ⟨a6,H.via H_⟩) ?_;intro bx H;refine kg 1 ?_;refine s_val (x_por (b:=!r2) (r:=!r3) rfl rfl (fun hb=>gd_of (c:=!(!r2)) (by first | exact hb | (rw [hb]; rfl) | simp_all) (B (!r3))))<|zA (B ((!r2)||(!r3))) rfl<|s_nil ?_
 refine W.cond ((!r2)||(!r3)) rfl (fun aJ=>?_) (fun aJ=>?_)
 ·replace hM:=M.e_t hM aJ;refine kg 2 ?_;refine s_val (x_bld (ps:=[]) (zs:=[I 0,I 0]) (L':=[I 0,I 0]) rfl Tryz.underlying26 Al26 rfl (Bd26 Tryz.underlying26) (.nil)) ?_;refine t_sw 2 0 [I 0,I 0] (.agg #[I 0,I 0]) H rfl rfl Sz26 rfl rfl rfl rfl ?_;intro bz H;refine kg 2 ?_;replace H:=H.pk [2];refine W.ret ?_
  have a7:=(H.bl 0)
  have ag:=M.e_pure hM
  exact ⟨_,(resE_ofn (vs:=[.agg #[I 0,I 0],I 2]) rfl rfl (.cell (v:=.agg #[I 0,I 0]) rfl (run_loadVar_ag (ds:=[I 0,I 0]) Ag26 Sz26 a7 rfl rfl)<|.tmp (v:=I 2) rfl<|.nil)),⟨0,0,2,ag,rfl,(H.pk [])⟩⟩
 replace hM:=M.e_f hM aJ;obtain ⟨bA,hM⟩:=M.e_gd hM;refine kg 10 ?_;refine s_val (x_ld (v:=I ((ae.getD (Int.toNat town) default).station)) rfl (ld_sc Sc3 (At.mono (Town_at0 ap (i:=town) (by omega) (by omega)) (aA.at H)))) ?_;obtain ⟨bB,a8,hM⟩:=M.e_bind hM;refine s_call cf63 [Pq aS,I watch,I ((ae.getD (Int.toNat town) default).station)] rfl (zbt ak al am ae aQ aR ao watch ((ae.getD (Int.toNat town) default).station) (aB.app _) aC (aD.app _) aE (aF.app _) aG (aA.app _) ap (aH.app _) aI (Has.here (k:=0) rfl) a8 _ (H.gt 4)) ?_
 rintro vq bC ⟨ah,ai,ba,rfl,hvq,aa⟩
 subst vq;(try dsimp only at hM);replace H:=H.bk aa;clear aa;refine kg 3 ?_;refine t_alloc (cs:=[I 0,I 0]) H Al26 rfl ?_;intro bD bE H;refine t_sw 0 0 [I ah,I ai] (.agg #[I ah,I ai]) H rfl rfl Sz26 rfl rfl rfl rfl ?_;intro bF H;refine kg 2 ?_;replace H:=H.pk [0,3,4];refine kg 6 ?_
 refine W.cond (!ba) rfl (fun aK=>?_) (fun aK=>?_)
 ·replace hM:=M.e_t hM aK;refine kg 2 ?_;refine s_val (x_bld (ps:=[]) (zs:=[I 0,I 0]) (L':=[I 0,I 0]) rfl Tryz.underlying26 Al26 rfl (Bd26 Tryz.underlying26) (.nil)) ?_;refine t_sw 1 0 [I 0,I 0] (.agg #[I 0,I 0]) H rfl rfl Sz26 rfl rfl rfl rfl ?_;intro bG H;refine kg 2 ?_;replace H:=H.pk [1];refine W.ret ?_
  have bb:=(H.bl 0)
  have ag:=M.e_pure hM
  exact ⟨_,(resE_ofn (vs:=[.agg #[I 0,I 0],I 5]) rfl rfl (.cell (v:=.agg #[I 0,I 0]) rfl (run_loadVar_ag (ds:=[I 0,I 0]) Ag26 Sz26 bb rfl rfl)<|.tmp (v:=I 5) rfl<|.nil)),⟨0,0,5,ag,rfl,(H.pk [])⟩⟩
 replace hM:=M.e_f hM aK;obtain ⟨bH,hM⟩:=M.e_gd hM;refine kg 7 ?_;refine s_val (x_neg (a:=ac) rfl (by omega)) ?_;obtain ⟨bI,hM⟩:=M.e_gd hM;refine kg 3 ?_;refine s_val (x_neg (a:=ab) rfl (by omega))<|s_val (x_bld (ps:=[(0,I (-ac)),(1,I (-ab))]) (zs:=[I 0,I 0]) (L':=[I (-ac),I (-ab)]) rfl Tryz.underlying26 Al26 rfl (Bd26 Tryz.underlying26) (.cons (cs:=[I (-ac)]) rfl rfl rfl rfl rfl<|.cons (cs:=[I (-ab)]) rfl rfl rfl rfl rfl<|.nil)) ?_;refine t_bs (α:=Span) T23 [.agg #[I ah,I ai],.agg #[I (-ac),I (-ab)]] [(⟨(ah:Int),(ai:Int)⟩:Span),(⟨(-ac:Int),(-ab:Int)⟩:Span)] H rfl (.cons rfl (Flat.rep_enc _ (⟨(ah:Int),(ai:Int)⟩:Span))<|.cons rfl (Flat.rep_enc _ (⟨(-ac:Int),(-ab:Int)⟩:Span))<|.nil) rfl rfl rfl ?_;intro bc bJ H;obtain ⟨bK,bf,hM⟩:=M.e_bind hM;refine s_call cf65 [bc] rfl (zdw ([(⟨(ah:Int),(ai:Int)⟩:Span),(⟨(-ac:Int),(-ab:Int)⟩:Span)]) (rdo 0) (H.os 0) bf _ (H.gt 4)) ?_
 rintro vq bL ⟨r0,aj,rfl,hvq,aa⟩
 subst vq;(try dsimp only at hM);replace H:=H.bk aa;clear aa;refine t_sw 2 0 [I r0,I aj] (.agg #[I r0,I aj]) H rfl rfl Sz26 rfl rfl rfl rfl ?_;intro bM H;refine kg 2 ?_;replace H:=H.pk [2];refine W.ret ?_
 have bg:=(H.bl 0)
 have ag:=M.e_pure hM
 exact ⟨_,(resE_ofn (vs:=[.agg #[I r0,I aj],I 0]) rfl rfl (.cell (v:=.agg #[I r0,I aj]) rfl (run_loadVar_ag (ds:=[I r0,I aj]) Ag26 Sz26 bg rfl rfl)<|.tmp (v:=I 0) rfl<|.nil)),⟨r0,aj,0,ag,rfl,(H.pk [])⟩⟩

def zcB (a b:List Int):Nat->M (Nat ⊕ (Unit ⊕ Unit)):=fun i =>
  bif decide ((i:Int)<(a.length:Int)) then (
  M.grd (decide ((i:Int)<(a.length:Int))) <|
  M.grd (decide ((i:Int)<(b.length:Int))) <|
  bif (a.getD i 0) != (b.getD i 0) then (
  M.pure (.inr (.inl ())))
  else (
  M.pure (.inl (i+1))))
  else (
  M.pure (.inr (.inr ())))
def zad (a b:List Int):M Bool :=
  bif (a.length:Int) != (b.length:Int) then (
  M.pure false)
  else (
  M.bind (M.iter (zcB a b) 0) fun x_=>match x_ with
  | (.inl (_:Unit))=>(
  M.pure false)
  | (.inr (_:Unit))=>(
  M.pure true))
theorem zaf {R:List Chunk} {ak:Cells} {ag:Value} {al:Cells} {ah:Value} (a:List Int) (b:List Int) (aA:Reads R ak) (am:Sl ak ag a) (aB:Reads R al) (au:Sl al ah b) {r:Bool} (hM:(zad a b).Ends r) (w:World) (H:St w w [] R):Ret Tryz.prog 17 #[ag,ah] w fun v w'=>∃ (y0:Bool),y0=r/\v=B y0/\St w w' [] R:=by
 refine ret_of_W Tryz.func17 rfl rfl rfl ?_
 have aC:=(am).len_le
 have aD:=(au).len_le
 refine kg 13 ?_
 refine W.cond ((a.length:Int) != (b.length:Int)) rfl (fun aa=>?_) (fun aa=>?_)
 ·replace hM:=M.e_t hM aa
  replace aa:=dI aa
  refine kg 4 ?_;refine W.ret ?_
  have ae:=M.e_pure hM
  exact ⟨_,resE_tmp rfl,⟨false,ae,rfl,H⟩⟩
 replace hM:=M.e_f hM aa
 replace aa:=dI aa
 refine kg 7 ?_;obtain ⟨av,ai,ao⟩:=M.e_bind hM
 obtain ⟨aE,ai⟩:=M.e_iter ai
 refine W.loop (fun m σ W=>∃ (i:Nat) (ρ:Env),σ=upds ρ [(0,ag),(1,ah),(5,I (i:Int))]/\M.iterN (zcB a b) m i=some av/\St w W [] R) ?_ ?_
 ·exact ⟨_,0,_,upds_of _ _ ⟨rfl,rfl,rfl,trivial⟩,ai,H⟩
 rintro aF σ aG ⟨i,ρ,rfl,ap,H⟩
 obtain ⟨aw,ax,aH,hM,aj⟩:=M.e_iterN ap
 simp only [zcB] at hM
 clear ap
 have aI:=(am).len_le
 refine kg 8 ?_
 refine W.cond (decide ((i:Int)<(a.length:Int))) rfl (fun ab=>?_) (fun ab=>?_)
 ·replace hM:=M.e_t hM ab
  replace ab:=dI ab
  refine kg 4 ?_;refine W.draw (fun W=>St w W [] R) [(0,true),(1,true),(2,true),(3,true),(4,true),(5,true),(6,true),(7,true),(8,true)] mixed (by decide +kernel) rfl ?_;intro aJ aq;replace H:=H.ext aq;clear aq
  refine ⟨(H.pk []),?_⟩
  obtain ⟨aK,hM⟩:=M.e_gd hM;obtain ⟨aL,hM⟩:=M.e_gd hM;refine kg 10 ?_
  refine W.cond ((a.getD i 0) != (b.getD i 0)) rfl (fun ac=>?_) (fun ac=>?_)
  ·replace hM:=M.e_t hM ac
   replace ac:=dI ac
   refine kg 4 ?_;refine W.ret ?_
   have ay:=M.e_inr hM aj
   subst ay;replace hM:=ao;(try dsimp only at hM)
   have ae:=M.e_pure hM
   exact ⟨_,resE_tmp rfl,⟨false,ae,rfl,H⟩⟩
  replace hM:=M.e_f hM ac
  replace ac:=dI ac
  refine kg 6 ?_
  exact ⟨aw,ax,i+1,_,upds_of _ _ ⟨rfl,rfl,rfl,trivial⟩,M.e_inl hM aj,H⟩
 replace hM:=M.e_f hM ab
 replace ab:=dI ab
 refine W.exit ?_
 have az:=M.e_inr hM aj
 subst az;replace hM:=ao;(try dsimp only at hM);refine kg 4 ?_;refine W.ret ?_
 have ae:=M.e_pure hM
 exact ⟨_,resE_tmp rfl,⟨true,ae,rfl,H⟩⟩

def zdo (watches:List Int):((List Bool) × Nat)->M (((List Bool) × Nat) ⊕ (List Bool)):=fun (ar,s) =>
  bif decide ((s:Int)<(watches.length:Int)) then (
  M.grd (decide ((s:Int)<(watches.length:Int))) <|
  M.grd (decide ((0:Int)<=(watches.getD s 0))&&decide ((watches.getD s 0)<(12:Int))) <|
  M.pure (.inl (ar.set (Int.toNat (watches.getD s 0)) true,s+1)))
  else (
  M.pure (.inr ar))
def zbc (ab ac:Int) (watches:List Int) (e:Int):M (((List Bool) × Int) ⊕ (Int × Int × (List Bool) × Int)) :=
  bif e != 0 then (
  M.pure (.inl ((List.replicate 12 false),e)))
  else (
  M.bind (M.iter (zdo watches) (List.replicate 12 false,0)) fun aa =>
  M.pure (.inl (aa,0)))
def zce (watches:List Int):((List Bool) × Nat)->M (((List Bool) × Nat) ⊕ (List Bool)):=fun (ar,s) =>
  bif decide ((s:Int)<(watches.length:Int)) then (
  M.grd (decide ((s:Int)<(watches.length:Int))) <|
  M.grd (decide ((0:Int)<=(watches.getD s 0))&&decide ((watches.getD s 0)<(12:Int))) <|
  M.pure (.inl (ar.set (Int.toNat (watches.getD s 0)) true,s+1)))
  else (
  M.pure (.inr ar))
def zbv (ae:List Int) (ag:List Span) (ah:List Int) (ai:List Town) (aj ak:Int) (al:List Flood) (watches:List Int) (aa ab e2:Int):M (((List Bool) × Int) ⊕ (Int × Int × (List Bool) × Int)) :=
  bif e2 != 0 then (
  M.pure (.inl ((List.replicate 12 false),e2)))
  else (
  M.bind (M.iter (zce watches) (List.replicate 12 false,0)) fun ac =>
  M.pure (.inr (aa,ab,ac,0)))
def za1 (aa:List Int) (ae:List Span) (ag:List Int) (ah:List Town) (ab ac:Int) (ai:List Flood) (watches:List Int):M (((List Bool) × Int) ⊕ (Int × Int × (List Bool) × Int)) :=
  M.bind (zat aa ae ag ah ab ac ai) fun x_=>match x_ with
  | (.inl r1)=>(
  M.bind (M.opt (r1==0) (zbg watches (aa.length:Int)) false) fun r2 =>
  bif ((r1==0)&&(!r2)) then (
  zbc ab ac watches 2)
  else (
  zbc ab ac watches r1))
  | (.inr (ak,al,aj))=>(
  M.bind (M.opt (aj==0) (zbg watches (aa.length:Int)) false) fun r2 =>
  bif ((aj==0)&&(!r2)) then (
  zbv aa ae ag ah ab ac ai watches ak al 2)
  else (
  zbv aa ae ag ah ab ac ai watches ak al aj))
theorem za8 {R:List Chunk} {aT:Cells} {aa:Value} {aU:Cells} {ab:Value} {aV:Cells} {ac:Value} {aW:Cells} {ae:Value} {aX:Cells} {ag:Value} {aY:Cells} {aC:Value} (ak:List Int) (av:List Span) (aw:List Int) (ax:List Town) (ai:Int) (aj:Int) (ay:List Flood) (watches:List Int) (bf:Reads R aT) (aN:Sl aT aa ak) (bg:Reads R aU) (bh:Sl aU ab av) (bi:Reads R aV) (bj:Sl aV ac aw) (bm:Reads R aW) (bn:Sl aW ae ax) (bo:Reads R aX) (bp:Sl aX ag ay) (aZ:Reads R aY) (aL:Sl aY aC watches) {r:(((List Bool) × Int) ⊕ (Int × Int × (List Bool) × Int))} (hM:(za1 ak av aw ax ai aj ay watches).Ends r) (w:World) (H:St w w [] R):Ret Tryz.prog 75 #[.agg #[aa,ab,ac,ae,I ai,I aj,ag],aC] w fun v w'=>(∃ (y0:List Bool) (y1:Int),(.inl (y0,y1))=r/\v = .tuple #[.pointer none,.agg (encB y0).toArray,I y1]/\St w w' [] R/\y0.length=12)∨(∃ (y0:Int) (y1:Int) (y2:List Bool) (y3:Int) (a6:Nat) (a7:Nat) (br:Base),(.inr (y0,y1,y2,y3))=r/\v = .tuple #[Pq a6,.agg (encB y2).toArray,I y3]/\St w w' [cBlk a6 [aa,ab,ac,ae,I y0,I y1,ag,.map (some a7)] 113,cMem encDm a7 br (zaa ak av aw ax y0 y1 ay)] R/\y2.length=12):=by
 refine ret_of_W Tryz.func75 rfl rfl rfl ?_;refine kg 2 ?_;refine t_bx [aa,ab,ac,ae,I ai,I aj,ag] H rfl ?_;intro aq bR H;refine kg 1 ?_;refine t_alloc (cs:=encB (List.replicate 12 false)) H Al127 rfl ?_;intro al bS H
 have aM:(List.replicate 12 false).length=12:=by simp
 refine kg 4 ?_;refine t_alloc (cs:=encB (List.replicate 12 false)) H Al127 rfl ?_;intro ah bT H
 have aD:(List.replicate 12 false).length=12:=by simp
 refine kg 4 ?_;obtain ⟨bU,bt,hM⟩:=M.e_bind hM;refine s_call cf61 [.agg #[aa,ab,ac,ae,I ai,I aj,ag]] rfl (zaw ak av aw ax ai aj ay (bf.app _) aN (bg.app _) bh (bi.app _) bj (bm.app _) bn (bo.app _) bp bt _ (H.gt 3)) ?_
 rintro vq bV (⟨r1,bu,hvq,aJ⟩ | ⟨am,ao,aK,az,ap,aE,bv,hvq,aJ⟩)
 ·subst bu;subst vq;(try dsimp only at hM);replace H:=H.bk aJ;clear aJ;refine kg 6 ?_;refine W.seqJ (fun σ W=>∃ (e:Int) (ρ:Env),σ=upds ρ [(1,aC),(5,Pq al),(7,Pq ah),(8,.pointer none),(9,I e)]/\(zbc ai aj watches e).Ends r/\St w W [cBlk ah (encB (List.replicate 12 false)) 127,cBlk al (encB (List.replicate 12 false)) 127,cBlk aq [aa,ab,ac,ae,I ai,I aj,ag] 29] R) ?_ ?_
  ·skip
   have bW:=(aN).len_le
   refine kg 9 ?_;obtain ⟨r2,bw,hM⟩:=M.e_bind hM;refine t_gcall (r1==0) (gy_t rfl) cf47 (B r2) (fun _=>[aC,I (ak.length:Int)]) (fun hg=>lst2 (gd_of hg (aC)) (gd_of hg (I (ak.length:Int)))) H (fun hg=>(zcw watches (ak.length:Int) (aZ.app _) aL (M.e_opt bw hg) _ (H.give (A:=[]) rfl)).mono fun v_ w_ ⟨y_,aA,aO,H_⟩=>by subst aA; exact ⟨aO,H.via H_⟩) ?_;intro bX H;refine kg 1 ?_;refine s_val (x_pand (b:=r1==0) (r:=!r2) rfl (fun hb=>gd_of (c:=r1==0) (by first | exact hb | (rw [hb]; rfl) | simp_all) (B (!r2))) rfl)<|s_nil ?_
   refine W.cond ((r1==0)&&(!r2)) rfl (fun aP=>?_) (fun aP=>?_)
   ·replace hM:=M.e_t hM aP;refine kg 3 ?_
    exact ⟨2,_,upds_of _ _ ⟨rfl,rfl,rfl,rfl,rfl,trivial⟩,hM,H⟩
   replace hM:=M.e_f hM aP;refine W.skip ?_
   exact ⟨r1,_,upds_of _ _ ⟨rfl,rfl,rfl,rfl,rfl,trivial⟩,hM,H⟩
  rintro _ bY ⟨e,ρ,rfl,hM,H⟩
  unfold zbc at hM
  refine kg 6 ?_
  refine W.cond (e != 0) rfl (fun aF=>?_) (fun aF=>?_)
  ·replace hM:=M.e_t hM aF
   replace aF:=dI aF
   refine W.seq ?_;refine W.draw (fun W=>St w W [cBlk ah (encB (List.replicate 12 false)) 127,cBlk aq [aa,ab,ac,ae,I ai,I aj,ag] 29] R) [(0,true),(1,true),(2,true),(3,false),(4,true)] mixed (by decide +kernel) rfl ?_;intro bZ aB;replace H:=H.ext aB;clear aB
   refine ⟨(H.pk [0,2]),?_⟩
   refine d_q rfl (fun w' H=>x_ld (v:=.agg (encB (List.replicate 12 false)).toArray) rfl (ldArrA Ag127 Sz127 aD (H.bl 0))) ?_;refine kg 2 ?_;refine d_l rfl ?_;refine t_stArrA (k:=1) (b:=al) (l:=List.replicate 12 false) (l':=List.replicate 12 false) (L':=[cBlk ah (encB (List.replicate 12 false)) 127,cBlk al (encB (List.replicate 12 false)) 127,cBlk aq [aa,ab,ac,ae,I ai,I aj,ag] 29]) H rfl rfl rfl Sz127 aM aD rfl ?_;intro b0 H
   refine s_nil ⟨(H.pk [0,2]),?_⟩
   refine kg 2 ?_;replace H:=H.pk [1];refine W.ret ?_
   have bx:=(H.bl 0)
   have aA:=M.e_pure hM
   exact ⟨_,(resE_ofn (vs:=[.pointer none,.agg (encB (List.replicate 12 false)).toArray,I e]) rfl rfl (.tmp (v:=.pointer none) rfl<|.cell (v:=.agg (encB (List.replicate 12 false)).toArray) rfl (run_loadVar_arr Ag127 Sz127 aD bx)<|.tmp (v:=I e) rfl<|.nil)),.inl (⟨(List.replicate 12 false),e,aA,rfl,(H.pk []),aD⟩)⟩
  replace hM:=M.e_f hM aF
  replace aF:=dI aF
  have b1:=(aL).len_le
  refine kg 9 ?_;obtain ⟨bz,aQ,bA⟩:=M.e_bind hM
  obtain ⟨bB,aQ⟩:=M.e_iter aQ
  refine W.loop (fun m σ W=>∃ (ar:List Bool) (s:Nat) (ρ:Env),σ=upds ρ [(5,Pq al),(7,Pq ah),(8,.pointer none),(31,aC),(32,I (watches.length:Int)),(33,I (s:Int))]/\M.iterN (zdo watches) m (ar,s)=some bz/\St w W [cBlk ah (encB ar) 127,cBlk al (encB (List.replicate 12 false)) 127,cBlk aq [aa,ab,ac,ae,I ai,I aj,ag] 29] R/\ar.length=12) ?_ ?_
  ·exact ⟨_,List.replicate 12 false,0,_,upds_of _ _ ⟨rfl,rfl,rfl,rfl,rfl,rfl,trivial⟩,aQ,H,aD⟩
  rintro b2 σ b3 ⟨ar,s,ρ,rfl,a8,H,au⟩
  obtain ⟨bC,bD,b4,hM,ba⟩:=M.e_iterN a8
  simp only [zdo] at hM
  clear a8;refine kg 5 ?_
  refine W.cond (decide ((s:Int)<(watches.length:Int))) rfl (fun aG=>?_) (fun aG=>?_)
  ·replace hM:=M.e_t hM aG
   replace aG:=dI aG
   obtain ⟨b5,hM⟩:=M.e_gd hM;obtain ⟨b6,hM⟩:=M.e_gd hM;refine kg 11 ?_;refine s_val (x_ix (v:=.pointer (some ⟨ah,0+Int.toNat (watches.getD s 0),none⟩)) rfl rfl (run_indexArr Tryz.underlying127 Sz4 (by omega) (by omega))) ?_;refine t_stArr (k:=0) (b:=ah) (l:=ar) (l':=ar.set (Int.toNat (watches.getD s 0)) true) (i:=watches.getD s 0) (v:=true) (L':=[cBlk ah (encB (ar.set (Int.toNat (watches.getD s 0)) true)) 127,cBlk al (encB (List.replicate 12 false)) 127,cBlk aq [aa,ab,ac,ae,I ai,I aj,ag] 29]) H rfl rfl rfl Sz4 (by omega) (by have bE:=au; omega) rfl rfl ?_;intro b7 H
   have bF:(ar.set (Int.toNat (watches.getD s 0)) true).length=12:=List.length_set.trans au
   refine kg 5 ?_
   exact ⟨bC,bD,ar.set (Int.toNat (watches.getD s 0)) true,s+1,_,upds_of _ _ ⟨rfl,rfl,rfl,rfl,rfl,rfl,trivial⟩,M.e_inl hM ba,H,bF⟩
  replace hM:=M.e_f hM aG
  replace aG:=dI aG
  refine W.exit ?_
  have bG:=M.e_inr hM ba
  subst bG;replace hM:=bA;(try dsimp only at hM);refine W.seq ?_;refine W.draw (fun W=>St w W [cBlk ah (encB ar) 127,cBlk aq [aa,ab,ac,ae,I ai,I aj,ag] 29] R) [(0,true),(1,true),(2,true),(3,false),(4,true)] mixed (by decide +kernel) rfl ?_;intro b8 aB;replace H:=H.ext aB;clear aB
  refine ⟨(H.pk [0,2]),?_⟩
  refine kg 1 ?_;refine d_q rfl (fun w' H=>x_ld (v:=.agg (encB ar).toArray) rfl (ldArrA Ag127 Sz127 au (H.bl 0))) ?_;refine kg 1 ?_;refine d_l rfl ?_;refine t_stArrA (k:=1) (b:=al) (l:=List.replicate 12 false) (l':=ar) (L':=[cBlk ah (encB ar) 127,cBlk al (encB ar) 127,cBlk aq [aa,ab,ac,ae,I ai,I aj,ag] 29]) H rfl rfl rfl Sz127 aM au rfl ?_;intro b9 H
  refine s_nil ⟨(H.pk [0,2]),?_⟩
  refine kg 2 ?_;replace H:=H.pk [1];refine W.ret ?_
  have bH:=(H.bl 0)
  have aA:=M.e_pure hM
  exact ⟨_,(resE_ofn (vs:=[.pointer none,.agg (encB ar).toArray,I 0]) rfl rfl (.tmp (v:=.pointer none) rfl<|.cell (v:=.agg (encB ar).toArray) rfl (run_loadVar_arr Ag127 Sz127 au bH)<|.tmp (v:=I 0) rfl<|.nil)),.inl (⟨ar,0,aA,rfl,(H.pk []),au⟩)⟩
 subst bv;subst vq;(try dsimp only at hM);replace H:=H.bk aJ;clear aJ;refine kg 6 ?_;refine W.seqJ (fun σ W=>∃ (e2:Int) (ρ:Env),σ=upds ρ [(1,aC),(5,Pq al),(7,Pq ah),(8,Pq az),(9,I e2)]/\(zbv ak av aw ax ai aj ay watches am ao e2).Ends r/\St w W [cBlk az [aa,ab,ac,ae,I am,I ao,ag,.map (some ap)] 113,cMem encDm ap aE (zaa ak av aw ax am ao ay),cBlk ah (encB (List.replicate 12 false)) 127,cBlk al (encB (List.replicate 12 false)) 127,cBlk aq [aa,ab,ac,ae,I ai,I aj,ag] 29] R) ?_ ?_
 ·skip
  have ca:=(aN).len_le
  refine kg 9 ?_;obtain ⟨r2,bI,hM⟩:=M.e_bind hM;refine t_gcall (aK==0) (gy_t rfl) cf47 (B r2) (fun _=>[aC,I (ak.length:Int)]) (fun hg=>lst2 (gd_of hg (aC)) (gd_of hg (I (ak.length:Int)))) H (fun hg=>(zcw watches (ak.length:Int) (aZ.app _) aL (M.e_opt bI hg) _ (H.give (A:=[]) rfl)).mono fun v_ w_ ⟨y_,aA,aO,H_⟩=>by subst aA; exact ⟨aO,H.via H_⟩) ?_;intro cb H;refine kg 1 ?_;refine s_val (x_pand (b:=aK==0) (r:=!r2) rfl (fun hb=>gd_of (c:=aK==0) (by first | exact hb | (rw [hb]; rfl) | simp_all) (B (!r2))) rfl)<|s_nil ?_
  refine W.cond ((aK==0)&&(!r2)) rfl (fun aR=>?_) (fun aR=>?_)
  ·replace hM:=M.e_t hM aR;refine kg 3 ?_
   exact ⟨2,_,upds_of _ _ ⟨rfl,rfl,rfl,rfl,rfl,trivial⟩,hM,H⟩
  replace hM:=M.e_f hM aR;refine W.skip ?_
  exact ⟨aK,_,upds_of _ _ ⟨rfl,rfl,rfl,rfl,rfl,trivial⟩,hM,H⟩
 rintro _ cc ⟨e2,ρ,rfl,hM,H⟩
 unfold zbv at hM
 refine kg 6 ?_
 refine W.cond (e2 != 0) rfl (fun aH=>?_) (fun aH=>?_)
 ·replace hM:=M.e_t hM aH
  replace aH:=dI aH
  refine W.seq ?_;refine W.draw (fun W=>St w W [cBlk az [aa,ab,ac,ae,I am,I ao,ag,.map (some ap)] 113,cMem encDm ap aE (zaa ak av aw ax am ao ay),cBlk ah (encB (List.replicate 12 false)) 127,cBlk aq [aa,ab,ac,ae,I ai,I aj,ag] 29] R) [(0,true),(1,true),(2,true),(3,false),(4,true)] mixed (by decide +kernel) rfl ?_;intro cd aB;replace H:=H.ext aB;clear aB
  refine ⟨(H.pk [0,1,2,4]),?_⟩
  refine d_q rfl (fun w' H=>x_ld (v:=.agg (encB (List.replicate 12 false)).toArray) rfl (ldArrA Ag127 Sz127 aD (H.bl 2))) ?_;refine kg 2 ?_;refine d_l rfl ?_;refine t_stArrA (k:=3) (b:=al) (l:=List.replicate 12 false) (l':=List.replicate 12 false) (L':=[cBlk az [aa,ab,ac,ae,I am,I ao,ag,.map (some ap)] 113,cMem encDm ap aE (zaa ak av aw ax am ao ay),cBlk ah (encB (List.replicate 12 false)) 127,cBlk al (encB (List.replicate 12 false)) 127,cBlk aq [aa,ab,ac,ae,I ai,I aj,ag] 29]) H rfl rfl rfl Sz127 aM aD rfl ?_;intro ce H
  refine s_nil ⟨(H.pk [0,1,2,4]),?_⟩
  refine kg 2 ?_;replace H:=H.pk [3];refine W.ret ?_
  have bJ:=(H.bl 0)
  have aA:=M.e_pure hM
  exact ⟨_,(resE_ofn (vs:=[.pointer none,.agg (encB (List.replicate 12 false)).toArray,I e2]) rfl rfl (.tmp (v:=.pointer none) rfl<|.cell (v:=.agg (encB (List.replicate 12 false)).toArray) rfl (run_loadVar_arr Ag127 Sz127 aD bJ)<|.tmp (v:=I e2) rfl<|.nil)),.inl (⟨(List.replicate 12 false),e2,aA,rfl,(H.pk []),aD⟩)⟩
 replace hM:=M.e_f hM aH
 replace aH:=dI aH
 have cf:=(aL).len_le
 refine kg 9 ?_;obtain ⟨bK,aS,bL⟩:=M.e_bind hM
 obtain ⟨bB,aS⟩:=M.e_iter aS
 refine W.loop (fun m σ W=>∃ (ar:List Bool) (s:Nat) (ρ:Env),σ=upds ρ [(5,Pq al),(7,Pq ah),(8,Pq az),(31,aC),(32,I (watches.length:Int)),(33,I (s:Int))]/\M.iterN (zce watches) m (ar,s)=some bK/\St w W [cBlk az [aa,ab,ac,ae,I am,I ao,ag,.map (some ap)] 113,cMem encDm ap aE (zaa ak av aw ax am ao ay),cBlk ah (encB ar) 127,cBlk al (encB (List.replicate 12 false)) 127,cBlk aq [aa,ab,ac,ae,I ai,I aj,ag] 29] R/\ar.length=12) ?_ ?_
 ·exact ⟨_,List.replicate 12 false,0,_,upds_of _ _ ⟨rfl,rfl,rfl,rfl,rfl,rfl,trivial⟩,aS,H,aD⟩
 rintro cg σ ci ⟨ar,s,ρ,rfl,bb,H,au⟩
 obtain ⟨bM,bN,cj,hM,bc⟩:=M.e_iterN bb
 simp only [zce] at hM
 clear bb;refine kg 5 ?_
 refine W.cond (decide ((s:Int)<(watches.length:Int))) rfl (fun aI=>?_) (fun aI=>?_)
 ·replace hM:=M.e_t hM aI
  replace aI:=dI aI
  obtain ⟨ck,hM⟩:=M.e_gd hM;obtain ⟨cm,hM⟩:=M.e_gd hM;refine kg 11 ?_;refine s_val (x_ix (v:=.pointer (some ⟨ah,0+Int.toNat (watches.getD s 0),none⟩)) rfl rfl (run_indexArr Tryz.underlying127 Sz4 (by omega) (by omega))) ?_;refine t_stArr (k:=2) (b:=ah) (l:=ar) (l':=ar.set (Int.toNat (watches.getD s 0)) true) (i:=watches.getD s 0) (v:=true) (L':=[cBlk az [aa,ab,ac,ae,I am,I ao,ag,.map (some ap)] 113,cMem encDm ap aE (zaa ak av aw ax am ao ay),cBlk ah (encB (ar.set (Int.toNat (watches.getD s 0)) true)) 127,cBlk al (encB (List.replicate 12 false)) 127,cBlk aq [aa,ab,ac,ae,I ai,I aj,ag] 29]) H rfl rfl rfl Sz4 (by omega) (by have bE:=au; omega) rfl rfl ?_;intro cn H
  have bO:(ar.set (Int.toNat (watches.getD s 0)) true).length=12:=List.length_set.trans au
  refine kg 5 ?_
  exact ⟨bM,bN,ar.set (Int.toNat (watches.getD s 0)) true,s+1,_,upds_of _ _ ⟨rfl,rfl,rfl,rfl,rfl,rfl,trivial⟩,M.e_inl hM bc,H,bO⟩
 replace hM:=M.e_f hM aI
 replace aI:=dI aI
 refine W.exit ?_
 have bP:=M.e_inr hM bc
 subst bP;replace hM:=bL;(try dsimp only at hM);refine W.seq ?_;refine W.draw (fun W=>St w W [cBlk az [aa,ab,ac,ae,I am,I ao,ag,.map (some ap)] 113,cMem encDm ap aE (zaa ak av aw ax am ao ay),cBlk ah (encB ar) 127,cBlk aq [aa,ab,ac,ae,I ai,I aj,ag] 29] R) [(0,true),(1,true),(2,true),(3,false),(4,true)] mixed (by decide +kernel) rfl ?_;intro co aB;replace H:=H.ext aB;clear aB
 refine ⟨(H.pk [0,1,2,4]),?_⟩
 refine kg 1 ?_;refine d_q rfl (fun w' H=>x_ld (v:=.agg (encB ar).toArray) rfl (ldArrA Ag127 Sz127 au (H.bl 2))) ?_;refine kg 1 ?_;refine d_l rfl ?_;refine t_stArrA (k:=3) (b:=al) (l:=List.replicate 12 false) (l':=ar) (L':=[cBlk az [aa,ab,ac,ae,I am,I ao,ag,.map (some ap)] 113,cMem encDm ap aE (zaa ak av aw ax am ao ay),cBlk ah (encB ar) 127,cBlk al (encB ar) 127,cBlk aq [aa,ab,ac,ae,I ai,I aj,ag] 29]) H rfl rfl rfl Sz127 aM au rfl ?_;intro cp H
 refine s_nil ⟨(H.pk [0,1,2,4]),?_⟩
 refine kg 2 ?_;replace H:=H.pk [0,1,3];refine W.ret ?_
 have bQ:=(H.bl 2)
 have aA:=M.e_pure hM
 exact ⟨_,(resE_ofn (vs:=[Pq az,.agg (encB ar).toArray,I 0]) rfl rfl (.tmp (v:=Pq az) rfl<|.cell (v:=.agg (encB ar).toArray) rfl (run_loadVar_arr Ag127 Sz127 au bQ)<|.tmp (v:=I 0) rfl<|.nil)),.inr (⟨am,ao,ar,0,az,ap,aE,aA,rfl,(H.pk [0,1]),au⟩)⟩

def za3 (t:Town) (ab ae:Int) (ac:List Int) (aa:Int):M Bool :=
  M.grd ((!(t.station==ab)||(decide ((0:Int)<=aa)&&decide (aa<(ac.length:Int))))) <|
  M.pure ((t.station==ab)&&(decide (t.alarm<=(ac.getD (Int.toNat aa) 0))))
theorem zdZ {R:List Chunk} {ag:Nat} {ah:Nat} {ai:Cells} {aj:Value} {ak:Nat} (t:Town) (aa:Int) (al:Int) (ab:List Int) (ac:Int) (aq:Has R (cBlk ag [I aa] 3)) (au:Reads R ai) (av:Sl ai aj ab) (aw:Has R (cBlk ah [I al,aj] 38)) (ax:Has R (cBlk ak [I ac] 3)) {r:Bool} (hM:(za3 t aa al ab ac).Ends r) (w:World) (H:St w w [] R):Ret Tryz.prog 108 #[.agg #[I t.station,I t.lead,I t.alarm],Pq ag,Pq ah,Pq ak] w fun v w'=>∃ (y0:Bool),y0=r/\v=B y0/\St w w' [] R:=by
 refine ret_of_W Tryz.func108 rfl rfl rfl ?_;refine kg 2 ?_;refine t_bx [I t.station,I t.lead,I t.alarm] H rfl ?_;intro ao ay H;refine kg 3 ?_;refine W.draw (fun W=>St w W [cBlk ao [I t.station,I t.lead,I t.alarm] 36] R) [(0,true),(1,true),(2,true),(3,true),(4,true),(5,true),(6,true),(7,true),(8,true),(9,true),(10,true),(11,true),(12,true),(13,true),(14,true)] mixed (by decide +kernel) rfl ?_;intro az am;replace H:=H.ext am;clear am
 refine ⟨(H.pk [0]),?_⟩
 obtain ⟨ae,hM⟩:=M.e_grd hM
 replace ae:=M.imp_of ae
 simp only [Bool.and_eq_true,decide_eq_true_eq] at ae
 refine kg 13 ?_;refine d_q rfl (fun w' H=>x_pand (b:=t.station==aa) (r:=decide (t.alarm<=(ab.getD (Int.toNat ac) 0))) rfl (fun hb=>gd_of (c:=t.station==aa) (by first | exact hb | (rw [hb]; rfl) | simp_all) (B (decide (t.alarm<=(ab.getD (Int.toNat ac) 0))))) rfl) ?_;refine kg 2 ?_;refine W.ret ?_
 have ap:=M.e_pure hM
 exact ⟨_,resE_tmp rfl,⟨((t.station==aa)&&(decide (t.alarm<=(ab.getD (Int.toNat ac) 0)))),ap,rfl,(H.pk [])⟩⟩

end Go.Proofs.YtbldmjejckjflabGreat
end
section
set_option maxRecDepth 100000
set_option maxHeartbeats 16000000
namespace Go.Proofs.YtbldmjejckjflabGreat
open Go Go.Nm
attribute [local irreducible] gd execOp SL SLD SLT WR
def zaJ (ab:List Town) (f:Flood) (p:List Bool):(Int × Int × Bool)->(Int × Int)->M ((Int × Int × Bool) ⊕ Unit):=fun (s3,s4,s5) (x,x2) =>
  M.grd (decide ((0:Int)<=x2)&&decide (x2<(12:Int))) <|
  bif ((p.getD (Int.toNat x2) false)&&(s3==(-1))) then (
  M.grd (decide ((0:Int)<=x)&&decide (x<(f.stages.length:Int))) <|
  M.bind (zbs ab (fun aa=>za3 aa x2 f.spring f.stages x)) fun r2 =>
  bif r2 then (
  M.pure (.inl (x2,f.stages.getD (Int.toNat x) 0,true)))
  else (
  M.pure (.inl (x2,f.stages.getD (Int.toNat x) 0,s5))))
  else (
  M.bind (zbs ab (fun aa=>za3 aa x2 f.spring f.stages x)) fun r2 =>
  bif r2 then (
  M.pure (.inl (s3,s4,true)))
  else (
  M.pure (.inl (s3,s4,s5))))
def zaC (ab:List Int) (ac:List Span) (ae:List Int) (aa:List Town) (ah ai:Int) (ag:List Flood) (f:Flood) (p:List Bool):M (Int × Int × Bool) :=
  M.bind (zaE ab ac ae aa ah ai ag f.spring) fun (aj,ak,al) =>
  M.bind (zaG (M.yl (zaJ aa f p)) (.inl (-1,0,false)) aj ab ac ae aa ak al ag) fun x_=>match x_ with
  | (.inl (s3,s4,s5),q0)=>(
  M.pure (s3,s4,s5))
  | (.inr _,_)=>M.fail
theorem zaH {R:List Chunk} {ak:Nat} {bo:Cells} {ac:Value} {bp:Cells} {ae:Value} {br:Cells} {ag:Value} {bt:Cells} {aa:Value} {bu:Cells} {ah:Value} {bx:Nat} {bv:Cells} {al:Value} (aI:List Int) (aJ:List Span) (aK:List Int) (am:List Town) (aB:Int) (aC:Int) (aL:List Flood) (f:Flood) (p:List Bool) (aM:Reads R bo) (aV:Sl bo ac aI) (aN:Reads R bp) (aW:Sl bp ae aJ) (aO:Reads R br) (aX:Sl br ag aK) (aD:Reads R bt) (aE:Sl bt aa am) (aP:Reads R bu) (aY:Sl bu ah aL) (aZ:Has R (cBlk ak [ac,ae,ag,aa,I aB,I aC,ah,.map (some bx)] 113)) (aQ:Reads R bv) (a6:Sl bv al f.stages) (bz:p.length=12) {r:(Int × Int × Bool)} (hM:(zaC aI aJ aK am aB aC aL f p).Ends r) (w:World) (H:St w w [] R):Ret Tryz.prog 84 #[Pq ak,.agg #[I f.spring,al],.agg (encB p).toArray] w fun v w'=>∃ (y0:Int) (y1:Int) (y2:Bool),(y0,y1,y2)=r/\v = .agg #[I y0,I y1,B y2]/\St w w' [] R:=by
 refine ret_of_WD Tryz.func84 rfl rfl rfl ?_
 replace H:St w w [cMk ([])] R:=H.mk0
 have bP:=aV.len_le
 have bQ:=aW.len_le
 have bR:=aX.len_le
 have bS:=aE.len_le
 have bT:=aY.len_le
 have bU:=a6.len_le
 unfold zaC at hM
 refine WD.seq<|WD.of<|W.region rfl ?_;refine t_b1 (Pq ak) H rfl rfl ?_;intro av bV H;refine t_bx [I f.spring,al] H rfl ?_;intro ab bW H;refine t_box (v:=.agg (encB p).toArray) (cs:=encB p) H rfl rfl ?_;intro ap bX H;refine t_alloc (cs:=[I 0,I 0,B false]) H Al136 rfl ?_;intro aw bY H;refine s_nil<|WD.seq<|WD.of<|W.region rfl<|s_val (x_bld (ps:=[(0,I (-1))]) (zs:=[I 0,I 0,B false]) (L':=[I (-1),I 0,B false]) rfl Tryz.underlying136 Al136 rfl (Bd136 Tryz.underlying136) (.cons (cs:=[I (-1)]) rfl rfl rfl rfl rfl<|.nil)) ?_;refine t_alloc (cs:=[I 0,I 0,B false]) H Al136 rfl ?_;intro ai bZ H;refine t_sw 0 0 [I (-1),I 0,B false] (.agg #[I (-1),I 0,B false]) H rfl rfl Sz136 rfl rfl rfl rfl ?_;intro b0 H;refine s_nil<|WD.seq<|WD.seq<|WD.of ?_;refine W.draw (fun W=>St w W [cBlk ai [I (-1),I 0,B false] 136,cBlk aw [I 0,I 0,B false] 136,cBlk ap (encB p) 127,cBlk ab [I f.spring,al] 38,cBlk av [Pq ak] 108,cMk ([])] R) [(0,true),(1,true),(2,true),(3,true),(4,true),(5,true),(6,false)] mixed (by decide +kernel) rfl ?_;intro b1 aF;replace H:=H.ext aF;clear aF
 refine ⟨(H.pk [0,1,2,3,4,5]),?_⟩
 refine kg 3 ?_;refine d_q rfl (fun w' H=>x_ld (v:=.agg #[ac,ae,ag,aa,I aB,I aC,ah]) rfl (ldb_ag (ds:=[ac,ae,ag,aa,I aB,I aC,ah]) Ag29 Sz29 (aZ.blk H) rfl rfl)) ?_;refine kg 2 ?_;refine d_l rfl ?_;obtain ⟨b2,bA,hM⟩:=M.e_bind hM;refine s_call cf51 [.agg #[ac,ae,ag,aa,I aB,I aC,ah],I f.spring] rfl (zaV aI aJ aK am aB aC aL f.spring (aM.app _) aV (aN.app _) aW (aO.app _) aX (aD.app _) aE (aP.app _) aY bA _ (H.gt 6)) ?_
 rintro vq b3 ⟨aR,ax,ay,aG,az,rfl,hvq,aj⟩
 subst vq;(try dsimp only at hM);replace H:=H.bk aj;clear aj
 refine s_nil ⟨(H.pk [2,3,4,5,6,7]),?_⟩
 refine d_nil<|WD.block ?_;obtain ⟨b4,bB,hM⟩:=M.e_bind hM;refine WD.range (L:=[cBlk ai [I (-1),I 0,B false] 136,cBlk az [ac,ae,ag,aa,I ax,I ay,ah] 29,cBlk aw [I 0,I 0,B false] 136,cBlk ap (encB p) 127,cBlk ab [I f.spring,al] 38,cBlk av [Pq ak] 108,cBlk aG [I aR] 3]) [Pq aG,Pq az] (H.pk [7,2,1,3,4,5,6,0]) rfl cf95 ?_;intro aS aT a7 bC a8 H
 have hYC:YieldC Tryz.prog ([cMk (aT :: ([])),cBlk az [ac,ae,ag,aa,I ax,I ay,ah] 29,cBlk aw [I 0,I 0,B false] 136,cBlk ap (encB p) 127,cBlk ab [I f.spring,al] 38,cBlk av [Pq ak] 108]++R) arII (yJ aS a7 (fun (s3,s4,s5) aU=>aU=[cBlk ai [I s3,I s4,B s5] 136]) (fun (_:Unit) _=>False) (fun _=>.ret)) (.func (.yield aS) #[] #[]) (M.yl (zaJ am f p)):=by
  refine YieldC.mk2 a8 (fun (s3,s4,s5) aU=>aU=[cBlk ai [I s3,I s4,B s5] 136]) (fun (_:Unit) _=>False) (fun _=>.ret) (zaJ am f p) (by rintro ⟨s3,s4,s5⟩ _ h_; obtain ⟨rfl⟩:=h_; rfl) (fun _ _ h_=>h_.elim) rfl (arII_len rfl) ?_;intro C_ b5 x_ bD
  obtain ⟨x,x2⟩:=x_
  obtain rfl:=bD
  intro w R ao aU s_ r bE hM H
  obtain ⟨s3,s4,s5⟩:=s_
  obtain ⟨rfl⟩:=bE
  replace H:=H.nf;refine kg 2 ?_;refine t_alloc (cs:=[I 0]) H Al3 rfl ?_;intro aq b6 H;refine t_sw 0 0 [I x] (I x) H rfl rfl Sz3 rfl rfl rfl rfl ?_;intro b7 H;refine kg 2 ?_;refine t_alloc (cs:=[I 0]) H Al3 rfl ?_;intro au b8 H;refine t_sw 0 0 [I x2] (I x2) H rfl rfl Sz3 rfl rfl rfl rfl ?_;intro b9 H;refine s_nil ?_
  refine ⟨rfl,[cBlk au [I x2] 3,cBlk aq [I x] 3],H.pick [0,1,2,3,4,5,6,7,8] (by decide) rfl,?_⟩
  clear H ao
  intro w R ao H
  replace aM:=aM.sub ao
  replace aN:=aN.sub ao
  replace aO:=aO.sub ao
  replace aD:=aD.sub ao
  replace aP:=aP.sub ao
  replace aZ:=aZ.sub ao
  replace aQ:=aQ.sub ao
  replace hM:(zaJ am f p (s3,s4,s5) (x,x2)).Ends r:=hM
  simp only [zaJ] at hM
  replace H:=H.nf;obtain ⟨ca,hM⟩:=M.e_gd hM;refine kg 5 ?_;refine s_val (x_ix (v:=.pointer (some ⟨ap,0+Int.toNat x2,none⟩)) rfl rfl (run_indexArr Tryz.underlying127 Sz4 (by omega) (by omega)))<|s_val (x_ld (v:=B (p.getD (Int.toNat x2) false)) rfl (ldArr Sc4 (H.bl 6) (by omega) (by have cb:=bz; omega))) ?_;refine kg 4 ?_;refine s_val (x_pand (b:=p.getD (Int.toNat x2) false) (r:=s3==(-1)) rfl (fun hb=>gd_of (c:=p.getD (Int.toNat x2) false) (by first | exact hb | (rw [hb]; rfl) | simp_all) (B (s3==(-1)))) rfl)<|s_nil ?_
  refine W.cond ((p.getD (Int.toNat x2) false)&&(s3==(-1))) rfl (fun ba=>?_) (fun ba=>?_)
  ·replace hM:=M.e_t hM ba;refine W.draw (fun W=>St w W [cBlk au [I x2] 3,cBlk aq [I x] 3,cMk (aT :: ([])),cBlk az [ac,ae,ag,aa,I ax,I ay,ah] 29,cBlk aw [I 0,I 0,B false] 136,cBlk ap (encB p) 127,cBlk ab [I f.spring,al] 38,cBlk av [Pq ak] 108] R) [(0,true),(1,true),(2,true),(3,true),(4,true),(5,true),(6,true),(7,false),(8,true),(9,false)] mixed (by decide +kernel) rfl ?_;intro cc aF;replace H:=H.ext aF;clear aF
   refine ⟨(H.pk [0,1,3,4,5,6,7,8]),?_⟩
   obtain ⟨cd,hM⟩:=M.e_gd hM;refine kg 7 ?_;refine d_l rfl ?_;refine t_sw 2 0 [I x2] (I x2) H rfl rfl Sz3 rfl rfl rfl rfl ?_;intro ce H
   refine s_nil ⟨(H.pk [0,1,3,4,5,6,7,8]),?_⟩
   refine kg 1 ?_;refine d_l rfl ?_;refine t_sw 2 1 [I (f.stages.getD (Int.toNat x) 0)] (I (f.stages.getD (Int.toNat x) 0)) H rfl rfl Sz3 rfl rfl rfl rfl ?_;intro cf H
   refine s_nil ⟨(H.pk [0,1,3,4,5,6,7,8]),?_⟩
   refine kg 8 ?_;refine s_val (x_mf (fs:=[]) (cs:=[Pq au,Pq ab,Pq aq]) rfl rfl) ?_;obtain ⟨cg,bF,hM⟩:=M.e_bind hM;refine s_call cf93 [aa,.func (.func 108) #[] #[Pq au,Pq ab,Pq aq]] rfl (zcE am (fun aA=>za3 aA x2 f.spring f.stages x) (aD.app _) aE ⟨108,[Pq au,Pq ab,Pq aq],rfl,cf108,fun aH bG bH bb aA bI bc bJ bf bg=>by obtain rfl:=Town_arg bf; exact (zdZ aA x2 f.spring f.stages x (Has.app (Has.here (k:=0) rfl) _) (Reads.app (aQ.app _) _) a6 (Has.app (Has.here (k:=7) rfl) _) (Has.app (Has.here (k:=1) rfl) _) bg aH (St.refl bc)).mono fun bb aH ⟨bK,bh,bi,bj⟩=>by subst bh; exact ⟨bi,bj⟩⟩ bF _ (H.gt 9)) ?_
   rintro vq ci ⟨r2,rfl,hvq,aj⟩
   subst vq;(try dsimp only at hM);replace H:=H.bk aj;clear aj;refine s_nil ?_
   refine W.cond r2 rfl (fun bm=>?_) (fun bm=>?_)
   ·replace hM:=M.e_t hM bm;refine kg 2 ?_;refine t_sw 2 2 [B true] (B true) H rfl rfl Sz4 rfl rfl rfl rfl ?_;intro cj H;refine s_nil ?_
    exact ⟨(x2,f.stages.getD (Int.toNat x) 0,true),[cBlk ai [I x2,I (f.stages.getD (Int.toNat x) 0),B true] 136],(M.e_pure hM).symm,rfl,H.pick [2,3,4,5,6,7,8] (by decide) rfl⟩
   replace hM:=M.e_f hM bm;refine W.skip ?_
   exact ⟨(x2,f.stages.getD (Int.toNat x) 0,s5),[cBlk ai [I x2,I (f.stages.getD (Int.toNat x) 0),B s5] 136],(M.e_pure hM).symm,rfl,H.pick [2,3,4,5,6,7,8] (by decide) rfl⟩
  replace hM:=M.e_f hM ba;refine kg 8 ?_;refine s_val (x_mf (fs:=[]) (cs:=[Pq au,Pq ab,Pq aq]) rfl rfl) ?_;obtain ⟨ck,bL,hM⟩:=M.e_bind hM;refine s_call cf93 [aa,.func (.func 108) #[] #[Pq au,Pq ab,Pq aq]] rfl (zcE am (fun aA=>za3 aA x2 f.spring f.stages x) (aD.app _) aE ⟨108,[Pq au,Pq ab,Pq aq],rfl,cf108,fun aH bG bH bb aA bI bc bJ bf bg=>by obtain rfl:=Town_arg bf; exact (zdZ aA x2 f.spring f.stages x (Has.app (Has.here (k:=0) rfl) _) (Reads.app (aQ.app _) _) a6 (Has.app (Has.here (k:=7) rfl) _) (Has.app (Has.here (k:=1) rfl) _) bg aH (St.refl bc)).mono fun bb aH ⟨bK,bh,bi,bj⟩=>by subst bh; exact ⟨bi,bj⟩⟩ bL _ (H.gt 9)) ?_
  rintro vq cm ⟨r2,rfl,hvq,aj⟩
  subst vq;(try dsimp only at hM);replace H:=H.bk aj;clear aj;refine s_nil ?_
  refine W.cond r2 rfl (fun bn=>?_) (fun bn=>?_)
  ·replace hM:=M.e_t hM bn;refine kg 2 ?_;refine t_sw 2 2 [B true] (B true) H rfl rfl Sz4 rfl rfl rfl rfl ?_;intro cn H;refine s_nil ?_
   exact ⟨(s3,s4,true),[cBlk ai [I s3,I s4,B true] 136],(M.e_pure hM).symm,rfl,H.pick [2,3,4,5,6,7,8] (by decide) rfl⟩
  replace hM:=M.e_f hM bn;refine W.skip ?_
  exact ⟨(s3,s4,s5),[cBlk ai [I s3,I s4,B s5] 136],(M.e_pure hM).symm,rfl,H.pick [2,3,4,5,6,7,8] (by decide) rfl⟩
 replace H:St w bC (cAll (cObj aS (.loop a7) :: [cBlk ai [I (-1),I 0,B false] 136]) :: [cBlk aG [I aR] 3,cMk (aT :: ([])),cBlk az [ac,ae,ag,aa,I ax,I ay,ah] 29,cBlk aw [I 0,I 0,B false] 136,cBlk ap (encB p) 127,cBlk ab [I f.spring,al] 38,cBlk av [Pq ak] 108]) R:=St.bundleB (A:=cObj aS (.loop a7) :: [cBlk ai [I (-1),I 0,B false] 136]) (T:=[cBlk aG [I aR] 3,cMk (aT :: ([])),cBlk az [ac,ae,ag,aa,I ax,I ay,ah] 29,cBlk aw [I 0,I 0,B false] 136,cBlk ap (encB p) 127,cBlk ab [I f.spring,al] 38,cBlk av [Pq ak] 108]) rfl (H.pk [0,2,8,1,3,4,5,6,7])
 refine (zaS (M.yl (zaJ am f p)) (.inl (-1,0,false)) aR aI aJ aK am ax ay aL hYC ⟨_,rfl,rfl⟩ (aM.app _) aV (aN.app _) aW (aO.app _) aX (aD.app _) aE (aP.app _) aY (Has.here (k:=1) rfl) bB _ (H.gt 6)).mono ?_
 rintro vq co ⟨bM,q0,cp,rfl,hvq,aj,bw⟩
 replace H:=H.back aj rfl
 clear aj hYC
 rcases bM with ⟨s3,s4,s5⟩ | _
 ·(try dsimp only at hM)
  obtain ⟨_,rfl,rfl⟩:=bw
  refine ⟨_,[cBlk ai [I s3,I s4,B s5] 136,cBlk az [ac,ae,ag,aa,I ax,I ay,ah] 29,cBlk aw [I 0,I 0,B false] 136,cBlk ap (encB p) 127,cBlk ab [I f.spring,al] 38,cBlk av [Pq ak] 108,cBlk aG [I q0] 3],H.unbundle.pick [0,3,1,4,5,6,7,8,2] (by decide) rfl,a8.nb,?_⟩
  intro cq H
  rw [a8.pd]
  replace H:=H.nf
  try simp only []
  replace H:=H.pk [0,1,3];refine WD.seq<|WD.of ?_;refine kg 2 ?_;refine t_sw 2 0 [I s3,I s4,B s5] (.agg #[I s3,I s4,B s5]) H rfl rfl Sz136 rfl rfl rfl rfl ?_;intro cr H;refine s_nil<|WD.of ?_;refine W.ret ?_;refine bodyD_r (H.pk [0,1,2]) ?_;intro ct H;replace H:=H.nf
  have bN:=(H.bl 1)
  have bO:=M.e_pure hM
  exact ⟨_,(resE_of1 (v:=.agg #[I s3,I s4,B s5]) rfl (.cell (v:=.agg #[I s3,I s4,B s5]) rfl (run_loadVar_ag (ds:=[I s3,I s4,B s5]) Ag136 Sz136 bN rfl rfl)<|.nil)),⟨s3,s4,s5,bO,rfl,(H.pk [])⟩⟩
 obtain ⟨_,_,h_⟩:=bw; exact h_.elim

def zex (x:Rpt) (aa:Int):M Bool :=
  M.pure (x.danger&&(x.watch==aa))
theorem zfh {R:List Chunk} {ab:Nat} (x:Rpt) (aa:Int) (ae:Has R (cBlk ab [I aa] 3)) {r:Bool} (hM:(zex x aa).Ends r) (w:World) (H:St w w [] R):Ret Tryz.prog 87 #[.agg #[I x.watch,I x.stage,B x.danger],Pq ab] w fun v w'=>∃ (y0:Bool),y0=r/\v=B y0/\St w w' [] R:=by
 refine ret_of_W Tryz.func87 rfl rfl rfl ?_;refine kg 2 ?_;refine t_bx [I x.watch,I x.stage,B x.danger] H rfl ?_;intro ag ah H;refine kg 11 ?_;refine s_val (x_pand (b:=x.danger) (r:=x.watch==aa) rfl (fun hb=>gd_of (c:=x.danger) (by first | exact hb | (rw [hb]; rfl) | simp_all) (B (x.watch==aa))) rfl) ?_;refine kg 2 ?_;refine W.ret ?_
 have ac:=M.e_pure hM
 exact ⟨_,resE_tmp rfl,⟨(x.danger&&(x.watch==aa)),ac,rfl,(H.pk [])⟩⟩

def zdk (ab:List Int) (ac:List Span) (ae:List Int) (ag:List Town) (ah ai:Int) (aa:List Flood) (p:List Bool) (aj:Int):(Nat × (List Int))->M ((Nat × (List Int)) ⊕ ((List Int) × (List Int))):=fun (s,l) =>
  bif decide ((s:Int)<(aa.length:Int)) then (
  M.grd (decide ((s:Int)<(aa.length:Int))) <|
  M.bind (zaC ab ac ae ag ah ai aa (aa.getD s default) p) fun (r0,r1,r2) =>
  M.bind (zex (⟨(r0:Int),(r1:Int),r2⟩:Rpt) aj) fun r3 =>
  bif r3 then (
  M.grd (decide ((l.length+([(s:Int)]).length)*8<=140737488355328)) <|
  M.pure (.inl (s+1,l++([(s:Int)]))))
  else (
  M.pure (.inl (s+1,l))))
  else (
  M.pure (.inr (l,l)))
def zd8 (aa:List Int) (ab:List Span) (ac:List Int) (ae:List Town) (ag ah:Int) (ai:List Flood) (p:List Bool) (aj:Int):M (List Int) :=
  M.bind (M.iter (zdk aa ab ac ae ag ah ai p aj) (0,[])) fun (l2,l3) =>
  M.pure l3
theorem ze5 {R:List Chunk} {aj:Nat} {aD:Cells} {aE:Value} {aF:Cells} {aG:Value} {aH:Cells} {aI:Value} {aJ:Cells} {aK:Value} {aL:Cells} {av:Value} {aR:Nat} {ag:Nat} (ak:List Int) (al:List Span) (am:List Int) (ao:List Town) (ap:Int) (aq:Int) (aa:List Flood) (p:List Bool) (au:Int) (aS:Reads R aD) (aT:Sl aD aE ak) (aU:Reads R aF) (aV:Sl aF aG al) (aW:Reads R aH) (aX:Sl aH aI am) (aY:Reads R aJ) (aZ:Sl aJ aK ao) (aw:Reads R aL) (ax:Sl aL av aa) (a6:Has R (cBlk aj [aE,aG,aI,aK,I ap,I aq,av,.map (some aR)] 113)) (aM:p.length=12) (a7:Has R (cBlk ag [I au] 3)) {r:(List Int)} (hM:(zd8 ak al am ao ap aq aa p au).Ends r) (w:World) (H:St w w [] R):Ret Tryz.prog 86 #[Pq aj,.agg (encB p).toArray,.agg #[.func (.func 87) #[] #[Pq ag]]] w fun v w'=>∃ (y0:List Int) (u0:Value),y0=r/\v=u0/\St w w' [cOwn (α:=Int) 3 u0 y0] R:=by
 refine ret_of_W Tryz.func86 rfl rfl rfl ?_;refine kg 2 ?_;refine t_box (v:=.agg (encB p).toArray) (cs:=encB p) H rfl rfl ?_;intro ay bn H;refine t_bx [.func (.func 87) #[] #[Pq ag]] H rfl ?_;intro az bo H
 have bp:=(ax).len_le
 refine kg 18 ?_
 replace H:=H.nilOwn (α:=Int) 3
 obtain ⟨a8,aA,ba⟩:=M.e_bind hM
 obtain ⟨br,aA⟩:=M.e_iter aA
 refine W.loop (fun m σ W=>∃ (s:Nat) (l:List Int) (ac:Value) (ρ:Env),σ=upds ρ [(0,Pq aj),(4,Pq ay),(5,Pq az),(7,ac),(14,av),(15,I (aa.length:Int)),(16,I (s:Int))]/\M.iterN (zdk ak al am ao ap aq aa p au) m (s,l)=some a8/\St w W [cOwn (α:=Int) 3 ac l,cBlk az [.func (.func 87) #[] #[Pq ag]] 143,cBlk ay (encB p) 127] R) ?_ ?_
 ·exact ⟨_,0,[],(.slice none 0 0),_,upds_of _ _ ⟨rfl,rfl,rfl,rfl,rfl,rfl,rfl,trivial⟩,aA,H⟩
 rintro bt σ bu ⟨s,l,ac,ρ,rfl,aN,H⟩
 obtain ⟨aO,aP,bv,hM,aB⟩:=M.e_iterN aN
 simp only [zdk] at hM
 clear aN;refine kg 5 ?_
 refine W.cond (decide ((s:Int)<(aa.length:Int))) rfl (fun ab=>?_) (fun ab=>?_)
 ·replace hM:=M.e_t hM ab
  replace ab:=dI ab
  obtain ⟨bw,hM⟩:=M.e_gd hM;refine kg 7 ?_
  obtain ⟨ae,bb,ah⟩:=Flood_atA ax (i:=(s:Int)) (by omega) (by omega)
  replace ah:Sl _ ae (aa.getD s default).stages:=ah
  have bx:=ah.len_le
  refine s_val (x_ld (v:=.agg #[I ((aa.getD s default).spring),ae]) rfl (ld_ag Ag38 Sz38 (At.mono bb (aw.at H)))) ?_;refine t_alloc (cs:=[I 0,.slice none 0 0]) H Al38 rfl ?_;intro bc bz H;refine kg 1 ?_;refine t_sw 0 0 [I ((aa.getD s default).spring),ae] (.agg #[I ((aa.getD s default).spring),ae]) H rfl rfl Sz38 rfl rfl rfl (by simp only [List.all_cons,List.all_nil,Bool.true_and,Bool.and_true,Sl.oc ah]; try rfl) ?_;intro bA H;refine kg 2 ?_;refine W.draw (fun W=>St w W [cBlk bc [I ((aa.getD s default).spring),ae] 38,cOwn (α:=Int) 3 ac l,cBlk az [.func (.func 87) #[] #[Pq ag]] 143,cBlk ay (encB p) 127] R) [(0,true),(1,true),(2,true),(3,true),(4,true),(5,false),(6,false)] mixed (by decide +kernel) rfl ?_;intro bB aQ;replace H:=H.ext aQ;clear aQ
  refine ⟨(H.pk [0,1,2,3]),?_⟩
  refine kg 4 ?_;refine d_q rfl (fun w' H=>x_ld (v:=.agg (encB p).toArray) rfl (ldArrA Ag127 Sz127 aM (H.bl 3)))<|d_l rfl ?_;obtain ⟨bC,bf,hM⟩:=M.e_bind hM;refine s_call cf84 [Pq aj,.agg #[I ((aa.getD s default).spring),ae],.agg (encB p).toArray] rfl (zaH ak al am ao ap aq aa (aa.getD s default) p (aS.app _) aT (aU.app _) aV (aW.app _) aX (aY.app _) aZ (aw.app _) ax (a6.app _) (aw.app _) ah aM bf _ (H.gt 4)) ?_
  rintro vq bD ⟨r0,r1,r2,rfl,hvq,ai⟩
  subst vq;(try dsimp only at hM);replace H:=H.bk ai;clear ai
  refine s_nil ⟨(H.pk [0,1,2,3]),?_⟩
  refine d_l rfl ?_;obtain ⟨bE,bg,hM⟩:=M.e_bind hM;refine s_callv (f:=87) rfl cf87 [.agg #[I r0,I r1,B r2]] rfl (zfh (⟨(r0:Int),(r1:Int),r2⟩:Rpt) au (a7.app _) bg _ (H.gt 4)) ?_
  rintro vq bF ⟨r3,rfl,hvq,ai⟩
  subst vq;(try dsimp only at hM);replace H:=H.bk ai;clear ai
  refine s_nil ⟨(H.pk [0,1,2,3]),?_⟩
  refine d_nil ?_
  refine W.cond r3 rfl (fun aC=>?_) (fun aC=>?_)
  ·replace hM:=M.e_t hM aC;refine kg 3 ?_;refine t_bs (α:=Int) T22 [I (s:Int)] [(s:Int)] H rfl (.cons rfl (Flat.rep_enc _ (s:Int))<|.nil) rfl rfl rfl ?_;intro bh bG H;obtain ⟨bH,hM⟩:=M.e_gd hM;refine t_app (α:=Int) (k:=2) (l:=l) (l2:=[(s:Int)]) (l':=l++([(s:Int)])) (vy:=bh) T22 rfl H rfl rfl rfl (H.os 0) (H.ol 0) (rfl) (by first | omega | (simp only [List.length_nil] at *; omega)) ?_;intro bi bI H;replace H:=H.nf;refine kg 2 ?_;replace H:=H.pk [2,3,4];refine kg 4 ?_
   exact ⟨aO,aP,s+1,l++([(s:Int)]),bi,_,upds_of _ _ ⟨rfl,rfl,rfl,rfl,rfl,rfl,rfl,trivial⟩,M.e_inl hM aB,H⟩
  replace hM:=M.e_f hM aC;refine kg 5 ?_
  exact ⟨aO,aP,s+1,l,ac,_,upds_of _ _ ⟨rfl,rfl,rfl,rfl,rfl,rfl,rfl,trivial⟩,M.e_inl hM aB,(H.pk [1,2,3])⟩
 replace hM:=M.e_f hM ab
 replace ab:=dI ab
 refine W.exit ?_
 have bj:=M.e_inr hM aB
 subst bj;replace hM:=ba;(try dsimp only at hM);replace H:=H.pk [0];refine kg 5 ?_;refine W.ret ?_
 have bm:=M.e_pure hM
 exact ⟨_,resE_tmp rfl,⟨l,ac,bm,rfl,H⟩⟩

def zbH (ae:List Int) (ag:List Span) (ah:List Int) (ai:List Town) (aa:List Flood) (aj ak:Int) (al:List Bool) (r3:List Int):(Int × Int × Nat)->M ((Int × Int × Nat) ⊕ (Int × Int)):=fun (ab,flood,s) =>
  bif decide ((s:Int)<(r3.length:Int)) then (
  M.grd (decide ((s:Int)<(r3.length:Int))) <|
  M.grd (decide ((0:Int)<=(r3.getD s 0))&&decide ((r3.getD s 0)<(aa.length:Int))) <|
  M.bind (zaC ae ag ah ai aj ak aa (aa.getD (Int.toNat (r3.getD s 0)) default) al) fun (r0,ac,am) =>
  bif decide (ac<ab) then (
  M.pure (.inl (ac,r3.getD s 0,s+1)))
  else (
  M.pure (.inl (ab,flood,s+1))))
  else (
  M.pure (.inr (ab,flood)))
def zc7 (aa:List Int) (ab:List Span) (ac:List Int) (ae:List Town) (ag:List Flood) (watches:List Int) (ah ai:Int) (aj:List Bool):(Nat × (List Int) × (List Int))->M ((Nat × (List Int) × (List Int)) ⊕ ((List Int) × (List Int) × (List Int) × (List Int))):=fun (s2,l,l2) =>
  bif decide ((s2:Int)<(watches.length:Int)) then (
  M.grd (decide ((s2:Int)<(watches.length:Int))) <|
  M.bind (zd8 aa ab ac ae ah ai ag aj (watches.getD s2 0)) fun r3 =>
  M.bind (M.iter (zbH aa ab ac ae ag ah ai aj r3) (2001,-1,0)) fun (ak,flood2) =>
  M.grd (decide ((l.length+([(ak:Int)]).length)*8<=140737488355328)) <|
  M.grd (decide ((l2.length+([(flood2:Int)]).length)*8<=140737488355328)) <|
  M.pure (.inl (s2+1,l++([(ak:Int)]),l2++([(flood2:Int)]))))
  else (
  M.pure (.inr (l,l2,l2,l)))
def zbl (aa:List Int) (ab:List Span) (ac:List Int) (ae:List Town) (ah ai:Int) (ag:List Flood) (watches:List Int):M ((List Int) × (List Int) × Int) :=
  M.bind (za1 aa ab ac ae ah ai ag watches) fun x_=>match x_ with
  | (.inl (r1,r2))=>(
  bif r2 != 0 then (
  M.pure (([]),([]),r2))
  else (
  M.fail))
  | (.inr (aj,ak,al,am))=>(
  bif am != 0 then (
  M.fail)
  else (
  M.bind (M.iter (zc7 aa ab ac ae ag watches aj ak al) (0,[],[])) fun (l3,l4,l5,l6) =>
  M.pure (l6,l5,0)))
theorem zbD {R:List Chunk} {bi:Cells} {ae:Value} {bj:Cells} {ag:Value} {bm:Cells} {ah:Value} {bn:Cells} {ai:Value} {bo:Cells} {aj:Value} {bp:Cells} {aK:Value} (ao:List Int) (ap:List Span) (aq:List Int) (au:List Town) (av:Int) (aw:Int) (aa:List Flood) (watches:List Int) (aS:Reads R bi) (aT:Sl bi ae ao) (aU:Reads R bj) (aV:Sl bj ag ap) (aW:Reads R bm) (aX:Sl bm ah aq) (aY:Reads R bn) (aZ:Sl bn ai au) (aB:Reads R bo) (aL:Sl bo aj aa) (bx:Reads R bp) (br:Sl bp aK watches) {r:((List Int) × (List Int) × Int)} (hM:(zbl ao ap aq au av aw aa watches).Ends r) (w:World) (H:St w w [] R):Ret Tryz.prog 41 #[.agg #[ae,ag,ah,ai,I av,I aw,aj],aK] w fun v w'=>∃ (y0:List Int) (y1:List Int) (y2:Int) (u0:Value) (u1:Value),(y0,y1,y2)=r/\v = .tuple #[u0,u1,I y2]/\St w w' [cOwn (α:=Int) 3 u0 y0,cOwn (α:=Int) 3 u1 y1] R:=by
 refine ret_of_W Tryz.func41 rfl rfl rfl ?_;refine kg 2 ?_;refine t_bx [ae,ag,ah,ai,I av,I aw,aj] H rfl ?_;intro aM bW H;refine kg 8 ?_;obtain ⟨bX,bz,hM⟩:=M.e_bind hM;refine s_call cf75 [.agg #[ae,ag,ah,ai,I av,I aw,aj],aK] rfl (za8 ao ap aq au av aw aa watches (aS.app _) aT (aU.app _) aV (aW.app _) aX (aY.app _) aZ (aB.app _) aL (bx.app _) br bz _ (H.gt 1)) ?_
 rintro vq bY (⟨r1,r2,bA,hvq,ac,bB⟩ | ⟨ak,al,ab,bC,ay,aA,a6,bD,hvq,ac,aJ⟩)
 ·subst bA;subst vq;(try dsimp only at hM);replace H:=H.bk ac;clear ac;refine kg 4 ?_;refine t_alloc (cs:=encB (List.replicate 12 false)) H Al127 rfl ?_;intro ax bZ H
  have bb:(List.replicate 12 false).length=12:=by simp
  refine kg 1 ?_;refine t_stArrA (k:=0) (b:=ax) (l:=List.replicate 12 false) (l':=r1) (L':=[cBlk ax (encB r1) 127,cBlk aM [ae,ag,ah,ai,I av,I aw,aj] 29]) H rfl rfl rfl Sz127 bb bB rfl ?_;intro b0 H;refine kg 8 ?_
  refine W.cond (r2 != 0) rfl (fun aN=>?_) (fun aN=>?_)
  ·replace hM:=M.e_t hM aN
   replace aN:=dI aN
   refine kg 7 ?_;replace H:=H.pk [];refine W.ret ?_
   have bc:=M.e_pure hM
   replace H:=H.nilOwn (α:=Int) 3
   replace H:=H.nilOwn (α:=Int) 3
   exact ⟨_,resE_tmp3 rfl,⟨([]),([]),r2,(.slice none 0 0),(.slice none 0 0),bc,rfl,(H.pk [1,0])⟩⟩
  replace hM:=M.e_f hM aN
  exact (M.e_fail hM).elim
 subst bD;subst vq;(try dsimp only at hM);replace H:=H.bk ac;clear ac;refine kg 4 ?_;refine t_alloc (cs:=encB (List.replicate 12 false)) H Al127 rfl ?_;intro ax b1 H
 have bb:(List.replicate 12 false).length=12:=by simp
 refine kg 1 ?_;refine t_stArrA (k:=0) (b:=ax) (l:=List.replicate 12 false) (l':=ab) (L':=[cBlk ax (encB ab) 127,cBlk ay [ae,ag,ah,ai,I ak,I al,aj,.map (some aA)] 113,cMem encDm aA a6 (zaa ao ap aq au ak al aa),cBlk aM [ae,ag,ah,ai,I av,I aw,aj] 29]) H rfl rfl rfl Sz127 bb aJ rfl ?_;intro b2 H;refine kg 8 ?_
 refine W.cond (bC != 0) rfl (fun aO=>?_) (fun aO=>?_)
 ·replace hM:=M.e_t hM aO
  exact (M.e_fail hM).elim
 replace hM:=M.e_f hM aO
 replace aO:=dI aO
 have b3:=(br).len_le
 refine kg 9 ?_
 replace H:=H.nilOwn (α:=Int) 3
 replace H:=H.nilOwn (α:=Int) 3
 obtain ⟨bE,bf,bF⟩:=M.e_bind hM
 obtain ⟨bG,bf⟩:=M.e_iter bf
 refine W.loop (fun m σ W=>∃ (s2:Nat) (l:List Int) (l2:List Int) (aC:Value) (aD:Value) (ρ:Env),σ=upds ρ [(4,aC),(5,aD),(7,Pq ay),(8,Pq ax),(26,aK),(27,I (watches.length:Int)),(28,I (s2:Int))]/\M.iterN (zc7 ao ap aq au aa watches ak al ab) m (s2,l,l2)=some bE/\St w W [cOwn (α:=Int) 3 aD l2,cOwn (α:=Int) 3 aC l,cBlk ax (encB ab) 127,cBlk ay [ae,ag,ah,ai,I ak,I al,aj,.map (some aA)] 113,cMem encDm aA a6 (zaa ao ap aq au ak al aa),cBlk aM [ae,ag,ah,ai,I av,I aw,aj] 29] R) ?_ ?_
 ·exact ⟨_,0,[],[],(.slice none 0 0),(.slice none 0 0),_,upds_of _ _ ⟨rfl,rfl,rfl,rfl,rfl,rfl,rfl,trivial⟩,bf,H⟩
 rintro b4 σ b5 ⟨s2,l,l2,aC,aD,ρ,rfl,bt,H⟩
 obtain ⟨bH,bI,b6,hM,bu⟩:=M.e_iterN bt
 simp only [zc7] at hM
 clear bt;refine kg 5 ?_
 refine W.cond (decide ((s2:Int)<(watches.length:Int))) rfl (fun aE=>?_) (fun aE=>?_)
 ·replace hM:=M.e_t hM aE
  replace aE:=dI aE
  obtain ⟨b7,hM⟩:=M.e_gd hM;refine kg 7 ?_;refine t_alloc (cs:=[I 0]) H Al3 rfl ?_;intro aF b8 H;refine t_sw 0 0 [I (watches.getD s2 0)] (I (watches.getD s2 0)) H rfl rfl Sz3 rfl rfl rfl rfl ?_;intro b9 H;refine kg 10 ?_;refine s_val (x_ld (v:=.agg (encB ab).toArray) rfl (ldArrA Ag127 Sz127 aJ (H.bl 3)))<|s_val (x_mf (fs:=[]) (cs:=[Pq aF]) rfl rfl)<|s_val (x_bld (ps:=[(0,.func (.func 87) #[] #[Pq aF])]) (zs:=[.nilFunc]) (L':=[.func (.func 87) #[] #[Pq aF]]) rfl Tryz.underlying143 Al143 rfl (Bd143 Tryz.underlying143) (.cons (cs:=[.func (.func 87) #[] #[Pq aF]]) rfl rfl rfl rfl rfl<|.nil)) ?_;obtain ⟨ca,bJ,hM⟩:=M.e_bind hM;refine s_call cf86 [Pq ay,.agg (encB ab).toArray,.agg #[.func (.func 87) #[] #[Pq aF]]] rfl (ze5 ao ap aq au ak al aa ab (watches.getD s2 0) (aS.app _) aT (aU.app _) aV (aW.app _) aX (aY.app _) aZ (aB.app _) aL (Has.here (k:=4) rfl) aJ (Has.here (k:=0) rfl) bJ _ (H.gt 7)) ?_
  rintro vq cb ⟨r3,bg,rfl,hvq,ac⟩
  subst vq;(try dsimp only at hM);replace H:=H.bk ac;clear ac
  have cc:=((H.os 0)).len_le
  refine kg 4 ?_;obtain ⟨bK,bh,bL⟩:=M.e_bind hM
  obtain ⟨bG,bh⟩:=M.e_iter bh
  refine W.loop (fun m σ W=>∃ (am:Int) (flood:Int) (s:Nat) (ρ:Env),σ=upds ρ [(4,aC),(5,aD),(7,Pq ay),(8,Pq ax),(11,I am),(12,I flood),(26,aK),(27,I (watches.length:Int)),(28,I (s2:Int)),(36,bg),(37,I (r3.length:Int)),(38,I (s:Int))]/\M.iterN (zbH ao ap aq au aa ak al ab r3) m (am,flood,s)=some bK/\St w W [cOwn (α:=Int) 3 bg r3,cBlk aF [I (watches.getD s2 0)] 3,cOwn (α:=Int) 3 aD l2,cOwn (α:=Int) 3 aC l,cBlk ax (encB ab) 127,cBlk ay [ae,ag,ah,ai,I ak,I al,aj,.map (some aA)] 113,cMem encDm aA a6 (zaa ao ap aq au ak al aa),cBlk aM [ae,ag,ah,ai,I av,I aw,aj] 29] R) ?_ ?_
  ·exact ⟨_,2001,-1,0,_,upds_of _ _ ⟨rfl,rfl,rfl,rfl,rfl,rfl,rfl,rfl,rfl,rfl,rfl,rfl,trivial⟩,bh,H⟩
  rintro cd σ ce ⟨am,flood,s,ρ,rfl,bv,H⟩
  obtain ⟨a7,a8,cf,hM,aP⟩:=M.e_iterN bv
  simp only [zbH] at hM
  clear bv;refine kg 5 ?_
  refine W.cond (decide ((s:Int)<(r3.length:Int))) rfl (fun aG=>?_) (fun aG=>?_)
  ·replace hM:=M.e_t hM aG
   replace aG:=dI aG
   obtain ⟨cg,hM⟩:=M.e_gd hM;refine kg 10 ?_;refine W.drawT (fun W=>St w W [cOwn (α:=Int) 3 bg r3,cBlk aF [I (watches.getD s2 0)] 3,cOwn (α:=Int) 3 aD l2,cOwn (α:=Int) 3 aC l,cBlk ax (encB ab) 127,cBlk ay [ae,ag,ah,ai,I ak,I al,aj,.map (some aA)] 113,cMem encDm aA a6 (zaa ao ap aq au ak al aa),cBlk aM [ae,ag,ah,ai,I av,I aw,aj] 29] R) (.q 0 (.q 1 (.q 2 (.q 3 (.q 4 (.q 5 (.q 6 (.q 7 (.q 8 (.q 9 (.l2 10 (.l 11 (.l 12 .nil)) 11 (.l 10 (.l 12 .nil))))))))))))) mixed (by decide +kernel) rfl ?_;intro ci bw;replace H:=H.ext bw;clear bw
   refine ⟨(H.pk [0,1,2,3,4,5,6,7]),?_⟩
   obtain ⟨cj,hM⟩:=M.e_gd hM;refine kg 8 ?_
   obtain ⟨ba,bM,aQ⟩:=Flood_atA aL (i:=r3.getD s 0) (by omega) (by omega)
   replace aQ:Sl _ ba (aa.getD (Int.toNat (r3.getD s 0)) default).stages:=aQ
   have ck:=aQ.len_le
   refine t_q rfl (fun w' H=>x_ld (v:=.agg #[I ((aa.getD (Int.toNat (r3.getD s 0)) default).spring),ba]) rfl (ld_ag Ag38 Sz38 (At.mono bM (aB.at H))))<|t_q rfl (fun w' H=>x_ld (v:=.agg (encB ab).toArray) rfl (ldArrA Ag127 Sz127 aJ (H.bl 4))) ?_;refine t_l2 rfl rfl ?_ ?_
   ·skip
    obtain ⟨cm,bN,hM⟩:=M.e_bind hM;refine s_call cf84 [Pq ay,.agg #[I ((aa.getD (Int.toNat (r3.getD s 0)) default).spring),ba],.agg (encB ab).toArray] rfl (zaH ao ap aq au ak al aa (aa.getD (Int.toNat (r3.getD s 0)) default) ab (aS.app _) aT (aU.app _) aV (aW.app _) aX (aY.app _) aZ (aB.app _) aL (Has.here (k:=5) rfl) (aB.app _) aQ aJ bN _ (H.gt 8)) ?_
    rintro vq cn ⟨r0,az,aR,rfl,hvq,ac⟩
    subst vq;(try dsimp only at hM);replace H:=H.bk ac;clear ac
    refine s_nil ⟨(H.pk [0,1,2,3,4,5,6,7]),?_⟩
    refine t_l rfl ?_;refine t_alloc (cs:=[I 0,I 0,B false]) H Al136 rfl ?_;intro bO co H
    refine s_nil ⟨(H.pk [1,2,3,4,5,6,7,8]),?_⟩
    refine t_l rfl ?_;refine t_sw 0 0 [I r0,I az,B aR] (.agg #[I r0,I az,B aR]) H rfl rfl Sz136 rfl rfl rfl rfl ?_;intro cp H
    refine s_nil ⟨(H.pk [1,2,3,4,5,6,7,8]),?_⟩
    refine kg 8 ?_
    refine W.cond (decide (az<am)) rfl (fun aH=>?_) (fun aH=>?_)
    ·replace hM:=M.e_t hM aH
     replace aH:=dI aH
     refine kg 11 ?_
     exact ⟨a7,a8,az,r3.getD s 0,s+1,_,upds_of _ _ ⟨rfl,rfl,rfl,rfl,rfl,rfl,rfl,rfl,rfl,rfl,rfl,rfl,trivial⟩,M.e_inl hM aP,(H.pk [1,2,3,4,5,6,7,8])⟩
    replace hM:=M.e_f hM aH
    replace aH:=dI aH
    refine kg 5 ?_
    exact ⟨a7,a8,am,flood,s+1,_,upds_of _ _ ⟨rfl,rfl,rfl,rfl,rfl,rfl,rfl,rfl,rfl,rfl,rfl,rfl,trivial⟩,M.e_inl hM aP,(H.pk [1,2,3,4,5,6,7,8])⟩
   skip
   refine t_alloc (cs:=[I 0,I 0,B false]) H Al136 rfl ?_;intro bO cq H
   refine s_nil ⟨(H.pk [1,2,3,4,5,6,7,8]),?_⟩
   refine t_l rfl ?_;obtain ⟨cr,bP,hM⟩:=M.e_bind hM;refine s_call cf84 [Pq ay,.agg #[I ((aa.getD (Int.toNat (r3.getD s 0)) default).spring),ba],.agg (encB ab).toArray] rfl (zaH ao ap aq au ak al aa (aa.getD (Int.toNat (r3.getD s 0)) default) ab (aS.app _) aT (aU.app _) aV (aW.app _) aX (aY.app _) aZ (aB.app _) aL (Has.here (k:=6) rfl) (aB.app _) aQ aJ bP _ (H.gt 9)) ?_
   rintro vq ct ⟨r0,az,aR,rfl,hvq,ac⟩
   subst vq;(try dsimp only at hM);replace H:=H.bk ac;clear ac
   refine s_nil ⟨(H.pk [1,2,3,4,5,6,7,8]),?_⟩
   refine t_l rfl ?_;refine t_sw 0 0 [I r0,I az,B aR] (.agg #[I r0,I az,B aR]) H rfl rfl Sz136 rfl rfl rfl rfl ?_;intro cu H
   refine s_nil ⟨(H.pk [1,2,3,4,5,6,7,8]),?_⟩
   refine kg 8 ?_
   refine W.cond (decide (az<am)) rfl (fun aI=>?_) (fun aI=>?_)
   ·replace hM:=M.e_t hM aI
    replace aI:=dI aI
    refine kg 11 ?_
    exact ⟨a7,a8,az,r3.getD s 0,s+1,_,upds_of _ _ ⟨rfl,rfl,rfl,rfl,rfl,rfl,rfl,rfl,rfl,rfl,rfl,rfl,trivial⟩,M.e_inl hM aP,(H.pk [1,2,3,4,5,6,7,8])⟩
   replace hM:=M.e_f hM aI
   replace aI:=dI aI
   refine kg 5 ?_
   exact ⟨a7,a8,am,flood,s+1,_,upds_of _ _ ⟨rfl,rfl,rfl,rfl,rfl,rfl,rfl,rfl,rfl,rfl,rfl,rfl,trivial⟩,M.e_inl hM aP,(H.pk [1,2,3,4,5,6,7,8])⟩
  replace hM:=M.e_f hM aG
  replace aG:=dI aG
  refine W.exit ?_
  have bQ:=M.e_inr hM aP
  subst bQ;replace hM:=bL;(try dsimp only at hM);replace H:=H.pk [2,3,4,5,6,7];refine kg 3 ?_;refine t_bs (α:=Int) T22 [I am] [(am:Int)] H rfl (.cons rfl (Flat.rep_enc _ (am:Int))<|.nil) rfl rfl rfl ?_;intro bR cv H;obtain ⟨cw,hM⟩:=M.e_gd hM;refine t_app (α:=Int) (k:=2) (l:=l) (l2:=[(am:Int)]) (l':=l++([(am:Int)])) (vy:=bR) T22 rfl H rfl rfl rfl (H.os 0) (H.ol 0) (rfl) (by first | omega | (simp only [List.length_nil] at *; omega)) ?_;intro bS cx H;replace H:=H.nf;refine kg 2 ?_;refine t_bs (α:=Int) T22 [I flood] [(flood:Int)] H rfl (.cons rfl (Flat.rep_enc _ (flood:Int))<|.nil) rfl rfl rfl ?_;intro bT cy H;obtain ⟨cz,hM⟩:=M.e_gd hM;refine t_app (α:=Int) (k:=2) (l:=l2) (l2:=[(flood:Int)]) (l':=l2++([(flood:Int)])) (vy:=bT) T22 rfl H rfl rfl rfl (H.os 0) (H.ol 0) (rfl) (by first | omega | (simp only [List.length_nil] at *; omega)) ?_;intro bU cA H;replace H:=H.nf;refine kg 3 ?_;replace H:=H.pk [2,3,4,5,6,7];refine kg 4 ?_
  exact ⟨bH,bI,s2+1,l++([(am:Int)]),l2++([(flood:Int)]),bS,bU,_,upds_of _ _ ⟨rfl,rfl,rfl,rfl,rfl,rfl,rfl,trivial⟩,M.e_inl hM bu,H⟩
 replace hM:=M.e_f hM aE
 replace aE:=dI aE
 refine W.exit ?_
 have bV:=M.e_inr hM bu
 subst bV;replace hM:=bF;(try dsimp only at hM);replace H:=H.pk [0,1];refine kg 8 ?_;refine W.ret ?_
 have bc:=M.e_pure hM
 exact ⟨_,resE_tmp3 rfl,⟨l,l2,0,aC,aD,bc,rfl,(H.pk [1,0])⟩⟩

def zbW (n:Int):M Bool :=
  M.bind (zam n 0 2001) fun r2 =>
  M.pure r2
theorem zeO {R:List Chunk}  (n:Int)  {r:Bool} (hM:(zbW n).Ends r) (w:World) (H:St w w [] R):Ret Tryz.prog 88 #[I n] w fun v w'=>∃ (y0:Bool),y0=r/\v=B y0/\St w w' [] R:=by
 refine ret_of_W Tryz.func88 rfl rfl rfl ?_;refine kg 7 ?_;obtain ⟨ae,ab,hM⟩:=M.e_bind hM;refine s_call cf45 [I n,I 0,I 2001] rfl (zan n 0 2001 ab _ (H.gt 0)) ?_
 rintro vq ag ⟨r2,rfl,hvq,aa⟩
 subst vq;(try dsimp only at hM);replace H:=H.bk aa;clear aa;refine kg 2 ?_;refine W.ret ?_
 have ac:=M.e_pure hM
 exact ⟨_,resE_tmp rfl,⟨r2,ac,rfl,H⟩⟩

def zbO (x:Rpt) (ab aa:List Int):M Bool :=
  M.bind (zcr ab x.watch) fun r2 =>
  M.grd ((!(decide (0<=r2))||(decide ((0:Int)<=r2)&&decide (r2<(aa.length:Int))))) <|
  M.pure ((decide (0<=r2))&&(decide ((aa.getD (Int.toNat r2) 0)<=x.stage)))
theorem zdO {R:List Chunk} {ag:Nat} {ah:Cells} {ab:Value} {ai:Nat} {aj:Cells} {ak:Value} (x:Rpt) (ac:List Int) (aa:List Int) (ao:Reads R ah) (ap:Sl ah ab ac) (aw:Has R (cBlk ag [ab] 22)) (ax:Reads R aj) (ay:Sl aj ak aa) (az:Has R (cBlk ai [ak] 22)) {r:Bool} (hM:(zbO x ac aa).Ends r) (w:World) (H:St w w [] R):Ret Tryz.prog 89 #[.agg #[I x.watch,I x.stage,B x.danger],Pq ag,Pq ai] w fun v w'=>∃ (y0:Bool),y0=r/\v=B y0/\St w w' [] R:=by
 refine ret_of_W Tryz.func89 rfl rfl rfl ?_;refine kg 2 ?_;refine t_bx [I x.watch,I x.stage,B x.danger] H rfl ?_;intro aq aA H;refine kg 7 ?_;obtain ⟨aB,au,hM⟩:=M.e_bind hM;refine s_call cf90 [ab,I x.watch] rfl (zec ac x.watch (ao.app _) ap au _ (H.gt 1)) ?_
 rintro vq aC ⟨r2,rfl,hvq,al⟩
 subst vq;(try dsimp only at hM);replace H:=H.bk al;clear al;refine kg 3 ?_;refine W.draw (fun W=>St w W [cBlk aq [I x.watch,I x.stage,B x.danger] 136] R) [(0,true),(1,true),(2,true),(3,true),(4,true),(5,true),(6,true),(7,true),(8,true),(9,true),(10,true),(11,true)] mixed (by decide +kernel) rfl ?_;intro aD am;replace H:=H.ext am;clear am
 refine ⟨(H.pk [0]),?_⟩
 obtain ⟨ae,hM⟩:=M.e_grd hM
 replace ae:=M.imp_of ae
 simp only [Bool.and_eq_true,decide_eq_true_eq] at ae
 refine kg 10 ?_;refine d_q rfl (fun w' H=>x_pand (b:=decide (0<=r2)) (r:=decide ((aa.getD (Int.toNat r2) 0)<=x.stage)) rfl (fun hb=>gd_of (c:=decide (0<=r2)) (by first | exact hb | (rw [hb]; rfl) | simp_all) (B (decide ((aa.getD (Int.toNat r2) 0)<=x.stage)))) rfl) ?_;refine kg 2 ?_;refine W.ret ?_
 have av:=M.e_pure hM
 exact ⟨_,resE_tmp rfl,⟨((decide (0<=r2))&&(decide ((aa.getD (Int.toNat r2) 0)<=x.stage))),av,rfl,(H.pk [])⟩⟩

def zdG (x:Rpt) (aa ab:List Int):M Bool :=
  M.bind (M.opt x.danger (zbO x aa ab) false) fun r2 =>
  M.pure (x.danger&&(!r2))
theorem zfb {R:List Chunk} {ah:Nat} {aa:Nat} {ai:Cells} {aj:Value} {ab:Nat} {ak:Cells} {al:Value} (x:Rpt) (ac:List Int) (ae:List Int) (am:Reads R ai) (ao:Sl ai aj ac) (ap:Has R (cBlk aa [aj] 22)) (aq:Reads R ak) (au:Sl ak al ae) (av:Has R (cBlk ab [al] 22)) (ay:Has R (cBlk ah [.func (.func 89) #[] #[Pq aa,Pq ab]] 141)) {r:Bool} (hM:(zdG x ac ae).Ends r) (w:World) (H:St w w [] R):Ret Tryz.prog 91 #[.agg #[I x.watch,I x.stage,B x.danger],Pq ah] w fun v w'=>∃ (y0:Bool),y0=r/\v=B y0/\St w w' [] R:=by
 refine ret_of_W Tryz.func91 rfl rfl rfl ?_;refine kg 2 ?_;refine t_bx [I x.watch,I x.stage,B x.danger] H rfl ?_;intro az aA H;refine kg 9 ?_;obtain ⟨r2,aw,hM⟩:=M.e_bind hM;refine t_gcallv (cap:=[Pq aa,Pq ab]) x.danger (gy_t rfl) cf89 (fun hg=>(gd_of hg (.func (.func 89) #[] #[Pq aa,Pq ab]))) (B r2) (fun _=>[.agg #[I x.watch,I x.stage,B x.danger]]) (fun hg=>lst1 (gd_of hg (.agg #[I x.watch,I x.stage,B x.danger]))) H (fun hg=>(zdO x ac ae (am.app _) ao (ap.app _) (aq.app _) au (av.app _) (M.e_opt aw hg) _ (H.give (A:=[]) rfl)).mono fun v_ w_ ⟨y_,ag,ax,H_⟩=>by subst ag; exact ⟨ax,H.via H_⟩) ?_;intro aB H;refine kg 1 ?_;refine s_val (x_pand (b:=x.danger) (r:=!r2) rfl (fun hb=>gd_of (c:=x.danger) (by first | exact hb | (rw [hb]; rfl) | simp_all) (B (!r2))) rfl) ?_;refine kg 2 ?_;refine W.ret ?_
 have ag:=M.e_pure hM
 exact ⟨_,resE_tmp rfl,⟨(x.danger&&(!r2)),ag,rfl,(H.pk [])⟩⟩

def zc3 (ab:List Int) (ac:List Span) (ae:List Int) (ag:List Town) (ah ai:Int) (aa:List Flood) (p:List Bool) (aj ak:List Int):(Nat × (List Int))->M ((Nat × (List Int)) ⊕ ((List Int) × (List Int))):=fun (s,l) =>
  bif decide ((s:Int)<(aa.length:Int)) then (
  M.grd (decide ((s:Int)<(aa.length:Int))) <|
  M.bind (zaC ab ac ae ag ah ai aa (aa.getD s default) p) fun (r0,r1,r2) =>
  M.bind (zdG (⟨(r0:Int),(r1:Int),r2⟩:Rpt) aj ak) fun r3 =>
  bif r3 then (
  M.grd (decide ((l.length+([(s:Int)]).length)*8<=140737488355328)) <|
  M.pure (.inl (s+1,l++([(s:Int)]))))
  else (
  M.pure (.inl (s+1,l))))
  else (
  M.pure (.inr (l,l)))
def zdL (aa:List Int) (ab:List Span) (ac:List Int) (ae:List Town) (ag ah:Int) (ai:List Flood) (p:List Bool) (aj ak:List Int):M (List Int) :=
  M.bind (M.iter (zc3 aa ab ac ae ag ah ai p aj ak) (0,[])) fun (l2,l3) =>
  M.pure l3
theorem zeB {R:List Chunk} {aj:Nat} {aE:Cells} {aF:Value} {aG:Cells} {aH:Value} {aI:Cells} {aJ:Value} {aK:Cells} {aL:Value} {aM:Cells} {aw:Value} {aY:Nat} {ag:Nat} {aN:Nat} {aO:Cells} {aP:Value} {aQ:Nat} {aR:Cells} {aS:Value} (ak:List Int) (al:List Span) (am:List Int) (ao:List Town) (ap:Int) (aq:Int) (aa:List Flood) (p:List Bool) (au:List Int) (av:List Int) (aZ:Reads R aE) (a6:Sl aE aF ak) (a7:Reads R aG) (a8:Sl aG aH al) (ba:Reads R aI) (bb:Sl aI aJ am) (bc:Reads R aK) (bf:Sl aK aL ao) (ax:Reads R aM) (ay:Sl aM aw aa) (bg:Has R (cBlk aj [aF,aH,aJ,aL,I ap,I aq,aw,.map (some aY)] 113)) (aT:p.length=12) (bh:Reads R aO) (bi:Sl aO aP au) (bj:Has R (cBlk aN [aP] 22)) (bm:Reads R aR) (bn:Sl aR aS av) (bo:Has R (cBlk aQ [aS] 22)) (bp:Has R (cBlk ag [.func (.func 89) #[] #[Pq aN,Pq aQ]] 141)) {r:(List Int)} (hM:(zdL ak al am ao ap aq aa p au av).Ends r) (w:World) (H:St w w [] R):Ret Tryz.prog 86 #[Pq aj,.agg (encB p).toArray,.agg #[.func (.func 91) #[] #[Pq ag]]] w fun v w'=>∃ (y0:List Int) (u0:Value),y0=r/\v=u0/\St w w' [cOwn (α:=Int) 3 u0 y0] R:=by
 refine ret_of_W Tryz.func86 rfl rfl rfl ?_;refine kg 2 ?_;refine t_box (v:=.agg (encB p).toArray) (cs:=encB p) H rfl rfl ?_;intro az bD H;refine t_bx [.func (.func 91) #[] #[Pq ag]] H rfl ?_;intro aA bE H
 have bF:=(ay).len_le
 refine kg 18 ?_
 replace H:=H.nilOwn (α:=Int) 3
 obtain ⟨br,aB,bt⟩:=M.e_bind hM
 obtain ⟨bG,aB⟩:=M.e_iter aB
 refine W.loop (fun m σ W=>∃ (s:Nat) (l:List Int) (ac:Value) (ρ:Env),σ=upds ρ [(0,Pq aj),(4,Pq az),(5,Pq aA),(7,ac),(14,aw),(15,I (aa.length:Int)),(16,I (s:Int))]/\M.iterN (zc3 ak al am ao ap aq aa p au av) m (s,l)=some br/\St w W [cOwn (α:=Int) 3 ac l,cBlk aA [.func (.func 91) #[] #[Pq ag]] 143,cBlk az (encB p) 127] R) ?_ ?_
 ·exact ⟨_,0,[],(.slice none 0 0),_,upds_of _ _ ⟨rfl,rfl,rfl,rfl,rfl,rfl,rfl,trivial⟩,aB,H⟩
 rintro bH σ bI ⟨s,l,ac,ρ,rfl,aU,H⟩
 obtain ⟨aV,aW,bJ,hM,aC⟩:=M.e_iterN aU
 simp only [zc3] at hM
 clear aU;refine kg 5 ?_
 refine W.cond (decide ((s:Int)<(aa.length:Int))) rfl (fun ab=>?_) (fun ab=>?_)
 ·replace hM:=M.e_t hM ab
  replace ab:=dI ab
  obtain ⟨bK,hM⟩:=M.e_gd hM;refine kg 7 ?_
  obtain ⟨ae,bu,ah⟩:=Flood_atA ay (i:=(s:Int)) (by omega) (by omega)
  replace ah:Sl _ ae (aa.getD s default).stages:=ah
  have bL:=ah.len_le
  refine s_val (x_ld (v:=.agg #[I ((aa.getD s default).spring),ae]) rfl (ld_ag Ag38 Sz38 (At.mono bu (ax.at H)))) ?_;refine t_alloc (cs:=[I 0,.slice none 0 0]) H Al38 rfl ?_;intro bv bM H;refine kg 1 ?_;refine t_sw 0 0 [I ((aa.getD s default).spring),ae] (.agg #[I ((aa.getD s default).spring),ae]) H rfl rfl Sz38 rfl rfl rfl (by simp only [List.all_cons,List.all_nil,Bool.true_and,Bool.and_true,Sl.oc ah]; try rfl) ?_;intro bN H;refine kg 2 ?_;refine W.draw (fun W=>St w W [cBlk bv [I ((aa.getD s default).spring),ae] 38,cOwn (α:=Int) 3 ac l,cBlk aA [.func (.func 91) #[] #[Pq ag]] 143,cBlk az (encB p) 127] R) [(0,true),(1,true),(2,true),(3,true),(4,true),(5,false),(6,false)] mixed (by decide +kernel) rfl ?_;intro bO aX;replace H:=H.ext aX;clear aX
  refine ⟨(H.pk [0,1,2,3]),?_⟩
  refine kg 4 ?_;refine d_q rfl (fun w' H=>x_ld (v:=.agg (encB p).toArray) rfl (ldArrA Ag127 Sz127 aT (H.bl 3)))<|d_l rfl ?_;obtain ⟨bP,bw,hM⟩:=M.e_bind hM;refine s_call cf84 [Pq aj,.agg #[I ((aa.getD s default).spring),ae],.agg (encB p).toArray] rfl (zaH ak al am ao ap aq aa (aa.getD s default) p (aZ.app _) a6 (a7.app _) a8 (ba.app _) bb (bc.app _) bf (ax.app _) ay (bg.app _) (ax.app _) ah aT bw _ (H.gt 4)) ?_
  rintro vq bQ ⟨r0,r1,r2,rfl,hvq,ai⟩
  subst vq;(try dsimp only at hM);replace H:=H.bk ai;clear ai
  refine s_nil ⟨(H.pk [0,1,2,3]),?_⟩
  refine d_l rfl ?_;obtain ⟨bR,bx,hM⟩:=M.e_bind hM;refine s_callv (f:=91) rfl cf91 [.agg #[I r0,I r1,B r2]] rfl (zfb (⟨(r0:Int),(r1:Int),r2⟩:Rpt) au av (bh.app _) bi (bj.app _) (bm.app _) bn (bo.app _) (bp.app _) bx _ (H.gt 4)) ?_
  rintro vq bS ⟨r3,rfl,hvq,ai⟩
  subst vq;(try dsimp only at hM);replace H:=H.bk ai;clear ai
  refine s_nil ⟨(H.pk [0,1,2,3]),?_⟩
  refine d_nil ?_
  refine W.cond r3 rfl (fun aD=>?_) (fun aD=>?_)
  ·replace hM:=M.e_t hM aD;refine kg 3 ?_;refine t_bs (α:=Int) T22 [I (s:Int)] [(s:Int)] H rfl (.cons rfl (Flat.rep_enc _ (s:Int))<|.nil) rfl rfl rfl ?_;intro bz bT H;obtain ⟨bU,hM⟩:=M.e_gd hM;refine t_app (α:=Int) (k:=2) (l:=l) (l2:=[(s:Int)]) (l':=l++([(s:Int)])) (vy:=bz) T22 rfl H rfl rfl rfl (H.os 0) (H.ol 0) (rfl) (by first | omega | (simp only [List.length_nil] at *; omega)) ?_;intro bA bV H;replace H:=H.nf;refine kg 2 ?_;replace H:=H.pk [2,3,4];refine kg 4 ?_
   exact ⟨aV,aW,s+1,l++([(s:Int)]),bA,_,upds_of _ _ ⟨rfl,rfl,rfl,rfl,rfl,rfl,rfl,trivial⟩,M.e_inl hM aC,H⟩
  replace hM:=M.e_f hM aD;refine kg 5 ?_
  exact ⟨aV,aW,s+1,l,ac,_,upds_of _ _ ⟨rfl,rfl,rfl,rfl,rfl,rfl,rfl,trivial⟩,M.e_inl hM aC,(H.pk [1,2,3])⟩
 replace hM:=M.e_f hM ab
 replace ab:=dI ab
 refine W.exit ?_
 have bB:=M.e_inr hM aC
 subst bB;replace hM:=bt;(try dsimp only at hM);replace H:=H.pk [0];refine kg 5 ?_;refine W.ret ?_
 have bC:=M.e_pure hM
 exact ⟨_,resE_tmp rfl,⟨l,ac,bC,rfl,H⟩⟩

def zdv (x:Rpt) (aa ab:List Int):M Bool :=
  M.bind (M.opt (!x.danger) (zbO x aa ab) false) fun r2 =>
  M.pure ((!x.danger)&&r2)
theorem zeT {R:List Chunk} {ah:Nat} {aa:Nat} {ai:Cells} {aj:Value} {ab:Nat} {ak:Cells} {al:Value} (x:Rpt) (ac:List Int) (ae:List Int) (am:Reads R ai) (ao:Sl ai aj ac) (ap:Has R (cBlk aa [aj] 22)) (aq:Reads R ak) (au:Sl ak al ae) (av:Has R (cBlk ab [al] 22)) (ay:Has R (cBlk ah [.func (.func 89) #[] #[Pq aa,Pq ab]] 141)) {r:Bool} (hM:(zdv x ac ae).Ends r) (w:World) (H:St w w [] R):Ret Tryz.prog 92 #[.agg #[I x.watch,I x.stage,B x.danger],Pq ah] w fun v w'=>∃ (y0:Bool),y0=r/\v=B y0/\St w w' [] R:=by
 refine ret_of_W Tryz.func92 rfl rfl rfl ?_;refine kg 2 ?_;refine t_bx [I x.watch,I x.stage,B x.danger] H rfl ?_;intro az aA H;refine kg 10 ?_;obtain ⟨r2,aw,hM⟩:=M.e_bind hM;refine t_gcallv (cap:=[Pq aa,Pq ab]) (!x.danger) (gy_t rfl) cf89 (fun hg=>(gd_of hg (.func (.func 89) #[] #[Pq aa,Pq ab]))) (B r2) (fun _=>[.agg #[I x.watch,I x.stage,B x.danger]]) (fun hg=>lst1 (gd_of hg (.agg #[I x.watch,I x.stage,B x.danger]))) H (fun hg=>(zdO x ac ae (am.app _) ao (ap.app _) (aq.app _) au (av.app _) (M.e_opt aw hg) _ (H.give (A:=[]) rfl)).mono fun v_ w_ ⟨y_,ag,ax,H_⟩=>by subst ag; exact ⟨ax,H.via H_⟩) ?_;intro aB H;refine s_val (x_pand (b:=!x.danger) (r:=r2) rfl (fun hb=>gd_of (c:=!x.danger) (by first | exact hb | (rw [hb]; rfl) | simp_all) (B r2)) rfl) ?_;refine kg 2 ?_;refine W.ret ?_
 have ag:=M.e_pure hM
 exact ⟨_,resE_tmp rfl,⟨((!x.danger)&&r2),ag,rfl,(H.pk [])⟩⟩

def zdj (ab:List Int) (ac:List Span) (ae:List Int) (ag:List Town) (ah ai:Int) (aa:List Flood) (p:List Bool) (aj ak:List Int):(Nat × (List Int))->M ((Nat × (List Int)) ⊕ ((List Int) × (List Int))):=fun (s,l) =>
  bif decide ((s:Int)<(aa.length:Int)) then (
  M.grd (decide ((s:Int)<(aa.length:Int))) <|
  M.bind (zaC ab ac ae ag ah ai aa (aa.getD s default) p) fun (r0,r1,r2) =>
  M.bind (zdv (⟨(r0:Int),(r1:Int),r2⟩:Rpt) aj ak) fun r3 =>
  bif r3 then (
  M.grd (decide ((l.length+([(s:Int)]).length)*8<=140737488355328)) <|
  M.pure (.inl (s+1,l++([(s:Int)]))))
  else (
  M.pure (.inl (s+1,l))))
  else (
  M.pure (.inr (l,l)))
def zdN (aa:List Int) (ab:List Span) (ac:List Int) (ae:List Town) (ag ah:Int) (ai:List Flood) (p:List Bool) (aj ak:List Int):M (List Int) :=
  M.bind (M.iter (zdj aa ab ac ae ag ah ai p aj ak) (0,[])) fun (l2,l3) =>
  M.pure l3
theorem zfk {R:List Chunk} {aj:Nat} {aE:Cells} {aF:Value} {aG:Cells} {aH:Value} {aI:Cells} {aJ:Value} {aK:Cells} {aL:Value} {aM:Cells} {aw:Value} {aY:Nat} {ag:Nat} {aN:Nat} {aO:Cells} {aP:Value} {aQ:Nat} {aR:Cells} {aS:Value} (ak:List Int) (al:List Span) (am:List Int) (ao:List Town) (ap:Int) (aq:Int) (aa:List Flood) (p:List Bool) (au:List Int) (av:List Int) (aZ:Reads R aE) (a6:Sl aE aF ak) (a7:Reads R aG) (a8:Sl aG aH al) (ba:Reads R aI) (bb:Sl aI aJ am) (bc:Reads R aK) (bf:Sl aK aL ao) (ax:Reads R aM) (ay:Sl aM aw aa) (bg:Has R (cBlk aj [aF,aH,aJ,aL,I ap,I aq,aw,.map (some aY)] 113)) (aT:p.length=12) (bh:Reads R aO) (bi:Sl aO aP au) (bj:Has R (cBlk aN [aP] 22)) (bm:Reads R aR) (bn:Sl aR aS av) (bo:Has R (cBlk aQ [aS] 22)) (bp:Has R (cBlk ag [.func (.func 89) #[] #[Pq aN,Pq aQ]] 141)) {r:(List Int)} (hM:(zdN ak al am ao ap aq aa p au av).Ends r) (w:World) (H:St w w [] R):Ret Tryz.prog 86 #[Pq aj,.agg (encB p).toArray,.agg #[.func (.func 92) #[] #[Pq ag]]] w fun v w'=>∃ (y0:List Int) (u0:Value),y0=r/\v=u0/\St w w' [cOwn (α:=Int) 3 u0 y0] R:=by
 refine ret_of_W Tryz.func86 rfl rfl rfl ?_;refine kg 2 ?_;refine t_box (v:=.agg (encB p).toArray) (cs:=encB p) H rfl rfl ?_;intro az bD H;refine t_bx [.func (.func 92) #[] #[Pq ag]] H rfl ?_;intro aA bE H
 have bF:=(ay).len_le
 refine kg 18 ?_
 replace H:=H.nilOwn (α:=Int) 3
 obtain ⟨br,aB,bt⟩:=M.e_bind hM
 obtain ⟨bG,aB⟩:=M.e_iter aB
 refine W.loop (fun m σ W=>∃ (s:Nat) (l:List Int) (ac:Value) (ρ:Env),σ=upds ρ [(0,Pq aj),(4,Pq az),(5,Pq aA),(7,ac),(14,aw),(15,I (aa.length:Int)),(16,I (s:Int))]/\M.iterN (zdj ak al am ao ap aq aa p au av) m (s,l)=some br/\St w W [cOwn (α:=Int) 3 ac l,cBlk aA [.func (.func 92) #[] #[Pq ag]] 143,cBlk az (encB p) 127] R) ?_ ?_
 ·exact ⟨_,0,[],(.slice none 0 0),_,upds_of _ _ ⟨rfl,rfl,rfl,rfl,rfl,rfl,rfl,trivial⟩,aB,H⟩
 rintro bH σ bI ⟨s,l,ac,ρ,rfl,aU,H⟩
 obtain ⟨aV,aW,bJ,hM,aC⟩:=M.e_iterN aU
 simp only [zdj] at hM
 clear aU;refine kg 5 ?_
 refine W.cond (decide ((s:Int)<(aa.length:Int))) rfl (fun ab=>?_) (fun ab=>?_)
 ·replace hM:=M.e_t hM ab
  replace ab:=dI ab
  obtain ⟨bK,hM⟩:=M.e_gd hM;refine kg 7 ?_
  obtain ⟨ae,bu,ah⟩:=Flood_atA ay (i:=(s:Int)) (by omega) (by omega)
  replace ah:Sl _ ae (aa.getD s default).stages:=ah
  have bL:=ah.len_le
  refine s_val (x_ld (v:=.agg #[I ((aa.getD s default).spring),ae]) rfl (ld_ag Ag38 Sz38 (At.mono bu (ax.at H)))) ?_;refine t_alloc (cs:=[I 0,.slice none 0 0]) H Al38 rfl ?_;intro bv bM H;refine kg 1 ?_;refine t_sw 0 0 [I ((aa.getD s default).spring),ae] (.agg #[I ((aa.getD s default).spring),ae]) H rfl rfl Sz38 rfl rfl rfl (by simp only [List.all_cons,List.all_nil,Bool.true_and,Bool.and_true,Sl.oc ah]; try rfl) ?_;intro bN H;refine kg 2 ?_;refine W.draw (fun W=>St w W [cBlk bv [I ((aa.getD s default).spring),ae] 38,cOwn (α:=Int) 3 ac l,cBlk aA [.func (.func 92) #[] #[Pq ag]] 143,cBlk az (encB p) 127] R) [(0,true),(1,true),(2,true),(3,true),(4,true),(5,false),(6,false)] mixed (by decide +kernel) rfl ?_;intro bO aX;replace H:=H.ext aX;clear aX
  refine ⟨(H.pk [0,1,2,3]),?_⟩
  refine kg 4 ?_;refine d_q rfl (fun w' H=>x_ld (v:=.agg (encB p).toArray) rfl (ldArrA Ag127 Sz127 aT (H.bl 3)))<|d_l rfl ?_;obtain ⟨bP,bw,hM⟩:=M.e_bind hM;refine s_call cf84 [Pq aj,.agg #[I ((aa.getD s default).spring),ae],.agg (encB p).toArray] rfl (zaH ak al am ao ap aq aa (aa.getD s default) p (aZ.app _) a6 (a7.app _) a8 (ba.app _) bb (bc.app _) bf (ax.app _) ay (bg.app _) (ax.app _) ah aT bw _ (H.gt 4)) ?_
  rintro vq bQ ⟨r0,r1,r2,rfl,hvq,ai⟩
  subst vq;(try dsimp only at hM);replace H:=H.bk ai;clear ai
  refine s_nil ⟨(H.pk [0,1,2,3]),?_⟩
  refine d_l rfl ?_;obtain ⟨bR,bx,hM⟩:=M.e_bind hM;refine s_callv (f:=92) rfl cf92 [.agg #[I r0,I r1,B r2]] rfl (zeT (⟨(r0:Int),(r1:Int),r2⟩:Rpt) au av (bh.app _) bi (bj.app _) (bm.app _) bn (bo.app _) (bp.app _) bx _ (H.gt 4)) ?_
  rintro vq bS ⟨r3,rfl,hvq,ai⟩
  subst vq;(try dsimp only at hM);replace H:=H.bk ai;clear ai
  refine s_nil ⟨(H.pk [0,1,2,3]),?_⟩
  refine d_nil ?_
  refine W.cond r3 rfl (fun aD=>?_) (fun aD=>?_)
  ·replace hM:=M.e_t hM aD;refine kg 3 ?_;refine t_bs (α:=Int) T22 [I (s:Int)] [(s:Int)] H rfl (.cons rfl (Flat.rep_enc _ (s:Int))<|.nil) rfl rfl rfl ?_;intro bz bT H;obtain ⟨bU,hM⟩:=M.e_gd hM;refine t_app (α:=Int) (k:=2) (l:=l) (l2:=[(s:Int)]) (l':=l++([(s:Int)])) (vy:=bz) T22 rfl H rfl rfl rfl (H.os 0) (H.ol 0) (rfl) (by first | omega | (simp only [List.length_nil] at *; omega)) ?_;intro bA bV H;replace H:=H.nf;refine kg 2 ?_;replace H:=H.pk [2,3,4];refine kg 4 ?_
   exact ⟨aV,aW,s+1,l++([(s:Int)]),bA,_,upds_of _ _ ⟨rfl,rfl,rfl,rfl,rfl,rfl,rfl,trivial⟩,M.e_inl hM aC,H⟩
  replace hM:=M.e_f hM aD;refine kg 5 ?_
  exact ⟨aV,aW,s+1,l,ac,_,upds_of _ _ ⟨rfl,rfl,rfl,rfl,rfl,rfl,rfl,trivial⟩,M.e_inl hM aC,(H.pk [1,2,3])⟩
 replace hM:=M.e_f hM ab
 replace ab:=dI ab
 refine W.exit ?_
 have bB:=M.e_inr hM aC
 subst bB;replace hM:=bt;(try dsimp only at hM);replace H:=H.pk [0];refine kg 5 ?_;refine W.ret ?_
 have bC:=M.e_pure hM
 exact ⟨_,resE_tmp rfl,⟨l,ac,bC,rfl,H⟩⟩

end Go.Proofs.YtbldmjejckjflabGreat
end
section
set_option maxRecDepth 100000
set_option maxHeartbeats 16000000
namespace Go.Proofs.YtbldmjejckjflabGreat
open Go Go.Nm
attribute [local irreducible] gd execOp SL SLD SLT WR
def zaB (aa:List Int) (ab:List Span) (ac:List Int) (ae:List Town) (ak al:Int) (ag:List Flood) (watches thresholds:List Int):M ((List Int) × (List Int) × Int) :=
  M.bind (za1 aa ab ac ae ak al ag watches) fun x_=>match x_ with
  | (.inl (r1,r2))=>(
  bif r2 != 0 then (
  M.pure (([]),([]),r2))
  else (
  M.fail))
  | (.inr (ah,ai,aj,am))=>(
  bif am != 0 then (
  M.fail)
  else (
  bif (thresholds.length:Int) != (watches.length:Int) then (
  M.pure (([]),([]),2))
  else (
  M.bind (zcm thresholds (fun ao=>zbW ao)) fun r3 =>
  bif !r3 then (
  M.pure (([]),([]),4))
  else (
  M.bind (zdL aa ab ac ae ah ai ag aj watches thresholds) fun r4 =>
  M.bind (zdN aa ab ac ae ah ai ag aj watches thresholds) fun r5 =>
  M.pure (r4,r5,0)))))
theorem zaD {R:List Chunk} {aZ:Cells} {ae:Value} {a6:Cells} {ag:Value} {a7:Cells} {ah:Value} {a8:Cells} {ai:Value} {ba:Cells} {aj:Value} {bb:Cells} {ak:Value} {bc:Cells} {al:Value} (au:List Int) (av:List Span) (aw:List Int) (ax:List Town) (am:Int) (ao:Int) (ay:List Flood) (watches:List Int) (thresholds:List Int) (aJ:Reads R aZ) (aK:Sl aZ ae au) (aL:Reads R a6) (aM:Sl a6 ag av) (aN:Reads R a7) (aO:Sl a7 ah aw) (aP:Reads R a8) (aQ:Sl a8 ai ax) (aR:Reads R ba) (aS:Sl ba aj ay) (aT:Reads R bb) (az:Sl bb ak watches) (aU:Reads R bc) (aA:Sl bc al thresholds) {r:((List Int) × (List Int) × Int)} (hM:(zaB au av aw ax am ao ay watches thresholds).Ends r) (w:World) (H:St w w [] R):Ret Tryz.prog 43 #[.agg #[ae,ag,ah,ai,I am,I ao,aj],ak,al] w fun v w'=>∃ (y0:List Int) (y1:List Int) (y2:Int) (u0:Value) (u1:Value),(y0,y1,y2)=r/\v = .tuple #[u0,u1,I y2]/\St w w' [cOwn (α:=Int) 3 u0 y0,cOwn (α:=Int) 3 u1 y1] R:=by
 refine ret_of_W Tryz.func43 rfl rfl rfl ?_;refine kg 2 ?_;refine t_bx [ae,ag,ah,ai,I am,I ao,aj] H rfl ?_;intro bf bF H;refine t_box (v:=ak) (cs:=[ak]) H rfl (Sl.cells az) ?_;intro aB bG H;refine t_box (v:=al) (cs:=[al]) H rfl (Sl.cells aA) ?_;intro aC bH H;refine kg 8 ?_;obtain ⟨bI,bi,hM⟩:=M.e_bind hM;refine s_call cf75 [.agg #[ae,ag,ah,ai,I am,I ao,aj],ak] rfl (za8 au av aw ax am ao ay watches (aJ.app _) aK (aL.app _) aM (aN.app _) aO (aP.app _) aQ (aR.app _) aS (aT.app _) az bi _ (H.gt 3)) ?_
 rintro vq bJ (⟨r1,r2,bj,hvq,aa,bm⟩ | ⟨aH,aI,ac,bn,aV,bg,bo,bp,hvq,aa,aD⟩)
 ·subst bj;subst vq;(try dsimp only at hM);replace H:=H.bk aa;clear aa;refine kg 4 ?_;refine t_alloc (cs:=encB (List.replicate 12 false)) H Al127 rfl ?_;intro aE bK H
  have aW:(List.replicate 12 false).length=12:=by simp
  refine kg 1 ?_;refine t_stArrA (k:=0) (b:=aE) (l:=List.replicate 12 false) (l':=r1) (L':=[cBlk aE (encB r1) 127,cBlk aC [al] 22,cBlk aB [ak] 22,cBlk bf [ae,ag,ah,ai,I am,I ao,aj] 29]) H rfl rfl rfl Sz127 aW bm rfl ?_;intro bL H;refine kg 10 ?_
  refine W.cond (r2 != 0) rfl (fun aF=>?_) (fun aF=>?_)
  ·replace hM:=M.e_t hM aF
   replace aF:=dI aF
   refine kg 7 ?_;replace H:=H.pk [];refine W.ret ?_
   have ap:=M.e_pure hM
   replace H:=H.nilOwn (α:=Int) 3
   replace H:=H.nilOwn (α:=Int) 3
   exact ⟨_,resE_tmp3 rfl,⟨([]),([]),r2,(.slice none 0 0),(.slice none 0 0),ap,rfl,(H.pk [1,0])⟩⟩
  replace hM:=M.e_f hM aF
  exact (M.e_fail hM).elim
 subst bp;subst vq;(try dsimp only at hM);replace H:=H.bk aa;clear aa;refine kg 4 ?_;refine t_alloc (cs:=encB (List.replicate 12 false)) H Al127 rfl ?_;intro aE bM H
 have aW:(List.replicate 12 false).length=12:=by simp
 refine kg 1 ?_;refine t_stArrA (k:=0) (b:=aE) (l:=List.replicate 12 false) (l':=ac) (L':=[cBlk aE (encB ac) 127,cBlk aV [ae,ag,ah,ai,I aH,I aI,aj,.map (some bg)] 113,cMem encDm bg bo (zaa au av aw ax aH aI ay),cBlk aC [al] 22,cBlk aB [ak] 22,cBlk bf [ae,ag,ah,ai,I am,I ao,aj] 29]) H rfl rfl rfl Sz127 aW aD rfl ?_;intro bN H;refine kg 10 ?_
 refine W.cond (bn != 0) rfl (fun aG=>?_) (fun aG=>?_)
 ·replace hM:=M.e_t hM aG
  exact (M.e_fail hM).elim
 replace hM:=M.e_f hM aG
 replace aG:=dI aG
 have bO:=(aA).len_le
 have bP:=(az).len_le
 refine kg 9 ?_
 refine W.cond ((thresholds.length:Int) != (watches.length:Int)) rfl (fun aq=>?_) (fun aq=>?_)
 ·replace hM:=M.e_t hM aq
  replace aq:=dI aq
  refine kg 6 ?_;replace H:=H.pk [];refine W.ret ?_
  have ap:=M.e_pure hM
  replace H:=H.nilOwn (α:=Int) 3
  replace H:=H.nilOwn (α:=Int) 3
  exact ⟨_,resE_tmp3 rfl,⟨([]),([]),2,(.slice none 0 0),(.slice none 0 0),ap,rfl,(H.pk [1,0])⟩⟩
 replace hM:=M.e_f hM aq
 replace aq:=dI aq
 refine kg 3 ?_;obtain ⟨bQ,br,hM⟩:=M.e_bind hM;refine s_call cf53 [al,.func (.func 88) #[] #[]] rfl (zeo thresholds (fun aX=>zbW aX) (aU.app _) aA ⟨88,[],rfl,cf88,fun bh bR bS bt aX bT bu bU bv bw=>by obtain rfl:=Arg.int bv; exact (zeO aX bw bh (St.refl bu)).mono fun bt bh ⟨bV,bx,bz,bA⟩=>by subst bx; exact ⟨bz,bA⟩⟩ br _ (H.gt 6)) ?_
 rintro vq bW ⟨r3,rfl,hvq,aa⟩
 subst vq;(try dsimp only at hM);replace H:=H.bk aa;clear aa;refine kg 3 ?_
 refine W.cond (!r3) rfl (fun aY=>?_) (fun aY=>?_)
 ·replace hM:=M.e_t hM aY;refine kg 6 ?_;replace H:=H.pk [];refine W.ret ?_
  have ap:=M.e_pure hM
  replace H:=H.nilOwn (α:=Int) 3
  replace H:=H.nilOwn (α:=Int) 3
  exact ⟨_,resE_tmp3 rfl,⟨([]),([]),4,(.slice none 0 0),(.slice none 0 0),ap,rfl,(H.pk [1,0])⟩⟩
 replace hM:=M.e_f hM aY;refine kg 3 ?_;refine s_val (x_mf (fs:=[]) (cs:=[Pq aB,Pq aC]) rfl rfl) ?_;refine t_alloc (cs:=[.nilFunc]) H Al141 rfl ?_;intro ab bX H;refine t_sw 0 0 [.func (.func 89) #[] #[Pq aB,Pq aC]] (.func (.func 89) #[] #[Pq aB,Pq aC]) H rfl rfl Sz141 rfl rfl rfl rfl ?_;intro bY H;refine kg 4 ?_;refine s_val (x_ld (v:=.agg (encB ac).toArray) rfl (ldArrA Ag127 Sz127 aD (H.bl 1)))<|s_val (x_mf (fs:=[]) (cs:=[Pq ab]) rfl rfl)<|s_val (x_bld (ps:=[(0,.func (.func 91) #[] #[Pq ab])]) (zs:=[.nilFunc]) (L':=[.func (.func 91) #[] #[Pq ab]]) rfl Tryz.underlying143 Al143 rfl (Bd143 Tryz.underlying143) (.cons (cs:=[.func (.func 91) #[] #[Pq ab]]) rfl rfl rfl rfl rfl<|.nil)) ?_;obtain ⟨bZ,bB,hM⟩:=M.e_bind hM;refine s_call cf86 [Pq aV,.agg (encB ac).toArray,.agg #[.func (.func 91) #[] #[Pq ab]]] rfl (zeB au av aw ax aH aI ay ac watches thresholds (aJ.app _) aK (aL.app _) aM (aN.app _) aO (aP.app _) aQ (aR.app _) aS (Has.here (k:=2) rfl) aD (aT.app _) az (Has.here (k:=5) rfl) (aU.app _) aA (Has.here (k:=4) rfl) (Has.here (k:=0) rfl) bB _ (H.gt 7)) ?_
 rintro vq b0 ⟨r4,bC,rfl,hvq,aa⟩
 subst vq;(try dsimp only at hM);replace H:=H.bk aa;clear aa;refine kg 5 ?_;refine s_val (x_ld (v:=.agg (encB ac).toArray) rfl (ldArrA Ag127 Sz127 aD (H.bl 2)))<|s_val (x_mf (fs:=[]) (cs:=[Pq ab]) rfl rfl)<|s_val (x_bld (ps:=[(0,.func (.func 92) #[] #[Pq ab])]) (zs:=[.nilFunc]) (L':=[.func (.func 92) #[] #[Pq ab]]) rfl Tryz.underlying143 Al143 rfl (Bd143 Tryz.underlying143) (.cons (cs:=[.func (.func 92) #[] #[Pq ab]]) rfl rfl rfl rfl rfl<|.nil)) ?_;obtain ⟨b1,bD,hM⟩:=M.e_bind hM;refine s_call cf86 [Pq aV,.agg (encB ac).toArray,.agg #[.func (.func 92) #[] #[Pq ab]]] rfl (zfk au av aw ax aH aI ay ac watches thresholds (aJ.app _) aK (aL.app _) aM (aN.app _) aO (aP.app _) aQ (aR.app _) aS (Has.here (k:=3) rfl) aD (aT.app _) az (Has.here (k:=6) rfl) (aU.app _) aA (Has.here (k:=5) rfl) (Has.here (k:=1) rfl) bD _ (H.gt 8)) ?_
 rintro vq b2 ⟨r5,bE,rfl,hvq,aa⟩
 subst vq;(try dsimp only at hM);replace H:=H.bk aa;clear aa;refine kg 2 ?_;replace H:=H.pk [0,1];refine kg 8 ?_;refine W.ret ?_
 have ap:=M.e_pure hM
 exact ⟨_,resE_tmp3 rfl,⟨r4,r5,0,bC,bE,ap,rfl,(H.pk [1,0])⟩⟩

def zax  : M Bool :=
  M.bind (zag 4) fun (r0,r1,r2,r3,r4,r5,r6) =>
  M.bind (zbd r0 r1 r2 r3 r4 r5 r6 (⟨(0:Int),(0:Int)⟩:Dem)) fun (bc,aj) =>
  M.bind (zag 4) fun (bf,bg,bh,bi,bj,bm,bn) =>
  M.bind (zbd bf bg bh bi bj bm bn (⟨(1:Int),(0:Int)⟩:Dem)) fun (au,ak) =>
  M.bind (zag 4) fun (bo,bp,br,bt,bu,bv,bw) =>
  M.bind (za5 bo bp br bt bu bv bw) fun (bY,al) =>
  M.bind (zag 3) fun (bx,bz,bA,bB,bC,bD,bE) =>
  M.bind (za5 bx bz bA bB bC bD bE) fun (av,am) =>
  M.bind (zag 1) fun (bF,bG,bH,bI,bJ,bK,bL) =>
  M.bind (za5 bF bG bH bI bJ bK bL) fun (bM,ao) =>
  M.bind (zag 4) fun (bN,bO,bP,bQ,bR,bS,bT) =>
  M.bind (zc4 bN bO bP bQ bR bS bT 0 0) fun (ba,bb,ap) =>
  M.bind (M.opt (!((((((aj != 0)||(ak != 0))||(al != 6))||(am != 0))||(ao != 0))||(ap != 0))) (zad bc ([(0:Int)])) false) fun r7 =>
  M.bind (M.opt (!(((((((((aj != 0)||(ak != 0))||(al != 6))||(am != 0))||(ao != 0))||(ap != 0))||(!r7))||(decide (0<(au.length:Int))))||((av.length:Int) != 2))) (zad bM ([(2:Int)])) false) fun r8 =>
  bif !((((((((((aj != 0)||(ak != 0))||(al != 6))||(am != 0))||(ao != 0))||(ap != 0))||(!r7))||(decide (0<(au.length:Int))))||((av.length:Int) != 2))||(!r8)) then (
  M.bind (zak 6 10) fun (bU,bV) =>
  bif (((((((((((aj != 0)||(ak != 0))||(al != 6))||(am != 0))||(ao != 0))||(ap != 0))||(!r7))||(decide (0<(au.length:Int))))||((av.length:Int) != 2))||(!r8))||(!(decide ((⟨(ba:Int),(bb:Int)⟩:Span)=(⟨(bU:Int),(bV:Int)⟩:Span))))) then (
  M.pure false)
  else (
  M.bind (zag 1) fun (aw,ax,ay,az,aA,aB,aC) =>
  M.bind (zbl aw ax ay az aA aB aC ([(2:Int)])) fun (aD,aE,aa) =>
  M.bind (zag 1) fun (aF,aG,aH,aI,aJ,aK,aL) =>
  M.bind (zaB aF aG aH aI aJ aK aL ([(2:Int)]) ([(250:Int)])) fun (ag,ah,ab) =>
  M.bind (zag 1) fun (aM,aN,aO,aP,aQ,aR,aS) =>
  M.bind (zaB aM aN aO aP aQ aR aS ([(2:Int)]) ([(240:Int)])) fun (bW,aT,ac) =>
  M.bind (zag 1) fun (aU,aV,aW,aX,aY,aZ,a6) =>
  M.bind (zaB aU aV aW aX aY aZ a6 ([(2:Int)]) ([(251:Int)])) fun (a7,bX,ae) =>
  M.bind (M.opt ((((aa==0)&&(ab==0))&&(ac==0))&&(ae==0)) (zad aD ([(250:Int)])) false) fun r9 =>
  M.bind (M.opt (((((aa==0)&&(ab==0))&&(ac==0))&&(ae==0))&&r9) (zad aE ([(0:Int)])) false) fun ai =>
  M.grd ((!((((((aa==0)&&(ab==0))&&(ac==0))&&(ae==0))&&r9)&&ai)||(decide ((-9223372036854775808:Int)<=((ag.length:Int)+(ah.length:Int)))&&decide (((ag.length:Int)+(ah.length:Int))<=(9223372036854775807:Int))))) <|
  M.bind (M.opt (((((((aa==0)&&(ab==0))&&(ac==0))&&(ae==0))&&r9)&&ai)&&(((ag.length:Int)+(ah.length:Int))==0)) (zad aT ([(1:Int)])) false) fun aq =>
  M.bind (M.opt ((((((((aa==0)&&(ab==0))&&(ac==0))&&(ae==0))&&r9)&&ai)&&(((ag.length:Int)+(ah.length:Int))==0))&&aq) (zad a7 ([(0:Int)])) false) fun a8 =>
  M.pure (((((((((aa==0)&&(ab==0))&&(ac==0))&&(ae==0))&&r9)&&ai)&&(((ag.length:Int)+(ah.length:Int))==0))&&aq)&&a8)))
  else (
  bif (((((((((((aj != 0)||(ak != 0))||(al != 6))||(am != 0))||(ao != 0))||(ap != 0))||(!r7))||(decide (0<(au.length:Int))))||((av.length:Int) != 2))||(!r8))||(!(decide ((⟨(ba:Int),(bb:Int)⟩:Span)=(⟨(0:Int),(0:Int)⟩:Span))))) then (
  M.pure false)
  else (
  M.bind (zag 1) fun (aw,ax,ay,az,aA,aB,aC) =>
  M.bind (zbl aw ax ay az aA aB aC ([(2:Int)])) fun (aD,aE,aa) =>
  M.bind (zag 1) fun (aF,aG,aH,aI,aJ,aK,aL) =>
  M.bind (zaB aF aG aH aI aJ aK aL ([(2:Int)]) ([(250:Int)])) fun (ag,ah,ab) =>
  M.bind (zag 1) fun (aM,aN,aO,aP,aQ,aR,aS) =>
  M.bind (zaB aM aN aO aP aQ aR aS ([(2:Int)]) ([(240:Int)])) fun (bW,aT,ac) =>
  M.bind (zag 1) fun (aU,aV,aW,aX,aY,aZ,a6) =>
  M.bind (zaB aU aV aW aX aY aZ a6 ([(2:Int)]) ([(251:Int)])) fun (a7,bX,ae) =>
  M.bind (M.opt ((((aa==0)&&(ab==0))&&(ac==0))&&(ae==0)) (zad aD ([(250:Int)])) false) fun r9 =>
  M.bind (M.opt (((((aa==0)&&(ab==0))&&(ac==0))&&(ae==0))&&r9) (zad aE ([(0:Int)])) false) fun ai =>
  M.grd ((!((((((aa==0)&&(ab==0))&&(ac==0))&&(ae==0))&&r9)&&ai)||(decide ((-9223372036854775808:Int)<=((ag.length:Int)+(ah.length:Int)))&&decide (((ag.length:Int)+(ah.length:Int))<=(9223372036854775807:Int))))) <|
  M.bind (M.opt (((((((aa==0)&&(ab==0))&&(ac==0))&&(ae==0))&&r9)&&ai)&&(((ag.length:Int)+(ah.length:Int))==0)) (zad aT ([(1:Int)])) false) fun aq =>
  M.bind (M.opt ((((((((aa==0)&&(ab==0))&&(ac==0))&&(ae==0))&&r9)&&ai)&&(((ag.length:Int)+(ah.length:Int))==0))&&aq) (zad a7 ([(0:Int)])) false) fun a8 =>
  M.pure (((((((((aa==0)&&(ab==0))&&(ac==0))&&(ae==0))&&r9)&&ai)&&(((ag.length:Int)+(ah.length:Int))==0))&&aq)&&a8)))
theorem zao {R:List Chunk}    {r:Bool} (hM:(zax).Ends r) (w:World) (H:St w w [] R):Ret Tryz.prog 10 #[] w fun v w'=>∃ (y0:Bool),y0=r/\v=B y0/\St w w' [] R:=by
 refine ret_of_W Tryz.func10 rfl rfl rfl ?_;refine kg 6 ?_;obtain ⟨e8,cj,hM⟩:=M.e_bind hM;refine s_call cf4 [I 4] rfl (zac 4 cj _ (H.gt 0)) ?_
 rintro vq e9 ⟨r0,r1,r2,r3,r4,r5,r6,ck,cm,cn,co,cp,fa,fb,rfl,hvq,aa,cq⟩
 subst vq;(try dsimp only at hM);replace H:=H.bk aa;clear aa;refine s_val (x_bld (ps:=[(0,I 0)]) (zs:=[I 0,I 0]) (L':=[I 0,I 0]) rfl Tryz.underlying32 Al32 rfl (Bd32 Tryz.underlying32) (.cons (cs:=[I 0]) rfl rfl rfl rfl rfl<|.nil)) ?_;obtain ⟨fd,cr,hM⟩:=M.e_bind hM;refine s_call cf29 [.agg #[ck,cm,cn,co,I r4,I r5,cp],.agg #[I 0,I 0]] rfl (zcN r0 r1 r2 r3 r4 r5 r6 (⟨(0:Int),(0:Int)⟩:Dem) (rdo 0) (H.os 0) (rdo 1) (H.os 1) (rdo 2) (H.os 2) (rdo 3) (H.os 3) (Reads.sup (rdo 4) (Reads.of (k:=5) rfl roLe)) (rowSl rfl (H.get (k:=4) rfl) (roLe _ (H.get (k:=5) rfl)) cq) cr _ (H.gt 6)) ?_
 rintro vq fe ⟨bV,ab,aO,rfl,hvq,aa⟩
 subst vq;(try dsimp only at hM);replace H:=H.bk aa;clear aa;refine kg 6 ?_;replace H:=H.pk [0];refine kg 2 ?_;obtain ⟨ff,ct,hM⟩:=M.e_bind hM;refine s_call cf4 [I 4] rfl (zac 4 ct _ (H.gt 1)) ?_
 rintro vq fg ⟨cu,cv,cw,cx,bW,bX,cy,cz,cA,cB,cC,cD,fh,fi,rfl,hvq,aa,cE⟩
 subst vq;(try dsimp only at hM);replace H:=H.bk aa;clear aa;refine s_val (x_bld (ps:=[(0,I 1)]) (zs:=[I 0,I 0]) (L':=[I 1,I 0]) rfl Tryz.underlying32 Al32 rfl (Bd32 Tryz.underlying32) (.cons (cs:=[I 1]) rfl rfl rfl rfl rfl<|.nil)) ?_;obtain ⟨fj,cF,hM⟩:=M.e_bind hM;refine s_call cf29 [.agg #[cz,cA,cB,cC,I bW,I bX,cD],.agg #[I 1,I 0]] rfl (zcN cu cv cw cx bW bX cy (⟨(1:Int),(0:Int)⟩:Dem) (rdo 0) (H.os 0) (rdo 1) (H.os 1) (rdo 2) (H.os 2) (rdo 3) (H.os 3) (Reads.sup (rdo 4) (Reads.of (k:=5) rfl roLe)) (rowSl rfl (H.get (k:=4) rfl) (roLe _ (H.get (k:=5) rfl)) cE) cF _ (H.gt 7)) ?_
 rintro vq fk ⟨ao,ac,aS,rfl,hvq,aa⟩
 subst vq;(try dsimp only at hM);replace H:=H.bk aa;clear aa;refine kg 6 ?_;replace H:=H.pk [0,7];refine kg 2 ?_;obtain ⟨fl,cG,hM⟩:=M.e_bind hM;refine s_call cf4 [I 4] rfl (zac 4 cG _ (H.gt 2)) ?_
 rintro vq fm ⟨cH,cI,cJ,cK,bY,bZ,cL,cM,cN,cO,cP,cQ,fo,fp,rfl,hvq,aa,cR⟩
 subst vq;(try dsimp only at hM);replace H:=H.bk aa;clear aa;obtain ⟨fq,cS,hM⟩:=M.e_bind hM;refine s_call cf33 [.agg #[cM,cN,cO,cP,I bY,I bZ,cQ]] rfl (zbx cH cI cJ cK bY bZ cL (rdo 0) (H.os 0) (rdo 1) (H.os 1) (rdo 2) (H.os 2) (rdo 3) (H.os 3) (Reads.sup (rdo 4) (Reads.of (k:=5) rfl roLe)) (rowSl rfl (H.get (k:=4) rfl) (roLe _ (H.get (k:=5) rfl)) cR) cS _ (H.gt 8)) ?_
 rintro vq fu ⟨fv,ae,fw,rfl,hvq,aa⟩
 subst vq;(try dsimp only at hM);replace H:=H.bk aa;clear aa;refine kg 6 ?_;replace H:=H.pk [7,8];refine kg 2 ?_;obtain ⟨fx,cT,hM⟩:=M.e_bind hM;refine s_call cf4 [I 3] rfl (zac 3 cT _ (H.gt 2)) ?_
 rintro vq fy ⟨cU,cV,cW,cX,b0,b1,cY,cZ,c0,c5,c6,c7,fA,fB,rfl,hvq,aa,c8⟩
 subst vq;(try dsimp only at hM);replace H:=H.bk aa;clear aa;obtain ⟨fC,c9,hM⟩:=M.e_bind hM;refine s_call cf33 [.agg #[cZ,c0,c5,c6,I b0,I b1,c7]] rfl (zbx cU cV cW cX b0 b1 cY (rdo 0) (H.os 0) (rdo 1) (H.os 1) (rdo 2) (H.os 2) (rdo 3) (H.os 3) (Reads.sup (rdo 4) (Reads.of (k:=5) rfl roLe)) (rowSl rfl (H.get (k:=4) rfl) (roLe _ (H.get (k:=5) rfl)) c8) c9 _ (H.gt 8)) ?_
 rintro vq fD ⟨au,ag,aT,rfl,hvq,aa⟩
 subst vq;(try dsimp only at hM);replace H:=H.bk aa;clear aa;refine kg 6 ?_;replace H:=H.pk [0,7,8];refine kg 2 ?_;obtain ⟨fE,da,hM⟩:=M.e_bind hM;refine s_call cf4 [I 1] rfl (zac 1 da _ (H.gt 3)) ?_
 rintro vq fG ⟨db,dc,dd,dg,b2,b3,dh,di,dj,dk,dl,dm,fH,fI,rfl,hvq,aa,dq⟩
 subst vq;(try dsimp only at hM);replace H:=H.bk aa;clear aa;obtain ⟨fJ,dr,hM⟩:=M.e_bind hM;refine s_call cf33 [.agg #[di,dj,dk,dl,I b2,I b3,dm]] rfl (zbx db dc dd dg b2 b3 dh (rdo 0) (H.os 0) (rdo 1) (H.os 1) (rdo 2) (H.os 2) (rdo 3) (H.os 3) (Reads.sup (rdo 4) (Reads.of (k:=5) rfl roLe)) (rowSl rfl (H.get (k:=4) rfl) (roLe _ (H.get (k:=5) rfl)) dq) dr _ (H.gt 9)) ?_
 rintro vq fK ⟨b4,aj,aP,rfl,hvq,aa⟩
 subst vq;(try dsimp only at hM);replace H:=H.bk aa;clear aa;refine kg 6 ?_;replace H:=H.pk [0,7,8,9];refine kg 2 ?_;obtain ⟨fL,dt,hM⟩:=M.e_bind hM;refine s_call cf4 [I 4] rfl (zac 4 dt _ (H.gt 4)) ?_
 rintro vq fM ⟨du,dv,dw,dx,b5,b6,dy,dz,dA,dB,dC,dD,fN,fO,rfl,hvq,aa,dE⟩
 subst vq;(try dsimp only at hM);replace H:=H.bk aa;clear aa;obtain ⟨fP,dF,hM⟩:=M.e_bind hM;refine s_call cf20 [.agg #[dz,dA,dB,dC,I b5,I b6,dD],I 0,I 0] rfl (zdx du dv dw dx b5 b6 dy 0 0 (rdo 0) (H.os 0) (rdo 1) (H.os 1) (rdo 2) (H.os 2) (rdo 3) (H.os 3) (Reads.sup (rdo 4) (Reads.of (k:=5) rfl roLe)) (rowSl rfl (H.get (k:=4) rfl) (roLe _ (H.get (k:=5) rfl)) dE) dF _ (H.gt 10)) ?_
 rintro vq fQ ⟨az,aA,am,rfl,hvq,aa⟩
 subst vq;(try dsimp only at hM);replace H:=H.bk aa;clear aa;refine kg 3 ?_;refine t_alloc (cs:=[I 0,I 0]) H Al26 rfl ?_;intro dG fR H;refine t_sw 0 0 [I az,I aA] (.agg #[I az,I aA]) H rfl rfl Sz26 rfl rfl rfl rfl ?_;intro fS H;refine kg 2 ?_;replace H:=H.pk [0,7,8,9,10];refine kg 2 ?_;refine W.draw (fun W=>St w W [cBlk dG [I az,I aA] 26,cOwn (α:=Int) 3 aP b4,cOwn (α:=Int) 3 aT au,cOwn (α:=Int) 3 aS ao,cOwn (α:=Int) 3 aO bV] R) [(0,true),(1,true),(2,true),(3,true),(4,true),(5,true),(6,true),(7,true),(8,true),(9,true),(10,true),(11,true),(12,true),(13,true),(14,true),(15,true),(16,true),(17,true),(18,true),(19,true),(20,true),(21,true),(22,true),(23,true),(24,false),(25,false),(26,true),(27,true),(28,true),(29,true),(30,true),(31,true),(32,true),(33,true),(34,true),(35,true),(36,true),(37,true),(38,true),(39,true),(40,false),(41,false),(42,true),(43,true),(44,true),(45,true),(46,false),(47,true),(48,true)] mixed (by decide +kernel) rfl ?_;intro fU b7;replace H:=H.ext b7;clear b7
 refine ⟨(H.pk [0,1,2,3,4]),?_⟩
 refine kg 5 ?_;refine d_q rfl (fun w' H=>x_por (b:=ab != 0) (r:=ac != 0) rfl rfl (fun hb=>gd_of (c:=!(ab != 0)) (by first | exact hb | (rw [hb]; rfl) | simp_all) (B (ac != 0))))<|d_q rfl (fun w' H=>x_mv (v:=B ((ab != 0)||(ac != 0))) rfl)<|d_qg (!((ab != 0)||(ac != 0))) rfl (gy_f rfl) (fun hg=>(fun w' H=>x_mv (v:=I ae) rfl))<|d_qg (!((ab != 0)||(ac != 0))) rfl (gy_f rfl) (fun hg=>(fun w' H=>x_cmp (kd:=.i64) (r:=ae != 6) (gd_of hg (I ae)) rfl rfl))<|d_q rfl (fun w' H=>x_por (b:=((ab != 0)||(ac != 0))) (r:=ae != 6) rfl rfl (fun hb=>gd_of (c:=!((ab != 0)||(ac != 0))) (by first | exact hb | (rw [hb]; rfl) | simp_all) (B (ae != 6))))<|d_q rfl (fun w' H=>x_mv (v:=B (((ab != 0)||(ac != 0))||(ae != 6))) rfl)<|d_qg (!(((ab != 0)||(ac != 0))||(ae != 6))) rfl (gy_f rfl) (fun hg=>(fun w' H=>x_mv (v:=I ag) rfl))<|d_qg (!(((ab != 0)||(ac != 0))||(ae != 6))) rfl (gy_f rfl) (fun hg=>(fun w' H=>x_cmp (kd:=.i64) (r:=ag != 0) (gd_of hg (I ag)) rfl rfl))<|d_q rfl (fun w' H=>x_por (b:=(((ab != 0)||(ac != 0))||(ae != 6))) (r:=ag != 0) rfl rfl (fun hb=>gd_of (c:=!(((ab != 0)||(ac != 0))||(ae != 6))) (by first | exact hb | (rw [hb]; rfl) | simp_all) (B (ag != 0))))<|d_q rfl (fun w' H=>x_mv (v:=B ((((ab != 0)||(ac != 0))||(ae != 6))||(ag != 0))) rfl) ?_;refine d_qg (!((((ab != 0)||(ac != 0))||(ae != 6))||(ag != 0))) rfl (gy_f rfl) (fun hg=>(fun w' H=>x_mv (v:=I aj) rfl))<|d_qg (!((((ab != 0)||(ac != 0))||(ae != 6))||(ag != 0))) rfl (gy_f rfl) (fun hg=>(fun w' H=>x_cmp (kd:=.i64) (r:=aj != 0) (gd_of hg (I aj)) rfl rfl))<|d_q rfl (fun w' H=>x_por (b:=((((ab != 0)||(ac != 0))||(ae != 6))||(ag != 0))) (r:=aj != 0) rfl rfl (fun hb=>gd_of (c:=!((((ab != 0)||(ac != 0))||(ae != 6))||(ag != 0))) (by first | exact hb | (rw [hb]; rfl) | simp_all) (B (aj != 0))))<|d_q rfl (fun w' H=>x_mv (v:=B (((((ab != 0)||(ac != 0))||(ae != 6))||(ag != 0))||(aj != 0))) rfl)<|d_qg (!(((((ab != 0)||(ac != 0))||(ae != 6))||(ag != 0))||(aj != 0))) rfl (gy_f rfl) (fun hg=>(fun w' H=>x_mv (v:=I am) rfl))<|d_qg (!(((((ab != 0)||(ac != 0))||(ae != 6))||(ag != 0))||(aj != 0))) rfl (gy_f rfl) (fun hg=>(fun w' H=>x_cmp (kd:=.i64) (r:=am != 0) (gd_of hg (I am)) rfl rfl))<|d_q rfl (fun w' H=>x_por (b:=(((((ab != 0)||(ac != 0))||(ae != 6))||(ag != 0))||(aj != 0))) (r:=am != 0) rfl rfl (fun hb=>gd_of (c:=!(((((ab != 0)||(ac != 0))||(ae != 6))||(ag != 0))||(aj != 0))) (by first | exact hb | (rw [hb]; rfl) | simp_all) (B (am != 0))))<|d_q rfl (fun w' H=>x_mv (v:=B ((((((ab != 0)||(ac != 0))||(ae != 6))||(ag != 0))||(aj != 0))||(am != 0))) rfl)<|d_qg (!((((((ab != 0)||(ac != 0))||(ae != 6))||(ag != 0))||(aj != 0))||(am != 0))) rfl (gy_f rfl) (fun hg=>(fun w' H=>x_mv (v:=aO) rfl))<|d_l rfl ?_;refine t_gbs (α:=Int) T22 (!((((((ab != 0)||(ac != 0))||(ae != 6))||(ag != 0))||(aj != 0))||(am != 0))) (gy_f rfl) [I 0] [(0:Int)] H (fun _=>rfl) (.cons rfl (Flat.rep_enc _ (0:Int))<|.nil) rfl rfl rfl ?_;intro b8 fV fW H dH
 refine s_nil ⟨(H.pk [1,2,3,4,5]),?_⟩
 refine d_l rfl ?_;obtain ⟨r7,dJ,hM⟩:=M.e_bind hM;refine t_gcall (!((((((ab != 0)||(ac != 0))||(ae != 6))||(ag != 0))||(aj != 0))||(am != 0))) (gy_f rfl) cf17 (B r7) (fun _=>[aO,b8]) (fun hg=>lst2 (gd_of hg (aO)) (gd_of hg (b8))) H (fun hg=>(zaf bV ([(0:Int)]) (rdo 5) (H.os 5) (Reads.of (k:=0) rfl roLe) (dH hg) (M.e_opt dJ hg) _ (H.give (A:=[]) rfl)).mono fun v_ w_ ⟨y_,aq,ax,H_⟩=>by subst aq; exact ⟨ax,H.via H_⟩) ?_;intro fX H
 refine s_nil ⟨(H.pk [1,2,3,4,5]),?_⟩
 refine d_qg (!((((((ab != 0)||(ac != 0))||(ae != 6))||(ag != 0))||(aj != 0))||(am != 0))) rfl (gy_f rfl) (fun hg=>(fun w' H=>x_not (b:=r7) (gd_of hg (B r7))))<|d_q rfl (fun w' H=>x_por (b:=((((((ab != 0)||(ac != 0))||(ae != 6))||(ag != 0))||(aj != 0))||(am != 0))) (r:=!r7) rfl rfl (fun hb=>gd_of (c:=!((((((ab != 0)||(ac != 0))||(ae != 6))||(ag != 0))||(aj != 0))||(am != 0))) (by first | exact hb | (rw [hb]; rfl) | simp_all) (B (!r7))))<|d_q rfl (fun w' H=>x_mv (v:=B (((((((ab != 0)||(ac != 0))||(ae != 6))||(ag != 0))||(aj != 0))||(am != 0))||(!r7))) rfl)<|d_qg (!(((((((ab != 0)||(ac != 0))||(ae != 6))||(ag != 0))||(aj != 0))||(am != 0))||(!r7))) rfl (gy_f rfl) (fun hg=>(fun w' H=>x_mv (v:=aS) rfl))<|d_qg (!(((((((ab != 0)||(ac != 0))||(ae != 6))||(ag != 0))||(aj != 0))||(am != 0))||(!r7))) rfl (gy_f rfl) (fun hg=>(fun w' H=>x_lenS T22.und (gd_of hg (aS)) (H.os 3)))<|d_qg (!(((((((ab != 0)||(ac != 0))||(ae != 6))||(ag != 0))||(aj != 0))||(am != 0))||(!r7))) rfl (gy_f rfl) (fun hg=>(fun w' H=>x_cmp (kd:=.i64) (r:=decide (0<(ao.length:Int))) (gd_of hg (I (ao.length:Int))) rfl rfl))<|d_q rfl (fun w' H=>x_por (b:=(((((((ab != 0)||(ac != 0))||(ae != 6))||(ag != 0))||(aj != 0))||(am != 0))||(!r7))) (r:=decide (0<(ao.length:Int))) rfl rfl (fun hb=>gd_of (c:=!(((((((ab != 0)||(ac != 0))||(ae != 6))||(ag != 0))||(aj != 0))||(am != 0))||(!r7))) (by first | exact hb | (rw [hb]; rfl) | simp_all) (B (decide (0<(ao.length:Int))))))<|d_q rfl (fun w' H=>x_mv (v:=B ((((((((ab != 0)||(ac != 0))||(ae != 6))||(ag != 0))||(aj != 0))||(am != 0))||(!r7))||(decide (0<(ao.length:Int))))) rfl)<|d_qg (!((((((((ab != 0)||(ac != 0))||(ae != 6))||(ag != 0))||(aj != 0))||(am != 0))||(!r7))||(decide (0<(ao.length:Int))))) rfl (gy_f rfl) (fun hg=>(fun w' H=>x_mv (v:=aT) rfl))<|d_qg (!((((((((ab != 0)||(ac != 0))||(ae != 6))||(ag != 0))||(aj != 0))||(am != 0))||(!r7))||(decide (0<(ao.length:Int))))) rfl (gy_f rfl) (fun hg=>(fun w' H=>x_lenS T22.und (gd_of hg (aT)) (H.os 2))) ?_;refine d_qg (!((((((((ab != 0)||(ac != 0))||(ae != 6))||(ag != 0))||(aj != 0))||(am != 0))||(!r7))||(decide (0<(ao.length:Int))))) rfl (gy_f rfl) (fun hg=>(fun w' H=>x_cmp (kd:=.i64) (r:=(au.length:Int) != 2) (gd_of hg (I (au.length:Int))) rfl rfl))<|d_q rfl (fun w' H=>x_por (b:=((((((((ab != 0)||(ac != 0))||(ae != 6))||(ag != 0))||(aj != 0))||(am != 0))||(!r7))||(decide (0<(ao.length:Int))))) (r:=(au.length:Int) != 2) rfl rfl (fun hb=>gd_of (c:=!((((((((ab != 0)||(ac != 0))||(ae != 6))||(ag != 0))||(aj != 0))||(am != 0))||(!r7))||(decide (0<(ao.length:Int))))) (by first | exact hb | (rw [hb]; rfl) | simp_all) (B ((au.length:Int) != 2))))<|d_q rfl (fun w' H=>x_mv (v:=B (((((((((ab != 0)||(ac != 0))||(ae != 6))||(ag != 0))||(aj != 0))||(am != 0))||(!r7))||(decide (0<(ao.length:Int))))||((au.length:Int) != 2))) rfl)<|d_qg (!(((((((((ab != 0)||(ac != 0))||(ae != 6))||(ag != 0))||(aj != 0))||(am != 0))||(!r7))||(decide (0<(ao.length:Int))))||((au.length:Int) != 2))) rfl (gy_f rfl) (fun hg=>(fun w' H=>x_mv (v:=aP) rfl))<|d_l rfl ?_;refine t_gbs (α:=Int) T22 (!(((((((((ab != 0)||(ac != 0))||(ae != 6))||(ag != 0))||(aj != 0))||(am != 0))||(!r7))||(decide (0<(ao.length:Int))))||((au.length:Int) != 2))) (gy_f rfl) [I 2] [(2:Int)] H (fun _=>rfl) (.cons rfl (Flat.rep_enc _ (2:Int))<|.nil) rfl rfl rfl ?_;intro b9 fY fZ H dK
 refine s_nil ⟨(H.pk [2,3,4,5,6]),?_⟩
 refine d_l rfl ?_;obtain ⟨r8,dL,hM⟩:=M.e_bind hM;refine t_gcall (!(((((((((ab != 0)||(ac != 0))||(ae != 6))||(ag != 0))||(aj != 0))||(am != 0))||(!r7))||(decide (0<(ao.length:Int))))||((au.length:Int) != 2))) (gy_f rfl) cf17 (B r8) (fun _=>[aP,b9]) (fun hg=>lst2 (gd_of hg (aP)) (gd_of hg (b9))) H (fun hg=>(zaf b4 ([(2:Int)]) (rdo 3) (H.os 3) (Reads.of (k:=0) rfl roLe) (dK hg) (M.e_opt dL hg) _ (H.give (A:=[]) rfl)).mono fun v_ w_ ⟨y_,aq,ax,H_⟩=>by subst aq; exact ⟨ax,H.via H_⟩) ?_;intro f0 H
 refine s_nil ⟨(H.pk [2,3,4,5,6]),?_⟩
 refine d_qg (!(((((((((ab != 0)||(ac != 0))||(ae != 6))||(ag != 0))||(aj != 0))||(am != 0))||(!r7))||(decide (0<(ao.length:Int))))||((au.length:Int) != 2))) rfl (gy_f rfl) (fun hg=>(fun w' H=>x_not (b:=r8) (gd_of hg (B r8))))<|d_q rfl (fun w' H=>x_por (b:=(((((((((ab != 0)||(ac != 0))||(ae != 6))||(ag != 0))||(aj != 0))||(am != 0))||(!r7))||(decide (0<(ao.length:Int))))||((au.length:Int) != 2))) (r:=!r8) rfl rfl (fun hb=>gd_of (c:=!(((((((((ab != 0)||(ac != 0))||(ae != 6))||(ag != 0))||(aj != 0))||(am != 0))||(!r7))||(decide (0<(ao.length:Int))))||((au.length:Int) != 2))) (by first | exact hb | (rw [hb]; rfl) | simp_all) (B (!r8))))<|d_q rfl (fun w' H=>x_mv (v:=B ((((((((((ab != 0)||(ac != 0))||(ae != 6))||(ag != 0))||(aj != 0))||(am != 0))||(!r7))||(decide (0<(ao.length:Int))))||((au.length:Int) != 2))||(!r8))) rfl)<|d_qg (!((((((((((ab != 0)||(ac != 0))||(ae != 6))||(ag != 0))||(aj != 0))||(am != 0))||(!r7))||(decide (0<(ao.length:Int))))||((au.length:Int) != 2))||(!r8))) rfl (gy_f rfl) (fun hg=>(fun w' H=>x_ld (v:=.agg #[I az,I aA]) rfl (ldb_ag (ds:=[I az,I aA]) Ag26 Sz26 (H.bl 0) rfl rfl)))<|d_l rfl ?_
 refine g_splitV (!((((((((((ab != 0)||(ac != 0))||(ae != 6))||(ag != 0))||(aj != 0))||(am != 0))||(!r7))||(decide (0<(ao.length:Int))))||((au.length:Int) != 2))||(!r8))) (.agg #[I 0,I 0]) (gy_f rfl) (fun aU=>?_) (fun aU=>?_)
 ·replace hM:=M.e_t hM aU;obtain ⟨f1,dM,hM⟩:=M.e_bind hM;refine s_call cf8 [I 6,I 10] rfl (zah 6 10 dM _ (H.gt 7)) ?_
  rintro vq f2 ⟨aQ,aR,rfl,hvq,aa⟩
  subst vq;(try dsimp only at hM);replace H:=H.bk aa;clear aa
  refine s_nil ⟨(H.pk [2,3,4,5,6]),?_⟩
  refine d_qg (!((((((((((ab != 0)||(ac != 0))||(ae != 6))||(ag != 0))||(aj != 0))||(am != 0))||(!r7))||(decide (0<(ao.length:Int))))||((au.length:Int) != 2))||(!r8))) rfl (gy_f rfl) (fun hg=>(fun w' H=>x_neS (eqT26 (⟨(az:Int),(aA:Int)⟩:Span) (⟨(aQ:Int),(aR:Int)⟩:Span) _) gdT26 (gd_of hg (.agg #[I az,I aA])) rfl))<|d_q rfl (fun w' H=>x_por (b:=((((((((((ab != 0)||(ac != 0))||(ae != 6))||(ag != 0))||(aj != 0))||(am != 0))||(!r7))||(decide (0<(ao.length:Int))))||((au.length:Int) != 2))||(!r8))) (r:=!(decide ((⟨(az:Int),(aA:Int)⟩:Span)=(⟨(aQ:Int),(aR:Int)⟩:Span)))) rfl rfl (fun hb=>gd_of (c:=!((((((((((ab != 0)||(ac != 0))||(ae != 6))||(ag != 0))||(aj != 0))||(am != 0))||(!r7))||(decide (0<(ao.length:Int))))||((au.length:Int) != 2))||(!r8))) (by first | exact hb | (rw [hb]; rfl) | simp_all) (B (!(decide ((⟨(az:Int),(aA:Int)⟩:Span)=(⟨(aQ:Int),(aR:Int)⟩:Span))))))) ?_;refine d_nil ?_;replace H:=H.pk []
  refine W.cond (((((((((((ab != 0)||(ac != 0))||(ae != 6))||(ag != 0))||(aj != 0))||(am != 0))||(!r7))||(decide (0<(ao.length:Int))))||((au.length:Int) != 2))||(!r8))||(!(decide ((⟨(az:Int),(aA:Int)⟩:Span)=(⟨(aQ:Int),(aR:Int)⟩:Span))))) rfl (fun aV=>?_) (fun aV=>?_)
  ·replace hM:=M.e_t hM aV;refine kg 4 ?_;refine W.ret ?_
   have aq:=M.e_pure hM
   exact ⟨_,resE_tmp rfl,⟨false,aq,rfl,H⟩⟩
  replace hM:=M.e_f hM aV;refine kg 3 ?_;obtain ⟨f4,dN,hM⟩:=M.e_bind hM;refine s_call cf4 [I 1] rfl (zac 1 dN _ (H.gt 0)) ?_
  rintro vq f6 ⟨aW,aX,aY,aZ,aC,aD,a6,a7,a8,ba,bb,bc,dO,dP,rfl,hvq,aa,dQ⟩
  subst vq;(try dsimp only at hM);replace H:=H.bk aa;clear aa;refine t_bs (α:=Int) T22 [I 2] [(2:Int)] H rfl (.cons rfl (Flat.rep_enc _ (2:Int))<|.nil) rfl rfl rfl ?_;intro dR f9 H;obtain ⟨ga,dS,hM⟩:=M.e_bind hM;refine s_call cf41 [.agg #[a7,a8,ba,bb,I aC,I aD,bc],dR] rfl (zbD aW aX aY aZ aC aD a6 ([(2:Int)]) (rdo 1) (H.os 1) (rdo 2) (H.os 2) (rdo 3) (H.os 3) (rdo 4) (H.os 4) (Reads.sup (rdo 5) (Reads.of (k:=6) rfl roLe)) (rowSl rfl (H.get (k:=5) rfl) (roLe _ (H.get (k:=6) rfl)) dQ) (rdo 0) (H.os 0) dS _ (H.gt 7)) ?_
  rintro vq gc ⟨bf,bg,ah,aE,aF,rfl,hvq,aa⟩
  subst vq;(try dsimp only at hM);replace H:=H.bk aa;clear aa;refine kg 8 ?_;replace H:=H.pk [0,1];refine kg 2 ?_;obtain ⟨gf,dT,hM⟩:=M.e_bind hM;refine s_call cf4 [I 1] rfl (zac 1 dT _ (H.gt 2)) ?_
  rintro vq gg ⟨bh,bi,bj,bm,aG,aH,bn,bo,bp,br,bt,bu,dU,dV,rfl,hvq,aa,dW⟩
  subst vq;(try dsimp only at hM);replace H:=H.bk aa;clear aa;refine t_bs (α:=Int) T22 [I 2] [(2:Int)] H rfl (.cons rfl (Flat.rep_enc _ (2:Int))<|.nil) rfl rfl rfl ?_;intro dX gh H;refine t_bs (α:=Int) T22 [I 250] [(250:Int)] H rfl (.cons rfl (Flat.rep_enc _ (250:Int))<|.nil) rfl rfl rfl ?_;intro dY gj H;obtain ⟨gk,dZ,hM⟩:=M.e_bind hM;refine s_call cf43 [.agg #[bo,bp,br,bt,I aG,I aH,bu],dX,dY] rfl (zaD bh bi bj bm aG aH bn ([(2:Int)]) ([(250:Int)]) (rdo 2) (H.os 2) (rdo 3) (H.os 3) (rdo 4) (H.os 4) (rdo 5) (H.os 5) (Reads.sup (rdo 6) (Reads.of (k:=7) rfl roLe)) (rowSl rfl (H.get (k:=6) rfl) (roLe _ (H.get (k:=7) rfl)) dW) (rdo 1) (H.os 1) (rdo 0) (H.os 0) dZ _ (H.gt 10)) ?_
  rintro vq gl ⟨av,aw,ai,d0,d1,rfl,hvq,aa⟩
  subst vq;(try dsimp only at hM);replace H:=H.bk aa;clear aa;refine kg 8 ?_;replace H:=H.pk [0,1,10,11];refine kg 2 ?_;obtain ⟨gm,d2,hM⟩:=M.e_bind hM;refine s_call cf4 [I 1] rfl (zac 1 d2 _ (H.gt 4)) ?_
  rintro vq gn ⟨bv,bw,bx,bz,aI,aJ,bA,bB,bC,bD,bE,bF,d3,d4,rfl,hvq,aa,d5⟩
  subst vq;(try dsimp only at hM);replace H:=H.bk aa;clear aa;refine t_bs (α:=Int) T22 [I 2] [(2:Int)] H rfl (.cons rfl (Flat.rep_enc _ (2:Int))<|.nil) rfl rfl rfl ?_;intro d6 gp H;refine t_bs (α:=Int) T22 [I 240] [(240:Int)] H rfl (.cons rfl (Flat.rep_enc _ (240:Int))<|.nil) rfl rfl rfl ?_;intro d7 gq H;obtain ⟨gr,d8,hM⟩:=M.e_bind hM;refine s_call cf43 [.agg #[bB,bC,bD,bE,I aI,I aJ,bF],d6,d7] rfl (zaD bv bw bx bz aI aJ bA ([(2:Int)]) ([(240:Int)]) (rdo 2) (H.os 2) (rdo 3) (H.os 3) (rdo 4) (H.os 4) (rdo 5) (H.os 5) (Reads.sup (rdo 6) (Reads.of (k:=7) rfl roLe)) (rowSl rfl (H.get (k:=6) rfl) (roLe _ (H.get (k:=7) rfl)) d5) (rdo 1) (H.os 1) (rdo 0) (H.os 0) d8 _ (H.gt 12)) ?_
  rintro vq gu ⟨d9,bG,ak,ea,aK,rfl,hvq,aa⟩
  subst vq;(try dsimp only at hM);replace H:=H.bk aa;clear aa;refine kg 8 ?_;replace H:=H.pk [1,10,11,12,13];refine kg 2 ?_;obtain ⟨gv,eb,hM⟩:=M.e_bind hM;refine s_call cf4 [I 1] rfl (zac 1 eb _ (H.gt 5)) ?_
  rintro vq gw ⟨bH,bI,bJ,bK,aL,aM,bL,bM,bN,bO,bP,bQ,ec,ed,rfl,hvq,aa,ee⟩
  subst vq;(try dsimp only at hM);replace H:=H.bk aa;clear aa;refine t_bs (α:=Int) T22 [I 2] [(2:Int)] H rfl (.cons rfl (Flat.rep_enc _ (2:Int))<|.nil) rfl rfl rfl ?_;intro ef gx H;refine t_bs (α:=Int) T22 [I 251] [(251:Int)] H rfl (.cons rfl (Flat.rep_enc _ (251:Int))<|.nil) rfl rfl rfl ?_;intro eg gy H;obtain ⟨gz,eh,hM⟩:=M.e_bind hM;refine s_call cf43 [.agg #[bM,bN,bO,bP,I aL,I aM,bQ],ef,eg] rfl (zaD bH bI bJ bK aL aM bL ([(2:Int)]) ([(251:Int)]) (rdo 2) (H.os 2) (rdo 3) (H.os 3) (rdo 4) (H.os 4) (rdo 5) (H.os 5) (Reads.sup (rdo 6) (Reads.of (k:=7) rfl roLe)) (rowSl rfl (H.get (k:=6) rfl) (roLe _ (H.get (k:=7) rfl)) ee) (rdo 1) (H.os 1) (rdo 0) (H.os 0) eh _ (H.gt 13)) ?_
  rintro vq gA ⟨bR,ei,al,aN,ej,rfl,hvq,aa⟩
  subst vq;(try dsimp only at hM);replace H:=H.bk aa;clear aa;refine kg 8 ?_;replace H:=H.pk [0,10,11,12,13,14];refine kg 7 ?_;refine s_val (x_pand (b:=ah==0) (r:=ai==0) rfl (fun hb=>gd_of (c:=ah==0) (by first | exact hb | (rw [hb]; rfl) | simp_all) (B (ai==0))) rfl) ?_;refine kg 3 ?_;refine s_val (x_pand (b:=((ah==0)&&(ai==0))) (r:=ak==0) rfl (fun hb=>gd_of (c:=((ah==0)&&(ai==0))) (by first | exact hb | (rw [hb]; rfl) | simp_all) (B (ak==0))) rfl) ?_;refine kg 3 ?_;refine s_val (x_pand (b:=(((ah==0)&&(ai==0))&&(ak==0))) (r:=al==0) rfl (fun hb=>gd_of (c:=(((ah==0)&&(ai==0))&&(ak==0))) (by first | exact hb | (rw [hb]; rfl) | simp_all) (B (al==0))) rfl) ?_;refine kg 2 ?_;refine t_gbs (α:=Int) T22 ((((ah==0)&&(ai==0))&&(ak==0))&&(al==0)) (gy_t rfl) [I 250] [(250:Int)] H (fun _=>rfl) (.cons rfl (Flat.rep_enc _ (250:Int))<|.nil) rfl rfl rfl ?_;intro ca el gB H em;obtain ⟨r9,eo,hM⟩:=M.e_bind hM;refine t_gcall ((((ah==0)&&(ai==0))&&(ak==0))&&(al==0)) (gy_t rfl) cf17 (B r9) (fun _=>[aE,ca]) (fun hg=>lst2 (gd_of hg (aE)) (gd_of hg (ca))) H (fun hg=>(zaf bf ([(250:Int)]) (rdo 5) (H.os 5) (Reads.of (k:=0) rfl roLe) (em hg) (M.e_opt eo hg) _ (H.give (A:=[]) rfl)).mono fun v_ w_ ⟨y_,aq,ax,H_⟩=>by subst aq; exact ⟨ax,H.via H_⟩) ?_;intro gC H;refine s_val (x_pand (b:=((((ah==0)&&(ai==0))&&(ak==0))&&(al==0))) (r:=r9) rfl (fun hb=>gd_of (c:=((((ah==0)&&(ai==0))&&(ak==0))&&(al==0))) (by first | exact hb | (rw [hb]; rfl) | simp_all) (B r9)) rfl) ?_;refine kg 2 ?_;refine t_gbs (α:=Int) T22 (((((ah==0)&&(ai==0))&&(ak==0))&&(al==0))&&r9) (gy_t rfl) [I 0] [(0:Int)] H (fun _=>rfl) (.cons rfl (Flat.rep_enc _ (0:Int))<|.nil) rfl rfl rfl ?_;intro cb ep gD H eq;obtain ⟨ap,eu,hM⟩:=M.e_bind hM;refine t_gcall (((((ah==0)&&(ai==0))&&(ak==0))&&(al==0))&&r9) (gy_t rfl) cf17 (B ap) (fun _=>[aF,cb]) (fun hg=>lst2 (gd_of hg (aF)) (gd_of hg (cb))) H (fun hg=>(zaf bg ([(0:Int)]) (rdo 7) (H.os 7) (Reads.of (k:=0) rfl roLe) (eq hg) (M.e_opt eu hg) _ (H.give (A:=[]) rfl)).mono fun v_ w_ ⟨y_,aq,ax,H_⟩=>by subst aq; exact ⟨ax,H.via H_⟩) ?_;intro gE H;refine s_val (x_pand (b:=(((((ah==0)&&(ai==0))&&(ak==0))&&(al==0))&&r9)) (r:=ap) rfl (fun hb=>gd_of (c:=(((((ah==0)&&(ai==0))&&(ak==0))&&(al==0))&&r9)) (by first | exact hb | (rw [hb]; rfl) | simp_all) (B ap)) rfl) ?_;obtain ⟨bS,hM⟩:=M.e_grd hM
  replace bS:=M.imp_of bS
  simp only [Bool.and_eq_true,decide_eq_true_eq] at bS
  refine kg 7 ?_;refine s_val (x_pand (b:=((((((ah==0)&&(ai==0))&&(ak==0))&&(al==0))&&r9)&&ap)) (r:=((av.length:Int)+(aw.length:Int))==0) rfl (fun hb=>gd_of (c:=((((((ah==0)&&(ai==0))&&(ak==0))&&(al==0))&&r9)&&ap)) (by first | exact hb | (rw [hb]; rfl) | simp_all) (B (((av.length:Int)+(aw.length:Int))==0))) rfl) ?_;refine kg 2 ?_;refine t_gbs (α:=Int) T22 (((((((ah==0)&&(ai==0))&&(ak==0))&&(al==0))&&r9)&&ap)&&(((av.length:Int)+(aw.length:Int))==0)) (gy_t rfl) [I 1] [(1:Int)] H (fun _=>rfl) (.cons rfl (Flat.rep_enc _ (1:Int))<|.nil) rfl rfl rfl ?_;intro cc ew gF H ey;obtain ⟨ay,ez,hM⟩:=M.e_bind hM;refine t_gcall (((((((ah==0)&&(ai==0))&&(ak==0))&&(al==0))&&r9)&&ap)&&(((av.length:Int)+(aw.length:Int))==0)) (gy_t rfl) cf17 (B ay) (fun _=>[aK,cc]) (fun hg=>lst2 (gd_of hg (aK)) (gd_of hg (cc))) H (fun hg=>(zaf bG ([(1:Int)]) (rdo 4) (H.os 4) (Reads.of (k:=0) rfl roLe) (ey hg) (M.e_opt ez hg) _ (H.give (A:=[]) rfl)).mono fun v_ w_ ⟨y_,aq,ax,H_⟩=>by subst aq; exact ⟨ax,H.via H_⟩) ?_;intro gG H;refine s_val (x_pand (b:=(((((((ah==0)&&(ai==0))&&(ak==0))&&(al==0))&&r9)&&ap)&&(((av.length:Int)+(aw.length:Int))==0))) (r:=ay) rfl (fun hb=>gd_of (c:=(((((((ah==0)&&(ai==0))&&(ak==0))&&(al==0))&&r9)&&ap)&&(((av.length:Int)+(aw.length:Int))==0))) (by first | exact hb | (rw [hb]; rfl) | simp_all) (B ay)) rfl) ?_;refine kg 2 ?_;refine t_gbs (α:=Int) T22 ((((((((ah==0)&&(ai==0))&&(ak==0))&&(al==0))&&r9)&&ap)&&(((av.length:Int)+(aw.length:Int))==0))&&ay) (gy_t rfl) [I 0] [(0:Int)] H (fun _=>rfl) (.cons rfl (Flat.rep_enc _ (0:Int))<|.nil) rfl rfl rfl ?_;intro cd eA gH H eB;obtain ⟨aB,eC,hM⟩:=M.e_bind hM;refine t_gcall ((((((((ah==0)&&(ai==0))&&(ak==0))&&(al==0))&&r9)&&ap)&&(((av.length:Int)+(aw.length:Int))==0))&&ay) (gy_t rfl) cf17 (B aB) (fun _=>[aN,cd]) (fun hg=>lst2 (gd_of hg (aN)) (gd_of hg (cd))) H (fun hg=>(zaf bR ([(0:Int)]) (rdo 4) (H.os 4) (Reads.of (k:=0) rfl roLe) (eB hg) (M.e_opt eC hg) _ (H.give (A:=[]) rfl)).mono fun v_ w_ ⟨y_,aq,ax,H_⟩=>by subst aq; exact ⟨ax,H.via H_⟩) ?_;intro gI H;refine s_val (x_pand (b:=((((((((ah==0)&&(ai==0))&&(ak==0))&&(al==0))&&r9)&&ap)&&(((av.length:Int)+(aw.length:Int))==0))&&ay)) (r:=aB) rfl (fun hb=>gd_of (c:=((((((((ah==0)&&(ai==0))&&(ak==0))&&(al==0))&&r9)&&ap)&&(((av.length:Int)+(aw.length:Int))==0))&&ay)) (by first | exact hb | (rw [hb]; rfl) | simp_all) (B aB)) rfl) ?_;refine kg 2 ?_;replace H:=H.pk [];refine W.ret ?_
  have aq:=M.e_pure hM
  exact ⟨_,resE_tmp rfl,⟨(((((((((ah==0)&&(ai==0))&&(ak==0))&&(al==0))&&r9)&&ap)&&(((av.length:Int)+(aw.length:Int))==0))&&ay)&&aB),aq,rfl,H⟩⟩
 replace hM:=M.e_f hM aU
 refine s_nil ⟨(H.pk [2,3,4,5,6]),?_⟩
 refine d_qg (!((((((((((ab != 0)||(ac != 0))||(ae != 6))||(ag != 0))||(aj != 0))||(am != 0))||(!r7))||(decide (0<(ao.length:Int))))||((au.length:Int) != 2))||(!r8))) rfl (gy_f rfl) (fun hg=>(fun w' H=>x_neS (eqT26 (⟨(az:Int),(aA:Int)⟩:Span) (⟨(0:Int),(0:Int)⟩:Span) _) gdT26 (gd_of hg (.agg #[I az,I aA])) (gd_of hg (.agg #[I 0,I 0]))))<|d_q rfl (fun w' H=>x_por (b:=((((((((((ab != 0)||(ac != 0))||(ae != 6))||(ag != 0))||(aj != 0))||(am != 0))||(!r7))||(decide (0<(ao.length:Int))))||((au.length:Int) != 2))||(!r8))) (r:=!(decide ((⟨(az:Int),(aA:Int)⟩:Span)=(⟨(0:Int),(0:Int)⟩:Span)))) rfl rfl (fun hb=>gd_of (c:=!((((((((((ab != 0)||(ac != 0))||(ae != 6))||(ag != 0))||(aj != 0))||(am != 0))||(!r7))||(decide (0<(ao.length:Int))))||((au.length:Int) != 2))||(!r8))) (by first | exact hb | (rw [hb]; rfl) | simp_all) (B (!(decide ((⟨(az:Int),(aA:Int)⟩:Span)=(⟨(0:Int),(0:Int)⟩:Span))))))) ?_;refine d_nil ?_;replace H:=H.pk []
 refine W.cond (((((((((((ab != 0)||(ac != 0))||(ae != 6))||(ag != 0))||(aj != 0))||(am != 0))||(!r7))||(decide (0<(ao.length:Int))))||((au.length:Int) != 2))||(!r8))||(!(decide ((⟨(az:Int),(aA:Int)⟩:Span)=(⟨(0:Int),(0:Int)⟩:Span))))) rfl (fun bT=>?_) (fun bT=>?_)
 ·replace hM:=M.e_t hM bT;refine kg 4 ?_;refine W.ret ?_
  have aq:=M.e_pure hM
  exact ⟨_,resE_tmp rfl,⟨false,aq,rfl,H⟩⟩
 replace hM:=M.e_f hM bT;refine kg 3 ?_;obtain ⟨gJ,eD,hM⟩:=M.e_bind hM;refine s_call cf4 [I 1] rfl (zac 1 eD _ (H.gt 0)) ?_
 rintro vq gK ⟨aW,aX,aY,aZ,aC,aD,a6,a7,a8,ba,bb,bc,dO,dP,rfl,hvq,aa,eE⟩
 subst vq;(try dsimp only at hM);replace H:=H.bk aa;clear aa;refine t_bs (α:=Int) T22 [I 2] [(2:Int)] H rfl (.cons rfl (Flat.rep_enc _ (2:Int))<|.nil) rfl rfl rfl ?_;intro eF gL H;obtain ⟨gM,eG,hM⟩:=M.e_bind hM;refine s_call cf41 [.agg #[a7,a8,ba,bb,I aC,I aD,bc],eF] rfl (zbD aW aX aY aZ aC aD a6 ([(2:Int)]) (rdo 1) (H.os 1) (rdo 2) (H.os 2) (rdo 3) (H.os 3) (rdo 4) (H.os 4) (Reads.sup (rdo 5) (Reads.of (k:=6) rfl roLe)) (rowSl rfl (H.get (k:=5) rfl) (roLe _ (H.get (k:=6) rfl)) eE) (rdo 0) (H.os 0) eG _ (H.gt 7)) ?_
 rintro vq gN ⟨bf,bg,ah,aE,aF,rfl,hvq,aa⟩
 subst vq;(try dsimp only at hM);replace H:=H.bk aa;clear aa;refine kg 8 ?_;replace H:=H.pk [0,1];refine kg 2 ?_;obtain ⟨gO,eH,hM⟩:=M.e_bind hM;refine s_call cf4 [I 1] rfl (zac 1 eH _ (H.gt 2)) ?_
 rintro vq gP ⟨bh,bi,bj,bm,aG,aH,bn,bo,bp,br,bt,bu,dU,dV,rfl,hvq,aa,eI⟩
 subst vq;(try dsimp only at hM);replace H:=H.bk aa;clear aa;refine t_bs (α:=Int) T22 [I 2] [(2:Int)] H rfl (.cons rfl (Flat.rep_enc _ (2:Int))<|.nil) rfl rfl rfl ?_;intro eJ gQ H;refine t_bs (α:=Int) T22 [I 250] [(250:Int)] H rfl (.cons rfl (Flat.rep_enc _ (250:Int))<|.nil) rfl rfl rfl ?_;intro eK gR H;obtain ⟨gS,eL,hM⟩:=M.e_bind hM;refine s_call cf43 [.agg #[bo,bp,br,bt,I aG,I aH,bu],eJ,eK] rfl (zaD bh bi bj bm aG aH bn ([(2:Int)]) ([(250:Int)]) (rdo 2) (H.os 2) (rdo 3) (H.os 3) (rdo 4) (H.os 4) (rdo 5) (H.os 5) (Reads.sup (rdo 6) (Reads.of (k:=7) rfl roLe)) (rowSl rfl (H.get (k:=6) rfl) (roLe _ (H.get (k:=7) rfl)) eI) (rdo 1) (H.os 1) (rdo 0) (H.os 0) eL _ (H.gt 10)) ?_
 rintro vq gT ⟨av,aw,ai,d0,d1,rfl,hvq,aa⟩
 subst vq;(try dsimp only at hM);replace H:=H.bk aa;clear aa;refine kg 8 ?_;replace H:=H.pk [0,1,10,11];refine kg 2 ?_;obtain ⟨gU,eM,hM⟩:=M.e_bind hM;refine s_call cf4 [I 1] rfl (zac 1 eM _ (H.gt 4)) ?_
 rintro vq gV ⟨bv,bw,bx,bz,aI,aJ,bA,bB,bC,bD,bE,bF,d3,d4,rfl,hvq,aa,eN⟩
 subst vq;(try dsimp only at hM);replace H:=H.bk aa;clear aa;refine t_bs (α:=Int) T22 [I 2] [(2:Int)] H rfl (.cons rfl (Flat.rep_enc _ (2:Int))<|.nil) rfl rfl rfl ?_;intro eO gW H;refine t_bs (α:=Int) T22 [I 240] [(240:Int)] H rfl (.cons rfl (Flat.rep_enc _ (240:Int))<|.nil) rfl rfl rfl ?_;intro eP gX H;obtain ⟨gY,eQ,hM⟩:=M.e_bind hM;refine s_call cf43 [.agg #[bB,bC,bD,bE,I aI,I aJ,bF],eO,eP] rfl (zaD bv bw bx bz aI aJ bA ([(2:Int)]) ([(240:Int)]) (rdo 2) (H.os 2) (rdo 3) (H.os 3) (rdo 4) (H.os 4) (rdo 5) (H.os 5) (Reads.sup (rdo 6) (Reads.of (k:=7) rfl roLe)) (rowSl rfl (H.get (k:=6) rfl) (roLe _ (H.get (k:=7) rfl)) eN) (rdo 1) (H.os 1) (rdo 0) (H.os 0) eQ _ (H.gt 12)) ?_
 rintro vq gZ ⟨d9,bG,ak,ea,aK,rfl,hvq,aa⟩
 subst vq;(try dsimp only at hM);replace H:=H.bk aa;clear aa;refine kg 8 ?_;replace H:=H.pk [1,10,11,12,13];refine kg 2 ?_;obtain ⟨g0,eR,hM⟩:=M.e_bind hM;refine s_call cf4 [I 1] rfl (zac 1 eR _ (H.gt 5)) ?_
 rintro vq g1 ⟨bH,bI,bJ,bK,aL,aM,bL,bM,bN,bO,bP,bQ,ec,ed,rfl,hvq,aa,eS⟩
 subst vq;(try dsimp only at hM);replace H:=H.bk aa;clear aa;refine t_bs (α:=Int) T22 [I 2] [(2:Int)] H rfl (.cons rfl (Flat.rep_enc _ (2:Int))<|.nil) rfl rfl rfl ?_;intro eT g2 H;refine t_bs (α:=Int) T22 [I 251] [(251:Int)] H rfl (.cons rfl (Flat.rep_enc _ (251:Int))<|.nil) rfl rfl rfl ?_;intro eU g3 H;obtain ⟨g4,eV,hM⟩:=M.e_bind hM;refine s_call cf43 [.agg #[bM,bN,bO,bP,I aL,I aM,bQ],eT,eU] rfl (zaD bH bI bJ bK aL aM bL ([(2:Int)]) ([(251:Int)]) (rdo 2) (H.os 2) (rdo 3) (H.os 3) (rdo 4) (H.os 4) (rdo 5) (H.os 5) (Reads.sup (rdo 6) (Reads.of (k:=7) rfl roLe)) (rowSl rfl (H.get (k:=6) rfl) (roLe _ (H.get (k:=7) rfl)) eS) (rdo 1) (H.os 1) (rdo 0) (H.os 0) eV _ (H.gt 13)) ?_
 rintro vq g5 ⟨bR,ei,al,aN,ej,rfl,hvq,aa⟩
 subst vq;(try dsimp only at hM);replace H:=H.bk aa;clear aa;refine kg 8 ?_;replace H:=H.pk [0,10,11,12,13,14];refine kg 7 ?_;refine s_val (x_pand (b:=ah==0) (r:=ai==0) rfl (fun hb=>gd_of (c:=ah==0) (by first | exact hb | (rw [hb]; rfl) | simp_all) (B (ai==0))) rfl) ?_;refine kg 3 ?_;refine s_val (x_pand (b:=((ah==0)&&(ai==0))) (r:=ak==0) rfl (fun hb=>gd_of (c:=((ah==0)&&(ai==0))) (by first | exact hb | (rw [hb]; rfl) | simp_all) (B (ak==0))) rfl) ?_;refine kg 3 ?_;refine s_val (x_pand (b:=(((ah==0)&&(ai==0))&&(ak==0))) (r:=al==0) rfl (fun hb=>gd_of (c:=(((ah==0)&&(ai==0))&&(ak==0))) (by first | exact hb | (rw [hb]; rfl) | simp_all) (B (al==0))) rfl) ?_;refine kg 2 ?_;refine t_gbs (α:=Int) T22 ((((ah==0)&&(ai==0))&&(ak==0))&&(al==0)) (gy_t rfl) [I 250] [(250:Int)] H (fun _=>rfl) (.cons rfl (Flat.rep_enc _ (250:Int))<|.nil) rfl rfl rfl ?_;intro ce el g6 H eW;obtain ⟨r9,eX,hM⟩:=M.e_bind hM;refine t_gcall ((((ah==0)&&(ai==0))&&(ak==0))&&(al==0)) (gy_t rfl) cf17 (B r9) (fun _=>[aE,ce]) (fun hg=>lst2 (gd_of hg (aE)) (gd_of hg (ce))) H (fun hg=>(zaf bf ([(250:Int)]) (rdo 5) (H.os 5) (Reads.of (k:=0) rfl roLe) (eW hg) (M.e_opt eX hg) _ (H.give (A:=[]) rfl)).mono fun v_ w_ ⟨y_,aq,ax,H_⟩=>by subst aq; exact ⟨ax,H.via H_⟩) ?_;intro g7 H;refine s_val (x_pand (b:=((((ah==0)&&(ai==0))&&(ak==0))&&(al==0))) (r:=r9) rfl (fun hb=>gd_of (c:=((((ah==0)&&(ai==0))&&(ak==0))&&(al==0))) (by first | exact hb | (rw [hb]; rfl) | simp_all) (B r9)) rfl) ?_;refine kg 2 ?_;refine t_gbs (α:=Int) T22 (((((ah==0)&&(ai==0))&&(ak==0))&&(al==0))&&r9) (gy_t rfl) [I 0] [(0:Int)] H (fun _=>rfl) (.cons rfl (Flat.rep_enc _ (0:Int))<|.nil) rfl rfl rfl ?_;intro cf ep g8 H eY;obtain ⟨ap,eZ,hM⟩:=M.e_bind hM;refine t_gcall (((((ah==0)&&(ai==0))&&(ak==0))&&(al==0))&&r9) (gy_t rfl) cf17 (B ap) (fun _=>[aF,cf]) (fun hg=>lst2 (gd_of hg (aF)) (gd_of hg (cf))) H (fun hg=>(zaf bg ([(0:Int)]) (rdo 7) (H.os 7) (Reads.of (k:=0) rfl roLe) (eY hg) (M.e_opt eZ hg) _ (H.give (A:=[]) rfl)).mono fun v_ w_ ⟨y_,aq,ax,H_⟩=>by subst aq; exact ⟨ax,H.via H_⟩) ?_;intro g9 H;refine s_val (x_pand (b:=(((((ah==0)&&(ai==0))&&(ak==0))&&(al==0))&&r9)) (r:=ap) rfl (fun hb=>gd_of (c:=(((((ah==0)&&(ai==0))&&(ak==0))&&(al==0))&&r9)) (by first | exact hb | (rw [hb]; rfl) | simp_all) (B ap)) rfl) ?_;obtain ⟨bU,hM⟩:=M.e_grd hM
 replace bU:=M.imp_of bU
 simp only [Bool.and_eq_true,decide_eq_true_eq] at bU
 refine kg 7 ?_;refine s_val (x_pand (b:=((((((ah==0)&&(ai==0))&&(ak==0))&&(al==0))&&r9)&&ap)) (r:=((av.length:Int)+(aw.length:Int))==0) rfl (fun hb=>gd_of (c:=((((((ah==0)&&(ai==0))&&(ak==0))&&(al==0))&&r9)&&ap)) (by first | exact hb | (rw [hb]; rfl) | simp_all) (B (((av.length:Int)+(aw.length:Int))==0))) rfl) ?_;refine kg 2 ?_;refine t_gbs (α:=Int) T22 (((((((ah==0)&&(ai==0))&&(ak==0))&&(al==0))&&r9)&&ap)&&(((av.length:Int)+(aw.length:Int))==0)) (gy_t rfl) [I 1] [(1:Int)] H (fun _=>rfl) (.cons rfl (Flat.rep_enc _ (1:Int))<|.nil) rfl rfl rfl ?_;intro cg ew hG H e0;obtain ⟨ay,e4,hM⟩:=M.e_bind hM;refine t_gcall (((((((ah==0)&&(ai==0))&&(ak==0))&&(al==0))&&r9)&&ap)&&(((av.length:Int)+(aw.length:Int))==0)) (gy_t rfl) cf17 (B ay) (fun _=>[aK,cg]) (fun hg=>lst2 (gd_of hg (aK)) (gd_of hg (cg))) H (fun hg=>(zaf bG ([(1:Int)]) (rdo 4) (H.os 4) (Reads.of (k:=0) rfl roLe) (e0 hg) (M.e_opt e4 hg) _ (H.give (A:=[]) rfl)).mono fun v_ w_ ⟨y_,aq,ax,H_⟩=>by subst aq; exact ⟨ax,H.via H_⟩) ?_;intro hJ H;refine s_val (x_pand (b:=(((((((ah==0)&&(ai==0))&&(ak==0))&&(al==0))&&r9)&&ap)&&(((av.length:Int)+(aw.length:Int))==0))) (r:=ay) rfl (fun hb=>gd_of (c:=(((((((ah==0)&&(ai==0))&&(ak==0))&&(al==0))&&r9)&&ap)&&(((av.length:Int)+(aw.length:Int))==0))) (by first | exact hb | (rw [hb]; rfl) | simp_all) (B ay)) rfl) ?_;refine kg 2 ?_;refine t_gbs (α:=Int) T22 ((((((((ah==0)&&(ai==0))&&(ak==0))&&(al==0))&&r9)&&ap)&&(((av.length:Int)+(aw.length:Int))==0))&&ay) (gy_t rfl) [I 0] [(0:Int)] H (fun _=>rfl) (.cons rfl (Flat.rep_enc _ (0:Int))<|.nil) rfl rfl rfl ?_;intro ci eA hP H e6;obtain ⟨aB,e7,hM⟩:=M.e_bind hM;refine t_gcall ((((((((ah==0)&&(ai==0))&&(ak==0))&&(al==0))&&r9)&&ap)&&(((av.length:Int)+(aw.length:Int))==0))&&ay) (gy_t rfl) cf17 (B aB) (fun _=>[aN,ci]) (fun hg=>lst2 (gd_of hg (aN)) (gd_of hg (ci))) H (fun hg=>(zaf bR ([(0:Int)]) (rdo 4) (H.os 4) (Reads.of (k:=0) rfl roLe) (e6 hg) (M.e_opt e7 hg) _ (H.give (A:=[]) rfl)).mono fun v_ w_ ⟨y_,aq,ax,H_⟩=>by subst aq; exact ⟨ax,H.via H_⟩) ?_;intro hX H;refine s_val (x_pand (b:=((((((((ah==0)&&(ai==0))&&(ak==0))&&(al==0))&&r9)&&ap)&&(((av.length:Int)+(aw.length:Int))==0))&&ay)) (r:=aB) rfl (fun hb=>gd_of (c:=((((((((ah==0)&&(ai==0))&&(ak==0))&&(al==0))&&r9)&&ap)&&(((av.length:Int)+(aw.length:Int))==0))&&ay)) (by first | exact hb | (rw [hb]; rfl) | simp_all) (B aB)) rfl) ?_;refine kg 2 ?_;replace H:=H.pk [];refine W.ret ?_
 have aq:=M.e_pure hM
 exact ⟨_,resE_tmp rfl,⟨(((((((((ah==0)&&(ai==0))&&(ak==0))&&(al==0))&&r9)&&ap)&&(((av.length:Int)+(aw.length:Int))==0))&&ay)&&aB),aq,rfl,H⟩⟩

end Go.Proofs.YtbldmjejckjflabGreat
end
section
set_option maxRecDepth 100000
set_option maxHeartbeats 16000000
namespace Go.Proofs.YtbldmjejckjflabGreat
open Go Go.Nm
attribute [local irreducible] gd execOp SL SLD SLT WR
def zay (l:List Int):M (List Int) :=
  M.grd (decide ((([]:List Int).length+l.length)*8<=140737488355328)) <|
  M.pure l
theorem zai {R:List Chunk} {ab:Cells} {aa:Value} (l:List Int) (ac:Reads R ab) (ae:Sl ab aa l) {r:(List Int)} (hM:(zay l).Ends r) (w:World) (H:St w w [] R):Ret Tryz.prog 23 #[aa] w fun v w'=>∃ (y0:List Int) (u0:Value),y0=r/\v=u0/\St w w' [cOwn (α:=Int) 3 u0 y0] R:=by
 refine ret_of_W Tryz.func23 rfl rfl rfl ?_;refine kg 12 ?_
 replace H:=H.nilOwn (α:=Int) 3
 obtain ⟨ai,hM⟩:=M.e_gd hM;refine t_app (α:=Int) (k:=0) (l:=[]) (l2:=l) (l':=l) (vy:=aa) T22 rfl H rfl rfl rfl ae (ac.at H) (List.nil_append _) (by first | omega | (simp only [List.length_nil] at *; omega)) ?_;intro ag aj H;replace H:=H.nf;refine kg 2 ?_;refine W.ret ?_
 have ah:=M.e_pure hM
 exact ⟨_,resE_tmp rfl,⟨l,ag,ah,rfl,H⟩⟩

def zcO (l:List Span):M (List Span) :=
  M.grd (decide ((([]:List Span).length+l.length)*16<=140737488355328)) <|
  M.pure l
theorem zaI {R:List Chunk} {ab:Cells} {aa:Value} (l:List Span) (ac:Reads R ab) (ae:Sl ab aa l) {r:(List Span)} (hM:(zcO l).Ends r) (w:World) (H:St w w [] R):Ret Tryz.prog 55 #[aa] w fun v w'=>∃ (y0:List Span) (u0:Value),y0=r/\v=u0/\St w w' [cOwn (α:=Span) 26 u0 y0] R:=by
 refine ret_of_W Tryz.func55 rfl rfl rfl ?_;refine kg 12 ?_
 replace H:=H.nilOwn (α:=Span) 26
 obtain ⟨ai,hM⟩:=M.e_gd hM;refine t_app (α:=Span) (k:=0) (l:=[]) (l2:=l) (l':=l) (vy:=aa) T23 rfl H rfl rfl rfl ae (ac.at H) (List.nil_append _) (by first | omega | (simp only [List.length_nil] at *; omega)) ?_;intro ag aj H;replace H:=H.nf;refine kg 2 ?_;refine W.ret ?_
 have ah:=M.e_pure hM
 exact ⟨_,resE_tmp rfl,⟨l,ag,ah,rfl,H⟩⟩

def zeq (l:List Town):M (List Town) :=
  M.grd (decide ((([]:List Town).length+l.length)*24<=140737488355328)) <|
  M.pure l
theorem za2 {R:List Chunk} {ab:Cells} {aa:Value} (l:List Town) (ac:Reads R ab) (ae:Sl ab aa l) {r:(List Town)} (hM:(zeq l).Ends r) (w:World) (H:St w w [] R):Ret Tryz.prog 56 #[aa] w fun v w'=>∃ (y0:List Town) (u0:Value),y0=r/\v=u0/\St w w' [cOwn (α:=Town) 36 u0 y0] R:=by
 refine ret_of_W Tryz.func56 rfl rfl rfl ?_;refine kg 12 ?_
 replace H:=H.nilOwn (α:=Town) 36
 obtain ⟨ai,hM⟩:=M.e_gd hM;refine t_app (α:=Town) (k:=0) (l:=[]) (l2:=l) (l':=l) (vy:=aa) T24 rfl H rfl rfl rfl ae (ac.at H) (List.nil_append _) (by first | omega | (simp only [List.length_nil] at *; omega)) ?_;intro ag aj H;replace H:=H.nf;refine kg 2 ?_;refine W.ret ?_
 have ah:=M.e_pure hM
 exact ⟨_,resE_tmp rfl,⟨l,ag,ah,rfl,H⟩⟩

def zdh (aa:List Flood):(Nat × (List Flood))->M ((Nat × (List Flood)) ⊕ ((List Flood) × (List Flood))):=fun (i,l) =>
  bif decide ((i:Int)<(aa.length:Int)) then (
  M.grd (decide ((i:Int)<(aa.length:Int))) <|
  M.bind (zay ((aa.getD i default).stages)) fun r6 =>
  M.grd (decide ((l.length+([(⟨((aa.getD i default).spring:Int),r6⟩:Flood)]).length)*32<=140737488355328)) <|
  M.pure (.inl (i+1,l++([(⟨((aa.getD i default).spring:Int),r6⟩:Flood)]))))
  else (
  M.pure (.inr (l,l)))
def zbP (aa ab:Int) (ac:List Flood) (r2:List Int) (r3:List Span) (r4:List Int) (r5:List Town):M ((List Int) × (List Span) × (List Int) × (List Town) × Int × Int × (List Flood)) :=
  M.bind (M.iter (zdh ac) (0,[])) fun (l2,l3) =>
  M.pure (r2,r3,r4,r5,aa,ab,l3)
def zbp (aa:List Int) (ab:List Span) (ac:List Int) (ae:List Town) (ag ah:Int) (ai:List Flood):M ((List Int) × (List Span) × (List Int) × (List Town) × Int × Int × (List Flood)) :=
  M.bind (zay aa) fun r2 =>
  M.bind (zcO ab) fun r3 =>
  M.bind (zay ac) fun r4 =>
  M.bind (zeq ae) fun r5 =>
  zbP ag ah ai r2 r3 r4 r5
theorem zaF {R:List Chunk} {bx:Cells} {av:Value} {bz:Cells} {au:Value} {bA:Cells} {aq:Value} {bB:Cells} {ap:Value} {bC:Cells} {ax:Value} (aP:List Int) (aJ:List Span) (aG:List Int) (ay:List Town) (ah:Int) (ai:Int) (aj:List Flood) (bD:Reads R bx) (bE:Sl bx av aP) (bc:Reads R bz) (bf:Sl bz au aJ) (aQ:Reads R bA) (aR:Sl bA aq aG) (aK:Reads R bB) (aL:Sl bB ap ay) (aS:Reads R bC) (bg:Sl bC ax aj) {r:((List Int) × (List Span) × (List Int) × (List Town) × Int × Int × (List Flood))} (hM:(zbp aP aJ aG ay ah ai aj).Ends r) (w:World) (H:St w w [] R):Ret Tryz.prog 12 #[.agg #[av,au,aq,ap,I ah,I ai,ax]] w fun v w'=>∃ (y0:List Int) (y1:List Span) (y2:List Int) (y3:List Town) (y4:Int) (y5:Int) (y6:List Flood) (u0:Value) (u1:Value) (u2:Value) (u3:Value) (u4:Value) (rr5:List (Raw 1)) (bF:Base),(y0,y1,y2,y3,y4,y5,y6)=r/\v = .agg #[u0,u1,u2,u3,I y4,I y5,u4]/\St w w' [cOwn (α:=Int) 3 u0 y0,cOwn (α:=Span) 26 u1 y1,cOwn (α:=Int) 3 u2 y2,cOwn (α:=Town) 36 u3 y3,cOwn (α:=Raw 1) 38 u4 rr5,cRo bF] R/\RepR (α:=Flood) bF.cells rr5 y6:=by
 refine ret_of_W Tryz.func12 rfl rfl rfl ?_;refine kg 2 ?_;refine t_bx [av,au,aq,ap,I ah,I ai,ax] H rfl ?_;intro aH cM H;refine t_alloc (cs:=[.slice none 0 0,.slice none 0 0,.slice none 0 0,.slice none 0 0,I 0,I 0,.slice none 0 0]) H Al29 rfl ?_;intro aI cN H;refine s_nil ?_;refine W.seqJ (fun σ W=>∃ (ao:Nat) (r2:List Int) (r3:List Span) (r4:List Int) (r5:List Town) (ag:Value) (ae:Value) (ac:Value) (aa:Value) (ρ:Env),σ=upds ρ [(1,Pq aH),(2,Pq aI),(3,Pq ao)]/\(zbP ah ai aj r2 r3 r4 r5).Ends r/\St w W [cBlk ao [ag,ae,ac,aa,I ah,I ai,.slice none 0 0] 29,cOwn (α:=Town) 36 aa r5,cOwn (α:=Int) 3 ac r4,cOwn (α:=Span) 26 ae r3,cOwn (α:=Int) 3 ag r2,cBlk aI [.slice none 0 0,.slice none 0 0,.slice none 0 0,.slice none 0 0,I 0,I 0,.slice none 0 0] 29,cBlk aH [av,au,aq,ap,I ah,I ai,ax] 29] R) ?_ ?_
 ·skip
  refine W.drawT (fun W=>St w W [cBlk aI [.slice none 0 0,.slice none 0 0,.slice none 0 0,.slice none 0 0,I 0,I 0,.slice none 0 0] 29,cBlk aH [av,au,aq,ap,I ah,I ai,ax] 29] R) (.q 0 (.q 1 (.q 3 (.q 4 (.q 6 (.q 7 (.q 9 (.q 10 (.q 12 (.q 13 (.l2 2 (.l2 5 (.l2 8 (.l2 11 (.q 14 (.l 15 (.l 16 .nil))) 15 (.l 11 (.q 14 (.l 16 .nil)))) 15 (.l 8 (.l 11 (.q 14 (.l 16 .nil))))) 15 (.l 5 (.l 8 (.l 11 (.q 14 (.l 16 .nil)))))) 15 (.l 2 (.l 5 (.l 8 (.l 11 (.q 14 (.l 16 .nil))))))))))))))))) mixed (by decide +kernel) rfl ?_;intro cO aM;replace H:=H.ext aM;clear aM
  refine ⟨(H.pk [0,1]),?_⟩
  refine kg 10 ?_;refine t_l2 rfl rfl ?_ ?_
  ·skip
   obtain ⟨cP,bN,hM⟩:=M.e_bind hM;refine s_call cf23 [av] rfl (zai aP (bD.app _) bE bN _ (H.gt 2)) ?_
   rintro vq cQ ⟨r2,ag,rfl,hvq,ab⟩
   subst vq;(try dsimp only at hM);replace H:=H.bk ab;clear ab
   have aT:=Sl.cells (H.os 0)
   have cR:=Sl.oc (H.os 0)
   refine s_nil ⟨(H.pk [1,2]),?_⟩
   refine t_l2 rfl rfl ?_ ?_
   ·skip
    obtain ⟨cS,bO,hM⟩:=M.e_bind hM;refine s_call cf55 [au] rfl (zaI aJ (bc.app _) bf bO _ (H.gt 3)) ?_
    rintro vq cT ⟨r3,ae,rfl,hvq,ab⟩
    subst vq;(try dsimp only at hM);replace H:=H.bk ab;clear ab
    have bh:=Sl.cells (H.os 0)
    have cU:=Sl.oc (H.os 0)
    refine s_nil ⟨(H.pk [2,3]),?_⟩
    refine t_l2 rfl rfl ?_ ?_
    ·skip
     obtain ⟨cV,bP,hM⟩:=M.e_bind hM;refine s_call cf23 [aq] rfl (zai aG (aQ.app _) aR bP _ (H.gt 4)) ?_
     rintro vq cW ⟨r4,ac,rfl,hvq,ab⟩
     subst vq;(try dsimp only at hM);replace H:=H.bk ab;clear ab
     have bG:=Sl.cells (H.os 0)
     have cX:=Sl.oc (H.os 0)
     refine s_nil ⟨(H.pk [3,4]),?_⟩
     refine t_l2 rfl rfl ?_ ?_
     ·skip
      obtain ⟨cY,bQ,hM⟩:=M.e_bind hM;refine s_call cf56 [ap] rfl (za2 ay (aK.app _) aL bQ _ (H.gt 5)) ?_
      rintro vq cZ ⟨r5,aa,rfl,hvq,ab⟩
      subst vq;(try dsimp only at hM);replace H:=H.bk ab;clear ab
      have bR:=Sl.cells (H.os 0)
      have c0:=Sl.oc (H.os 0)
      refine s_nil ⟨(H.pk [4,5]),?_⟩
      refine t_q rfl (fun w' H=>x_bld (ps:=[(0,ag),(1,ae),(2,ac),(3,aa),(4,.agg #[I ah,I ai])]) (zs:=[.slice none 0 0,.slice none 0 0,.slice none 0 0,.slice none 0 0,I 0,I 0,.slice none 0 0]) (L':=[ag,ae,ac,aa,I ah,I ai,.slice none 0 0]) rfl Tryz.underlying29 Al29 rfl (Bd29 Tryz.underlying29) (.cons (cs:=[ag]) aT rfl rfl rfl rfl<|.cons (cs:=[ae]) bh rfl rfl rfl rfl<|.cons (cs:=[ac]) bG rfl rfl rfl rfl<|.cons (cs:=[aa]) bR rfl rfl rfl rfl<|.cons (cs:=[I ah,I ai]) rfl rfl rfl rfl rfl<|.nil))<|t_l rfl ?_;refine t_alloc (cs:=[.slice none 0 0,.slice none 0 0,.slice none 0 0,.slice none 0 0,I 0,I 0,.slice none 0 0]) H Al29 rfl ?_;intro ao c5 H
      refine s_nil ⟨(H.pk [5,6]),?_⟩
      refine t_l rfl ?_;refine t_sw 0 0 [ag,ae,ac,aa,I ah,I ai,.slice none 0 0] (.agg #[ag,ae,ac,aa,I ah,I ai,.slice none 0 0]) H rfl rfl Sz29 rfl rfl rfl (by simp only [List.all_cons,List.all_nil,Bool.true_and,Bool.and_true,Sl.oc (H.os 4),Sl.oc (H.os 3),Sl.oc (H.os 2),Sl.oc (H.os 1)]; try rfl) ?_;intro c6 H
      refine s_nil ⟨(H.pk [5,6]),?_⟩
      refine t_nil ?_
      exact ⟨ao,r2,r3,r4,r5,ag,ae,ac,aa,_,upds_of _ _ ⟨rfl,rfl,rfl,trivial⟩,hM,H⟩
     skip
     refine t_alloc (cs:=[.slice none 0 0,.slice none 0 0,.slice none 0 0,.slice none 0 0,I 0,I 0,.slice none 0 0]) H Al29 rfl ?_;intro ao c7 H
     refine s_nil ⟨(H.pk [4,5]),?_⟩
     refine t_l rfl ?_;obtain ⟨c8,bS,hM⟩:=M.e_bind hM;refine s_call cf56 [ap] rfl (za2 ay (aK.app _) aL bS _ (H.gt 6)) ?_
     rintro vq c9 ⟨r5,aa,rfl,hvq,ab⟩
     subst vq;(try dsimp only at hM);replace H:=H.bk ab;clear ab
     have bT:=Sl.cells (H.os 0)
     have da:=Sl.oc (H.os 0)
     refine s_nil ⟨(H.pk [5,6]),?_⟩
     refine t_q rfl (fun w' H=>x_bld (ps:=[(0,ag),(1,ae),(2,ac),(3,aa),(4,.agg #[I ah,I ai])]) (zs:=[.slice none 0 0,.slice none 0 0,.slice none 0 0,.slice none 0 0,I 0,I 0,.slice none 0 0]) (L':=[ag,ae,ac,aa,I ah,I ai,.slice none 0 0]) rfl Tryz.underlying29 Al29 rfl (Bd29 Tryz.underlying29) (.cons (cs:=[ag]) aT rfl rfl rfl rfl<|.cons (cs:=[ae]) bh rfl rfl rfl rfl<|.cons (cs:=[ac]) bG rfl rfl rfl rfl<|.cons (cs:=[aa]) bT rfl rfl rfl rfl<|.cons (cs:=[I ah,I ai]) rfl rfl rfl rfl rfl<|.nil))<|t_l rfl ?_;refine t_sw 1 0 [ag,ae,ac,aa,I ah,I ai,.slice none 0 0] (.agg #[ag,ae,ac,aa,I ah,I ai,.slice none 0 0]) H rfl rfl Sz29 rfl rfl rfl (by simp only [List.all_cons,List.all_nil,Bool.true_and,Bool.and_true,Sl.oc (H.os 4),Sl.oc (H.os 3),Sl.oc (H.os 2),Sl.oc (H.os 0)]; try rfl) ?_;intro db H
     refine s_nil ⟨(H.pk [5,6]),?_⟩
     refine t_nil ?_
     exact ⟨ao,r2,r3,r4,r5,ag,ae,ac,aa,_,upds_of _ _ ⟨rfl,rfl,rfl,trivial⟩,hM,(H.pk [1,0,2,3,4,5,6])⟩
    skip
    refine t_alloc (cs:=[.slice none 0 0,.slice none 0 0,.slice none 0 0,.slice none 0 0,I 0,I 0,.slice none 0 0]) H Al29 rfl ?_;intro ao dc H
    refine s_nil ⟨(H.pk [3,4]),?_⟩
    refine t_l rfl ?_;obtain ⟨dd,bU,hM⟩:=M.e_bind hM;refine s_call cf23 [aq] rfl (zai aG (aQ.app _) aR bU _ (H.gt 5)) ?_
    rintro vq dg ⟨r4,ac,rfl,hvq,ab⟩
    subst vq;(try dsimp only at hM);replace H:=H.bk ab;clear ab
    have bV:=Sl.cells (H.os 0)
    have dh:=Sl.oc (H.os 0)
    refine s_nil ⟨(H.pk [4,5]),?_⟩
    refine t_l rfl ?_;obtain ⟨di,bW,hM⟩:=M.e_bind hM;refine s_call cf56 [ap] rfl (za2 ay (aK.app _) aL bW _ (H.gt 6)) ?_
    rintro vq dj ⟨r5,aa,rfl,hvq,ab⟩
    subst vq;(try dsimp only at hM);replace H:=H.bk ab;clear ab
    have bX:=Sl.cells (H.os 0)
    have dk:=Sl.oc (H.os 0)
    refine s_nil ⟨(H.pk [5,6]),?_⟩
    refine t_q rfl (fun w' H=>x_bld (ps:=[(0,ag),(1,ae),(2,ac),(3,aa),(4,.agg #[I ah,I ai])]) (zs:=[.slice none 0 0,.slice none 0 0,.slice none 0 0,.slice none 0 0,I 0,I 0,.slice none 0 0]) (L':=[ag,ae,ac,aa,I ah,I ai,.slice none 0 0]) rfl Tryz.underlying29 Al29 rfl (Bd29 Tryz.underlying29) (.cons (cs:=[ag]) aT rfl rfl rfl rfl<|.cons (cs:=[ae]) bh rfl rfl rfl rfl<|.cons (cs:=[ac]) bV rfl rfl rfl rfl<|.cons (cs:=[aa]) bX rfl rfl rfl rfl<|.cons (cs:=[I ah,I ai]) rfl rfl rfl rfl rfl<|.nil))<|t_l rfl ?_;refine t_sw 2 0 [ag,ae,ac,aa,I ah,I ai,.slice none 0 0] (.agg #[ag,ae,ac,aa,I ah,I ai,.slice none 0 0]) H rfl rfl Sz29 rfl rfl rfl (by simp only [List.all_cons,List.all_nil,Bool.true_and,Bool.and_true,Sl.oc (H.os 4),Sl.oc (H.os 3),Sl.oc (H.os 1),Sl.oc (H.os 0)]; try rfl) ?_;intro dl H
    refine s_nil ⟨(H.pk [5,6]),?_⟩
    refine t_nil ?_
    exact ⟨ao,r2,r3,r4,r5,ag,ae,ac,aa,_,upds_of _ _ ⟨rfl,rfl,rfl,trivial⟩,hM,(H.pk [2,0,1,3,4,5,6])⟩
   skip
   refine t_alloc (cs:=[.slice none 0 0,.slice none 0 0,.slice none 0 0,.slice none 0 0,I 0,I 0,.slice none 0 0]) H Al29 rfl ?_;intro ao dm H
   refine s_nil ⟨(H.pk [2,3]),?_⟩
   refine t_l rfl ?_;obtain ⟨dq,bY,hM⟩:=M.e_bind hM;refine s_call cf55 [au] rfl (zaI aJ (bc.app _) bf bY _ (H.gt 4)) ?_
   rintro vq dr ⟨r3,ae,rfl,hvq,ab⟩
   subst vq;(try dsimp only at hM);replace H:=H.bk ab;clear ab
   have bZ:=Sl.cells (H.os 0)
   have dt:=Sl.oc (H.os 0)
   refine s_nil ⟨(H.pk [3,4]),?_⟩
   refine t_l rfl ?_;obtain ⟨du,b0,hM⟩:=M.e_bind hM;refine s_call cf23 [aq] rfl (zai aG (aQ.app _) aR b0 _ (H.gt 5)) ?_
   rintro vq dv ⟨r4,ac,rfl,hvq,ab⟩
   subst vq;(try dsimp only at hM);replace H:=H.bk ab;clear ab
   have b1:=Sl.cells (H.os 0)
   have dw:=Sl.oc (H.os 0)
   refine s_nil ⟨(H.pk [4,5]),?_⟩
   refine t_l rfl ?_;obtain ⟨dx,b2,hM⟩:=M.e_bind hM;refine s_call cf56 [ap] rfl (za2 ay (aK.app _) aL b2 _ (H.gt 6)) ?_
   rintro vq dy ⟨r5,aa,rfl,hvq,ab⟩
   subst vq;(try dsimp only at hM);replace H:=H.bk ab;clear ab
   have b3:=Sl.cells (H.os 0)
   have dz:=Sl.oc (H.os 0)
   refine s_nil ⟨(H.pk [5,6]),?_⟩
   refine t_q rfl (fun w' H=>x_bld (ps:=[(0,ag),(1,ae),(2,ac),(3,aa),(4,.agg #[I ah,I ai])]) (zs:=[.slice none 0 0,.slice none 0 0,.slice none 0 0,.slice none 0 0,I 0,I 0,.slice none 0 0]) (L':=[ag,ae,ac,aa,I ah,I ai,.slice none 0 0]) rfl Tryz.underlying29 Al29 rfl (Bd29 Tryz.underlying29) (.cons (cs:=[ag]) aT rfl rfl rfl rfl<|.cons (cs:=[ae]) bZ rfl rfl rfl rfl<|.cons (cs:=[ac]) b1 rfl rfl rfl rfl<|.cons (cs:=[aa]) b3 rfl rfl rfl rfl<|.cons (cs:=[I ah,I ai]) rfl rfl rfl rfl rfl<|.nil))<|t_l rfl ?_;refine t_sw 3 0 [ag,ae,ac,aa,I ah,I ai,.slice none 0 0] (.agg #[ag,ae,ac,aa,I ah,I ai,.slice none 0 0]) H rfl rfl Sz29 rfl rfl rfl (by simp only [List.all_cons,List.all_nil,Bool.true_and,Bool.and_true,Sl.oc (H.os 4),Sl.oc (H.os 2),Sl.oc (H.os 1),Sl.oc (H.os 0)]; try rfl) ?_;intro dA H
   refine s_nil ⟨(H.pk [5,6]),?_⟩
   refine t_nil ?_
   exact ⟨ao,r2,r3,r4,r5,ag,ae,ac,aa,_,upds_of _ _ ⟨rfl,rfl,rfl,trivial⟩,hM,(H.pk [3,0,1,2,4,5,6])⟩
  skip
  refine t_alloc (cs:=[.slice none 0 0,.slice none 0 0,.slice none 0 0,.slice none 0 0,I 0,I 0,.slice none 0 0]) H Al29 rfl ?_;intro ao dB H
  refine s_nil ⟨(H.pk [1,2]),?_⟩
  refine t_l rfl ?_;obtain ⟨dC,b4,hM⟩:=M.e_bind hM;refine s_call cf23 [av] rfl (zai aP (bD.app _) bE b4 _ (H.gt 3)) ?_
  rintro vq dD ⟨r2,ag,rfl,hvq,ab⟩
  subst vq;(try dsimp only at hM);replace H:=H.bk ab;clear ab
  have b5:=Sl.cells (H.os 0)
  have dE:=Sl.oc (H.os 0)
  refine s_nil ⟨(H.pk [2,3]),?_⟩
  refine t_l rfl ?_;obtain ⟨dF,b6,hM⟩:=M.e_bind hM;refine s_call cf55 [au] rfl (zaI aJ (bc.app _) bf b6 _ (H.gt 4)) ?_
  rintro vq dG ⟨r3,ae,rfl,hvq,ab⟩
  subst vq;(try dsimp only at hM);replace H:=H.bk ab;clear ab
  have b7:=Sl.cells (H.os 0)
  have dH:=Sl.oc (H.os 0)
  refine s_nil ⟨(H.pk [3,4]),?_⟩
  refine t_l rfl ?_;obtain ⟨dJ,b8,hM⟩:=M.e_bind hM;refine s_call cf23 [aq] rfl (zai aG (aQ.app _) aR b8 _ (H.gt 5)) ?_
  rintro vq dK ⟨r4,ac,rfl,hvq,ab⟩
  subst vq;(try dsimp only at hM);replace H:=H.bk ab;clear ab
  have b9:=Sl.cells (H.os 0)
  have dL:=Sl.oc (H.os 0)
  refine s_nil ⟨(H.pk [4,5]),?_⟩
  refine t_l rfl ?_;obtain ⟨dM,ca,hM⟩:=M.e_bind hM;refine s_call cf56 [ap] rfl (za2 ay (aK.app _) aL ca _ (H.gt 6)) ?_
  rintro vq dN ⟨r5,aa,rfl,hvq,ab⟩
  subst vq;(try dsimp only at hM);replace H:=H.bk ab;clear ab
  have cb:=Sl.cells (H.os 0)
  have dO:=Sl.oc (H.os 0)
  refine s_nil ⟨(H.pk [5,6]),?_⟩
  refine t_q rfl (fun w' H=>x_bld (ps:=[(0,ag),(1,ae),(2,ac),(3,aa),(4,.agg #[I ah,I ai])]) (zs:=[.slice none 0 0,.slice none 0 0,.slice none 0 0,.slice none 0 0,I 0,I 0,.slice none 0 0]) (L':=[ag,ae,ac,aa,I ah,I ai,.slice none 0 0]) rfl Tryz.underlying29 Al29 rfl (Bd29 Tryz.underlying29) (.cons (cs:=[ag]) b5 rfl rfl rfl rfl<|.cons (cs:=[ae]) b7 rfl rfl rfl rfl<|.cons (cs:=[ac]) b9 rfl rfl rfl rfl<|.cons (cs:=[aa]) cb rfl rfl rfl rfl<|.cons (cs:=[I ah,I ai]) rfl rfl rfl rfl rfl<|.nil))<|t_l rfl ?_;refine t_sw 4 0 [ag,ae,ac,aa,I ah,I ai,.slice none 0 0] (.agg #[ag,ae,ac,aa,I ah,I ai,.slice none 0 0]) H rfl rfl Sz29 rfl rfl rfl (by simp only [List.all_cons,List.all_nil,Bool.true_and,Bool.and_true,Sl.oc (H.os 3),Sl.oc (H.os 2),Sl.oc (H.os 1),Sl.oc (H.os 0)]; try rfl) ?_;intro dP H
  refine s_nil ⟨(H.pk [5,6]),?_⟩
  refine t_nil ?_
  exact ⟨ao,r2,r3,r4,r5,ag,ae,ac,aa,_,upds_of _ _ ⟨rfl,rfl,rfl,trivial⟩,hM,(H.pk [4,0,1,2,3,5,6])⟩
 rintro _ dQ ⟨ao,r2,r3,r4,r5,ag,ae,ac,aa,ρ,rfl,hM,H⟩
 unfold zbP at hM
 refine kg 6 ?_
 obtain ⟨bH,H⟩:=H.emptyE
 replace H:=H.nilOwn (α:=Raw 1) 38
 have cc:RepR (α:=Flood) (n:=1) bH.cells [] []:=.nil
 obtain ⟨cd,bi,ce⟩:=M.e_bind hM
 obtain ⟨dR,bi⟩:=M.e_iter bi
 refine W.loop (fun m σ W=>∃ (i:Nat) (l:List Flood) (aw:Value) (am:List (Raw 1)) (B_l:Base) (ρ:Env),σ=upds ρ [(1,Pq aH),(2,Pq aI),(3,Pq ao),(4,I (i:Int))]/\M.iterN (zdh aj) m (i,l)=some cd/\St w W [cOwn (α:=Raw 1) 38 aw am,cRo B_l,cBlk ao [ag,ae,ac,aa,I ah,I ai,aw] 29,cOwn (α:=Town) 36 aa r5,cOwn (α:=Int) 3 ac r4,cOwn (α:=Span) 26 ae r3,cOwn (α:=Int) 3 ag r2,cBlk aI [.slice none 0 0,.slice none 0 0,.slice none 0 0,.slice none 0 0,I 0,I 0,.slice none 0 0] 29,cBlk aH [av,au,aq,ap,I ah,I ai,ax] 29] R/\RepR (α:=Flood) B_l.cells am l) ?_ ?_
 ·exact ⟨_,0,[],(.slice none 0 0),[],bH,_,upds_of _ _ ⟨rfl,rfl,rfl,rfl,trivial⟩,bi,H,cc⟩
 rintro dS σ dT ⟨i,l,aw,am,B_l,ρ,rfl,bI,H,al⟩
 obtain ⟨aU,aV,dU,hM,aN⟩:=M.e_iterN bI
 simp only [zdh] at hM
 clear bI
 have dV:=(bg).len_le
 refine kg 9 ?_
 refine W.cond (decide ((i:Int)<(aj.length:Int))) rfl (fun az=>?_) (fun az=>?_)
 ·replace hM:=M.e_t hM az
  replace az:=dI az
  refine kg 3 ?_;refine W.drawT (fun W=>St w W [cRo B_l,cOwn (α:=Town) 36 aa r5,cOwn (α:=Int) 3 ac r4,cOwn (α:=Span) 26 ae r3,cOwn (α:=Int) 3 ag r2,cBlk aI [.slice none 0 0,.slice none 0 0,.slice none 0 0,.slice none 0 0,I 0,I 0,.slice none 0 0] 29,cBlk aH [av,au,aq,ap,I ah,I ai,ax] 29] R) (.q 0 (.q 2 (.q 3 (.q 4 (.q 5 (.q 6 (.q 7 (.q 8 (.q 9 (.q 10 (.q 11 (.q 12 (.q 13 (.l2 1 (.l 14 (.l 15 (.l 16 (.l 17 (.q 18 (.l 19 .nil)))))) 14 (.l2 1 (.l 15 (.l 16 (.l 17 (.q 18 (.l 19 .nil))))) 15 (.l2 1 (.l 16 (.l 17 (.q 18 (.l 19 .nil)))) 16 (.l 1 (.l 17 (.q 18 (.l 19 .nil)))))))))))))))))))) mixed (by decide +kernel) rfl ?_;intro dW aM;replace H:=H.ext aM;clear aM
  refine ⟨(H.pk [1,3,4,5,6,7,8]),?_⟩
  obtain ⟨dX,hM⟩:=M.e_gd hM;refine kg 6 ?_;refine t_q rfl (fun w' H=>x_ld (v:=I ((aj.getD i default).spring)) rfl (ld_sc Sc3 (At.mono (Flood_at0 bg (i:=(i:Int)) (by omega) (by omega)) (aS.at H)))) ?_;refine kg 5 ?_
  obtain ⟨aW,cf,aO⟩:=Flood_at1 bg (i:=(i:Int)) (by omega) (by omega)
  replace aO:Sl _ aW (aj.getD i default).stages:=aO
  have dY:=aO.len_le
  refine t_q rfl (fun w' H=>x_ld (v:=aW) rfl (ld_sc Sc22 (At.mono (cf) (aS.at H)))) ?_;refine t_l2 rfl rfl ?_ ?_
  ·skip
   refine kg 1 ?_
   have dZ:=Sl.cells (H.os 0)
   have d0:=Sl.oc (H.os 0)
   refine s_nil ⟨(H.pk [1,3,4,5,6,7,8]),?_⟩
   refine t_l rfl ?_;obtain ⟨d1,cg,hM⟩:=M.e_bind hM;refine s_call cf23 [aW] rfl (zai ((aj.getD i default).stages) (aS.app _) aO cg _ (H.gt 9)) ?_
   rintro vq d2 ⟨r6,ak,rfl,hvq,ab⟩
   subst vq;(try dsimp only at hM);replace H:=H.bk ab;clear ab
   have d3:=Sl.cells (H.os 0)
   have d4:=Sl.oc (H.os 0)
   refine s_nil ⟨(H.pk [2,4,5,6,7,8,9]),?_⟩
   refine t_l rfl<|s_val (x_bld (ps:=[(0,I ((aj.getD i default).spring)),(1,ak)]) (zs:=[I 0,.slice none 0 0]) (L':=[I ((aj.getD i default).spring),ak]) rfl Tryz.underlying38 Al38 rfl (Bd38 Tryz.underlying38) (.cons (cs:=[I ((aj.getD i default).spring)]) rfl rfl rfl rfl rfl<|.cons (cs:=[ak]) (Sl.cells (H.os 0)) rfl rfl rfl rfl<|.nil)) ?_
   refine s_nil ⟨(H.pk [2,4,5,6,7,8,9]),?_⟩
   refine t_l rfl ?_
   obtain ⟨bj,H⟩:=H.emptyE
   obtain ⟨bm,H,ci⟩:=H.freezeE (k:=1) rfl
   replace H:=H.nf
   have aX:=ci
   obtain ⟨aA,H,d5,cj⟩:=H.joinE (i:=0) (j:=1) rfl rfl
   replace aX:=aX.mono cj
   obtain ⟨aB,bJ⟩:∃ r:Raw 1,r.cs=[I ((aj.getD i default).spring),ak]:=⟨Raw.of [I ((aj.getD i default).spring),ak] rfl (by simp only [List.all_cons,List.all_nil,Bool.true_and,Bool.and_true,Sl.oc aX]; try rfl),rfl⟩
   have ck:RepR (α:=Flood) aA.cells [aB] [(⟨((aj.getD i default).spring:Int),r6⟩:Flood)]:=.cons (by rw [bJ]; exact ⟨_,rfl,aX⟩)<|.nil
   refine t_bs (α:=Raw 1) T27 [.agg #[I ((aj.getD i default).spring),ak]] [aB] H rfl (.cons (by rw [show (Flat.enc aB:List Value)=aB.cs from rfl,bJ]; rfl) (Flat.rep_enc _ _)<|.nil) rfl rfl rfl ?_;intro cm d6 H;replace H:=H.nf
   have d7:=Sl.cells (H.os 0)
   have d8:=Sl.oc (H.os 0)
   refine s_nil ⟨(H.pk [5,7,8,9,10,11,12]),?_⟩
   refine t_l rfl ?_;obtain ⟨d9,hM⟩:=M.e_gd hM
   have aY:=ck
   obtain ⟨aC,H,cn,co⟩:=H.joinE (i:=5) (j:=1) rfl rfl
   replace al:=al.mono cn
   replace aY:=aY.mono co
   have bn:=al.app aY
   refine t_app (α:=Raw 1) (k:=5) (l:=am) (l2:=[aB]) (l':=am++([aB])) (vy:=cm) T27 rfl H rfl rfl rfl (H.os 1) (H.ol 1) (rfl) (by have a_:=al.len; have b_:=aY.len; (try simp only [List.length_nil] at *); first | omega | (rw [a_,b_]; omega)) ?_;intro bo ea H;replace H:=H.nf
   have eb:=Sl.cells (H.os 5)
   have ec:=Sl.oc (H.os 5)
   refine s_nil ⟨(H.pk [6,8,9,10,11,12,13]),?_⟩
   refine kg 1 ?_;refine t_l rfl ?_;refine t_sw 7 6 [bo] bo H rfl rfl Sz27 (Sl.cells (rowSl rfl (H.get (k:=5) rfl) (roLe _ (H.get (k:=0) rfl)) bn)) rfl rfl (by simp only [List.all_cons,List.all_nil,Bool.true_and,Bool.and_true,Sl.oc (rowSl rfl (H.get (k:=5) rfl) (roLe _ (H.get (k:=0) rfl)) bn)]; try rfl) ?_;intro ed H
   refine s_nil ⟨(H.pk [6,8,9,10,11,12,13]),?_⟩
   refine t_nil ?_;replace H:=H.pk [0,5,6,7,8,9,10,11,12,13];refine kg 5 ?_
   exact ⟨aU,aV,i+1,l++([(⟨((aj.getD i default).spring:Int),r6⟩:Flood)]),bo,am++([aB]),aC,_,upds_of _ _ ⟨rfl,rfl,rfl,rfl,trivial⟩,M.e_inl hM aN,(H.pk [1,0,3,4,5,6,7,8,9]),bn⟩
  skip
  obtain ⟨ee,cp,hM⟩:=M.e_bind hM;refine s_call cf23 [aW] rfl (zai ((aj.getD i default).stages) (aS.app _) aO cp _ (H.gt 9)) ?_
  rintro vq ef ⟨r6,ak,rfl,hvq,ab⟩
  subst vq;(try dsimp only at hM);replace H:=H.bk ab;clear ab
  have eg:=Sl.cells (H.os 0)
  have eh:=Sl.oc (H.os 0)
  have ei:=Sl.cells (H.os 1)
  have ej:=Sl.oc (H.os 1)
  refine s_nil ⟨(H.pk [2,4,5,6,7,8,9]),?_⟩
  obtain ⟨el,hM⟩:=M.e_gd hM;refine t_l2 rfl rfl ?_ ?_
  ·skip
   refine kg 1 ?_
   refine s_nil ⟨(H.pk [2,4,5,6,7,8,9]),?_⟩
   refine t_l rfl<|s_val (x_bld (ps:=[(0,I ((aj.getD i default).spring)),(1,ak)]) (zs:=[I 0,.slice none 0 0]) (L':=[I ((aj.getD i default).spring),ak]) rfl Tryz.underlying38 Al38 rfl (Bd38 Tryz.underlying38) (.cons (cs:=[I ((aj.getD i default).spring)]) rfl rfl rfl rfl rfl<|.cons (cs:=[ak]) (Sl.cells (H.os 0)) rfl rfl rfl rfl<|.nil)) ?_
   refine s_nil ⟨(H.pk [2,4,5,6,7,8,9]),?_⟩
   refine t_l rfl ?_
   obtain ⟨bj,H⟩:=H.emptyE
   obtain ⟨bm,H,cq⟩:=H.freezeE (k:=1) rfl
   replace H:=H.nf
   have aZ:=cq
   obtain ⟨aA,H,em,cr⟩:=H.joinE (i:=0) (j:=1) rfl rfl
   replace aZ:=aZ.mono cr
   obtain ⟨aD,bK⟩:∃ r:Raw 1,r.cs=[I ((aj.getD i default).spring),ak]:=⟨Raw.of [I ((aj.getD i default).spring),ak] rfl (by simp only [List.all_cons,List.all_nil,Bool.true_and,Bool.and_true,Sl.oc aZ]; try rfl),rfl⟩
   have ct:RepR (α:=Flood) aA.cells [aD] [(⟨((aj.getD i default).spring:Int),r6⟩:Flood)]:=.cons (by rw [bK]; exact ⟨_,rfl,aZ⟩)<|.nil
   refine t_bs (α:=Raw 1) T27 [.agg #[I ((aj.getD i default).spring),ak]] [aD] H rfl (.cons (by rw [show (Flat.enc aD:List Value)=aD.cs from rfl,bK]; rfl) (Flat.rep_enc _ _)<|.nil) rfl rfl rfl ?_;intro cu eo H;replace H:=H.nf
   have ep:=Sl.cells (H.os 0)
   have eq:=Sl.oc (H.os 0)
   refine s_nil ⟨(H.pk [5,7,8,9,10,11,12]),?_⟩
   refine t_l rfl ?_
   have a6:=ct
   obtain ⟨aC,H,cv,cw⟩:=H.joinE (i:=5) (j:=1) rfl rfl
   replace al:=al.mono cv
   replace a6:=a6.mono cw
   have bp:=al.app a6
   refine t_app (α:=Raw 1) (k:=5) (l:=am) (l2:=[aD]) (l':=am++([aD])) (vy:=cu) T27 rfl H rfl rfl rfl (H.os 1) (H.ol 1) (rfl) (by have a_:=al.len; have b_:=a6.len; (try simp only [List.length_nil] at *); first | omega | (rw [a_,b_]; omega)) ?_;intro br eu H;replace H:=H.nf
   have ew:=Sl.cells (H.os 5)
   have ey:=Sl.oc (H.os 5)
   refine s_nil ⟨(H.pk [6,8,9,10,11,12,13]),?_⟩
   refine kg 1 ?_;refine t_l rfl ?_;refine t_sw 7 6 [br] br H rfl rfl Sz27 (Sl.cells (rowSl rfl (H.get (k:=5) rfl) (roLe _ (H.get (k:=0) rfl)) bp)) rfl rfl (by simp only [List.all_cons,List.all_nil,Bool.true_and,Bool.and_true,Sl.oc (rowSl rfl (H.get (k:=5) rfl) (roLe _ (H.get (k:=0) rfl)) bp)]; try rfl) ?_;intro ez H
   refine s_nil ⟨(H.pk [6,8,9,10,11,12,13]),?_⟩
   refine t_nil ?_;replace H:=H.pk [0,5,6,7,8,9,10,11,12,13];refine kg 5 ?_
   exact ⟨aU,aV,i+1,l++([(⟨((aj.getD i default).spring:Int),r6⟩:Flood)]),br,am++([aD]),aC,_,upds_of _ _ ⟨rfl,rfl,rfl,rfl,trivial⟩,M.e_inl hM aN,(H.pk [1,0,3,4,5,6,7,8,9]),bp⟩
  skip
  refine s_val (x_bld (ps:=[(0,I ((aj.getD i default).spring)),(1,ak)]) (zs:=[I 0,.slice none 0 0]) (L':=[I ((aj.getD i default).spring),ak]) rfl Tryz.underlying38 Al38 rfl (Bd38 Tryz.underlying38) (.cons (cs:=[I ((aj.getD i default).spring)]) rfl rfl rfl rfl rfl<|.cons (cs:=[ak]) (Sl.cells (H.os 0)) rfl rfl rfl rfl<|.nil)) ?_
  refine s_nil ⟨(H.pk [2,4,5,6,7,8,9]),?_⟩
  refine t_l2 rfl rfl ?_ ?_
  ·skip
   refine kg 1 ?_
   refine s_nil ⟨(H.pk [2,4,5,6,7,8,9]),?_⟩
   refine t_l rfl ?_
   obtain ⟨bj,H⟩:=H.emptyE
   obtain ⟨bm,H,cx⟩:=H.freezeE (k:=1) rfl
   replace H:=H.nf
   have a7:=cx
   obtain ⟨aA,H,eA,cy⟩:=H.joinE (i:=0) (j:=1) rfl rfl
   replace a7:=a7.mono cy
   obtain ⟨aE,bL⟩:∃ r:Raw 1,r.cs=[I ((aj.getD i default).spring),ak]:=⟨Raw.of [I ((aj.getD i default).spring),ak] rfl (by simp only [List.all_cons,List.all_nil,Bool.true_and,Bool.and_true,Sl.oc a7]; try rfl),rfl⟩
   have cz:RepR (α:=Flood) aA.cells [aE] [(⟨((aj.getD i default).spring:Int),r6⟩:Flood)]:=.cons (by rw [bL]; exact ⟨_,rfl,a7⟩)<|.nil
   refine t_bs (α:=Raw 1) T27 [.agg #[I ((aj.getD i default).spring),ak]] [aE] H rfl (.cons (by rw [show (Flat.enc aE:List Value)=aE.cs from rfl,bL]; rfl) (Flat.rep_enc _ _)<|.nil) rfl rfl rfl ?_;intro cA eB H;replace H:=H.nf
   have eC:=Sl.cells (H.os 0)
   have eD:=Sl.oc (H.os 0)
   refine s_nil ⟨(H.pk [5,7,8,9,10,11,12]),?_⟩
   refine t_l rfl ?_
   have a8:=cz
   obtain ⟨aC,H,cB,cC⟩:=H.joinE (i:=5) (j:=1) rfl rfl
   replace al:=al.mono cB
   replace a8:=a8.mono cC
   have bt:=al.app a8
   refine t_app (α:=Raw 1) (k:=5) (l:=am) (l2:=[aE]) (l':=am++([aE])) (vy:=cA) T27 rfl H rfl rfl rfl (H.os 1) (H.ol 1) (rfl) (by have a_:=al.len; have b_:=a8.len; (try simp only [List.length_nil] at *); first | omega | (rw [a_,b_]; omega)) ?_;intro bu eE H;replace H:=H.nf
   have eF:=Sl.cells (H.os 5)
   have eG:=Sl.oc (H.os 5)
   refine s_nil ⟨(H.pk [6,8,9,10,11,12,13]),?_⟩
   refine kg 1 ?_;refine t_l rfl ?_;refine t_sw 7 6 [bu] bu H rfl rfl Sz27 (Sl.cells (rowSl rfl (H.get (k:=5) rfl) (roLe _ (H.get (k:=0) rfl)) bt)) rfl rfl (by simp only [List.all_cons,List.all_nil,Bool.true_and,Bool.and_true,Sl.oc (rowSl rfl (H.get (k:=5) rfl) (roLe _ (H.get (k:=0) rfl)) bt)]; try rfl) ?_;intro eH H
   refine s_nil ⟨(H.pk [6,8,9,10,11,12,13]),?_⟩
   refine t_nil ?_;replace H:=H.pk [0,5,6,7,8,9,10,11,12,13];refine kg 5 ?_
   exact ⟨aU,aV,i+1,l++([(⟨((aj.getD i default).spring:Int),r6⟩:Flood)]),bu,am++([aE]),aC,_,upds_of _ _ ⟨rfl,rfl,rfl,rfl,trivial⟩,M.e_inl hM aN,(H.pk [1,0,3,4,5,6,7,8,9]),bt⟩
  skip
  obtain ⟨bj,H⟩:=H.emptyE
  obtain ⟨bm,H,cD⟩:=H.freezeE (k:=1) rfl
  replace H:=H.nf
  have ba:=cD
  obtain ⟨aA,H,eI,cE⟩:=H.joinE (i:=0) (j:=1) rfl rfl
  replace ba:=ba.mono cE
  obtain ⟨aF,bM⟩:∃ r:Raw 1,r.cs=[I ((aj.getD i default).spring),ak]:=⟨Raw.of [I ((aj.getD i default).spring),ak] rfl (by simp only [List.all_cons,List.all_nil,Bool.true_and,Bool.and_true,Sl.oc ba]; try rfl),rfl⟩
  have cF:RepR (α:=Flood) aA.cells [aF] [(⟨((aj.getD i default).spring:Int),r6⟩:Flood)]:=.cons (by rw [bM]; exact ⟨_,rfl,ba⟩)<|.nil
  refine t_bs (α:=Raw 1) T27 [.agg #[I ((aj.getD i default).spring),ak]] [aF] H rfl (.cons (by rw [show (Flat.enc aF:List Value)=aF.cs from rfl,bM]; rfl) (Flat.rep_enc _ _)<|.nil) rfl rfl rfl ?_;intro cG eJ H;replace H:=H.nf
  have eK:=Sl.cells (H.os 0)
  have eL:=Sl.oc (H.os 0)
  refine s_nil ⟨(H.pk [5,7,8,9,10,11,12]),?_⟩
  refine t_l rfl ?_;refine kg 1 ?_
  refine s_nil ⟨(H.pk [5,7,8,9,10,11,12]),?_⟩
  refine t_l rfl ?_
  have bb:=cF
  obtain ⟨aC,H,cH,cI⟩:=H.joinE (i:=5) (j:=1) rfl rfl
  replace al:=al.mono cH
  replace bb:=bb.mono cI
  have bv:=al.app bb
  refine t_app (α:=Raw 1) (k:=5) (l:=am) (l2:=[aF]) (l':=am++([aF])) (vy:=cG) T27 rfl H rfl rfl rfl (H.os 1) (H.ol 1) (rfl) (by have a_:=al.len; have b_:=bb.len; (try simp only [List.length_nil] at *); first | omega | (rw [a_,b_]; omega)) ?_;intro bw eM H;replace H:=H.nf
  have eN:=Sl.cells (H.os 5)
  have eO:=Sl.oc (H.os 5)
  refine s_nil ⟨(H.pk [6,8,9,10,11,12,13]),?_⟩
  refine kg 1 ?_;refine t_l rfl ?_;refine t_sw 7 6 [bw] bw H rfl rfl Sz27 (Sl.cells (rowSl rfl (H.get (k:=5) rfl) (roLe _ (H.get (k:=0) rfl)) bv)) rfl rfl (by simp only [List.all_cons,List.all_nil,Bool.true_and,Bool.and_true,Sl.oc (rowSl rfl (H.get (k:=5) rfl) (roLe _ (H.get (k:=0) rfl)) bv)]; try rfl) ?_;intro eP H
  refine s_nil ⟨(H.pk [6,8,9,10,11,12,13]),?_⟩
  refine t_nil ?_;replace H:=H.pk [0,5,6,7,8,9,10,11,12,13];refine kg 5 ?_
  exact ⟨aU,aV,i+1,l++([(⟨((aj.getD i default).spring:Int),r6⟩:Flood)]),bw,am++([aF]),aC,_,upds_of _ _ ⟨rfl,rfl,rfl,rfl,trivial⟩,M.e_inl hM aN,(H.pk [1,0,3,4,5,6,7,8,9]),bv⟩
 replace hM:=M.e_f hM az
 replace az:=dI az
 refine W.exit ?_
 have cJ:=M.e_inr hM aN
 subst cJ;replace hM:=ce;(try dsimp only at hM);refine kg 3 ?_;refine t_sw 7 0 [ag,ae,ac,aa,I ah,I ai,aw] (.agg #[ag,ae,ac,aa,I ah,I ai,aw]) H rfl rfl Sz29 rfl rfl rfl (by simp only [List.all_cons,List.all_nil,Bool.true_and,Bool.and_true,Sl.oc (H.os 6),Sl.oc (H.os 5),Sl.oc (H.os 4),Sl.oc (H.os 3),Sl.oc (rowSl rfl (H.get (k:=0) rfl) (roLe _ (H.get (k:=1) rfl)) al)]; try rfl) ?_;intro eQ H;refine s_nil ?_;replace H:=H.pk [0,1,3,4,5,6,7];refine W.ret ?_
 have cK:=(H.bl 6)
 have cL:=M.e_pure hM
 exact ⟨_,(resE_of1 (v:=.agg #[ag,ae,ac,aa,I ah,I ai,aw]) rfl (.cell (v:=.agg #[ag,ae,ac,aa,I ah,I ai,aw]) rfl (run_loadVar_ag (ds:=[ag,ae,ac,aa,I ah,I ai,aw]) Ag29 Sz29 cK rfl rfl)<|.nil)),⟨r2,r3,r4,r5,ah,ai,l,ag,ae,ac,aa,aw,am,B_l,cL,rfl,(H.pk [5,4,3,2,0,1]),al⟩⟩

def zcq (aa:List Town):(Nat × (List Town))->M ((Nat × (List Town)) ⊕ ((List Town) × (List Town))):=fun (i,l) =>
  bif decide ((i:Int)<(aa.length:Int)) then (
  M.grd (decide ((i:Int)<(aa.length:Int))) <|
  M.grd (decide ((l.length+([(aa.getD i default)]).length)*24<=140737488355328)) <|
  M.pure (.inl (i+1,l++([(aa.getD i default)]))))
  else (
  M.pure (.inr (l,l)))
def zcy (aa:List Flood):(Nat × (List Flood))->M ((Nat × (List Flood)) ⊕ ((List Flood) × (List Flood))):=fun (i2,l4) =>
  bif decide ((i2:Int)<(aa.length:Int)) then (
  M.grd (decide ((i2:Int)<(aa.length:Int))) <|
  M.grd (decide ((l4.length+([(aa.getD i2 default)]).length)*32<=140737488355328)) <|
  M.pure (.inl (i2+1,l4++([(aa.getD i2 default)]))))
  else (
  M.pure (.inr (l4,l4)))
def zcv (aa:List Town) (ab ac:Int) (ae:List Flood) (r2:List Int) (r3:List Span) (r4:List Int):M ((List Int) × (List Span) × (List Int) × (List Town) × Int × Int × (List Flood)) :=
  M.bind (M.iter (zcq aa) (0,[])) fun (l2,l3) =>
  M.bind (M.iter (zcy ae) (0,[])) fun (l5,l6) =>
  M.pure (r2,r3,r4,l3,ab,ac,l6)
def zbj (aa:List Int) (ab:List Span) (ac:List Int) (ae:List Town) (ag ah:Int) (ai:List Flood):M ((List Int) × (List Span) × (List Int) × (List Town) × Int × Int × (List Flood)) :=
  M.bind (zay aa) fun r2 =>
  M.bind (zcO ab) fun r3 =>
  M.bind (zay ac) fun r4 =>
  zcv ae ag ah ai r2 r3 r4
theorem zap {R:List Chunk} {bh:Cells} {ap:Value} {bi:Cells} {am:Value} {bj:Cells} {al:Value} {bm:Cells} {aw:Value} {aH:Cells} {ax:Value} (aM:List Int) (aJ:List Span) (aI:List Int) (ai:List Town) (ae:Int) (ag:Int) (aj:List Flood) (bn:Reads R bh) (bo:Sl bh ap aM) (aT:Reads R bi) (aU:Sl bi am aJ) (aN:Reads R bj) (aO:Sl bj al aI) (bF:Reads R bm) (bp:Sl bm aw ai) (aq:Reads R aH) (br:Sl aH ax aj) {r:((List Int) × (List Span) × (List Int) × (List Town) × Int × Int × (List Flood))} (hM:(zbj aM aJ aI ai ae ag aj).Ends r) (w:World) (H:St w w [] R):Ret Tryz.prog 13 #[.agg #[ap,am,al,aw,I ae,I ag,ax]] w fun v w'=>∃ (y0:List Int) (y1:List Span) (y2:List Int) (y3:List Town) (y4:Int) (y5:Int) (y6:List Flood) (u0:Value) (u1:Value) (u2:Value) (u3:Value) (u4:Value) (rr5:List (Raw 1)) (bt:Base),(y0,y1,y2,y3,y4,y5,y6)=r/\v = .agg #[u0,u1,u2,u3,I y4,I y5,u4]/\St w w' [cOwn (α:=Int) 3 u0 y0,cOwn (α:=Span) 26 u1 y1,cOwn (α:=Int) 3 u2 y2,cOwn (α:=Town) 105 u3 y3,cOwn (α:=Raw 1) 106 u4 rr5,cRo bt] R/\RepR (α:=Flood) (Cells.sup aH bt.cells) rr5 y6:=by
 refine ret_of_W Tryz.func13 rfl rfl rfl ?_;refine kg 2 ?_;refine t_bx [ap,am,al,aw,I ae,I ag,ax] H rfl ?_;intro ay cg H;refine t_alloc (cs:=[.slice none 0 0,.slice none 0 0,.slice none 0 0,.slice none 0 0,I 0,I 0,.slice none 0 0]) H Al53 rfl ?_;intro az ci H;refine s_nil ?_;refine W.seqJ (fun σ W=>∃ (ak:Nat) (r2:List Int) (r3:List Span) (r4:List Int) (ac:Value) (ab:Value) (aa:Value) (ρ:Env),σ=upds ρ [(1,Pq ay),(2,Pq az),(3,Pq ak)]/\(zcv ai ae ag aj r2 r3 r4).Ends r/\St w W [cBlk ak [ac,ab,aa,.slice none 0 0,I ae,I ag,.slice none 0 0] 53,cOwn (α:=Int) 3 aa r4,cOwn (α:=Span) 26 ab r3,cOwn (α:=Int) 3 ac r2,cBlk az [.slice none 0 0,.slice none 0 0,.slice none 0 0,.slice none 0 0,I 0,I 0,.slice none 0 0] 53,cBlk ay [ap,am,al,aw,I ae,I ag,ax] 29] R) ?_ ?_
 ·skip
  refine W.drawT (fun W=>St w W [cBlk az [.slice none 0 0,.slice none 0 0,.slice none 0 0,.slice none 0 0,I 0,I 0,.slice none 0 0] 53,cBlk ay [ap,am,al,aw,I ae,I ag,ax] 29] R) (.q 0 (.q 1 (.q 3 (.q 4 (.q 6 (.q 7 (.q 9 (.q 10 (.l2 2 (.l2 5 (.l2 8 (.q 11 (.l 12 (.l 13 .nil))) 12 (.l 8 (.q 11 (.l 13 .nil)))) 12 (.l 5 (.l 8 (.q 11 (.l 13 .nil))))) 12 (.l 2 (.l 5 (.l 8 (.q 11 (.l 13 .nil)))))))))))))) mixed (by decide +kernel) rfl ?_;intro cj aB;replace H:=H.ext aB;clear aB
  refine ⟨(H.pk [0,1]),?_⟩
  refine kg 8 ?_;refine t_l2 rfl rfl ?_ ?_
  ·skip
   obtain ⟨ck,bG,hM⟩:=M.e_bind hM;refine s_call cf23 [ap] rfl (zai aM (bn.app _) bo bG _ (H.gt 2)) ?_
   rintro vq cm ⟨r2,ac,rfl,hvq,ah⟩
   subst vq;(try dsimp only at hM);replace H:=H.bk ah;clear ah
   have aV:=Sl.cells (H.os 0)
   have cn:=Sl.oc (H.os 0)
   refine s_nil ⟨(H.pk [1,2]),?_⟩
   refine t_l2 rfl rfl ?_ ?_
   ·skip
    obtain ⟨co,bH,hM⟩:=M.e_bind hM;refine s_call cf55 [am] rfl (zaI aJ (aT.app _) aU bH _ (H.gt 3)) ?_
    rintro vq cp ⟨r3,ab,rfl,hvq,ah⟩
    subst vq;(try dsimp only at hM);replace H:=H.bk ah;clear ah
    have bu:=Sl.cells (H.os 0)
    have cq:=Sl.oc (H.os 0)
    refine s_nil ⟨(H.pk [2,3]),?_⟩
    refine t_l2 rfl rfl ?_ ?_
    ·skip
     obtain ⟨cr,bI,hM⟩:=M.e_bind hM;refine s_call cf23 [al] rfl (zai aI (aN.app _) aO bI _ (H.gt 4)) ?_
     rintro vq ct ⟨r4,aa,rfl,hvq,ah⟩
     subst vq;(try dsimp only at hM);replace H:=H.bk ah;clear ah
     have bJ:=Sl.cells (H.os 0)
     have cu:=Sl.oc (H.os 0)
     refine s_nil ⟨(H.pk [3,4]),?_⟩
     refine t_q rfl (fun w' H=>x_bld (ps:=[(0,ac),(1,ab),(2,aa),(4,.agg #[I ae,I ag])]) (zs:=[.slice none 0 0,.slice none 0 0,.slice none 0 0,.slice none 0 0,I 0,I 0,.slice none 0 0]) (L':=[ac,ab,aa,.slice none 0 0,I ae,I ag,.slice none 0 0]) rfl Tryz.underlying53 Al53 rfl (Bd53 Tryz.underlying53) (.cons (cs:=[ac]) aV rfl rfl rfl rfl<|.cons (cs:=[ab]) bu rfl rfl rfl rfl<|.cons (cs:=[aa]) bJ rfl rfl rfl rfl<|.cons (cs:=[I ae,I ag]) rfl rfl rfl rfl rfl<|.nil))<|t_l rfl ?_;refine t_alloc (cs:=[.slice none 0 0,.slice none 0 0,.slice none 0 0,.slice none 0 0,I 0,I 0,.slice none 0 0]) H Al53 rfl ?_;intro ak cv H
     refine s_nil ⟨(H.pk [4,5]),?_⟩
     refine t_l rfl ?_;refine t_sw 0 0 [ac,ab,aa,.slice none 0 0,I ae,I ag,.slice none 0 0] (.agg #[ac,ab,aa,.slice none 0 0,I ae,I ag,.slice none 0 0]) H rfl rfl Sz53 rfl rfl rfl (by simp only [List.all_cons,List.all_nil,Bool.true_and,Bool.and_true,Sl.oc (H.os 3),Sl.oc (H.os 2),Sl.oc (H.os 1)]; try rfl) ?_;intro cw H
     refine s_nil ⟨(H.pk [4,5]),?_⟩
     refine t_nil ?_
     exact ⟨ak,r2,r3,r4,ac,ab,aa,_,upds_of _ _ ⟨rfl,rfl,rfl,trivial⟩,hM,H⟩
    skip
    refine t_alloc (cs:=[.slice none 0 0,.slice none 0 0,.slice none 0 0,.slice none 0 0,I 0,I 0,.slice none 0 0]) H Al53 rfl ?_;intro ak cx H
    refine s_nil ⟨(H.pk [3,4]),?_⟩
    refine t_l rfl ?_;obtain ⟨cy,bK,hM⟩:=M.e_bind hM;refine s_call cf23 [al] rfl (zai aI (aN.app _) aO bK _ (H.gt 5)) ?_
    rintro vq cz ⟨r4,aa,rfl,hvq,ah⟩
    subst vq;(try dsimp only at hM);replace H:=H.bk ah;clear ah
    have bL:=Sl.cells (H.os 0)
    have cA:=Sl.oc (H.os 0)
    refine s_nil ⟨(H.pk [4,5]),?_⟩
    refine t_q rfl (fun w' H=>x_bld (ps:=[(0,ac),(1,ab),(2,aa),(4,.agg #[I ae,I ag])]) (zs:=[.slice none 0 0,.slice none 0 0,.slice none 0 0,.slice none 0 0,I 0,I 0,.slice none 0 0]) (L':=[ac,ab,aa,.slice none 0 0,I ae,I ag,.slice none 0 0]) rfl Tryz.underlying53 Al53 rfl (Bd53 Tryz.underlying53) (.cons (cs:=[ac]) aV rfl rfl rfl rfl<|.cons (cs:=[ab]) bu rfl rfl rfl rfl<|.cons (cs:=[aa]) bL rfl rfl rfl rfl<|.cons (cs:=[I ae,I ag]) rfl rfl rfl rfl rfl<|.nil))<|t_l rfl ?_;refine t_sw 1 0 [ac,ab,aa,.slice none 0 0,I ae,I ag,.slice none 0 0] (.agg #[ac,ab,aa,.slice none 0 0,I ae,I ag,.slice none 0 0]) H rfl rfl Sz53 rfl rfl rfl (by simp only [List.all_cons,List.all_nil,Bool.true_and,Bool.and_true,Sl.oc (H.os 3),Sl.oc (H.os 2),Sl.oc (H.os 0)]; try rfl) ?_;intro cB H
    refine s_nil ⟨(H.pk [4,5]),?_⟩
    refine t_nil ?_
    exact ⟨ak,r2,r3,r4,ac,ab,aa,_,upds_of _ _ ⟨rfl,rfl,rfl,trivial⟩,hM,(H.pk [1,0,2,3,4,5])⟩
   skip
   refine t_alloc (cs:=[.slice none 0 0,.slice none 0 0,.slice none 0 0,.slice none 0 0,I 0,I 0,.slice none 0 0]) H Al53 rfl ?_;intro ak cC H
   refine s_nil ⟨(H.pk [2,3]),?_⟩
   refine t_l rfl ?_;obtain ⟨cD,bM,hM⟩:=M.e_bind hM;refine s_call cf55 [am] rfl (zaI aJ (aT.app _) aU bM _ (H.gt 4)) ?_
   rintro vq cE ⟨r3,ab,rfl,hvq,ah⟩
   subst vq;(try dsimp only at hM);replace H:=H.bk ah;clear ah
   have bN:=Sl.cells (H.os 0)
   have cF:=Sl.oc (H.os 0)
   refine s_nil ⟨(H.pk [3,4]),?_⟩
   refine t_l rfl ?_;obtain ⟨cG,bO,hM⟩:=M.e_bind hM;refine s_call cf23 [al] rfl (zai aI (aN.app _) aO bO _ (H.gt 5)) ?_
   rintro vq cH ⟨r4,aa,rfl,hvq,ah⟩
   subst vq;(try dsimp only at hM);replace H:=H.bk ah;clear ah
   have bP:=Sl.cells (H.os 0)
   have cI:=Sl.oc (H.os 0)
   refine s_nil ⟨(H.pk [4,5]),?_⟩
   refine t_q rfl (fun w' H=>x_bld (ps:=[(0,ac),(1,ab),(2,aa),(4,.agg #[I ae,I ag])]) (zs:=[.slice none 0 0,.slice none 0 0,.slice none 0 0,.slice none 0 0,I 0,I 0,.slice none 0 0]) (L':=[ac,ab,aa,.slice none 0 0,I ae,I ag,.slice none 0 0]) rfl Tryz.underlying53 Al53 rfl (Bd53 Tryz.underlying53) (.cons (cs:=[ac]) aV rfl rfl rfl rfl<|.cons (cs:=[ab]) bN rfl rfl rfl rfl<|.cons (cs:=[aa]) bP rfl rfl rfl rfl<|.cons (cs:=[I ae,I ag]) rfl rfl rfl rfl rfl<|.nil))<|t_l rfl ?_;refine t_sw 2 0 [ac,ab,aa,.slice none 0 0,I ae,I ag,.slice none 0 0] (.agg #[ac,ab,aa,.slice none 0 0,I ae,I ag,.slice none 0 0]) H rfl rfl Sz53 rfl rfl rfl (by simp only [List.all_cons,List.all_nil,Bool.true_and,Bool.and_true,Sl.oc (H.os 3),Sl.oc (H.os 1),Sl.oc (H.os 0)]; try rfl) ?_;intro cJ H
   refine s_nil ⟨(H.pk [4,5]),?_⟩
   refine t_nil ?_
   exact ⟨ak,r2,r3,r4,ac,ab,aa,_,upds_of _ _ ⟨rfl,rfl,rfl,trivial⟩,hM,(H.pk [2,0,1,3,4,5])⟩
  skip
  refine t_alloc (cs:=[.slice none 0 0,.slice none 0 0,.slice none 0 0,.slice none 0 0,I 0,I 0,.slice none 0 0]) H Al53 rfl ?_;intro ak cK H
  refine s_nil ⟨(H.pk [1,2]),?_⟩
  refine t_l rfl ?_;obtain ⟨cL,bQ,hM⟩:=M.e_bind hM;refine s_call cf23 [ap] rfl (zai aM (bn.app _) bo bQ _ (H.gt 3)) ?_
  rintro vq cM ⟨r2,ac,rfl,hvq,ah⟩
  subst vq;(try dsimp only at hM);replace H:=H.bk ah;clear ah
  have bR:=Sl.cells (H.os 0)
  have cN:=Sl.oc (H.os 0)
  refine s_nil ⟨(H.pk [2,3]),?_⟩
  refine t_l rfl ?_;obtain ⟨cO,bS,hM⟩:=M.e_bind hM;refine s_call cf55 [am] rfl (zaI aJ (aT.app _) aU bS _ (H.gt 4)) ?_
  rintro vq cP ⟨r3,ab,rfl,hvq,ah⟩
  subst vq;(try dsimp only at hM);replace H:=H.bk ah;clear ah
  have bT:=Sl.cells (H.os 0)
  have cQ:=Sl.oc (H.os 0)
  refine s_nil ⟨(H.pk [3,4]),?_⟩
  refine t_l rfl ?_;obtain ⟨cR,bU,hM⟩:=M.e_bind hM;refine s_call cf23 [al] rfl (zai aI (aN.app _) aO bU _ (H.gt 5)) ?_
  rintro vq cS ⟨r4,aa,rfl,hvq,ah⟩
  subst vq;(try dsimp only at hM);replace H:=H.bk ah;clear ah
  have bV:=Sl.cells (H.os 0)
  have cT:=Sl.oc (H.os 0)
  refine s_nil ⟨(H.pk [4,5]),?_⟩
  refine t_q rfl (fun w' H=>x_bld (ps:=[(0,ac),(1,ab),(2,aa),(4,.agg #[I ae,I ag])]) (zs:=[.slice none 0 0,.slice none 0 0,.slice none 0 0,.slice none 0 0,I 0,I 0,.slice none 0 0]) (L':=[ac,ab,aa,.slice none 0 0,I ae,I ag,.slice none 0 0]) rfl Tryz.underlying53 Al53 rfl (Bd53 Tryz.underlying53) (.cons (cs:=[ac]) bR rfl rfl rfl rfl<|.cons (cs:=[ab]) bT rfl rfl rfl rfl<|.cons (cs:=[aa]) bV rfl rfl rfl rfl<|.cons (cs:=[I ae,I ag]) rfl rfl rfl rfl rfl<|.nil))<|t_l rfl ?_;refine t_sw 3 0 [ac,ab,aa,.slice none 0 0,I ae,I ag,.slice none 0 0] (.agg #[ac,ab,aa,.slice none 0 0,I ae,I ag,.slice none 0 0]) H rfl rfl Sz53 rfl rfl rfl (by simp only [List.all_cons,List.all_nil,Bool.true_and,Bool.and_true,Sl.oc (H.os 2),Sl.oc (H.os 1),Sl.oc (H.os 0)]; try rfl) ?_;intro cU H
  refine s_nil ⟨(H.pk [4,5]),?_⟩
  refine t_nil ?_
  exact ⟨ak,r2,r3,r4,ac,ab,aa,_,upds_of _ _ ⟨rfl,rfl,rfl,trivial⟩,hM,(H.pk [3,0,1,2,4,5])⟩
 rintro _ cV ⟨ak,r2,r3,r4,ac,ab,aa,ρ,rfl,hM,H⟩
 unfold zcv at hM
 refine kg 6 ?_
 replace H:=H.nilOwn (α:=Town) 105
 obtain ⟨bW,aW,bX⟩:=M.e_bind hM
 obtain ⟨bY,aW⟩:=M.e_iter aW
 refine W.loop (fun m σ W=>∃ (i:Nat) (l:List Town) (ao:Value) (ρ:Env),σ=upds ρ [(1,Pq ay),(2,Pq az),(3,Pq ak),(4,I (i:Int))]/\M.iterN (zcq ai) m (i,l)=some bW/\St w W [cOwn (α:=Town) 105 ao l,cBlk ak [ac,ab,aa,ao,I ae,I ag,.slice none 0 0] 53,cOwn (α:=Int) 3 aa r4,cOwn (α:=Span) 26 ab r3,cOwn (α:=Int) 3 ac r2,cBlk az [.slice none 0 0,.slice none 0 0,.slice none 0 0,.slice none 0 0,I 0,I 0,.slice none 0 0] 53,cBlk ay [ap,am,al,aw,I ae,I ag,ax] 29] R) ?_ ?_
 ·exact ⟨_,0,[],(.slice none 0 0),_,upds_of _ _ ⟨rfl,rfl,rfl,rfl,trivial⟩,aW,H⟩
 rintro cW σ cX ⟨i,l,ao,ρ,rfl,bv,H⟩
 obtain ⟨bw,bx,cY,hM,aX⟩:=M.e_iterN bv
 simp only [zcq] at hM
 clear bv
 have cZ:=(bp).len_le
 refine kg 9 ?_
 refine W.cond (decide ((i:Int)<(ai.length:Int))) rfl (fun aD=>?_) (fun aD=>?_)
 ·replace hM:=M.e_t hM aD
  replace aD:=dI aD
  refine kg 3 ?_;refine W.drawT (fun W=>St w W [cOwn (α:=Int) 3 aa r4,cOwn (α:=Span) 26 ab r3,cOwn (α:=Int) 3 ac r2,cBlk az [.slice none 0 0,.slice none 0 0,.slice none 0 0,.slice none 0 0,I 0,I 0,.slice none 0 0] 53,cBlk ay [ap,am,al,aw,I ae,I ag,ax] 29] R) (.q 0 (.q 2 (.q 3 (.q 4 (.q 5 (.q 6 (.l2 1 (.l 7 (.l 8 (.q 9 (.l 10 .nil)))) 7 (.l 1 (.l 8 (.q 9 (.l 10 .nil))))))))))) mixed (by decide +kernel) rfl ?_;intro c0 aB;replace H:=H.ext aB;clear aB
  refine ⟨(H.pk [2,3,4,5,6]),?_⟩
  obtain ⟨c5,hM⟩:=M.e_gd hM;refine kg 5 ?_;refine t_q rfl (fun w' H=>x_ld (v:=.agg #[I ((ai.getD i default).station),I ((ai.getD i default).lead),I ((ai.getD i default).alarm)]) rfl (ld_ag Ag36 Sz36 (At.mono (Town_atA bp (i:=(i:Int)) (by omega) (by omega)) (bF.at H)))) ?_;obtain ⟨c6,hM⟩:=M.e_gd hM;refine t_l2 rfl rfl ?_ ?_
  ·skip
   refine kg 1 ?_
   have c7:=Sl.cells (H.os 0)
   have c8:=Sl.oc (H.os 0)
   refine s_nil ⟨(H.pk [2,3,4,5,6]),?_⟩
   refine t_l rfl ?_;refine t_bs (α:=Town) T50 [.agg #[I ((ai.getD i default).station),I ((ai.getD i default).lead),I ((ai.getD i default).alarm)]] [(ai.getD i default)] H rfl (.cons rfl (Flat.rep_enc _ (ai.getD i default))<|.nil) rfl rfl rfl ?_;intro bZ c9 H
   have da:=Sl.cells (H.os 0)
   have db:=Sl.oc (H.os 0)
   refine s_nil ⟨(H.pk [3,4,5,6,7]),?_⟩
   refine t_l rfl ?_;refine t_app (α:=Town) (k:=1) (l:=l) (l2:=[(ai.getD i default)]) (l':=l++([(ai.getD i default)])) (vy:=bZ) T50 rfl H rfl rfl rfl (H.os 0) (H.ol 0) (rfl) (by first | omega | (simp only [List.length_nil] at *; omega)) ?_;intro aY dc H;replace H:=H.nf
   have dd:=Sl.cells (H.os 1)
   have dg:=Sl.oc (H.os 1)
   refine s_nil ⟨(H.pk [3,4,5,6,7]),?_⟩
   refine kg 1 ?_;refine t_l rfl ?_;refine t_sw 2 3 [aY] aY H rfl rfl Sz50 (Sl.cells (H.os 1)) rfl rfl (by simp only [List.all_cons,List.all_nil,Bool.true_and,Bool.and_true,Sl.oc (H.os 1)]; try rfl) ?_;intro dh H
   refine s_nil ⟨(H.pk [3,4,5,6,7]),?_⟩
   refine kg 6 ?_
   exact ⟨bw,bx,i+1,l++([(ai.getD i default)]),aY,_,upds_of _ _ ⟨rfl,rfl,rfl,rfl,trivial⟩,M.e_inl hM aX,(H.pk [1,2,3,4,5,6,7])⟩
  skip
  refine t_bs (α:=Town) T50 [.agg #[I ((ai.getD i default).station),I ((ai.getD i default).lead),I ((ai.getD i default).alarm)]] [(ai.getD i default)] H rfl (.cons rfl (Flat.rep_enc _ (ai.getD i default))<|.nil) rfl rfl rfl ?_;intro b0 di H
  have dj:=Sl.cells (H.os 0)
  have dk:=Sl.oc (H.os 0)
  have dl:=Sl.cells (H.os 1)
  have dm:=Sl.oc (H.os 1)
  refine s_nil ⟨(H.pk [3,4,5,6,7]),?_⟩
  refine t_l rfl ?_;refine kg 1 ?_
  refine s_nil ⟨(H.pk [3,4,5,6,7]),?_⟩
  refine t_l rfl ?_;refine t_app (α:=Town) (k:=1) (l:=l) (l2:=[(ai.getD i default)]) (l':=l++([(ai.getD i default)])) (vy:=b0) T50 rfl H rfl rfl rfl (H.os 0) (H.ol 0) (rfl) (by first | omega | (simp only [List.length_nil] at *; omega)) ?_;intro aZ dq H;replace H:=H.nf
  have dr:=Sl.cells (H.os 1)
  have dt:=Sl.oc (H.os 1)
  refine s_nil ⟨(H.pk [3,4,5,6,7]),?_⟩
  refine kg 1 ?_;refine t_l rfl ?_;refine t_sw 2 3 [aZ] aZ H rfl rfl Sz50 (Sl.cells (H.os 1)) rfl rfl (by simp only [List.all_cons,List.all_nil,Bool.true_and,Bool.and_true,Sl.oc (H.os 1)]; try rfl) ?_;intro du H
  refine s_nil ⟨(H.pk [3,4,5,6,7]),?_⟩
  refine kg 6 ?_
  exact ⟨bw,bx,i+1,l++([(ai.getD i default)]),aZ,_,upds_of _ _ ⟨rfl,rfl,rfl,rfl,trivial⟩,M.e_inl hM aX,(H.pk [1,2,3,4,5,6,7])⟩
 replace hM:=M.e_f hM aD
 replace aD:=dI aD
 refine W.exit ?_
 have b1:=M.e_inr hM aX
 subst b1;replace hM:=bX;(try dsimp only at hM);refine kg 6 ?_
 obtain ⟨bz,H⟩:=H.emptyE
 replace H:=H.nilOwn (α:=Raw 1) 106
 have a6:RepR (α:=Flood) (n:=1) bz.cells [] []:=.nil
 replace a6:=a6.mono (Cells.sup_r (aq.at H) (roLe _ (H.get (k:=1) rfl)))
 obtain ⟨b2,a7,b3⟩:=M.e_bind hM
 obtain ⟨bY,a7⟩:=M.e_iter a7
 refine W.loop (fun m σ W=>∃ (i2:Nat) (l4:List Flood) (aA:Value) (au:List (Raw 1)) (B_l4:Base) (ρ:Env),σ=upds ρ [(1,Pq ay),(2,Pq az),(3,Pq ak),(5,I (i2:Int))]/\M.iterN (zcy aj) m (i2,l4)=some b2/\St w W [cOwn (α:=Raw 1) 106 aA au,cRo B_l4,cOwn (α:=Town) 105 ao l,cBlk ak [ac,ab,aa,ao,I ae,I ag,aA] 53,cOwn (α:=Int) 3 aa r4,cOwn (α:=Span) 26 ab r3,cOwn (α:=Int) 3 ac r2,cBlk az [.slice none 0 0,.slice none 0 0,.slice none 0 0,.slice none 0 0,I 0,I 0,.slice none 0 0] 53,cBlk ay [ap,am,al,aw,I ae,I ag,ax] 29] R/\RepR (α:=Flood) (Cells.sup aH B_l4.cells) au l4) ?_ ?_
 ·exact ⟨_,0,[],(.slice none 0 0),[],bz,_,upds_of _ _ ⟨rfl,rfl,rfl,rfl,trivial⟩,a7,H,a6⟩
 rintro dv σ dw ⟨i2,l4,aA,au,B_l4,ρ,rfl,bA,H,av⟩
 obtain ⟨bB,bC,dx,hM,a8⟩:=M.e_iterN bA
 simp only [zcy] at hM
 clear bA
 have dy:=(br).len_le
 refine kg 9 ?_
 refine W.cond (decide ((i2:Int)<(aj.length:Int))) rfl (fun aE=>?_) (fun aE=>?_)
 ·replace hM:=M.e_t hM aE
  replace aE:=dI aE
  refine kg 3 ?_;refine W.drawT (fun W=>St w W [cRo B_l4,cOwn (α:=Town) 105 ao l,cOwn (α:=Int) 3 aa r4,cOwn (α:=Span) 26 ab r3,cOwn (α:=Int) 3 ac r2,cBlk az [.slice none 0 0,.slice none 0 0,.slice none 0 0,.slice none 0 0,I 0,I 0,.slice none 0 0] 53,cBlk ay [ap,am,al,aw,I ae,I ag,ax] 29] R) (.q 0 (.q 2 (.q 3 (.q 4 (.q 5 (.q 6 (.l2 1 (.l 7 (.l 8 (.q 9 (.l 10 .nil)))) 7 (.l 1 (.l 8 (.q 9 (.l 10 .nil))))))))))) mixed (by decide +kernel) rfl ?_;intro dz aB;replace H:=H.ext aB;clear aB
  refine ⟨(H.pk [1,2,4,5,6,7,8]),?_⟩
  obtain ⟨dA,hM⟩:=M.e_gd hM;refine kg 5 ?_
  obtain ⟨aC,b4,aK⟩:=Flood_atA br (i:=(i2:Int)) (by omega) (by omega)
  replace aK:Sl _ aC (aj.getD i2 default).stages:=aK
  have dB:=aK.len_le
  refine t_q rfl (fun w' H=>x_ld (v:=.agg #[I ((aj.getD i2 default).spring),aC]) rfl (ld_ag Ag38 Sz38 (At.mono b4 (aq.at H)))) ?_;obtain ⟨dC,hM⟩:=M.e_gd hM;refine t_l2 rfl rfl ?_ ?_
  ·skip
   refine kg 1 ?_
   have dD:=Sl.cells (H.os 0)
   have dE:=Sl.oc (H.os 0)
   refine s_nil ⟨(H.pk [1,2,4,5,6,7,8]),?_⟩
   refine t_l rfl ?_
   obtain ⟨aL,H⟩:=H.emptyE
   have aP:=aK
   replace aP:=aP.mono (Cells.sup_l _ aL.cells)
   obtain ⟨aF,bD⟩:∃ r:Raw 1,r.cs=[I ((aj.getD i2 default).spring),aC]:=⟨Raw.of [I ((aj.getD i2 default).spring),aC] rfl (by simp only [List.all_cons,List.all_nil,Bool.true_and,Bool.and_true,Sl.oc aP]; try rfl),rfl⟩
   have b5:RepR (α:=Flood) (Cells.sup aH aL.cells) [aF] [(aj.getD i2 default)]:=.cons (by rw [bD]; exact ⟨_,rfl,aP⟩)<|.nil
   refine t_bs (α:=Raw 1) T51 [.agg #[I ((aj.getD i2 default).spring),aC]] [aF] H rfl (.cons (by rw [show (Flat.enc aF:List Value)=aF.cs from rfl,bD]; rfl) (Flat.rep_enc _ _)<|.nil) rfl rfl rfl ?_;intro b6 dF H;replace H:=H.nf
   have dG:=Sl.cells (H.os 0)
   have dH:=Sl.oc (H.os 0)
   refine s_nil ⟨(H.pk [3,4,6,7,8,9,10]),?_⟩
   refine t_l rfl ?_
   have aQ:=b5
   obtain ⟨ba,H,b7,b8⟩:=H.joinE (i:=3) (j:=1) rfl rfl
   replace av:=av.mono (Cells.sup_mono b7 (aq.at H) (roLe _ (H.get (k:=0) rfl)))
   replace aQ:=aQ.mono (Cells.sup_mono b8 (aq.at H) (roLe _ (H.get (k:=0) rfl)))
   have bb:=av.app aQ
   refine t_app (α:=Raw 1) (k:=3) (l:=au) (l2:=[aF]) (l':=au++([aF])) (vy:=b6) T51 rfl H rfl rfl rfl (H.os 1) (H.ol 1) (rfl) (by have a_:=av.len; have b_:=aQ.len; (try simp only [List.length_nil] at *); first | omega | (rw [a_,b_]; omega)) ?_;intro bc dJ H;replace H:=H.nf
   have dK:=Sl.cells (H.os 3)
   have dL:=Sl.oc (H.os 3)
   refine s_nil ⟨(H.pk [4,5,7,8,9,10,11]),?_⟩
   refine kg 1 ?_;refine t_l rfl ?_;refine t_sw 6 6 [bc] bc H rfl rfl Sz51 (Sl.cells (rowSl rfl (H.get (k:=3) rfl) (Cells.sup_le (aq.at H) (roLe _ (H.get (k:=0) rfl))) bb)) rfl rfl (by simp only [List.all_cons,List.all_nil,Bool.true_and,Bool.and_true,Sl.oc (rowSl rfl (H.get (k:=3) rfl) (Cells.sup_le (aq.at H) (roLe _ (H.get (k:=0) rfl))) bb)]; try rfl) ?_;intro dM H
   refine s_nil ⟨(H.pk [4,5,7,8,9,10,11]),?_⟩
   refine t_nil ?_;replace H:=H.pk [0,3,4,5,6,7,8,9,10,11];refine kg 5 ?_
   exact ⟨bB,bC,i2+1,l4++([(aj.getD i2 default)]),bc,au++([aF]),ba,_,upds_of _ _ ⟨rfl,rfl,rfl,rfl,trivial⟩,M.e_inl hM a8,(H.pk [1,0,3,4,5,6,7,8,9]),bb⟩
  skip
  obtain ⟨aL,H⟩:=H.emptyE
  have aR:=aK
  replace aR:=aR.mono (Cells.sup_l _ aL.cells)
  obtain ⟨aG,bE⟩:∃ r:Raw 1,r.cs=[I ((aj.getD i2 default).spring),aC]:=⟨Raw.of [I ((aj.getD i2 default).spring),aC] rfl (by simp only [List.all_cons,List.all_nil,Bool.true_and,Bool.and_true,Sl.oc aR]; try rfl),rfl⟩
  have b9:RepR (α:=Flood) (Cells.sup aH aL.cells) [aG] [(aj.getD i2 default)]:=.cons (by rw [bE]; exact ⟨_,rfl,aR⟩)<|.nil
  refine t_bs (α:=Raw 1) T51 [.agg #[I ((aj.getD i2 default).spring),aC]] [aG] H rfl (.cons (by rw [show (Flat.enc aG:List Value)=aG.cs from rfl,bE]; rfl) (Flat.rep_enc _ _)<|.nil) rfl rfl rfl ?_;intro ca dN H;replace H:=H.nf
  have dO:=Sl.cells (H.os 0)
  have dP:=Sl.oc (H.os 0)
  have dQ:=Sl.cells (H.os 2)
  have dR:=Sl.oc (H.os 2)
  refine s_nil ⟨(H.pk [3,4,6,7,8,9,10]),?_⟩
  refine t_l rfl ?_;refine kg 1 ?_
  refine s_nil ⟨(H.pk [3,4,6,7,8,9,10]),?_⟩
  refine t_l rfl ?_
  have aS:=b9
  obtain ⟨ba,H,cb,cc⟩:=H.joinE (i:=3) (j:=1) rfl rfl
  replace av:=av.mono (Cells.sup_mono cb (aq.at H) (roLe _ (H.get (k:=0) rfl)))
  replace aS:=aS.mono (Cells.sup_mono cc (aq.at H) (roLe _ (H.get (k:=0) rfl)))
  have bf:=av.app aS
  refine t_app (α:=Raw 1) (k:=3) (l:=au) (l2:=[aG]) (l':=au++([aG])) (vy:=ca) T51 rfl H rfl rfl rfl (H.os 1) (H.ol 1) (rfl) (by have a_:=av.len; have b_:=aS.len; (try simp only [List.length_nil] at *); first | omega | (rw [a_,b_]; omega)) ?_;intro bg dS H;replace H:=H.nf
  have dT:=Sl.cells (H.os 3)
  have dU:=Sl.oc (H.os 3)
  refine s_nil ⟨(H.pk [4,5,7,8,9,10,11]),?_⟩
  refine kg 1 ?_;refine t_l rfl ?_;refine t_sw 6 6 [bg] bg H rfl rfl Sz51 (Sl.cells (rowSl rfl (H.get (k:=3) rfl) (Cells.sup_le (aq.at H) (roLe _ (H.get (k:=0) rfl))) bf)) rfl rfl (by simp only [List.all_cons,List.all_nil,Bool.true_and,Bool.and_true,Sl.oc (rowSl rfl (H.get (k:=3) rfl) (Cells.sup_le (aq.at H) (roLe _ (H.get (k:=0) rfl))) bf)]; try rfl) ?_;intro dV H
  refine s_nil ⟨(H.pk [4,5,7,8,9,10,11]),?_⟩
  refine t_nil ?_;replace H:=H.pk [0,3,4,5,6,7,8,9,10,11];refine kg 5 ?_
  exact ⟨bB,bC,i2+1,l4++([(aj.getD i2 default)]),bg,au++([aG]),ba,_,upds_of _ _ ⟨rfl,rfl,rfl,rfl,trivial⟩,M.e_inl hM a8,(H.pk [1,0,3,4,5,6,7,8,9]),bf⟩
 replace hM:=M.e_f hM aE
 replace aE:=dI aE
 refine W.exit ?_
 have cd:=M.e_inr hM a8
 subst cd;replace hM:=b3;(try dsimp only at hM);refine kg 3 ?_;refine t_sw 7 0 [ac,ab,aa,ao,I ae,I ag,aA] (.agg #[ac,ab,aa,ao,I ae,I ag,aA]) H rfl rfl Sz53 rfl rfl rfl (by simp only [List.all_cons,List.all_nil,Bool.true_and,Bool.and_true,Sl.oc (H.os 6),Sl.oc (H.os 5),Sl.oc (H.os 4),Sl.oc (H.os 2),Sl.oc (rowSl rfl (H.get (k:=0) rfl) (Cells.sup_le (aq.at H) (roLe _ (H.get (k:=1) rfl))) av)]; try rfl) ?_;intro dW H;refine s_nil ?_;replace H:=H.pk [0,1,2,4,5,6,7];refine W.ret ?_
 have ce:=(H.bl 6)
 have cf:=M.e_pure hM
 exact ⟨_,(resE_of1 (v:=.agg #[ac,ab,aa,ao,I ae,I ag,aA]) rfl (.cell (v:=.agg #[ac,ab,aa,ao,I ae,I ag,aA]) rfl (run_loadVar_ag (ds:=[ac,ab,aa,ao,I ae,I ag,aA]) Ag53 Sz53 ce rfl rfl)<|.nil)),⟨r2,r3,r4,l,ae,ag,l4,ac,ab,aa,ao,aA,au,B_l4,cf,rfl,(H.pk [5,4,3,2,0,1]),av⟩⟩

def zcp (a b:List Span):Nat->M (Nat ⊕ (Unit ⊕ Unit)):=fun i =>
  bif decide ((i:Int)<(a.length:Int)) then (
  M.grd (decide ((i:Int)<(a.length:Int))) <|
  M.grd (decide ((i:Int)<(b.length:Int))) <|
  bif !(decide ((a.getD i default)=(b.getD i default))) then (
  M.pure (.inr (.inl ())))
  else (
  M.pure (.inl (i+1))))
  else (
  M.pure (.inr (.inr ())))
def zdU (a b:List Span):M Bool :=
  bif (a.length:Int) != (b.length:Int) then (
  M.pure false)
  else (
  M.bind (M.iter (zcp a b) 0) fun x_=>match x_ with
  | (.inl (_:Unit))=>(
  M.pure false)
  | (.inr (_:Unit))=>(
  M.pure true))
theorem ze6 {R:List Chunk} {ak:Cells} {ae:Value} {al:Cells} {ag:Value} (a:List Span) (b:List Span) (aA:Reads R ak) (am:Sl ak ae a) (aB:Reads R al) (au:Sl al ag b) {r:Bool} (hM:(zdU a b).Ends r) (w:World) (H:St w w [] R):Ret Tryz.prog 66 #[ae,ag] w fun v w'=>∃ (y0:Bool),y0=r/\v=B y0/\St w w' [] R:=by
 refine ret_of_W Tryz.func66 rfl rfl rfl ?_
 have aC:=(am).len_le
 have aD:=(au).len_le
 refine kg 13 ?_
 refine W.cond ((a.length:Int) != (b.length:Int)) rfl (fun aa=>?_) (fun aa=>?_)
 ·replace hM:=M.e_t hM aa
  replace aa:=dI aa
  refine kg 4 ?_;refine W.ret ?_
  have ac:=M.e_pure hM
  exact ⟨_,resE_tmp rfl,⟨false,ac,rfl,H⟩⟩
 replace hM:=M.e_f hM aa
 replace aa:=dI aa
 refine kg 7 ?_;obtain ⟨av,ah,ao⟩:=M.e_bind hM
 obtain ⟨aE,ah⟩:=M.e_iter ah
 refine W.loop (fun m σ W=>∃ (i:Nat) (ρ:Env),σ=upds ρ [(0,ae),(1,ag),(5,I (i:Int))]/\M.iterN (zcp a b) m i=some av/\St w W [] R) ?_ ?_
 ·exact ⟨_,0,_,upds_of _ _ ⟨rfl,rfl,rfl,trivial⟩,ah,H⟩
 rintro aF σ aG ⟨i,ρ,rfl,ap,H⟩
 obtain ⟨aw,ax,aH,hM,ai⟩:=M.e_iterN ap
 simp only [zcp] at hM
 clear ap
 have aI:=(am).len_le
 refine kg 8 ?_
 refine W.cond (decide ((i:Int)<(a.length:Int))) rfl (fun ab=>?_) (fun ab=>?_)
 ·replace hM:=M.e_t hM ab
  replace ab:=dI ab
  refine kg 4 ?_;refine W.draw (fun W=>St w W [] R) [(0,true),(1,true),(2,true),(3,true),(4,true),(5,true),(6,true),(7,true),(8,true)] mixed (by decide +kernel) rfl ?_;intro aJ aq;replace H:=H.ext aq;clear aq
  refine ⟨(H.pk []),?_⟩
  obtain ⟨aK,hM⟩:=M.e_gd hM;obtain ⟨aL,hM⟩:=M.e_gd hM;refine kg 8 ?_;refine d_q rfl (fun w' H=>x_neS (eqT26 (a.getD i default) (b.getD i default) _) gdT26 rfl rfl) ?_;refine d_nil ?_
  refine W.cond (!(decide ((a.getD i default)=(b.getD i default)))) rfl (fun aj=>?_) (fun aj=>?_)
  ·replace hM:=M.e_t hM aj;refine kg 4 ?_;refine W.ret ?_
   have ay:=M.e_inr hM ai
   subst ay;replace hM:=ao;(try dsimp only at hM)
   have ac:=M.e_pure hM
   exact ⟨_,resE_tmp rfl,⟨false,ac,rfl,H⟩⟩
  replace hM:=M.e_f hM aj;refine kg 6 ?_
  exact ⟨aw,ax,i+1,_,upds_of _ _ ⟨rfl,rfl,rfl,trivial⟩,M.e_inl hM ai,H⟩
 replace hM:=M.e_f hM ab
 replace ab:=dI ab
 refine W.exit ?_
 have az:=M.e_inr hM ai
 subst az;replace hM:=ao;(try dsimp only at hM);refine kg 4 ?_;refine W.ret ?_
 have ac:=M.e_pure hM
 exact ⟨_,resE_tmp rfl,⟨true,ac,rfl,H⟩⟩

end Go.Proofs.YtbldmjejckjflabGreat
end
section
set_option maxRecDepth 100000
set_option maxHeartbeats 16000000
namespace Go.Proofs.YtbldmjejckjflabGreat
open Go Go.Nm
attribute [local irreducible] gd execOp SL SLD SLT WR
def zcM (a b:List Town):Nat->M (Nat ⊕ (Unit ⊕ Unit)):=fun i =>
  bif decide ((i:Int)<(a.length:Int)) then (
  M.grd (decide ((i:Int)<(a.length:Int))) <|
  M.grd (decide ((i:Int)<(b.length:Int))) <|
  bif !(decide ((a.getD i default)=(b.getD i default))) then (
  M.pure (.inr (.inl ())))
  else (
  M.pure (.inl (i+1))))
  else (
  M.pure (.inr (.inr ())))
def zdK (a b:List Town):M Bool :=
  bif (a.length:Int) != (b.length:Int) then (
  M.pure false)
  else (
  M.bind (M.iter (zcM a b) 0) fun x_=>match x_ with
  | (.inl (_:Unit))=>(
  M.pure false)
  | (.inr (_:Unit))=>(
  M.pure true))
theorem zeJ {R:List Chunk} {al:Cells} {ae:Value} {am:Cells} {ag:Value} (a:List Town) (b:List Town) (av:Reads R al) (ah:Sl al ae a) (aw:Reads R am) (ao:Sl am ag b) {r:Bool} (hM:(zdK a b).Ends r) (w:World) (H:St w w [] R):Ret Tryz.prog 67 #[ae,ag] w fun v w'=>∃ (y0:Bool),y0=r/\v=B y0/\St w w' [] R:=by
 refine ret_of_W Tryz.func67 rfl rfl rfl ?_
 have aC:=(ah).len_le
 have aD:=(ao).len_le
 refine kg 13 ?_
 refine W.cond ((a.length:Int) != (b.length:Int)) rfl (fun aa=>?_) (fun aa=>?_)
 ·replace hM:=M.e_t hM aa
  replace aa:=dI aa
  refine kg 4 ?_;refine W.ret ?_
  have ac:=M.e_pure hM
  exact ⟨_,resE_tmp rfl,⟨false,ac,rfl,H⟩⟩
 replace hM:=M.e_f hM aa
 replace aa:=dI aa
 refine kg 7 ?_;obtain ⟨ax,ai,ap⟩:=M.e_bind hM
 obtain ⟨aE,ai⟩:=M.e_iter ai
 refine W.loop (fun m σ W=>∃ (i:Nat) (ρ:Env),σ=upds ρ [(0,ae),(1,ag),(5,I (i:Int))]/\M.iterN (zcM a b) m i=some ax/\St w W [] R) ?_ ?_
 ·exact ⟨_,0,_,upds_of _ _ ⟨rfl,rfl,rfl,trivial⟩,ai,H⟩
 rintro aF σ aG ⟨i,ρ,rfl,aq,H⟩
 obtain ⟨ay,az,aH,hM,aj⟩:=M.e_iterN aq
 simp only [zcM] at hM
 clear aq
 have aI:=(ah).len_le
 refine kg 8 ?_
 refine W.cond (decide ((i:Int)<(a.length:Int))) rfl (fun ab=>?_) (fun ab=>?_)
 ·replace hM:=M.e_t hM ab
  replace ab:=dI ab
  refine kg 4 ?_;refine W.draw (fun W=>St w W [] R) [(0,true),(1,true),(2,true),(3,true),(4,true),(5,true),(6,true),(7,true),(8,true)] mixed (by decide +kernel) rfl ?_;intro aJ au;replace H:=H.ext au;clear au
  refine ⟨(H.pk []),?_⟩
  obtain ⟨aK,hM⟩:=M.e_gd hM;refine kg 3 ?_;refine d_q rfl (fun w' H=>x_ld (v:=.agg #[I ((a.getD i default).station),I ((a.getD i default).lead),I ((a.getD i default).alarm)]) rfl (ld_ag Ag36 Sz36 (At.mono (Town_atA ah (i:=(i:Int)) (by omega) (by omega)) (av.at H)))) ?_;obtain ⟨aL,hM⟩:=M.e_gd hM;refine kg 3 ?_;refine d_q rfl (fun w' H=>x_ld (v:=.agg #[I ((b.getD i default).station),I ((b.getD i default).lead),I ((b.getD i default).alarm)]) rfl (ld_ag Ag36 Sz36 (At.mono (Town_atA ao (i:=(i:Int)) (by omega) (by omega)) (aw.at H))))<|d_q rfl (fun w' H=>x_neS (eqT36 (a.getD i default) (b.getD i default) _) gdT36 rfl rfl) ?_;refine d_nil ?_
  refine W.cond (!(decide ((a.getD i default)=(b.getD i default)))) rfl (fun ak=>?_) (fun ak=>?_)
  ·replace hM:=M.e_t hM ak;refine kg 4 ?_;refine W.ret ?_
   have aA:=M.e_inr hM aj
   subst aA;replace hM:=ap;(try dsimp only at hM)
   have ac:=M.e_pure hM
   exact ⟨_,resE_tmp rfl,⟨false,ac,rfl,H⟩⟩
  replace hM:=M.e_f hM ak;refine kg 6 ?_
  exact ⟨ay,az,i+1,_,upds_of _ _ ⟨rfl,rfl,rfl,trivial⟩,M.e_inl hM aj,H⟩
 replace hM:=M.e_f hM ab
 replace ab:=dI ab
 refine W.exit ?_
 have aB:=M.e_inr hM aj
 subst aB;replace hM:=ap;(try dsimp only at hM);refine kg 4 ?_;refine W.ret ?_
 have ac:=M.e_pure hM
 exact ⟨_,resE_tmp rfl,⟨true,ac,rfl,H⟩⟩

def zcF (aa ab:List Flood):Nat->M (Nat ⊕ (Unit ⊕ Unit)):=fun i =>
  bif decide ((i:Int)<(aa.length:Int)) then (
  M.grd (decide ((i:Int)<(aa.length:Int))) <|
  M.grd (decide ((i:Int)<(ab.length:Int))) <|
  M.bind (M.opt (!(((aa.getD i default).spring) != ((ab.getD i default).spring))) (zad ((aa.getD i default).stages) ((ab.getD i default).stages)) false) fun r6 =>
  bif ((((aa.getD i default).spring) != ((ab.getD i default).spring))||(!r6)) then (
  M.pure (.inr (.inl ())))
  else (
  M.pure (.inl (i+1))))
  else (
  M.pure (.inr (.inr ())))
def zba (ac:List Int) (ae:List Span) (ag:List Int) (ah:List Town) (ai aj:Int) (aa:List Flood) (ak:List Int) (al:List Span) (am:List Int) (ao:List Town) (ap aq:Int) (ab:List Flood):M Bool :=
  M.bind (zad ac ak) fun r2 =>
  M.bind (M.opt (!(!r2)) (zdU ae al) false) fun r3 =>
  M.bind (M.opt (!((!r2)||(!r3))) (zad ag am) false) fun r4 =>
  M.bind (M.opt (!(((!r2)||(!r3))||(!r4))) (zdK ah ao) false) fun r5 =>
  bif ((((((!r2)||(!r3))||(!r4))||(!r5))||(!(decide ((⟨(ai:Int),(aj:Int)⟩:Span)=(⟨(ap:Int),(aq:Int)⟩:Span)))))||((aa.length:Int) != (ab.length:Int))) then (
  M.pure false)
  else (
  M.bind (M.iter (zcF aa ab) 0) fun x_=>match x_ with
  | (.inl (_:Unit))=>(
  M.pure false)
  | (.inr (_:Unit))=>(
  M.pure true))
theorem zcP {R:List Chunk} {aW:Cells} {aA:Value} {aX:Cells} {aw:Value} {aY:Cells} {am:Value} {aZ:Cells} {ao:Value} {a6:Cells} {ap:Value} {a7:Cells} {aB:Value} {a8:Cells} {ax:Value} {ba:Cells} {aq:Value} {bb:Cells} {au:Value} {bc:Cells} {av:Value} (aG:List Int) (aH:List Span) (aI:List Int) (aJ:List Town) (aa:Int) (ab:Int) (ac:List Flood) (aK:List Int) (aL:List Span) (aM:List Int) (aN:List Town) (ae:Int) (ag:Int) (ah:List Flood) (bi:Reads R aW) (bj:Sl aW aA aG) (bm:Reads R aX) (bn:Sl aX aw aH) (bo:Reads R aY) (bp:Sl aY am aI) (br:Reads R aZ) (bt:Sl aZ ao aJ) (aO:Reads R a6) (aC:Sl a6 ap ac) (bu:Reads R a7) (bv:Sl a7 aB aK) (bw:Reads R a8) (bx:Sl a8 ax aL) (bz:Reads R ba) (bA:Sl ba aq aM) (bB:Reads R bb) (bC:Sl bb au aN) (aP:Reads R bc) (aD:Sl bc av ah) {r:Bool} (hM:(zba aG aH aI aJ aa ab ac aK aL aM aN ae ag ah).Ends r) (w:World) (H:St w w [] R):Ret Tryz.prog 22 #[.agg #[aA,aw,am,ao,I aa,I ab,ap],.agg #[aB,ax,aq,au,I ae,I ag,av]] w fun v w'=>∃ (y0:Bool),y0=r/\v=B y0/\St w w' [] R:=by
 refine ret_of_W Tryz.func22 rfl rfl rfl ?_;refine kg 2 ?_;refine t_bx [aA,aw,am,ao,I aa,I ab,ap] H rfl ?_;intro aj bP H;refine t_bx [aB,ax,aq,au,I ae,I ag,av] H rfl ?_;intro ak bQ H;refine kg 9 ?_;obtain ⟨bR,bD,hM⟩:=M.e_bind hM;refine s_call cf17 [aA,aB] rfl (zaf aG aK (bi.app _) bj (bu.app _) bv bD _ (H.gt 2)) ?_
 rintro vq bS ⟨r2,rfl,hvq,bf⟩
 subst vq;(try dsimp only at hM);replace H:=H.bk bf;clear bf;refine kg 6 ?_;obtain ⟨r3,bE,hM⟩:=M.e_bind hM;refine t_gcall (!(!r2)) (gy_f rfl) cf66 (B r3) (fun _=>[aw,ax]) (fun hg=>lst2 (gd_of hg (aw)) (gd_of hg (ax))) H (fun hg=>(ze6 aH aL (bm.app _) bn (bw.app _) bx (M.e_opt bE hg) _ (H.give (A:=[]) rfl)).mono fun v_ w_ ⟨y_,ai,ay,H_⟩=>by subst ai; exact ⟨ay,H.via H_⟩) ?_;intro bT H;refine kg 1 ?_;refine s_val (x_por (b:=!r2) (r:=!r3) rfl rfl (fun hb=>gd_of (c:=!(!r2)) (by first | exact hb | (rw [hb]; rfl) | simp_all) (B (!r3))))<|zM (B ((!r2)||(!r3))) rfl<|g_val (!((!r2)||(!r3))) (gy_f rfl) (fun hg=>x_fa (v:=Oq aj 2) rfl (fa_blk (o:=0) Fd29_2 Sz22))<|g_val (!((!r2)||(!r3))) (gy_f rfl) (fun hg=>x_ld (v:=am) (gd_of hg (Oq aj 2)) (ldb_sc Sc22 (H.bl 1) rfl))<|g_val (!((!r2)||(!r3))) (gy_f rfl) (fun hg=>x_fa (v:=Oq ak 2) rfl (fa_blk (o:=0) Fd29_2 Sz22))<|g_val (!((!r2)||(!r3))) (gy_f rfl) (fun hg=>x_ld (v:=aq) (gd_of hg (Oq ak 2)) (ldb_sc Sc22 (H.bl 0) rfl)) ?_;obtain ⟨r4,bF,hM⟩:=M.e_bind hM;refine t_gcall (!((!r2)||(!r3))) (gy_f rfl) cf17 (B r4) (fun _=>[am,aq]) (fun hg=>lst2 (gd_of hg (am)) (gd_of hg (aq))) H (fun hg=>(zaf aI aM (bo.app _) bp (bz.app _) bA (M.e_opt bF hg) _ (H.give (A:=[]) rfl)).mono fun v_ w_ ⟨y_,ai,ay,H_⟩=>by subst ai; exact ⟨ay,H.via H_⟩) ?_;intro bU H;refine g_val (!((!r2)||(!r3))) (gy_f rfl) (fun hg=>x_not (b:=r4) (gd_of hg (B r4)))<|s_val (x_por (b:=((!r2)||(!r3))) (r:=!r4) rfl rfl (fun hb=>gd_of (c:=!((!r2)||(!r3))) (by first | exact hb | (rw [hb]; rfl) | simp_all) (B (!r4))))<|zM (B (((!r2)||(!r3))||(!r4))) rfl<|g_val (!(((!r2)||(!r3))||(!r4))) (gy_f rfl) (fun hg=>x_fa (v:=Oq aj 3) rfl (fa_blk (o:=0) Fd29_3 Sz24))<|g_val (!(((!r2)||(!r3))||(!r4))) (gy_f rfl) (fun hg=>x_ld (v:=ao) (gd_of hg (Oq aj 3)) (ldb_sc Sc24 (H.bl 1) rfl))<|g_val (!(((!r2)||(!r3))||(!r4))) (gy_f rfl) (fun hg=>x_fa (v:=Oq ak 3) rfl (fa_blk (o:=0) Fd29_3 Sz24))<|g_val (!(((!r2)||(!r3))||(!r4))) (gy_f rfl) (fun hg=>x_ld (v:=au) (gd_of hg (Oq ak 3)) (ldb_sc Sc24 (H.bl 0) rfl)) ?_;obtain ⟨r5,bG,hM⟩:=M.e_bind hM;refine t_gcall (!(((!r2)||(!r3))||(!r4))) (gy_f rfl) cf67 (B r5) (fun _=>[ao,au]) (fun hg=>lst2 (gd_of hg (ao)) (gd_of hg (au))) H (fun hg=>(zeJ aJ aN (br.app _) bt (bB.app _) bC (M.e_opt bG hg) _ (H.give (A:=[]) rfl)).mono fun v_ w_ ⟨y_,ai,ay,H_⟩=>by subst ai; exact ⟨ay,H.via H_⟩) ?_;intro bV H;refine g_val (!(((!r2)||(!r3))||(!r4))) (gy_f rfl) (fun hg=>x_not (b:=r5) (gd_of hg (B r5)))<|s_val (x_por (b:=(((!r2)||(!r3))||(!r4))) (r:=!r5) rfl rfl (fun hb=>gd_of (c:=!(((!r2)||(!r3))||(!r4))) (by first | exact hb | (rw [hb]; rfl) | simp_all) (B (!r5))))<|zM (B ((((!r2)||(!r3))||(!r4))||(!r5))) rfl<|g_val (!((((!r2)||(!r3))||(!r4))||(!r5))) (gy_f rfl) (fun hg=>x_fa (v:=Oq aj 4) rfl (fa_blk (o:=0) Fd29_4 Sz26))<|g_val (!((((!r2)||(!r3))||(!r4))||(!r5))) (gy_f rfl) (fun hg=>x_ld (v:=.agg #[I aa,I ab]) (gd_of hg (Oq aj 4)) (ldb_ag (ds:=[I aa,I ab]) Ag26 Sz26 (H.bl 1) rfl rfl))<|g_val (!((((!r2)||(!r3))||(!r4))||(!r5))) (gy_f rfl) (fun hg=>x_fa (v:=Oq ak 4) rfl (fa_blk (o:=0) Fd29_4 Sz26))<|g_val (!((((!r2)||(!r3))||(!r4))||(!r5))) (gy_f rfl) (fun hg=>x_ld (v:=.agg #[I ae,I ag]) (gd_of hg (Oq ak 4)) (ldb_ag (ds:=[I ae,I ag]) Ag26 Sz26 (H.bl 0) rfl rfl))<|g_val (!((((!r2)||(!r3))||(!r4))||(!r5))) (gy_f rfl) (fun hg=>x_neS (eqT26 (⟨(aa:Int),(ab:Int)⟩:Span) (⟨(ae:Int),(ag:Int)⟩:Span) _) gdT26 (gd_of hg (.agg #[I aa,I ab])) (gd_of hg (.agg #[I ae,I ag])))<|s_val (x_por (b:=((((!r2)||(!r3))||(!r4))||(!r5))) (r:=!(decide ((⟨(aa:Int),(ab:Int)⟩:Span)=(⟨(ae:Int),(ag:Int)⟩:Span)))) rfl rfl (fun hb=>gd_of (c:=!((((!r2)||(!r3))||(!r4))||(!r5))) (by first | exact hb | (rw [hb]; rfl) | simp_all) (B (!(decide ((⟨(aa:Int),(ab:Int)⟩:Span)=(⟨(ae:Int),(ag:Int)⟩:Span)))))))<|zM (B (((((!r2)||(!r3))||(!r4))||(!r5))||(!(decide ((⟨(aa:Int),(ab:Int)⟩:Span)=(⟨(ae:Int),(ag:Int)⟩:Span)))))) rfl ?_;refine g_val (!(((((!r2)||(!r3))||(!r4))||(!r5))||(!(decide ((⟨(aa:Int),(ab:Int)⟩:Span)=(⟨(ae:Int),(ag:Int)⟩:Span)))))) (gy_f rfl) (fun hg=>x_fa (v:=Oq aj 6) rfl (fa_blk (o:=0) Fd29_5 Sz27))<|g_val (!(((((!r2)||(!r3))||(!r4))||(!r5))||(!(decide ((⟨(aa:Int),(ab:Int)⟩:Span)=(⟨(ae:Int),(ag:Int)⟩:Span)))))) (gy_f rfl) (fun hg=>x_ld (v:=ap) (gd_of hg (Oq aj 6)) (ldb_sc Sc27 (H.bl 1) rfl)) ?_
 have bW:=(aC).len_le
 refine g_val (!(((((!r2)||(!r3))||(!r4))||(!r5))||(!(decide ((⟨(aa:Int),(ab:Int)⟩:Span)=(⟨(ae:Int),(ag:Int)⟩:Span)))))) (gy_f rfl) (fun hg=>x_lenS T27.und (gd_of hg (ap)) aC)<|g_val (!(((((!r2)||(!r3))||(!r4))||(!r5))||(!(decide ((⟨(aa:Int),(ab:Int)⟩:Span)=(⟨(ae:Int),(ag:Int)⟩:Span)))))) (gy_f rfl) (fun hg=>x_fa (v:=Oq ak 6) rfl (fa_blk (o:=0) Fd29_5 Sz27))<|g_val (!(((((!r2)||(!r3))||(!r4))||(!r5))||(!(decide ((⟨(aa:Int),(ab:Int)⟩:Span)=(⟨(ae:Int),(ag:Int)⟩:Span)))))) (gy_f rfl) (fun hg=>x_ld (v:=av) (gd_of hg (Oq ak 6)) (ldb_sc Sc27 (H.bl 0) rfl)) ?_
 have bX:=(aD).len_le
 refine g_val (!(((((!r2)||(!r3))||(!r4))||(!r5))||(!(decide ((⟨(aa:Int),(ab:Int)⟩:Span)=(⟨(ae:Int),(ag:Int)⟩:Span)))))) (gy_f rfl) (fun hg=>x_lenS T27.und (gd_of hg (av)) aD)<|g_val (!(((((!r2)||(!r3))||(!r4))||(!r5))||(!(decide ((⟨(aa:Int),(ab:Int)⟩:Span)=(⟨(ae:Int),(ag:Int)⟩:Span)))))) (gy_f rfl) (fun hg=>x_cmp (kd:=.i64) (r:=(ac.length:Int) != (ah.length:Int)) (gd_of hg (I (ac.length:Int))) (gd_of hg (I (ah.length:Int))) rfl)<|s_val (x_por (b:=(((((!r2)||(!r3))||(!r4))||(!r5))||(!(decide ((⟨(aa:Int),(ab:Int)⟩:Span)=(⟨(ae:Int),(ag:Int)⟩:Span)))))) (r:=(ac.length:Int) != (ah.length:Int)) rfl rfl (fun hb=>gd_of (c:=!(((((!r2)||(!r3))||(!r4))||(!r5))||(!(decide ((⟨(aa:Int),(ab:Int)⟩:Span)=(⟨(ae:Int),(ag:Int)⟩:Span)))))) (by first | exact hb | (rw [hb]; rfl) | simp_all) (B ((ac.length:Int) != (ah.length:Int)))))<|s_nil ?_
 refine W.cond ((((((!r2)||(!r3))||(!r4))||(!r5))||(!(decide ((⟨(aa:Int),(ab:Int)⟩:Span)=(⟨(ae:Int),(ag:Int)⟩:Span)))))||((ac.length:Int) != (ah.length:Int))) rfl (fun aQ=>?_) (fun aQ=>?_)
 ·replace hM:=M.e_t hM aQ;refine kg 4 ?_;replace H:=H.pk [];refine W.ret ?_
  have ai:=M.e_pure hM
  exact ⟨_,resE_tmp rfl,⟨false,ai,rfl,H⟩⟩
 replace hM:=M.e_f hM aQ;refine kg 7 ?_;obtain ⟨bH,aR,bg⟩:=M.e_bind hM
 obtain ⟨bY,aR⟩:=M.e_iter aR
 refine W.loop (fun m σ W=>∃ (i:Nat) (ρ:Env),σ=upds ρ [(2,Pq aj),(3,Pq ak),(5,I (i:Int))]/\M.iterN (zcF ac ah) m i=some bH/\St w W [cBlk ak [aB,ax,aq,au,I ae,I ag,av] 29,cBlk aj [aA,aw,am,ao,I aa,I ab,ap] 29] R) ?_ ?_
 ·exact ⟨_,0,_,upds_of _ _ ⟨rfl,rfl,rfl,trivial⟩,aR,H⟩
 rintro bZ σ b0 ⟨i,ρ,rfl,bh,H⟩
 obtain ⟨bI,bJ,b1,hM,aS⟩:=M.e_iterN bh
 simp only [zcF] at hM
 clear bh
 have b2:=(aC).len_le
 refine kg 9 ?_
 refine W.cond (decide ((i:Int)<(ac.length:Int))) rfl (fun az=>?_) (fun az=>?_)
 ·replace hM:=M.e_t hM az
  replace az:=dI az
  refine kg 4 ?_;refine W.draw (fun W=>St w W [cBlk ak [aB,ax,aq,au,I ae,I ag,av] 29,cBlk aj [aA,aw,am,ao,I aa,I ab,ap] 29] R) [(0,true),(1,true),(2,true),(3,true),(4,true),(5,true),(6,true),(7,true),(8,true),(9,true),(10,true),(11,true),(12,true),(13,true),(14,true),(15,true),(16,true),(17,true),(18,true),(19,true),(20,true),(21,true),(22,true),(23,true),(24,true),(25,true),(26,false),(27,true),(28,true)] mixed (by decide +kernel) rfl ?_;intro b3 al;replace H:=H.ext al;clear al
  refine ⟨(H.pk [0,1]),?_⟩
  obtain ⟨b4,hM⟩:=M.e_gd hM;refine kg 5 ?_;refine d_q rfl (fun w' H=>x_ld (v:=I ((ac.getD i default).spring)) rfl (ld_sc Sc3 (At.mono (Flood_at0 aC (i:=(i:Int)) (by omega) (by omega)) (aO.at H)))) ?_;obtain ⟨b5,hM⟩:=M.e_gd hM;refine kg 5 ?_;refine d_q rfl (fun w' H=>x_ld (v:=I ((ah.getD i default).spring)) rfl (ld_sc Sc3 (At.mono (Flood_at0 aD (i:=(i:Int)) (by omega) (by omega)) (aP.at H)))) ?_;refine kg 7 ?_
  obtain ⟨aE,bK,aT⟩:=gd_ex (c:=!(((ac.getD i default).spring) != ((ah.getD i default).spring))) fun hg=>Flood_at1 aC (i:=(i:Int)) (by first | omega | (have al:=hg; simp at al; omega)) (by first | omega | (have al:=hg; simp at al; omega))
  replace aT:(!(((ac.getD i default).spring) != ((ah.getD i default).spring)))=true->Sl _ aE (ac.getD i default).stages:=aT
  refine d_qg (!(((ac.getD i default).spring) != ((ah.getD i default).spring))) rfl (gy_f rfl) (fun hg=>(fun w' H=>x_ld (v:=aE) (gd_of hg (fat (vat ap 2 (Int.toNat (i:Int))) 1)) (ld_sc Sc22 (At.mono (bK hg) (aO.at H))))) ?_;refine kg 5 ?_
  obtain ⟨aF,bL,aU⟩:=gd_ex (c:=!(((ac.getD i default).spring) != ((ah.getD i default).spring))) fun hg=>Flood_at1 aD (i:=(i:Int)) (by first | omega | (have al:=hg; simp at al; omega)) (by first | omega | (have al:=hg; simp at al; omega))
  replace aU:(!(((ac.getD i default).spring) != ((ah.getD i default).spring)))=true->Sl _ aF (ah.getD i default).stages:=aU
  refine d_qg (!(((ac.getD i default).spring) != ((ah.getD i default).spring))) rfl (gy_f rfl) (fun hg=>(fun w' H=>x_ld (v:=aF) (gd_of hg (fat (vat av 2 (Int.toNat (i:Int))) 1)) (ld_sc Sc22 (At.mono (bL hg) (aP.at H)))))<|d_l rfl ?_;obtain ⟨r6,bM,hM⟩:=M.e_bind hM;refine t_gcall (!(((ac.getD i default).spring) != ((ah.getD i default).spring))) (gy_f rfl) cf17 (B r6) (fun _=>[aE,aF]) (fun hg=>lst2 (gd_of hg (aE)) (gd_of hg (aF))) H (fun hg=>(zaf ((ac.getD i default).stages) ((ah.getD i default).stages) (aO.app _) (aT hg) (aP.app _) (aU hg) (M.e_opt bM hg) _ (H.give (A:=[]) rfl)).mono fun v_ w_ ⟨y_,ai,ay,H_⟩=>by subst ai; exact ⟨ay,H.via H_⟩) ?_;intro b6 H
  refine s_nil ⟨(H.pk [0,1]),?_⟩
  refine kg 1 ?_;refine d_q rfl (fun w' H=>x_por (b:=((ac.getD i default).spring) != ((ah.getD i default).spring)) (r:=!r6) rfl rfl (fun hb=>gd_of (c:=!(((ac.getD i default).spring) != ((ah.getD i default).spring))) (by first | exact hb | (rw [hb]; rfl) | simp_all) (B (!r6)))) ?_;refine d_nil ?_
  refine W.cond ((((ac.getD i default).spring) != ((ah.getD i default).spring))||(!r6)) rfl (fun aV=>?_) (fun aV=>?_)
  ·replace hM:=M.e_t hM aV;refine kg 4 ?_;refine W.ret ?_
   have bN:=M.e_inr hM aS
   subst bN;replace hM:=bg;(try dsimp only at hM)
   have ai:=M.e_pure hM
   exact ⟨_,resE_tmp rfl,⟨false,ai,rfl,(H.pk [])⟩⟩
  replace hM:=M.e_f hM aV;refine kg 6 ?_
  exact ⟨bI,bJ,i+1,_,upds_of _ _ ⟨rfl,rfl,rfl,trivial⟩,M.e_inl hM aS,H⟩
 replace hM:=M.e_f hM az
 replace az:=dI az
 refine W.exit ?_
 have bO:=M.e_inr hM aS
 subst bO;replace hM:=bg;(try dsimp only at hM);replace H:=H.pk [];refine kg 4 ?_;refine W.ret ?_
 have ai:=M.e_pure hM
 exact ⟨_,resE_tmp rfl,⟨true,ai,rfl,H⟩⟩

def zb2 (aa:List Flood):Nat->M (Nat ⊕ (Unit ⊕ Unit)):=fun i =>
  bif decide ((i:Int)<(aa.length:Int)) then (
  M.grd (decide ((i:Int)<(aa.length:Int))) <|
  bif decide (15<(((aa.getD i default).stages).length:Int)) then (
  M.pure (.inr (.inl ())))
  else (
  M.pure (.inl (i+1))))
  else (
  M.pure (.inr (.inr ())))
def zbu (aa:List Int) (ac:List Span) (ae:List Int) (ag:List Town) (ah ai:Int) (ab:List Flood):M Bool :=
  bif (((((((decide (9<(aa.length:Int)))&&(decide ((aa.length:Int)<13)))||(decide (15<(aa.length:Int))))||(decide (15<(ac.length:Int))))||(decide (10<(ae.length:Int))))||(decide (10<(ag.length:Int))))||(decide (22<(ab.length:Int)))) then (
  M.pure true)
  else (
  M.bind (M.iter (zb2 ab) 0) fun x_=>match x_ with
  | (.inl (_:Unit))=>(
  M.pure true)
  | (.inr (_:Unit))=>(
  M.pure false))
theorem zdl {R:List Chunk} {aC:Cells} {aq:Value} {aD:Cells} {ak:Value} {aE:Cells} {al:Value} {aF:Cells} {am:Value} {aG:Cells} {ao:Value} (aa:List Int) (ab:List Span) (ac:List Int) (ae:List Town) (au:Int) (av:Int) (ag:List Flood) (aU:Reads R aC) (ay:Sl aC aq aa) (aV:Reads R aD) (aH:Sl aD ak ab) (aW:Reads R aE) (aI:Sl aE al ac) (aX:Reads R aF) (aJ:Sl aF am ae) (aN:Reads R aG) (aw:Sl aG ao ag) {r:Bool} (hM:(zbu aa ab ac ae au av ag).Ends r) (w:World) (H:St w w [] R):Ret Tryz.prog 11 #[.agg #[aq,ak,al,am,I au,I av,ao]] w fun v w'=>∃ (y0:Bool),y0=r/\v=B y0/\St w w' [] R:=by
 refine ret_of_W Tryz.func11 rfl rfl rfl ?_;refine kg 2 ?_;refine t_bx [aq,ak,al,am,I au,I av,ao] H rfl ?_;intro ah aY H
 have aZ:=(ay).len_le
 have a6:=(ay).len_le
 refine kg 14 ?_;refine s_val (x_pand (b:=decide (9<(aa.length:Int))) (r:=decide ((aa.length:Int)<13)) rfl (fun hb=>gd_of (c:=decide (9<(aa.length:Int))) (by first | exact hb | (rw [hb]; rfl) | simp_all) (B (decide ((aa.length:Int)<13)))) rfl) ?_
 have a7:=(ay).len_le
 refine kg 5 ?_;refine s_val (x_por (b:=((decide (9<(aa.length:Int)))&&(decide ((aa.length:Int)<13)))) (r:=decide (15<(aa.length:Int))) rfl rfl (fun hb=>gd_of (c:=!((decide (9<(aa.length:Int)))&&(decide ((aa.length:Int)<13)))) (by first | exact hb | (rw [hb]; rfl) | simp_all) (B (decide (15<(aa.length:Int))))))<|zM (B (((decide (9<(aa.length:Int)))&&(decide ((aa.length:Int)<13)))||(decide (15<(aa.length:Int))))) rfl<|g_val (!(((decide (9<(aa.length:Int)))&&(decide ((aa.length:Int)<13)))||(decide (15<(aa.length:Int))))) (gy_f rfl) (fun hg=>x_fa (v:=Oq ah 1) rfl (fa_blk (o:=0) Fd29_1 Sz23))<|g_val (!(((decide (9<(aa.length:Int)))&&(decide ((aa.length:Int)<13)))||(decide (15<(aa.length:Int))))) (gy_f rfl) (fun hg=>x_ld (v:=ak) (gd_of hg (Oq ah 1)) (ldb_sc Sc23 (H.bl 0) rfl)) ?_
 have a8:=(aH).len_le
 refine g_val (!(((decide (9<(aa.length:Int)))&&(decide ((aa.length:Int)<13)))||(decide (15<(aa.length:Int))))) (gy_f rfl) (fun hg=>x_lenS T23.und (gd_of hg (ak)) aH)<|g_val (!(((decide (9<(aa.length:Int)))&&(decide ((aa.length:Int)<13)))||(decide (15<(aa.length:Int))))) (gy_f rfl) (fun hg=>x_cmp (kd:=.i64) (r:=decide (15<(ab.length:Int))) (gd_of hg (I (ab.length:Int))) rfl rfl)<|s_val (x_por (b:=(((decide (9<(aa.length:Int)))&&(decide ((aa.length:Int)<13)))||(decide (15<(aa.length:Int))))) (r:=decide (15<(ab.length:Int))) rfl rfl (fun hb=>gd_of (c:=!(((decide (9<(aa.length:Int)))&&(decide ((aa.length:Int)<13)))||(decide (15<(aa.length:Int))))) (by first | exact hb | (rw [hb]; rfl) | simp_all) (B (decide (15<(ab.length:Int))))))<|zM (B ((((decide (9<(aa.length:Int)))&&(decide ((aa.length:Int)<13)))||(decide (15<(aa.length:Int))))||(decide (15<(ab.length:Int))))) rfl<|g_val (!((((decide (9<(aa.length:Int)))&&(decide ((aa.length:Int)<13)))||(decide (15<(aa.length:Int))))||(decide (15<(ab.length:Int))))) (gy_f rfl) (fun hg=>x_fa (v:=Oq ah 2) rfl (fa_blk (o:=0) Fd29_2 Sz22))<|g_val (!((((decide (9<(aa.length:Int)))&&(decide ((aa.length:Int)<13)))||(decide (15<(aa.length:Int))))||(decide (15<(ab.length:Int))))) (gy_f rfl) (fun hg=>x_ld (v:=al) (gd_of hg (Oq ah 2)) (ldb_sc Sc22 (H.bl 0) rfl)) ?_
 have ba:=(aI).len_le
 refine g_val (!((((decide (9<(aa.length:Int)))&&(decide ((aa.length:Int)<13)))||(decide (15<(aa.length:Int))))||(decide (15<(ab.length:Int))))) (gy_f rfl) (fun hg=>x_lenS T22.und (gd_of hg (al)) aI)<|g_val (!((((decide (9<(aa.length:Int)))&&(decide ((aa.length:Int)<13)))||(decide (15<(aa.length:Int))))||(decide (15<(ab.length:Int))))) (gy_f rfl) (fun hg=>x_cmp (kd:=.i64) (r:=decide (10<(ac.length:Int))) (gd_of hg (I (ac.length:Int))) rfl rfl)<|s_val (x_por (b:=((((decide (9<(aa.length:Int)))&&(decide ((aa.length:Int)<13)))||(decide (15<(aa.length:Int))))||(decide (15<(ab.length:Int))))) (r:=decide (10<(ac.length:Int))) rfl rfl (fun hb=>gd_of (c:=!((((decide (9<(aa.length:Int)))&&(decide ((aa.length:Int)<13)))||(decide (15<(aa.length:Int))))||(decide (15<(ab.length:Int))))) (by first | exact hb | (rw [hb]; rfl) | simp_all) (B (decide (10<(ac.length:Int))))))<|zM (B (((((decide (9<(aa.length:Int)))&&(decide ((aa.length:Int)<13)))||(decide (15<(aa.length:Int))))||(decide (15<(ab.length:Int))))||(decide (10<(ac.length:Int))))) rfl<|g_val (!(((((decide (9<(aa.length:Int)))&&(decide ((aa.length:Int)<13)))||(decide (15<(aa.length:Int))))||(decide (15<(ab.length:Int))))||(decide (10<(ac.length:Int))))) (gy_f rfl) (fun hg=>x_fa (v:=Oq ah 3) rfl (fa_blk (o:=0) Fd29_3 Sz24))<|g_val (!(((((decide (9<(aa.length:Int)))&&(decide ((aa.length:Int)<13)))||(decide (15<(aa.length:Int))))||(decide (15<(ab.length:Int))))||(decide (10<(ac.length:Int))))) (gy_f rfl) (fun hg=>x_ld (v:=am) (gd_of hg (Oq ah 3)) (ldb_sc Sc24 (H.bl 0) rfl)) ?_
 have bb:=(aJ).len_le
 refine g_val (!(((((decide (9<(aa.length:Int)))&&(decide ((aa.length:Int)<13)))||(decide (15<(aa.length:Int))))||(decide (15<(ab.length:Int))))||(decide (10<(ac.length:Int))))) (gy_f rfl) (fun hg=>x_lenS T24.und (gd_of hg (am)) aJ)<|g_val (!(((((decide (9<(aa.length:Int)))&&(decide ((aa.length:Int)<13)))||(decide (15<(aa.length:Int))))||(decide (15<(ab.length:Int))))||(decide (10<(ac.length:Int))))) (gy_f rfl) (fun hg=>x_cmp (kd:=.i64) (r:=decide (10<(ae.length:Int))) (gd_of hg (I (ae.length:Int))) rfl rfl)<|s_val (x_por (b:=(((((decide (9<(aa.length:Int)))&&(decide ((aa.length:Int)<13)))||(decide (15<(aa.length:Int))))||(decide (15<(ab.length:Int))))||(decide (10<(ac.length:Int))))) (r:=decide (10<(ae.length:Int))) rfl rfl (fun hb=>gd_of (c:=!(((((decide (9<(aa.length:Int)))&&(decide ((aa.length:Int)<13)))||(decide (15<(aa.length:Int))))||(decide (15<(ab.length:Int))))||(decide (10<(ac.length:Int))))) (by first | exact hb | (rw [hb]; rfl) | simp_all) (B (decide (10<(ae.length:Int))))))<|zM (B ((((((decide (9<(aa.length:Int)))&&(decide ((aa.length:Int)<13)))||(decide (15<(aa.length:Int))))||(decide (15<(ab.length:Int))))||(decide (10<(ac.length:Int))))||(decide (10<(ae.length:Int))))) rfl<|g_val (!((((((decide (9<(aa.length:Int)))&&(decide ((aa.length:Int)<13)))||(decide (15<(aa.length:Int))))||(decide (15<(ab.length:Int))))||(decide (10<(ac.length:Int))))||(decide (10<(ae.length:Int))))) (gy_f rfl) (fun hg=>x_fa (v:=Oq ah 6) rfl (fa_blk (o:=0) Fd29_5 Sz27))<|g_val (!((((((decide (9<(aa.length:Int)))&&(decide ((aa.length:Int)<13)))||(decide (15<(aa.length:Int))))||(decide (15<(ab.length:Int))))||(decide (10<(ac.length:Int))))||(decide (10<(ae.length:Int))))) (gy_f rfl) (fun hg=>x_ld (v:=ao) (gd_of hg (Oq ah 6)) (ldb_sc Sc27 (H.bl 0) rfl)) ?_
 have bc:=(aw).len_le
 refine g_val (!((((((decide (9<(aa.length:Int)))&&(decide ((aa.length:Int)<13)))||(decide (15<(aa.length:Int))))||(decide (15<(ab.length:Int))))||(decide (10<(ac.length:Int))))||(decide (10<(ae.length:Int))))) (gy_f rfl) (fun hg=>x_lenS T27.und (gd_of hg (ao)) aw)<|g_val (!((((((decide (9<(aa.length:Int)))&&(decide ((aa.length:Int)<13)))||(decide (15<(aa.length:Int))))||(decide (15<(ab.length:Int))))||(decide (10<(ac.length:Int))))||(decide (10<(ae.length:Int))))) (gy_f rfl) (fun hg=>x_cmp (kd:=.i64) (r:=decide (22<(ag.length:Int))) (gd_of hg (I (ag.length:Int))) rfl rfl)<|s_val (x_por (b:=((((((decide (9<(aa.length:Int)))&&(decide ((aa.length:Int)<13)))||(decide (15<(aa.length:Int))))||(decide (15<(ab.length:Int))))||(decide (10<(ac.length:Int))))||(decide (10<(ae.length:Int))))) (r:=decide (22<(ag.length:Int))) rfl rfl (fun hb=>gd_of (c:=!((((((decide (9<(aa.length:Int)))&&(decide ((aa.length:Int)<13)))||(decide (15<(aa.length:Int))))||(decide (15<(ab.length:Int))))||(decide (10<(ac.length:Int))))||(decide (10<(ae.length:Int))))) (by first | exact hb | (rw [hb]; rfl) | simp_all) (B (decide (22<(ag.length:Int))))))<|s_nil ?_
 refine W.cond (((((((decide (9<(aa.length:Int)))&&(decide ((aa.length:Int)<13)))||(decide (15<(aa.length:Int))))||(decide (15<(ab.length:Int))))||(decide (10<(ac.length:Int))))||(decide (10<(ae.length:Int))))||(decide (22<(ag.length:Int)))) rfl (fun az=>?_) (fun az=>?_)
 ·replace hM:=M.e_t hM az;refine kg 4 ?_;refine W.ret ?_
  have ap:=M.e_pure hM
  exact ⟨_,resE_tmp rfl,⟨true,ap,rfl,(H.pk [])⟩⟩
 replace hM:=M.e_f hM az;refine kg 7 ?_;obtain ⟨aO,aA,aK⟩:=M.e_bind hM
 obtain ⟨bf,aA⟩:=M.e_iter aA
 refine W.loop (fun m σ W=>∃ (i:Nat) (ρ:Env),σ=upds ρ [(1,Pq ah),(3,I (i:Int))]/\M.iterN (zb2 ag) m i=some aO/\St w W [cBlk ah [aq,ak,al,am,I au,I av,ao] 29] R) ?_ ?_
 ·exact ⟨_,0,_,upds_of _ _ ⟨rfl,rfl,trivial⟩,aA,H⟩
 rintro bg σ bh ⟨i,ρ,rfl,aL,H⟩
 obtain ⟨aP,aQ,bi,hM,aB⟩:=M.e_iterN aL
 simp only [zb2] at hM
 clear aL
 have bj:=(aw).len_le
 refine kg 9 ?_
 refine W.cond (decide ((i:Int)<(ag.length:Int))) rfl (fun ai=>?_) (fun ai=>?_)
 ·replace hM:=M.e_t hM ai
  replace ai:=dI ai
  obtain ⟨bm,hM⟩:=M.e_gd hM;refine kg 10 ?_
  obtain ⟨aM,aR,ax⟩:=Flood_at1 aw (i:=(i:Int)) (by omega) (by omega)
  replace ax:Sl _ aM (ag.getD i default).stages:=ax
  have bn:=ax.len_le
  refine s_val (x_ld (v:=aM) rfl (ld_sc Sc22 (At.mono (aR) (aN.at H)))) ?_
  have bo:=(ax).len_le
  refine kg 3 ?_
  refine W.cond (decide (15<(((ag.getD i default).stages).length:Int))) rfl (fun aj=>?_) (fun aj=>?_)
  ·replace hM:=M.e_t hM aj
   replace aj:=dI aj
   refine kg 4 ?_;refine W.ret ?_
   have aS:=M.e_inr hM aB
   subst aS;replace hM:=aK;(try dsimp only at hM)
   have ap:=M.e_pure hM
   exact ⟨_,resE_tmp rfl,⟨true,ap,rfl,(H.pk [])⟩⟩
  replace hM:=M.e_f hM aj
  replace aj:=dI aj
  refine kg 6 ?_
  exact ⟨aP,aQ,i+1,_,upds_of _ _ ⟨rfl,rfl,trivial⟩,M.e_inl hM aB,H⟩
 replace hM:=M.e_f hM ai
 replace ai:=dI ai
 refine W.exit ?_
 have aT:=M.e_inr hM aB
 subst aT;replace hM:=aK;(try dsimp only at hM);refine kg 4 ?_;refine W.ret ?_
 have ap:=M.e_pure hM
 exact ⟨_,resE_tmp rfl,⟨false,ap,rfl,(H.pk [])⟩⟩

end Go.Proofs.YtbldmjejckjflabGreat
end
section
set_option maxRecDepth 100000
set_option maxHeartbeats 16000000
namespace Go.Proofs.YtbldmjejckjflabGreat
open Go Go.Nm
attribute [local irreducible] gd execOp SL SLD SLT WR
def zaj (n a b:Int):M Bool :=
  M.pure ((decide (n<a))||(decide (b<n)))
theorem zal {R:List Chunk}  (n:Int) (a:Int) (b:Int)  {r:Bool} (hM:(zaj n a b).Ends r) (w:World) (H:St w w [] R):Ret Tryz.prog 57 #[I n,I a,I b] w fun v w'=>∃ (y0:Bool),y0=r/\v=B y0/\St w w' [] R:=by
 refine ret_of_W Tryz.func57 rfl rfl rfl ?_;refine kg 13 ?_;refine s_val (x_por (b:=decide (n<a)) (r:=decide (b<n)) rfl rfl (fun hb=>gd_of (c:=!(decide (n<a))) (by first | exact hb | (rw [hb]; rfl) | simp_all) (B (decide (b<n)))))<|zA (B ((decide (n<a))||(decide (b<n)))) rfl<|s_nil ?_;refine W.ret ?_
 have aa:=M.e_pure hM
 exact ⟨_,resE_tmp rfl,⟨((decide (n<a))||(decide (b<n))),aa,rfl,H⟩⟩

def zcg (s:Span):M Bool :=
  M.pure (((decide (s.lo<0))||(decide (1000<s.hi)))||(decide (s.hi<s.lo)))
theorem zet {R:List Chunk}  (s:Span)  {r:Bool} (hM:(zcg s).Ends r) (w:World) (H:St w w [] R):Ret Tryz.prog 58 #[.agg #[I s.lo,I s.hi]] w fun v w'=>∃ (y0:Bool),y0=r/\v=B y0/\St w w' [] R:=by
 refine ret_of_W Tryz.func58 rfl rfl rfl ?_;refine kg 2 ?_;refine t_bx [I s.lo,I s.hi] H rfl ?_;intro aa ac H;refine kg 11 ?_;refine s_val (x_por (b:=decide (s.lo<0)) (r:=decide (1000<s.hi)) rfl rfl (fun hb=>gd_of (c:=!(decide (s.lo<0))) (by first | exact hb | (rw [hb]; rfl) | simp_all) (B (decide (1000<s.hi)))))<|zM (B ((decide (s.lo<0))||(decide (1000<s.hi)))) rfl<|g_val (!((decide (s.lo<0))||(decide (1000<s.hi)))) (gy_f rfl) (fun hg=>x_fa (v:=Pq aa) rfl (fa_blk (o:=0) Fd26_0 Sz3))<|g_val (!((decide (s.lo<0))||(decide (1000<s.hi)))) (gy_f rfl) (fun hg=>x_ld (v:=I s.lo) (gd_of hg (Pq aa)) (ldb_sc Sc3 (H.bl 0) rfl))<|g_val (!((decide (s.lo<0))||(decide (1000<s.hi)))) (gy_f rfl) (fun hg=>x_fa (v:=Oq aa 1) rfl (fa_blk (o:=0) Fd26_1 Sz3))<|g_val (!((decide (s.lo<0))||(decide (1000<s.hi)))) (gy_f rfl) (fun hg=>x_ld (v:=I s.hi) (gd_of hg (Oq aa 1)) (ldb_sc Sc3 (H.bl 0) rfl))<|g_val (!((decide (s.lo<0))||(decide (1000<s.hi)))) (gy_f rfl) (fun hg=>x_cmp (kd:=.i64) (r:=decide (s.hi<s.lo)) (gd_of hg (I s.lo)) (gd_of hg (I s.hi)) rfl)<|s_val (x_por (b:=((decide (s.lo<0))||(decide (1000<s.hi)))) (r:=decide (s.hi<s.lo)) rfl rfl (fun hb=>gd_of (c:=!((decide (s.lo<0))||(decide (1000<s.hi)))) (by first | exact hb | (rw [hb]; rfl) | simp_all) (B (decide (s.hi<s.lo)))))<|zA (B (((decide (s.lo<0))||(decide (1000<s.hi)))||(decide (s.hi<s.lo)))) rfl<|s_nil ?_;refine W.ret ?_
 have ab:=M.e_pure hM
 exact ⟨_,resE_tmp rfl,⟨(((decide (s.lo<0))||(decide (1000<s.hi)))||(decide (s.hi<s.lo))),ab,rfl,(H.pk [])⟩⟩

def zbT (l:List Int) (aa:Int):Nat->M (Nat ⊕ (Unit ⊕ Unit)):=fun i =>
  bif decide ((i:Int)<(l.length:Int)) then (
  M.grd (decide ((i:Int)<(l.length:Int))) <|
  M.grd (decide ((-9223372036854775808:Int)<=(aa-1))&&decide ((aa-1)<=(9223372036854775807:Int))) <|
  M.bind (zaj (l.getD i 0) 0 (aa-1)) fun r2 =>
  M.grd ((!((!r2)&&(decide (0<(i:Int))))||(decide ((-9223372036854775808:Int)<=((i:Int)-1))&&decide (((i:Int)-1)<=(9223372036854775807:Int))))) <|
  M.grd ((!((!r2)&&(decide (0<(i:Int))))||(decide ((0:Int)<=((i:Int)-1))&&decide (((i:Int)-1)<(l.length:Int))))) <|
  bif (r2||((decide (0<(i:Int)))&&(decide ((l.getD i 0)<=(l.getD (Int.toNat ((i:Int)-1)) 0))))) then (
  M.pure (.inr (.inl ())))
  else (
  M.pure (.inl (i+1))))
  else (
  M.pure (.inr (.inr ())))
def zbX (l:List Int) (aa:Int):M Bool :=
  M.bind (M.iter (zbT l aa) 0) fun x_=>match x_ with
  | (.inl (_:Unit))=>(
  M.pure true)
  | (.inr (_:Unit))=>(
  M.pure false)
theorem zdR {R:List Chunk} {al:Cells} {ac:Value} (l:List Int) (ab:Int) (aB:Reads R al) (au:Sl al ac l) {r:Bool} (hM:(zbX l ab).Ends r) (w:World) (H:St w w [] R):Ret Tryz.prog 59 #[ac,I ab] w fun v w'=>∃ (y0:Bool),y0=r/\v=B y0/\St w w' [] R:=by
 refine ret_of_W Tryz.func59 rfl rfl rfl ?_;refine kg 10 ?_;obtain ⟨av,ae,am⟩:=M.e_bind hM
 obtain ⟨aC,ae⟩:=M.e_iter ae
 refine W.loop (fun m σ W=>∃ (i:Nat) (ρ:Env),σ=upds ρ [(0,ac),(1,I ab),(5,I (i:Int))]/\M.iterN (zbT l ab) m i=some av/\St w W [] R) ?_ ?_
 ·exact ⟨_,0,_,upds_of _ _ ⟨rfl,rfl,rfl,trivial⟩,ae,H⟩
 rintro aD σ aE ⟨i,ρ,rfl,ao,H⟩
 obtain ⟨aw,ax,aF,hM,ag⟩:=M.e_iterN ao
 simp only [zbT] at hM
 clear ao
 have aG:=(au).len_le
 refine kg 8 ?_
 refine W.cond (decide ((i:Int)<(l.length:Int))) rfl (fun aa=>?_) (fun aa=>?_)
 ·replace hM:=M.e_t hM aa
  replace aa:=dI aa
  refine kg 4 ?_;refine W.draw (fun W=>St w W [] R) [(0,true),(1,true),(2,true),(3,true),(4,true),(5,true),(6,false),(7,true),(8,true),(9,true),(10,true),(11,true),(12,true),(13,true),(14,true),(15,true),(16,true),(17,true),(18,true),(19,true),(20,true),(21,true),(22,true)] mixed (by decide +kernel) rfl ?_;intro aH ap;replace H:=H.ext ap;clear ap
  refine ⟨(H.pk []),?_⟩
  obtain ⟨aI,hM⟩:=M.e_gd hM;obtain ⟨aJ,hM⟩:=M.e_gd hM;refine kg 6 ?_;refine d_l rfl ?_;obtain ⟨aK,ay,hM⟩:=M.e_bind hM;refine s_call cf57 [I (l.getD i 0),I 0,I (ab-1)] rfl (zal (l.getD i 0) 0 (ab-1) ay _ (H.gt 0)) ?_
  rintro vq aL ⟨r2,rfl,hvq,aq⟩
  subst vq;(try dsimp only at hM);replace H:=H.bk aq;clear aq
  refine s_nil ⟨(H.pk []),?_⟩
  obtain ⟨ah,hM⟩:=M.e_grd hM
  replace ah:=M.imp_of ah
  simp only [Bool.and_eq_true,decide_eq_true_eq] at ah
  obtain ⟨ai,hM⟩:=M.e_grd hM
  replace ai:=M.imp_of ai
  simp only [Bool.and_eq_true,decide_eq_true_eq] at ai
  refine kg 14 ?_;refine d_qg (!r2) rfl (gy_f rfl) (fun hg=>(fun w' H=>x_pand (b:=decide (0<(i:Int))) (r:=decide ((l.getD i 0)<=(l.getD (Int.toNat ((i:Int)-1)) 0))) (gd_of hg (B (decide (0<(i:Int))))) (fun hb=>gd_of (c:=((!r2)&&(decide (0<(i:Int))))) (by first | exact hb | (rw [hb]; rfl) | simp_all) (B (decide ((l.getD i 0)<=(l.getD (Int.toNat ((i:Int)-1)) 0))))) rfl))<|d_q rfl (fun w' H=>x_por (b:=r2) (r:=((decide (0<(i:Int)))&&(decide ((l.getD i 0)<=(l.getD (Int.toNat ((i:Int)-1)) 0))))) rfl rfl (fun hb=>gd_of (c:=!r2) (by first | exact hb | (rw [hb]; rfl) | simp_all) (B ((decide (0<(i:Int)))&&(decide ((l.getD i 0)<=(l.getD (Int.toNat ((i:Int)-1)) 0))))))) ?_;refine d_nil ?_
  refine W.cond (r2||((decide (0<(i:Int)))&&(decide ((l.getD i 0)<=(l.getD (Int.toNat ((i:Int)-1)) 0))))) rfl (fun aj=>?_) (fun aj=>?_)
  ·replace hM:=M.e_t hM aj;refine kg 4 ?_;refine W.ret ?_
   have az:=M.e_inr hM ag
   subst az;replace hM:=am;(try dsimp only at hM)
   have ak:=M.e_pure hM
   exact ⟨_,resE_tmp rfl,⟨true,ak,rfl,H⟩⟩
  replace hM:=M.e_f hM aj;refine kg 6 ?_
  exact ⟨aw,ax,i+1,_,upds_of _ _ ⟨rfl,rfl,rfl,trivial⟩,M.e_inl hM ag,H⟩
 replace hM:=M.e_f hM aa
 replace aa:=dI aa
 refine W.exit ?_
 have aA:=M.e_inr hM ag
 subst aA;replace hM:=am;(try dsimp only at hM);refine kg 4 ?_;refine W.ret ?_
 have ak:=M.e_pure hM
 exact ⟨_,resE_tmp rfl,⟨false,ak,rfl,H⟩⟩

def zcC (aa:List Int):(Int × (List Int))->M ((Int × (List Int)) ⊕ ((List Int) × (List Int))):=fun (station2,l) =>
  bif station2 != (-1) then (
  M.grd (decide ((l.length+([(station2:Int)]).length)*8<=140737488355328)) <|
  M.grd (decide ((0:Int)<=station2)&&decide (station2<(aa.length:Int))) <|
  M.pure (.inl (aa.getD (Int.toNat station2) 0,l++([(station2:Int)]))))
  else (
  M.pure (.inr (l,l)))
def zbb (aa:List Int) (ab:List Span) (ac:List Int) (ae:List Town) (ag ah:Int) (ai:List Flood) (station:Int):M (List Int) :=
  M.bind (M.iter (zcC aa) (station,[])) fun (l2,l3) =>
  M.pure l3
theorem zcc {R:List Chunk} {ao:Cells} {ab:Value} {ap:Cells} {ac:Value} {aq:Cells} {ae:Value} {au:Cells} {ag:Value} {av:Cells} {ah:Value} (ai:List Int) (aw:List Span) (ax:List Int) (ay:List Town) (aj:Int) (ak:Int) (az:List Flood) (station:Int) (aL:Reads R ao) (aM:Sl ao ab ai) (aN:Reads R ap) (aO:Sl ap ac aw) (aP:Reads R aq) (aQ:Sl aq ae ax) (aR:Reads R au) (aS:Sl au ag ay) (aT:Reads R av) (aU:Sl av ah az) {r:(List Int)} (hM:(zbb ai aw ax ay aj ak az station).Ends r) (w:World) (H:St w w [] R):Ret Tryz.prog 60 #[.agg #[ab,ac,ae,ag,I aj,I ak,ah],I station] w fun v w'=>∃ (y0:List Int) (u0:Value),y0=r/\v=u0/\St w w' [cOwn (α:=Int) 3 u0 y0] R:=by
 refine ret_of_W Tryz.func60 rfl rfl rfl ?_;refine kg 2 ?_;refine t_bx [ab,ac,ae,ag,I aj,I ak,ah] H rfl ?_;intro aA aV H;refine kg 8 ?_
 replace H:=H.nilOwn (α:=Int) 3
 obtain ⟨aD,am,aE⟩:=M.e_bind hM
 obtain ⟨aW,am⟩:=M.e_iter am
 refine W.loop (fun m σ W=>∃ (station2:Int) (l:List Int) (al:Value) (ρ:Env),σ=upds ρ [(1,I station2),(2,Pq aA),(5,al)]/\M.iterN (zcC ai) m (station2,l)=some aD/\St w W [cOwn (α:=Int) 3 al l,cBlk aA [ab,ac,ae,ag,I aj,I ak,ah] 53] R) ?_ ?_
 ·exact ⟨_,station,[],(.slice none 0 0),_,upds_of _ _ ⟨rfl,rfl,rfl,trivial⟩,am,H⟩
 rintro aX σ aY ⟨station2,l,al,ρ,rfl,aB,H⟩
 obtain ⟨aF,aG,aZ,hM,aC⟩:=M.e_iterN aB
 simp only [zcC] at hM
 clear aB;refine kg 6 ?_
 refine W.cond (station2 != (-1)) rfl (fun aa=>?_) (fun aa=>?_)
 ·replace hM:=M.e_t hM aa
  replace aa:=dI aa
  refine kg 6 ?_;refine t_bs (α:=Int) T22 [I station2] [(station2:Int)] H rfl (.cons rfl (Flat.rep_enc _ (station2:Int))<|.nil) rfl rfl rfl ?_;intro aH a6 H;obtain ⟨a7,hM⟩:=M.e_gd hM;refine t_app (α:=Int) (k:=1) (l:=l) (l2:=[(station2:Int)]) (l':=l++([(station2:Int)])) (vy:=aH) T22 rfl H rfl rfl rfl (H.os 0) (H.ol 0) (rfl) (by first | omega | (simp only [List.length_nil] at *; omega)) ?_;intro aI a8 H;replace H:=H.nf;obtain ⟨ba,hM⟩:=M.e_gd hM;refine kg 10 ?_
  exact ⟨aF,aG,ai.getD (Int.toNat station2) 0,l++([(station2:Int)]),aI,_,upds_of _ _ ⟨rfl,rfl,rfl,trivial⟩,M.e_inl hM aC,(H.pk [1,2])⟩
 replace hM:=M.e_f hM aa
 replace aa:=dI aa
 refine W.exit ?_
 have aJ:=M.e_inr hM aC
 subst aJ;replace hM:=aE;(try dsimp only at hM);refine kg 5 ?_;refine W.ret ?_
 have aK:=M.e_pure hM
 exact ⟨_,resE_tmp rfl,⟨l,al,aK,rfl,(H.pk [0])⟩⟩

def zbz (aa:List Int) (ab:List Span):Nat->M (Nat ⊕ (Int ⊕ Unit)):=fun i =>
  bif decide ((i:Int)<(aa.length:Int)) then (
  M.grd (decide ((i:Int)<(aa.length:Int))) <|
  M.bind (M.opt ((aa.getD i 0) != (-1)) (zaj (aa.getD i 0) ((i:Int)+1) ((aa.length:Int)-1)) false) fun r4 =>
  bif (((aa.getD i 0) != (-1))&&r4) then (
  M.pure (.inr (.inl 2)))
  else (
  M.grd (decide ((i:Int)<(ab.length:Int))) <|
  M.bind (zcg (ab.getD i default)) fun r5 =>
  bif r5 then (
  M.pure (.inr (.inl 130)))
  else (
  M.pure (.inl (i+1)))))
  else (
  M.pure (.inr (.inr ())))
def zcX (ab:List Int) (aa:List Town):Nat->M (Nat ⊕ (Unit ⊕ Unit)):=fun i2 =>
  bif decide ((i2:Int)<(aa.length:Int)) then (
  M.grd (decide ((i2:Int)<(aa.length:Int))) <|
  M.bind (zaj ((aa.getD i2 default).station) 0 ((ab.length:Int)-1)) fun r7 =>
  M.bind (M.opt (!r7) (zaj ((aa.getD i2 default).lead) 0 1000) false) fun r8 =>
  M.bind (M.opt (!(r7||r8)) (zaj ((aa.getD i2 default).alarm) 0 2000) false) fun r9 =>
  bif ((r7||r8)||r9) then (
  M.pure (.inr (.inl ())))
  else (
  M.pure (.inl (i2+1))))
  else (
  M.pure (.inr (.inr ())))
def zcV (aa:List Int) (ab:List Flood) (i3:Nat):(Bool × Nat)->M ((Bool × Nat) ⊕ (Int × Bool)):=fun (spring,k) =>
  bif decide ((k:Int)<(aa.length:Int)) then (
  M.grd ((!(!spring)||(decide ((k:Int)<(aa.length:Int))))) <|
  M.pure (.inl ((spring||((aa.getD k 0)==((ab.getD i3 default).spring))),k+1)))
  else (
  M.pure (.inr ((ab.getD i3 default).spring,spring)))
def zco (aa:List Flood) (i3:Nat):Nat->M (Nat ⊕ (Unit ⊕ Unit)):=fun k2 =>
  bif decide ((k2:Int)<(((aa.getD i3 default).stages).length:Int)) then (
  M.grd (decide ((k2:Int)<(((aa.getD i3 default).stages).length:Int))) <|
  M.bind (zaj (((aa.getD i3 default).stages).getD k2 0) 0 2000) fun ab =>
  bif ab then (
  M.pure (.inr (.inl ())))
  else (
  M.pure (.inl (k2+1))))
  else (
  M.pure (.inr (.inr ())))
def zcD (aa:List Flood) (i3:Nat):Nat->M (Nat ⊕ (Unit ⊕ Unit)):=fun k2 =>
  bif decide ((k2:Int)<(((aa.getD i3 default).stages).length:Int)) then (
  M.grd (decide ((k2:Int)<(((aa.getD i3 default).stages).length:Int))) <|
  M.bind (zaj (((aa.getD i3 default).stages).getD k2 0) 0 2000) fun ab =>
  bif ab then (
  M.pure (.inr (.inl ())))
  else (
  M.pure (.inl (k2+1))))
  else (
  M.pure (.inr (.inr ())))
def zc1 (ac:List Int) (ae:List Span) (ab:List Int) (ag:List Town) (ah ai:Int) (aa:List Flood):Nat->M (Nat ⊕ (Int ⊕ Unit)):=fun i3 =>
  bif decide ((i3:Int)<(aa.length:Int)) then (
  M.grd (decide ((i3:Int)<(aa.length:Int))) <|
  M.bind (M.iter (zcV ab aa i3) (false,0)) fun (s2,spring2) =>
  bif !(!spring2) then (
  M.bind (zbb ac ae ab ag ah ai aa s2) fun aj =>
  bif ((!spring2)||((((aa.getD i3 default).stages).length:Int) != (aj.length:Int))) then (
  M.pure (.inr (.inl 2)))
  else (
  M.bind (M.iter (zco aa i3) 0) fun x_=>match x_ with
  | (.inl (_:Unit))=>(
  M.pure (.inr (.inl 130)))
  | (.inr (_:Unit))=>(
  M.pure (.inl (i3+1)))))
  else (
  bif ((!spring2)||((((aa.getD i3 default).stages).length:Int) != 0)) then (
  M.pure (.inr (.inl 2)))
  else (
  M.bind (M.iter (zcD aa i3) 0) fun x_=>match x_ with
  | (.inl (_:Unit))=>(
  M.pure (.inr (.inl 130)))
  | (.inr (_:Unit))=>(
  M.pure (.inl (i3+1))))))
  else (
  M.pure (.inr (.inr ())))
def zas (aa:List Int) (ab:List Span) (ac:List Int) (ae:List Town) (ag ah:Int) (ai:List Flood):M Int :=
  M.bind (zaj (aa.length:Int) 1 12) fun r2 =>
  M.bind (M.opt (!(r2||((ab.length:Int) != (aa.length:Int)))) (zaj (ac.length:Int) 1 8) false) fun r3 =>
  bif ((((r2||((ab.length:Int) != (aa.length:Int)))||r3)||(decide (8<(ae.length:Int))))||(decide (20<(ai.length:Int)))) then (
  M.pure 3)
  else (
  M.bind (M.iter (zbz aa ab) 0) fun x_=>match x_ with
  | (.inl s)=>(
  M.pure s)
  | (.inr (_:Unit))=>(
  M.bind (zbX ac (aa.length:Int)) fun r6 =>
  bif r6 then (
  M.pure 9)
  else (
  M.bind (M.iter (zcX aa ae) 0) fun x_=>match x_ with
  | (.inl (_:Unit))=>(
  M.pure 130)
  | (.inr (_:Unit))=>(
  M.bind (zcg (⟨(ag:Int),(ah:Int)⟩:Span)) fun aj =>
  bif aj then (
  M.pure 130)
  else (
  M.bind (M.iter (zc1 aa ab ac ae ag ah ai) 0) fun x_=>match x_ with
  | (.inl s3)=>(
  M.pure s3)
  | (.inr (_:Unit))=>(
  M.pure 0))))))
theorem zav {R:List Chunk} {bm:Cells} {ap:Value} {bn:Cells} {aq:Value} {bo:Cells} {al:Value} {bp:Cells} {am:Value} {br:Cells} {ao:Value} (aa:List Int) (ae:List Span) (au:List Int) (ac:List Town) (aj:Int) (ak:Int) (ab:List Flood) (bN:Reads R bm) (bt:Sl bm ap aa) (bO:Reads R bn) (bu:Sl bn aq ae) (bv:Reads R bo) (aH:Sl bo al au) (bw:Reads R bp) (aI:Sl bp am ac) (bx:Reads R br) (aJ:Sl br ao ab) {r:Int} (hM:(zas aa ae au ac aj ak ab).Ends r) (w:World) (H:St w w [] R):Ret Tryz.prog 14 #[.agg #[ap,aq,al,am,I aj,I ak,ao]] w fun v w'=>∃ (y0:Int),y0=r/\v=I y0/\St w w' [] R:=by
 refine ret_of_W Tryz.func14 rfl rfl rfl ?_;refine kg 2 ?_;refine t_bx [ap,aq,al,am,I aj,I ak,ao] H rfl ?_;intro ai cC H
 have cD:=(bt).len_le
 refine kg 13 ?_;obtain ⟨cE,bP,hM⟩:=M.e_bind hM;refine s_call cf57 [I (aa.length:Int),I 1,I 12] rfl (zal (aa.length:Int) 1 12 bP _ (H.gt 1)) ?_
 rintro vq cF ⟨r2,rfl,hvq,ah⟩
 subst vq;(try dsimp only at hM);replace H:=H.bk ah;clear ah
 have cG:=(bu).len_le
 refine kg 6 ?_;refine s_val (x_por (b:=r2) (r:=(ae.length:Int) != (aa.length:Int)) rfl rfl (fun hb=>gd_of (c:=!r2) (by first | exact hb | (rw [hb]; rfl) | simp_all) (B ((ae.length:Int) != (aa.length:Int)))))<|zM (B (r2||((ae.length:Int) != (aa.length:Int)))) rfl<|g_val (!(r2||((ae.length:Int) != (aa.length:Int)))) (gy_f rfl) (fun hg=>x_fa (v:=Oq ai 2) rfl (fa_blk (o:=0) Fd53_2 Sz22))<|g_val (!(r2||((ae.length:Int) != (aa.length:Int)))) (gy_f rfl) (fun hg=>x_ld (v:=al) (gd_of hg (Oq ai 2)) (ldb_sc Sc22 (H.bl 0) rfl)) ?_
 have cH:=(aH).len_le
 refine g_val (!(r2||((ae.length:Int) != (aa.length:Int)))) (gy_f rfl) (fun hg=>x_lenS T22.und (gd_of hg (al)) aH) ?_;obtain ⟨r3,bQ,hM⟩:=M.e_bind hM;refine t_gcall (!(r2||((ae.length:Int) != (aa.length:Int)))) (gy_f rfl) cf57 (B r3) (fun _=>[I (au.length:Int),I 1,I 8]) (fun hg=>lst3 (gd_of hg (I (au.length:Int))) rfl rfl) H (fun hg=>(zal (au.length:Int) 1 8 (M.e_opt bQ hg) _ (H.give (A:=[]) rfl)).mono fun v_ w_ ⟨y_,ag,ax,H_⟩=>by subst ag; exact ⟨ax,H.via H_⟩) ?_;intro cI H;refine s_val (x_por (b:=(r2||((ae.length:Int) != (aa.length:Int)))) (r:=r3) rfl rfl (fun hb=>gd_of (c:=!(r2||((ae.length:Int) != (aa.length:Int)))) (by first | exact hb | (rw [hb]; rfl) | simp_all) (B r3)))<|zM (B ((r2||((ae.length:Int) != (aa.length:Int)))||r3)) rfl<|g_val (!((r2||((ae.length:Int) != (aa.length:Int)))||r3)) (gy_f rfl) (fun hg=>x_fa (v:=Oq ai 3) rfl (fa_blk (o:=0) Fd53_3 Sz50))<|g_val (!((r2||((ae.length:Int) != (aa.length:Int)))||r3)) (gy_f rfl) (fun hg=>x_ld (v:=am) (gd_of hg (Oq ai 3)) (ldb_sc Sc50 (H.bl 0) rfl)) ?_
 have cJ:=(aI).len_le
 refine g_val (!((r2||((ae.length:Int) != (aa.length:Int)))||r3)) (gy_f rfl) (fun hg=>x_lenS T50.und (gd_of hg (am)) aI)<|g_val (!((r2||((ae.length:Int) != (aa.length:Int)))||r3)) (gy_f rfl) (fun hg=>x_cmp (kd:=.i64) (r:=decide (8<(ac.length:Int))) (gd_of hg (I (ac.length:Int))) rfl rfl)<|s_val (x_por (b:=((r2||((ae.length:Int) != (aa.length:Int)))||r3)) (r:=decide (8<(ac.length:Int))) rfl rfl (fun hb=>gd_of (c:=!((r2||((ae.length:Int) != (aa.length:Int)))||r3)) (by first | exact hb | (rw [hb]; rfl) | simp_all) (B (decide (8<(ac.length:Int))))))<|zM (B (((r2||((ae.length:Int) != (aa.length:Int)))||r3)||(decide (8<(ac.length:Int))))) rfl<|g_val (!(((r2||((ae.length:Int) != (aa.length:Int)))||r3)||(decide (8<(ac.length:Int))))) (gy_f rfl) (fun hg=>x_fa (v:=Oq ai 6) rfl (fa_blk (o:=0) Fd53_5 Sz51))<|g_val (!(((r2||((ae.length:Int) != (aa.length:Int)))||r3)||(decide (8<(ac.length:Int))))) (gy_f rfl) (fun hg=>x_ld (v:=ao) (gd_of hg (Oq ai 6)) (ldb_sc Sc51 (H.bl 0) rfl)) ?_
 have cK:=(aJ).len_le
 refine g_val (!(((r2||((ae.length:Int) != (aa.length:Int)))||r3)||(decide (8<(ac.length:Int))))) (gy_f rfl) (fun hg=>x_lenS T51.und (gd_of hg (ao)) aJ)<|g_val (!(((r2||((ae.length:Int) != (aa.length:Int)))||r3)||(decide (8<(ac.length:Int))))) (gy_f rfl) (fun hg=>x_cmp (kd:=.i64) (r:=decide (20<(ab.length:Int))) (gd_of hg (I (ab.length:Int))) rfl rfl)<|s_val (x_por (b:=(((r2||((ae.length:Int) != (aa.length:Int)))||r3)||(decide (8<(ac.length:Int))))) (r:=decide (20<(ab.length:Int))) rfl rfl (fun hb=>gd_of (c:=!(((r2||((ae.length:Int) != (aa.length:Int)))||r3)||(decide (8<(ac.length:Int))))) (by first | exact hb | (rw [hb]; rfl) | simp_all) (B (decide (20<(ab.length:Int))))))<|s_nil ?_
 refine W.cond ((((r2||((ae.length:Int) != (aa.length:Int)))||r3)||(decide (8<(ac.length:Int))))||(decide (20<(ab.length:Int)))) rfl (fun aP=>?_) (fun aP=>?_)
 ·replace hM:=M.e_t hM aP;refine kg 4 ?_;refine W.ret ?_
  have ag:=M.e_pure hM
  exact ⟨_,resE_tmp rfl,⟨3,ag,rfl,(H.pk [])⟩⟩
 replace hM:=M.e_f hM aP;refine kg 7 ?_;obtain ⟨bR,aQ,aR⟩:=M.e_bind hM
 obtain ⟨aK,aQ⟩:=M.e_iter aQ
 refine W.loop (fun m σ W=>∃ (i:Nat) (ρ:Env),σ=upds ρ [(1,Pq ai),(3,I (aa.length:Int)),(4,I (i:Int))]/\M.iterN (zbz aa ae) m i=some bR/\St w W [cBlk ai [ap,aq,al,am,I aj,I ak,ao] 53] R) ?_ ?_
 ·exact ⟨_,0,_,upds_of _ _ ⟨rfl,rfl,rfl,trivial⟩,aQ,H⟩
 rintro cL σ cM ⟨i,ρ,rfl,bz,H⟩
 obtain ⟨bS,bT,cN,hM,aO⟩:=M.e_iterN bz
 simp only [zbz] at hM
 clear bz;refine kg 7 ?_
 refine W.cond (decide ((i:Int)<(aa.length:Int))) rfl (fun ay=>?_) (fun ay=>?_)
 ·replace hM:=M.e_t hM ay
  replace ay:=dI ay
  obtain ⟨cO,hM⟩:=M.e_gd hM;refine kg 22 ?_;obtain ⟨r4,bU,hM⟩:=M.e_bind hM;refine t_gcall ((aa.getD i 0) != (-1)) (gy_t rfl) cf57 (B r4) (fun _=>[I (aa.getD i 0),I ((i:Int)+1),I ((aa.length:Int)-1)]) (fun hg=>lst3 (gd_of hg (I (aa.getD i 0))) (gd_of hg (I ((i:Int)+1))) (gd_of hg (I ((aa.length:Int)-1)))) H (fun hg=>(zal (aa.getD i 0) ((i:Int)+1) ((aa.length:Int)-1) (M.e_opt bU hg) _ (H.give (A:=[]) rfl)).mono fun v_ w_ ⟨y_,ag,ax,H_⟩=>by subst ag; exact ⟨ax,H.via H_⟩) ?_;intro cP H;refine s_val (x_pand (b:=(aa.getD i 0) != (-1)) (r:=r4) rfl (fun hb=>gd_of (c:=(aa.getD i 0) != (-1)) (by first | exact hb | (rw [hb]; rfl) | simp_all) (B r4)) rfl)<|s_nil ?_
  refine W.cond (((aa.getD i 0) != (-1))&&r4) rfl (fun aS=>?_) (fun aS=>?_)
  ·replace hM:=M.e_t hM aS;refine kg 4 ?_;refine W.ret ?_
   have bV:=M.e_inr hM aO
   subst bV;replace hM:=aR;(try dsimp only at hM)
   have ag:=M.e_pure hM
   exact ⟨_,resE_tmp rfl,⟨2,ag,rfl,(H.pk [])⟩⟩
  replace hM:=M.e_f hM aS;obtain ⟨cQ,hM⟩:=M.e_gd hM;refine kg 8 ?_;obtain ⟨cR,bW,hM⟩:=M.e_bind hM;refine s_call cf58 [.agg #[I ((ae.getD i default).lo),I ((ae.getD i default).hi)]] rfl (zet (ae.getD i default) bW _ (H.gt 1)) ?_
  rintro vq cS ⟨r5,rfl,hvq,ah⟩
  subst vq;(try dsimp only at hM);replace H:=H.bk ah;clear ah;refine s_nil ?_
  refine W.cond r5 rfl (fun aT=>?_) (fun aT=>?_)
  ·replace hM:=M.e_t hM aT;refine kg 4 ?_;refine W.ret ?_
   have bX:=M.e_inr hM aO
   subst bX;replace hM:=aR;(try dsimp only at hM)
   have ag:=M.e_pure hM
   exact ⟨_,resE_tmp rfl,⟨130,ag,rfl,(H.pk [])⟩⟩
  replace hM:=M.e_f hM aT;refine kg 6 ?_
  exact ⟨bS,bT,i+1,_,upds_of _ _ ⟨rfl,rfl,rfl,trivial⟩,M.e_inl hM aO,H⟩
 replace hM:=M.e_f hM ay
 replace ay:=dI ay
 refine W.exit ?_
 have bY:=M.e_inr hM aO
 subst bY;replace hM:=aR;(try dsimp only at hM);refine kg 6 ?_;obtain ⟨cT,bZ,hM⟩:=M.e_bind hM;refine s_call cf59 [al,I (aa.length:Int)] rfl (zdR au (aa.length:Int) (bv.app _) aH bZ _ (H.gt 1)) ?_
 rintro vq cU ⟨r6,rfl,hvq,ah⟩
 subst vq;(try dsimp only at hM);replace H:=H.bk ah;clear ah;refine s_nil ?_
 refine W.cond r6 rfl (fun aU=>?_) (fun aU=>?_)
 ·replace hM:=M.e_t hM aU;refine kg 4 ?_;refine W.ret ?_
  have ag:=M.e_pure hM
  exact ⟨_,resE_tmp rfl,⟨9,ag,rfl,(H.pk [])⟩⟩
 replace hM:=M.e_f hM aU;refine kg 7 ?_;obtain ⟨b0,aV,bA⟩:=M.e_bind hM
 obtain ⟨aK,aV⟩:=M.e_iter aV
 refine W.loop (fun m σ W=>∃ (i2:Nat) (ρ:Env),σ=upds ρ [(1,Pq ai),(3,I (aa.length:Int)),(5,I (i2:Int))]/\M.iterN (zcX aa ac) m i2=some b0/\St w W [cBlk ai [ap,aq,al,am,I aj,I ak,ao] 53] R) ?_ ?_
 ·exact ⟨_,0,_,upds_of _ _ ⟨rfl,rfl,rfl,trivial⟩,aV,H⟩
 rintro cV σ cW ⟨i2,ρ,rfl,bB,H⟩
 obtain ⟨b1,b2,cX,hM,aW⟩:=M.e_iterN bB
 simp only [zcX] at hM
 clear bB
 have cY:=(aI).len_le
 refine kg 9 ?_
 refine W.cond (decide ((i2:Int)<(ac.length:Int))) rfl (fun az=>?_) (fun az=>?_)
 ·replace hM:=M.e_t hM az
  replace az:=dI az
  obtain ⟨cZ,hM⟩:=M.e_gd hM;refine kg 9 ?_;refine s_val (x_ld (v:=.agg #[I ((ac.getD i2 default).station),I ((ac.getD i2 default).lead),I ((ac.getD i2 default).alarm)]) rfl (ld_ag Ag105 Sz105 (At.mono (Town_atA aI (i:=(i2:Int)) (by omega) (by omega)) (bw.at H)))) ?_;refine t_alloc (cs:=[I 0,I 0,I 0]) H Al105 rfl ?_;intro bC c0 H;refine t_sw 0 0 [I ((ac.getD i2 default).station),I ((ac.getD i2 default).lead),I ((ac.getD i2 default).alarm)] (.agg #[I ((ac.getD i2 default).station),I ((ac.getD i2 default).lead),I ((ac.getD i2 default).alarm)]) H rfl rfl Sz105 rfl rfl rfl rfl ?_;intro c5 H;refine kg 7 ?_;obtain ⟨c6,b3,hM⟩:=M.e_bind hM;refine s_call cf57 [I ((ac.getD i2 default).station),I 0,I ((aa.length:Int)-1)] rfl (zal ((ac.getD i2 default).station) 0 ((aa.length:Int)-1) b3 _ (H.gt 2)) ?_
  rintro vq c7 ⟨r7,rfl,hvq,ah⟩
  subst vq;(try dsimp only at hM);replace H:=H.bk ah;clear ah;refine kg 3 ?_;obtain ⟨r8,b4,hM⟩:=M.e_bind hM;refine t_gcall (!r7) (gy_f rfl) cf57 (B r8) (fun _=>[I ((ac.getD i2 default).lead),I 0,I 1000]) (fun hg=>lst3 (gd_of hg (I ((ac.getD i2 default).lead))) rfl rfl) H (fun hg=>(zal ((ac.getD i2 default).lead) 0 1000 (M.e_opt b4 hg) _ (H.give (A:=[]) rfl)).mono fun v_ w_ ⟨y_,ag,ax,H_⟩=>by subst ag; exact ⟨ax,H.via H_⟩) ?_;intro c8 H;refine s_val (x_por (b:=r7) (r:=r8) rfl rfl (fun hb=>gd_of (c:=!r7) (by first | exact hb | (rw [hb]; rfl) | simp_all) (B r8)))<|zM (B (r7||r8)) rfl<|g_val (!(r7||r8)) (gy_f rfl) (fun hg=>x_fa (v:=Oq bC 2) rfl (fa_blk (o:=0) Fd105_2 Sz3))<|g_val (!(r7||r8)) (gy_f rfl) (fun hg=>x_ld (v:=I ((ac.getD i2 default).alarm)) (gd_of hg (Oq bC 2)) (ldb_sc Sc3 (H.bl 0) rfl)) ?_;obtain ⟨r9,b5,hM⟩:=M.e_bind hM;refine t_gcall (!(r7||r8)) (gy_f rfl) cf57 (B r9) (fun _=>[I ((ac.getD i2 default).alarm),I 0,I 2000]) (fun hg=>lst3 (gd_of hg (I ((ac.getD i2 default).alarm))) rfl rfl) H (fun hg=>(zal ((ac.getD i2 default).alarm) 0 2000 (M.e_opt b5 hg) _ (H.give (A:=[]) rfl)).mono fun v_ w_ ⟨y_,ag,ax,H_⟩=>by subst ag; exact ⟨ax,H.via H_⟩) ?_;intro c9 H;refine s_val (x_por (b:=(r7||r8)) (r:=r9) rfl rfl (fun hb=>gd_of (c:=!(r7||r8)) (by first | exact hb | (rw [hb]; rfl) | simp_all) (B r9)))<|s_nil ?_
  refine W.cond ((r7||r8)||r9) rfl (fun aX=>?_) (fun aX=>?_)
  ·replace hM:=M.e_t hM aX;refine kg 4 ?_;refine W.ret ?_
   have b6:=M.e_inr hM aW
   subst b6;replace hM:=bA;(try dsimp only at hM)
   have ag:=M.e_pure hM
   exact ⟨_,resE_tmp rfl,⟨130,ag,rfl,(H.pk [])⟩⟩
  replace hM:=M.e_f hM aX;refine kg 6 ?_
  exact ⟨b1,b2,i2+1,_,upds_of _ _ ⟨rfl,rfl,rfl,trivial⟩,M.e_inl hM aW,(H.pk [1])⟩
 replace hM:=M.e_f hM az
 replace az:=dI az
 refine W.exit ?_
 have b7:=M.e_inr hM aW
 subst b7;replace hM:=bA;(try dsimp only at hM);refine kg 5 ?_;obtain ⟨da,b8,hM⟩:=M.e_bind hM;refine s_call cf58 [.agg #[I aj,I ak]] rfl (zet (⟨(aj:Int),(ak:Int)⟩:Span) b8 _ (H.gt 1)) ?_
 rintro vq db ⟨b9,rfl,hvq,ah⟩
 subst vq;(try dsimp only at hM);replace H:=H.bk ah;clear ah;refine s_nil ?_
 refine W.cond b9 rfl (fun aY=>?_) (fun aY=>?_)
 ·replace hM:=M.e_t hM aY;refine kg 4 ?_;refine W.ret ?_
  have ag:=M.e_pure hM
  exact ⟨_,resE_tmp rfl,⟨130,ag,rfl,(H.pk [])⟩⟩
 replace hM:=M.e_f hM aY;refine kg 7 ?_;obtain ⟨ca,aZ,aL⟩:=M.e_bind hM
 obtain ⟨aK,aZ⟩:=M.e_iter aZ
 refine W.loop (fun m σ W=>∃ (i3:Nat) (ρ:Env),σ=upds ρ [(1,Pq ai),(7,I (i3:Int))]/\M.iterN (zc1 aa ae au ac aj ak ab) m i3=some ca/\St w W [cBlk ai [ap,aq,al,am,I aj,I ak,ao] 53] R) ?_ ?_
 ·exact ⟨_,0,_,upds_of _ _ ⟨rfl,rfl,trivial⟩,aZ,H⟩
 rintro dc σ dd ⟨i3,ρ,rfl,bD,H⟩
 obtain ⟨bE,bF,dg,hM,aA⟩:=M.e_iterN bD
 simp only [zc1] at hM
 clear bD
 have dh:=(aJ).len_le
 refine kg 9 ?_
 refine W.cond (decide ((i3:Int)<(ab.length:Int))) rfl (fun aB=>?_) (fun aB=>?_)
 ·replace hM:=M.e_t hM aB
  replace aB:=dI aB
  obtain ⟨di,hM⟩:=M.e_gd hM;refine kg 9 ?_
  obtain ⟨aw,cb,aC⟩:=Flood_atA aJ (i:=(i3:Int)) (by omega) (by omega)
  replace aC:Sl _ aw (ab.getD i3 default).stages:=aC
  have dj:=aC.len_le
  refine s_val (x_ld (v:=.agg #[I ((ab.getD i3 default).spring),aw]) rfl (ld_ag Ag106 Sz106 (At.mono cb (bx.at H)))) ?_;refine t_alloc (cs:=[I 0,.slice none 0 0]) H Al106 rfl ?_;intro av dk H;refine t_sw 0 0 [I ((ab.getD i3 default).spring),aw] (.agg #[I ((ab.getD i3 default).spring),aw]) H rfl rfl Sz106 rfl rfl rfl (by simp only [List.all_cons,List.all_nil,Bool.true_and,Bool.and_true,Sl.oc aC]; try rfl) ?_;intro dl H;refine kg 11 ?_;obtain ⟨cc,a6,cd⟩:=M.e_bind hM
  obtain ⟨aK,a6⟩:=M.e_iter a6
  refine W.loop (fun m σ W=>∃ (spring:Bool) (k:Nat) (ρ:Env),σ=upds ρ [(1,Pq ai),(7,I (i3:Int)),(8,Pq av),(9,B spring),(10,I (k:Int))]/\M.iterN (zcV au ab i3) m (spring,k)=some cc/\St w W [cBlk av [I ((ab.getD i3 default).spring),aw] 106,cBlk ai [ap,aq,al,am,I aj,I ak,ao] 53] R) ?_ ?_
  ·exact ⟨_,false,0,_,upds_of _ _ ⟨rfl,rfl,rfl,rfl,rfl,trivial⟩,a6,H⟩
  rintro dm σ dq ⟨spring,k,ρ,rfl,bG,H⟩
  obtain ⟨ce,cf,dr,hM,bH⟩:=M.e_iterN bG
  simp only [zcV] at hM
  clear bG
  have dt:=(aH).len_le
  refine kg 9 ?_
  refine W.cond (decide ((k:Int)<(au.length:Int))) rfl (fun aD=>?_) (fun aD=>?_)
  ·replace hM:=M.e_t hM aD
   replace aD:=dI aD
   refine kg 3 ?_;refine W.draw (fun W=>St w W [cBlk av [I ((ab.getD i3 default).spring),aw] 106,cBlk ai [ap,aq,al,am,I aj,I ak,ao] 53] R) [(0,true),(1,true),(2,true),(3,true),(4,true),(5,true),(6,true),(7,true),(8,true),(9,true),(10,true),(11,true)] mixed (by decide +kernel) rfl ?_;intro du aM;replace H:=H.ext aM;clear aM
   refine ⟨(H.pk [0,1]),?_⟩
   obtain ⟨a7,hM⟩:=M.e_grd hM
   replace a7:=M.imp_of a7
   simp only [Bool.and_eq_true,decide_eq_true_eq] at a7
   refine kg 10 ?_;refine d_q rfl (fun w' H=>x_por (b:=spring) (r:=(au.getD k 0)==((ab.getD i3 default).spring)) rfl rfl (fun hb=>gd_of (c:=!spring) (by first | exact hb | (rw [hb]; rfl) | simp_all) (B ((au.getD k 0)==((ab.getD i3 default).spring)))))<|d_q rfl (fun w' H=>x_as (v:=B (spring||((au.getD k 0)==((ab.getD i3 default).spring)))) rfl) ?_;refine kg 6 ?_
   exact ⟨ce,cf,(spring||((au.getD k 0)==((ab.getD i3 default).spring))),k+1,_,upds_of _ _ ⟨rfl,rfl,rfl,rfl,rfl,trivial⟩,M.e_inl hM bH,H⟩
  replace hM:=M.e_f hM aD
  replace aD:=dI aD
  refine W.exit ?_
  have cg:=M.e_inr hM bH
  subst cg;replace hM:=cd;(try dsimp only at hM);refine kg 2 ?_;refine W.draw (fun W=>St w W [cBlk av [I ((ab.getD i3 default).spring),aw] 106,cBlk ai [ap,aq,al,am,I aj,I ak,ao] 53] R) [(0,true),(1,true),(2,true),(3,true),(4,true),(5,true),(6,true),(7,true),(8,true),(9,false),(10,true),(11,true),(12,true)] mixed (by decide +kernel) rfl ?_;intro dv aM;replace H:=H.ext aM;clear aM
  refine ⟨(H.pk [0,1]),?_⟩
  have dw:=(aC).len_le
  refine kg 9 ?_;refine d_l rfl ?_
  refine g_splitV (!(!spring)) (.slice none 0 0) (gy_f rfl) (fun aN=>?_) (fun aN=>?_)
  ·replace hM:=M.e_t hM aN;obtain ⟨dx,ci,hM⟩:=M.e_bind hM;refine s_call cf60 [.agg #[ap,aq,al,am,I aj,I ak,ao],I ((ab.getD i3 default).spring)] (lst2 (gd_of (c:=!(!spring)) aN (.agg #[ap,aq,al,am,I aj,I ak,ao])) (gd_of (c:=!(!spring)) aN (I ((ab.getD i3 default).spring)))) (zcc aa ae au ac aj ak ab ((ab.getD i3 default).spring) (bN.app _) bt (bO.app _) bu (bv.app _) aH (bw.app _) aI (bx.app _) aJ ci _ (H.gt 2)) ?_
   rintro vq dy ⟨aG,bI,rfl,hvq,ah⟩
   subst vq;(try dsimp only at hM);replace H:=H.bk ah;clear ah
   have dz:=Sl.cells (H.os 0)
   have dA:=Sl.oc (H.os 0)
   have dB:=ownSl (H.get (k:=0) rfl)
   refine s_nil ⟨(H.pk [1,2]),?_⟩
   refine kg 2 ?_;refine d_q rfl (fun w' H=>x_por (b:=!spring) (r:=(((ab.getD i3 default).stages).length:Int) != (aG.length:Int)) rfl rfl (fun hb=>gd_of (c:=!(!spring)) (by first | exact hb | (rw [hb]; rfl) | simp_all) (B ((((ab.getD i3 default).stages).length:Int) != (aG.length:Int))))) ?_;refine d_nil ?_
   refine W.cond ((!spring)||((((ab.getD i3 default).stages).length:Int) != (aG.length:Int))) rfl (fun a8=>?_) (fun a8=>?_)
   ·replace hM:=M.e_t hM a8;refine kg 4 ?_;replace H:=H.pk [2];refine W.ret ?_
    have cj:=M.e_inr hM aA
    subst cj;replace hM:=aL;(try dsimp only at hM)
    have ag:=M.e_pure hM
    exact ⟨_,resE_tmp rfl,⟨2,ag,rfl,(H.pk [])⟩⟩
   replace hM:=M.e_f hM a8;refine kg 6 ?_;obtain ⟨ck,ba,bJ⟩:=M.e_bind hM
   obtain ⟨aK,ba⟩:=M.e_iter ba
   refine W.loop (fun m σ W=>∃ (k2:Nat) (ρ:Env),σ=upds ρ [(1,Pq ai),(7,I (i3:Int)),(8,Pq av),(11,I (k2:Int)),(138,gd (!(!spring)) (Oq av 1)),(139,gd (!(!spring)) aw),(140,gd (!(!spring)) (I (((ab.getD i3 default).stages).length:Int))),(141,gd (!(!spring)) (.agg #[ap,aq,al,am,I aj,I ak,ao])),(142,gd (!(!spring)) (Pq av)),(143,gd (!(!spring)) (I ((ab.getD i3 default).spring))),(144,bI),(145,gd (!(!spring)) (I (aG.length:Int))),(146,gd (!(!spring)) (B ((((ab.getD i3 default).stages).length:Int) != (aG.length:Int))))]/\M.iterN (zco ab i3) m k2=some ck/\St w W [cOwn (α:=Int) 3 bI aG,cBlk av [I ((ab.getD i3 default).spring),aw] 106,cBlk ai [ap,aq,al,am,I aj,I ak,ao] 53] R) ?_ ?_
   ·exact ⟨_,0,_,upds_of _ _ ⟨rfl,rfl,rfl,rfl,rfl,rfl,rfl,rfl,rfl,rfl,rfl,rfl,rfl,trivial⟩,ba,H⟩
   rintro dC σ dD ⟨k2,ρ,rfl,bK,H⟩
   obtain ⟨cm,cn,dE,hM,bb⟩:=M.e_iterN bK
   simp only [zco] at hM
   clear bK
   have dF:=(aC).len_le
   refine kg 9 ?_
   refine W.cond (decide ((k2:Int)<(((ab.getD i3 default).stages).length:Int))) rfl (fun aE=>?_) (fun aE=>?_)
   ·replace hM:=M.e_t hM aE
    replace aE:=dI aE
    obtain ⟨dG,hM⟩:=M.e_gd hM;refine kg 10 ?_;obtain ⟨dH,co,hM⟩:=M.e_bind hM;refine s_call cf57 [I (((ab.getD i3 default).stages).getD k2 0),I 0,I 2000] rfl (zal (((ab.getD i3 default).stages).getD k2 0) 0 2000 co _ (H.gt 3)) ?_
    rintro vq dJ ⟨bc,rfl,hvq,ah⟩
    subst vq;(try dsimp only at hM);replace H:=H.bk ah;clear ah;refine s_nil ?_
    refine W.cond bc rfl (fun bf=>?_) (fun bf=>?_)
    ·replace hM:=M.e_t hM bf;refine kg 4 ?_;refine W.ret ?_
     have cp:=M.e_inr hM bb
     subst cp;replace hM:=bJ;(try dsimp only at hM)
     have cq:=M.e_inr hM aA
     subst cq;replace hM:=aL;(try dsimp only at hM)
     have ag:=M.e_pure hM
     exact ⟨_,resE_tmp rfl,⟨130,ag,rfl,(H.pk [])⟩⟩
    replace hM:=M.e_f hM bf;refine kg 6 ?_
    exact ⟨cm,cn,k2+1,_,upds_of _ _ ⟨rfl,rfl,rfl,rfl,rfl,rfl,rfl,rfl,rfl,rfl,rfl,rfl,rfl,trivial⟩,M.e_inl hM bb,H⟩
   replace hM:=M.e_f hM aE
   replace aE:=dI aE
   refine W.exit ?_
   have cr:=M.e_inr hM bb
   subst cr;replace hM:=bJ;(try dsimp only at hM);refine kg 5 ?_
   exact ⟨bE,bF,i3+1,_,upds_of _ _ ⟨rfl,rfl,trivial⟩,M.e_inl hM aA,(H.pk [2])⟩
  replace hM:=M.e_f hM aN
  refine s_nil ⟨(H.pk [0,1]),?_⟩
  refine d_qg (!(!spring)) rfl (gy_f rfl) (fun hg=>(fun w' H=>x_len (n:=0) T22.und (gd_of hg (.slice none 0 0)))) ?_;refine kg 1 ?_;refine d_q rfl (fun w' H=>x_por (b:=!spring) (r:=(((ab.getD i3 default).stages).length:Int) != 0) rfl rfl (fun hb=>gd_of (c:=!(!spring)) (by first | exact hb | (rw [hb]; rfl) | simp_all) (B ((((ab.getD i3 default).stages).length:Int) != 0)))) ?_;refine d_nil ?_
  refine W.cond ((!spring)||((((ab.getD i3 default).stages).length:Int) != 0)) rfl (fun bg=>?_) (fun bg=>?_)
  ·replace hM:=M.e_t hM bg;refine kg 4 ?_;refine W.ret ?_
   have ct:=M.e_inr hM aA
   subst ct;replace hM:=aL;(try dsimp only at hM)
   have ag:=M.e_pure hM
   exact ⟨_,resE_tmp rfl,⟨2,ag,rfl,(H.pk [])⟩⟩
  replace hM:=M.e_f hM bg;refine kg 6 ?_;obtain ⟨cu,bh,bL⟩:=M.e_bind hM
  obtain ⟨aK,bh⟩:=M.e_iter bh
  refine W.loop (fun m σ W=>∃ (k2:Nat) (ρ:Env),σ=upds ρ [(1,Pq ai),(7,I (i3:Int)),(8,Pq av),(11,I (k2:Int)),(138,gd (!(!spring)) (Oq av 1)),(139,gd (!(!spring)) aw),(140,gd (!(!spring)) (I (((ab.getD i3 default).stages).length:Int))),(141,gd (!(!spring)) (.agg #[ap,aq,al,am,I aj,I ak,ao])),(142,gd (!(!spring)) (Pq av)),(143,gd (!(!spring)) (I ((ab.getD i3 default).spring))),(144,gd (!(!spring)) (.slice none 0 0)),(145,gd (!(!spring)) (I 0)),(146,gd (!(!spring)) (B ((((ab.getD i3 default).stages).length:Int) != 0)))]/\M.iterN (zcD ab i3) m k2=some cu/\St w W [cBlk av [I ((ab.getD i3 default).spring),aw] 106,cBlk ai [ap,aq,al,am,I aj,I ak,ao] 53] R) ?_ ?_
  ·exact ⟨_,0,_,upds_of _ _ ⟨rfl,rfl,rfl,rfl,rfl,rfl,rfl,rfl,rfl,rfl,rfl,rfl,rfl,trivial⟩,bh,H⟩
  rintro dK σ dL ⟨k2,ρ,rfl,bM,H⟩
  obtain ⟨cv,cw,dM,hM,bi⟩:=M.e_iterN bM
  simp only [zcD] at hM
  clear bM
  have dN:=(aC).len_le
  refine kg 9 ?_
  refine W.cond (decide ((k2:Int)<(((ab.getD i3 default).stages).length:Int))) rfl (fun aF=>?_) (fun aF=>?_)
  ·replace hM:=M.e_t hM aF
   replace aF:=dI aF
   obtain ⟨dO,hM⟩:=M.e_gd hM;refine kg 10 ?_;obtain ⟨dP,cx,hM⟩:=M.e_bind hM;refine s_call cf57 [I (((ab.getD i3 default).stages).getD k2 0),I 0,I 2000] rfl (zal (((ab.getD i3 default).stages).getD k2 0) 0 2000 cx _ (H.gt 2)) ?_
   rintro vq dQ ⟨bc,rfl,hvq,ah⟩
   subst vq;(try dsimp only at hM);replace H:=H.bk ah;clear ah;refine s_nil ?_
   refine W.cond bc rfl (fun bj=>?_) (fun bj=>?_)
   ·replace hM:=M.e_t hM bj;refine kg 4 ?_;refine W.ret ?_
    have cy:=M.e_inr hM bi
    subst cy;replace hM:=bL;(try dsimp only at hM)
    have cz:=M.e_inr hM aA
    subst cz;replace hM:=aL;(try dsimp only at hM)
    have ag:=M.e_pure hM
    exact ⟨_,resE_tmp rfl,⟨130,ag,rfl,(H.pk [])⟩⟩
   replace hM:=M.e_f hM bj;refine kg 6 ?_
   exact ⟨cv,cw,k2+1,_,upds_of _ _ ⟨rfl,rfl,rfl,rfl,rfl,rfl,rfl,rfl,rfl,rfl,rfl,rfl,rfl,trivial⟩,M.e_inl hM bi,H⟩
  replace hM:=M.e_f hM aF
  replace aF:=dI aF
  refine W.exit ?_
  have cA:=M.e_inr hM bi
  subst cA;replace hM:=bL;(try dsimp only at hM);refine kg 5 ?_
  exact ⟨bE,bF,i3+1,_,upds_of _ _ ⟨rfl,rfl,trivial⟩,M.e_inl hM aA,(H.pk [1])⟩
 replace hM:=M.e_f hM aB
 replace aB:=dI aB
 refine W.exit ?_
 have cB:=M.e_inr hM aA
 subst cB;replace hM:=aL;(try dsimp only at hM);refine kg 4 ?_;refine W.ret ?_
 have ag:=M.e_pure hM
 exact ⟨_,resE_tmp rfl,⟨0,ag,rfl,(H.pk [])⟩⟩

def zbK (ab:List Int) (aa:List Span) (ac:Int):(Int × Int × Int)->M ((Int × Int × Int) ⊕ ((Int × Int) ⊕ (Int × Int))):=fun (s,s2,s3) =>
  bif s != ac then (
  M.grd (decide ((0:Int)<=s)&&decide (s<(aa.length:Int))) <|
  M.grd (decide ((-9223372036854775808:Int)<=(s2+((aa.getD (Int.toNat s) default).lo)))&&decide ((s2+((aa.getD (Int.toNat s) default).lo))<=(9223372036854775807:Int))) <|
  M.grd (decide ((-9223372036854775808:Int)<=(s3+((aa.getD (Int.toNat s) default).hi)))&&decide ((s3+((aa.getD (Int.toNat s) default).hi))<=(9223372036854775807:Int))) <|
  M.grd (decide ((0:Int)<=s)&&decide (s<(ab.length:Int))) <|
  bif (ab.getD (Int.toNat s) 0)==(-1) then (
  M.pure (.inr (.inl (s2+((aa.getD (Int.toNat s) default).lo),s3+((aa.getD (Int.toNat s) default).hi)))))
  else (
  M.pure (.inl (ab.getD (Int.toNat s) 0,s2+((aa.getD (Int.toNat s) default).lo),s3+((aa.getD (Int.toNat s) default).hi)))))
  else (
  M.pure (.inr (.inr (s2,s3))))
def zaP (aa:List Int) (ab:List Span) (ag:List Int) (ah:List Town) (ai aj:Int) (ak:List Flood) (ac ae:Int):M (Int × Int × Bool) :=
  M.bind (M.iter (zbK aa ab ae) (ac,0,0)) fun x_=>match x_ with
  | (.inl (s4,s5))=>(
  M.pure (0,0,false))
  | (.inr (s6,s7))=>(
  M.pure (s6,s7,true))
theorem zaz {R:List Chunk} {aA:Cells} {ah:Value} {aB:Cells} {ai:Value} {aC:Cells} {aj:Value} {aD:Cells} {ak:Value} {aE:Cells} {al:Value} (ab:List Int) (aa:List Span) (aF:List Int) (aG:List Town) (am:Int) (ao:Int) (aH:List Flood) (av:Int) (ap:Int) (aU:Reads R aA) (aV:Sl aA ah ab) (aW:Reads R aB) (aX:Sl aB ai aa) (aY:Reads R aC) (aZ:Sl aC aj aF) (a6:Reads R aD) (a7:Sl aD ak aG) (a8:Reads R aE) (ba:Sl aE al aH) {r:(Int × Int × Bool)} (hM:(zaP ab aa aF aG am ao aH av ap).Ends r) (w:World) (H:St w w [] R):Ret Tryz.prog 64 #[.agg #[ah,ai,aj,ak,I am,I ao,al],I av,I ap] w fun v w'=>∃ (y0:Int) (y1:Int) (y2:Bool),(y0,y1,y2)=r/\v = .tuple #[.agg #[I y0,I y1],B y2]/\St w w' [] R:=by
 refine ret_of_W Tryz.func64 rfl rfl rfl ?_;refine kg 2 ?_;refine t_bx [ah,ai,aj,ak,I am,I ao,al] H rfl ?_;intro aw bb H;refine t_alloc (cs:=[I 0,I 0]) H Al26 rfl ?_;intro ax bc H;refine kg 4 ?_;refine t_alloc (cs:=[I 0,I 0]) H Al26 rfl ?_;intro aI bf H;refine kg 3 ?_;obtain ⟨aN,ay,az⟩:=M.e_bind hM
 obtain ⟨bg,ay⟩:=M.e_iter ay
 refine W.loop (fun m σ W=>∃ (s:Int) (s2:Int) (s3:Int) (ρ:Env),σ=upds ρ [(1,I s),(2,I ap),(3,Pq aw),(6,Pq ax),(8,Pq aI)]/\M.iterN (zbK ab aa ap) m (s,s2,s3)=some aN/\St w W [cBlk aI [I s2,I s3] 26,cBlk ax [I 0,I 0] 26,cBlk aw [ah,ai,aj,ak,I am,I ao,al] 53] R) ?_ ?_
 ·exact ⟨_,av,0,0,_,upds_of _ _ ⟨rfl,rfl,rfl,rfl,rfl,trivial⟩,ay,H⟩
 rintro bh σ bi ⟨s,s2,s3,ρ,rfl,aJ,H⟩
 obtain ⟨aK,aL,bj,hM,aq⟩:=M.e_iterN aJ
 simp only [zbK] at hM
 clear aJ;refine kg 7 ?_
 refine W.cond (s != ap) rfl (fun ac=>?_) (fun ac=>?_)
 ·replace hM:=M.e_t hM ac
  replace ac:=dI ac
  refine kg 3 ?_;refine W.drawT (fun W=>St w W [cBlk ax [I 0,I 0] 26,cBlk aw [ah,ai,aj,ak,I am,I ao,al] 53] R) (.q 0 (.q 2 (.q 3 (.q 4 (.q 5 (.q 6 (.q 7 (.q 9 (.q 11 (.q 12 (.q 13 (.q 14 (.q 15 (.q 16 (.l2 1 (.q 8 (.l 10 (.q 17 (.q 18 (.l 19 .nil))))) 10 (.q 17 (.l 1 (.q 8 (.q 18 (.l 19 .nil)))))))))))))))))))) mixed (by decide +kernel) rfl ?_;intro bm aM;replace H:=H.ext aM;clear aM
  refine ⟨(H.pk [1,2]),?_⟩
  obtain ⟨bn,hM⟩:=M.e_gd hM;obtain ⟨bo,hM⟩:=M.e_gd hM;obtain ⟨bp,hM⟩:=M.e_gd hM;refine kg 14 ?_;refine t_l2 rfl rfl ?_ ?_
  ·skip
   refine kg 1 ?_
   refine s_nil ⟨(H.pk [1,2]),?_⟩
   refine kg 1 ?_;refine t_l rfl ?_;refine kg 1 ?_
   refine s_nil ⟨(H.pk [1,2]),?_⟩
   refine kg 1 ?_;refine t_q rfl (fun w' H=>x_bld (ps:=[(0,I (s2+((aa.getD (Int.toNat s) default).lo))),(1,I (s3+((aa.getD (Int.toNat s) default).hi)))]) (zs:=[I 0,I 0]) (L':=[I (s2+((aa.getD (Int.toNat s) default).lo)),I (s3+((aa.getD (Int.toNat s) default).hi))]) rfl Tryz.underlying26 Al26 rfl (Bd26 Tryz.underlying26) (.cons (cs:=[I (s2+((aa.getD (Int.toNat s) default).lo))]) rfl rfl rfl rfl rfl<|.cons (cs:=[I (s3+((aa.getD (Int.toNat s) default).hi))]) rfl rfl rfl rfl rfl<|.nil))<|t_l rfl ?_;refine t_sw 0 0 [I (s2+((aa.getD (Int.toNat s) default).lo)),I (s3+((aa.getD (Int.toNat s) default).hi))] (.agg #[I (s2+((aa.getD (Int.toNat s) default).lo)),I (s3+((aa.getD (Int.toNat s) default).hi))]) H rfl rfl Sz26 rfl rfl rfl rfl ?_;intro br H
   refine s_nil ⟨(H.pk [1,2]),?_⟩
   obtain ⟨bt,hM⟩:=M.e_gd hM;refine kg 15 ?_
   refine W.cond ((ab.getD (Int.toNat s) 0)==(-1)) rfl (fun ae=>?_) (fun ae=>?_)
   ·replace hM:=M.e_t hM ae
    replace ae:=dI ae
    refine kg 2 ?_;refine s_val (x_bld (ps:=[]) (zs:=[I 0,I 0]) (L':=[I 0,I 0]) rfl Tryz.underlying26 Al26 rfl (Bd26 Tryz.underlying26) (.nil)) ?_;refine t_sw 1 0 [I 0,I 0] (.agg #[I 0,I 0]) H rfl rfl Sz26 rfl rfl rfl rfl ?_;intro bu H;refine kg 2 ?_;refine W.ret ?_
    have aO:=M.e_inr hM aq
    subst aO;replace hM:=az;(try dsimp only at hM)
    have aP:=(H.bl 1)
    have au:=M.e_pure hM
    exact ⟨_,(resE_ofn (vs:=[.agg #[I 0,I 0],B false]) rfl rfl (.cell (v:=.agg #[I 0,I 0]) rfl (run_loadVar_ag (ds:=[I 0,I 0]) Ag26 Sz26 aP rfl rfl)<|.tmp (v:=B false) rfl<|.nil)),⟨0,0,false,au,rfl,(H.pk [])⟩⟩
   replace hM:=M.e_f hM ae
   replace ae:=dI ae
   refine W.skip ?_
   exact ⟨aK,aL,ab.getD (Int.toNat s) 0,s2+((aa.getD (Int.toNat s) default).lo),s3+((aa.getD (Int.toNat s) default).hi),_,upds_of _ _ ⟨rfl,rfl,rfl,rfl,rfl,trivial⟩,M.e_inl hM aq,H⟩
  skip
  refine kg 1 ?_
  refine s_nil ⟨(H.pk [1,2]),?_⟩
  refine kg 1 ?_;refine t_l rfl ?_;refine kg 1 ?_
  refine s_nil ⟨(H.pk [1,2]),?_⟩
  refine kg 1 ?_;refine t_q rfl (fun w' H=>x_bld (ps:=[(0,I (s2+((aa.getD (Int.toNat s) default).lo))),(1,I (s3+((aa.getD (Int.toNat s) default).hi)))]) (zs:=[I 0,I 0]) (L':=[I (s2+((aa.getD (Int.toNat s) default).lo)),I (s3+((aa.getD (Int.toNat s) default).hi))]) rfl Tryz.underlying26 Al26 rfl (Bd26 Tryz.underlying26) (.cons (cs:=[I (s2+((aa.getD (Int.toNat s) default).lo))]) rfl rfl rfl rfl rfl<|.cons (cs:=[I (s3+((aa.getD (Int.toNat s) default).hi))]) rfl rfl rfl rfl rfl<|.nil))<|t_l rfl ?_;refine t_sw 0 0 [I (s2+((aa.getD (Int.toNat s) default).lo)),I (s3+((aa.getD (Int.toNat s) default).hi))] (.agg #[I (s2+((aa.getD (Int.toNat s) default).lo)),I (s3+((aa.getD (Int.toNat s) default).hi))]) H rfl rfl Sz26 rfl rfl rfl rfl ?_;intro bv H
  refine s_nil ⟨(H.pk [1,2]),?_⟩
  obtain ⟨bw,hM⟩:=M.e_gd hM;refine kg 15 ?_
  refine W.cond ((ab.getD (Int.toNat s) 0)==(-1)) rfl (fun ag=>?_) (fun ag=>?_)
  ·replace hM:=M.e_t hM ag
   replace ag:=dI ag
   refine kg 2 ?_;refine s_val (x_bld (ps:=[]) (zs:=[I 0,I 0]) (L':=[I 0,I 0]) rfl Tryz.underlying26 Al26 rfl (Bd26 Tryz.underlying26) (.nil)) ?_;refine t_sw 1 0 [I 0,I 0] (.agg #[I 0,I 0]) H rfl rfl Sz26 rfl rfl rfl rfl ?_;intro bx H;refine kg 2 ?_;refine W.ret ?_
   have aQ:=M.e_inr hM aq
   subst aQ;replace hM:=az;(try dsimp only at hM)
   have aR:=(H.bl 1)
   have au:=M.e_pure hM
   exact ⟨_,(resE_ofn (vs:=[.agg #[I 0,I 0],B false]) rfl rfl (.cell (v:=.agg #[I 0,I 0]) rfl (run_loadVar_ag (ds:=[I 0,I 0]) Ag26 Sz26 aR rfl rfl)<|.tmp (v:=B false) rfl<|.nil)),⟨0,0,false,au,rfl,(H.pk [])⟩⟩
  replace hM:=M.e_f hM ag
  replace ag:=dI ag
  refine W.skip ?_
  exact ⟨aK,aL,ab.getD (Int.toNat s) 0,s2+((aa.getD (Int.toNat s) default).lo),s3+((aa.getD (Int.toNat s) default).hi),_,upds_of _ _ ⟨rfl,rfl,rfl,rfl,rfl,trivial⟩,M.e_inl hM aq,H⟩
 replace hM:=M.e_f hM ac
 replace ac:=dI ac
 refine W.exit ?_
 have aS:=M.e_inr hM aq
 subst aS;replace hM:=az;(try dsimp only at hM);refine kg 3 ?_;refine t_sw 1 0 [I s2,I s3] (.agg #[I s2,I s3]) H rfl rfl Sz26 rfl rfl rfl rfl ?_;intro bz H;refine kg 2 ?_;replace H:=H.pk [1];refine W.ret ?_
 have aT:=(H.bl 0)
 have au:=M.e_pure hM
 exact ⟨_,(resE_ofn (vs:=[.agg #[I s2,I s3],B true]) rfl rfl (.cell (v:=.agg #[I s2,I s3]) rfl (run_loadVar_ag (ds:=[I s2,I s3]) Ag26 Sz26 aT rfl rfl)<|.tmp (v:=B true) rfl<|.nil)),⟨s2,s3,true,au,rfl,(H.pk [])⟩⟩

end Go.Proofs.YtbldmjejckjflabGreat
end
