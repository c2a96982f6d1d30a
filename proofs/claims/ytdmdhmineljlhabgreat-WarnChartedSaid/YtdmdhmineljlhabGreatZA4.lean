/- Part 4 of the texts on which the proof rests. Conditions: none. -/
import Derived.Test.YtdmdhmineljlhabGreatZA3
set_option linter.unusedVariables false
set_option linter.unusedSimpArgs false
set_option linter.unusedSectionVars false
section
set_option maxRecDepth 100000
set_option maxHeartbeats 16000000
namespace Go.Proofs.YtdmdhmineljlhabGreat
open Go Go.Nm
attribute [local irreducible] gd execOp SL SLD SLT WR
def zct (a:Int) (aa:List Int) (ab:List Span) (ac:List Int) (ae:List Town) (ag ah:Int) (ai:List Flood) (aj:List Int) (ak:List Span) (al:List Int) (am:List Town) (ao ap:Int) (aq:List Flood):((List Dem) × Int)->M (((List Dem) × Int) ⊕ ((List Dem) × (List Dem))):=fun (l,j) =>
  M.grd ((!(decide (a<j))||(decide ((0:Int)<=j)&&decide (j<(l.length:Int))))) <|
  M.grd ((!(decide (a<j))||(decide ((-9223372036854775808:Int)<=(j-1))&&decide ((j-1)<=(9223372036854775807:Int))))) <|
  M.grd ((!(decide (a<j))||(decide ((0:Int)<=(j-1))&&decide ((j-1)<(l.length:Int))))) <|
  bif decide (a<j) then (
  M.bind (zaS (l.getD (Int.toNat j) default) (l.getD (Int.toNat (j-1)) default) aa ab ac ae ag ah ai aj ak al am ao ap aq) fun r2 =>
  bif ((decide (a<j))&&(decide (r2<0))) then (
  M.grd (decide ((-9223372036854775808:Int)<=(j-1))&&decide ((j-1)<=(9223372036854775807:Int))) <|
  M.grd (decide ((0:Int)<=(j-1))&&decide ((j-1)<(l.length:Int))) <|
  M.grd (decide ((0:Int)<=j)&&decide (j<(l.length:Int))) <|
  M.grd (decide ((0:Int)<=(j-1))&&decide ((j-1)<((l.set (Int.toNat j) (l.getD (Int.toNat (j-1)) default)).length:Int))) <|
  M.pure (.inl ((l.set (Int.toNat j) (l.getD (Int.toNat (j-1)) default)).set (Int.toNat (j-1)) (l.getD (Int.toNat j) default),j-1)))
  else (
  M.pure (.inr (l,l))))
  else (
  bif ((decide (a<j))&&(decide ((0:Int)<0))) then (
  M.grd (decide ((-9223372036854775808:Int)<=(j-1))&&decide ((j-1)<=(9223372036854775807:Int))) <|
  M.grd (decide ((0:Int)<=(j-1))&&decide ((j-1)<(l.length:Int))) <|
  M.grd (decide ((0:Int)<=j)&&decide (j<(l.length:Int))) <|
  M.grd (decide ((0:Int)<=(j-1))&&decide ((j-1)<((l.set (Int.toNat j) (l.getD (Int.toNat (j-1)) default)).length:Int))) <|
  M.pure (.inl ((l.set (Int.toNat j) (l.getD (Int.toNat (j-1)) default)).set (Int.toNat (j-1)) (l.getD (Int.toNat j) default),j-1)))
  else (
  M.pure (.inr (l,l))))
def zch (a b:Int) (aa:List Int) (ab:List Span) (ac:List Int) (ae:List Town) (ag ah:Int) (ai:List Flood) (aj:List Int) (ak:List Span) (al:List Int) (am:List Town) (ao ap:Int) (aq:List Flood):((List Dem) × Int)->M (((List Dem) × Int) ⊕ (List Dem)):=fun (l4,i) =>
  bif decide (i<b) then (
  M.bind (M.iter (zct a aa ab ac ae ag ah ai aj ak al am ao ap aq) (l4,i)) fun (l2,l3) =>
  M.grd (decide ((-9223372036854775808:Int)<=(i+1))&&decide ((i+1)<=(9223372036854775807:Int))) <|
  M.pure (.inl (l3,i+1)))
  else (
  M.pure (.inr l4))
def zcp (data:List Dem) (a b:Int) (aa:List Int) (ab:List Span) (ac:List Int) (ae:List Town) (ag ah:Int) (ai:List Flood) (aj:List Int) (ak:List Span) (al:List Int) (am:List Town) (ao ap:Int) (aq:List Flood):M (List Dem) :=
  M.grd (decide ((-9223372036854775808:Int)<=(a+1))&&decide ((a+1)<=(9223372036854775807:Int))) <|
  M.bind (M.iter (zch a b aa ab ac ae ag ah ai aj ak al am ao ap aq) (data,a+1)) fun l5 =>
  M.pure l5
theorem zdj {R:List Chunk} {aj:Value} {aA:Nat} {aP:Nat} {aQ:Nat} {aR:Cells} {aS:Value} {aT:Cells} {aU:Value} {aV:Cells} {aW:Value} {aX:Cells} {aY:Value} {aZ:Cells} {a6:Value} {ak:Nat} {B_b_cmp2020207:Base} {a7:Nat} {a8:Nat} {ba:Cells} {bb:Value} {bc:Cells} {bf:Value} {bg:Cells} {bh:Value} {bi:Cells} {bj:Value} {bm:Cells} {bn:Value} {bw:Nat} (data:List Dem) (a:Int) (b:Int) (aa:List Int) (ab:List Span) (ac:List Int) (ae:List Town) (ag:Int) (ah:Int) (ai:List Flood) (aB:List Int) (aC:List Span) (aD:List Int) (aE:List Town) (aF:Int) (aG:Int) (aH:List Flood) (bx:Reads R aR) (bz:Sl aR aS aa) (bA:Reads R aT) (bB:Sl aT aU ab) (bC:Reads R aV) (bD:Sl aV aW ac) (bE:Reads R aX) (bF:Sl aX aY ae) (bG:Reads R aZ) (bH:Sl aZ a6 ai) (bI:Has R (cBlk aQ [aS,aU,aW,aY,I ag,I ah,a6,.map (some ak)] 90)) (bJ:Has R (cBlk aP [.func (.func 16) #[Pq aQ] #[]] 67)) (bK:Reads R ba) (bL:Sl ba bb aB) (bM:Reads R bc) (bN:Sl bc bf aC) (bO:Reads R bg) (bP:Sl bg bh aD) (bQ:Reads R bi) (bR:Sl bi bj aE) (bS:Reads R bm) (bT:Sl bm bn aH) (bU:Has R (cBlk a8 [bb,bf,bh,bj,I aF,I aG,bn,.map (some bw)] 90)) (bV:Has R (cBlk a7 [Pq a8] 62)) (bW:Has R (cBlk aA [.func (.func 60) #[] #[Pq aP,Pq a7]] 126)) {r:(List Dem)} (hM:(zcp data a b aa ab ac ae ag ah ai aB aC aD aE aF aG aH).Ends r) (w:World) (H:St w w [cOwn (α:=Dem) 49 aj data,cMem encDm ak B_b_cmp2020207 (zaa aa ab ac ae ag ah ai)] R):Ret Tryz.prog 94 #[aj,I a,I b,.func (.func 62) #[] #[Pq aA]] w fun v w'=>∃ (y0:List Dem) (bX:Base),y0=r/\v = .tuple #[]/\St w w' [cOwn (α:=Dem) 49 aj y0,cMem encDm ak bX (zaa aa ab ac ae ag ah ai)] R:=by
 refine ret_of_W Tryz.func94 rfl rfl rfl ?_;obtain ⟨cb,hM⟩:=M.e_gd hM;refine kg 7 ?_;obtain ⟨bY,aK,bZ⟩:=M.e_bind hM
 obtain ⟨b3,aK⟩:=M.e_iter aK
 refine W.loop (fun m σ W=>∃ (l4:List Dem) (i:Int) (B_mem2:Base) (ρ:Env),σ=upds ρ [(0,aj),(1,I a),(2,I b),(3,.func (.func 62) #[] #[Pq aA]),(8,I i)]/\M.iterN (zch a b aa ab ac ae ag ah ai aB aC aD aE aF aG aH) m (l4,i)=some bY/\St w W [cOwn (α:=Dem) 49 aj l4,cMem encDm ak B_mem2 (zaa aa ab ac ae ag ah ai)] R) ?_ ?_
 ·exact ⟨_,data,a+1,B_b_cmp2020207,_,upds_of _ _ ⟨rfl,rfl,rfl,rfl,rfl,trivial⟩,aK,H⟩
 rintro cc σ cd ⟨l4,i,B_mem2,ρ,rfl,bo,H⟩
 obtain ⟨bp,br,ce,hM,aL⟩:=M.e_iterN bo
 simp only [zch] at hM
 clear bo;refine kg 7 ?_
 refine W.cond (decide (i<b)) rfl (fun av=>?_) (fun av=>?_)
 ·replace hM:=M.e_t hM av
  replace av:=dI av
  refine kg 9 ?_;obtain ⟨b4,aM,bt⟩:=M.e_bind hM
  obtain ⟨b3,aM⟩:=M.e_iter aM
  refine W.loop (fun m σ W=>∃ (l:List Dem) (j:Int) (B_mem:Base) (ρ:Env),σ=upds ρ [(0,aj),(1,I a),(2,I b),(3,.func (.func 62) #[] #[Pq aA]),(8,I i),(9,I j)]/\M.iterN (zct a aa ab ac ae ag ah ai aB aC aD aE aF aG aH) m (l,j)=some b4/\St w W [cOwn (α:=Dem) 49 aj l,cMem encDm ak B_mem (zaa aa ab ac ae ag ah ai)] R) ?_ ?_
  ·exact ⟨_,l4,i,B_mem2,_,upds_of _ _ ⟨rfl,rfl,rfl,rfl,rfl,rfl,trivial⟩,aM,H⟩
  rintro cf σ cg ⟨l,j,B_mem,ρ,rfl,bu,H⟩
  obtain ⟨aq,au,ch,hM,ap⟩:=M.e_iterN bu
  simp only [zct] at hM
  clear bu;refine kg 2 ?_;refine W.draw (fun W=>St w W [cOwn (α:=Dem) 49 aj l] R) [(0,true),(1,true),(2,true),(3,true),(4,true),(5,true),(6,true),(7,true),(8,true),(9,true),(10,true),(11,true),(12,true),(13,true),(14,false),(15,true),(16,true)] mixed (by decide +kernel) rfl ?_;intro ci am;replace H:=H.ext am;clear am
  refine ⟨(H.pk [0]),?_⟩
  obtain ⟨aw,hM⟩:=M.e_grd hM
  replace aw:=M.imp_of aw
  simp only [Bool.and_eq_true,decide_eq_true_eq] at aw
  refine kg 8 ?_;refine d_qg (decide (a<j)) rfl (gy_t rfl) (fun hg=>(fun w' H=>x_ld (v:=.agg #[I ((l.getD (Int.toNat j) default).spring),I ((l.getD (Int.toNat j) default).town)]) (gd_of hg (vat aj 2 (Int.toNat j))) (ld_ag Ag49 Sz49 (At.mono (Dem_atA (H.os 0) (i:=j) (by have ao:=aw.resolve_left (by rw [hg]; decide); first | exact ao | exact ao.1 | exact ao.2 | omega | (have am:=hg; simp at am; omega)) (by have ao:=aw.resolve_left (by rw [hg]; decide); first | exact ao | exact ao.1 | exact ao.2 | omega | (have am:=hg; simp at am; omega))) (H.ol 0))))) ?_;obtain ⟨aI,hM⟩:=M.e_grd hM
  replace aI:=M.imp_of aI
  simp only [Bool.and_eq_true,decide_eq_true_eq] at aI
  obtain ⟨aJ,hM⟩:=M.e_grd hM
  replace aJ:=M.imp_of aJ
  simp only [Bool.and_eq_true,decide_eq_true_eq] at aJ
  refine kg 4 ?_;refine d_qg (decide (a<j)) rfl (gy_t rfl) (fun hg=>(fun w' H=>x_ld (v:=.agg #[I ((l.getD (Int.toNat (j-1)) default).spring),I ((l.getD (Int.toNat (j-1)) default).town)]) (gd_of hg (vat aj 2 (Int.toNat (j-1)))) (ld_ag Ag49 Sz49 (At.mono (Dem_atA (H.os 0) (i:=j-1) (by have ao:=aw.resolve_left (by rw [hg]; decide); have ax:=aI.resolve_left (by rw [hg]; decide); have ay:=aJ.resolve_left (by rw [hg]; decide); first | exact ao | exact ao.1 | exact ao.2 | exact ax | exact ax.1 | exact ax.2 | exact ay | exact ay.1 | exact ay.2 | omega | (have am:=hg; simp at am; omega)) (by have ao:=aw.resolve_left (by rw [hg]; decide); have ax:=aI.resolve_left (by rw [hg]; decide); have ay:=aJ.resolve_left (by rw [hg]; decide); first | exact ao | exact ao.1 | exact ao.2 | exact ax | exact ax.1 | exact ax.2 | exact ay | exact ay.1 | exact ay.2 | omega | (have am:=hg; simp at am; omega))) (H.ol 0)))))<|d_l rfl ?_
  refine g_splitV (decide (a<j)) (I 0) (gy_t rfl) (fun az=>?_) (fun az=>?_)
  ·replace hM:=M.e_t hM az;obtain ⟨cj,b6,hM⟩:=M.e_bind hM;refine s_callv (f:=62) (by exact (gd_of (c:=decide (a<j)) az (.func (.func 62) #[] #[Pq aA]))) cf62 [.agg #[I ((l.getD (Int.toNat j) default).spring),I ((l.getD (Int.toNat j) default).town)],.agg #[I ((l.getD (Int.toNat (j-1)) default).spring),I ((l.getD (Int.toNat (j-1)) default).town)]] (by exact (lst2 (gd_of (c:=decide (a<j)) az (.agg #[I ((l.getD (Int.toNat j) default).spring),I ((l.getD (Int.toNat j) default).town)])) (gd_of (c:=decide (a<j)) az (.agg #[I ((l.getD (Int.toNat (j-1)) default).spring),I ((l.getD (Int.toNat (j-1)) default).town)])))) (zbM (l.getD (Int.toNat j) default) (l.getD (Int.toNat (j-1)) default) aa ab ac ae ag ah ai aB aC aD aE aF aG aH (bx.app _) bz (bA.app _) bB (bC.app _) bD (bE.app _) bF (bG.app _) bH (bI.app _) (bJ.app _) (bK.app _) bL (bM.app _) bN (bO.app _) bP (bQ.app _) bR (bS.app _) bT (bU.app _) (bV.app _) (bW.app _) b6 _ ((H.pk [1,0]).gt 1)) ?_
   rintro vq ck ⟨r2,al,rfl,hvq,bv⟩
   subst vq;(try dsimp only at hM)
   replace H:=H.pk [1,0] |>.bk bv
   clear bv
   refine s_nil ⟨(H.pk [1]),?_⟩
   refine kg 3 ?_
   refine W.cond ((decide (a<j))&&(decide (r2<0))) rfl (fun aN=>?_) (fun aN=>?_)
   ·replace hM:=M.e_t hM aN;refine kg 3 ?_;refine W.drawT (fun W=>St w W [cMem encDm ak al (zaa aa ab ac ae ag ah ai)] R) (.q 0 (.q 1 (.q 2 (.q 3 (.q 4 (.q 5 (.q 6 (.q 7 (.q 10 (.q 11 (.l2 8 (.l2 9 (.l 12 (.l 13 (.l 14 (.l 15 (.l 16 (.l 17 .nil)))))) 12 (.l2 9 (.l 13 (.l 14 (.l 15 (.l 16 (.l 17 .nil))))) 13 (.l 9 (.l 14 (.l 15 (.l 16 (.l 17 .nil))))))) 12 (.l2 8 (.l2 9 (.l 13 (.l 14 (.l 15 (.l 16 (.l 17 .nil))))) 13 (.l 9 (.l 14 (.l 15 (.l 16 (.l 17 .nil)))))) 13 (.l 8 (.l 9 (.l 14 (.l 15 (.l 16 (.l 17 .nil)))))))))))))))))) mixed (by decide +kernel) rfl ?_;intro cl am;replace H:=H.ext am;clear am
    refine ⟨(H.pk [0]),?_⟩
    obtain ⟨cm,hM⟩:=M.e_gd hM;obtain ⟨cn,hM⟩:=M.e_gd hM;obtain ⟨co,hM⟩:=M.e_gd hM;obtain ⟨cp,hM⟩:=M.e_gd hM;refine kg 10 ?_;refine t_l2 rfl rfl ?_ ?_
    ·skip
     refine kg 1 ?_
     have cq:=Sl.cells (H.os 1)
     have cr:=Sl.oc (H.os 1)
     refine s_nil ⟨(H.pk [0]),?_⟩
     refine t_l2 rfl rfl ?_ ?_
     ·skip
      refine s_val (x_ld (v:=.agg #[I ((l.getD (Int.toNat (j-1)) default).spring),I ((l.getD (Int.toNat (j-1)) default).town)]) rfl (ld_ag Ag49 Sz49 (At.mono (Dem_atA (H.os 1) (i:=j-1) (by omega) (by omega)) (H.ol 1)))) ?_
      refine s_nil ⟨(H.pk [0]),?_⟩
      refine t_l rfl ?_;refine kg 1 ?_
      refine s_nil ⟨(H.pk [0]),?_⟩
      refine t_l rfl<|s_val (x_ld (v:=.agg #[I ((l.getD (Int.toNat j) default).spring),I ((l.getD (Int.toNat j) default).town)]) rfl (ld_ag Ag49 Sz49 (At.mono (Dem_atA (H.os 1) (i:=j) (by omega) (by omega)) (H.ol 1)))) ?_
      refine s_nil ⟨(H.pk [0]),?_⟩
      refine t_l rfl ?_;refine kg 1 ?_
      refine s_nil ⟨(H.pk [0]),?_⟩
      refine t_l rfl ?_;refine t_ost (k:=1) (i:=j) (l:=l) (l':=l.set (Int.toNat j) (l.getD (Int.toNat (j-1)) default)) (val:=.agg #[I ((l.getD (Int.toNat (j-1)) default).spring),I ((l.getD (Int.toNat (j-1)) default).town)]) (L':=[cMem encDm ak al (zaa aa ab ac ae ag ah ai),cOwn (α:=Dem) 49 aj (l.set (Int.toNat j) (l.getD (Int.toNat (j-1)) default))]) H rfl Sz49 (by omega) (by omega) (l.getD (Int.toNat (j-1)) default) rfl rfl rfl rfl rfl ?_;intro ct H
      refine s_nil ⟨(H.pk [0]),?_⟩
      refine t_l rfl ?_;refine kg 1 ?_
      refine s_nil ⟨(H.pk [0]),?_⟩
      refine t_l rfl ?_;refine t_ost (k:=1) (i:=j-1) (l:=l.set (Int.toNat j) (l.getD (Int.toNat (j-1)) default)) (l':=(l.set (Int.toNat j) (l.getD (Int.toNat (j-1)) default)).set (Int.toNat (j-1)) (l.getD (Int.toNat j) default)) (val:=.agg #[I ((l.getD (Int.toNat j) default).spring),I ((l.getD (Int.toNat j) default).town)]) (L':=[cMem encDm ak al (zaa aa ab ac ae ag ah ai),cOwn (α:=Dem) 49 aj ((l.set (Int.toNat j) (l.getD (Int.toNat (j-1)) default)).set (Int.toNat (j-1)) (l.getD (Int.toNat j) default))]) H rfl Sz49 (by omega) (by omega) (l.getD (Int.toNat j) default) rfl rfl rfl rfl rfl ?_;intro cu H
      refine s_nil ⟨(H.pk [0]),?_⟩
      refine kg 6 ?_
      exact ⟨aq,au,(l.set (Int.toNat j) (l.getD (Int.toNat (j-1)) default)).set (Int.toNat (j-1)) (l.getD (Int.toNat j) default),j-1,al,_,upds_of _ _ ⟨rfl,rfl,rfl,rfl,rfl,rfl,trivial⟩,M.e_inl hM ap,(H.pk [1,0])⟩
     skip
     refine kg 1 ?_
     refine s_nil ⟨(H.pk [0]),?_⟩
     refine t_l2 rfl rfl ?_ ?_
     ·skip
      refine s_val (x_ld (v:=.agg #[I ((l.getD (Int.toNat (j-1)) default).spring),I ((l.getD (Int.toNat (j-1)) default).town)]) rfl (ld_ag Ag49 Sz49 (At.mono (Dem_atA (H.os 1) (i:=j-1) (by omega) (by omega)) (H.ol 1)))) ?_
      refine s_nil ⟨(H.pk [0]),?_⟩
      refine t_l rfl<|s_val (x_ld (v:=.agg #[I ((l.getD (Int.toNat j) default).spring),I ((l.getD (Int.toNat j) default).town)]) rfl (ld_ag Ag49 Sz49 (At.mono (Dem_atA (H.os 1) (i:=j) (by omega) (by omega)) (H.ol 1)))) ?_
      refine s_nil ⟨(H.pk [0]),?_⟩
      refine t_l rfl ?_;refine kg 1 ?_
      refine s_nil ⟨(H.pk [0]),?_⟩
      refine t_l rfl ?_;refine t_ost (k:=1) (i:=j) (l:=l) (l':=l.set (Int.toNat j) (l.getD (Int.toNat (j-1)) default)) (val:=.agg #[I ((l.getD (Int.toNat (j-1)) default).spring),I ((l.getD (Int.toNat (j-1)) default).town)]) (L':=[cMem encDm ak al (zaa aa ab ac ae ag ah ai),cOwn (α:=Dem) 49 aj (l.set (Int.toNat j) (l.getD (Int.toNat (j-1)) default))]) H rfl Sz49 (by omega) (by omega) (l.getD (Int.toNat (j-1)) default) rfl rfl rfl rfl rfl ?_;intro cv H
      refine s_nil ⟨(H.pk [0]),?_⟩
      refine t_l rfl ?_;refine kg 1 ?_
      refine s_nil ⟨(H.pk [0]),?_⟩
      refine t_l rfl ?_;refine t_ost (k:=1) (i:=j-1) (l:=l.set (Int.toNat j) (l.getD (Int.toNat (j-1)) default)) (l':=(l.set (Int.toNat j) (l.getD (Int.toNat (j-1)) default)).set (Int.toNat (j-1)) (l.getD (Int.toNat j) default)) (val:=.agg #[I ((l.getD (Int.toNat j) default).spring),I ((l.getD (Int.toNat j) default).town)]) (L':=[cMem encDm ak al (zaa aa ab ac ae ag ah ai),cOwn (α:=Dem) 49 aj ((l.set (Int.toNat j) (l.getD (Int.toNat (j-1)) default)).set (Int.toNat (j-1)) (l.getD (Int.toNat j) default))]) H rfl Sz49 (by omega) (by omega) (l.getD (Int.toNat j) default) rfl rfl rfl rfl rfl ?_;intro cw H
      refine s_nil ⟨(H.pk [0]),?_⟩
      refine kg 6 ?_
      exact ⟨aq,au,(l.set (Int.toNat j) (l.getD (Int.toNat (j-1)) default)).set (Int.toNat (j-1)) (l.getD (Int.toNat j) default),j-1,al,_,upds_of _ _ ⟨rfl,rfl,rfl,rfl,rfl,rfl,trivial⟩,M.e_inl hM ap,(H.pk [1,0])⟩
     skip
     refine s_val (x_ld (v:=.agg #[I ((l.getD (Int.toNat j) default).spring),I ((l.getD (Int.toNat j) default).town)]) rfl (ld_ag Ag49 Sz49 (At.mono (Dem_atA (H.os 1) (i:=j) (by omega) (by omega)) (H.ol 1)))) ?_
     refine s_nil ⟨(H.pk [0]),?_⟩
     refine t_l rfl<|s_val (x_ld (v:=.agg #[I ((l.getD (Int.toNat (j-1)) default).spring),I ((l.getD (Int.toNat (j-1)) default).town)]) rfl (ld_ag Ag49 Sz49 (At.mono (Dem_atA (H.os 1) (i:=j-1) (by omega) (by omega)) (H.ol 1)))) ?_
     refine s_nil ⟨(H.pk [0]),?_⟩
     refine t_l rfl ?_;refine kg 1 ?_
     refine s_nil ⟨(H.pk [0]),?_⟩
     refine t_l rfl ?_;refine t_ost (k:=1) (i:=j) (l:=l) (l':=l.set (Int.toNat j) (l.getD (Int.toNat (j-1)) default)) (val:=.agg #[I ((l.getD (Int.toNat (j-1)) default).spring),I ((l.getD (Int.toNat (j-1)) default).town)]) (L':=[cMem encDm ak al (zaa aa ab ac ae ag ah ai),cOwn (α:=Dem) 49 aj (l.set (Int.toNat j) (l.getD (Int.toNat (j-1)) default))]) H rfl Sz49 (by omega) (by omega) (l.getD (Int.toNat (j-1)) default) rfl rfl rfl rfl rfl ?_;intro cx H
     refine s_nil ⟨(H.pk [0]),?_⟩
     refine t_l rfl ?_;refine kg 1 ?_
     refine s_nil ⟨(H.pk [0]),?_⟩
     refine t_l rfl ?_;refine t_ost (k:=1) (i:=j-1) (l:=l.set (Int.toNat j) (l.getD (Int.toNat (j-1)) default)) (l':=(l.set (Int.toNat j) (l.getD (Int.toNat (j-1)) default)).set (Int.toNat (j-1)) (l.getD (Int.toNat j) default)) (val:=.agg #[I ((l.getD (Int.toNat j) default).spring),I ((l.getD (Int.toNat j) default).town)]) (L':=[cMem encDm ak al (zaa aa ab ac ae ag ah ai),cOwn (α:=Dem) 49 aj ((l.set (Int.toNat j) (l.getD (Int.toNat (j-1)) default)).set (Int.toNat (j-1)) (l.getD (Int.toNat j) default))]) H rfl Sz49 (by omega) (by omega) (l.getD (Int.toNat j) default) rfl rfl rfl rfl rfl ?_;intro cy H
     refine s_nil ⟨(H.pk [0]),?_⟩
     refine kg 6 ?_
     exact ⟨aq,au,(l.set (Int.toNat j) (l.getD (Int.toNat (j-1)) default)).set (Int.toNat (j-1)) (l.getD (Int.toNat j) default),j-1,al,_,upds_of _ _ ⟨rfl,rfl,rfl,rfl,rfl,rfl,trivial⟩,M.e_inl hM ap,(H.pk [1,0])⟩
    skip
    refine kg 1 ?_
    have cz:=Sl.cells (H.os 1)
    have cA:=Sl.oc (H.os 1)
    refine s_nil ⟨(H.pk [0]),?_⟩
    refine t_l2 rfl rfl ?_ ?_
    ·skip
     refine kg 1 ?_
     refine s_nil ⟨(H.pk [0]),?_⟩
     refine t_l2 rfl rfl ?_ ?_
     ·skip
      refine s_val (x_ld (v:=.agg #[I ((l.getD (Int.toNat (j-1)) default).spring),I ((l.getD (Int.toNat (j-1)) default).town)]) rfl (ld_ag Ag49 Sz49 (At.mono (Dem_atA (H.os 1) (i:=j-1) (by omega) (by omega)) (H.ol 1)))) ?_
      refine s_nil ⟨(H.pk [0]),?_⟩
      refine t_l rfl<|s_val (x_ld (v:=.agg #[I ((l.getD (Int.toNat j) default).spring),I ((l.getD (Int.toNat j) default).town)]) rfl (ld_ag Ag49 Sz49 (At.mono (Dem_atA (H.os 1) (i:=j) (by omega) (by omega)) (H.ol 1)))) ?_
      refine s_nil ⟨(H.pk [0]),?_⟩
      refine t_l rfl ?_;refine kg 1 ?_
      refine s_nil ⟨(H.pk [0]),?_⟩
      refine t_l rfl ?_;refine t_ost (k:=1) (i:=j) (l:=l) (l':=l.set (Int.toNat j) (l.getD (Int.toNat (j-1)) default)) (val:=.agg #[I ((l.getD (Int.toNat (j-1)) default).spring),I ((l.getD (Int.toNat (j-1)) default).town)]) (L':=[cMem encDm ak al (zaa aa ab ac ae ag ah ai),cOwn (α:=Dem) 49 aj (l.set (Int.toNat j) (l.getD (Int.toNat (j-1)) default))]) H rfl Sz49 (by omega) (by omega) (l.getD (Int.toNat (j-1)) default) rfl rfl rfl rfl rfl ?_;intro cB H
      refine s_nil ⟨(H.pk [0]),?_⟩
      refine t_l rfl ?_;refine kg 1 ?_
      refine s_nil ⟨(H.pk [0]),?_⟩
      refine t_l rfl ?_;refine t_ost (k:=1) (i:=j-1) (l:=l.set (Int.toNat j) (l.getD (Int.toNat (j-1)) default)) (l':=(l.set (Int.toNat j) (l.getD (Int.toNat (j-1)) default)).set (Int.toNat (j-1)) (l.getD (Int.toNat j) default)) (val:=.agg #[I ((l.getD (Int.toNat j) default).spring),I ((l.getD (Int.toNat j) default).town)]) (L':=[cMem encDm ak al (zaa aa ab ac ae ag ah ai),cOwn (α:=Dem) 49 aj ((l.set (Int.toNat j) (l.getD (Int.toNat (j-1)) default)).set (Int.toNat (j-1)) (l.getD (Int.toNat j) default))]) H rfl Sz49 (by omega) (by omega) (l.getD (Int.toNat j) default) rfl rfl rfl rfl rfl ?_;intro cC H
      refine s_nil ⟨(H.pk [0]),?_⟩
      refine kg 6 ?_
      exact ⟨aq,au,(l.set (Int.toNat j) (l.getD (Int.toNat (j-1)) default)).set (Int.toNat (j-1)) (l.getD (Int.toNat j) default),j-1,al,_,upds_of _ _ ⟨rfl,rfl,rfl,rfl,rfl,rfl,trivial⟩,M.e_inl hM ap,(H.pk [1,0])⟩
     skip
     refine s_val (x_ld (v:=.agg #[I ((l.getD (Int.toNat j) default).spring),I ((l.getD (Int.toNat j) default).town)]) rfl (ld_ag Ag49 Sz49 (At.mono (Dem_atA (H.os 1) (i:=j) (by omega) (by omega)) (H.ol 1)))) ?_
     refine s_nil ⟨(H.pk [0]),?_⟩
     refine t_l rfl<|s_val (x_ld (v:=.agg #[I ((l.getD (Int.toNat (j-1)) default).spring),I ((l.getD (Int.toNat (j-1)) default).town)]) rfl (ld_ag Ag49 Sz49 (At.mono (Dem_atA (H.os 1) (i:=j-1) (by omega) (by omega)) (H.ol 1)))) ?_
     refine s_nil ⟨(H.pk [0]),?_⟩
     refine t_l rfl ?_;refine kg 1 ?_
     refine s_nil ⟨(H.pk [0]),?_⟩
     refine t_l rfl ?_;refine t_ost (k:=1) (i:=j) (l:=l) (l':=l.set (Int.toNat j) (l.getD (Int.toNat (j-1)) default)) (val:=.agg #[I ((l.getD (Int.toNat (j-1)) default).spring),I ((l.getD (Int.toNat (j-1)) default).town)]) (L':=[cMem encDm ak al (zaa aa ab ac ae ag ah ai),cOwn (α:=Dem) 49 aj (l.set (Int.toNat j) (l.getD (Int.toNat (j-1)) default))]) H rfl Sz49 (by omega) (by omega) (l.getD (Int.toNat (j-1)) default) rfl rfl rfl rfl rfl ?_;intro cD H
     refine s_nil ⟨(H.pk [0]),?_⟩
     refine t_l rfl ?_;refine kg 1 ?_
     refine s_nil ⟨(H.pk [0]),?_⟩
     refine t_l rfl ?_;refine t_ost (k:=1) (i:=j-1) (l:=l.set (Int.toNat j) (l.getD (Int.toNat (j-1)) default)) (l':=(l.set (Int.toNat j) (l.getD (Int.toNat (j-1)) default)).set (Int.toNat (j-1)) (l.getD (Int.toNat j) default)) (val:=.agg #[I ((l.getD (Int.toNat j) default).spring),I ((l.getD (Int.toNat j) default).town)]) (L':=[cMem encDm ak al (zaa aa ab ac ae ag ah ai),cOwn (α:=Dem) 49 aj ((l.set (Int.toNat j) (l.getD (Int.toNat (j-1)) default)).set (Int.toNat (j-1)) (l.getD (Int.toNat j) default))]) H rfl Sz49 (by omega) (by omega) (l.getD (Int.toNat j) default) rfl rfl rfl rfl rfl ?_;intro cE H
     refine s_nil ⟨(H.pk [0]),?_⟩
     refine kg 6 ?_
     exact ⟨aq,au,(l.set (Int.toNat j) (l.getD (Int.toNat (j-1)) default)).set (Int.toNat (j-1)) (l.getD (Int.toNat j) default),j-1,al,_,upds_of _ _ ⟨rfl,rfl,rfl,rfl,rfl,rfl,trivial⟩,M.e_inl hM ap,(H.pk [1,0])⟩
    skip
    refine s_val (x_ld (v:=.agg #[I ((l.getD (Int.toNat j) default).spring),I ((l.getD (Int.toNat j) default).town)]) rfl (ld_ag Ag49 Sz49 (At.mono (Dem_atA (H.os 1) (i:=j) (by omega) (by omega)) (H.ol 1)))) ?_
    refine s_nil ⟨(H.pk [0]),?_⟩
    refine t_l rfl ?_;refine kg 1 ?_
    refine s_nil ⟨(H.pk [0]),?_⟩
    refine t_l rfl<|s_val (x_ld (v:=.agg #[I ((l.getD (Int.toNat (j-1)) default).spring),I ((l.getD (Int.toNat (j-1)) default).town)]) rfl (ld_ag Ag49 Sz49 (At.mono (Dem_atA (H.os 1) (i:=j-1) (by omega) (by omega)) (H.ol 1)))) ?_
    refine s_nil ⟨(H.pk [0]),?_⟩
    refine t_l rfl ?_;refine kg 1 ?_
    refine s_nil ⟨(H.pk [0]),?_⟩
    refine t_l rfl ?_;refine t_ost (k:=1) (i:=j) (l:=l) (l':=l.set (Int.toNat j) (l.getD (Int.toNat (j-1)) default)) (val:=.agg #[I ((l.getD (Int.toNat (j-1)) default).spring),I ((l.getD (Int.toNat (j-1)) default).town)]) (L':=[cMem encDm ak al (zaa aa ab ac ae ag ah ai),cOwn (α:=Dem) 49 aj (l.set (Int.toNat j) (l.getD (Int.toNat (j-1)) default))]) H rfl Sz49 (by omega) (by omega) (l.getD (Int.toNat (j-1)) default) rfl rfl rfl rfl rfl ?_;intro cF H
    refine s_nil ⟨(H.pk [0]),?_⟩
    refine t_l rfl ?_;refine kg 1 ?_
    refine s_nil ⟨(H.pk [0]),?_⟩
    refine t_l rfl ?_;refine t_ost (k:=1) (i:=j-1) (l:=l.set (Int.toNat j) (l.getD (Int.toNat (j-1)) default)) (l':=(l.set (Int.toNat j) (l.getD (Int.toNat (j-1)) default)).set (Int.toNat (j-1)) (l.getD (Int.toNat j) default)) (val:=.agg #[I ((l.getD (Int.toNat j) default).spring),I ((l.getD (Int.toNat j) default).town)]) (L':=[cMem encDm ak al (zaa aa ab ac ae ag ah ai),cOwn (α:=Dem) 49 aj ((l.set (Int.toNat j) (l.getD (Int.toNat (j-1)) default)).set (Int.toNat (j-1)) (l.getD (Int.toNat j) default))]) H rfl Sz49 (by omega) (by omega) (l.getD (Int.toNat j) default) rfl rfl rfl rfl rfl ?_;intro cG H
    refine s_nil ⟨(H.pk [0]),?_⟩
    refine kg 6 ?_
    exact ⟨aq,au,(l.set (Int.toNat j) (l.getD (Int.toNat (j-1)) default)).set (Int.toNat (j-1)) (l.getD (Int.toNat j) default),j-1,al,_,upds_of _ _ ⟨rfl,rfl,rfl,rfl,rfl,rfl,trivial⟩,M.e_inl hM ap,(H.pk [1,0])⟩
   replace hM:=M.e_f hM aN;refine W.exit ?_
   have b7:=M.e_inr hM ap
   subst b7;replace hM:=bt;(try dsimp only at hM);obtain ⟨cH,hM⟩:=M.e_gd hM;refine kg 5 ?_
   exact ⟨bp,br,l,i+1,al,_,upds_of _ _ ⟨rfl,rfl,rfl,rfl,rfl,trivial⟩,M.e_inl hM aL,(H.pk [1,0])⟩
  replace hM:=M.e_f hM az
  refine s_nil ⟨(H.pk [0]),?_⟩
  refine kg 3 ?_
  refine W.cond ((decide (a<j))&&(decide ((0:Int)<0))) rfl (fun aO=>?_) (fun aO=>?_)
  ·replace hM:=M.e_t hM aO;refine kg 3 ?_;refine W.drawT (fun W=>St w W [cMem encDm ak B_mem (zaa aa ab ac ae ag ah ai)] R) (.q 0 (.q 1 (.q 2 (.q 3 (.q 4 (.q 5 (.q 6 (.q 7 (.q 10 (.q 11 (.l2 8 (.l2 9 (.l 12 (.l 13 (.l 14 (.l 15 (.l 16 (.l 17 .nil)))))) 12 (.l2 9 (.l 13 (.l 14 (.l 15 (.l 16 (.l 17 .nil))))) 13 (.l 9 (.l 14 (.l 15 (.l 16 (.l 17 .nil))))))) 12 (.l2 8 (.l2 9 (.l 13 (.l 14 (.l 15 (.l 16 (.l 17 .nil))))) 13 (.l 9 (.l 14 (.l 15 (.l 16 (.l 17 .nil)))))) 13 (.l 8 (.l 9 (.l 14 (.l 15 (.l 16 (.l 17 .nil)))))))))))))))))) mixed (by decide +kernel) rfl ?_;intro cI am;replace H:=H.ext am;clear am
   refine ⟨(H.pk [1]),?_⟩
   obtain ⟨cJ,hM⟩:=M.e_gd hM;obtain ⟨cK,hM⟩:=M.e_gd hM;obtain ⟨cL,hM⟩:=M.e_gd hM;obtain ⟨cM,hM⟩:=M.e_gd hM;refine kg 10 ?_;refine t_l2 rfl rfl ?_ ?_
   ·skip
    refine kg 1 ?_
    have cN:=Sl.cells (H.os 0)
    have cO:=Sl.oc (H.os 0)
    refine s_nil ⟨(H.pk [1]),?_⟩
    refine t_l2 rfl rfl ?_ ?_
    ·skip
     refine s_val (x_ld (v:=.agg #[I ((l.getD (Int.toNat (j-1)) default).spring),I ((l.getD (Int.toNat (j-1)) default).town)]) rfl (ld_ag Ag49 Sz49 (At.mono (Dem_atA (H.os 0) (i:=j-1) (by omega) (by omega)) (H.ol 0)))) ?_
     refine s_nil ⟨(H.pk [1]),?_⟩
     refine t_l rfl ?_;refine kg 1 ?_
     refine s_nil ⟨(H.pk [1]),?_⟩
     refine t_l rfl<|s_val (x_ld (v:=.agg #[I ((l.getD (Int.toNat j) default).spring),I ((l.getD (Int.toNat j) default).town)]) rfl (ld_ag Ag49 Sz49 (At.mono (Dem_atA (H.os 0) (i:=j) (by omega) (by omega)) (H.ol 0)))) ?_
     refine s_nil ⟨(H.pk [1]),?_⟩
     refine t_l rfl ?_;refine kg 1 ?_
     refine s_nil ⟨(H.pk [1]),?_⟩
     refine t_l rfl ?_;refine t_ost (k:=0) (i:=j) (l:=l) (l':=l.set (Int.toNat j) (l.getD (Int.toNat (j-1)) default)) (val:=.agg #[I ((l.getD (Int.toNat (j-1)) default).spring),I ((l.getD (Int.toNat (j-1)) default).town)]) (L':=[cOwn (α:=Dem) 49 aj (l.set (Int.toNat j) (l.getD (Int.toNat (j-1)) default)),cMem encDm ak B_mem (zaa aa ab ac ae ag ah ai)]) H rfl Sz49 (by omega) (by omega) (l.getD (Int.toNat (j-1)) default) rfl rfl rfl rfl rfl ?_;intro cP H
     refine s_nil ⟨(H.pk [1]),?_⟩
     refine t_l rfl ?_;refine kg 1 ?_
     refine s_nil ⟨(H.pk [1]),?_⟩
     refine t_l rfl ?_;refine t_ost (k:=0) (i:=j-1) (l:=l.set (Int.toNat j) (l.getD (Int.toNat (j-1)) default)) (l':=(l.set (Int.toNat j) (l.getD (Int.toNat (j-1)) default)).set (Int.toNat (j-1)) (l.getD (Int.toNat j) default)) (val:=.agg #[I ((l.getD (Int.toNat j) default).spring),I ((l.getD (Int.toNat j) default).town)]) (L':=[cOwn (α:=Dem) 49 aj ((l.set (Int.toNat j) (l.getD (Int.toNat (j-1)) default)).set (Int.toNat (j-1)) (l.getD (Int.toNat j) default)),cMem encDm ak B_mem (zaa aa ab ac ae ag ah ai)]) H rfl Sz49 (by omega) (by omega) (l.getD (Int.toNat j) default) rfl rfl rfl rfl rfl ?_;intro cQ H
     refine s_nil ⟨(H.pk [1]),?_⟩
     refine kg 6 ?_
     exact ⟨aq,au,(l.set (Int.toNat j) (l.getD (Int.toNat (j-1)) default)).set (Int.toNat (j-1)) (l.getD (Int.toNat j) default),j-1,B_mem,_,upds_of _ _ ⟨rfl,rfl,rfl,rfl,rfl,rfl,trivial⟩,M.e_inl hM ap,H⟩
    skip
    refine kg 1 ?_
    refine s_nil ⟨(H.pk [1]),?_⟩
    refine t_l2 rfl rfl ?_ ?_
    ·skip
     refine s_val (x_ld (v:=.agg #[I ((l.getD (Int.toNat (j-1)) default).spring),I ((l.getD (Int.toNat (j-1)) default).town)]) rfl (ld_ag Ag49 Sz49 (At.mono (Dem_atA (H.os 0) (i:=j-1) (by omega) (by omega)) (H.ol 0)))) ?_
     refine s_nil ⟨(H.pk [1]),?_⟩
     refine t_l rfl<|s_val (x_ld (v:=.agg #[I ((l.getD (Int.toNat j) default).spring),I ((l.getD (Int.toNat j) default).town)]) rfl (ld_ag Ag49 Sz49 (At.mono (Dem_atA (H.os 0) (i:=j) (by omega) (by omega)) (H.ol 0)))) ?_
     refine s_nil ⟨(H.pk [1]),?_⟩
     refine t_l rfl ?_;refine kg 1 ?_
     refine s_nil ⟨(H.pk [1]),?_⟩
     refine t_l rfl ?_;refine t_ost (k:=0) (i:=j) (l:=l) (l':=l.set (Int.toNat j) (l.getD (Int.toNat (j-1)) default)) (val:=.agg #[I ((l.getD (Int.toNat (j-1)) default).spring),I ((l.getD (Int.toNat (j-1)) default).town)]) (L':=[cOwn (α:=Dem) 49 aj (l.set (Int.toNat j) (l.getD (Int.toNat (j-1)) default)),cMem encDm ak B_mem (zaa aa ab ac ae ag ah ai)]) H rfl Sz49 (by omega) (by omega) (l.getD (Int.toNat (j-1)) default) rfl rfl rfl rfl rfl ?_;intro cR H
     refine s_nil ⟨(H.pk [1]),?_⟩
     refine t_l rfl ?_;refine kg 1 ?_
     refine s_nil ⟨(H.pk [1]),?_⟩
     refine t_l rfl ?_;refine t_ost (k:=0) (i:=j-1) (l:=l.set (Int.toNat j) (l.getD (Int.toNat (j-1)) default)) (l':=(l.set (Int.toNat j) (l.getD (Int.toNat (j-1)) default)).set (Int.toNat (j-1)) (l.getD (Int.toNat j) default)) (val:=.agg #[I ((l.getD (Int.toNat j) default).spring),I ((l.getD (Int.toNat j) default).town)]) (L':=[cOwn (α:=Dem) 49 aj ((l.set (Int.toNat j) (l.getD (Int.toNat (j-1)) default)).set (Int.toNat (j-1)) (l.getD (Int.toNat j) default)),cMem encDm ak B_mem (zaa aa ab ac ae ag ah ai)]) H rfl Sz49 (by omega) (by omega) (l.getD (Int.toNat j) default) rfl rfl rfl rfl rfl ?_;intro cS H
     refine s_nil ⟨(H.pk [1]),?_⟩
     refine kg 6 ?_
     exact ⟨aq,au,(l.set (Int.toNat j) (l.getD (Int.toNat (j-1)) default)).set (Int.toNat (j-1)) (l.getD (Int.toNat j) default),j-1,B_mem,_,upds_of _ _ ⟨rfl,rfl,rfl,rfl,rfl,rfl,trivial⟩,M.e_inl hM ap,H⟩
    skip
    refine s_val (x_ld (v:=.agg #[I ((l.getD (Int.toNat j) default).spring),I ((l.getD (Int.toNat j) default).town)]) rfl (ld_ag Ag49 Sz49 (At.mono (Dem_atA (H.os 0) (i:=j) (by omega) (by omega)) (H.ol 0)))) ?_
    refine s_nil ⟨(H.pk [1]),?_⟩
    refine t_l rfl<|s_val (x_ld (v:=.agg #[I ((l.getD (Int.toNat (j-1)) default).spring),I ((l.getD (Int.toNat (j-1)) default).town)]) rfl (ld_ag Ag49 Sz49 (At.mono (Dem_atA (H.os 0) (i:=j-1) (by omega) (by omega)) (H.ol 0)))) ?_
    refine s_nil ⟨(H.pk [1]),?_⟩
    refine t_l rfl ?_;refine kg 1 ?_
    refine s_nil ⟨(H.pk [1]),?_⟩
    refine t_l rfl ?_;refine t_ost (k:=0) (i:=j) (l:=l) (l':=l.set (Int.toNat j) (l.getD (Int.toNat (j-1)) default)) (val:=.agg #[I ((l.getD (Int.toNat (j-1)) default).spring),I ((l.getD (Int.toNat (j-1)) default).town)]) (L':=[cOwn (α:=Dem) 49 aj (l.set (Int.toNat j) (l.getD (Int.toNat (j-1)) default)),cMem encDm ak B_mem (zaa aa ab ac ae ag ah ai)]) H rfl Sz49 (by omega) (by omega) (l.getD (Int.toNat (j-1)) default) rfl rfl rfl rfl rfl ?_;intro cT H
    refine s_nil ⟨(H.pk [1]),?_⟩
    refine t_l rfl ?_;refine kg 1 ?_
    refine s_nil ⟨(H.pk [1]),?_⟩
    refine t_l rfl ?_;refine t_ost (k:=0) (i:=j-1) (l:=l.set (Int.toNat j) (l.getD (Int.toNat (j-1)) default)) (l':=(l.set (Int.toNat j) (l.getD (Int.toNat (j-1)) default)).set (Int.toNat (j-1)) (l.getD (Int.toNat j) default)) (val:=.agg #[I ((l.getD (Int.toNat j) default).spring),I ((l.getD (Int.toNat j) default).town)]) (L':=[cOwn (α:=Dem) 49 aj ((l.set (Int.toNat j) (l.getD (Int.toNat (j-1)) default)).set (Int.toNat (j-1)) (l.getD (Int.toNat j) default)),cMem encDm ak B_mem (zaa aa ab ac ae ag ah ai)]) H rfl Sz49 (by omega) (by omega) (l.getD (Int.toNat j) default) rfl rfl rfl rfl rfl ?_;intro cU H
    refine s_nil ⟨(H.pk [1]),?_⟩
    refine kg 6 ?_
    exact ⟨aq,au,(l.set (Int.toNat j) (l.getD (Int.toNat (j-1)) default)).set (Int.toNat (j-1)) (l.getD (Int.toNat j) default),j-1,B_mem,_,upds_of _ _ ⟨rfl,rfl,rfl,rfl,rfl,rfl,trivial⟩,M.e_inl hM ap,H⟩
   skip
   refine kg 1 ?_
   have cV:=Sl.cells (H.os 0)
   have cW:=Sl.oc (H.os 0)
   refine s_nil ⟨(H.pk [1]),?_⟩
   refine t_l2 rfl rfl ?_ ?_
   ·skip
    refine kg 1 ?_
    refine s_nil ⟨(H.pk [1]),?_⟩
    refine t_l2 rfl rfl ?_ ?_
    ·skip
     refine s_val (x_ld (v:=.agg #[I ((l.getD (Int.toNat (j-1)) default).spring),I ((l.getD (Int.toNat (j-1)) default).town)]) rfl (ld_ag Ag49 Sz49 (At.mono (Dem_atA (H.os 0) (i:=j-1) (by omega) (by omega)) (H.ol 0)))) ?_
     refine s_nil ⟨(H.pk [1]),?_⟩
     refine t_l rfl<|s_val (x_ld (v:=.agg #[I ((l.getD (Int.toNat j) default).spring),I ((l.getD (Int.toNat j) default).town)]) rfl (ld_ag Ag49 Sz49 (At.mono (Dem_atA (H.os 0) (i:=j) (by omega) (by omega)) (H.ol 0)))) ?_
     refine s_nil ⟨(H.pk [1]),?_⟩
     refine t_l rfl ?_;refine kg 1 ?_
     refine s_nil ⟨(H.pk [1]),?_⟩
     refine t_l rfl ?_;refine t_ost (k:=0) (i:=j) (l:=l) (l':=l.set (Int.toNat j) (l.getD (Int.toNat (j-1)) default)) (val:=.agg #[I ((l.getD (Int.toNat (j-1)) default).spring),I ((l.getD (Int.toNat (j-1)) default).town)]) (L':=[cOwn (α:=Dem) 49 aj (l.set (Int.toNat j) (l.getD (Int.toNat (j-1)) default)),cMem encDm ak B_mem (zaa aa ab ac ae ag ah ai)]) H rfl Sz49 (by omega) (by omega) (l.getD (Int.toNat (j-1)) default) rfl rfl rfl rfl rfl ?_;intro cX H
     refine s_nil ⟨(H.pk [1]),?_⟩
     refine t_l rfl ?_;refine kg 1 ?_
     refine s_nil ⟨(H.pk [1]),?_⟩
     refine t_l rfl ?_;refine t_ost (k:=0) (i:=j-1) (l:=l.set (Int.toNat j) (l.getD (Int.toNat (j-1)) default)) (l':=(l.set (Int.toNat j) (l.getD (Int.toNat (j-1)) default)).set (Int.toNat (j-1)) (l.getD (Int.toNat j) default)) (val:=.agg #[I ((l.getD (Int.toNat j) default).spring),I ((l.getD (Int.toNat j) default).town)]) (L':=[cOwn (α:=Dem) 49 aj ((l.set (Int.toNat j) (l.getD (Int.toNat (j-1)) default)).set (Int.toNat (j-1)) (l.getD (Int.toNat j) default)),cMem encDm ak B_mem (zaa aa ab ac ae ag ah ai)]) H rfl Sz49 (by omega) (by omega) (l.getD (Int.toNat j) default) rfl rfl rfl rfl rfl ?_;intro cY H
     refine s_nil ⟨(H.pk [1]),?_⟩
     refine kg 6 ?_
     exact ⟨aq,au,(l.set (Int.toNat j) (l.getD (Int.toNat (j-1)) default)).set (Int.toNat (j-1)) (l.getD (Int.toNat j) default),j-1,B_mem,_,upds_of _ _ ⟨rfl,rfl,rfl,rfl,rfl,rfl,trivial⟩,M.e_inl hM ap,H⟩
    skip
    refine s_val (x_ld (v:=.agg #[I ((l.getD (Int.toNat j) default).spring),I ((l.getD (Int.toNat j) default).town)]) rfl (ld_ag Ag49 Sz49 (At.mono (Dem_atA (H.os 0) (i:=j) (by omega) (by omega)) (H.ol 0)))) ?_
    refine s_nil ⟨(H.pk [1]),?_⟩
    refine t_l rfl<|s_val (x_ld (v:=.agg #[I ((l.getD (Int.toNat (j-1)) default).spring),I ((l.getD (Int.toNat (j-1)) default).town)]) rfl (ld_ag Ag49 Sz49 (At.mono (Dem_atA (H.os 0) (i:=j-1) (by omega) (by omega)) (H.ol 0)))) ?_
    refine s_nil ⟨(H.pk [1]),?_⟩
    refine t_l rfl ?_;refine kg 1 ?_
    refine s_nil ⟨(H.pk [1]),?_⟩
    refine t_l rfl ?_;refine t_ost (k:=0) (i:=j) (l:=l) (l':=l.set (Int.toNat j) (l.getD (Int.toNat (j-1)) default)) (val:=.agg #[I ((l.getD (Int.toNat (j-1)) default).spring),I ((l.getD (Int.toNat (j-1)) default).town)]) (L':=[cOwn (α:=Dem) 49 aj (l.set (Int.toNat j) (l.getD (Int.toNat (j-1)) default)),cMem encDm ak B_mem (zaa aa ab ac ae ag ah ai)]) H rfl Sz49 (by omega) (by omega) (l.getD (Int.toNat (j-1)) default) rfl rfl rfl rfl rfl ?_;intro cZ H
    refine s_nil ⟨(H.pk [1]),?_⟩
    refine t_l rfl ?_;refine kg 1 ?_
    refine s_nil ⟨(H.pk [1]),?_⟩
    refine t_l rfl ?_;refine t_ost (k:=0) (i:=j-1) (l:=l.set (Int.toNat j) (l.getD (Int.toNat (j-1)) default)) (l':=(l.set (Int.toNat j) (l.getD (Int.toNat (j-1)) default)).set (Int.toNat (j-1)) (l.getD (Int.toNat j) default)) (val:=.agg #[I ((l.getD (Int.toNat j) default).spring),I ((l.getD (Int.toNat j) default).town)]) (L':=[cOwn (α:=Dem) 49 aj ((l.set (Int.toNat j) (l.getD (Int.toNat (j-1)) default)).set (Int.toNat (j-1)) (l.getD (Int.toNat j) default)),cMem encDm ak B_mem (zaa aa ab ac ae ag ah ai)]) H rfl Sz49 (by omega) (by omega) (l.getD (Int.toNat j) default) rfl rfl rfl rfl rfl ?_;intro c6 H
    refine s_nil ⟨(H.pk [1]),?_⟩
    refine kg 6 ?_
    exact ⟨aq,au,(l.set (Int.toNat j) (l.getD (Int.toNat (j-1)) default)).set (Int.toNat (j-1)) (l.getD (Int.toNat j) default),j-1,B_mem,_,upds_of _ _ ⟨rfl,rfl,rfl,rfl,rfl,rfl,trivial⟩,M.e_inl hM ap,H⟩
   skip
   refine s_val (x_ld (v:=.agg #[I ((l.getD (Int.toNat j) default).spring),I ((l.getD (Int.toNat j) default).town)]) rfl (ld_ag Ag49 Sz49 (At.mono (Dem_atA (H.os 0) (i:=j) (by omega) (by omega)) (H.ol 0)))) ?_
   refine s_nil ⟨(H.pk [1]),?_⟩
   refine t_l rfl ?_;refine kg 1 ?_
   refine s_nil ⟨(H.pk [1]),?_⟩
   refine t_l rfl<|s_val (x_ld (v:=.agg #[I ((l.getD (Int.toNat (j-1)) default).spring),I ((l.getD (Int.toNat (j-1)) default).town)]) rfl (ld_ag Ag49 Sz49 (At.mono (Dem_atA (H.os 0) (i:=j-1) (by omega) (by omega)) (H.ol 0)))) ?_
   refine s_nil ⟨(H.pk [1]),?_⟩
   refine t_l rfl ?_;refine kg 1 ?_
   refine s_nil ⟨(H.pk [1]),?_⟩
   refine t_l rfl ?_;refine t_ost (k:=0) (i:=j) (l:=l) (l':=l.set (Int.toNat j) (l.getD (Int.toNat (j-1)) default)) (val:=.agg #[I ((l.getD (Int.toNat (j-1)) default).spring),I ((l.getD (Int.toNat (j-1)) default).town)]) (L':=[cOwn (α:=Dem) 49 aj (l.set (Int.toNat j) (l.getD (Int.toNat (j-1)) default)),cMem encDm ak B_mem (zaa aa ab ac ae ag ah ai)]) H rfl Sz49 (by omega) (by omega) (l.getD (Int.toNat (j-1)) default) rfl rfl rfl rfl rfl ?_;intro c7 H
   refine s_nil ⟨(H.pk [1]),?_⟩
   refine t_l rfl ?_;refine kg 1 ?_
   refine s_nil ⟨(H.pk [1]),?_⟩
   refine t_l rfl ?_;refine t_ost (k:=0) (i:=j-1) (l:=l.set (Int.toNat j) (l.getD (Int.toNat (j-1)) default)) (l':=(l.set (Int.toNat j) (l.getD (Int.toNat (j-1)) default)).set (Int.toNat (j-1)) (l.getD (Int.toNat j) default)) (val:=.agg #[I ((l.getD (Int.toNat j) default).spring),I ((l.getD (Int.toNat j) default).town)]) (L':=[cOwn (α:=Dem) 49 aj ((l.set (Int.toNat j) (l.getD (Int.toNat (j-1)) default)).set (Int.toNat (j-1)) (l.getD (Int.toNat j) default)),cMem encDm ak B_mem (zaa aa ab ac ae ag ah ai)]) H rfl Sz49 (by omega) (by omega) (l.getD (Int.toNat j) default) rfl rfl rfl rfl rfl ?_;intro c8 H
   refine s_nil ⟨(H.pk [1]),?_⟩
   refine kg 6 ?_
   exact ⟨aq,au,(l.set (Int.toNat j) (l.getD (Int.toNat (j-1)) default)).set (Int.toNat (j-1)) (l.getD (Int.toNat j) default),j-1,B_mem,_,upds_of _ _ ⟨rfl,rfl,rfl,rfl,rfl,rfl,trivial⟩,M.e_inl hM ap,H⟩
  replace hM:=M.e_f hM aO;refine W.exit ?_
  have b8:=M.e_inr hM ap
  subst b8;replace hM:=bt;(try dsimp only at hM);obtain ⟨c9,hM⟩:=M.e_gd hM;refine kg 5 ?_
  exact ⟨bp,br,l,i+1,B_mem,_,upds_of _ _ ⟨rfl,rfl,rfl,rfl,rfl,trivial⟩,M.e_inl hM aL,H⟩
 replace hM:=M.e_f hM av
 replace av:=dI av
 refine W.exit ?_
 have b9:=M.e_inr hM aL
 subst b9;replace hM:=bZ;(try dsimp only at hM)
 have ca:=M.e_pure hM
 exact ⟨_,resE_tmp0 rfl,⟨l4,B_mem2,ca,rfl,H⟩⟩

def zcj (a b n:Int):((List Dem) × Nat)->M (((List Dem) × Nat) ⊕ (List Dem)):=fun (l,i) =>
  bif decide ((i:Int)<n) then (
  M.grd (decide ((-9223372036854775808:Int)<=(a+(i:Int)))&&decide ((a+(i:Int))<=(9223372036854775807:Int))) <|
  M.grd (decide ((-9223372036854775808:Int)<=(b+(i:Int)))&&decide ((b+(i:Int))<=(9223372036854775807:Int))) <|
  M.grd (decide ((0:Int)<=(b+(i:Int)))&&decide ((b+(i:Int))<(l.length:Int))) <|
  M.grd (decide ((0:Int)<=(a+(i:Int)))&&decide ((a+(i:Int))<(l.length:Int))) <|
  M.grd (decide ((0:Int)<=(b+(i:Int)))&&decide ((b+(i:Int))<((l.set (Int.toNat (a+(i:Int))) (l.getD (Int.toNat (b+(i:Int))) default)).length:Int))) <|
  M.grd (decide ((-9223372036854775808:Int)<=((i:Int)+1))&&decide (((i:Int)+1)<=(9223372036854775807:Int))) <|
  M.pure (.inl ((l.set (Int.toNat (a+(i:Int))) (l.getD (Int.toNat (b+(i:Int))) default)).set (Int.toNat (b+(i:Int))) (l.getD (Int.toNat (a+(i:Int))) default),i+1)))
  else (
  M.pure (.inr l))
def zbS (data:List Dem) (a b n:Int) (aa:List Int) (ab:List Span) (ac:List Int) (ae:List Town) (ag ah:Int) (ai:List Flood) (aj:List Int) (ak:List Span) (al:List Int) (am:List Town) (ao ap:Int) (aq:List Flood):M (List Dem) :=
  M.bind (M.iter (zcj a b n) (data,0)) fun l2 =>
  M.pure l2
theorem zcO {R:List Chunk} {aa:Value} {ai:Nat} {aj:Nat} {ak:Nat} {al:Cells} {am:Value} {ao:Cells} {ap:Value} {aq:Cells} {au:Value} {av:Cells} {aw:Value} {ax:Cells} {ay:Value} {a7:Nat} {az:Nat} {aA:Nat} {aB:Cells} {aC:Value} {aD:Cells} {aE:Value} {aF:Cells} {aG:Value} {aH:Cells} {aI:Value} {aJ:Cells} {aK:Value} {a8:Nat} (data:List Dem) (a:Int) (b:Int) (n:Int) (aL:List Int) (aM:List Span) (aN:List Int) (aO:List Town) (aP:Int) (aQ:Int) (aR:List Flood) (aS:List Int) (aT:List Span) (aU:List Int) (aV:List Town) (aW:Int) (aX:Int) (aY:List Flood) (bg:Reads R al) (bh:Sl al am aL) (bi:Reads R ao) (bj:Sl ao ap aM) (bm:Reads R aq) (bn:Sl aq au aN) (bo:Reads R av) (bp:Sl av aw aO) (br:Reads R ax) (bt:Sl ax ay aR) (bu:Has R (cBlk ak [am,ap,au,aw,I aP,I aQ,ay,.map (some a7)] 90)) (bv:Has R (cBlk aj [.func (.func 16) #[Pq ak] #[]] 67)) (bw:Reads R aB) (bx:Sl aB aC aS) (bz:Reads R aD) (bA:Sl aD aE aT) (bB:Reads R aF) (bC:Sl aF aG aU) (bD:Reads R aH) (bE:Sl aH aI aV) (bF:Reads R aJ) (bG:Sl aJ aK aY) (bH:Has R (cBlk aA [aC,aE,aG,aI,I aW,I aX,aK,.map (some a8)] 90)) (bI:Has R (cBlk az [Pq aA] 62)) (bJ:Has R (cBlk ai [.func (.func 60) #[] #[Pq aj,Pq az]] 126)) {r:(List Dem)} (hM:(zbS data a b n aL aM aN aO aP aQ aR aS aT aU aV aW aX aY).Ends r) (w:World) (H:St w w [cOwn (α:=Dem) 49 aa data] R):Ret Tryz.prog 126 #[aa,I a,I b,I n,.func (.func 62) #[] #[Pq ai]] w fun v w'=>∃ (y0:List Dem),y0=r/\v = .tuple #[]/\St w w' [cOwn (α:=Dem) 49 aa y0] R:=by
 refine ret_of_W Tryz.func126 rfl rfl rfl ?_;refine kg 5 ?_;obtain ⟨ba,ah,bb⟩:=M.e_bind hM
 obtain ⟨bK,ah⟩:=M.e_iter ah
 refine W.loop (fun m σ W=>∃ (l:List Dem) (i:Nat) (ρ:Env),σ=upds ρ [(0,aa),(1,I a),(2,I b),(3,I n),(10,I (i:Int))]/\M.iterN (zcj a b n) m (l,i)=some ba/\St w W [cOwn (α:=Dem) 49 aa l] R) ?_ ?_
 ·exact ⟨_,data,0,_,upds_of _ _ ⟨rfl,rfl,rfl,rfl,rfl,trivial⟩,ah,H⟩
 rintro bL σ bM ⟨l,i,ρ,rfl,aZ,H⟩
 obtain ⟨ae,ag,bN,hM,ab⟩:=M.e_iterN aZ
 simp only [zcj] at hM
 clear aZ;refine kg 7 ?_
 refine W.cond (decide ((i:Int)<n)) rfl (fun ac=>?_) (fun ac=>?_)
 ·replace hM:=M.e_t hM ac
  replace ac:=dI ac
  refine kg 3 ?_;refine W.drawT (fun W=>St w W [] R) (.q 0 (.q 1 (.q 2 (.q 3 (.q 4 (.q 5 (.q 6 (.q 7 (.q 8 (.q 9 (.q 10 (.q 11 (.q 14 (.q 15 (.q 16 (.q 17 (.l2 12 (.l2 13 (.l 18 (.l 19 (.l 20 (.l 21 (.l 22 (.l 23 .nil)))))) 18 (.l2 13 (.l 19 (.l 20 (.l 21 (.l 22 (.l 23 .nil))))) 19 (.l 13 (.l 20 (.l 21 (.l 22 (.l 23 .nil))))))) 18 (.l2 12 (.l2 13 (.l 19 (.l 20 (.l 21 (.l 22 (.l 23 .nil))))) 19 (.l 13 (.l 20 (.l 21 (.l 22 (.l 23 .nil)))))) 19 (.l 12 (.l 13 (.l 20 (.l 21 (.l 22 (.l 23 .nil)))))))))))))))))))))))) mixed (by decide +kernel) rfl ?_;intro bO a6;replace H:=H.ext a6;clear a6
  refine ⟨(H.pk []),?_⟩
  obtain ⟨bP,hM⟩:=M.e_gd hM;obtain ⟨bQ,hM⟩:=M.e_gd hM;obtain ⟨bR,hM⟩:=M.e_gd hM;obtain ⟨bS,hM⟩:=M.e_gd hM;obtain ⟨bT,hM⟩:=M.e_gd hM;refine kg 16 ?_;refine t_l2 rfl rfl ?_ ?_
  ·skip
   refine kg 1 ?_
   have bU:=Sl.cells (H.os 0)
   have bV:=Sl.oc (H.os 0)
   refine s_nil ⟨(H.pk []),?_⟩
   refine t_l2 rfl rfl ?_ ?_
   ·skip
    refine s_val (x_ld (v:=.agg #[I ((l.getD (Int.toNat (b+(i:Int))) default).spring),I ((l.getD (Int.toNat (b+(i:Int))) default).town)]) rfl (ld_ag Ag49 Sz49 (At.mono (Dem_atA (H.os 0) (i:=b+(i:Int)) (by omega) (by omega)) (H.ol 0)))) ?_
    refine s_nil ⟨(H.pk []),?_⟩
    refine t_l rfl ?_;refine kg 1 ?_
    refine s_nil ⟨(H.pk []),?_⟩
    refine t_l rfl<|s_val (x_ld (v:=.agg #[I ((l.getD (Int.toNat (a+(i:Int))) default).spring),I ((l.getD (Int.toNat (a+(i:Int))) default).town)]) rfl (ld_ag Ag49 Sz49 (At.mono (Dem_atA (H.os 0) (i:=a+(i:Int)) (by omega) (by omega)) (H.ol 0)))) ?_
    refine s_nil ⟨(H.pk []),?_⟩
    refine t_l rfl ?_;refine kg 1 ?_
    refine s_nil ⟨(H.pk []),?_⟩
    refine t_l rfl ?_;refine t_ost (k:=0) (i:=a+(i:Int)) (l:=l) (l':=l.set (Int.toNat (a+(i:Int))) (l.getD (Int.toNat (b+(i:Int))) default)) (val:=.agg #[I ((l.getD (Int.toNat (b+(i:Int))) default).spring),I ((l.getD (Int.toNat (b+(i:Int))) default).town)]) (L':=[cOwn (α:=Dem) 49 aa (l.set (Int.toNat (a+(i:Int))) (l.getD (Int.toNat (b+(i:Int))) default))]) H rfl Sz49 (by omega) (by omega) (l.getD (Int.toNat (b+(i:Int))) default) rfl rfl rfl rfl rfl ?_;intro bW H
    refine s_nil ⟨(H.pk []),?_⟩
    refine t_l rfl ?_;refine kg 1 ?_
    refine s_nil ⟨(H.pk []),?_⟩
    refine t_l rfl ?_;refine t_ost (k:=0) (i:=b+(i:Int)) (l:=l.set (Int.toNat (a+(i:Int))) (l.getD (Int.toNat (b+(i:Int))) default)) (l':=(l.set (Int.toNat (a+(i:Int))) (l.getD (Int.toNat (b+(i:Int))) default)).set (Int.toNat (b+(i:Int))) (l.getD (Int.toNat (a+(i:Int))) default)) (val:=.agg #[I ((l.getD (Int.toNat (a+(i:Int))) default).spring),I ((l.getD (Int.toNat (a+(i:Int))) default).town)]) (L':=[cOwn (α:=Dem) 49 aa ((l.set (Int.toNat (a+(i:Int))) (l.getD (Int.toNat (b+(i:Int))) default)).set (Int.toNat (b+(i:Int))) (l.getD (Int.toNat (a+(i:Int))) default))]) H rfl Sz49 (by omega) (by omega) (l.getD (Int.toNat (a+(i:Int))) default) rfl rfl rfl rfl rfl ?_;intro bX H
    refine s_nil ⟨(H.pk []),?_⟩
    obtain ⟨bY,hM⟩:=M.e_gd hM;refine kg 6 ?_
    exact ⟨ae,ag,(l.set (Int.toNat (a+(i:Int))) (l.getD (Int.toNat (b+(i:Int))) default)).set (Int.toNat (b+(i:Int))) (l.getD (Int.toNat (a+(i:Int))) default),i+1,_,upds_of _ _ ⟨rfl,rfl,rfl,rfl,rfl,trivial⟩,M.e_inl hM ab,H⟩
   skip
   refine kg 1 ?_
   refine s_nil ⟨(H.pk []),?_⟩
   refine t_l2 rfl rfl ?_ ?_
   ·skip
    refine s_val (x_ld (v:=.agg #[I ((l.getD (Int.toNat (b+(i:Int))) default).spring),I ((l.getD (Int.toNat (b+(i:Int))) default).town)]) rfl (ld_ag Ag49 Sz49 (At.mono (Dem_atA (H.os 0) (i:=b+(i:Int)) (by omega) (by omega)) (H.ol 0)))) ?_
    refine s_nil ⟨(H.pk []),?_⟩
    refine t_l rfl<|s_val (x_ld (v:=.agg #[I ((l.getD (Int.toNat (a+(i:Int))) default).spring),I ((l.getD (Int.toNat (a+(i:Int))) default).town)]) rfl (ld_ag Ag49 Sz49 (At.mono (Dem_atA (H.os 0) (i:=a+(i:Int)) (by omega) (by omega)) (H.ol 0)))) ?_
    refine s_nil ⟨(H.pk []),?_⟩
    refine t_l rfl ?_;refine kg 1 ?_
    refine s_nil ⟨(H.pk []),?_⟩
    refine t_l rfl ?_;refine t_ost (k:=0) (i:=a+(i:Int)) (l:=l) (l':=l.set (Int.toNat (a+(i:Int))) (l.getD (Int.toNat (b+(i:Int))) default)) (val:=.agg #[I ((l.getD (Int.toNat (b+(i:Int))) default).spring),I ((l.getD (Int.toNat (b+(i:Int))) default).town)]) (L':=[cOwn (α:=Dem) 49 aa (l.set (Int.toNat (a+(i:Int))) (l.getD (Int.toNat (b+(i:Int))) default))]) H rfl Sz49 (by omega) (by omega) (l.getD (Int.toNat (b+(i:Int))) default) rfl rfl rfl rfl rfl ?_;intro bZ H
    refine s_nil ⟨(H.pk []),?_⟩
    refine t_l rfl ?_;refine kg 1 ?_
    refine s_nil ⟨(H.pk []),?_⟩
    refine t_l rfl ?_;refine t_ost (k:=0) (i:=b+(i:Int)) (l:=l.set (Int.toNat (a+(i:Int))) (l.getD (Int.toNat (b+(i:Int))) default)) (l':=(l.set (Int.toNat (a+(i:Int))) (l.getD (Int.toNat (b+(i:Int))) default)).set (Int.toNat (b+(i:Int))) (l.getD (Int.toNat (a+(i:Int))) default)) (val:=.agg #[I ((l.getD (Int.toNat (a+(i:Int))) default).spring),I ((l.getD (Int.toNat (a+(i:Int))) default).town)]) (L':=[cOwn (α:=Dem) 49 aa ((l.set (Int.toNat (a+(i:Int))) (l.getD (Int.toNat (b+(i:Int))) default)).set (Int.toNat (b+(i:Int))) (l.getD (Int.toNat (a+(i:Int))) default))]) H rfl Sz49 (by omega) (by omega) (l.getD (Int.toNat (a+(i:Int))) default) rfl rfl rfl rfl rfl ?_;intro b3 H
    refine s_nil ⟨(H.pk []),?_⟩
    obtain ⟨b4,hM⟩:=M.e_gd hM;refine kg 6 ?_
    exact ⟨ae,ag,(l.set (Int.toNat (a+(i:Int))) (l.getD (Int.toNat (b+(i:Int))) default)).set (Int.toNat (b+(i:Int))) (l.getD (Int.toNat (a+(i:Int))) default),i+1,_,upds_of _ _ ⟨rfl,rfl,rfl,rfl,rfl,trivial⟩,M.e_inl hM ab,H⟩
   skip
   refine s_val (x_ld (v:=.agg #[I ((l.getD (Int.toNat (a+(i:Int))) default).spring),I ((l.getD (Int.toNat (a+(i:Int))) default).town)]) rfl (ld_ag Ag49 Sz49 (At.mono (Dem_atA (H.os 0) (i:=a+(i:Int)) (by omega) (by omega)) (H.ol 0)))) ?_
   refine s_nil ⟨(H.pk []),?_⟩
   refine t_l rfl<|s_val (x_ld (v:=.agg #[I ((l.getD (Int.toNat (b+(i:Int))) default).spring),I ((l.getD (Int.toNat (b+(i:Int))) default).town)]) rfl (ld_ag Ag49 Sz49 (At.mono (Dem_atA (H.os 0) (i:=b+(i:Int)) (by omega) (by omega)) (H.ol 0)))) ?_
   refine s_nil ⟨(H.pk []),?_⟩
   refine t_l rfl ?_;refine kg 1 ?_
   refine s_nil ⟨(H.pk []),?_⟩
   refine t_l rfl ?_;refine t_ost (k:=0) (i:=a+(i:Int)) (l:=l) (l':=l.set (Int.toNat (a+(i:Int))) (l.getD (Int.toNat (b+(i:Int))) default)) (val:=.agg #[I ((l.getD (Int.toNat (b+(i:Int))) default).spring),I ((l.getD (Int.toNat (b+(i:Int))) default).town)]) (L':=[cOwn (α:=Dem) 49 aa (l.set (Int.toNat (a+(i:Int))) (l.getD (Int.toNat (b+(i:Int))) default))]) H rfl Sz49 (by omega) (by omega) (l.getD (Int.toNat (b+(i:Int))) default) rfl rfl rfl rfl rfl ?_;intro b6 H
   refine s_nil ⟨(H.pk []),?_⟩
   refine t_l rfl ?_;refine kg 1 ?_
   refine s_nil ⟨(H.pk []),?_⟩
   refine t_l rfl ?_;refine t_ost (k:=0) (i:=b+(i:Int)) (l:=l.set (Int.toNat (a+(i:Int))) (l.getD (Int.toNat (b+(i:Int))) default)) (l':=(l.set (Int.toNat (a+(i:Int))) (l.getD (Int.toNat (b+(i:Int))) default)).set (Int.toNat (b+(i:Int))) (l.getD (Int.toNat (a+(i:Int))) default)) (val:=.agg #[I ((l.getD (Int.toNat (a+(i:Int))) default).spring),I ((l.getD (Int.toNat (a+(i:Int))) default).town)]) (L':=[cOwn (α:=Dem) 49 aa ((l.set (Int.toNat (a+(i:Int))) (l.getD (Int.toNat (b+(i:Int))) default)).set (Int.toNat (b+(i:Int))) (l.getD (Int.toNat (a+(i:Int))) default))]) H rfl Sz49 (by omega) (by omega) (l.getD (Int.toNat (a+(i:Int))) default) rfl rfl rfl rfl rfl ?_;intro b7 H
   refine s_nil ⟨(H.pk []),?_⟩
   obtain ⟨b8,hM⟩:=M.e_gd hM;refine kg 6 ?_
   exact ⟨ae,ag,(l.set (Int.toNat (a+(i:Int))) (l.getD (Int.toNat (b+(i:Int))) default)).set (Int.toNat (b+(i:Int))) (l.getD (Int.toNat (a+(i:Int))) default),i+1,_,upds_of _ _ ⟨rfl,rfl,rfl,rfl,rfl,trivial⟩,M.e_inl hM ab,H⟩
  skip
  refine kg 1 ?_
  have b9:=Sl.cells (H.os 0)
  have ca:=Sl.oc (H.os 0)
  refine s_nil ⟨(H.pk []),?_⟩
  refine t_l2 rfl rfl ?_ ?_
  ·skip
   refine kg 1 ?_
   refine s_nil ⟨(H.pk []),?_⟩
   refine t_l2 rfl rfl ?_ ?_
   ·skip
    refine s_val (x_ld (v:=.agg #[I ((l.getD (Int.toNat (b+(i:Int))) default).spring),I ((l.getD (Int.toNat (b+(i:Int))) default).town)]) rfl (ld_ag Ag49 Sz49 (At.mono (Dem_atA (H.os 0) (i:=b+(i:Int)) (by omega) (by omega)) (H.ol 0)))) ?_
    refine s_nil ⟨(H.pk []),?_⟩
    refine t_l rfl<|s_val (x_ld (v:=.agg #[I ((l.getD (Int.toNat (a+(i:Int))) default).spring),I ((l.getD (Int.toNat (a+(i:Int))) default).town)]) rfl (ld_ag Ag49 Sz49 (At.mono (Dem_atA (H.os 0) (i:=a+(i:Int)) (by omega) (by omega)) (H.ol 0)))) ?_
    refine s_nil ⟨(H.pk []),?_⟩
    refine t_l rfl ?_;refine kg 1 ?_
    refine s_nil ⟨(H.pk []),?_⟩
    refine t_l rfl ?_;refine t_ost (k:=0) (i:=a+(i:Int)) (l:=l) (l':=l.set (Int.toNat (a+(i:Int))) (l.getD (Int.toNat (b+(i:Int))) default)) (val:=.agg #[I ((l.getD (Int.toNat (b+(i:Int))) default).spring),I ((l.getD (Int.toNat (b+(i:Int))) default).town)]) (L':=[cOwn (α:=Dem) 49 aa (l.set (Int.toNat (a+(i:Int))) (l.getD (Int.toNat (b+(i:Int))) default))]) H rfl Sz49 (by omega) (by omega) (l.getD (Int.toNat (b+(i:Int))) default) rfl rfl rfl rfl rfl ?_;intro cb H
    refine s_nil ⟨(H.pk []),?_⟩
    refine t_l rfl ?_;refine kg 1 ?_
    refine s_nil ⟨(H.pk []),?_⟩
    refine t_l rfl ?_;refine t_ost (k:=0) (i:=b+(i:Int)) (l:=l.set (Int.toNat (a+(i:Int))) (l.getD (Int.toNat (b+(i:Int))) default)) (l':=(l.set (Int.toNat (a+(i:Int))) (l.getD (Int.toNat (b+(i:Int))) default)).set (Int.toNat (b+(i:Int))) (l.getD (Int.toNat (a+(i:Int))) default)) (val:=.agg #[I ((l.getD (Int.toNat (a+(i:Int))) default).spring),I ((l.getD (Int.toNat (a+(i:Int))) default).town)]) (L':=[cOwn (α:=Dem) 49 aa ((l.set (Int.toNat (a+(i:Int))) (l.getD (Int.toNat (b+(i:Int))) default)).set (Int.toNat (b+(i:Int))) (l.getD (Int.toNat (a+(i:Int))) default))]) H rfl Sz49 (by omega) (by omega) (l.getD (Int.toNat (a+(i:Int))) default) rfl rfl rfl rfl rfl ?_;intro cc H
    refine s_nil ⟨(H.pk []),?_⟩
    obtain ⟨cd,hM⟩:=M.e_gd hM;refine kg 6 ?_
    exact ⟨ae,ag,(l.set (Int.toNat (a+(i:Int))) (l.getD (Int.toNat (b+(i:Int))) default)).set (Int.toNat (b+(i:Int))) (l.getD (Int.toNat (a+(i:Int))) default),i+1,_,upds_of _ _ ⟨rfl,rfl,rfl,rfl,rfl,trivial⟩,M.e_inl hM ab,H⟩
   skip
   refine s_val (x_ld (v:=.agg #[I ((l.getD (Int.toNat (a+(i:Int))) default).spring),I ((l.getD (Int.toNat (a+(i:Int))) default).town)]) rfl (ld_ag Ag49 Sz49 (At.mono (Dem_atA (H.os 0) (i:=a+(i:Int)) (by omega) (by omega)) (H.ol 0)))) ?_
   refine s_nil ⟨(H.pk []),?_⟩
   refine t_l rfl<|s_val (x_ld (v:=.agg #[I ((l.getD (Int.toNat (b+(i:Int))) default).spring),I ((l.getD (Int.toNat (b+(i:Int))) default).town)]) rfl (ld_ag Ag49 Sz49 (At.mono (Dem_atA (H.os 0) (i:=b+(i:Int)) (by omega) (by omega)) (H.ol 0)))) ?_
   refine s_nil ⟨(H.pk []),?_⟩
   refine t_l rfl ?_;refine kg 1 ?_
   refine s_nil ⟨(H.pk []),?_⟩
   refine t_l rfl ?_;refine t_ost (k:=0) (i:=a+(i:Int)) (l:=l) (l':=l.set (Int.toNat (a+(i:Int))) (l.getD (Int.toNat (b+(i:Int))) default)) (val:=.agg #[I ((l.getD (Int.toNat (b+(i:Int))) default).spring),I ((l.getD (Int.toNat (b+(i:Int))) default).town)]) (L':=[cOwn (α:=Dem) 49 aa (l.set (Int.toNat (a+(i:Int))) (l.getD (Int.toNat (b+(i:Int))) default))]) H rfl Sz49 (by omega) (by omega) (l.getD (Int.toNat (b+(i:Int))) default) rfl rfl rfl rfl rfl ?_;intro ce H
   refine s_nil ⟨(H.pk []),?_⟩
   refine t_l rfl ?_;refine kg 1 ?_
   refine s_nil ⟨(H.pk []),?_⟩
   refine t_l rfl ?_;refine t_ost (k:=0) (i:=b+(i:Int)) (l:=l.set (Int.toNat (a+(i:Int))) (l.getD (Int.toNat (b+(i:Int))) default)) (l':=(l.set (Int.toNat (a+(i:Int))) (l.getD (Int.toNat (b+(i:Int))) default)).set (Int.toNat (b+(i:Int))) (l.getD (Int.toNat (a+(i:Int))) default)) (val:=.agg #[I ((l.getD (Int.toNat (a+(i:Int))) default).spring),I ((l.getD (Int.toNat (a+(i:Int))) default).town)]) (L':=[cOwn (α:=Dem) 49 aa ((l.set (Int.toNat (a+(i:Int))) (l.getD (Int.toNat (b+(i:Int))) default)).set (Int.toNat (b+(i:Int))) (l.getD (Int.toNat (a+(i:Int))) default))]) H rfl Sz49 (by omega) (by omega) (l.getD (Int.toNat (a+(i:Int))) default) rfl rfl rfl rfl rfl ?_;intro cf H
   refine s_nil ⟨(H.pk []),?_⟩
   obtain ⟨cg,hM⟩:=M.e_gd hM;refine kg 6 ?_
   exact ⟨ae,ag,(l.set (Int.toNat (a+(i:Int))) (l.getD (Int.toNat (b+(i:Int))) default)).set (Int.toNat (b+(i:Int))) (l.getD (Int.toNat (a+(i:Int))) default),i+1,_,upds_of _ _ ⟨rfl,rfl,rfl,rfl,rfl,trivial⟩,M.e_inl hM ab,H⟩
  skip
  refine s_val (x_ld (v:=.agg #[I ((l.getD (Int.toNat (a+(i:Int))) default).spring),I ((l.getD (Int.toNat (a+(i:Int))) default).town)]) rfl (ld_ag Ag49 Sz49 (At.mono (Dem_atA (H.os 0) (i:=a+(i:Int)) (by omega) (by omega)) (H.ol 0)))) ?_
  refine s_nil ⟨(H.pk []),?_⟩
  refine t_l rfl ?_;refine kg 1 ?_
  refine s_nil ⟨(H.pk []),?_⟩
  refine t_l rfl<|s_val (x_ld (v:=.agg #[I ((l.getD (Int.toNat (b+(i:Int))) default).spring),I ((l.getD (Int.toNat (b+(i:Int))) default).town)]) rfl (ld_ag Ag49 Sz49 (At.mono (Dem_atA (H.os 0) (i:=b+(i:Int)) (by omega) (by omega)) (H.ol 0)))) ?_
  refine s_nil ⟨(H.pk []),?_⟩
  refine t_l rfl ?_;refine kg 1 ?_
  refine s_nil ⟨(H.pk []),?_⟩
  refine t_l rfl ?_;refine t_ost (k:=0) (i:=a+(i:Int)) (l:=l) (l':=l.set (Int.toNat (a+(i:Int))) (l.getD (Int.toNat (b+(i:Int))) default)) (val:=.agg #[I ((l.getD (Int.toNat (b+(i:Int))) default).spring),I ((l.getD (Int.toNat (b+(i:Int))) default).town)]) (L':=[cOwn (α:=Dem) 49 aa (l.set (Int.toNat (a+(i:Int))) (l.getD (Int.toNat (b+(i:Int))) default))]) H rfl Sz49 (by omega) (by omega) (l.getD (Int.toNat (b+(i:Int))) default) rfl rfl rfl rfl rfl ?_;intro ch H
  refine s_nil ⟨(H.pk []),?_⟩
  refine t_l rfl ?_;refine kg 1 ?_
  refine s_nil ⟨(H.pk []),?_⟩
  refine t_l rfl ?_;refine t_ost (k:=0) (i:=b+(i:Int)) (l:=l.set (Int.toNat (a+(i:Int))) (l.getD (Int.toNat (b+(i:Int))) default)) (l':=(l.set (Int.toNat (a+(i:Int))) (l.getD (Int.toNat (b+(i:Int))) default)).set (Int.toNat (b+(i:Int))) (l.getD (Int.toNat (a+(i:Int))) default)) (val:=.agg #[I ((l.getD (Int.toNat (a+(i:Int))) default).spring),I ((l.getD (Int.toNat (a+(i:Int))) default).town)]) (L':=[cOwn (α:=Dem) 49 aa ((l.set (Int.toNat (a+(i:Int))) (l.getD (Int.toNat (b+(i:Int))) default)).set (Int.toNat (b+(i:Int))) (l.getD (Int.toNat (a+(i:Int))) default))]) H rfl Sz49 (by omega) (by omega) (l.getD (Int.toNat (a+(i:Int))) default) rfl rfl rfl rfl rfl ?_;intro ci H
  refine s_nil ⟨(H.pk []),?_⟩
  obtain ⟨cj,hM⟩:=M.e_gd hM;refine kg 6 ?_
  exact ⟨ae,ag,(l.set (Int.toNat (a+(i:Int))) (l.getD (Int.toNat (b+(i:Int))) default)).set (Int.toNat (b+(i:Int))) (l.getD (Int.toNat (a+(i:Int))) default),i+1,_,upds_of _ _ ⟨rfl,rfl,rfl,rfl,rfl,trivial⟩,M.e_inl hM ab,H⟩
 replace hM:=M.e_f hM ac
 replace ac:=dI ac
 refine W.exit ?_
 have bc:=M.e_inr hM ab
 subst bc;replace hM:=bb;(try dsimp only at hM)
 have bf:=M.e_pure hM
 exact ⟨_,resE_tmp0 rfl,⟨l,bf,rfl,H⟩⟩

def zcL (m_:Int) (aa:List Int) (ab:List Span) (ac:List Int) (ae:List Town) (ag ah:Int) (ai:List Flood) (aj:List Int) (ak:List Span) (al:List Int) (am:List Town) (ao ap:Int) (aq:List Flood):((List Dem) × Int × Int)->M (((List Dem) × Int × Int) ⊕ ((List Dem) × Int × (List Dem))):=fun (l,i,j) =>
  bif i != j then (
  bif decide (j<i) then (
  M.grd (decide ((-9223372036854775808:Int)<=(m_-i))&&decide ((m_-i)<=(9223372036854775807:Int))) <|
  M.bind (zbS l (m_-i) m_ j aa ab ac ae ag ah ai aj ak al am ao ap aq) fun l_data =>
  M.grd (decide ((-9223372036854775808:Int)<=(i-j))&&decide ((i-j)<=(9223372036854775807:Int))) <|
  M.pure (.inl (l_data,i-j,j)))
  else (
  M.grd (decide ((-9223372036854775808:Int)<=(m_-i))&&decide ((m_-i)<=(9223372036854775807:Int))) <|
  M.grd (decide ((-9223372036854775808:Int)<=(m_+j))&&decide ((m_+j)<=(9223372036854775807:Int))) <|
  M.grd (decide ((-9223372036854775808:Int)<=((m_+j)-i))&&decide (((m_+j)-i)<=(9223372036854775807:Int))) <|
  M.bind (zbS l (m_-i) ((m_+j)-i) i aa ab ac ae ag ah ai aj ak al am ao ap aq) fun l_data2 =>
  M.grd (decide ((-9223372036854775808:Int)<=(j-i))&&decide ((j-i)<=(9223372036854775807:Int))) <|
  M.pure (.inl (l_data2,i,j-i))))
  else (
  M.pure (.inr (l,i,l)))
def zdq (data:List Dem) (a m_ b:Int) (aa:List Int) (ab:List Span) (ac:List Int) (ae:List Town) (ag ah:Int) (ai:List Flood) (aj:List Int) (ak:List Span) (al:List Int) (am:List Town) (ao ap:Int) (aq:List Flood):M (List Dem) :=
  M.grd (decide ((-9223372036854775808:Int)<=(m_-a))&&decide ((m_-a)<=(9223372036854775807:Int))) <|
  M.grd (decide ((-9223372036854775808:Int)<=(b-m_))&&decide ((b-m_)<=(9223372036854775807:Int))) <|
  M.bind (M.iter (zcL m_ aa ab ac ae ag ah ai aj ak al am ao ap aq) (data,m_-a,b-m_)) fun (l2,i2,l3) =>
  M.grd (decide ((-9223372036854775808:Int)<=(m_-i2))&&decide ((m_-i2)<=(9223372036854775807:Int))) <|
  M.bind (zbS l3 (m_-i2) m_ i2 aa ab ac ae ag ah ai aj ak al am ao ap aq) fun l_data3 =>
  M.pure l_data3
theorem zdZ {R:List Chunk} {aa:Value} {ag:Nat} {a6:Nat} {a7:Nat} {a8:Cells} {ba:Value} {bb:Cells} {bc:Value} {bf:Cells} {bg:Value} {bh:Cells} {bi:Value} {bj:Cells} {bm:Value} {bF:Nat} {bn:Nat} {bo:Nat} {bp:Cells} {br:Value} {bt:Cells} {bu:Value} {bv:Cells} {bw:Value} {bx:Cells} {bz:Value} {bA:Cells} {bB:Value} {bG:Nat} (data:List Dem) (a:Int) (m_:Int) (b:Int) (ah:List Int) (ai:List Span) (aj:List Int) (ak:List Town) (al:Int) (am:Int) (ao:List Flood) (ap:List Int) (aq:List Span) (au:List Int) (av:List Town) (aw:Int) (ax:Int) (ay:List Flood) (az:Reads R a8) (aA:Sl a8 ba ah) (aB:Reads R bb) (aC:Sl bb bc ai) (aD:Reads R bf) (aE:Sl bf bg aj) (aF:Reads R bh) (aG:Sl bh bi ak) (aH:Reads R bj) (aI:Sl bj bm ao) (aJ:Has R (cBlk a7 [ba,bc,bg,bi,I al,I am,bm,.map (some bF)] 90)) (aK:Has R (cBlk a6 [.func (.func 16) #[Pq a7] #[]] 67)) (aL:Reads R bp) (aM:Sl bp br ap) (aN:Reads R bt) (aO:Sl bt bu aq) (aP:Reads R bv) (aQ:Sl bv bw au) (aR:Reads R bx) (aS:Sl bx bz av) (aT:Reads R bA) (aU:Sl bA bB ay) (aV:Has R (cBlk bo [br,bu,bw,bz,I aw,I ax,bB,.map (some bG)] 90)) (aW:Has R (cBlk bn [Pq bo] 62)) (aX:Has R (cBlk ag [.func (.func 60) #[] #[Pq a6,Pq bn]] 126)) {r:(List Dem)} (hM:(zdq data a m_ b ah ai aj ak al am ao ap aq au av aw ax ay).Ends r) (w:World) (H:St w w [cOwn (α:=Dem) 49 aa data] R):Ret Tryz.prog 116 #[aa,I a,I m_,I b,.func (.func 62) #[] #[Pq ag]] w fun v w'=>∃ (y0:List Dem),y0=r/\v = .tuple #[]/\St w w' [cOwn (α:=Dem) 49 aa y0] R:=by
 refine ret_of_W Tryz.func116 rfl rfl rfl ?_;obtain ⟨bO,hM⟩:=M.e_gd hM;obtain ⟨bP,hM⟩:=M.e_gd hM;refine kg 16 ?_;obtain ⟨bH,aY,bI⟩:=M.e_bind hM
 obtain ⟨bQ,aY⟩:=M.e_iter aY
 refine W.loop (fun m σ W=>∃ (l:List Dem) (i:Int) (j:Int) (ρ:Env),σ=upds ρ [(0,aa),(2,I m_),(4,.func (.func 62) #[] #[Pq ag]),(10,I i),(11,I j)]/\M.iterN (zcL m_ ah ai aj ak al am ao ap aq au av aw ax ay) m (l,i,j)=some bH/\St w W [cOwn (α:=Dem) 49 aa l] R) ?_ ?_
 ·exact ⟨_,data,m_-a,b-m_,_,upds_of _ _ ⟨rfl,rfl,rfl,rfl,rfl,trivial⟩,aY,H⟩
 rintro bR σ bS ⟨l,i,j,ρ,rfl,bC,H⟩
 obtain ⟨bD,bE,bT,hM,aZ⟩:=M.e_iterN bC
 simp only [zcL] at hM
 clear bC;refine kg 7 ?_
 refine W.cond (i != j) rfl (fun ac=>?_) (fun ac=>?_)
 ·replace hM:=M.e_t hM ac
  replace ac:=dI ac
  refine kg 8 ?_
  refine W.cond (decide (j<i)) rfl (fun ae=>?_) (fun ae=>?_)
  ·replace hM:=M.e_t hM ae
   replace ae:=dI ae
   obtain ⟨bU,hM⟩:=M.e_gd hM;refine kg 9 ?_;obtain ⟨bV,bJ,hM⟩:=M.e_bind hM;refine s_call cf126 [aa,I (m_-i),I m_,I j,.func (.func 62) #[] #[Pq ag]] rfl (zcO l (m_-i) m_ j ah ai aj ak al am ao ap aq au av aw ax ay (az.app _) aA (aB.app _) aC (aD.app _) aE (aF.app _) aG (aH.app _) aI (aJ.app _) (aK.app _) (aL.app _) aM (aN.app _) aO (aP.app _) aQ (aR.app _) aS (aT.app _) aU (aV.app _) (aW.app _) (aX.app _) bJ _ (H.gt 0)) ?_
   rintro vq bW ⟨l_data,rfl,hvq,ab⟩
   subst vq;(try dsimp only at hM);replace H:=H.bk ab;clear ab;obtain ⟨bX,hM⟩:=M.e_gd hM;refine kg 7 ?_
   exact ⟨bD,bE,l_data,i-j,j,_,upds_of _ _ ⟨rfl,rfl,rfl,rfl,rfl,trivial⟩,M.e_inl hM aZ,H⟩
  replace hM:=M.e_f hM ae
  replace ae:=dI ae
  obtain ⟨bY,hM⟩:=M.e_gd hM;obtain ⟨bZ,hM⟩:=M.e_gd hM;obtain ⟨b3,hM⟩:=M.e_gd hM;refine kg 13 ?_;obtain ⟨b4,bK,hM⟩:=M.e_bind hM;refine s_call cf126 [aa,I (m_-i),I ((m_+j)-i),I i,.func (.func 62) #[] #[Pq ag]] rfl (zcO l (m_-i) ((m_+j)-i) i ah ai aj ak al am ao ap aq au av aw ax ay (az.app _) aA (aB.app _) aC (aD.app _) aE (aF.app _) aG (aH.app _) aI (aJ.app _) (aK.app _) (aL.app _) aM (aN.app _) aO (aP.app _) aQ (aR.app _) aS (aT.app _) aU (aV.app _) (aW.app _) (aX.app _) bK _ (H.gt 0)) ?_
  rintro vq b6 ⟨l_data2,rfl,hvq,ab⟩
  subst vq;(try dsimp only at hM);replace H:=H.bk ab;clear ab;obtain ⟨b7,hM⟩:=M.e_gd hM;refine kg 7 ?_
  exact ⟨bD,bE,l_data2,i,j-i,_,upds_of _ _ ⟨rfl,rfl,rfl,rfl,rfl,trivial⟩,M.e_inl hM aZ,H⟩
 replace hM:=M.e_f hM ac
 replace ac:=dI ac
 refine W.exit ?_
 have bL:=M.e_inr hM aZ
 subst bL;replace hM:=bI;(try dsimp only at hM);obtain ⟨b8,hM⟩:=M.e_gd hM;refine kg 8 ?_;obtain ⟨b9,bM,hM⟩:=M.e_bind hM;refine s_call cf126 [aa,I (m_-i),I m_,I i,.func (.func 62) #[] #[Pq ag]] rfl (zcO l (m_-i) m_ i ah ai aj ak al am ao ap aq au av aw ax ay (az.app _) aA (aB.app _) aC (aD.app _) aE (aF.app _) aG (aH.app _) aI (aJ.app _) (aK.app _) (aL.app _) aM (aN.app _) aO (aP.app _) aQ (aR.app _) aS (aT.app _) aU (aV.app _) (aW.app _) (aX.app _) bM _ (H.gt 0)) ?_
 rintro vq ca ⟨l_data3,rfl,hvq,ab⟩
 subst vq;(try dsimp only at hM);replace H:=H.bk ab;clear ab;refine s_nil ?_
 have bN:=M.e_pure hM
 exact ⟨_,resE_tmp0 rfl,⟨l_data3,bN,rfl,H⟩⟩

end Go.Proofs.YtdmdhmineljlhabGreat
end
section
set_option maxRecDepth 100000
set_option maxHeartbeats 16000000
namespace Go.Proofs.YtdmdhmineljlhabGreat
open Go Go.Nm
attribute [local irreducible] gd execOp SL SLD SLT WR
def zcb (data:List Dem) (a:Int) (aa:List Int) (ab:List Span) (ac:List Int) (ae:List Town) (ag ah:Int) (ai:List Flood) (aj:List Int) (ak:List Span) (al:List Int) (am:List Town) (ao ap:Int) (aq:List Flood):(Int × Int)->M ((Int × Int) ⊕ Int):=fun (i,j) =>
  bif decide (i<j) then (
  M.grd (decide ((-9223372036854775808:Int)<=(i+j))&&decide ((i+j)<=(9223372036854775807:Int))) <|
  M.grd (decide ((0:Int)<=(i+j))&&decide ((i+j)<=(9223372036854775807:Int))) <|
  M.grd (decide ((0:Int)<=((i+j) / 2))&&decide (((i+j) / 2)<=(9223372036854775807:Int))) <|
  M.grd (decide ((0:Int)<=((i+j) / 2))&&decide (((i+j) / 2)<(data.length:Int))) <|
  M.grd (decide ((0:Int)<=a)&&decide (a<(data.length:Int))) <|
  M.bind (zaS (data.getD (Int.toNat ((i+j) / 2)) default) (data.getD (Int.toNat a) default) aa ab ac ae ag ah ai aj ak al am ao ap aq) fun r2 =>
  bif decide (r2<0) then (
  M.pure (.inl (((i+j) / 2)+1,j)))
  else (
  M.pure (.inl (i,(i+j) / 2))))
  else (
  M.pure (.inr i))
def zbR (i2:Int):((List Dem) × Int)->M (((List Dem) × Int) ⊕ (List Dem)):=fun (l,k) =>
  M.grd (decide ((-9223372036854775808:Int)<=(i2-1))&&decide ((i2-1)<=(9223372036854775807:Int))) <|
  bif decide (k<(i2-1)) then (
  M.grd (decide ((-9223372036854775808:Int)<=(k+1))&&decide ((k+1)<=(9223372036854775807:Int))) <|
  M.grd (decide ((0:Int)<=(k+1))&&decide ((k+1)<(l.length:Int))) <|
  M.grd (decide ((0:Int)<=k)&&decide (k<(l.length:Int))) <|
  M.grd (decide ((0:Int)<=(k+1))&&decide ((k+1)<((l.set (Int.toNat k) (l.getD (Int.toNat (k+1)) default)).length:Int))) <|
  M.pure (.inl ((l.set (Int.toNat k) (l.getD (Int.toNat (k+1)) default)).set (Int.toNat (k+1)) (l.getD (Int.toNat k) default),k+1)))
  else (
  M.pure (.inr l))
def zbC (data:List Dem) (m_:Int) (aa:List Int) (ab:List Span) (ac:List Int) (ae:List Town) (ag ah:Int) (ai:List Flood) (aj:List Int) (ak:List Span) (al:List Int) (am:List Town) (ao ap:Int) (aq:List Flood):(Int × Int)->M ((Int × Int) ⊕ Int):=fun (i3,j2) =>
  bif decide (i3<j2) then (
  M.grd (decide ((-9223372036854775808:Int)<=(i3+j2))&&decide ((i3+j2)<=(9223372036854775807:Int))) <|
  M.grd (decide ((0:Int)<=(i3+j2))&&decide ((i3+j2)<=(9223372036854775807:Int))) <|
  M.grd (decide ((0:Int)<=((i3+j2) / 2))&&decide (((i3+j2) / 2)<=(9223372036854775807:Int))) <|
  M.grd (decide ((0:Int)<=m_)&&decide (m_<(data.length:Int))) <|
  M.grd (decide ((0:Int)<=((i3+j2) / 2))&&decide (((i3+j2) / 2)<(data.length:Int))) <|
  M.bind (zaS (data.getD (Int.toNat m_) default) (data.getD (Int.toNat ((i3+j2) / 2)) default) aa ab ac ae ag ah ai aj ak al am ao ap aq) fun r3 =>
  bif !(decide (r3<0)) then (
  M.pure (.inl (((i3+j2) / 2)+1,j2)))
  else (
  M.pure (.inl (i3,(i3+j2) / 2))))
  else (
  M.pure (.inr i3))
def zbQ (i4:Int):((List Dem) × Int)->M (((List Dem) × Int) ⊕ (List Dem)):=fun (l3,k2) =>
  bif decide (i4<k2) then (
  M.grd (decide ((-9223372036854775808:Int)<=(k2-1))&&decide ((k2-1)<=(9223372036854775807:Int))) <|
  M.grd (decide ((0:Int)<=(k2-1))&&decide ((k2-1)<(l3.length:Int))) <|
  M.grd (decide ((0:Int)<=k2)&&decide (k2<(l3.length:Int))) <|
  M.grd (decide ((0:Int)<=(k2-1))&&decide ((k2-1)<((l3.set (Int.toNat k2) (l3.getD (Int.toNat (k2-1)) default)).length:Int))) <|
  M.pure (.inl ((l3.set (Int.toNat k2) (l3.getD (Int.toNat (k2-1)) default)).set (Int.toNat (k2-1)) (l3.getD (Int.toNat k2) default),k2-1)))
  else (
  M.pure (.inr l3))
def zb4 (data:List Dem) (a m_ b:Int) (aa:List Int) (ab:List Span) (ac:List Int) (ae:List Town) (ag ah:Int) (ai:List Flood) (aj:List Int) (ak:List Span) (al:List Int) (am:List Town) (ao ap:Int) (aq:List Flood):(Int × Int)->M ((Int × Int) ⊕ Int):=fun (start2,r6) =>
  bif decide (start2<r6) then (
  M.grd (decide ((-9223372036854775808:Int)<=(start2+r6))&&decide ((start2+r6)<=(9223372036854775807:Int))) <|
  M.grd (decide ((0:Int)<=(start2+r6))&&decide ((start2+r6)<=(9223372036854775807:Int))) <|
  M.grd (decide ((0:Int)<=((start2+r6) / 2))&&decide (((start2+r6) / 2)<=(9223372036854775807:Int))) <|
  M.grd (decide ((-9223372036854775808:Int)<=(((((a+b) / 2)+m_)-1)-((start2+r6) / 2)))&&decide ((((((a+b) / 2)+m_)-1)-((start2+r6) / 2))<=(9223372036854775807:Int))) <|
  M.grd (decide ((0:Int)<=(((((a+b) / 2)+m_)-1)-((start2+r6) / 2)))&&decide ((((((a+b) / 2)+m_)-1)-((start2+r6) / 2))<(data.length:Int))) <|
  M.grd (decide ((0:Int)<=((start2+r6) / 2))&&decide (((start2+r6) / 2)<(data.length:Int))) <|
  M.bind (zaS (data.getD (Int.toNat (((((a+b) / 2)+m_)-1)-((start2+r6) / 2))) default) (data.getD (Int.toNat ((start2+r6) / 2)) default) aa ab ac ae ag ah ai aj ak al am ao ap aq) fun r5 =>
  bif !(decide (r5<0)) then (
  M.pure (.inl (((start2+r6) / 2)+1,r6)))
  else (
  M.pure (.inl (start2,(start2+r6) / 2))))
  else (
  M.pure (.inr start2))
def za8 (a m_ b:Int) (aa:List Int) (ab:List Span) (ac:List Int) (ae:List Town) (ag ah:Int) (ai:List Flood) (aj:List Int) (ak:List Span) (al:List Int) (am:List Town) (ao ap:Int) (aq:List Flood) (au:((List Dem) × Int × Int × Int × (List Int) × (List Span) × (List Int) × (List Town) × Int × Int × (List Flood) × (List Int) × (List Span) × (List Int) × (List Town) × Int × Int × (List Flood))->M (List Dem)) (start3:Int) (l6:List Dem):M (List Dem) :=
  bif ((decide (((a+b) / 2)<((((a+b) / 2)+m_)-start3)))&&(decide (((((a+b) / 2)+m_)-start3)<b))) then (
  M.bind (au (l6,((a+b) / 2),((((a+b) / 2)+m_)-start3),b,aa,ab,ac,ae,ag,ah,ai,aj,ak,al,am,ao,ap,aq)) fun l_data3 =>
  M.pure l_data3)
  else (
  M.pure l6)
def za0 (a m_ b:Int) (aa:List Int) (ab:List Span) (ac:List Int) (ae:List Town) (ag ah:Int) (ai:List Flood) (aj:List Int) (ak:List Span) (al:List Int) (am:List Town) (ao ap:Int) (aq:List Flood) (au:((List Dem) × Int × Int × Int × (List Int) × (List Span) × (List Int) × (List Town) × Int × Int × (List Flood) × (List Int) × (List Span) × (List Int) × (List Town) × Int × Int × (List Flood))->M (List Dem)) (start3:Int) (l5:List Dem):M (List Dem) :=
  bif ((decide (a<start3))&&(decide (start3<((a+b) / 2)))) then (
  M.bind (au (l5,a,start3,((a+b) / 2),aa,ab,ac,ae,ag,ah,ai,aj,ak,al,am,ao,ap,aq)) fun l_data2 =>
  za8 a m_ b aa ab ac ae ag ah ai aj ak al am ao ap aq au start3 l_data2)
  else (
  za8 a m_ b aa ab ac ae ag ah ai aj ak al am ao ap aq au start3 l5)
def zaR (data:List Dem) (a m_ b:Int) (aa:List Int) (ab:List Span) (ac:List Int) (ae:List Town) (ag ah:Int) (ai:List Flood) (aj:List Int) (ak:List Span) (al:List Int) (am:List Town) (ao ap:Int) (aq:List Flood) (au:((List Dem) × Int × Int × Int × (List Int) × (List Span) × (List Int) × (List Town) × Int × Int × (List Flood) × (List Int) × (List Span) × (List Int) × (List Town) × Int × Int × (List Flood))->M (List Dem)) (start r4:Int):M (List Dem) :=
  M.grd (decide ((-9223372036854775808:Int)<=((((a+b) / 2)+m_)-1))&&decide (((((a+b) / 2)+m_)-1)<=(9223372036854775807:Int))) <|
  M.bind (M.iter (zb4 data a m_ b aa ab ac ae ag ah ai aj ak al am ao ap aq) (start,r4)) fun start3 =>
  M.grd (decide ((-9223372036854775808:Int)<=((((a+b) / 2)+m_)-start3))&&decide (((((a+b) / 2)+m_)-start3)<=(9223372036854775807:Int))) <|
  bif ((decide (start3<m_))&&(decide (m_<((((a+b) / 2)+m_)-start3)))) then (
  M.bind (zdq data start3 m_ ((((a+b) / 2)+m_)-start3) aa ab ac ae ag ah ai aj ak al am ao ap aq) fun l_data =>
  za0 a m_ b aa ab ac ae ag ah ai aj ak al am ao ap aq au start3 l_data)
  else (
  za0 a m_ b aa ab ac ae ag ah ai aj ak al am ao ap aq au start3 data)
def zar (au:((List Dem) × Int × Int × Int × (List Int) × (List Span) × (List Int) × (List Town) × Int × Int × (List Flood) × (List Int) × (List Span) × (List Int) × (List Town) × Int × Int × (List Flood))->M (List Dem)):((List Dem) × Int × Int × Int × (List Int) × (List Span) × (List Int) × (List Town) × Int × Int × (List Flood) × (List Int) × (List Span) × (List Int) × (List Town) × Int × Int × (List Flood))->M (List Dem):=fun (data,a,m_,b,aa,ab,ac,ae,ag,ah,ai,aj,ak,al,am,ao,ap,aq) =>
  M.grd (decide ((-9223372036854775808:Int)<=(m_-a))&&decide ((m_-a)<=(9223372036854775807:Int))) <|
  bif (m_-a)==1 then (
  M.bind (M.iter (zcb data a aa ab ac ae ag ah ai aj ak al am ao ap aq) (m_,b)) fun i2 =>
  M.bind (M.iter (zbR i2) (data,a)) fun l2 =>
  M.pure l2)
  else (
  M.grd (decide ((-9223372036854775808:Int)<=(b-m_))&&decide ((b-m_)<=(9223372036854775807:Int))) <|
  bif (b-m_)==1 then (
  M.bind (M.iter (zbC data m_ aa ab ac ae ag ah ai aj ak al am ao ap aq) (a,m_)) fun i4 =>
  M.bind (M.iter (zbQ i4) (data,m_)) fun l4 =>
  M.pure l4)
  else (
  M.grd (decide ((-9223372036854775808:Int)<=(a+b))&&decide ((a+b)<=(9223372036854775807:Int))) <|
  M.grd (decide ((0:Int)<=(a+b))&&decide ((a+b)<=(9223372036854775807:Int))) <|
  M.grd (decide ((0:Int)<=((a+b) / 2))&&decide (((a+b) / 2)<=(9223372036854775807:Int))) <|
  M.grd (decide ((-9223372036854775808:Int)<=(((a+b) / 2)+m_))&&decide ((((a+b) / 2)+m_)<=(9223372036854775807:Int))) <|
  bif decide (((a+b) / 2)<m_) then (
  M.grd (decide ((-9223372036854775808:Int)<=((((a+b) / 2)+m_)-b))&&decide (((((a+b) / 2)+m_)-b)<=(9223372036854775807:Int))) <|
  zaR data a m_ b aa ab ac ae ag ah ai aj ak al am ao ap aq au ((((a+b) / 2)+m_)-b) ((a+b) / 2))
  else (
  zaR data a m_ b aa ab ac ae ag ah ai aj ak al am ao ap aq au a m_)))
theorem zdI  : M.Mon zar:=by
  intro n f g h a
  obtain ⟨data,a,m_,b,aa,ab,ac,ae,ag,ah,ai,aj,ak,al,am,ao,ap,aq⟩:=a
  simp only [zar,zcb,zbR,zbC,zbQ,zb4,za8,za0,zaR]
  repeat' (first | exact M.le_same _ _ | exact h _ | refine M.le_grd ?_ | refine M.le_if ?_ ?_ | refine M.le_bind ?_ (fun x=>?_) | refine M.le_opt ?_ | refine M.le_iter (fun x=>?_) _ | refine zee (M.le_yl (fun s_ a_=>?_)) _ _ _ _ _ _ _ _ _ | (rename_i x; cases x) | (rename_i x; obtain ⟨_,_⟩:=x))
def zcU (data:List Dem) (a m_ b:Int) (aa:List Int) (ab:List Span) (ac:List Int) (ae:List Town) (ag ah:Int) (ai:List Flood) (aj:List Int) (ak:List Span) (al:List Int) (am:List Town) (ao ap:Int) (aq:List Flood):M (List Dem):=M.fix zar zdI (data,a,m_,b,aa,ab,ac,ae,ag,ah,ai,aj,ak,al,am,ao,ap,aq)
theorem zdW (n_:Nat):∀ {R:List Chunk} {aj:Value} {ay:Nat} {bp:Nat} {br:Nat} {bt:Cells} {bu:Value} {bv:Cells} {bw:Value} {bx:Cells} {bz:Value} {bA:Cells} {bB:Value} {bC:Cells} {bD:Value} {ak:Nat} {B_b_cmp2020207:Base} {bE:Nat} {bF:Nat} {bG:Cells} {bH:Value} {bI:Cells} {bJ:Value} {bK:Cells} {bL:Value} {bM:Cells} {bN:Value} {bO:Cells} {bP:Value} {bR:Nat} (data:List Dem) (a:Int) (m_:Int) (b:Int) (aa:List Int) (ab:List Span) (ac:List Int) (ae:List Town) (ag:Int) (ah:Int) (ai:List Flood) (am:List Int) (ao:List Span) (ap:List Int) (aq:List Town) (au:Int) (av:Int) (aw:List Flood) (az:Reads R bt) (aA:Sl bt bu aa) (aB:Reads R bv) (aC:Sl bv bw ab) (aD:Reads R bx) (aE:Sl bx bz ac) (aF:Reads R bA) (aG:Sl bA bB ae) (aH:Reads R bC) (aI:Sl bC bD ai) (aJ:Has R (cBlk br [bu,bw,bz,bB,I ag,I ah,bD,.map (some ak)] 90)) (aK:Has R (cBlk bp [.func (.func 16) #[Pq br] #[]] 67)) (aL:Reads R bG) (aM:Sl bG bH am) (aN:Reads R bI) (aO:Sl bI bJ ao) (aP:Reads R bK) (aQ:Sl bK bL ap) (aR:Reads R bM) (aS:Sl bM bN aq) (aT:Reads R bO) (aU:Sl bO bP aw) (aV:Has R (cBlk bF [bH,bJ,bL,bN,I au,I av,bP,.map (some bR)] 90)) (aW:Has R (cBlk bE [Pq bF] 62)) (aX:Has R (cBlk ay [.func (.func 60) #[] #[Pq bp,Pq bE]] 126)) {r:(List Dem)} (hM:(M.fixN zar n_ (data,a,m_,b,aa,ab,ac,ae,ag,ah,ai,am,ao,ap,aq,au,av,aw)).Ends r) (w:World) (H:St w w [cOwn (α:=Dem) 49 aj data,cMem encDm ak B_b_cmp2020207 (zaa aa ab ac ae ag ah ai)] R),Ret Tryz.prog 95 #[aj,I a,I m_,I b,.func (.func 62) #[] #[Pq ay]] w fun v w'=>∃ (y0:List Dem) (cn:Base),y0=r/\v = .tuple #[]/\St w w' [cOwn (α:=Dem) 49 aj y0,cMem encDm ak cn (zaa aa ab ac ae ag ah ai)] R:=by
  induction n_ with
  | zero=>intro R aj ay bp br bt bu bv bw bx bz bA bB bC bD ak B_b_cmp2020207 bE bF bG bH bI bJ bK bL bM bN bO bP bR data a m_ b aa ab ac ae ag ah ai am ao ap aq au av aw az aA aB aC aD aE aF aG aH aI aJ aK aL aM aN aO aP aQ aR aS aT aU aV aW aX r hM w H; exact (M.e_fail hM).elim
  | succ n_ ih =>
    intro R aj ay bp br bt bu bv bw bx bz bA bB bC bD ak B_b_cmp2020207 bE bF bG bH bI bJ bK bL bM bN bO bP bR data a m_ b aa ab ac ae ag ah ai am ao ap aq au av aw az aA aB aC aD aE aF aG aH aI aJ aK aL aM aN aO aP aQ aR aS aT aU aV aW aX r hM w H;refine ret_of_W Tryz.func95 rfl rfl rfl ?_;obtain ⟨cM,hM⟩:=M.e_gd hM;refine kg 8 ?_
    refine W.cond ((m_-a)==1) rfl (fun aY=>?_) (fun aY=>?_)
    ·replace hM:=M.e_t hM aY
     replace aY:=dI aY
     refine kg 12 ?_;obtain ⟨co,bS,cp⟩:=M.e_bind hM
     obtain ⟨bQ,bS⟩:=M.e_iter bS
     refine W.loop (fun m σ W=>∃ (i:Int) (j:Int) (B_mem:Base) (ρ:Env),σ=upds ρ [(0,aj),(1,I a),(4,.func (.func 62) #[] #[Pq ay]),(10,I i),(11,I j)]/\M.iterN (zcb data a aa ab ac ae ag ah ai am ao ap aq au av aw) m (i,j)=some co/\St w W [cOwn (α:=Dem) 49 aj data,cMem encDm ak B_mem (zaa aa ab ac ae ag ah ai)] R) ?_ ?_
     ·exact ⟨_,m_,b,B_b_cmp2020207,_,upds_of _ _ ⟨rfl,rfl,rfl,rfl,rfl,trivial⟩,bS,H⟩
     rintro cN σ cO ⟨i,j,B_mem,ρ,rfl,b9,H⟩
     obtain ⟨ca,cb,cP,hM,bT⟩:=M.e_iterN b9
     simp only [zcb] at hM
     clear b9;refine kg 7 ?_
     refine W.cond (decide (i<j)) rfl (fun aZ=>?_) (fun aZ=>?_)
     ·replace hM:=M.e_t hM aZ
      replace aZ:=dI aZ
      obtain ⟨cQ,hM⟩:=M.e_gd hM;obtain ⟨cR,hM⟩:=M.e_gd hM;refine kg 7 ?_;refine s_val (x_convU (kd:=.i64) (a:=i+j) Tryz.underlying3 Tryz.underlying143 rfl (by omega))<|s_val (x_ushr1 (a:=i+j) rfl rfl) ?_;obtain ⟨cS,hM⟩:=M.e_gd hM;refine s_val (x_conv64 (kd:=.u64) (a:=(i+j) / 2) Tryz.underlying143 Tryz.underlying3 rfl (by omega)) ?_;refine kg 3 ?_;refine W.draw (fun W=>St w W [cOwn (α:=Dem) 49 aj data] R) [(0,true),(1,true),(2,true),(3,true),(4,true),(5,true),(6,true),(7,true),(8,true),(9,false),(10,true)] mixed (by decide +kernel) rfl ?_;intro cT ax;replace H:=H.ext ax;clear ax
      refine ⟨(H.pk [0]),?_⟩
      obtain ⟨cU,hM⟩:=M.e_gd hM;refine kg 4 ?_;refine d_q rfl (fun w' H=>x_ld (v:=.agg #[I ((data.getD (Int.toNat ((i+j) / 2)) default).spring),I ((data.getD (Int.toNat ((i+j) / 2)) default).town)]) rfl (ld_ag Ag49 Sz49 (At.mono (Dem_atA (H.os 0) (i:=(i+j) / 2) (by omega) (by omega)) (H.ol 0)))) ?_;obtain ⟨cV,hM⟩:=M.e_gd hM;refine kg 3 ?_;refine d_q rfl (fun w' H=>x_ld (v:=.agg #[I ((data.getD (Int.toNat a) default).spring),I ((data.getD (Int.toNat a) default).town)]) rfl (ld_ag Ag49 Sz49 (At.mono (Dem_atA (H.os 0) (i:=a) (by omega) (by omega)) (H.ol 0))))<|d_l rfl ?_;obtain ⟨cW,cq,hM⟩:=M.e_bind hM;refine s_callv (f:=62) rfl cf62 [.agg #[I ((data.getD (Int.toNat ((i+j) / 2)) default).spring),I ((data.getD (Int.toNat ((i+j) / 2)) default).town)],.agg #[I ((data.getD (Int.toNat a) default).spring),I ((data.getD (Int.toNat a) default).town)]] rfl (zbM (data.getD (Int.toNat ((i+j) / 2)) default) (data.getD (Int.toNat a) default) aa ab ac ae ag ah ai am ao ap aq au av aw (az.app _) aA (aB.app _) aC (aD.app _) aE (aF.app _) aG (aH.app _) aI (aJ.app _) (aK.app _) (aL.app _) aM (aN.app _) aO (aP.app _) aQ (aR.app _) aS (aT.app _) aU (aV.app _) (aW.app _) (aX.app _) cq _ ((H.pk [1,0]).gt 1)) ?_
      rintro vq cX ⟨r2,cc,rfl,hvq,al⟩
      subst vq;(try dsimp only at hM)
      replace H:=H.pk [1,0] |>.bk al
      clear al
      refine s_nil ⟨(H.pk [1]),?_⟩
      refine kg 2 ?_
      refine W.cond (decide (r2<0)) rfl (fun a6=>?_) (fun a6=>?_)
      ·replace hM:=M.e_t hM a6
       replace a6:=dI a6
       refine kg 5 ?_
       exact ⟨ca,cb,((i+j) / 2)+1,j,cc,_,upds_of _ _ ⟨rfl,rfl,rfl,rfl,rfl,trivial⟩,M.e_inl hM bT,(H.pk [1,0])⟩
      replace hM:=M.e_f hM a6
      replace a6:=dI a6
      refine kg 4 ?_
      exact ⟨ca,cb,i,(i+j) / 2,cc,_,upds_of _ _ ⟨rfl,rfl,rfl,rfl,rfl,trivial⟩,M.e_inl hM bT,(H.pk [1,0])⟩
     replace hM:=M.e_f hM aZ
     replace aZ:=dI aZ
     refine W.exit ?_
     have cr:=M.e_inr hM bT
     subst cr;replace hM:=cp;(try dsimp only at hM);refine kg 7 ?_;obtain ⟨ct,bU,cu⟩:=M.e_bind hM
     obtain ⟨bQ,bU⟩:=M.e_iter bU
     refine W.loop (fun m σ W=>∃ (l:List Dem) (k:Int) (ρ:Env),σ=upds ρ [(0,aj),(10,I i),(13,I k)]/\M.iterN (zbR i) m (l,k)=some ct/\St w W [cOwn (α:=Dem) 49 aj l,cMem encDm ak B_mem (zaa aa ab ac ae ag ah ai)] R) ?_ ?_
     ·exact ⟨_,data,a,_,upds_of _ _ ⟨rfl,rfl,rfl,trivial⟩,bU,H⟩
     rintro cY σ cZ ⟨l,k,ρ,rfl,cd,H⟩
     obtain ⟨bj,bm,c6,hM,a7⟩:=M.e_iterN cd
     simp only [zbR] at hM
     clear cd;obtain ⟨c7,hM⟩:=M.e_gd hM;refine kg 8 ?_
     refine W.cond (decide (k<(i-1))) rfl (fun a8=>?_) (fun a8=>?_)
     ·replace hM:=M.e_t hM a8
      replace a8:=dI a8
      refine kg 3 ?_;refine W.drawT (fun W=>St w W [cMem encDm ak B_mem (zaa aa ab ac ae ag ah ai)] R) (.q 0 (.q 1 (.q 2 (.q 3 (.q 4 (.q 5 (.q 6 (.q 7 (.q 10 (.q 11 (.l2 8 (.l2 9 (.l 12 (.l 13 (.l 14 (.l 15 (.l 16 (.l 17 .nil)))))) 12 (.l2 9 (.l 13 (.l 14 (.l 15 (.l 16 (.l 17 .nil))))) 13 (.l 9 (.l 14 (.l 15 (.l 16 (.l 17 .nil))))))) 12 (.l2 8 (.l2 9 (.l 13 (.l 14 (.l 15 (.l 16 (.l 17 .nil))))) 13 (.l 9 (.l 14 (.l 15 (.l 16 (.l 17 .nil)))))) 13 (.l 8 (.l 9 (.l 14 (.l 15 (.l 16 (.l 17 .nil)))))))))))))))))) mixed (by decide +kernel) rfl ?_;intro c8 ax;replace H:=H.ext ax;clear ax
      refine ⟨(H.pk [1]),?_⟩
      obtain ⟨c9,hM⟩:=M.e_gd hM;obtain ⟨da,hM⟩:=M.e_gd hM;obtain ⟨db,hM⟩:=M.e_gd hM;obtain ⟨dc,hM⟩:=M.e_gd hM;refine kg 10 ?_;refine t_l2 rfl rfl ?_ ?_
      ·skip
       refine kg 1 ?_
       have dd:=Sl.cells (H.os 0)
       have dg:=Sl.oc (H.os 0)
       refine s_nil ⟨(H.pk [1]),?_⟩
       refine t_l2 rfl rfl ?_ ?_
       ·skip
        refine s_val (x_ld (v:=.agg #[I ((l.getD (Int.toNat (k+1)) default).spring),I ((l.getD (Int.toNat (k+1)) default).town)]) rfl (ld_ag Ag49 Sz49 (At.mono (Dem_atA (H.os 0) (i:=k+1) (by omega) (by omega)) (H.ol 0)))) ?_
        refine s_nil ⟨(H.pk [1]),?_⟩
        refine t_l rfl ?_;refine kg 1 ?_
        refine s_nil ⟨(H.pk [1]),?_⟩
        refine t_l rfl<|s_val (x_ld (v:=.agg #[I ((l.getD (Int.toNat k) default).spring),I ((l.getD (Int.toNat k) default).town)]) rfl (ld_ag Ag49 Sz49 (At.mono (Dem_atA (H.os 0) (i:=k) (by omega) (by omega)) (H.ol 0)))) ?_
        refine s_nil ⟨(H.pk [1]),?_⟩
        refine t_l rfl ?_;refine kg 1 ?_
        refine s_nil ⟨(H.pk [1]),?_⟩
        refine t_l rfl ?_;refine t_ost (k:=0) (i:=k) (l:=l) (l':=l.set (Int.toNat k) (l.getD (Int.toNat (k+1)) default)) (val:=.agg #[I ((l.getD (Int.toNat (k+1)) default).spring),I ((l.getD (Int.toNat (k+1)) default).town)]) (L':=[cOwn (α:=Dem) 49 aj (l.set (Int.toNat k) (l.getD (Int.toNat (k+1)) default)),cMem encDm ak B_mem (zaa aa ab ac ae ag ah ai)]) H rfl Sz49 (by omega) (by omega) (l.getD (Int.toNat (k+1)) default) rfl rfl rfl rfl rfl ?_;intro di H
        refine s_nil ⟨(H.pk [1]),?_⟩
        refine t_l rfl ?_;refine kg 1 ?_
        refine s_nil ⟨(H.pk [1]),?_⟩
        refine t_l rfl ?_;refine t_ost (k:=0) (i:=k+1) (l:=l.set (Int.toNat k) (l.getD (Int.toNat (k+1)) default)) (l':=(l.set (Int.toNat k) (l.getD (Int.toNat (k+1)) default)).set (Int.toNat (k+1)) (l.getD (Int.toNat k) default)) (val:=.agg #[I ((l.getD (Int.toNat k) default).spring),I ((l.getD (Int.toNat k) default).town)]) (L':=[cOwn (α:=Dem) 49 aj ((l.set (Int.toNat k) (l.getD (Int.toNat (k+1)) default)).set (Int.toNat (k+1)) (l.getD (Int.toNat k) default)),cMem encDm ak B_mem (zaa aa ab ac ae ag ah ai)]) H rfl Sz49 (by omega) (by omega) (l.getD (Int.toNat k) default) rfl rfl rfl rfl rfl ?_;intro dj H
        refine s_nil ⟨(H.pk [1]),?_⟩
        refine kg 6 ?_
        exact ⟨bj,bm,(l.set (Int.toNat k) (l.getD (Int.toNat (k+1)) default)).set (Int.toNat (k+1)) (l.getD (Int.toNat k) default),k+1,_,upds_of _ _ ⟨rfl,rfl,rfl,trivial⟩,M.e_inl hM a7,H⟩
       skip
       refine kg 1 ?_
       refine s_nil ⟨(H.pk [1]),?_⟩
       refine t_l2 rfl rfl ?_ ?_
       ·skip
        refine s_val (x_ld (v:=.agg #[I ((l.getD (Int.toNat (k+1)) default).spring),I ((l.getD (Int.toNat (k+1)) default).town)]) rfl (ld_ag Ag49 Sz49 (At.mono (Dem_atA (H.os 0) (i:=k+1) (by omega) (by omega)) (H.ol 0)))) ?_
        refine s_nil ⟨(H.pk [1]),?_⟩
        refine t_l rfl<|s_val (x_ld (v:=.agg #[I ((l.getD (Int.toNat k) default).spring),I ((l.getD (Int.toNat k) default).town)]) rfl (ld_ag Ag49 Sz49 (At.mono (Dem_atA (H.os 0) (i:=k) (by omega) (by omega)) (H.ol 0)))) ?_
        refine s_nil ⟨(H.pk [1]),?_⟩
        refine t_l rfl ?_;refine kg 1 ?_
        refine s_nil ⟨(H.pk [1]),?_⟩
        refine t_l rfl ?_;refine t_ost (k:=0) (i:=k) (l:=l) (l':=l.set (Int.toNat k) (l.getD (Int.toNat (k+1)) default)) (val:=.agg #[I ((l.getD (Int.toNat (k+1)) default).spring),I ((l.getD (Int.toNat (k+1)) default).town)]) (L':=[cOwn (α:=Dem) 49 aj (l.set (Int.toNat k) (l.getD (Int.toNat (k+1)) default)),cMem encDm ak B_mem (zaa aa ab ac ae ag ah ai)]) H rfl Sz49 (by omega) (by omega) (l.getD (Int.toNat (k+1)) default) rfl rfl rfl rfl rfl ?_;intro dk H
        refine s_nil ⟨(H.pk [1]),?_⟩
        refine t_l rfl ?_;refine kg 1 ?_
        refine s_nil ⟨(H.pk [1]),?_⟩
        refine t_l rfl ?_;refine t_ost (k:=0) (i:=k+1) (l:=l.set (Int.toNat k) (l.getD (Int.toNat (k+1)) default)) (l':=(l.set (Int.toNat k) (l.getD (Int.toNat (k+1)) default)).set (Int.toNat (k+1)) (l.getD (Int.toNat k) default)) (val:=.agg #[I ((l.getD (Int.toNat k) default).spring),I ((l.getD (Int.toNat k) default).town)]) (L':=[cOwn (α:=Dem) 49 aj ((l.set (Int.toNat k) (l.getD (Int.toNat (k+1)) default)).set (Int.toNat (k+1)) (l.getD (Int.toNat k) default)),cMem encDm ak B_mem (zaa aa ab ac ae ag ah ai)]) H rfl Sz49 (by omega) (by omega) (l.getD (Int.toNat k) default) rfl rfl rfl rfl rfl ?_;intro dm H
        refine s_nil ⟨(H.pk [1]),?_⟩
        refine kg 6 ?_
        exact ⟨bj,bm,(l.set (Int.toNat k) (l.getD (Int.toNat (k+1)) default)).set (Int.toNat (k+1)) (l.getD (Int.toNat k) default),k+1,_,upds_of _ _ ⟨rfl,rfl,rfl,trivial⟩,M.e_inl hM a7,H⟩
       skip
       refine s_val (x_ld (v:=.agg #[I ((l.getD (Int.toNat k) default).spring),I ((l.getD (Int.toNat k) default).town)]) rfl (ld_ag Ag49 Sz49 (At.mono (Dem_atA (H.os 0) (i:=k) (by omega) (by omega)) (H.ol 0)))) ?_
       refine s_nil ⟨(H.pk [1]),?_⟩
       refine t_l rfl<|s_val (x_ld (v:=.agg #[I ((l.getD (Int.toNat (k+1)) default).spring),I ((l.getD (Int.toNat (k+1)) default).town)]) rfl (ld_ag Ag49 Sz49 (At.mono (Dem_atA (H.os 0) (i:=k+1) (by omega) (by omega)) (H.ol 0)))) ?_
       refine s_nil ⟨(H.pk [1]),?_⟩
       refine t_l rfl ?_;refine kg 1 ?_
       refine s_nil ⟨(H.pk [1]),?_⟩
       refine t_l rfl ?_;refine t_ost (k:=0) (i:=k) (l:=l) (l':=l.set (Int.toNat k) (l.getD (Int.toNat (k+1)) default)) (val:=.agg #[I ((l.getD (Int.toNat (k+1)) default).spring),I ((l.getD (Int.toNat (k+1)) default).town)]) (L':=[cOwn (α:=Dem) 49 aj (l.set (Int.toNat k) (l.getD (Int.toNat (k+1)) default)),cMem encDm ak B_mem (zaa aa ab ac ae ag ah ai)]) H rfl Sz49 (by omega) (by omega) (l.getD (Int.toNat (k+1)) default) rfl rfl rfl rfl rfl ?_;intro dp H
       refine s_nil ⟨(H.pk [1]),?_⟩
       refine t_l rfl ?_;refine kg 1 ?_
       refine s_nil ⟨(H.pk [1]),?_⟩
       refine t_l rfl ?_;refine t_ost (k:=0) (i:=k+1) (l:=l.set (Int.toNat k) (l.getD (Int.toNat (k+1)) default)) (l':=(l.set (Int.toNat k) (l.getD (Int.toNat (k+1)) default)).set (Int.toNat (k+1)) (l.getD (Int.toNat k) default)) (val:=.agg #[I ((l.getD (Int.toNat k) default).spring),I ((l.getD (Int.toNat k) default).town)]) (L':=[cOwn (α:=Dem) 49 aj ((l.set (Int.toNat k) (l.getD (Int.toNat (k+1)) default)).set (Int.toNat (k+1)) (l.getD (Int.toNat k) default)),cMem encDm ak B_mem (zaa aa ab ac ae ag ah ai)]) H rfl Sz49 (by omega) (by omega) (l.getD (Int.toNat k) default) rfl rfl rfl rfl rfl ?_;intro dq H
       refine s_nil ⟨(H.pk [1]),?_⟩
       refine kg 6 ?_
       exact ⟨bj,bm,(l.set (Int.toNat k) (l.getD (Int.toNat (k+1)) default)).set (Int.toNat (k+1)) (l.getD (Int.toNat k) default),k+1,_,upds_of _ _ ⟨rfl,rfl,rfl,trivial⟩,M.e_inl hM a7,H⟩
      skip
      refine kg 1 ?_
      have dr:=Sl.cells (H.os 0)
      have dt:=Sl.oc (H.os 0)
      refine s_nil ⟨(H.pk [1]),?_⟩
      refine t_l2 rfl rfl ?_ ?_
      ·skip
       refine kg 1 ?_
       refine s_nil ⟨(H.pk [1]),?_⟩
       refine t_l2 rfl rfl ?_ ?_
       ·skip
        refine s_val (x_ld (v:=.agg #[I ((l.getD (Int.toNat (k+1)) default).spring),I ((l.getD (Int.toNat (k+1)) default).town)]) rfl (ld_ag Ag49 Sz49 (At.mono (Dem_atA (H.os 0) (i:=k+1) (by omega) (by omega)) (H.ol 0)))) ?_
        refine s_nil ⟨(H.pk [1]),?_⟩
        refine t_l rfl<|s_val (x_ld (v:=.agg #[I ((l.getD (Int.toNat k) default).spring),I ((l.getD (Int.toNat k) default).town)]) rfl (ld_ag Ag49 Sz49 (At.mono (Dem_atA (H.os 0) (i:=k) (by omega) (by omega)) (H.ol 0)))) ?_
        refine s_nil ⟨(H.pk [1]),?_⟩
        refine t_l rfl ?_;refine kg 1 ?_
        refine s_nil ⟨(H.pk [1]),?_⟩
        refine t_l rfl ?_;refine t_ost (k:=0) (i:=k) (l:=l) (l':=l.set (Int.toNat k) (l.getD (Int.toNat (k+1)) default)) (val:=.agg #[I ((l.getD (Int.toNat (k+1)) default).spring),I ((l.getD (Int.toNat (k+1)) default).town)]) (L':=[cOwn (α:=Dem) 49 aj (l.set (Int.toNat k) (l.getD (Int.toNat (k+1)) default)),cMem encDm ak B_mem (zaa aa ab ac ae ag ah ai)]) H rfl Sz49 (by omega) (by omega) (l.getD (Int.toNat (k+1)) default) rfl rfl rfl rfl rfl ?_;intro du H
        refine s_nil ⟨(H.pk [1]),?_⟩
        refine t_l rfl ?_;refine kg 1 ?_
        refine s_nil ⟨(H.pk [1]),?_⟩
        refine t_l rfl ?_;refine t_ost (k:=0) (i:=k+1) (l:=l.set (Int.toNat k) (l.getD (Int.toNat (k+1)) default)) (l':=(l.set (Int.toNat k) (l.getD (Int.toNat (k+1)) default)).set (Int.toNat (k+1)) (l.getD (Int.toNat k) default)) (val:=.agg #[I ((l.getD (Int.toNat k) default).spring),I ((l.getD (Int.toNat k) default).town)]) (L':=[cOwn (α:=Dem) 49 aj ((l.set (Int.toNat k) (l.getD (Int.toNat (k+1)) default)).set (Int.toNat (k+1)) (l.getD (Int.toNat k) default)),cMem encDm ak B_mem (zaa aa ab ac ae ag ah ai)]) H rfl Sz49 (by omega) (by omega) (l.getD (Int.toNat k) default) rfl rfl rfl rfl rfl ?_;intro dv H
        refine s_nil ⟨(H.pk [1]),?_⟩
        refine kg 6 ?_
        exact ⟨bj,bm,(l.set (Int.toNat k) (l.getD (Int.toNat (k+1)) default)).set (Int.toNat (k+1)) (l.getD (Int.toNat k) default),k+1,_,upds_of _ _ ⟨rfl,rfl,rfl,trivial⟩,M.e_inl hM a7,H⟩
       skip
       refine s_val (x_ld (v:=.agg #[I ((l.getD (Int.toNat k) default).spring),I ((l.getD (Int.toNat k) default).town)]) rfl (ld_ag Ag49 Sz49 (At.mono (Dem_atA (H.os 0) (i:=k) (by omega) (by omega)) (H.ol 0)))) ?_
       refine s_nil ⟨(H.pk [1]),?_⟩
       refine t_l rfl<|s_val (x_ld (v:=.agg #[I ((l.getD (Int.toNat (k+1)) default).spring),I ((l.getD (Int.toNat (k+1)) default).town)]) rfl (ld_ag Ag49 Sz49 (At.mono (Dem_atA (H.os 0) (i:=k+1) (by omega) (by omega)) (H.ol 0)))) ?_
       refine s_nil ⟨(H.pk [1]),?_⟩
       refine t_l rfl ?_;refine kg 1 ?_
       refine s_nil ⟨(H.pk [1]),?_⟩
       refine t_l rfl ?_;refine t_ost (k:=0) (i:=k) (l:=l) (l':=l.set (Int.toNat k) (l.getD (Int.toNat (k+1)) default)) (val:=.agg #[I ((l.getD (Int.toNat (k+1)) default).spring),I ((l.getD (Int.toNat (k+1)) default).town)]) (L':=[cOwn (α:=Dem) 49 aj (l.set (Int.toNat k) (l.getD (Int.toNat (k+1)) default)),cMem encDm ak B_mem (zaa aa ab ac ae ag ah ai)]) H rfl Sz49 (by omega) (by omega) (l.getD (Int.toNat (k+1)) default) rfl rfl rfl rfl rfl ?_;intro dw H
       refine s_nil ⟨(H.pk [1]),?_⟩
       refine t_l rfl ?_;refine kg 1 ?_
       refine s_nil ⟨(H.pk [1]),?_⟩
       refine t_l rfl ?_;refine t_ost (k:=0) (i:=k+1) (l:=l.set (Int.toNat k) (l.getD (Int.toNat (k+1)) default)) (l':=(l.set (Int.toNat k) (l.getD (Int.toNat (k+1)) default)).set (Int.toNat (k+1)) (l.getD (Int.toNat k) default)) (val:=.agg #[I ((l.getD (Int.toNat k) default).spring),I ((l.getD (Int.toNat k) default).town)]) (L':=[cOwn (α:=Dem) 49 aj ((l.set (Int.toNat k) (l.getD (Int.toNat (k+1)) default)).set (Int.toNat (k+1)) (l.getD (Int.toNat k) default)),cMem encDm ak B_mem (zaa aa ab ac ae ag ah ai)]) H rfl Sz49 (by omega) (by omega) (l.getD (Int.toNat k) default) rfl rfl rfl rfl rfl ?_;intro dx H
       refine s_nil ⟨(H.pk [1]),?_⟩
       refine kg 6 ?_
       exact ⟨bj,bm,(l.set (Int.toNat k) (l.getD (Int.toNat (k+1)) default)).set (Int.toNat (k+1)) (l.getD (Int.toNat k) default),k+1,_,upds_of _ _ ⟨rfl,rfl,rfl,trivial⟩,M.e_inl hM a7,H⟩
      skip
      refine s_val (x_ld (v:=.agg #[I ((l.getD (Int.toNat k) default).spring),I ((l.getD (Int.toNat k) default).town)]) rfl (ld_ag Ag49 Sz49 (At.mono (Dem_atA (H.os 0) (i:=k) (by omega) (by omega)) (H.ol 0)))) ?_
      refine s_nil ⟨(H.pk [1]),?_⟩
      refine t_l rfl ?_;refine kg 1 ?_
      refine s_nil ⟨(H.pk [1]),?_⟩
      refine t_l rfl<|s_val (x_ld (v:=.agg #[I ((l.getD (Int.toNat (k+1)) default).spring),I ((l.getD (Int.toNat (k+1)) default).town)]) rfl (ld_ag Ag49 Sz49 (At.mono (Dem_atA (H.os 0) (i:=k+1) (by omega) (by omega)) (H.ol 0)))) ?_
      refine s_nil ⟨(H.pk [1]),?_⟩
      refine t_l rfl ?_;refine kg 1 ?_
      refine s_nil ⟨(H.pk [1]),?_⟩
      refine t_l rfl ?_;refine t_ost (k:=0) (i:=k) (l:=l) (l':=l.set (Int.toNat k) (l.getD (Int.toNat (k+1)) default)) (val:=.agg #[I ((l.getD (Int.toNat (k+1)) default).spring),I ((l.getD (Int.toNat (k+1)) default).town)]) (L':=[cOwn (α:=Dem) 49 aj (l.set (Int.toNat k) (l.getD (Int.toNat (k+1)) default)),cMem encDm ak B_mem (zaa aa ab ac ae ag ah ai)]) H rfl Sz49 (by omega) (by omega) (l.getD (Int.toNat (k+1)) default) rfl rfl rfl rfl rfl ?_;intro dz H
      refine s_nil ⟨(H.pk [1]),?_⟩
      refine t_l rfl ?_;refine kg 1 ?_
      refine s_nil ⟨(H.pk [1]),?_⟩
      refine t_l rfl ?_;refine t_ost (k:=0) (i:=k+1) (l:=l.set (Int.toNat k) (l.getD (Int.toNat (k+1)) default)) (l':=(l.set (Int.toNat k) (l.getD (Int.toNat (k+1)) default)).set (Int.toNat (k+1)) (l.getD (Int.toNat k) default)) (val:=.agg #[I ((l.getD (Int.toNat k) default).spring),I ((l.getD (Int.toNat k) default).town)]) (L':=[cOwn (α:=Dem) 49 aj ((l.set (Int.toNat k) (l.getD (Int.toNat (k+1)) default)).set (Int.toNat (k+1)) (l.getD (Int.toNat k) default)),cMem encDm ak B_mem (zaa aa ab ac ae ag ah ai)]) H rfl Sz49 (by omega) (by omega) (l.getD (Int.toNat k) default) rfl rfl rfl rfl rfl ?_;intro dA H
      refine s_nil ⟨(H.pk [1]),?_⟩
      refine kg 6 ?_
      exact ⟨bj,bm,(l.set (Int.toNat k) (l.getD (Int.toNat (k+1)) default)).set (Int.toNat (k+1)) (l.getD (Int.toNat k) default),k+1,_,upds_of _ _ ⟨rfl,rfl,rfl,trivial⟩,M.e_inl hM a7,H⟩
     replace hM:=M.e_f hM a8
     replace a8:=dI a8
     refine W.exit ?_
     have cv:=M.e_inr hM a7
     subst cv;replace hM:=cu;(try dsimp only at hM);refine W.ret ?_
     have ba:=M.e_pure hM
     exact ⟨_,resE_tmp0 rfl,⟨l,B_mem,ba,rfl,H⟩⟩
    replace hM:=M.e_f hM aY
    replace aY:=dI aY
    obtain ⟨dB,hM⟩:=M.e_gd hM;refine kg 9 ?_
    refine W.cond ((b-m_)==1) rfl (fun bb=>?_) (fun bb=>?_)
    ·replace hM:=M.e_t hM bb
     replace bb:=dI bb
     refine kg 12 ?_;obtain ⟨cw,bV,cx⟩:=M.e_bind hM
     obtain ⟨bQ,bV⟩:=M.e_iter bV
     refine W.loop (fun m σ W=>∃ (i3:Int) (j2:Int) (B_mem2:Base) (ρ:Env),σ=upds ρ [(0,aj),(2,I m_),(4,.func (.func 62) #[] #[Pq ay]),(14,I i3),(15,I j2)]/\M.iterN (zbC data m_ aa ab ac ae ag ah ai am ao ap aq au av aw) m (i3,j2)=some cw/\St w W [cOwn (α:=Dem) 49 aj data,cMem encDm ak B_mem2 (zaa aa ab ac ae ag ah ai)] R) ?_ ?_
     ·exact ⟨_,a,m_,B_b_cmp2020207,_,upds_of _ _ ⟨rfl,rfl,rfl,rfl,rfl,trivial⟩,bV,H⟩
     rintro dC σ dD ⟨i3,j2,B_mem2,ρ,rfl,ce,H⟩
     obtain ⟨cf,cg,dE,hM,bW⟩:=M.e_iterN ce
     simp only [zbC] at hM
     clear ce;refine kg 7 ?_
     refine W.cond (decide (i3<j2)) rfl (fun bc=>?_) (fun bc=>?_)
     ·replace hM:=M.e_t hM bc
      replace bc:=dI bc
      obtain ⟨dF,hM⟩:=M.e_gd hM;obtain ⟨dG,hM⟩:=M.e_gd hM;refine kg 7 ?_;refine s_val (x_convU (kd:=.i64) (a:=i3+j2) Tryz.underlying3 Tryz.underlying143 rfl (by omega))<|s_val (x_ushr1 (a:=i3+j2) rfl rfl) ?_;obtain ⟨dH,hM⟩:=M.e_gd hM;refine s_val (x_conv64 (kd:=.u64) (a:=(i3+j2) / 2) Tryz.underlying143 Tryz.underlying3 rfl (by omega)) ?_;refine kg 3 ?_;refine W.draw (fun W=>St w W [cOwn (α:=Dem) 49 aj data] R) [(0,true),(1,true),(2,true),(3,true),(4,true),(5,true),(6,true),(7,true),(8,true),(9,false),(10,true),(11,true)] mixed (by decide +kernel) rfl ?_;intro dJ ax;replace H:=H.ext ax;clear ax
      refine ⟨(H.pk [0]),?_⟩
      obtain ⟨dK,hM⟩:=M.e_gd hM;refine kg 4 ?_;refine d_q rfl (fun w' H=>x_ld (v:=.agg #[I ((data.getD (Int.toNat m_) default).spring),I ((data.getD (Int.toNat m_) default).town)]) rfl (ld_ag Ag49 Sz49 (At.mono (Dem_atA (H.os 0) (i:=m_) (by omega) (by omega)) (H.ol 0)))) ?_;obtain ⟨dL,hM⟩:=M.e_gd hM;refine kg 3 ?_;refine d_q rfl (fun w' H=>x_ld (v:=.agg #[I ((data.getD (Int.toNat ((i3+j2) / 2)) default).spring),I ((data.getD (Int.toNat ((i3+j2) / 2)) default).town)]) rfl (ld_ag Ag49 Sz49 (At.mono (Dem_atA (H.os 0) (i:=(i3+j2) / 2) (by omega) (by omega)) (H.ol 0))))<|d_l rfl ?_;obtain ⟨dM,cy,hM⟩:=M.e_bind hM;refine s_callv (f:=62) rfl cf62 [.agg #[I ((data.getD (Int.toNat m_) default).spring),I ((data.getD (Int.toNat m_) default).town)],.agg #[I ((data.getD (Int.toNat ((i3+j2) / 2)) default).spring),I ((data.getD (Int.toNat ((i3+j2) / 2)) default).town)]] rfl (zbM (data.getD (Int.toNat m_) default) (data.getD (Int.toNat ((i3+j2) / 2)) default) aa ab ac ae ag ah ai am ao ap aq au av aw (az.app _) aA (aB.app _) aC (aD.app _) aE (aF.app _) aG (aH.app _) aI (aJ.app _) (aK.app _) (aL.app _) aM (aN.app _) aO (aP.app _) aQ (aR.app _) aS (aT.app _) aU (aV.app _) (aW.app _) (aX.app _) cy _ ((H.pk [1,0]).gt 1)) ?_
      rintro vq dN ⟨r3,ch,rfl,hvq,al⟩
      subst vq;(try dsimp only at hM)
      replace H:=H.pk [1,0] |>.bk al
      clear al
      refine s_nil ⟨(H.pk [1]),?_⟩
      refine kg 3 ?_
      refine W.cond (!(decide (r3<0))) rfl (fun bX=>?_) (fun bX=>?_)
      ·replace hM:=M.e_t hM bX;refine kg 5 ?_
       exact ⟨cf,cg,((i3+j2) / 2)+1,j2,ch,_,upds_of _ _ ⟨rfl,rfl,rfl,rfl,rfl,trivial⟩,M.e_inl hM bW,(H.pk [1,0])⟩
      replace hM:=M.e_f hM bX;refine kg 4 ?_
      exact ⟨cf,cg,i3,(i3+j2) / 2,ch,_,upds_of _ _ ⟨rfl,rfl,rfl,rfl,rfl,trivial⟩,M.e_inl hM bW,(H.pk [1,0])⟩
     replace hM:=M.e_f hM bc
     replace bc:=dI bc
     refine W.exit ?_
     have cz:=M.e_inr hM bW
     subst cz;replace hM:=cx;(try dsimp only at hM);refine kg 7 ?_;obtain ⟨cA,bY,cB⟩:=M.e_bind hM
     obtain ⟨bQ,bY⟩:=M.e_iter bY
     refine W.loop (fun m σ W=>∃ (l3:List Dem) (k2:Int) (ρ:Env),σ=upds ρ [(0,aj),(14,I i3),(17,I k2)]/\M.iterN (zbQ i3) m (l3,k2)=some cA/\St w W [cOwn (α:=Dem) 49 aj l3,cMem encDm ak B_mem2 (zaa aa ab ac ae ag ah ai)] R) ?_ ?_
     ·exact ⟨_,data,m_,_,upds_of _ _ ⟨rfl,rfl,rfl,trivial⟩,bY,H⟩
     rintro dO σ dP ⟨l3,k2,ρ,rfl,ci,H⟩
     obtain ⟨bn,bo,dQ,hM,bf⟩:=M.e_iterN ci
     simp only [zbQ] at hM
     clear ci;refine kg 7 ?_
     refine W.cond (decide (i3<k2)) rfl (fun bg=>?_) (fun bg=>?_)
     ·replace hM:=M.e_t hM bg
      replace bg:=dI bg
      refine kg 3 ?_;refine W.drawT (fun W=>St w W [cMem encDm ak B_mem2 (zaa aa ab ac ae ag ah ai)] R) (.q 0 (.q 1 (.q 2 (.q 3 (.q 4 (.q 5 (.q 6 (.q 7 (.q 10 (.q 11 (.l2 8 (.l2 9 (.l 12 (.l 13 (.l 14 (.l 15 (.l 16 (.l 17 .nil)))))) 12 (.l2 9 (.l 13 (.l 14 (.l 15 (.l 16 (.l 17 .nil))))) 13 (.l 9 (.l 14 (.l 15 (.l 16 (.l 17 .nil))))))) 12 (.l2 8 (.l2 9 (.l 13 (.l 14 (.l 15 (.l 16 (.l 17 .nil))))) 13 (.l 9 (.l 14 (.l 15 (.l 16 (.l 17 .nil)))))) 13 (.l 8 (.l 9 (.l 14 (.l 15 (.l 16 (.l 17 .nil)))))))))))))))))) mixed (by decide +kernel) rfl ?_;intro dR ax;replace H:=H.ext ax;clear ax
      refine ⟨(H.pk [1]),?_⟩
      obtain ⟨dS,hM⟩:=M.e_gd hM;obtain ⟨dU,hM⟩:=M.e_gd hM;obtain ⟨dV,hM⟩:=M.e_gd hM;obtain ⟨dW,hM⟩:=M.e_gd hM;refine kg 10 ?_;refine t_l2 rfl rfl ?_ ?_
      ·skip
       refine kg 1 ?_
       have dX:=Sl.cells (H.os 0)
       have dY:=Sl.oc (H.os 0)
       refine s_nil ⟨(H.pk [1]),?_⟩
       refine t_l2 rfl rfl ?_ ?_
       ·skip
        refine s_val (x_ld (v:=.agg #[I ((l3.getD (Int.toNat (k2-1)) default).spring),I ((l3.getD (Int.toNat (k2-1)) default).town)]) rfl (ld_ag Ag49 Sz49 (At.mono (Dem_atA (H.os 0) (i:=k2-1) (by omega) (by omega)) (H.ol 0)))) ?_
        refine s_nil ⟨(H.pk [1]),?_⟩
        refine t_l rfl ?_;refine kg 1 ?_
        refine s_nil ⟨(H.pk [1]),?_⟩
        refine t_l rfl<|s_val (x_ld (v:=.agg #[I ((l3.getD (Int.toNat k2) default).spring),I ((l3.getD (Int.toNat k2) default).town)]) rfl (ld_ag Ag49 Sz49 (At.mono (Dem_atA (H.os 0) (i:=k2) (by omega) (by omega)) (H.ol 0)))) ?_
        refine s_nil ⟨(H.pk [1]),?_⟩
        refine t_l rfl ?_;refine kg 1 ?_
        refine s_nil ⟨(H.pk [1]),?_⟩
        refine t_l rfl ?_;refine t_ost (k:=0) (i:=k2) (l:=l3) (l':=l3.set (Int.toNat k2) (l3.getD (Int.toNat (k2-1)) default)) (val:=.agg #[I ((l3.getD (Int.toNat (k2-1)) default).spring),I ((l3.getD (Int.toNat (k2-1)) default).town)]) (L':=[cOwn (α:=Dem) 49 aj (l3.set (Int.toNat k2) (l3.getD (Int.toNat (k2-1)) default)),cMem encDm ak B_mem2 (zaa aa ab ac ae ag ah ai)]) H rfl Sz49 (by omega) (by omega) (l3.getD (Int.toNat (k2-1)) default) rfl rfl rfl rfl rfl ?_;intro dZ H
        refine s_nil ⟨(H.pk [1]),?_⟩
        refine t_l rfl ?_;refine kg 1 ?_
        refine s_nil ⟨(H.pk [1]),?_⟩
        refine t_l rfl ?_;refine t_ost (k:=0) (i:=k2-1) (l:=l3.set (Int.toNat k2) (l3.getD (Int.toNat (k2-1)) default)) (l':=(l3.set (Int.toNat k2) (l3.getD (Int.toNat (k2-1)) default)).set (Int.toNat (k2-1)) (l3.getD (Int.toNat k2) default)) (val:=.agg #[I ((l3.getD (Int.toNat k2) default).spring),I ((l3.getD (Int.toNat k2) default).town)]) (L':=[cOwn (α:=Dem) 49 aj ((l3.set (Int.toNat k2) (l3.getD (Int.toNat (k2-1)) default)).set (Int.toNat (k2-1)) (l3.getD (Int.toNat k2) default)),cMem encDm ak B_mem2 (zaa aa ab ac ae ag ah ai)]) H rfl Sz49 (by omega) (by omega) (l3.getD (Int.toNat k2) default) rfl rfl rfl rfl rfl ?_;intro d4 H
        refine s_nil ⟨(H.pk [1]),?_⟩
        refine kg 6 ?_
        exact ⟨bn,bo,(l3.set (Int.toNat k2) (l3.getD (Int.toNat (k2-1)) default)).set (Int.toNat (k2-1)) (l3.getD (Int.toNat k2) default),k2-1,_,upds_of _ _ ⟨rfl,rfl,rfl,trivial⟩,M.e_inl hM bf,H⟩
       skip
       refine kg 1 ?_
       refine s_nil ⟨(H.pk [1]),?_⟩
       refine t_l2 rfl rfl ?_ ?_
       ·skip
        refine s_val (x_ld (v:=.agg #[I ((l3.getD (Int.toNat (k2-1)) default).spring),I ((l3.getD (Int.toNat (k2-1)) default).town)]) rfl (ld_ag Ag49 Sz49 (At.mono (Dem_atA (H.os 0) (i:=k2-1) (by omega) (by omega)) (H.ol 0)))) ?_
        refine s_nil ⟨(H.pk [1]),?_⟩
        refine t_l rfl<|s_val (x_ld (v:=.agg #[I ((l3.getD (Int.toNat k2) default).spring),I ((l3.getD (Int.toNat k2) default).town)]) rfl (ld_ag Ag49 Sz49 (At.mono (Dem_atA (H.os 0) (i:=k2) (by omega) (by omega)) (H.ol 0)))) ?_
        refine s_nil ⟨(H.pk [1]),?_⟩
        refine t_l rfl ?_;refine kg 1 ?_
        refine s_nil ⟨(H.pk [1]),?_⟩
        refine t_l rfl ?_;refine t_ost (k:=0) (i:=k2) (l:=l3) (l':=l3.set (Int.toNat k2) (l3.getD (Int.toNat (k2-1)) default)) (val:=.agg #[I ((l3.getD (Int.toNat (k2-1)) default).spring),I ((l3.getD (Int.toNat (k2-1)) default).town)]) (L':=[cOwn (α:=Dem) 49 aj (l3.set (Int.toNat k2) (l3.getD (Int.toNat (k2-1)) default)),cMem encDm ak B_mem2 (zaa aa ab ac ae ag ah ai)]) H rfl Sz49 (by omega) (by omega) (l3.getD (Int.toNat (k2-1)) default) rfl rfl rfl rfl rfl ?_;intro d5 H
        refine s_nil ⟨(H.pk [1]),?_⟩
        refine t_l rfl ?_;refine kg 1 ?_
        refine s_nil ⟨(H.pk [1]),?_⟩
        refine t_l rfl ?_;refine t_ost (k:=0) (i:=k2-1) (l:=l3.set (Int.toNat k2) (l3.getD (Int.toNat (k2-1)) default)) (l':=(l3.set (Int.toNat k2) (l3.getD (Int.toNat (k2-1)) default)).set (Int.toNat (k2-1)) (l3.getD (Int.toNat k2) default)) (val:=.agg #[I ((l3.getD (Int.toNat k2) default).spring),I ((l3.getD (Int.toNat k2) default).town)]) (L':=[cOwn (α:=Dem) 49 aj ((l3.set (Int.toNat k2) (l3.getD (Int.toNat (k2-1)) default)).set (Int.toNat (k2-1)) (l3.getD (Int.toNat k2) default)),cMem encDm ak B_mem2 (zaa aa ab ac ae ag ah ai)]) H rfl Sz49 (by omega) (by omega) (l3.getD (Int.toNat k2) default) rfl rfl rfl rfl rfl ?_;intro d6 H
        refine s_nil ⟨(H.pk [1]),?_⟩
        refine kg 6 ?_
        exact ⟨bn,bo,(l3.set (Int.toNat k2) (l3.getD (Int.toNat (k2-1)) default)).set (Int.toNat (k2-1)) (l3.getD (Int.toNat k2) default),k2-1,_,upds_of _ _ ⟨rfl,rfl,rfl,trivial⟩,M.e_inl hM bf,H⟩
       skip
       refine s_val (x_ld (v:=.agg #[I ((l3.getD (Int.toNat k2) default).spring),I ((l3.getD (Int.toNat k2) default).town)]) rfl (ld_ag Ag49 Sz49 (At.mono (Dem_atA (H.os 0) (i:=k2) (by omega) (by omega)) (H.ol 0)))) ?_
       refine s_nil ⟨(H.pk [1]),?_⟩
       refine t_l rfl<|s_val (x_ld (v:=.agg #[I ((l3.getD (Int.toNat (k2-1)) default).spring),I ((l3.getD (Int.toNat (k2-1)) default).town)]) rfl (ld_ag Ag49 Sz49 (At.mono (Dem_atA (H.os 0) (i:=k2-1) (by omega) (by omega)) (H.ol 0)))) ?_
       refine s_nil ⟨(H.pk [1]),?_⟩
       refine t_l rfl ?_;refine kg 1 ?_
       refine s_nil ⟨(H.pk [1]),?_⟩
       refine t_l rfl ?_;refine t_ost (k:=0) (i:=k2) (l:=l3) (l':=l3.set (Int.toNat k2) (l3.getD (Int.toNat (k2-1)) default)) (val:=.agg #[I ((l3.getD (Int.toNat (k2-1)) default).spring),I ((l3.getD (Int.toNat (k2-1)) default).town)]) (L':=[cOwn (α:=Dem) 49 aj (l3.set (Int.toNat k2) (l3.getD (Int.toNat (k2-1)) default)),cMem encDm ak B_mem2 (zaa aa ab ac ae ag ah ai)]) H rfl Sz49 (by omega) (by omega) (l3.getD (Int.toNat (k2-1)) default) rfl rfl rfl rfl rfl ?_;intro d7 H
       refine s_nil ⟨(H.pk [1]),?_⟩
       refine t_l rfl ?_;refine kg 1 ?_
       refine s_nil ⟨(H.pk [1]),?_⟩
       refine t_l rfl ?_;refine t_ost (k:=0) (i:=k2-1) (l:=l3.set (Int.toNat k2) (l3.getD (Int.toNat (k2-1)) default)) (l':=(l3.set (Int.toNat k2) (l3.getD (Int.toNat (k2-1)) default)).set (Int.toNat (k2-1)) (l3.getD (Int.toNat k2) default)) (val:=.agg #[I ((l3.getD (Int.toNat k2) default).spring),I ((l3.getD (Int.toNat k2) default).town)]) (L':=[cOwn (α:=Dem) 49 aj ((l3.set (Int.toNat k2) (l3.getD (Int.toNat (k2-1)) default)).set (Int.toNat (k2-1)) (l3.getD (Int.toNat k2) default)),cMem encDm ak B_mem2 (zaa aa ab ac ae ag ah ai)]) H rfl Sz49 (by omega) (by omega) (l3.getD (Int.toNat k2) default) rfl rfl rfl rfl rfl ?_;intro d8 H
       refine s_nil ⟨(H.pk [1]),?_⟩
       refine kg 6 ?_
       exact ⟨bn,bo,(l3.set (Int.toNat k2) (l3.getD (Int.toNat (k2-1)) default)).set (Int.toNat (k2-1)) (l3.getD (Int.toNat k2) default),k2-1,_,upds_of _ _ ⟨rfl,rfl,rfl,trivial⟩,M.e_inl hM bf,H⟩
      skip
      refine kg 1 ?_
      have d9:=Sl.cells (H.os 0)
      have ea:=Sl.oc (H.os 0)
      refine s_nil ⟨(H.pk [1]),?_⟩
      refine t_l2 rfl rfl ?_ ?_
      ·skip
       refine kg 1 ?_
       refine s_nil ⟨(H.pk [1]),?_⟩
       refine t_l2 rfl rfl ?_ ?_
       ·skip
        refine s_val (x_ld (v:=.agg #[I ((l3.getD (Int.toNat (k2-1)) default).spring),I ((l3.getD (Int.toNat (k2-1)) default).town)]) rfl (ld_ag Ag49 Sz49 (At.mono (Dem_atA (H.os 0) (i:=k2-1) (by omega) (by omega)) (H.ol 0)))) ?_
        refine s_nil ⟨(H.pk [1]),?_⟩
        refine t_l rfl<|s_val (x_ld (v:=.agg #[I ((l3.getD (Int.toNat k2) default).spring),I ((l3.getD (Int.toNat k2) default).town)]) rfl (ld_ag Ag49 Sz49 (At.mono (Dem_atA (H.os 0) (i:=k2) (by omega) (by omega)) (H.ol 0)))) ?_
        refine s_nil ⟨(H.pk [1]),?_⟩
        refine t_l rfl ?_;refine kg 1 ?_
        refine s_nil ⟨(H.pk [1]),?_⟩
        refine t_l rfl ?_;refine t_ost (k:=0) (i:=k2) (l:=l3) (l':=l3.set (Int.toNat k2) (l3.getD (Int.toNat (k2-1)) default)) (val:=.agg #[I ((l3.getD (Int.toNat (k2-1)) default).spring),I ((l3.getD (Int.toNat (k2-1)) default).town)]) (L':=[cOwn (α:=Dem) 49 aj (l3.set (Int.toNat k2) (l3.getD (Int.toNat (k2-1)) default)),cMem encDm ak B_mem2 (zaa aa ab ac ae ag ah ai)]) H rfl Sz49 (by omega) (by omega) (l3.getD (Int.toNat (k2-1)) default) rfl rfl rfl rfl rfl ?_;intro eb H
        refine s_nil ⟨(H.pk [1]),?_⟩
        refine t_l rfl ?_;refine kg 1 ?_
        refine s_nil ⟨(H.pk [1]),?_⟩
        refine t_l rfl ?_;refine t_ost (k:=0) (i:=k2-1) (l:=l3.set (Int.toNat k2) (l3.getD (Int.toNat (k2-1)) default)) (l':=(l3.set (Int.toNat k2) (l3.getD (Int.toNat (k2-1)) default)).set (Int.toNat (k2-1)) (l3.getD (Int.toNat k2) default)) (val:=.agg #[I ((l3.getD (Int.toNat k2) default).spring),I ((l3.getD (Int.toNat k2) default).town)]) (L':=[cOwn (α:=Dem) 49 aj ((l3.set (Int.toNat k2) (l3.getD (Int.toNat (k2-1)) default)).set (Int.toNat (k2-1)) (l3.getD (Int.toNat k2) default)),cMem encDm ak B_mem2 (zaa aa ab ac ae ag ah ai)]) H rfl Sz49 (by omega) (by omega) (l3.getD (Int.toNat k2) default) rfl rfl rfl rfl rfl ?_;intro ec H
        refine s_nil ⟨(H.pk [1]),?_⟩
        refine kg 6 ?_
        exact ⟨bn,bo,(l3.set (Int.toNat k2) (l3.getD (Int.toNat (k2-1)) default)).set (Int.toNat (k2-1)) (l3.getD (Int.toNat k2) default),k2-1,_,upds_of _ _ ⟨rfl,rfl,rfl,trivial⟩,M.e_inl hM bf,H⟩
       skip
       refine s_val (x_ld (v:=.agg #[I ((l3.getD (Int.toNat k2) default).spring),I ((l3.getD (Int.toNat k2) default).town)]) rfl (ld_ag Ag49 Sz49 (At.mono (Dem_atA (H.os 0) (i:=k2) (by omega) (by omega)) (H.ol 0)))) ?_
       refine s_nil ⟨(H.pk [1]),?_⟩
       refine t_l rfl<|s_val (x_ld (v:=.agg #[I ((l3.getD (Int.toNat (k2-1)) default).spring),I ((l3.getD (Int.toNat (k2-1)) default).town)]) rfl (ld_ag Ag49 Sz49 (At.mono (Dem_atA (H.os 0) (i:=k2-1) (by omega) (by omega)) (H.ol 0)))) ?_
       refine s_nil ⟨(H.pk [1]),?_⟩
       refine t_l rfl ?_;refine kg 1 ?_
       refine s_nil ⟨(H.pk [1]),?_⟩
       refine t_l rfl ?_;refine t_ost (k:=0) (i:=k2) (l:=l3) (l':=l3.set (Int.toNat k2) (l3.getD (Int.toNat (k2-1)) default)) (val:=.agg #[I ((l3.getD (Int.toNat (k2-1)) default).spring),I ((l3.getD (Int.toNat (k2-1)) default).town)]) (L':=[cOwn (α:=Dem) 49 aj (l3.set (Int.toNat k2) (l3.getD (Int.toNat (k2-1)) default)),cMem encDm ak B_mem2 (zaa aa ab ac ae ag ah ai)]) H rfl Sz49 (by omega) (by omega) (l3.getD (Int.toNat (k2-1)) default) rfl rfl rfl rfl rfl ?_;intro ed H
       refine s_nil ⟨(H.pk [1]),?_⟩
       refine t_l rfl ?_;refine kg 1 ?_
       refine s_nil ⟨(H.pk [1]),?_⟩
       refine t_l rfl ?_;refine t_ost (k:=0) (i:=k2-1) (l:=l3.set (Int.toNat k2) (l3.getD (Int.toNat (k2-1)) default)) (l':=(l3.set (Int.toNat k2) (l3.getD (Int.toNat (k2-1)) default)).set (Int.toNat (k2-1)) (l3.getD (Int.toNat k2) default)) (val:=.agg #[I ((l3.getD (Int.toNat k2) default).spring),I ((l3.getD (Int.toNat k2) default).town)]) (L':=[cOwn (α:=Dem) 49 aj ((l3.set (Int.toNat k2) (l3.getD (Int.toNat (k2-1)) default)).set (Int.toNat (k2-1)) (l3.getD (Int.toNat k2) default)),cMem encDm ak B_mem2 (zaa aa ab ac ae ag ah ai)]) H rfl Sz49 (by omega) (by omega) (l3.getD (Int.toNat k2) default) rfl rfl rfl rfl rfl ?_;intro ef H
       refine s_nil ⟨(H.pk [1]),?_⟩
       refine kg 6 ?_
       exact ⟨bn,bo,(l3.set (Int.toNat k2) (l3.getD (Int.toNat (k2-1)) default)).set (Int.toNat (k2-1)) (l3.getD (Int.toNat k2) default),k2-1,_,upds_of _ _ ⟨rfl,rfl,rfl,trivial⟩,M.e_inl hM bf,H⟩
      skip
      refine s_val (x_ld (v:=.agg #[I ((l3.getD (Int.toNat k2) default).spring),I ((l3.getD (Int.toNat k2) default).town)]) rfl (ld_ag Ag49 Sz49 (At.mono (Dem_atA (H.os 0) (i:=k2) (by omega) (by omega)) (H.ol 0)))) ?_
      refine s_nil ⟨(H.pk [1]),?_⟩
      refine t_l rfl ?_;refine kg 1 ?_
      refine s_nil ⟨(H.pk [1]),?_⟩
      refine t_l rfl<|s_val (x_ld (v:=.agg #[I ((l3.getD (Int.toNat (k2-1)) default).spring),I ((l3.getD (Int.toNat (k2-1)) default).town)]) rfl (ld_ag Ag49 Sz49 (At.mono (Dem_atA (H.os 0) (i:=k2-1) (by omega) (by omega)) (H.ol 0)))) ?_
      refine s_nil ⟨(H.pk [1]),?_⟩
      refine t_l rfl ?_;refine kg 1 ?_
      refine s_nil ⟨(H.pk [1]),?_⟩
      refine t_l rfl ?_;refine t_ost (k:=0) (i:=k2) (l:=l3) (l':=l3.set (Int.toNat k2) (l3.getD (Int.toNat (k2-1)) default)) (val:=.agg #[I ((l3.getD (Int.toNat (k2-1)) default).spring),I ((l3.getD (Int.toNat (k2-1)) default).town)]) (L':=[cOwn (α:=Dem) 49 aj (l3.set (Int.toNat k2) (l3.getD (Int.toNat (k2-1)) default)),cMem encDm ak B_mem2 (zaa aa ab ac ae ag ah ai)]) H rfl Sz49 (by omega) (by omega) (l3.getD (Int.toNat (k2-1)) default) rfl rfl rfl rfl rfl ?_;intro eg H
      refine s_nil ⟨(H.pk [1]),?_⟩
      refine t_l rfl ?_;refine kg 1 ?_
      refine s_nil ⟨(H.pk [1]),?_⟩
      refine t_l rfl ?_;refine t_ost (k:=0) (i:=k2-1) (l:=l3.set (Int.toNat k2) (l3.getD (Int.toNat (k2-1)) default)) (l':=(l3.set (Int.toNat k2) (l3.getD (Int.toNat (k2-1)) default)).set (Int.toNat (k2-1)) (l3.getD (Int.toNat k2) default)) (val:=.agg #[I ((l3.getD (Int.toNat k2) default).spring),I ((l3.getD (Int.toNat k2) default).town)]) (L':=[cOwn (α:=Dem) 49 aj ((l3.set (Int.toNat k2) (l3.getD (Int.toNat (k2-1)) default)).set (Int.toNat (k2-1)) (l3.getD (Int.toNat k2) default)),cMem encDm ak B_mem2 (zaa aa ab ac ae ag ah ai)]) H rfl Sz49 (by omega) (by omega) (l3.getD (Int.toNat k2) default) rfl rfl rfl rfl rfl ?_;intro eh H
      refine s_nil ⟨(H.pk [1]),?_⟩
      refine kg 6 ?_
      exact ⟨bn,bo,(l3.set (Int.toNat k2) (l3.getD (Int.toNat (k2-1)) default)).set (Int.toNat (k2-1)) (l3.getD (Int.toNat k2) default),k2-1,_,upds_of _ _ ⟨rfl,rfl,rfl,trivial⟩,M.e_inl hM bf,H⟩
     replace hM:=M.e_f hM bg
     replace bg:=dI bg
     refine W.exit ?_
     have cC:=M.e_inr hM bf
     subst cC;replace hM:=cB;(try dsimp only at hM);refine W.ret ?_
     have ba:=M.e_pure hM
     exact ⟨_,resE_tmp0 rfl,⟨l3,B_mem2,ba,rfl,H⟩⟩
    replace hM:=M.e_f hM bb
    replace bb:=dI bb
    obtain ⟨ei,hM⟩:=M.e_gd hM;obtain ⟨ej,hM⟩:=M.e_gd hM;refine kg 6 ?_;refine s_val (x_convU (kd:=.i64) (a:=a+b) Tryz.underlying3 Tryz.underlying143 rfl (by omega))<|s_val (x_ushr1 (a:=a+b) rfl rfl) ?_;obtain ⟨el,hM⟩:=M.e_gd hM;refine s_val (x_conv64 (kd:=.u64) (a:=(a+b) / 2) Tryz.underlying143 Tryz.underlying3 rfl (by omega)) ?_;obtain ⟨em,hM⟩:=M.e_gd hM;refine kg 14 ?_;refine W.seqJ (fun σ W=>∃ (start:Int) (r4:Int) (ρ:Env),σ=upds ρ [(0,aj),(1,I a),(2,I m_),(3,I b),(4,.func (.func 62) #[] #[Pq ay]),(18,I ((a+b) / 2)),(19,I (((a+b) / 2)+m_)),(20,I start),(21,I r4)]/\(zaR data a m_ b aa ab ac ae ag ah ai am ao ap aq au av aw (M.fixN zar n_) start r4).Ends r/\St w W [cOwn (α:=Dem) 49 aj data,cMem encDm ak B_b_cmp2020207 (zaa aa ab ac ae ag ah ai)] R) ?_ ?_
    ·skip
     refine kg 6 ?_
     refine W.cond (decide (((a+b) / 2)<m_)) rfl (fun bh=>?_) (fun bh=>?_)
     ·replace hM:=M.e_t hM bh
      replace bh:=dI bh
      obtain ⟨eo,hM⟩:=M.e_gd hM;refine kg 11 ?_
      exact ⟨(((a+b) / 2)+m_)-b,(a+b) / 2,_,upds_of _ _ ⟨rfl,rfl,rfl,rfl,rfl,rfl,rfl,rfl,rfl,trivial⟩,hM,H⟩
     replace hM:=M.e_f hM bh
     replace bh:=dI bh
     refine kg 9 ?_
     exact ⟨a,m_,_,upds_of _ _ ⟨rfl,rfl,rfl,rfl,rfl,rfl,rfl,rfl,rfl,trivial⟩,hM,H⟩
    rintro _ ep ⟨start,r4,ρ,rfl,hM,H⟩
    unfold zaR at hM
    obtain ⟨eq,hM⟩:=M.e_gd hM;refine kg 8 ?_;obtain ⟨cD,bZ,cE⟩:=M.e_bind hM
    obtain ⟨bQ,bZ⟩:=M.e_iter bZ
    refine W.loop (fun m σ W=>∃ (start2:Int) (r6:Int) (B_mem3:Base) (ρ:Env),σ=upds ρ [(0,aj),(1,I a),(2,I m_),(3,I b),(4,.func (.func 62) #[] #[Pq ay]),(18,I ((a+b) / 2)),(19,I (((a+b) / 2)+m_)),(20,I start2),(21,I r6),(22,I ((((a+b) / 2)+m_)-1))]/\M.iterN (zb4 data a m_ b aa ab ac ae ag ah ai am ao ap aq au av aw) m (start2,r6)=some cD/\St w W [cOwn (α:=Dem) 49 aj data,cMem encDm ak B_mem3 (zaa aa ab ac ae ag ah ai)] R) ?_ ?_
    ·exact ⟨_,start,r4,B_b_cmp2020207,_,upds_of _ _ ⟨rfl,rfl,rfl,rfl,rfl,rfl,rfl,rfl,rfl,rfl,trivial⟩,bZ,H⟩
    rintro er σ eu ⟨start2,r6,B_mem3,ρ,rfl,cj,H⟩
    obtain ⟨ck,cl,ew,hM,b3⟩:=M.e_iterN cj
    simp only [zb4] at hM
    clear cj;refine kg 7 ?_
    refine W.cond (decide (start2<r6)) rfl (fun bi=>?_) (fun bi=>?_)
    ·replace hM:=M.e_t hM bi
     replace bi:=dI bi
     obtain ⟨ey,hM⟩:=M.e_gd hM;obtain ⟨ez,hM⟩:=M.e_gd hM;refine kg 7 ?_;refine s_val (x_convU (kd:=.i64) (a:=start2+r6) Tryz.underlying3 Tryz.underlying143 rfl (by omega))<|s_val (x_ushr1 (a:=start2+r6) rfl rfl) ?_;obtain ⟨eA,hM⟩:=M.e_gd hM;refine s_val (x_conv64 (kd:=.u64) (a:=(start2+r6) / 2) Tryz.underlying143 Tryz.underlying3 rfl (by omega)) ?_;refine kg 3 ?_;refine W.draw (fun W=>St w W [cOwn (α:=Dem) 49 aj data] R) [(0,true),(1,true),(2,true),(3,true),(4,true),(5,true),(6,true),(7,true),(8,true),(9,true),(10,true),(11,false),(12,true),(13,true)] mixed (by decide +kernel) rfl ?_;intro eB ax;replace H:=H.ext ax;clear ax
     refine ⟨(H.pk [0]),?_⟩
     obtain ⟨eC,hM⟩:=M.e_gd hM;obtain ⟨eD,hM⟩:=M.e_gd hM;refine kg 6 ?_;refine d_q rfl (fun w' H=>x_ld (v:=.agg #[I ((data.getD (Int.toNat (((((a+b) / 2)+m_)-1)-((start2+r6) / 2))) default).spring),I ((data.getD (Int.toNat (((((a+b) / 2)+m_)-1)-((start2+r6) / 2))) default).town)]) rfl (ld_ag Ag49 Sz49 (At.mono (Dem_atA (H.os 0) (i:=((((a+b) / 2)+m_)-1)-((start2+r6) / 2)) (by omega) (by omega)) (H.ol 0)))) ?_;obtain ⟨eE,hM⟩:=M.e_gd hM;refine kg 3 ?_;refine d_q rfl (fun w' H=>x_ld (v:=.agg #[I ((data.getD (Int.toNat ((start2+r6) / 2)) default).spring),I ((data.getD (Int.toNat ((start2+r6) / 2)) default).town)]) rfl (ld_ag Ag49 Sz49 (At.mono (Dem_atA (H.os 0) (i:=(start2+r6) / 2) (by omega) (by omega)) (H.ol 0))))<|d_l rfl ?_;obtain ⟨eF,cF,hM⟩:=M.e_bind hM;refine s_callv (f:=62) rfl cf62 [.agg #[I ((data.getD (Int.toNat (((((a+b) / 2)+m_)-1)-((start2+r6) / 2))) default).spring),I ((data.getD (Int.toNat (((((a+b) / 2)+m_)-1)-((start2+r6) / 2))) default).town)],.agg #[I ((data.getD (Int.toNat ((start2+r6) / 2)) default).spring),I ((data.getD (Int.toNat ((start2+r6) / 2)) default).town)]] rfl (zbM (data.getD (Int.toNat (((((a+b) / 2)+m_)-1)-((start2+r6) / 2))) default) (data.getD (Int.toNat ((start2+r6) / 2)) default) aa ab ac ae ag ah ai am ao ap aq au av aw (az.app _) aA (aB.app _) aC (aD.app _) aE (aF.app _) aG (aH.app _) aI (aJ.app _) (aK.app _) (aL.app _) aM (aN.app _) aO (aP.app _) aQ (aR.app _) aS (aT.app _) aU (aV.app _) (aW.app _) (aX.app _) cF _ ((H.pk [1,0]).gt 1)) ?_
     rintro vq eG ⟨r5,cm,rfl,hvq,al⟩
     subst vq;(try dsimp only at hM)
     replace H:=H.pk [1,0] |>.bk al
     clear al
     refine s_nil ⟨(H.pk [1]),?_⟩
     refine kg 3 ?_
     refine W.cond (!(decide (r5<0))) rfl (fun b4=>?_) (fun b4=>?_)
     ·replace hM:=M.e_t hM b4;refine kg 5 ?_
      exact ⟨ck,cl,((start2+r6) / 2)+1,r6,cm,_,upds_of _ _ ⟨rfl,rfl,rfl,rfl,rfl,rfl,rfl,rfl,rfl,rfl,trivial⟩,M.e_inl hM b3,(H.pk [1,0])⟩
     replace hM:=M.e_f hM b4;refine kg 4 ?_
     exact ⟨ck,cl,start2,(start2+r6) / 2,cm,_,upds_of _ _ ⟨rfl,rfl,rfl,rfl,rfl,rfl,rfl,rfl,rfl,rfl,trivial⟩,M.e_inl hM b3,(H.pk [1,0])⟩
    replace hM:=M.e_f hM bi
    replace bi:=dI bi
    refine W.exit ?_
    have cG:=M.e_inr hM b3
    subst cG;replace hM:=cE;(try dsimp only at hM);obtain ⟨eH,hM⟩:=M.e_gd hM;refine kg 7 ?_;refine W.seqJ (fun σ W=>∃ (l5:List Dem) (ρ:Env),σ=upds ρ [(0,aj),(1,I a),(3,I b),(4,.func (.func 62) #[] #[Pq ay]),(18,I ((a+b) / 2)),(20,I start2),(24,I ((((a+b) / 2)+m_)-start2))]/\(za0 a m_ b aa ab ac ae ag ah ai am ao ap aq au av aw (M.fixN zar n_) start2 l5).Ends r/\St w W [cOwn (α:=Dem) 49 aj l5,cMem encDm ak B_mem3 (zaa aa ab ac ae ag ah ai)] R) ?_ ?_
    ·skip
     refine kg 11 ?_
     refine W.cond ((decide (start2<m_))&&(decide (m_<((((a+b) / 2)+m_)-start2)))) rfl (fun b6=>?_) (fun b6=>?_)
     ·replace hM:=M.e_t hM b6;refine kg 6 ?_;obtain ⟨eI,cH,hM⟩:=M.e_bind hM;refine s_call cf116 [aj,I start2,I m_,I ((((a+b) / 2)+m_)-start2),.func (.func 62) #[] #[Pq ay]] rfl (zdZ data start2 m_ ((((a+b) / 2)+m_)-start2) aa ab ac ae ag ah ai am ao ap aq au av aw (az.app _) aA (aB.app _) aC (aD.app _) aE (aF.app _) aG (aH.app _) aI (aJ.app _) (aK.app _) (aL.app _) aM (aN.app _) aO (aP.app _) aQ (aR.app _) aS (aT.app _) aU (aV.app _) (aW.app _) (aX.app _) cH _ (H.gt 1)) ?_
      rintro vq eJ ⟨l_data,rfl,hvq,al⟩
      subst vq;(try dsimp only at hM);replace H:=H.bk al;clear al;refine s_nil ?_
      exact ⟨l_data,_,upds_of _ _ ⟨rfl,rfl,rfl,rfl,rfl,rfl,rfl,trivial⟩,hM,H⟩
     replace hM:=M.e_f hM b6;refine W.skip ?_
     exact ⟨data,_,upds_of _ _ ⟨rfl,rfl,rfl,rfl,rfl,rfl,rfl,trivial⟩,hM,H⟩
    rintro _ eK ⟨l5,ρ,rfl,hM,H⟩
    unfold za0 at hM
    refine W.seqJ (fun σ W=>∃ (l6:List Dem) (B_mem4:Base) (ρ:Env),σ=upds ρ [(0,aj),(3,I b),(4,.func (.func 62) #[] #[Pq ay]),(18,I ((a+b) / 2)),(24,I ((((a+b) / 2)+m_)-start2))]/\(za8 a m_ b aa ab ac ae ag ah ai am ao ap aq au av aw (M.fixN zar n_) start2 l6).Ends r/\St w W [cOwn (α:=Dem) 49 aj l6,cMem encDm ak B_mem4 (zaa aa ab ac ae ag ah ai)] R) ?_ ?_
    ·skip
     refine kg 11 ?_
     refine W.cond ((decide (a<start2))&&(decide (start2<((a+b) / 2)))) rfl (fun b7=>?_) (fun b7=>?_)
     ·replace hM:=M.e_t hM b7;refine kg 6 ?_;obtain ⟨eL,cI,hM⟩:=M.e_bind hM;refine s_call cf95 [aj,I a,I start2,I ((a+b) / 2),.func (.func 62) #[] #[Pq ay]] rfl (ih l5 a start2 ((a+b) / 2) aa ab ac ae ag ah ai am ao ap aq au av aw (az.app _) aA (aB.app _) aC (aD.app _) aE (aF.app _) aG (aH.app _) aI (aJ.app _) (aK.app _) (aL.app _) aM (aN.app _) aO (aP.app _) aQ (aR.app _) aS (aT.app _) aU (aV.app _) (aW.app _) (aX.app _) cI _ (H.gt 0)) ?_
      rintro vq eM ⟨l_data2,cJ,rfl,hvq,al⟩
      subst vq;(try dsimp only at hM);replace H:=H.bk al;clear al;refine s_nil ?_
      exact ⟨l_data2,cJ,_,upds_of _ _ ⟨rfl,rfl,rfl,rfl,rfl,trivial⟩,hM,H⟩
     replace hM:=M.e_f hM b7;refine W.skip ?_
     exact ⟨l5,B_mem3,_,upds_of _ _ ⟨rfl,rfl,rfl,rfl,rfl,trivial⟩,hM,H⟩
    rintro _ eN ⟨l6,B_mem4,ρ,rfl,hM,H⟩
    unfold za8 at hM
    refine kg 11 ?_
    refine W.cond ((decide (((a+b) / 2)<((((a+b) / 2)+m_)-start2)))&&(decide (((((a+b) / 2)+m_)-start2)<b))) rfl (fun b8=>?_) (fun b8=>?_)
    ·replace hM:=M.e_t hM b8;refine kg 6 ?_;obtain ⟨eO,cK,hM⟩:=M.e_bind hM;refine s_call cf95 [aj,I ((a+b) / 2),I ((((a+b) / 2)+m_)-start2),I b,.func (.func 62) #[] #[Pq ay]] rfl (ih l6 ((a+b) / 2) ((((a+b) / 2)+m_)-start2) b aa ab ac ae ag ah ai am ao ap aq au av aw (az.app _) aA (aB.app _) aC (aD.app _) aE (aF.app _) aG (aH.app _) aI (aJ.app _) (aK.app _) (aL.app _) aM (aN.app _) aO (aP.app _) aQ (aR.app _) aS (aT.app _) aU (aV.app _) (aW.app _) (aX.app _) cK _ (H.gt 0)) ?_
     rintro vq eP ⟨l_data3,cL,rfl,hvq,al⟩
     subst vq;(try dsimp only at hM);replace H:=H.bk al;clear al;refine s_nil ?_
     have ba:=M.e_pure hM
     exact ⟨_,resE_tmp0 rfl,⟨l_data3,cL,ba,rfl,H⟩⟩
    replace hM:=M.e_f hM b8;refine W.skip ?_
    have ba:=M.e_pure hM
    exact ⟨_,resE_tmp0 rfl,⟨l6,B_mem4,ba,rfl,H⟩⟩
theorem zcY {R:List Chunk} {aj:Value} {aw:Nat} {ax:Nat} {ay:Nat} {az:Cells} {aA:Value} {aB:Cells} {aC:Value} {aD:Cells} {aE:Value} {aF:Cells} {aG:Value} {aH:Cells} {aI:Value} {ak:Nat} {B_b_cmp2020207:Base} {aJ:Nat} {aK:Nat} {aL:Cells} {aM:Value} {aN:Cells} {aO:Value} {aP:Cells} {aQ:Value} {aR:Cells} {aS:Value} {aT:Cells} {aU:Value} {aV:Nat} (data:List Dem) (a:Int) (m_:Int) (b:Int) (aa:List Int) (ab:List Span) (ac:List Int) (ae:List Town) (ag:Int) (ah:Int) (ai:List Flood) (al:List Int) (am:List Span) (ao:List Int) (ap:List Town) (aq:Int) (au:Int) (av:List Flood) (aW:Reads R az) (aX:Sl az aA aa) (aY:Reads R aB) (aZ:Sl aB aC ab) (a6:Reads R aD) (a7:Sl aD aE ac) (a8:Reads R aF) (ba:Sl aF aG ae) (bb:Reads R aH) (bc:Sl aH aI ai) (bf:Has R (cBlk ay [aA,aC,aE,aG,I ag,I ah,aI,.map (some ak)] 90)) (bg:Has R (cBlk ax [.func (.func 16) #[Pq ay] #[]] 67)) (bh:Reads R aL) (bi:Sl aL aM al) (bj:Reads R aN) (bm:Sl aN aO am) (bn:Reads R aP) (bo:Sl aP aQ ao) (bp:Reads R aR) (br:Sl aR aS ap) (bt:Reads R aT) (bu:Sl aT aU av) (bv:Has R (cBlk aK [aM,aO,aQ,aS,I aq,I au,aU,.map (some aV)] 90)) (bw:Has R (cBlk aJ [Pq aK] 62)) (bx:Has R (cBlk aw [.func (.func 60) #[] #[Pq ax,Pq aJ]] 126)) {r:(List Dem)} (hM:(zcU data a m_ b aa ab ac ae ag ah ai al am ao ap aq au av).Ends r) (w:World) (H:St w w [cOwn (α:=Dem) 49 aj data,cMem encDm ak B_b_cmp2020207 (zaa aa ab ac ae ag ah ai)] R):Ret Tryz.prog 95 #[aj,I a,I m_,I b,.func (.func 62) #[] #[Pq aw]] w fun v w'=>∃ (y0:List Dem) (bz:Base),y0=r/\v = .tuple #[]/\St w w' [cOwn (α:=Dem) 49 aj y0,cMem encDm ak bz (zaa aa ab ac ae ag ah ai)] R:=by
  obtain ⟨n_,hM⟩:=M.e_fix hM
  exact zdW n_ data a m_ b aa ab ac ae ag ah ai al am ao ap aq au av aW aX aY aZ a6 a7 a8 ba bb bc bf bg bh bi bj bm bn bo bp br bt bu bv bw bx hM w H

def zcF (n:Int) (aa:List Int) (ab:List Span) (ac:List Int) (ae:List Town) (ag ah:Int) (ai:List Flood) (aj:List Int) (ak:List Span) (al:List Int) (am:List Town) (ao ap:Int) (aq:List Flood):((List Dem) × Int × Int)->M (((List Dem) × Int × Int) ⊕ ((List Dem) × Int × (List Dem))):=fun (l,a,b) =>
  bif decide (b<=n) then (
  M.bind (zcp l a b aa ab ac ae ag ah ai aj ak al am ao ap aq) fun l_data =>
  M.grd (decide ((-9223372036854775808:Int)<=(b+20))&&decide ((b+20)<=(9223372036854775807:Int))) <|
  M.pure (.inl (l_data,b,b+20)))
  else (
  M.pure (.inr (l,a,l)))
def zcg (n:Int) (aa:List Int) (ab:List Span) (ac:List Int) (ae:List Town) (ag ah:Int) (ai:List Flood) (aj:List Int) (ak:List Span) (al:List Int) (am:List Town) (ao ap:Int) (aq:List Flood) (blockSize:Int):((List Dem) × Int × Int)->M (((List Dem) × Int × Int) ⊕ ((List Dem) × Int × (List Dem))):=fun (l4,a3,b2) =>
  bif decide (b2<=n) then (
  M.grd (decide ((-9223372036854775808:Int)<=(a3+blockSize))&&decide ((a3+blockSize)<=(9223372036854775807:Int))) <|
  M.bind (zcU l4 a3 (a3+blockSize) b2 aa ab ac ae ag ah ai aj ak al am ao ap aq) fun l_data3 =>
  M.grd (decide ((-9223372036854775808:Int)<=(b2+(2*blockSize)))&&decide ((b2+(2*blockSize))<=(9223372036854775807:Int))) <|
  M.pure (.inl (l_data3,b2,b2+(2*blockSize))))
  else (
  M.pure (.inr (l4,a3,l4)))
def zcE (n:Int) (aa:List Int) (ab:List Span) (ac:List Int) (ae:List Town) (ag ah:Int) (ai:List Flood) (aj:List Int) (ak:List Span) (al:List Int) (am:List Town) (ao ap:Int) (aq:List Flood):((List Dem) × Int)->M (((List Dem) × Int) ⊕ (List Dem)):=fun (l8,blockSize) =>
  bif decide (blockSize<n) then (
  M.grd (decide ((-9223372036854775808:Int)<=(2*blockSize))&&decide ((2*blockSize)<=(9223372036854775807:Int))) <|
  M.bind (M.iter (zcg n aa ab ac ae ag ah ai aj ak al am ao ap aq blockSize) (l8,0,2*blockSize)) fun (l5,a4,l6) =>
  M.grd (decide ((-9223372036854775808:Int)<=(a4+blockSize))&&decide ((a4+blockSize)<=(9223372036854775807:Int))) <|
  bif decide ((a4+blockSize)<n) then (
  M.bind (zcU l6 a4 (a4+blockSize) n aa ab ac ae ag ah ai aj ak al am ao ap aq) fun l_data4 =>
  M.grd (decide ((-9223372036854775808:Int)<=(blockSize*2))&&decide ((blockSize*2)<=(9223372036854775807:Int))) <|
  M.pure (.inl (l_data4,blockSize*2)))
  else (
  M.grd (decide ((-9223372036854775808:Int)<=(blockSize*2))&&decide ((blockSize*2)<=(9223372036854775807:Int))) <|
  M.pure (.inl (l6,blockSize*2))))
  else (
  M.pure (.inr l8))
def zdb (data:List Dem) (n:Int) (aa:List Int) (ab:List Span) (ac:List Int) (ae:List Town) (ag ah:Int) (ai:List Flood) (aj:List Int) (ak:List Span) (al:List Int) (am:List Town) (ao ap:Int) (aq:List Flood):M (List Dem) :=
  M.bind (M.iter (zcF n aa ab ac ae ag ah ai aj ak al am ao ap aq) (data,0,20)) fun (l2,a2,l3) =>
  M.bind (zcp l3 a2 n aa ab ac ae ag ah ai aj ak al am ao ap aq) fun l_data2 =>
  M.bind (M.iter (zcE n aa ab ac ae ag ah ai aj ak al am ao ap aq) (l_data2,20)) fun l9 =>
  M.pure l9
theorem zdB {R:List Chunk} {aj:Value} {al:Nat} {bc:Nat} {bf:Nat} {bg:Cells} {bh:Value} {bi:Cells} {bj:Value} {bm:Cells} {bn:Value} {bo:Cells} {bp:Value} {br:Cells} {bt:Value} {aB:Nat} {B_b_cmp2020207:Base} {bu:Nat} {bv:Nat} {bw:Cells} {bx:Value} {bz:Cells} {bA:Value} {bB:Cells} {bC:Value} {bD:Cells} {bE:Value} {bF:Cells} {bG:Value} {bP:Nat} (data:List Dem) (n:Int) (aa:List Int) (ab:List Span) (ac:List Int) (ae:List Town) (ag:Int) (ah:Int) (ai:List Flood) (am:List Int) (ao:List Span) (ap:List Int) (aq:List Town) (au:Int) (av:Int) (aw:List Flood) (aC:Reads R bg) (aD:Sl bg bh aa) (aE:Reads R bi) (aF:Sl bi bj ab) (aG:Reads R bm) (aH:Sl bm bn ac) (aI:Reads R bo) (aJ:Sl bo bp ae) (aK:Reads R br) (aL:Sl br bt ai) (aM:Has R (cBlk bf [bh,bj,bn,bp,I ag,I ah,bt,.map (some aB)] 90)) (aN:Has R (cBlk bc [.func (.func 16) #[Pq bf] #[]] 67)) (aO:Reads R bw) (aP:Sl bw bx am) (aQ:Reads R bz) (aR:Sl bz bA ao) (aS:Reads R bB) (aT:Sl bB bC ap) (aU:Reads R bD) (aV:Sl bD bE aq) (aW:Reads R bF) (aX:Sl bF bG aw) (aY:Has R (cBlk bv [bx,bA,bC,bE,I au,I av,bG,.map (some bP)] 90)) (aZ:Has R (cBlk bu [Pq bv] 62)) (a6:Has R (cBlk al [.func (.func 60) #[] #[Pq bc,Pq bu]] 126)) {r:(List Dem)} (hM:(zdb data n aa ab ac ae ag ah ai am ao ap aq au av aw).Ends r) (w:World) (H:St w w [cOwn (α:=Dem) 49 aj data,cMem encDm aB B_b_cmp2020207 (zaa aa ab ac ae ag ah ai)] R):Ret Tryz.prog 78 #[aj,I n,.func (.func 62) #[] #[Pq al]] w fun v w'=>∃ (y0:List Dem) (bQ:Base),y0=r/\v = .tuple #[]/\St w w' [cOwn (α:=Dem) 49 aj y0,cMem encDm aB bQ (zaa aa ab ac ae ag ah ai)] R:=by
 refine ret_of_W Tryz.func78 rfl rfl rfl ?_;refine kg 12 ?_;obtain ⟨bR,a7,bS⟩:=M.e_bind hM
 obtain ⟨bH,a7⟩:=M.e_iter a7
 refine W.loop (fun m σ W=>∃ (l:List Dem) (a:Int) (b:Int) (B_mem:Base) (ρ:Env),σ=upds ρ [(0,aj),(1,I n),(2,.func (.func 62) #[] #[Pq al]),(6,I 20),(7,I a),(8,I b)]/\M.iterN (zcF n aa ab ac ae ag ah ai am ao ap aq au av aw) m (l,a,b)=some bR/\St w W [cOwn (α:=Dem) 49 aj l,cMem encDm aB B_mem (zaa aa ab ac ae ag ah ai)] R) ?_ ?_
 ·exact ⟨_,data,0,20,B_b_cmp2020207,_,upds_of _ _ ⟨rfl,rfl,rfl,rfl,rfl,rfl,trivial⟩,a7,H⟩
 rintro ch σ ci ⟨l,a,b,B_mem,ρ,rfl,bI,H⟩
 obtain ⟨bT,bU,cj,hM,bJ⟩:=M.e_iterN bI
 simp only [zcF] at hM
 clear bI;refine kg 7 ?_
 refine W.cond (decide (b<=n)) rfl (fun ax=>?_) (fun ax=>?_)
 ·replace hM:=M.e_t hM ax
  replace ax:=dI ax
  refine kg 8 ?_;obtain ⟨ck,bV,hM⟩:=M.e_bind hM;refine s_call cf94 [aj,I a,I b,.func (.func 62) #[] #[Pq al]] rfl (zdj l a b aa ab ac ae ag ah ai am ao ap aq au av aw (aC.app _) aD (aE.app _) aF (aG.app _) aH (aI.app _) aJ (aK.app _) aL (aM.app _) (aN.app _) (aO.app _) aP (aQ.app _) aR (aS.app _) aT (aU.app _) aV (aW.app _) aX (aY.app _) (aZ.app _) (a6.app _) bV _ (H.gt 0)) ?_
  rintro vq cl ⟨l_data,bW,rfl,hvq,ak⟩
  subst vq;(try dsimp only at hM);replace H:=H.bk ak;clear ak;obtain ⟨cm,hM⟩:=M.e_gd hM;refine kg 12 ?_
  exact ⟨bT,bU,l_data,b,b+20,bW,_,upds_of _ _ ⟨rfl,rfl,rfl,rfl,rfl,rfl,trivial⟩,M.e_inl hM bJ,H⟩
 replace hM:=M.e_f hM ax
 replace ax:=dI ax
 refine W.exit ?_
 have bX:=M.e_inr hM bJ
 subst bX;replace hM:=bS;(try dsimp only at hM);refine kg 6 ?_;obtain ⟨cn,bY,hM⟩:=M.e_bind hM;refine s_call cf94 [aj,I a,I n,.func (.func 62) #[] #[Pq al]] rfl (zdj l a n aa ab ac ae ag ah ai am ao ap aq au av aw (aC.app _) aD (aE.app _) aF (aG.app _) aH (aI.app _) aJ (aK.app _) aL (aM.app _) (aN.app _) (aO.app _) aP (aQ.app _) aR (aS.app _) aT (aU.app _) aV (aW.app _) aX (aY.app _) (aZ.app _) (a6.app _) bY _ (H.gt 0)) ?_
 rintro vq co ⟨l_data2,bZ,rfl,hvq,ak⟩
 subst vq;(try dsimp only at hM);replace H:=H.bk ak;clear ak;refine kg 2 ?_;obtain ⟨b3,a8,b4⟩:=M.e_bind hM
 obtain ⟨bH,a8⟩:=M.e_iter a8
 refine W.loop (fun m σ W=>∃ (l8:List Dem) (blockSize:Int) (B_mem4:Base) (ρ:Env),σ=upds ρ [(0,aj),(1,I n),(2,.func (.func 62) #[] #[Pq al]),(6,I blockSize)]/\M.iterN (zcE n aa ab ac ae ag ah ai am ao ap aq au av aw) m (l8,blockSize)=some b3/\St w W [cOwn (α:=Dem) 49 aj l8,cMem encDm aB B_mem4 (zaa aa ab ac ae ag ah ai)] R) ?_ ?_
 ·exact ⟨_,l_data2,20,bZ,_,upds_of _ _ ⟨rfl,rfl,rfl,rfl,trivial⟩,a8,H⟩
 rintro cp σ cq ⟨l8,blockSize,B_mem4,ρ,rfl,bK,H⟩
 obtain ⟨bL,bM,cr,hM,ba⟩:=M.e_iterN bK
 simp only [zcE] at hM
 clear bK;refine kg 7 ?_
 refine W.cond (decide (blockSize<n)) rfl (fun ay=>?_) (fun ay=>?_)
 ·replace hM:=M.e_t hM ay
  replace ay:=dI ay
  obtain ⟨ct,hM⟩:=M.e_gd hM;refine kg 11 ?_;obtain ⟨b6,bb,b7⟩:=M.e_bind hM
  obtain ⟨bH,bb⟩:=M.e_iter bb
  refine W.loop (fun m σ W=>∃ (l4:List Dem) (a3:Int) (b2:Int) (B_mem2:Base) (ρ:Env),σ=upds ρ [(0,aj),(1,I n),(2,.func (.func 62) #[] #[Pq al]),(6,I blockSize),(7,I a3),(8,I b2)]/\M.iterN (zcg n aa ab ac ae ag ah ai am ao ap aq au av aw blockSize) m (l4,a3,b2)=some b6/\St w W [cOwn (α:=Dem) 49 aj l4,cMem encDm aB B_mem2 (zaa aa ab ac ae ag ah ai)] R) ?_ ?_
  ·exact ⟨_,l8,0,2*blockSize,B_mem4,_,upds_of _ _ ⟨rfl,rfl,rfl,rfl,rfl,rfl,trivial⟩,bb,H⟩
  rintro cu σ cv ⟨l4,a3,b2,B_mem2,ρ,rfl,bN,H⟩
  obtain ⟨b8,b9,cw,hM,bO⟩:=M.e_iterN bN
  simp only [zcg] at hM
  clear bN;refine kg 7 ?_
  refine W.cond (decide (b2<=n)) rfl (fun az=>?_) (fun az=>?_)
  ·replace hM:=M.e_t hM az
   replace az:=dI az
   obtain ⟨cx,hM⟩:=M.e_gd hM;refine kg 11 ?_;obtain ⟨cy,ca,hM⟩:=M.e_bind hM;refine s_call cf95 [aj,I a3,I (a3+blockSize),I b2,.func (.func 62) #[] #[Pq al]] rfl (zcY l4 a3 (a3+blockSize) b2 aa ab ac ae ag ah ai am ao ap aq au av aw (aC.app _) aD (aE.app _) aF (aG.app _) aH (aI.app _) aJ (aK.app _) aL (aM.app _) (aN.app _) (aO.app _) aP (aQ.app _) aR (aS.app _) aT (aU.app _) aV (aW.app _) aX (aY.app _) (aZ.app _) (a6.app _) ca _ (H.gt 0)) ?_
   rintro vq cz ⟨l_data3,cb,rfl,hvq,ak⟩
   subst vq;(try dsimp only at hM);replace H:=H.bk ak;clear ak;obtain ⟨cA,hM⟩:=M.e_gd hM;refine kg 13 ?_
   exact ⟨b8,b9,l_data3,b2,b2+(2*blockSize),cb,_,upds_of _ _ ⟨rfl,rfl,rfl,rfl,rfl,rfl,trivial⟩,M.e_inl hM bO,H⟩
  replace hM:=M.e_f hM az
  replace az:=dI az
  refine W.exit ?_
  have cc:=M.e_inr hM bO
  subst cc;replace hM:=b7;(try dsimp only at hM);obtain ⟨cB,hM⟩:=M.e_gd hM;refine kg 14 ?_
  refine W.cond (decide ((a3+blockSize)<n)) rfl (fun aA=>?_) (fun aA=>?_)
  ·replace hM:=M.e_t hM aA
   replace aA:=dI aA
   refine kg 6 ?_;obtain ⟨cC,cd,hM⟩:=M.e_bind hM;refine s_call cf95 [aj,I a3,I (a3+blockSize),I n,.func (.func 62) #[] #[Pq al]] rfl (zcY l4 a3 (a3+blockSize) n aa ab ac ae ag ah ai am ao ap aq au av aw (aC.app _) aD (aE.app _) aF (aG.app _) aH (aI.app _) aJ (aK.app _) aL (aM.app _) (aN.app _) (aO.app _) aP (aQ.app _) aR (aS.app _) aT (aU.app _) aV (aW.app _) aX (aY.app _) (aZ.app _) (a6.app _) cd _ (H.gt 0)) ?_
   rintro vq cD ⟨l_data4,ce,rfl,hvq,ak⟩
   subst vq;(try dsimp only at hM);replace H:=H.bk ak;clear ak;obtain ⟨cE,hM⟩:=M.e_gd hM;refine kg 6 ?_
   exact ⟨bL,bM,l_data4,blockSize*2,ce,_,upds_of _ _ ⟨rfl,rfl,rfl,rfl,trivial⟩,M.e_inl hM ba,H⟩
  replace hM:=M.e_f hM aA
  replace aA:=dI aA
  obtain ⟨cF,hM⟩:=M.e_gd hM;refine kg 6 ?_
  exact ⟨bL,bM,l4,blockSize*2,B_mem2,_,upds_of _ _ ⟨rfl,rfl,rfl,rfl,trivial⟩,M.e_inl hM ba,H⟩
 replace hM:=M.e_f hM ay
 replace ay:=dI ay
 refine W.exit ?_
 have cf:=M.e_inr hM ba
 subst cf;replace hM:=b4;(try dsimp only at hM)
 have cg:=M.e_pure hM
 exact ⟨_,resE_tmp0 rfl,⟨l8,B_mem4,cg,rfl,H⟩⟩

def zda (x:List Dem) (aa:List Int) (ab:List Span) (ac:List Int) (ae:List Town) (ag ah:Int) (ai:List Flood) (aj:List Int) (ak:List Span) (al:List Int) (am:List Town) (ao ap:Int) (aq:List Flood):M (List Dem) :=
  M.bind (zdb x (x.length:Int) aa ab ac ae ag ah ai aj ak al am ao ap aq) fun l_data =>
  M.pure l_data
theorem zdU {R:List Chunk} {aj:Value} {ak:Nat} {ax:Nat} {ay:Nat} {az:Cells} {aA:Value} {aB:Cells} {aC:Value} {aD:Cells} {aE:Value} {aF:Cells} {aG:Value} {aH:Cells} {aI:Value} {al:Nat} {B_b_cmp2020207:Base} {aJ:Nat} {aK:Nat} {aL:Cells} {aM:Value} {aN:Cells} {aO:Value} {aP:Cells} {aQ:Value} {aR:Cells} {aS:Value} {aT:Cells} {aU:Value} {aW:Nat} (x:List Dem) (aa:List Int) (ab:List Span) (ac:List Int) (ae:List Town) (ag:Int) (ah:Int) (ai:List Flood) (am:List Int) (ao:List Span) (ap:List Int) (aq:List Town) (au:Int) (av:Int) (aw:List Flood) (aX:Reads R az) (aY:Sl az aA aa) (aZ:Reads R aB) (a6:Sl aB aC ab) (a7:Reads R aD) (a8:Sl aD aE ac) (ba:Reads R aF) (bb:Sl aF aG ae) (bc:Reads R aH) (bf:Sl aH aI ai) (bg:Has R (cBlk ay [aA,aC,aE,aG,I ag,I ah,aI,.map (some al)] 90)) (bh:Has R (cBlk ax [.func (.func 16) #[Pq ay] #[]] 67)) (bi:Reads R aL) (bj:Sl aL aM am) (bm:Reads R aN) (bn:Sl aN aO ao) (bo:Reads R aP) (bp:Sl aP aQ ap) (br:Reads R aR) (bt:Sl aR aS aq) (bu:Reads R aT) (bv:Sl aT aU aw) (bw:Has R (cBlk aK [aM,aO,aQ,aS,I au,I av,aU,.map (some aW)] 90)) (bx:Has R (cBlk aJ [Pq aK] 62)) (bz:Has R (cBlk ak [.func (.func 60) #[] #[Pq ax,Pq aJ]] 126)) {r:(List Dem)} (hM:(zda x aa ab ac ae ag ah ai am ao ap aq au av aw).Ends r) (w:World) (H:St w w [cOwn (α:=Dem) 49 aj x,cMem encDm al B_b_cmp2020207 (zaa aa ab ac ae ag ah ai)] R):Ret Tryz.prog 61 #[aj,.func (.func 62) #[] #[Pq ak]] w fun v w'=>∃ (y0:List Dem) (bA:Base),y0=r/\v = .tuple #[]/\St w w' [cOwn (α:=Dem) 49 aj y0,cMem encDm al bA (zaa aa ab ac ae ag ah ai)] R:=by
 refine ret_of_W Tryz.func61 rfl rfl rfl ?_
 have bE:=((H.os 0)).len_le
 refine kg 5 ?_;obtain ⟨bF,bB,hM⟩:=M.e_bind hM;refine s_call cf78 [aj,I (x.length:Int),.func (.func 62) #[] #[Pq ak]] rfl (zdB x (x.length:Int) aa ab ac ae ag ah ai am ao ap aq au av aw (aX.app _) aY (aZ.app _) a6 (a7.app _) a8 (ba.app _) bb (bc.app _) bf (bg.app _) (bh.app _) (bi.app _) bj (bm.app _) bn (bo.app _) bp (br.app _) bt (bu.app _) bv (bw.app _) (bx.app _) (bz.app _) bB _ (H.gt 0)) ?_
 rintro vq bG ⟨l_data,bC,rfl,hvq,aV⟩
 subst vq;(try dsimp only at hM);replace H:=H.bk aV;clear aV;refine s_nil ?_
 have bD:=M.e_pure hM
 exact ⟨_,resE_tmp0 rfl,⟨l_data,bC,bD,rfl,H⟩⟩

end Go.Proofs.YtdmdhmineljlhabGreat
end
section
set_option maxRecDepth 100000
set_option maxHeartbeats 16000000
namespace Go.Proofs.YtdmdhmineljlhabGreat
open Go Go.Nm
attribute [local irreducible] gd execOp SL SLD SLT WR
def zcr (ar:List Bool) (r4:List Int):Nat->M (Nat ⊕ (Unit ⊕ Unit)):=fun s =>
  bif decide ((s:Int)<(r4.length:Int)) then (
  M.grd (decide ((s:Int)<(r4.length:Int))) <|
  M.grd (decide ((0:Int)<=(r4.getD s 0))&&decide ((r4.getD s 0)<(12:Int))) <|
  bif ar.getD (Int.toNat (r4.getD s 0)) false then (
  M.pure (.inr (.inl ())))
  else (
  M.pure (.inl (s+1))))
  else (
  M.pure (.inr (.inr ())))
def zcH (aa:List Int) (ab:List Span) (ac:List Int) (ae:List Town) (ag ah:Int) (ai:List Flood) (l_x:List Dem):(Nat × (List Bool) × (List Int) × (List Dem))->M ((Nat × (List Bool) × (List Int) × (List Dem)) ⊕ ((List Int) × (List Dem) × (List Int) × (List Dem) × (List Bool))):=fun (s2,ar,l,l2) =>
  bif decide ((s2:Int)<(l_x.length:Int)) then (
  M.grd (decide ((s2:Int)<(l_x.length:Int))) <|
  M.bind (zaa aa ab ac ae ag ah ai (l_x.getD s2 default)) fun r4 =>
  M.bind (M.iter (zcr ar r4) 0) fun x_=>match x_ with
  | (.inl (_:Unit))=>(
  M.pure (.inl (s2+1,ar,l,l2)))
  | (.inr (_:Unit))=>(
  M.grd (decide ((0:Int)<=((r4.length:Int)-1))&&decide (((r4.length:Int)-1)<(r4.length:Int))) <|
  M.grd (decide ((0:Int)<=(r4.getD (Int.toNat ((r4.length:Int)-1)) 0))&&decide ((r4.getD (Int.toNat ((r4.length:Int)-1)) 0)<(12:Int))) <|
  M.grd (decide ((l.length+([(r4.getD (Int.toNat ((r4.length:Int)-1)) 0:Int)]).length)*8<=140737488355328)) <|
  M.grd (decide ((l2.length+([(l_x.getD s2 default)]).length)*16<=140737488355328)) <|
  M.pure (.inl (s2+1,ar.set (Int.toNat (r4.getD (Int.toNat ((r4.length:Int)-1)) 0)) true,l++([(r4.getD (Int.toNat ((r4.length:Int)-1)) 0:Int)]),l2++([(l_x.getD s2 default)])))))
  else (
  M.pure (.inr (l,l2,l,l2,ar)))
def zdr (aa:List Int) (ab:List Span) (ac:List Int) (ae:List Town) (ag ah:Int) (ai:List Flood):M ((List Int) × (List Dem) × Bool) :=
  M.bind (zaL aa ab ac ae ag ah ai) fun r2 =>
  M.bind (zdp r2 aa ab ac ae ag ah ai) fun r3 =>
  bif !r3 then (
  M.pure (([]),([]),false))
  else (
  M.bind (zda r2 aa ab ac ae ag ah ai aa ab ac ae ag ah ai) fun l_x =>
  M.bind (M.iter (zcH aa ab ac ae ag ah ai l_x) (0,List.replicate 12 false,[],[])) fun (l3,l4,l5,l6,aj) =>
  M.grd (decide (l5.length<=1000000)) <|
  M.pure ((isort l5),l6,true))
theorem zdQ {R:List Chunk} {aj:Nat} {aX:Cells} {aY:Value} {aZ:Cells} {a6:Value} {a7:Cells} {a8:Value} {ba:Cells} {bb:Value} {bc:Cells} {bf:Value} {aq:Nat} {bu:Base} (aa:List Int) (ab:List Span) (ac:List Int) (ae:List Town) (ag:Int) (ah:Int) (ai:List Flood) (ay:Reads R aX) (az:Sl aX aY aa) (aA:Reads R aZ) (aB:Sl aZ a6 ab) (aC:Reads R a7) (aD:Sl a7 a8 ac) (aE:Reads R ba) (aF:Sl ba bb ae) (aG:Reads R bc) (aH:Sl bc bf ai) (aI:Has R (cBlk aj [aY,a6,a8,bb,I ag,I ah,bf,.map (some aq)] 90)) {r:((List Int) × (List Dem) × Bool)} (hM:(zdr aa ab ac ae ag ah ai).Ends r) (w:World) (H:St w w [cMem encDm aq bu (zaa aa ab ac ae ag ah ai)] R):Ret Tryz.prog 35 #[Pq aj] w fun v w'=>∃ (y0:List Int) (y1:List Dem) (y2:Bool) (u0:Value) (u1:Value) (bv:Base),(y0,y1,y2)=r/\v = .tuple #[u0,u1,B y2]/\St w w' [cOwn (α:=Int) 3 u0 y0,cOwn (α:=Dem) 49 u1 y1,cMem encDm aq bv (zaa aa ab ac ae ag ah ai)] R:=by
 refine ret_of_W Tryz.func35 rfl rfl rfl ?_;refine kg 2 ?_;refine t_b1 (Pq aj) H rfl rfl ?_;intro aP bZ H;refine kg 4 ?_;refine W.scope ?_;refine kg 3 ?_;obtain ⟨b3,bw,hM⟩:=M.e_bind hM;refine s_call cf32 [Pq aj] rfl (zc7 aa ab ac ae ag ah ai (ay.app _) az (aA.app _) aB (aC.app _) aD (aE.app _) aF (aG.app _) aH (aI.app _) bw _ (H.gt 2)) ?_
 rintro vq b4 ⟨r2,au,rfl,hvq,ak⟩
 subst vq;(try dsimp only at hM);replace H:=H.bk ak;clear ak;refine kg 5 ?_;refine s_val (x_mf (fs:=[Pq aj]) (cs:=[]) rfl rfl) ?_;refine t_alloc (cs:=[.nilFunc]) H Al67 rfl ?_;intro al b6 H;refine t_sw 0 0 [.func (.func 16) #[Pq aj] #[]] (.func (.func 16) #[Pq aj] #[]) H rfl rfl Sz67 rfl rfl rfl rfl ?_;intro b7 H;refine kg 5 ?_;refine s_val (x_mf (fs:=[]) (cs:=[Pq al]) rfl rfl) ?_;obtain ⟨b8,bx,hM⟩:=M.e_bind hM;refine s_call cf58 [au,.func (.func 59) #[] #[Pq al]] rfl (zd5 r2 aa ab ac ae ag ah ai (rdo 1) (H.os 1) (ay.app _) az (aA.app _) aB (aC.app _) aD (aE.app _) aF (aG.app _) aH (aI.app _) (Has.here (k:=0) rfl) bx _ ((H.pk [3,0,1,2]).gt 3)) ?_
 rintro vq b9 ⟨r3,bz,rfl,hvq,ak⟩
 subst vq;(try dsimp only at hM)
 replace H:=H.pk [3,0,1,2] |>.bk ak
 clear ak;refine kg 2 ?_
 refine W.cond (!r3) rfl (fun aQ=>?_) (fun aQ=>?_)
 ·replace hM:=M.e_t hM aQ;refine kg 6 ?_;replace H:=H.pk [0];refine W.ret ?_
  have aR:=M.e_pure hM
  replace H:=H.nilOwn (α:=Int) 3
  replace H:=H.nilOwn (α:=Dem) 49
  exact ⟨_,resE_tmp3 rfl,⟨([]),([]),false,(.slice none 0 0),(.slice none 0 0),bz,aR,rfl,(H.pk [1,0,2])⟩⟩
 replace hM:=M.e_f hM aQ;refine kg 3 ?_;refine s_val (x_mf (fs:=[]) (cs:=[Pq al,Pq aP]) rfl rfl) ?_;refine t_alloc (cs:=[.nilFunc]) H Al126 rfl ?_;intro bg ca H;refine t_sw 0 0 [.func (.func 60) #[] #[Pq al,Pq aP]] (.func (.func 60) #[] #[Pq al,Pq aP]) H rfl rfl Sz126 rfl rfl rfl rfl ?_;intro cb H;refine kg 4 ?_;refine s_val (x_mf (fs:=[]) (cs:=[Pq bg]) rfl rfl) ?_;obtain ⟨cc,bA,hM⟩:=M.e_bind hM;refine s_call cf61 [au,.func (.func 62) #[] #[Pq bg]] rfl (zdU r2 aa ab ac ae ag ah ai aa ab ac ae ag ah ai (ay.app _) az (aA.app _) aB (aC.app _) aD (aE.app _) aF (aG.app _) aH (aI.app _) (Has.here (k:=1) rfl) (ay.app _) az (aA.app _) aB (aC.app _) aD (aE.app _) aF (aG.app _) aH (aI.app _) (Has.here (k:=2) rfl) (Has.here (k:=0) rfl) bA _ ((H.pk [3,1,0,2,4]).gt 3)) ?_
 rintro vq cd ⟨l_x,bB,rfl,hvq,ak⟩
 subst vq;(try dsimp only at hM)
 replace H:=H.pk [3,1,0,2,4] |>.bk ak
 clear ak;refine s_nil ?_;replace H:=H.pk [0,1,3];refine kg 2 ?_;refine t_alloc (cs:=encB (List.replicate 12 false)) H Al103 rfl ?_;intro ao ce H
 have bC:(List.replicate 12 false).length=12:=by simp
 refine kg 10 ?_;refine W.label ?_
 have cf:=((H.os 1)).len_le
 refine kg 8 ?_
 replace H:=H.nilOwn (α:=Dem) 49
 replace H:=H.nilOwn (α:=Int) 3
 obtain ⟨bD,aS,bE⟩:=M.e_bind hM
 obtain ⟨bF,aS⟩:=M.e_iter aS
 refine W.loop (fun m σ W=>∃ (s2:Nat) (ar:List Bool) (l:List Int) (l2:List Dem) (am:Value) (ap:Value) (B_mem:Base) (ρ:Env),σ=upds ρ [(6,Pq al),(8,Pq ao),(9,am),(10,ap),(29,au),(30,I (l_x.length:Int)),(31,I (s2:Int))]/\M.iterN (zcH aa ab ac ae ag ah ai l_x) m (s2,ar,l,l2)=some bD/\St w W [cOwn (α:=Int) 3 am l,cOwn (α:=Dem) 49 ap l2,cBlk ao (encB ar) 103,cOwn (α:=Dem) 49 au l_x,cMem encDm aq B_mem (zaa aa ab ac ae ag ah ai),cBlk al [.func (.func 16) #[Pq aj] #[]] 67] R/\ar.length=12) ?_ ?_
 ·exact ⟨_,0,List.replicate 12 false,[],[],(.slice none 0 0),(.slice none 0 0),bB,_,upds_of _ _ ⟨rfl,rfl,rfl,rfl,rfl,rfl,rfl,trivial⟩,aS,H,bC⟩
 rintro cg σ ch ⟨s2,ar,l,l2,am,ap,B_mem,ρ,rfl,bh,H,aK⟩
 obtain ⟨aL,aM,ci,hM,aJ⟩:=M.e_iterN bh
 simp only [zcH] at hM
 clear bh;refine kg 5 ?_
 refine W.cond (decide ((s2:Int)<(l_x.length:Int))) rfl (fun av=>?_) (fun av=>?_)
 ·replace hM:=M.e_t hM av
  replace av:=dI av
  obtain ⟨cj,hM⟩:=M.e_gd hM;refine kg 6 ?_;refine s_val (x_ld (v:=.agg #[I ((l_x.getD s2 default).spring),I ((l_x.getD s2 default).town)]) rfl (ld_ag Ag49 Sz49 (At.mono (Dem_atA (H.os 3) (i:=(s2:Int)) (by omega) (by omega)) (H.ol 3)))) ?_;refine t_alloc (cs:=[I 0,I 0]) H Al49 rfl ?_;intro aN ck H;refine t_sw 0 0 [I ((l_x.getD s2 default).spring),I ((l_x.getD s2 default).town)] (.agg #[I ((l_x.getD s2 default).spring),I ((l_x.getD s2 default).town)]) H rfl rfl Sz49 rfl rfl rfl rfl ?_;intro cl H;refine kg 5 ?_;obtain ⟨cm,bG,hM⟩:=M.e_bind hM;refine s_callm (f:=16) (fs:=[Pq aj]) rfl cf16 [.agg #[I ((l_x.getD s2 default).spring),I ((l_x.getD s2 default).town)]] rfl (zbI aa ab ac ae ag ah ai (l_x.getD s2 default) (ay.app _) az (aA.app _) aB (aC.app _) aD (aE.app _) aF (aG.app _) aH (aI.app _) bG _ ((H.pk [5,0,1,2,3,4,6]).gt 6)) ?_
  rintro vq cn ⟨r4,bi,aw,rfl,hvq,ak,aO⟩
  subst vq;(try dsimp only at hM)
  replace H:=H.pk [5,0,1,2,3,4,6] |>.bk ak
  clear ak
  have co:=(aO).len_le
  refine kg 10 ?_;obtain ⟨bH,aT,bj⟩:=M.e_bind hM
  obtain ⟨bF,aT⟩:=M.e_iter aT
  refine W.loop (fun m σ W=>∃ (s:Nat) (ρ:Env),σ=upds ρ [(6,Pq al),(8,Pq ao),(9,am),(10,ap),(12,Pq aN),(13,bi),(29,au),(30,I (l_x.length:Int)),(31,I (s2:Int)),(38,bi),(39,I (r4.length:Int)),(40,I (s:Int))]/\M.iterN (zcr ar r4) m s=some bH/\St w W [cMem encDm aq aw (zaa aa ab ac ae ag ah ai),cBlk aN [I ((l_x.getD s2 default).spring),I ((l_x.getD s2 default).town)] 49,cOwn (α:=Int) 3 am l,cOwn (α:=Dem) 49 ap l2,cBlk ao (encB ar) 103,cOwn (α:=Dem) 49 au l_x,cBlk al [.func (.func 16) #[Pq aj] #[]] 67] R) ?_ ?_
  ·exact ⟨_,0,_,upds_of _ _ ⟨rfl,rfl,rfl,rfl,rfl,rfl,rfl,rfl,rfl,rfl,rfl,rfl,trivial⟩,aT,H⟩
  rintro cp σ cq ⟨s,ρ,rfl,bm,H⟩
  obtain ⟨bI,bJ,cr,hM,aU⟩:=M.e_iterN bm
  simp only [zcr] at hM
  clear bm;refine kg 5 ?_
  refine W.cond (decide ((s:Int)<(r4.length:Int))) rfl (fun ax=>?_) (fun ax=>?_)
  ·replace hM:=M.e_t hM ax
   replace ax:=dI ax
   obtain ⟨ct,hM⟩:=M.e_gd hM;refine kg 6 ?_;refine s_val (x_ld (v:=I (r4.getD s 0)) rfl (ld_sc Sc3 (At.mono (Int_at aO (i:=(s:Int)) (by omega) (by omega)) (memLe _ (H.get (k:=0) rfl))))) ?_;obtain ⟨cu,hM⟩:=M.e_gd hM;refine kg 5 ?_;refine s_val (x_ix (v:=.pointer (some ⟨ao,0+Int.toNat (r4.getD s 0),none⟩)) rfl rfl (run_indexArr Tryz.underlying103 Sz4 (by omega) (by omega)))<|s_val (x_ld (v:=B (ar.getD (Int.toNat (r4.getD s 0)) false)) rfl (ldArr Sc4 (H.bl 4) (by omega) (by have bK:=aK; omega)))<|s_nil ?_
   refine W.cond (ar.getD (Int.toNat (r4.getD s 0)) false) rfl (fun aV=>?_) (fun aV=>?_)
   ·replace hM:=M.e_t hM aV;refine W.exit ?_
    have bL:=M.e_inr hM aU
    subst bL;replace hM:=bj;(try dsimp only at hM);refine kg 4 ?_
    exact ⟨aL,aM,s2+1,ar,l,l2,am,ap,aw,_,upds_of _ _ ⟨rfl,rfl,rfl,rfl,rfl,rfl,rfl,trivial⟩,M.e_inl hM aJ,(H.pk [2,3,4,5,0,6]),aK⟩
   replace hM:=M.e_f hM aV;refine kg 5 ?_
   exact ⟨bI,bJ,s+1,_,upds_of _ _ ⟨rfl,rfl,rfl,rfl,rfl,rfl,rfl,rfl,rfl,rfl,rfl,rfl,trivial⟩,M.e_inl hM aU,H⟩
  replace hM:=M.e_f hM ax
  replace ax:=dI ax
  refine W.exit ?_
  have bM:=M.e_inr hM aU
  subst bM;replace hM:=bj;(try dsimp only at hM)
  have cv:=(aO).len_le
  obtain ⟨cw,hM⟩:=M.e_gd hM;refine kg 7 ?_;refine s_val (x_ld (v:=I (r4.getD (Int.toNat ((r4.length:Int)-1)) 0)) rfl (ld_sc Sc3 (At.mono (Int_at aO (i:=(r4.length:Int)-1) (by omega) (by omega)) (memLe _ (H.get (k:=0) rfl))))) ?_;obtain ⟨cx,hM⟩:=M.e_gd hM;refine kg 5 ?_;refine s_val (x_ix (v:=.pointer (some ⟨ao,0+Int.toNat (r4.getD (Int.toNat ((r4.length:Int)-1)) 0),none⟩)) rfl rfl (run_indexArr Tryz.underlying103 Sz4 (by omega) (by omega))) ?_;refine t_stArr (k:=4) (b:=ao) (l:=ar) (l':=ar.set (Int.toNat (r4.getD (Int.toNat ((r4.length:Int)-1)) 0)) true) (i:=r4.getD (Int.toNat ((r4.length:Int)-1)) 0) (v:=true) (L':=[cMem encDm aq aw (zaa aa ab ac ae ag ah ai),cBlk aN [I ((l_x.getD s2 default).spring),I ((l_x.getD s2 default).town)] 49,cOwn (α:=Int) 3 am l,cOwn (α:=Dem) 49 ap l2,cBlk ao (encB (ar.set (Int.toNat (r4.getD (Int.toNat ((r4.length:Int)-1)) 0)) true)) 103,cOwn (α:=Dem) 49 au l_x,cBlk al [.func (.func 16) #[Pq aj] #[]] 67]) H rfl rfl rfl Sz4 (by omega) (by have bK:=aK; omega) rfl rfl ?_;intro cy H
  have aW:(ar.set (Int.toNat (r4.getD (Int.toNat ((r4.length:Int)-1)) 0)) true).length=12:=List.length_set.trans aK
  refine s_nil ?_;refine W.drawT (fun W=>St w W [cMem encDm aq aw (zaa aa ab ac ae ag ah ai),cBlk aN [I ((l_x.getD s2 default).spring),I ((l_x.getD s2 default).town)] 49,cBlk ao (encB (ar.set (Int.toNat (r4.getD (Int.toNat ((r4.length:Int)-1)) 0)) true)) 103,cOwn (α:=Dem) 49 au l_x,cBlk al [.func (.func 16) #[Pq aj] #[]] 67] R) (.q 0 (.q 1 (.q 4 (.q 5 (.l2 2 (.l2 3 (.l 6 (.l 7 (.q 8 (.q 9 .nil)))) 6 (.l 3 (.l 7 (.q 8 (.q 9 .nil))))) 6 (.l 2 (.l 3 (.l 7 (.q 8 (.q 9 .nil)))))))))) mixed (by decide +kernel) rfl ?_;intro cz bn;replace H:=H.ext bn;clear bn
  refine ⟨(H.pk [0,1,4,5,6]),?_⟩
  obtain ⟨cA,hM⟩:=M.e_gd hM;obtain ⟨cB,hM⟩:=M.e_gd hM;refine kg 4 ?_;refine t_l2 rfl rfl ?_ ?_
  ·skip
   refine t_bs (α:=Int) T29 [I (r4.getD (Int.toNat ((r4.length:Int)-1)) 0)] [(r4.getD (Int.toNat ((r4.length:Int)-1)) 0:Int)] H rfl (.cons rfl (Flat.rep_enc _ (r4.getD (Int.toNat ((r4.length:Int)-1)) 0:Int))<|.nil) rfl rfl rfl ?_;intro bo cC H
   have cD:=Sl.cells (H.os 0)
   have cE:=Sl.oc (H.os 0)
   have cF:=Sl.cells (H.os 3)
   have cG:=Sl.oc (H.os 3)
   have cH:=Sl.cells (H.os 4)
   have cI:=Sl.oc (H.os 4)
   refine s_nil ⟨(H.pk [1,2,5,6,7]),?_⟩
   refine t_l2 rfl rfl ?_ ?_
   ·skip
    refine t_app (α:=Int) (k:=3) (l:=l) (l2:=[(r4.getD (Int.toNat ((r4.length:Int)-1)) 0:Int)]) (l':=l++([(r4.getD (Int.toNat ((r4.length:Int)-1)) 0:Int)])) (vy:=bo) T29 rfl H rfl rfl rfl (H.os 0) (H.ol 0) (rfl) (by first | omega | (simp only [List.length_nil] at *; omega)) ?_;intro bN cJ H;replace H:=H.nf
    have cK:=Sl.cells (H.os 3)
    have cL:=Sl.oc (H.os 3)
    refine s_nil ⟨(H.pk [1,2,5,6,7]),?_⟩
    refine t_l rfl ?_;refine t_bs (α:=Dem) T92 [.agg #[I ((l_x.getD s2 default).spring),I ((l_x.getD s2 default).town)]] [(l_x.getD s2 default)] H rfl (.cons rfl (Flat.rep_enc _ (l_x.getD s2 default))<|.nil) rfl rfl rfl ?_;intro bO cM H
    have cN:=Sl.cells (H.os 0)
    have cO:=Sl.oc (H.os 0)
    refine s_nil ⟨(H.pk [2,3,6,7,8]),?_⟩
    refine t_l rfl ?_;refine t_app (α:=Dem) (k:=5) (l:=l2) (l2:=[(l_x.getD s2 default)]) (l':=l2++([(l_x.getD s2 default)])) (vy:=bO) T92 rfl H rfl rfl rfl (H.os 0) (H.ol 0) (rfl) (by first | omega | (simp only [List.length_nil] at *; omega)) ?_;intro bP cP H;replace H:=H.nf
    have cQ:=Sl.cells (H.os 5)
    have cR:=Sl.oc (H.os 5)
    refine s_nil ⟨(H.pk [2,3,6,7,8]),?_⟩
    refine kg 3 ?_;replace H:=H.pk [2,4,5,6,7,8];refine kg 4 ?_
    exact ⟨aL,aM,s2+1,ar.set (Int.toNat (r4.getD (Int.toNat ((r4.length:Int)-1)) 0)) true,l++([(r4.getD (Int.toNat ((r4.length:Int)-1)) 0:Int)]),l2++([(l_x.getD s2 default)]),bN,bP,aw,_,upds_of _ _ ⟨rfl,rfl,rfl,rfl,rfl,rfl,rfl,trivial⟩,M.e_inl hM aJ,(H.pk [1,2,3,4,0,5]),aW⟩
   skip
   refine t_bs (α:=Dem) T92 [.agg #[I ((l_x.getD s2 default).spring),I ((l_x.getD s2 default).town)]] [(l_x.getD s2 default)] H rfl (.cons rfl (Flat.rep_enc _ (l_x.getD s2 default))<|.nil) rfl rfl rfl ?_;intro bQ cS H
   have cT:=Sl.cells (H.os 0)
   have cU:=Sl.oc (H.os 0)
   refine s_nil ⟨(H.pk [2,3,6,7,8]),?_⟩
   refine t_l rfl ?_;refine t_app (α:=Int) (k:=4) (l:=l) (l2:=[(r4.getD (Int.toNat ((r4.length:Int)-1)) 0:Int)]) (l':=l++([(r4.getD (Int.toNat ((r4.length:Int)-1)) 0:Int)])) (vy:=bo) T29 rfl H rfl rfl rfl (H.os 1) (H.ol 1) (rfl) (by first | omega | (simp only [List.length_nil] at *; omega)) ?_;intro bR cV H;replace H:=H.nf
   have cW:=Sl.cells (H.os 4)
   have cX:=Sl.oc (H.os 4)
   refine s_nil ⟨(H.pk [2,3,6,7,8]),?_⟩
   refine t_l rfl ?_;refine t_app (α:=Dem) (k:=5) (l:=l2) (l2:=[(l_x.getD s2 default)]) (l':=l2++([(l_x.getD s2 default)])) (vy:=bQ) T92 rfl H rfl rfl rfl (H.os 0) (H.ol 0) (rfl) (by first | omega | (simp only [List.length_nil] at *; omega)) ?_;intro bS cY H;replace H:=H.nf
   have cZ:=Sl.cells (H.os 5)
   have c6:=Sl.oc (H.os 5)
   refine s_nil ⟨(H.pk [2,3,6,7,8]),?_⟩
   refine kg 3 ?_;replace H:=H.pk [2,4,5,6,7,8];refine kg 4 ?_
   exact ⟨aL,aM,s2+1,ar.set (Int.toNat (r4.getD (Int.toNat ((r4.length:Int)-1)) 0)) true,l++([(r4.getD (Int.toNat ((r4.length:Int)-1)) 0:Int)]),l2++([(l_x.getD s2 default)]),bR,bS,aw,_,upds_of _ _ ⟨rfl,rfl,rfl,rfl,rfl,rfl,rfl,trivial⟩,M.e_inl hM aJ,(H.pk [1,2,3,4,0,5]),aW⟩
  skip
  refine t_bs (α:=Dem) T92 [.agg #[I ((l_x.getD s2 default).spring),I ((l_x.getD s2 default).town)]] [(l_x.getD s2 default)] H rfl (.cons rfl (Flat.rep_enc _ (l_x.getD s2 default))<|.nil) rfl rfl rfl ?_;intro bT c7 H
  have c8:=Sl.cells (H.os 0)
  have c9:=Sl.oc (H.os 0)
  have da:=Sl.cells (H.os 3)
  have db:=Sl.oc (H.os 3)
  have dc:=Sl.cells (H.os 4)
  have dd:=Sl.oc (H.os 4)
  refine s_nil ⟨(H.pk [1,2,5,6,7]),?_⟩
  refine t_l rfl ?_;refine t_bs (α:=Int) T29 [I (r4.getD (Int.toNat ((r4.length:Int)-1)) 0)] [(r4.getD (Int.toNat ((r4.length:Int)-1)) 0:Int)] H rfl (.cons rfl (Flat.rep_enc _ (r4.getD (Int.toNat ((r4.length:Int)-1)) 0:Int))<|.nil) rfl rfl rfl ?_;intro bU dg H
  have di:=Sl.cells (H.os 0)
  have dj:=Sl.oc (H.os 0)
  refine s_nil ⟨(H.pk [2,3,6,7,8]),?_⟩
  refine t_l rfl ?_;refine t_app (α:=Int) (k:=4) (l:=l) (l2:=[(r4.getD (Int.toNat ((r4.length:Int)-1)) 0:Int)]) (l':=l++([(r4.getD (Int.toNat ((r4.length:Int)-1)) 0:Int)])) (vy:=bU) T29 rfl H rfl rfl rfl (H.os 0) (H.ol 0) (rfl) (by first | omega | (simp only [List.length_nil] at *; omega)) ?_;intro bV dk H;replace H:=H.nf
  have dm:=Sl.cells (H.os 4)
  have dp:=Sl.oc (H.os 4)
  refine s_nil ⟨(H.pk [2,3,6,7,8]),?_⟩
  refine t_l rfl ?_;refine t_app (α:=Dem) (k:=5) (l:=l2) (l2:=[(l_x.getD s2 default)]) (l':=l2++([(l_x.getD s2 default)])) (vy:=bT) T92 rfl H rfl rfl rfl (H.os 1) (H.ol 1) (rfl) (by first | omega | (simp only [List.length_nil] at *; omega)) ?_;intro bW dq H;replace H:=H.nf
  have dr:=Sl.cells (H.os 5)
  have dt:=Sl.oc (H.os 5)
  refine s_nil ⟨(H.pk [2,3,6,7,8]),?_⟩
  refine kg 3 ?_;replace H:=H.pk [2,4,5,6,7,8];refine kg 4 ?_
  exact ⟨aL,aM,s2+1,ar.set (Int.toNat (r4.getD (Int.toNat ((r4.length:Int)-1)) 0)) true,l++([(r4.getD (Int.toNat ((r4.length:Int)-1)) 0:Int)]),l2++([(l_x.getD s2 default)]),bV,bW,aw,_,upds_of _ _ ⟨rfl,rfl,rfl,rfl,rfl,rfl,rfl,trivial⟩,M.e_inl hM aJ,(H.pk [1,2,3,4,0,5]),aW⟩
 replace hM:=M.e_f hM av
 replace av:=dI av
 refine W.exit ?_
 have bX:=M.e_inr hM aJ
 subst bX;replace hM:=bE;(try dsimp only at hM);replace H:=H.pk [0,1,4];obtain ⟨du,hM⟩:=M.e_gd hM;refine kg 3 ?_;refine s_call cf64 [am] rfl (sort_any (H.get (k:=0) rfl) (by omega)) ?_
 rintro _ bY ⟨rfl,bp,br,bt⟩
 replace H:St w bY [cOwn (α:=Int) 3 am (isort l),cOwn (α:=Dem) 49 ap l2,cMem encDm aq B_mem (zaa aa ab ac ae ag ah ai)] R:=H.sorted (k:=0) rfl bp br bt rfl
 clear bp br bt
 refine kg 9 ?_;refine W.ret ?_
 have aR:=M.e_pure hM
 exact ⟨_,resE_tmp3 rfl,⟨(isort l),l2,true,am,ap,B_mem,aR,rfl,H⟩⟩

def zbV (aa:List Int) (ab:List Span) (ac:List Int) (ae:List Town) (ah ai:Int) (ag:List Flood):M ((List Int) × Int) :=
  M.bind (zau aa ab ac ae ah ai ag) fun x_=>match x_ with
  | (.inl r1)=>(
  bif r1 != 0 then (
  M.pure (([]),r1))
  else (
  M.fail))
  | (.inr (aj,ak,al))=>(
  bif al != 0 then (
  M.fail)
  else (
  M.bind (zdr aa ab ac ae aj ak ag) fun (r0,am,r2) =>
  bif !r2 then (
  M.pure (([]),6))
  else (
  M.pure (r0,0))))
theorem zcI {R:List Chunk} {ax:Cells} {ai:Value} {ay:Cells} {aj:Value} {az:Cells} {ak:Value} {aA:Cells} {al:Value} {aB:Cells} {am:Value} (ao:List Int) (ap:List Span) (aq:List Int) (au:List Town) (ab:Int) (ac:Int) (av:List Flood) (aC:Reads R ax) (aD:Sl ax ai ao) (aE:Reads R ay) (aF:Sl ay aj ap) (aG:Reads R az) (aH:Sl az ak aq) (aI:Reads R aA) (aJ:Sl aA al au) (aK:Reads R aB) (aL:Sl aB am av) {r:((List Int) × Int)} (hM:(zbV ao ap aq au ab ac av).Ends r) (w:World) (H:St w w [] R):Ret Tryz.prog 18 #[.agg #[ai,aj,ak,al,I ab,I ac,am]] w fun v w'=>∃ (y0:List Int) (y1:Int) (u0:Value),(y0,y1)=r/\v = .tuple #[u0,I y1]/\St w w' [cOwn (α:=Int) 3 u0 y0] R:=by
 refine ret_of_W Tryz.func18 rfl rfl rfl ?_;refine kg 2 ?_;refine t_bx [ai,aj,ak,al,I ab,I ac,am] H rfl ?_;intro aV aW H;refine kg 6 ?_;obtain ⟨aX,aM,hM⟩:=M.e_bind hM;refine s_call cf13 [.agg #[ai,aj,ak,al,I ab,I ac,am]] rfl (zb0 ao ap aq au ab ac av (aC.app _) aD (aE.app _) aF (aG.app _) aH (aI.app _) aJ (aK.app _) aL aM _ (H.gt 1)) ?_
 rintro vq aY (⟨r1,aN,hvq,aa⟩ | ⟨aO,aP,aQ,aR,aZ,a6,aS,hvq,aa⟩)
 ·subst aN;subst vq;(try dsimp only at hM);replace H:=H.bk aa;clear aa;refine kg 12 ?_
  refine W.cond (r1 != 0) rfl (fun ae=>?_) (fun ae=>?_)
  ·replace hM:=M.e_t hM ae
   replace ae:=dI ae
   refine kg 6 ?_;refine W.ret ?_
   have ag:=M.e_pure hM
   replace H:=H.nilOwn (α:=Int) 3
   exact ⟨_,resE_tmp2 rfl,⟨([]),r1,(.slice none 0 0),ag,rfl,(H.pk [0])⟩⟩
  replace hM:=M.e_f hM ae
  exact (M.e_fail hM).elim
 subst aS;subst vq;(try dsimp only at hM);replace H:=H.bk aa;clear aa;refine kg 12 ?_
 refine W.cond (aQ != 0) rfl (fun ah=>?_) (fun ah=>?_)
 ·replace hM:=M.e_t hM ah
  exact (M.e_fail hM).elim
 replace hM:=M.e_f hM ah
 replace ah:=dI ah
 refine kg 4 ?_;obtain ⟨a7,aT,hM⟩:=M.e_bind hM;refine s_call cf35 [Pq aR] rfl (zdQ ao ap aq au aO aP av (aC.app _) aD (aE.app _) aF (aG.app _) aH (aI.app _) aJ (aK.app _) aL (Has.here (k:=0) rfl) aT _ ((H.pk [1,0,2]).gt 2)) ?_
 rintro vq a8 ⟨r0,ba,r2,aU,bb,bc,rfl,hvq,aa⟩
 subst vq;(try dsimp only at hM)
 replace H:=H.pk [1,0,2] |>.bk aa
 clear aa;refine kg 8 ?_;replace H:=H.pk [0];refine kg 6 ?_
 refine W.cond (!r2) rfl (fun aw=>?_) (fun aw=>?_)
 ·replace hM:=M.e_t hM aw;refine kg 5 ?_;refine W.ret ?_
  have ag:=M.e_pure hM
  replace H:=H.nilOwn (α:=Int) 3
  exact ⟨_,resE_tmp2 rfl,⟨([]),6,(.slice none 0 0),ag,rfl,(H.pk [0])⟩⟩
 replace hM:=M.e_f hM aw;refine kg 7 ?_;refine W.ret ?_
 have ag:=M.e_pure hM
 exact ⟨_,resE_tmp2 rfl,⟨r0,0,aU,ag,rfl,H⟩⟩

def zce (aa:List Int) (ab:List Span) (ac:List Int) (ae:List Town) (ag ah:Int) (ai:List Flood) (n:Int):M Bool :=
  M.bind (zaf n 0 ((aa.length:Int)-1)) fun r2 =>
  M.pure r2
theorem zem {R:List Chunk} {ab:Nat} {ac:Cells} {ae:Value} {ag:Cells} {ah:Value} {ai:Cells} {aj:Value} {ak:Cells} {al:Value} {am:Cells} {ao:Value} {az:Nat} (aa:List Int) (ap:List Span) (aq:List Int) (au:List Town) (av:Int) (aw:Int) (ax:List Flood) (n:Int) (aD:Reads R ac) (aA:Sl ac ae aa) (aE:Reads R ag) (aF:Sl ag ah ap) (aG:Reads R ai) (aH:Sl ai aj aq) (aI:Reads R ak) (aJ:Sl ak al au) (aK:Reads R am) (aL:Sl am ao ax) (aM:Has R (cBlk ab [ae,ah,aj,al,I av,I aw,ao,.map (some az)] 90)) {r:Bool} (hM:(zce aa ap aq au av aw ax n).Ends r) (w:World) (H:St w w [] R):Ret Tryz.prog 26 #[Pq ab,I n] w fun v w'=>∃ (y0:Bool),y0=r/\v=B y0/\St w w' [] R:=by
 refine ret_of_W Tryz.func26 rfl rfl rfl ?_
 have aN:=(aA).len_le
 refine kg 14 ?_;obtain ⟨aO,aB,hM⟩:=M.e_bind hM;refine s_call cf27 [I n,I 0,I ((aa.length:Int)-1)] rfl (zaj n 0 ((aa.length:Int)-1) aB _ (H.gt 0)) ?_
 rintro vq aP ⟨r2,rfl,hvq,ay⟩
 subst vq;(try dsimp only at hM);replace H:=H.bk ay;clear ay;refine kg 2 ?_;refine W.ret ?_
 have aC:=M.e_pure hM
 exact ⟨_,resE_tmp rfl,⟨r2,aC,rfl,H⟩⟩

def zbl (ae:List Int) (ag:List Span) (ah:List Int) (aa:List Town) (ab ac:Int) (ai:List Flood) (watch town:Int):M (Int × Int × Int) :=
  M.bind (zau ae ag ah aa ab ac ai) fun x_=>match x_ with
  | (.inl r1)=>(
  bif r1 != 0 then (
  M.pure (0,0,r1))
  else (
  M.fail))
  | (.inr (aj,ak,al))=>(
  bif al != 0 then (
  M.fail)
  else (
  M.bind (zce ae ag ah aa aj ak ai watch) fun r2 =>
  M.bind (M.opt (!(!r2)) (zaf town 0 ((aa.length:Int)-1)) false) fun r3 =>
  bif ((!r2)||(!r3)) then (
  M.pure (0,0,2))
  else (
  M.grd (decide ((0:Int)<=town)&&decide (town<(aa.length:Int))) <|
  M.bind (zaw ae ag ah aa aj ak ai watch ((aa.getD (Int.toNat town) default).station)) fun (am,ao,ap) =>
  bif !ap then (
  M.pure (0,0,5))
  else (
  M.grd (decide (-9223372036854775807<=ac)&&decide (ac<=9223372036854775807)) <|
  M.grd (decide (-9223372036854775807<=ab)&&decide (ab<=9223372036854775807)) <|
  M.bind (zaY ([(⟨(am:Int),(ao:Int)⟩:Span),(⟨(-ac:Int),(-ab:Int)⟩:Span)])) fun (r0,aq) =>
  M.pure (r0,aq,0)))))
theorem zdg {R:List Chunk} {aL:Cells} {av:Value} {aM:Cells} {aw:Value} {aN:Cells} {ax:Value} {aO:Cells} {ay:Value} {aP:Cells} {az:Value} (ak:List Int) (al:List Span) (am:List Int) (ae:List Town) (ab:Int) (ac:Int) (ao:List Flood) (watch:Int) (town:Int) (aB:Reads R aL) (aC:Sl aL av ak) (aD:Reads R aM) (aE:Sl aM aw al) (aF:Reads R aN) (aG:Sl aN ax am) (aA:Reads R aO) (ap:Sl aO ay ae) (aH:Reads R aP) (aI:Sl aP az ao) {r:(Int × Int × Int)} (hM:(zbl ak al am ae ab ac ao watch town).Ends r) (w:World) (H:St w w [] R):Ret Tryz.prog 12 #[.agg #[av,aw,ax,ay,I ab,I ac,az],I watch,I town] w fun v w'=>∃ (y0:Int) (y1:Int) (y2:Int),(y0,y1,y2)=r/\v = .tuple #[.agg #[I y0,I y1],I y2]/\St w w' [] R:=by
 refine ret_of_W Tryz.func12 rfl rfl rfl ?_;refine kg 2 ?_;refine t_bx [av,aw,ax,ay,I ab,I ac,az] H rfl ?_;intro bh bi H;refine t_alloc (cs:=[I 0,I 0]) H Al24 rfl ?_;intro bj bm H;refine kg 5 ?_;obtain ⟨bn,aT,hM⟩:=M.e_bind hM;refine s_call cf13 [.agg #[av,aw,ax,ay,I ab,I ac,az]] rfl (zb0 ak al am ae ab ac ao (aB.app _) aC (aD.app _) aE (aF.app _) aG (aA.app _) ap (aH.app _) aI aT _ (H.gt 2)) ?_
 rintro vq bo (⟨r1,aU,hvq,aa⟩ | ⟨aQ,aR,aV,aS,bp,br,aW,hvq,aa⟩)
 ·subst aU;subst vq;(try dsimp only at hM);replace H:=H.bk aa;clear aa;refine kg 14 ?_
  refine W.cond (r1 != 0) rfl (fun aq=>?_) (fun aq=>?_)
  ·replace hM:=M.e_t hM aq
   replace aq:=dI aq
   refine kg 2 ?_;refine s_val (x_bld (ps:=[]) (zs:=[I 0,I 0]) (L':=[I 0,I 0]) rfl Tryz.underlying24 Al24 rfl (Bd24 Tryz.underlying24) (.nil)) ?_;refine kg 1 ?_;refine t_sw 0 0 [I 0,I 0] (.agg #[I 0,I 0]) H rfl rfl Sz24 rfl rfl rfl rfl ?_;intro bt H;refine kg 2 ?_;refine W.ret ?_
   have aX:=(H.bl 0)
   have ag:=M.e_pure hM
   exact ⟨_,(resE_ofn (vs:=[.agg #[I 0,I 0],I r1]) rfl rfl (.cell (v:=.agg #[I 0,I 0]) rfl (run_loadVar_ag (ds:=[I 0,I 0]) Ag24 Sz24 aX rfl rfl)<|.tmp (v:=I r1) rfl<|.nil)),⟨0,0,r1,ag,rfl,(H.pk [])⟩⟩
  replace hM:=M.e_f hM aq
  exact (M.e_fail hM).elim
 subst aW;subst vq;(try dsimp only at hM);replace H:=H.bk aa;clear aa;refine kg 14 ?_
 refine W.cond (aV != 0) rfl (fun au=>?_) (fun au=>?_)
 ·replace hM:=M.e_t hM au
  exact (M.e_fail hM).elim
 replace hM:=M.e_f hM au
 replace au:=dI au
 refine kg 4 ?_;obtain ⟨bu,aY,hM⟩:=M.e_bind hM;refine s_call cf26 [Pq aS,I watch] rfl (zem ak al am ae aQ aR ao watch (aB.app _) aC (aD.app _) aE (aF.app _) aG (aA.app _) ap (aH.app _) aI (Has.here (k:=0) rfl) aY _ (H.gt 4)) ?_
 rintro vq bv ⟨r2,rfl,hvq,aa⟩
 subst vq;(try dsimp only at hM);replace H:=H.bk aa;clear aa
 have bw:=(ap).len_le
 refine kg 7 ?_;obtain ⟨r3,aZ,hM⟩:=M.e_bind hM;refine t_gcall (!(!r2)) (gy_f rfl) cf27 (B r3) (fun _=>[I town,I 0,I ((ae.length:Int)-1)]) (fun hg=>lst3 (gd_of hg (I town)) rfl (gd_of hg (I ((ae.length:Int)-1)))) H (fun hg=>(zaj town 0 ((ae.length:Int)-1) (M.e_opt aZ hg) _ (H.give (A:=[]) rfl)).mono fun v_ w_ ⟨y_,ag,a6,H_⟩=>by subst ag; exact ⟨a6,H.via H_⟩) ?_;intro bx H;refine kg 4 ?_
 refine W.cond ((!r2)||(!r3)) rfl (fun aJ=>?_) (fun aJ=>?_)
 ·replace hM:=M.e_t hM aJ;refine kg 2 ?_;refine s_val (x_bld (ps:=[]) (zs:=[I 0,I 0]) (L':=[I 0,I 0]) rfl Tryz.underlying24 Al24 rfl (Bd24 Tryz.underlying24) (.nil)) ?_;refine t_sw 2 0 [I 0,I 0] (.agg #[I 0,I 0]) H rfl rfl Sz24 rfl rfl rfl rfl ?_;intro bz H;refine kg 2 ?_;replace H:=H.pk [2];refine W.ret ?_
  have a7:=(H.bl 0)
  have ag:=M.e_pure hM
  exact ⟨_,(resE_ofn (vs:=[.agg #[I 0,I 0],I 2]) rfl rfl (.cell (v:=.agg #[I 0,I 0]) rfl (run_loadVar_ag (ds:=[I 0,I 0]) Ag24 Sz24 a7 rfl rfl)<|.tmp (v:=I 2) rfl<|.nil)),⟨0,0,2,ag,rfl,(H.pk [])⟩⟩
 replace hM:=M.e_f hM aJ;obtain ⟨bA,hM⟩:=M.e_gd hM;refine kg 10 ?_;refine s_val (x_ld (v:=I ((ae.getD (Int.toNat town) default).station)) rfl (ld_sc Sc3 (At.mono (Town_at0 ap (i:=town) (by omega) (by omega)) (aA.at H)))) ?_;obtain ⟨bB,a8,hM⟩:=M.e_bind hM;refine s_call cf28 [Pq aS,I watch,I ((ae.getD (Int.toNat town) default).station)] rfl (zcG ak al am ae aQ aR ao watch ((ae.getD (Int.toNat town) default).station) (aB.app _) aC (aD.app _) aE (aF.app _) aG (aA.app _) ap (aH.app _) aI (Has.here (k:=0) rfl) a8 _ (H.gt 4)) ?_
 rintro vq bC ⟨ah,ai,ba,rfl,hvq,aa⟩
 subst vq;(try dsimp only at hM);replace H:=H.bk aa;clear aa;refine kg 3 ?_;refine t_alloc (cs:=[I 0,I 0]) H Al24 rfl ?_;intro bD bE H;refine t_sw 0 0 [I ah,I ai] (.agg #[I ah,I ai]) H rfl rfl Sz24 rfl rfl rfl rfl ?_;intro bF H;refine kg 2 ?_;replace H:=H.pk [0,3,4];refine kg 6 ?_
 refine W.cond (!ba) rfl (fun aK=>?_) (fun aK=>?_)
 ·replace hM:=M.e_t hM aK;refine kg 2 ?_;refine s_val (x_bld (ps:=[]) (zs:=[I 0,I 0]) (L':=[I 0,I 0]) rfl Tryz.underlying24 Al24 rfl (Bd24 Tryz.underlying24) (.nil)) ?_;refine t_sw 1 0 [I 0,I 0] (.agg #[I 0,I 0]) H rfl rfl Sz24 rfl rfl rfl rfl ?_;intro bG H;refine kg 2 ?_;replace H:=H.pk [1];refine W.ret ?_
  have bb:=(H.bl 0)
  have ag:=M.e_pure hM
  exact ⟨_,(resE_ofn (vs:=[.agg #[I 0,I 0],I 5]) rfl rfl (.cell (v:=.agg #[I 0,I 0]) rfl (run_loadVar_ag (ds:=[I 0,I 0]) Ag24 Sz24 bb rfl rfl)<|.tmp (v:=I 5) rfl<|.nil)),⟨0,0,5,ag,rfl,(H.pk [])⟩⟩
 replace hM:=M.e_f hM aK;obtain ⟨bH,hM⟩:=M.e_gd hM;refine kg 7 ?_;refine s_val (x_neg (a:=ac) rfl (by omega)) ?_;obtain ⟨bI,hM⟩:=M.e_gd hM;refine kg 3 ?_;refine s_val (x_neg (a:=ab) rfl (by omega))<|s_val (x_bld (ps:=[(0,I (-ac)),(1,I (-ab))]) (zs:=[I 0,I 0]) (L':=[I (-ac),I (-ab)]) rfl Tryz.underlying24 Al24 rfl (Bd24 Tryz.underlying24) (.cons (cs:=[I (-ac)]) rfl rfl rfl rfl rfl<|.cons (cs:=[I (-ab)]) rfl rfl rfl rfl rfl<|.nil)) ?_;refine t_bs (α:=Span) T36 [.agg #[I ah,I ai],.agg #[I (-ac),I (-ab)]] [(⟨(ah:Int),(ai:Int)⟩:Span),(⟨(-ac:Int),(-ab:Int)⟩:Span)] H rfl (.cons rfl (Flat.rep_enc _ (⟨(ah:Int),(ai:Int)⟩:Span))<|.cons rfl (Flat.rep_enc _ (⟨(-ac:Int),(-ab:Int)⟩:Span))<|.nil) rfl rfl rfl ?_;intro bc bJ H;obtain ⟨bK,bf,hM⟩:=M.e_bind hM;refine s_call cf29 [bc] rfl (zc5 ([(⟨(ah:Int),(ai:Int)⟩:Span),(⟨(-ac:Int),(-ab:Int)⟩:Span)]) (rdo 0) (H.os 0) bf _ (H.gt 4)) ?_
 rintro vq bL ⟨r0,aj,rfl,hvq,aa⟩
 subst vq;(try dsimp only at hM);replace H:=H.bk aa;clear aa;refine t_sw 2 0 [I r0,I aj] (.agg #[I r0,I aj]) H rfl rfl Sz24 rfl rfl rfl rfl ?_;intro bM H;refine kg 2 ?_;replace H:=H.pk [2];refine W.ret ?_
 have bg:=(H.bl 0)
 have ag:=M.e_pure hM
 exact ⟨_,(resE_ofn (vs:=[.agg #[I r0,I aj],I 0]) rfl rfl (.cell (v:=.agg #[I r0,I aj]) rfl (run_loadVar_ag (ds:=[I r0,I aj]) Ag24 Sz24 bg rfl rfl)<|.tmp (v:=I 0) rfl<|.nil)),⟨r0,aj,0,ag,rfl,(H.pk [])⟩⟩

def zcK (a b:List Int):Nat->M (Nat ⊕ (Unit ⊕ Unit)):=fun i =>
  bif decide ((i:Int)<(a.length:Int)) then (
  M.grd (decide ((i:Int)<(a.length:Int))) <|
  M.grd (decide ((i:Int)<(b.length:Int))) <|
  bif (a.getD i 0) != (b.getD i 0) then (
  M.pure (.inr (.inl ())))
  else (
  M.pure (.inl (i+1))))
  else (
  M.pure (.inr (.inr ())))
def zal (a b:List Int):M Bool :=
  bif (a.length:Int) != (b.length:Int) then (
  M.pure false)
  else (
  M.bind (M.iter (zcK a b) 0) fun x_=>match x_ with
  | (.inl (_:Unit))=>(
  M.pure false)
  | (.inr (_:Unit))=>(
  M.pure true))
theorem zan {R:List Chunk} {ak:Cells} {ag:Value} {al:Cells} {ah:Value} (a:List Int) (b:List Int) (aA:Reads R ak) (am:Sl ak ag a) (aB:Reads R al) (au:Sl al ah b) {r:Bool} (hM:(zal a b).Ends r) (w:World) (H:St w w [] R):Ret Tryz.prog 19 #[ag,ah] w fun v w'=>∃ (y0:Bool),y0=r/\v=B y0/\St w w' [] R:=by
 refine ret_of_W Tryz.func19 rfl rfl rfl ?_
 have aC:=(am).len_le
 have aD:=(au).len_le
 refine kg 13 ?_
 refine W.cond ((a.length:Int) != (b.length:Int)) rfl (fun aa=>?_) (fun aa=>?_)
 ·replace hM:=M.e_t hM aa
  replace aa:=dI aa
  refine kg 4 ?_;refine W.ret ?_
  have ae:=M.e_pure hM
  exact ⟨_,resE_tmp rfl,⟨false,ae,rfl,H⟩⟩
 replace hM:=M.e_f hM aa
 replace aa:=dI aa
 refine kg 7 ?_;obtain ⟨av,ai,ao⟩:=M.e_bind hM
 obtain ⟨aE,ai⟩:=M.e_iter ai
 refine W.loop (fun m σ W=>∃ (i:Nat) (ρ:Env),σ=upds ρ [(0,ag),(1,ah),(5,I (i:Int))]/\M.iterN (zcK a b) m i=some av/\St w W [] R) ?_ ?_
 ·exact ⟨_,0,_,upds_of _ _ ⟨rfl,rfl,rfl,trivial⟩,ai,H⟩
 rintro aF σ aG ⟨i,ρ,rfl,ap,H⟩
 obtain ⟨aw,ax,aH,hM,aj⟩:=M.e_iterN ap
 simp only [zcK] at hM
 clear ap
 have aI:=(am).len_le
 refine kg 8 ?_
 refine W.cond (decide ((i:Int)<(a.length:Int))) rfl (fun ab=>?_) (fun ab=>?_)
 ·replace hM:=M.e_t hM ab
  replace ab:=dI ab
  refine kg 4 ?_;refine W.draw (fun W=>St w W [] R) [(0,true),(1,true),(2,true),(3,true),(4,true),(5,true),(6,true),(7,true),(8,true)] mixed (by decide +kernel) rfl ?_;intro aJ aq;replace H:=H.ext aq;clear aq
  refine ⟨(H.pk []),?_⟩
  obtain ⟨aK,hM⟩:=M.e_gd hM;obtain ⟨aL,hM⟩:=M.e_gd hM;refine kg 10 ?_
  refine W.cond ((a.getD i 0) != (b.getD i 0)) rfl (fun ac=>?_) (fun ac=>?_)
  ·replace hM:=M.e_t hM ac
   replace ac:=dI ac
   refine kg 4 ?_;refine W.ret ?_
   have ay:=M.e_inr hM aj
   subst ay;replace hM:=ao;(try dsimp only at hM)
   have ae:=M.e_pure hM
   exact ⟨_,resE_tmp rfl,⟨false,ae,rfl,H⟩⟩
  replace hM:=M.e_f hM ac
  replace ac:=dI ac
  refine kg 6 ?_
  exact ⟨aw,ax,i+1,_,upds_of _ _ ⟨rfl,rfl,rfl,trivial⟩,M.e_inl hM aj,H⟩
 replace hM:=M.e_f hM ab
 replace ab:=dI ab
 refine W.exit ?_
 have az:=M.e_inr hM aj
 subst az;replace hM:=ao;(try dsimp only at hM);refine kg 4 ?_;refine W.ret ?_
 have ae:=M.e_pure hM
 exact ⟨_,resE_tmp rfl,⟨true,ae,rfl,H⟩⟩

def zcS (watches:List Int):((List Bool) × Nat)->M (((List Bool) × Nat) ⊕ (List Bool)):=fun (ar,s) =>
  bif decide ((s:Int)<(watches.length:Int)) then (
  M.grd (decide ((s:Int)<(watches.length:Int))) <|
  M.grd (decide ((0:Int)<=(watches.getD s 0))&&decide ((watches.getD s 0)<(12:Int))) <|
  M.pure (.inl (ar.set (Int.toNat (watches.getD s 0)) true,s+1)))
  else (
  M.pure (.inr ar))
def zbT (ab ac:Int) (watches:List Int) (e:Int):M (((List Bool) × Int) ⊕ (Int × Int × (List Bool) × Int)) :=
  bif e != 0 then (
  M.pure (.inl ((List.replicate 12 false),e)))
  else (
  M.bind (M.iter (zcS watches) (List.replicate 12 false,0)) fun aa =>
  M.pure (.inl (aa,0)))
def zcl (watches:List Int):((List Bool) × Nat)->M (((List Bool) × Nat) ⊕ (List Bool)):=fun (ar,s) =>
  bif decide ((s:Int)<(watches.length:Int)) then (
  M.grd (decide ((s:Int)<(watches.length:Int))) <|
  M.grd (decide ((0:Int)<=(watches.getD s 0))&&decide ((watches.getD s 0)<(12:Int))) <|
  M.pure (.inl (ar.set (Int.toNat (watches.getD s 0)) true,s+1)))
  else (
  M.pure (.inr ar))
def zb9 (ae:List Int) (ag:List Span) (ah:List Int) (ai:List Town) (aj ak:Int) (al:List Flood) (watches:List Int) (aa ab e2:Int):M (((List Bool) × Int) ⊕ (Int × Int × (List Bool) × Int)) :=
  bif e2 != 0 then (
  M.pure (.inl ((List.replicate 12 false),e2)))
  else (
  M.bind (M.iter (zcl watches) (List.replicate 12 false,0)) fun ac =>
  M.pure (.inr (aa,ab,ac,0)))
def zcJ (aa:List Int) (ae:List Span) (ag:List Int) (ah:List Town) (ab ac:Int) (ai:List Flood) (watches:List Int):M (((List Bool) × Int) ⊕ (Int × Int × (List Bool) × Int)) :=
  M.bind (zau aa ae ag ah ab ac ai) fun x_=>match x_ with
  | (.inl r1)=>(
  M.bind (M.opt (r1==0) (zaG watches (aa.length:Int)) false) fun r2 =>
  bif ((r1==0)&&(!r2)) then (
  zbT ab ac watches 2)
  else (
  zbT ab ac watches r1))
  | (.inr (ak,al,aj))=>(
  M.bind (M.opt (aj==0) (zaG watches (aa.length:Int)) false) fun r2 =>
  bif ((aj==0)&&(!r2)) then (
  zb9 aa ae ag ah ab ac ai watches ak al 2)
  else (
  zb9 aa ae ag ah ab ac ai watches ak al aj))
theorem zdc {R:List Chunk} {aT:Cells} {aa:Value} {aU:Cells} {ab:Value} {aV:Cells} {ac:Value} {aW:Cells} {ae:Value} {aX:Cells} {ag:Value} {aY:Cells} {aC:Value} (ak:List Int) (av:List Span) (aw:List Int) (ax:List Town) (ai:Int) (aj:Int) (ay:List Flood) (watches:List Int) (bf:Reads R aT) (aM:Sl aT aa ak) (bg:Reads R aU) (bh:Sl aU ab av) (bi:Reads R aV) (bj:Sl aV ac aw) (bm:Reads R aW) (bn:Sl aW ae ax) (bo:Reads R aX) (bp:Sl aX ag ay) (aZ:Reads R aY) (aK:Sl aY aC watches) {r:(((List Bool) × Int) ⊕ (Int × Int × (List Bool) × Int))} (hM:(zcJ ak av aw ax ai aj ay watches).Ends r) (w:World) (H:St w w [] R):Ret Tryz.prog 36 #[.agg #[aa,ab,ac,ae,I ai,I aj,ag],aC] w fun v w'=>(∃ (y0:List Bool) (y1:Int),(.inl (y0,y1))=r/\v = .tuple #[.pointer none,.agg (encB y0).toArray,I y1]/\St w w' [] R/\y0.length=12)∨(∃ (y0:Int) (y1:Int) (y2:List Bool) (y3:Int) (a6:Nat) (a7:Nat) (br:Base),(.inr (y0,y1,y2,y3))=r/\v = .tuple #[Pq a6,.agg (encB y2).toArray,I y3]/\St w w' [cBlk a6 [aa,ab,ac,ae,I y0,I y1,ag,.map (some a7)] 90,cMem encDm a7 br (zaa ak av aw ax y0 y1 ay)] R/\y2.length=12):=by
 refine ret_of_W Tryz.func36 rfl rfl rfl ?_;refine kg 2 ?_;refine t_bx [aa,ab,ac,ae,I ai,I aj,ag] H rfl ?_;intro aq bR H;refine kg 1 ?_;refine t_alloc (cs:=encB (List.replicate 12 false)) H Al103 rfl ?_;intro al bS H
 have aL:(List.replicate 12 false).length=12:=by simp
 refine kg 4 ?_;refine t_alloc (cs:=encB (List.replicate 12 false)) H Al103 rfl ?_;intro ah bT H
 have aD:(List.replicate 12 false).length=12:=by simp
 refine kg 4 ?_;obtain ⟨bU,bt,hM⟩:=M.e_bind hM;refine s_call cf13 [.agg #[aa,ab,ac,ae,I ai,I aj,ag]] rfl (zb0 ak av aw ax ai aj ay (bf.app _) aM (bg.app _) bh (bi.app _) bj (bm.app _) bn (bo.app _) bp bt _ (H.gt 3)) ?_
 rintro vq bV (⟨r1,bu,hvq,aJ⟩ | ⟨am,ao,aN,az,ap,aE,bv,hvq,aJ⟩)
 ·subst bu;subst vq;(try dsimp only at hM);replace H:=H.bk aJ;clear aJ;refine kg 6 ?_;refine W.seqJ (fun σ W=>∃ (e:Int) (ρ:Env),σ=upds ρ [(1,aC),(5,Pq al),(7,Pq ah),(8,.pointer none),(9,I e)]/\(zbT ai aj watches e).Ends r/\St w W [cBlk ah (encB (List.replicate 12 false)) 103,cBlk al (encB (List.replicate 12 false)) 103,cBlk aq [aa,ab,ac,ae,I ai,I aj,ag] 40] R) ?_ ?_
  ·skip
   have bW:=(aM).len_le
   refine kg 9 ?_;obtain ⟨r2,bw,hM⟩:=M.e_bind hM;refine t_gcall (r1==0) (gy_t rfl) cf50 (B r2) (fun _=>[aC,I (ak.length:Int)]) (fun hg=>lst2 (gd_of hg (aC)) (gd_of hg (I (ak.length:Int)))) H (fun hg=>(zcM watches (ak.length:Int) (aZ.app _) aK (M.e_opt bw hg) _ (H.give (A:=[]) rfl)).mono fun v_ w_ ⟨y_,aA,aO,H_⟩=>by subst aA; exact ⟨aO,H.via H_⟩) ?_;intro bX H;refine kg 3 ?_
   refine W.cond ((r1==0)&&(!r2)) rfl (fun aP=>?_) (fun aP=>?_)
   ·replace hM:=M.e_t hM aP;refine kg 3 ?_
    exact ⟨2,_,upds_of _ _ ⟨rfl,rfl,rfl,rfl,rfl,trivial⟩,hM,H⟩
   replace hM:=M.e_f hM aP;refine W.skip ?_
   exact ⟨r1,_,upds_of _ _ ⟨rfl,rfl,rfl,rfl,rfl,trivial⟩,hM,H⟩
  rintro _ bY ⟨e,ρ,rfl,hM,H⟩
  unfold zbT at hM
  refine kg 6 ?_
  refine W.cond (e != 0) rfl (fun aF=>?_) (fun aF=>?_)
  ·replace hM:=M.e_t hM aF
   replace aF:=dI aF
   refine W.seq ?_;refine W.draw (fun W=>St w W [cBlk ah (encB (List.replicate 12 false)) 103,cBlk aq [aa,ab,ac,ae,I ai,I aj,ag] 40] R) [(0,true),(1,true),(2,true),(3,false),(4,true)] mixed (by decide +kernel) rfl ?_;intro bZ aB;replace H:=H.ext aB;clear aB
   refine ⟨(H.pk [0,2]),?_⟩
   refine d_q rfl (fun w' H=>x_ld (v:=.agg (encB (List.replicate 12 false)).toArray) rfl (ldArrA Ag103 Sz103 aD (H.bl 0))) ?_;refine kg 2 ?_;refine d_l rfl ?_;refine t_stArrA (k:=1) (b:=al) (l:=List.replicate 12 false) (l':=List.replicate 12 false) (L':=[cBlk ah (encB (List.replicate 12 false)) 103,cBlk al (encB (List.replicate 12 false)) 103,cBlk aq [aa,ab,ac,ae,I ai,I aj,ag] 40]) H rfl rfl rfl Sz103 aL aD rfl ?_;intro b3 H
   refine s_nil ⟨(H.pk [0,2]),?_⟩
   refine kg 2 ?_;replace H:=H.pk [1];refine W.ret ?_
   have bx:=(H.bl 0)
   have aA:=M.e_pure hM
   exact ⟨_,(resE_ofn (vs:=[.pointer none,.agg (encB (List.replicate 12 false)).toArray,I e]) rfl rfl (.tmp (v:=.pointer none) rfl<|.cell (v:=.agg (encB (List.replicate 12 false)).toArray) rfl (run_loadVar_arr Ag103 Sz103 aD bx)<|.tmp (v:=I e) rfl<|.nil)),.inl (⟨(List.replicate 12 false),e,aA,rfl,(H.pk []),aD⟩)⟩
  replace hM:=M.e_f hM aF
  replace aF:=dI aF
  have b4:=(aK).len_le
  refine kg 9 ?_;obtain ⟨bz,aQ,bA⟩:=M.e_bind hM
  obtain ⟨bB,aQ⟩:=M.e_iter aQ
  refine W.loop (fun m σ W=>∃ (ar:List Bool) (s:Nat) (ρ:Env),σ=upds ρ [(5,Pq al),(7,Pq ah),(8,.pointer none),(31,aC),(32,I (watches.length:Int)),(33,I (s:Int))]/\M.iterN (zcS watches) m (ar,s)=some bz/\St w W [cBlk ah (encB ar) 103,cBlk al (encB (List.replicate 12 false)) 103,cBlk aq [aa,ab,ac,ae,I ai,I aj,ag] 40] R/\ar.length=12) ?_ ?_
  ·exact ⟨_,List.replicate 12 false,0,_,upds_of _ _ ⟨rfl,rfl,rfl,rfl,rfl,rfl,trivial⟩,aQ,H,aD⟩
  rintro b6 σ b7 ⟨ar,s,ρ,rfl,a8,H,au⟩
  obtain ⟨bC,bD,b8,hM,ba⟩:=M.e_iterN a8
  simp only [zcS] at hM
  clear a8;refine kg 5 ?_
  refine W.cond (decide ((s:Int)<(watches.length:Int))) rfl (fun aG=>?_) (fun aG=>?_)
  ·replace hM:=M.e_t hM aG
   replace aG:=dI aG
   obtain ⟨b9,hM⟩:=M.e_gd hM;obtain ⟨ca,hM⟩:=M.e_gd hM;refine kg 11 ?_;refine s_val (x_ix (v:=.pointer (some ⟨ah,0+Int.toNat (watches.getD s 0),none⟩)) rfl rfl (run_indexArr Tryz.underlying103 Sz4 (by omega) (by omega))) ?_;refine t_stArr (k:=0) (b:=ah) (l:=ar) (l':=ar.set (Int.toNat (watches.getD s 0)) true) (i:=watches.getD s 0) (v:=true) (L':=[cBlk ah (encB (ar.set (Int.toNat (watches.getD s 0)) true)) 103,cBlk al (encB (List.replicate 12 false)) 103,cBlk aq [aa,ab,ac,ae,I ai,I aj,ag] 40]) H rfl rfl rfl Sz4 (by omega) (by have bE:=au; omega) rfl rfl ?_;intro cb H
   have bF:(ar.set (Int.toNat (watches.getD s 0)) true).length=12:=List.length_set.trans au
   refine kg 5 ?_
   exact ⟨bC,bD,ar.set (Int.toNat (watches.getD s 0)) true,s+1,_,upds_of _ _ ⟨rfl,rfl,rfl,rfl,rfl,rfl,trivial⟩,M.e_inl hM ba,H,bF⟩
  replace hM:=M.e_f hM aG
  replace aG:=dI aG
  refine W.exit ?_
  have bG:=M.e_inr hM ba
  subst bG;replace hM:=bA;(try dsimp only at hM);refine W.seq ?_;refine W.draw (fun W=>St w W [cBlk ah (encB ar) 103,cBlk aq [aa,ab,ac,ae,I ai,I aj,ag] 40] R) [(0,true),(1,true),(2,true),(3,false),(4,true)] mixed (by decide +kernel) rfl ?_;intro cc aB;replace H:=H.ext aB;clear aB
  refine ⟨(H.pk [0,2]),?_⟩
  refine kg 1 ?_;refine d_q rfl (fun w' H=>x_ld (v:=.agg (encB ar).toArray) rfl (ldArrA Ag103 Sz103 au (H.bl 0))) ?_;refine kg 1 ?_;refine d_l rfl ?_;refine t_stArrA (k:=1) (b:=al) (l:=List.replicate 12 false) (l':=ar) (L':=[cBlk ah (encB ar) 103,cBlk al (encB ar) 103,cBlk aq [aa,ab,ac,ae,I ai,I aj,ag] 40]) H rfl rfl rfl Sz103 aL au rfl ?_;intro cd H
  refine s_nil ⟨(H.pk [0,2]),?_⟩
  refine kg 2 ?_;replace H:=H.pk [1];refine W.ret ?_
  have bH:=(H.bl 0)
  have aA:=M.e_pure hM
  exact ⟨_,(resE_ofn (vs:=[.pointer none,.agg (encB ar).toArray,I 0]) rfl rfl (.tmp (v:=.pointer none) rfl<|.cell (v:=.agg (encB ar).toArray) rfl (run_loadVar_arr Ag103 Sz103 au bH)<|.tmp (v:=I 0) rfl<|.nil)),.inl (⟨ar,0,aA,rfl,(H.pk []),au⟩)⟩
 subst bv;subst vq;(try dsimp only at hM);replace H:=H.bk aJ;clear aJ;refine kg 6 ?_;refine W.seqJ (fun σ W=>∃ (e2:Int) (ρ:Env),σ=upds ρ [(1,aC),(5,Pq al),(7,Pq ah),(8,Pq az),(9,I e2)]/\(zb9 ak av aw ax ai aj ay watches am ao e2).Ends r/\St w W [cBlk az [aa,ab,ac,ae,I am,I ao,ag,.map (some ap)] 90,cMem encDm ap aE (zaa ak av aw ax am ao ay),cBlk ah (encB (List.replicate 12 false)) 103,cBlk al (encB (List.replicate 12 false)) 103,cBlk aq [aa,ab,ac,ae,I ai,I aj,ag] 40] R) ?_ ?_
 ·skip
  have ce:=(aM).len_le
  refine kg 9 ?_;obtain ⟨r2,bI,hM⟩:=M.e_bind hM;refine t_gcall (aN==0) (gy_t rfl) cf50 (B r2) (fun _=>[aC,I (ak.length:Int)]) (fun hg=>lst2 (gd_of hg (aC)) (gd_of hg (I (ak.length:Int)))) H (fun hg=>(zcM watches (ak.length:Int) (aZ.app _) aK (M.e_opt bI hg) _ (H.give (A:=[]) rfl)).mono fun v_ w_ ⟨y_,aA,aO,H_⟩=>by subst aA; exact ⟨aO,H.via H_⟩) ?_;intro cf H;refine kg 3 ?_
  refine W.cond ((aN==0)&&(!r2)) rfl (fun aR=>?_) (fun aR=>?_)
  ·replace hM:=M.e_t hM aR;refine kg 3 ?_
   exact ⟨2,_,upds_of _ _ ⟨rfl,rfl,rfl,rfl,rfl,trivial⟩,hM,H⟩
  replace hM:=M.e_f hM aR;refine W.skip ?_
  exact ⟨aN,_,upds_of _ _ ⟨rfl,rfl,rfl,rfl,rfl,trivial⟩,hM,H⟩
 rintro _ cg ⟨e2,ρ,rfl,hM,H⟩
 unfold zb9 at hM
 refine kg 6 ?_
 refine W.cond (e2 != 0) rfl (fun aH=>?_) (fun aH=>?_)
 ·replace hM:=M.e_t hM aH
  replace aH:=dI aH
  refine W.seq ?_;refine W.draw (fun W=>St w W [cBlk az [aa,ab,ac,ae,I am,I ao,ag,.map (some ap)] 90,cMem encDm ap aE (zaa ak av aw ax am ao ay),cBlk ah (encB (List.replicate 12 false)) 103,cBlk aq [aa,ab,ac,ae,I ai,I aj,ag] 40] R) [(0,true),(1,true),(2,true),(3,false),(4,true)] mixed (by decide +kernel) rfl ?_;intro ch aB;replace H:=H.ext aB;clear aB
  refine ⟨(H.pk [0,1,2,4]),?_⟩
  refine d_q rfl (fun w' H=>x_ld (v:=.agg (encB (List.replicate 12 false)).toArray) rfl (ldArrA Ag103 Sz103 aD (H.bl 2))) ?_;refine kg 2 ?_;refine d_l rfl ?_;refine t_stArrA (k:=3) (b:=al) (l:=List.replicate 12 false) (l':=List.replicate 12 false) (L':=[cBlk az [aa,ab,ac,ae,I am,I ao,ag,.map (some ap)] 90,cMem encDm ap aE (zaa ak av aw ax am ao ay),cBlk ah (encB (List.replicate 12 false)) 103,cBlk al (encB (List.replicate 12 false)) 103,cBlk aq [aa,ab,ac,ae,I ai,I aj,ag] 40]) H rfl rfl rfl Sz103 aL aD rfl ?_;intro ci H
  refine s_nil ⟨(H.pk [0,1,2,4]),?_⟩
  refine kg 2 ?_;replace H:=H.pk [3];refine W.ret ?_
  have bJ:=(H.bl 0)
  have aA:=M.e_pure hM
  exact ⟨_,(resE_ofn (vs:=[.pointer none,.agg (encB (List.replicate 12 false)).toArray,I e2]) rfl rfl (.tmp (v:=.pointer none) rfl<|.cell (v:=.agg (encB (List.replicate 12 false)).toArray) rfl (run_loadVar_arr Ag103 Sz103 aD bJ)<|.tmp (v:=I e2) rfl<|.nil)),.inl (⟨(List.replicate 12 false),e2,aA,rfl,(H.pk []),aD⟩)⟩
 replace hM:=M.e_f hM aH
 replace aH:=dI aH
 have cj:=(aK).len_le
 refine kg 9 ?_;obtain ⟨bK,aS,bL⟩:=M.e_bind hM
 obtain ⟨bB,aS⟩:=M.e_iter aS
 refine W.loop (fun m σ W=>∃ (ar:List Bool) (s:Nat) (ρ:Env),σ=upds ρ [(5,Pq al),(7,Pq ah),(8,Pq az),(31,aC),(32,I (watches.length:Int)),(33,I (s:Int))]/\M.iterN (zcl watches) m (ar,s)=some bK/\St w W [cBlk az [aa,ab,ac,ae,I am,I ao,ag,.map (some ap)] 90,cMem encDm ap aE (zaa ak av aw ax am ao ay),cBlk ah (encB ar) 103,cBlk al (encB (List.replicate 12 false)) 103,cBlk aq [aa,ab,ac,ae,I ai,I aj,ag] 40] R/\ar.length=12) ?_ ?_
 ·exact ⟨_,List.replicate 12 false,0,_,upds_of _ _ ⟨rfl,rfl,rfl,rfl,rfl,rfl,trivial⟩,aS,H,aD⟩
 rintro ck σ cl ⟨ar,s,ρ,rfl,bb,H,au⟩
 obtain ⟨bM,bN,cm,hM,bc⟩:=M.e_iterN bb
 simp only [zcl] at hM
 clear bb;refine kg 5 ?_
 refine W.cond (decide ((s:Int)<(watches.length:Int))) rfl (fun aI=>?_) (fun aI=>?_)
 ·replace hM:=M.e_t hM aI
  replace aI:=dI aI
  obtain ⟨cn,hM⟩:=M.e_gd hM;obtain ⟨co,hM⟩:=M.e_gd hM;refine kg 11 ?_;refine s_val (x_ix (v:=.pointer (some ⟨ah,0+Int.toNat (watches.getD s 0),none⟩)) rfl rfl (run_indexArr Tryz.underlying103 Sz4 (by omega) (by omega))) ?_;refine t_stArr (k:=2) (b:=ah) (l:=ar) (l':=ar.set (Int.toNat (watches.getD s 0)) true) (i:=watches.getD s 0) (v:=true) (L':=[cBlk az [aa,ab,ac,ae,I am,I ao,ag,.map (some ap)] 90,cMem encDm ap aE (zaa ak av aw ax am ao ay),cBlk ah (encB (ar.set (Int.toNat (watches.getD s 0)) true)) 103,cBlk al (encB (List.replicate 12 false)) 103,cBlk aq [aa,ab,ac,ae,I ai,I aj,ag] 40]) H rfl rfl rfl Sz4 (by omega) (by have bE:=au; omega) rfl rfl ?_;intro cp H
  have bO:(ar.set (Int.toNat (watches.getD s 0)) true).length=12:=List.length_set.trans au
  refine kg 5 ?_
  exact ⟨bM,bN,ar.set (Int.toNat (watches.getD s 0)) true,s+1,_,upds_of _ _ ⟨rfl,rfl,rfl,rfl,rfl,rfl,trivial⟩,M.e_inl hM bc,H,bO⟩
 replace hM:=M.e_f hM aI
 replace aI:=dI aI
 refine W.exit ?_
 have bP:=M.e_inr hM bc
 subst bP;replace hM:=bL;(try dsimp only at hM);refine W.seq ?_;refine W.draw (fun W=>St w W [cBlk az [aa,ab,ac,ae,I am,I ao,ag,.map (some ap)] 90,cMem encDm ap aE (zaa ak av aw ax am ao ay),cBlk ah (encB ar) 103,cBlk aq [aa,ab,ac,ae,I ai,I aj,ag] 40] R) [(0,true),(1,true),(2,true),(3,false),(4,true)] mixed (by decide +kernel) rfl ?_;intro cq aB;replace H:=H.ext aB;clear aB
 refine ⟨(H.pk [0,1,2,4]),?_⟩
 refine kg 1 ?_;refine d_q rfl (fun w' H=>x_ld (v:=.agg (encB ar).toArray) rfl (ldArrA Ag103 Sz103 au (H.bl 2))) ?_;refine kg 1 ?_;refine d_l rfl ?_;refine t_stArrA (k:=3) (b:=al) (l:=List.replicate 12 false) (l':=ar) (L':=[cBlk az [aa,ab,ac,ae,I am,I ao,ag,.map (some ap)] 90,cMem encDm ap aE (zaa ak av aw ax am ao ay),cBlk ah (encB ar) 103,cBlk al (encB ar) 103,cBlk aq [aa,ab,ac,ae,I ai,I aj,ag] 40]) H rfl rfl rfl Sz103 aL au rfl ?_;intro cr H
 refine s_nil ⟨(H.pk [0,1,2,4]),?_⟩
 refine kg 2 ?_;replace H:=H.pk [0,1,3];refine W.ret ?_
 have bQ:=(H.bl 2)
 have aA:=M.e_pure hM
 exact ⟨_,(resE_ofn (vs:=[Pq az,.agg (encB ar).toArray,I 0]) rfl rfl (.tmp (v:=Pq az) rfl<|.cell (v:=.agg (encB ar).toArray) rfl (run_loadVar_arr Ag103 Sz103 au bQ)<|.tmp (v:=I 0) rfl<|.nil)),.inr (⟨am,ao,ar,0,az,ap,aE,aA,rfl,(H.pk [0,1]),au⟩)⟩

def zbu (t:Town) (ab ae:Int) (ac:List Int) (aa:Int):M Bool :=
  M.grd ((!(t.station==ab)||(decide ((0:Int)<=aa)&&decide (aa<(ac.length:Int))))) <|
  M.pure ((t.station==ab)&&(decide (t.alarm<=(ac.getD (Int.toNat aa) 0))))
theorem zds {R:List Chunk} {ag:Nat} {ah:Nat} {ai:Cells} {aj:Value} {ak:Nat} (t:Town) (aa:Int) (al:Int) (ab:List Int) (ac:Int) (aq:Has R (cBlk ag [I aa] 3)) (au:Reads R ai) (av:Sl ai aj ab) (aw:Has R (cBlk ah [I al,aj] 99)) (ax:Has R (cBlk ak [I ac] 3)) {r:Bool} (hM:(zbu t aa al ab ac).Ends r) (w:World) (H:St w w [] R):Ret Tryz.prog 66 #[.agg #[I t.station,I t.lead,I t.alarm],Pq ag,Pq ah,Pq ak] w fun v w'=>∃ (y0:Bool),y0=r/\v=B y0/\St w w' [] R:=by
 refine ret_of_W Tryz.func66 rfl rfl rfl ?_;refine kg 2 ?_;refine t_bx [I t.station,I t.lead,I t.alarm] H rfl ?_;intro ao ay H;refine kg 3 ?_;refine W.draw (fun W=>St w W [cBlk ao [I t.station,I t.lead,I t.alarm] 44] R) [(0,true),(1,true),(2,true),(3,true),(4,true),(5,true),(6,true),(7,true),(8,true),(9,true),(10,true),(11,true),(12,true),(13,true),(14,true)] mixed (by decide +kernel) rfl ?_;intro az am;replace H:=H.ext am;clear am
 refine ⟨(H.pk [0]),?_⟩
 obtain ⟨ae,hM⟩:=M.e_grd hM
 replace ae:=M.imp_of ae
 simp only [Bool.and_eq_true,decide_eq_true_eq] at ae
 refine kg 16 ?_;refine W.ret ?_
 have ap:=M.e_pure hM
 exact ⟨_,resE_tmp rfl,⟨((t.station==aa)&&(decide (t.alarm<=(ab.getD (Int.toNat ac) 0)))),ap,rfl,(H.pk [])⟩⟩

def zaA (ab:List Town) (f:Flood) (p:List Bool):(Int × Int × Bool)->(Int × Int)->M ((Int × Int × Bool) ⊕ Unit):=fun (s3,s4,s5) (x,x2) =>
  M.grd (decide ((0:Int)<=x2)&&decide (x2<(12:Int))) <|
  bif ((p.getD (Int.toNat x2) false)&&(s3==(-1))) then (
  M.grd (decide ((0:Int)<=x)&&decide (x<(f.stages.length:Int))) <|
  M.bind (zaU ab (fun aa=>zbu aa x2 f.spring f.stages x)) fun r2 =>
  bif r2 then (
  M.pure (.inl (x2,f.stages.getD (Int.toNat x) 0,true)))
  else (
  M.pure (.inl (x2,f.stages.getD (Int.toNat x) 0,s5))))
  else (
  M.bind (zaU ab (fun aa=>zbu aa x2 f.spring f.stages x)) fun r2 =>
  bif r2 then (
  M.pure (.inl (s3,s4,true)))
  else (
  M.pure (.inl (s3,s4,s5))))
def zaF (ab:List Int) (ac:List Span) (ae:List Int) (aa:List Town) (ah ai:Int) (ag:List Flood) (f:Flood) (p:List Bool):M (Int × Int × Bool) :=
  M.bind (zao ab ac ae aa ah ai ag f.spring) fun (aj,ak,al) =>
  M.bind (zak (M.yl (zaA aa f p)) (.inl (-1,0,false)) aj ab ac ae aa ak al ag) fun x_=>match x_ with
  | (.inl (s3,s4,s5),q0)=>(
  M.pure (s3,s4,s5))
  | (.inr _,_)=>M.fail
theorem za7 {R:List Chunk} {ak:Nat} {bo:Cells} {ac:Value} {bp:Cells} {ae:Value} {br:Cells} {ag:Value} {bt:Cells} {aa:Value} {bu:Cells} {ah:Value} {bx:Nat} {bv:Cells} {al:Value} (aI:List Int) (aJ:List Span) (aK:List Int) (am:List Town) (aB:Int) (aC:Int) (aL:List Flood) (f:Flood) (p:List Bool) (aM:Reads R bo) (aV:Sl bo ac aI) (aN:Reads R bp) (aW:Sl bp ae aJ) (aO:Reads R br) (aX:Sl br ag aK) (aD:Reads R bt) (aE:Sl bt aa am) (aP:Reads R bu) (aY:Sl bu ah aL) (aZ:Has R (cBlk ak [ac,ae,ag,aa,I aB,I aC,ah,.map (some bx)] 90)) (aQ:Reads R bv) (a6:Sl bv al f.stages) (bz:p.length=12) {r:(Int × Int × Bool)} (hM:(zaF aI aJ aK am aB aC aL f p).Ends r) (w:World) (H:St w w [] R):Ret Tryz.prog 39 #[Pq ak,.agg #[I f.spring,al],.agg (encB p).toArray] w fun v w'=>∃ (y0:Int) (y1:Int) (y2:Bool),(y0,y1,y2)=r/\v = .agg #[I y0,I y1,B y2]/\St w w' [] R:=by
 refine ret_of_WD Tryz.func39 rfl rfl rfl ?_
 replace H:St w w [cMk ([])] R:=H.mk0
 have bP:=aV.len_le
 have bQ:=aW.len_le
 have bR:=aX.len_le
 have bS:=aE.len_le
 have bT:=aY.len_le
 have bU:=a6.len_le
 unfold zaF at hM
 refine WD.seq<|WD.of<|W.region rfl ?_;refine t_b1 (Pq ak) H rfl rfl ?_;intro av bV H;refine t_bx [I f.spring,al] H rfl ?_;intro ab bW H;refine t_box (v:=.agg (encB p).toArray) (cs:=encB p) H rfl rfl ?_;intro ap bX H;refine t_alloc (cs:=[I 0,I 0,B false]) H Al108 rfl ?_;intro aw bY H;refine s_nil<|WD.seq<|WD.of<|W.region rfl<|s_val (x_bld (ps:=[(0,I (-1))]) (zs:=[I 0,I 0,B false]) (L':=[I (-1),I 0,B false]) rfl Tryz.underlying108 Al108 rfl (Bd108 Tryz.underlying108) (.cons (cs:=[I (-1)]) rfl rfl rfl rfl rfl<|.nil)) ?_;refine t_alloc (cs:=[I 0,I 0,B false]) H Al108 rfl ?_;intro ai bZ H;refine t_sw 0 0 [I (-1),I 0,B false] (.agg #[I (-1),I 0,B false]) H rfl rfl Sz108 rfl rfl rfl rfl ?_;intro b3 H;refine s_nil<|WD.seq<|WD.seq<|WD.of ?_;refine W.draw (fun W=>St w W [cBlk ai [I (-1),I 0,B false] 108,cBlk aw [I 0,I 0,B false] 108,cBlk ap (encB p) 103,cBlk ab [I f.spring,al] 99,cBlk av [Pq ak] 62,cMk ([])] R) [(0,true),(1,true),(2,true),(3,true),(4,true),(5,true),(6,false)] mixed (by decide +kernel) rfl ?_;intro b4 aF;replace H:=H.ext aF;clear aF
 refine ⟨(H.pk [0,1,2,3,4,5]),?_⟩
 refine kg 3 ?_;refine d_q rfl (fun w' H=>x_ld (v:=.agg #[ac,ae,ag,aa,I aB,I aC,ah]) rfl (ldb_ag (ds:=[ac,ae,ag,aa,I aB,I aC,ah]) Ag40 Sz40 (aZ.blk H) rfl rfl)) ?_;refine kg 2 ?_;refine d_l rfl ?_;obtain ⟨b6,bA,hM⟩:=M.e_bind hM;refine s_call cf34 [.agg #[ac,ae,ag,aa,I aB,I aC,ah],I f.spring] rfl (zaQ aI aJ aK am aB aC aL f.spring (aM.app _) aV (aN.app _) aW (aO.app _) aX (aD.app _) aE (aP.app _) aY bA _ (H.gt 6)) ?_
 rintro vq b7 ⟨aR,ax,ay,aG,az,rfl,hvq,aj⟩
 subst vq;(try dsimp only at hM);replace H:=H.bk aj;clear aj
 refine s_nil ⟨(H.pk [2,3,4,5,6,7]),?_⟩
 refine d_nil<|WD.block ?_;obtain ⟨b8,bB,hM⟩:=M.e_bind hM;refine WD.range (L:=[cBlk ai [I (-1),I 0,B false] 108,cBlk az [ac,ae,ag,aa,I ax,I ay,ah] 40,cBlk aw [I 0,I 0,B false] 108,cBlk ap (encB p) 103,cBlk ab [I f.spring,al] 99,cBlk av [Pq ak] 62,cBlk aG [I aR] 3]) [Pq aG,Pq az] (H.pk [7,2,1,3,4,5,6,0]) rfl cf57 ?_;intro aS aT a7 bC a8 H
 have hYC:YieldC Tryz.prog ([cMk (aT :: ([])),cBlk az [ac,ae,ag,aa,I ax,I ay,ah] 40,cBlk aw [I 0,I 0,B false] 108,cBlk ap (encB p) 103,cBlk ab [I f.spring,al] 99,cBlk av [Pq ak] 62]++R) arII (yJ aS a7 (fun (s3,s4,s5) aU=>aU=[cBlk ai [I s3,I s4,B s5] 108]) (fun (_:Unit) _=>False) (fun _=>.ret)) (.func (.yield aS) #[] #[]) (M.yl (zaA am f p)):=by
  refine YieldC.mk2 a8 (fun (s3,s4,s5) aU=>aU=[cBlk ai [I s3,I s4,B s5] 108]) (fun (_:Unit) _=>False) (fun _=>.ret) (zaA am f p) (by rintro ⟨s3,s4,s5⟩ _ h_; obtain ⟨rfl⟩:=h_; rfl) (fun _ _ h_=>h_.elim) rfl (arII_len rfl) ?_;intro C_ b9 x_ bD
  obtain ⟨x,x2⟩:=x_
  obtain rfl:=bD
  intro w R ao aU s_ r bE hM H
  obtain ⟨s3,s4,s5⟩:=s_
  obtain ⟨rfl⟩:=bE
  replace H:=H.nf;refine kg 2 ?_;refine t_alloc (cs:=[I 0]) H Al3 rfl ?_;intro aq ca H;refine t_sw 0 0 [I x] (I x) H rfl rfl Sz3 rfl rfl rfl rfl ?_;intro cb H;refine kg 2 ?_;refine t_alloc (cs:=[I 0]) H Al3 rfl ?_;intro au cc H;refine t_sw 0 0 [I x2] (I x2) H rfl rfl Sz3 rfl rfl rfl rfl ?_;intro cd H;refine s_nil ?_
  refine ⟨rfl,[cBlk au [I x2] 3,cBlk aq [I x] 3],H.pick [0,1,2,3,4,5,6,7,8] (by decide) rfl,?_⟩
  clear H ao
  intro w R ao H
  replace aM:=aM.sub ao
  replace aN:=aN.sub ao
  replace aO:=aO.sub ao
  replace aD:=aD.sub ao
  replace aP:=aP.sub ao
  replace aZ:=aZ.sub ao
  replace aQ:=aQ.sub ao
  replace hM:(zaA am f p (s3,s4,s5) (x,x2)).Ends r:=hM
  simp only [zaA] at hM
  replace H:=H.nf;obtain ⟨ce,hM⟩:=M.e_gd hM;refine kg 5 ?_;refine s_val (x_ix (v:=.pointer (some ⟨ap,0+Int.toNat x2,none⟩)) rfl rfl (run_indexArr Tryz.underlying103 Sz4 (by omega) (by omega)))<|s_val (x_ld (v:=B (p.getD (Int.toNat x2) false)) rfl (ldArr Sc4 (H.bl 6) (by omega) (by have cf:=bz; omega))) ?_;refine kg 6 ?_
  refine W.cond ((p.getD (Int.toNat x2) false)&&(s3==(-1))) rfl (fun ba=>?_) (fun ba=>?_)
  ·replace hM:=M.e_t hM ba;refine W.draw (fun W=>St w W [cBlk au [I x2] 3,cBlk aq [I x] 3,cMk (aT :: ([])),cBlk az [ac,ae,ag,aa,I ax,I ay,ah] 40,cBlk aw [I 0,I 0,B false] 108,cBlk ap (encB p) 103,cBlk ab [I f.spring,al] 99,cBlk av [Pq ak] 62] R) [(0,true),(1,true),(2,true),(3,true),(4,true),(5,true),(6,true),(7,false),(8,true),(9,false)] mixed (by decide +kernel) rfl ?_;intro cg aF;replace H:=H.ext aF;clear aF
   refine ⟨(H.pk [0,1,3,4,5,6,7,8]),?_⟩
   obtain ⟨ch,hM⟩:=M.e_gd hM;refine kg 7 ?_;refine d_l rfl ?_;refine t_sw 2 0 [I x2] (I x2) H rfl rfl Sz3 rfl rfl rfl rfl ?_;intro ci H
   refine s_nil ⟨(H.pk [0,1,3,4,5,6,7,8]),?_⟩
   refine kg 1 ?_;refine d_l rfl ?_;refine t_sw 2 1 [I (f.stages.getD (Int.toNat x) 0)] (I (f.stages.getD (Int.toNat x) 0)) H rfl rfl Sz3 rfl rfl rfl rfl ?_;intro cj H
   refine s_nil ⟨(H.pk [0,1,3,4,5,6,7,8]),?_⟩
   refine kg 8 ?_;refine s_val (x_mf (fs:=[]) (cs:=[Pq au,Pq ab,Pq aq]) rfl rfl) ?_;obtain ⟨ck,bF,hM⟩:=M.e_bind hM;refine s_call cf65 [aa,.func (.func 66) #[] #[Pq au,Pq ab,Pq aq]] rfl (zcz am (fun aA=>zbu aA x2 f.spring f.stages x) (aD.app _) aE ⟨66,[Pq au,Pq ab,Pq aq],rfl,cf66,fun aH bG bH bb aA bI bc bJ bf bg=>by obtain rfl:=Town_arg bf; exact (zds aA x2 f.spring f.stages x (Has.app (Has.here (k:=0) rfl) _) (Reads.app (aQ.app _) _) a6 (Has.app (Has.here (k:=7) rfl) _) (Has.app (Has.here (k:=1) rfl) _) bg aH (St.refl bc)).mono fun bb aH ⟨bK,bh,bi,bj⟩=>by subst bh; exact ⟨bi,bj⟩⟩ bF _ (H.gt 9)) ?_
   rintro vq cl ⟨r2,rfl,hvq,aj⟩
   subst vq;(try dsimp only at hM);replace H:=H.bk aj;clear aj;refine s_nil ?_
   refine W.cond r2 rfl (fun bm=>?_) (fun bm=>?_)
   ·replace hM:=M.e_t hM bm;refine kg 2 ?_;refine t_sw 2 2 [B true] (B true) H rfl rfl Sz4 rfl rfl rfl rfl ?_;intro cm H;refine s_nil ?_
    exact ⟨(x2,f.stages.getD (Int.toNat x) 0,true),[cBlk ai [I x2,I (f.stages.getD (Int.toNat x) 0),B true] 108],(M.e_pure hM).symm,rfl,H.pick [2,3,4,5,6,7,8] (by decide) rfl⟩
   replace hM:=M.e_f hM bm;refine W.skip ?_
   exact ⟨(x2,f.stages.getD (Int.toNat x) 0,s5),[cBlk ai [I x2,I (f.stages.getD (Int.toNat x) 0),B s5] 108],(M.e_pure hM).symm,rfl,H.pick [2,3,4,5,6,7,8] (by decide) rfl⟩
  replace hM:=M.e_f hM ba;refine kg 8 ?_;refine s_val (x_mf (fs:=[]) (cs:=[Pq au,Pq ab,Pq aq]) rfl rfl) ?_;obtain ⟨cn,bL,hM⟩:=M.e_bind hM;refine s_call cf65 [aa,.func (.func 66) #[] #[Pq au,Pq ab,Pq aq]] rfl (zcz am (fun aA=>zbu aA x2 f.spring f.stages x) (aD.app _) aE ⟨66,[Pq au,Pq ab,Pq aq],rfl,cf66,fun aH bG bH bb aA bI bc bJ bf bg=>by obtain rfl:=Town_arg bf; exact (zds aA x2 f.spring f.stages x (Has.app (Has.here (k:=0) rfl) _) (Reads.app (aQ.app _) _) a6 (Has.app (Has.here (k:=7) rfl) _) (Has.app (Has.here (k:=1) rfl) _) bg aH (St.refl bc)).mono fun bb aH ⟨bK,bh,bi,bj⟩=>by subst bh; exact ⟨bi,bj⟩⟩ bL _ (H.gt 9)) ?_
  rintro vq co ⟨r2,rfl,hvq,aj⟩
  subst vq;(try dsimp only at hM);replace H:=H.bk aj;clear aj;refine s_nil ?_
  refine W.cond r2 rfl (fun bn=>?_) (fun bn=>?_)
  ·replace hM:=M.e_t hM bn;refine kg 2 ?_;refine t_sw 2 2 [B true] (B true) H rfl rfl Sz4 rfl rfl rfl rfl ?_;intro cp H;refine s_nil ?_
   exact ⟨(s3,s4,true),[cBlk ai [I s3,I s4,B true] 108],(M.e_pure hM).symm,rfl,H.pick [2,3,4,5,6,7,8] (by decide) rfl⟩
  replace hM:=M.e_f hM bn;refine W.skip ?_
  exact ⟨(s3,s4,s5),[cBlk ai [I s3,I s4,B s5] 108],(M.e_pure hM).symm,rfl,H.pick [2,3,4,5,6,7,8] (by decide) rfl⟩
 replace H:St w bC (cAll (cObj aS (.loop a7) :: [cBlk ai [I (-1),I 0,B false] 108]) :: [cBlk aG [I aR] 3,cMk (aT :: ([])),cBlk az [ac,ae,ag,aa,I ax,I ay,ah] 40,cBlk aw [I 0,I 0,B false] 108,cBlk ap (encB p) 103,cBlk ab [I f.spring,al] 99,cBlk av [Pq ak] 62]) R:=St.bundleB (A:=cObj aS (.loop a7) :: [cBlk ai [I (-1),I 0,B false] 108]) (T:=[cBlk aG [I aR] 3,cMk (aT :: ([])),cBlk az [ac,ae,ag,aa,I ax,I ay,ah] 40,cBlk aw [I 0,I 0,B false] 108,cBlk ap (encB p) 103,cBlk ab [I f.spring,al] 99,cBlk av [Pq ak] 62]) rfl (H.pk [0,2,8,1,3,4,5,6,7])
 refine (zbb (M.yl (zaA am f p)) (.inl (-1,0,false)) aR aI aJ aK am ax ay aL hYC ⟨_,rfl,rfl⟩ (aM.app _) aV (aN.app _) aW (aO.app _) aX (aD.app _) aE (aP.app _) aY (Has.here (k:=1) rfl) bB _ (H.gt 6)).mono ?_
 rintro vq cq ⟨bM,q0,cr,rfl,hvq,aj,bw⟩
 replace H:=H.back aj rfl
 clear aj hYC
 rcases bM with ⟨s3,s4,s5⟩ | _
 ·(try dsimp only at hM)
  obtain ⟨_,rfl,rfl⟩:=bw
  refine ⟨_,[cBlk ai [I s3,I s4,B s5] 108,cBlk az [ac,ae,ag,aa,I ax,I ay,ah] 40,cBlk aw [I 0,I 0,B false] 108,cBlk ap (encB p) 103,cBlk ab [I f.spring,al] 99,cBlk av [Pq ak] 62,cBlk aG [I q0] 3],H.unbundle.pick [0,3,1,4,5,6,7,8,2] (by decide) rfl,a8.nb,?_⟩
  intro ct H
  rw [a8.pd]
  replace H:=H.nf
  try simp only []
  replace H:=H.pk [0,1,3];refine WD.seq<|WD.of ?_;refine kg 2 ?_;refine t_sw 2 0 [I s3,I s4,B s5] (.agg #[I s3,I s4,B s5]) H rfl rfl Sz108 rfl rfl rfl rfl ?_;intro cu H;refine s_nil<|WD.of ?_;refine W.ret ?_;refine bodyD_r (H.pk [0,1,2]) ?_;intro cv H;replace H:=H.nf
  have bN:=(H.bl 1)
  have bO:=M.e_pure hM
  exact ⟨_,(resE_of1 (v:=.agg #[I s3,I s4,B s5]) rfl (.cell (v:=.agg #[I s3,I s4,B s5]) rfl (run_loadVar_ag (ds:=[I s3,I s4,B s5]) Ag108 Sz108 bN rfl rfl)<|.nil)),⟨s3,s4,s5,bO,rfl,(H.pk [])⟩⟩
 obtain ⟨_,_,h_⟩:=bw; exact h_.elim

def zdo (x:Rpt) (aa:Int):M Bool :=
  M.pure (x.danger&&(x.watch==aa))
theorem zeh {R:List Chunk} {ab:Nat} (x:Rpt) (aa:Int) (ae:Has R (cBlk ab [I aa] 3)) {r:Bool} (hM:(zdo x aa).Ends r) (w:World) (H:St w w [] R):Ret Tryz.prog 38 #[.agg #[I x.watch,I x.stage,B x.danger],Pq ab] w fun v w'=>∃ (y0:Bool),y0=r/\v=B y0/\St w w' [] R:=by
 refine ret_of_W Tryz.func38 rfl rfl rfl ?_;refine kg 2 ?_;refine t_bx [I x.watch,I x.stage,B x.danger] H rfl ?_;intro ag ah H;refine kg 14 ?_;refine W.ret ?_
 have ac:=M.e_pure hM
 exact ⟨_,resE_tmp rfl,⟨(x.danger&&(x.watch==aa)),ac,rfl,(H.pk [])⟩⟩

def zcN (ab:List Int) (ac:List Span) (ae:List Int) (ag:List Town) (ah ai:Int) (aa:List Flood) (p:List Bool) (aj:Int):(Nat × (List Int))->M ((Nat × (List Int)) ⊕ ((List Int) × (List Int))):=fun (s,l) =>
  bif decide ((s:Int)<(aa.length:Int)) then (
  M.grd (decide ((s:Int)<(aa.length:Int))) <|
  M.bind (zaF ab ac ae ag ah ai aa (aa.getD s default) p) fun (r0,r1,r2) =>
  M.bind (zdo (⟨(r0:Int),(r1:Int),r2⟩:Rpt) aj) fun r3 =>
  bif r3 then (
  M.grd (decide ((l.length+([(s:Int)]).length)*8<=140737488355328)) <|
  M.pure (.inl (s+1,l++([(s:Int)]))))
  else (
  M.pure (.inl (s+1,l))))
  else (
  M.pure (.inr (l,l)))
def zc3 (aa:List Int) (ab:List Span) (ac:List Int) (ae:List Town) (ag ah:Int) (ai:List Flood) (p:List Bool) (aj:Int):M (List Int) :=
  M.bind (M.iter (zcN aa ab ac ae ag ah ai p aj) (0,[])) fun (l2,l3) =>
  M.pure l3
theorem zer {R:List Chunk} {aj:Nat} {aD:Cells} {aE:Value} {aF:Cells} {aG:Value} {aH:Cells} {aI:Value} {aJ:Cells} {aK:Value} {aL:Cells} {av:Value} {aR:Nat} {ag:Nat} (ak:List Int) (al:List Span) (am:List Int) (ao:List Town) (ap:Int) (aq:Int) (aa:List Flood) (p:List Bool) (au:Int) (aS:Reads R aD) (aT:Sl aD aE ak) (aU:Reads R aF) (aV:Sl aF aG al) (aW:Reads R aH) (aX:Sl aH aI am) (aY:Reads R aJ) (aZ:Sl aJ aK ao) (aw:Reads R aL) (ax:Sl aL av aa) (a6:Has R (cBlk aj [aE,aG,aI,aK,I ap,I aq,av,.map (some aR)] 90)) (aM:p.length=12) (a7:Has R (cBlk ag [I au] 3)) {r:(List Int)} (hM:(zc3 ak al am ao ap aq aa p au).Ends r) (w:World) (H:St w w [] R):Ret Tryz.prog 37 #[Pq aj,.agg (encB p).toArray,.agg #[.func (.func 38) #[] #[Pq ag]]] w fun v w'=>∃ (y0:List Int) (u0:Value),y0=r/\v=u0/\St w w' [cOwn (α:=Int) 3 u0 y0] R:=by
 refine ret_of_W Tryz.func37 rfl rfl rfl ?_;refine kg 2 ?_;refine t_box (v:=.agg (encB p).toArray) (cs:=encB p) H rfl rfl ?_;intro ay bn H;refine t_bx [.func (.func 38) #[] #[Pq ag]] H rfl ?_;intro az bo H
 have bp:=(ax).len_le
 refine kg 18 ?_
 replace H:=H.nilOwn (α:=Int) 3
 obtain ⟨a8,aA,ba⟩:=M.e_bind hM
 obtain ⟨br,aA⟩:=M.e_iter aA
 refine W.loop (fun m σ W=>∃ (s:Nat) (l:List Int) (ac:Value) (ρ:Env),σ=upds ρ [(0,Pq aj),(4,Pq ay),(5,Pq az),(7,ac),(14,av),(15,I (aa.length:Int)),(16,I (s:Int))]/\M.iterN (zcN ak al am ao ap aq aa p au) m (s,l)=some a8/\St w W [cOwn (α:=Int) 3 ac l,cBlk az [.func (.func 38) #[] #[Pq ag]] 111,cBlk ay (encB p) 103] R) ?_ ?_
 ·exact ⟨_,0,[],(.slice none 0 0),_,upds_of _ _ ⟨rfl,rfl,rfl,rfl,rfl,rfl,rfl,trivial⟩,aA,H⟩
 rintro bt σ bu ⟨s,l,ac,ρ,rfl,aN,H⟩
 obtain ⟨aO,aP,bv,hM,aB⟩:=M.e_iterN aN
 simp only [zcN] at hM
 clear aN;refine kg 5 ?_
 refine W.cond (decide ((s:Int)<(aa.length:Int))) rfl (fun ab=>?_) (fun ab=>?_)
 ·replace hM:=M.e_t hM ab
  replace ab:=dI ab
  obtain ⟨bw,hM⟩:=M.e_gd hM;refine kg 7 ?_
  obtain ⟨ae,bb,ah⟩:=Flood_atA ax (i:=(s:Int)) (by omega) (by omega)
  replace ah:Sl _ ae (aa.getD s default).stages:=ah
  have bx:=ah.len_le
  refine s_val (x_ld (v:=.agg #[I ((aa.getD s default).spring),ae]) rfl (ld_ag Ag99 Sz99 (At.mono bb (aw.at H)))) ?_;refine t_alloc (cs:=[I 0,.slice none 0 0]) H Al99 rfl ?_;intro bc bz H;refine kg 1 ?_;refine t_sw 0 0 [I ((aa.getD s default).spring),ae] (.agg #[I ((aa.getD s default).spring),ae]) H rfl rfl Sz99 rfl rfl rfl (by simp only [List.all_cons,List.all_nil,Bool.true_and,Bool.and_true,Sl.oc ah]; try rfl) ?_;intro bA H;refine kg 2 ?_;refine W.draw (fun W=>St w W [cBlk bc [I ((aa.getD s default).spring),ae] 99,cOwn (α:=Int) 3 ac l,cBlk az [.func (.func 38) #[] #[Pq ag]] 111,cBlk ay (encB p) 103] R) [(0,true),(1,true),(2,true),(3,true),(4,true),(5,false),(6,false)] mixed (by decide +kernel) rfl ?_;intro bB aQ;replace H:=H.ext aQ;clear aQ
  refine ⟨(H.pk [0,1,2,3]),?_⟩
  refine kg 4 ?_;refine d_q rfl (fun w' H=>x_ld (v:=.agg (encB p).toArray) rfl (ldArrA Ag103 Sz103 aM (H.bl 3)))<|d_l rfl ?_;obtain ⟨bC,bf,hM⟩:=M.e_bind hM;refine s_call cf39 [Pq aj,.agg #[I ((aa.getD s default).spring),ae],.agg (encB p).toArray] rfl (za7 ak al am ao ap aq aa (aa.getD s default) p (aS.app _) aT (aU.app _) aV (aW.app _) aX (aY.app _) aZ (aw.app _) ax (a6.app _) (aw.app _) ah aM bf _ (H.gt 4)) ?_
  rintro vq bD ⟨r0,r1,r2,rfl,hvq,ai⟩
  subst vq;(try dsimp only at hM);replace H:=H.bk ai;clear ai
  refine s_nil ⟨(H.pk [0,1,2,3]),?_⟩
  refine d_l rfl ?_;obtain ⟨bE,bg,hM⟩:=M.e_bind hM;refine s_callv (f:=38) rfl cf38 [.agg #[I r0,I r1,B r2]] rfl (zeh (⟨(r0:Int),(r1:Int),r2⟩:Rpt) au (a7.app _) bg _ (H.gt 4)) ?_
  rintro vq bF ⟨r3,rfl,hvq,ai⟩
  subst vq;(try dsimp only at hM);replace H:=H.bk ai;clear ai
  refine s_nil ⟨(H.pk [0,1,2,3]),?_⟩
  refine d_nil ?_
  refine W.cond r3 rfl (fun aC=>?_) (fun aC=>?_)
  ·replace hM:=M.e_t hM aC;refine kg 3 ?_;refine t_bs (α:=Int) T29 [I (s:Int)] [(s:Int)] H rfl (.cons rfl (Flat.rep_enc _ (s:Int))<|.nil) rfl rfl rfl ?_;intro bh bG H;obtain ⟨bH,hM⟩:=M.e_gd hM;refine t_app (α:=Int) (k:=2) (l:=l) (l2:=[(s:Int)]) (l':=l++([(s:Int)])) (vy:=bh) T29 rfl H rfl rfl rfl (H.os 0) (H.ol 0) (rfl) (by first | omega | (simp only [List.length_nil] at *; omega)) ?_;intro bi bI H;replace H:=H.nf;refine kg 2 ?_;replace H:=H.pk [2,3,4];refine kg 4 ?_
   exact ⟨aO,aP,s+1,l++([(s:Int)]),bi,_,upds_of _ _ ⟨rfl,rfl,rfl,rfl,rfl,rfl,rfl,trivial⟩,M.e_inl hM aB,H⟩
  replace hM:=M.e_f hM aC;refine kg 5 ?_
  exact ⟨aO,aP,s+1,l,ac,_,upds_of _ _ ⟨rfl,rfl,rfl,rfl,rfl,rfl,rfl,trivial⟩,M.e_inl hM aB,(H.pk [1,2,3])⟩
 replace hM:=M.e_f hM ab
 replace ab:=dI ab
 refine W.exit ?_
 have bj:=M.e_inr hM aB
 subst bj;replace hM:=ba;(try dsimp only at hM);replace H:=H.pk [0];refine kg 5 ?_;refine W.ret ?_
 have bm:=M.e_pure hM
 exact ⟨_,resE_tmp rfl,⟨l,ac,bm,rfl,H⟩⟩

end Go.Proofs.YtdmdhmineljlhabGreat
end
section
set_option maxRecDepth 100000
set_option maxHeartbeats 16000000
namespace Go.Proofs.YtdmdhmineljlhabGreat
open Go Go.Nm
attribute [local irreducible] gd execOp SL SLD SLT WR
def zcB (ae:List Int) (ag:List Span) (ah:List Int) (ai:List Town) (aa:List Flood) (aj ak:Int) (al:List Bool) (r3:List Int):(Int × Int × Nat)->M ((Int × Int × Nat) ⊕ (Int × Int)):=fun (ab,flood,s) =>
  bif decide ((s:Int)<(r3.length:Int)) then (
  M.grd (decide ((s:Int)<(r3.length:Int))) <|
  M.grd (decide ((0:Int)<=(r3.getD s 0))&&decide ((r3.getD s 0)<(aa.length:Int))) <|
  M.bind (zaF ae ag ah ai aj ak aa (aa.getD (Int.toNat (r3.getD s 0)) default) al) fun (r0,ac,am) =>
  bif decide (ac<ab) then (
  M.pure (.inl (ac,r3.getD s 0,s+1)))
  else (
  M.pure (.inl (ab,flood,s+1))))
  else (
  M.pure (.inr (ab,flood)))
def zcx (aa:List Int) (ab:List Span) (ac:List Int) (ae:List Town) (ag:List Flood) (watches:List Int) (ah ai:Int) (aj:List Bool):(Nat × (List Int) × (List Int))->M ((Nat × (List Int) × (List Int)) ⊕ ((List Int) × (List Int) × (List Int) × (List Int))):=fun (s2,l,l2) =>
  bif decide ((s2:Int)<(watches.length:Int)) then (
  M.grd (decide ((s2:Int)<(watches.length:Int))) <|
  M.bind (zc3 aa ab ac ae ah ai ag aj (watches.getD s2 0)) fun r3 =>
  M.bind (M.iter (zcB aa ab ac ae ag ah ai aj r3) (2001,-1,0)) fun (ak,flood2) =>
  M.grd (decide ((l.length+([(ak:Int)]).length)*8<=140737488355328)) <|
  M.grd (decide ((l2.length+([(flood2:Int)]).length)*8<=140737488355328)) <|
  M.pure (.inl (s2+1,l++([(ak:Int)]),l2++([(flood2:Int)]))))
  else (
  M.pure (.inr (l,l2,l2,l)))
def zcw (aa:List Int) (ab:List Span) (ac:List Int) (ae:List Town) (ah ai:Int) (ag:List Flood) (watches:List Int):M ((List Int) × (List Int) × Int) :=
  M.bind (zcJ aa ab ac ae ah ai ag watches) fun x_=>match x_ with
  | (.inl (r1,r2))=>(
  bif r2 != 0 then (
  M.pure (([]),([]),r2))
  else (
  M.fail))
  | (.inr (aj,ak,al,am))=>(
  bif am != 0 then (
  M.fail)
  else (
  M.bind (M.iter (zcx aa ab ac ae ag watches aj ak al) (0,[],[])) fun (l3,l4,l5,l6) =>
  M.pure (l6,l5,0)))
theorem zcX {R:List Chunk} {bi:Cells} {ae:Value} {bj:Cells} {ag:Value} {bm:Cells} {ah:Value} {bn:Cells} {ai:Value} {bo:Cells} {aj:Value} {bp:Cells} {aK:Value} (ao:List Int) (ap:List Span) (aq:List Int) (au:List Town) (av:Int) (aw:Int) (aa:List Flood) (watches:List Int) (aS:Reads R bi) (aT:Sl bi ae ao) (aU:Reads R bj) (aV:Sl bj ag ap) (aW:Reads R bm) (aX:Sl bm ah aq) (aY:Reads R bn) (aZ:Sl bn ai au) (aB:Reads R bo) (aL:Sl bo aj aa) (bx:Reads R bp) (br:Sl bp aK watches) {r:((List Int) × (List Int) × Int)} (hM:(zcw ao ap aq au av aw aa watches).Ends r) (w:World) (H:St w w [] R):Ret Tryz.prog 21 #[.agg #[ae,ag,ah,ai,I av,I aw,aj],aK] w fun v w'=>∃ (y0:List Int) (y1:List Int) (y2:Int) (u0:Value) (u1:Value),(y0,y1,y2)=r/\v = .tuple #[u0,u1,I y2]/\St w w' [cOwn (α:=Int) 3 u0 y0,cOwn (α:=Int) 3 u1 y1] R:=by
 refine ret_of_W Tryz.func21 rfl rfl rfl ?_;refine kg 2 ?_;refine t_bx [ae,ag,ah,ai,I av,I aw,aj] H rfl ?_;intro aM bW H;refine kg 8 ?_;obtain ⟨bX,bz,hM⟩:=M.e_bind hM;refine s_call cf36 [.agg #[ae,ag,ah,ai,I av,I aw,aj],aK] rfl (zdc ao ap aq au av aw aa watches (aS.app _) aT (aU.app _) aV (aW.app _) aX (aY.app _) aZ (aB.app _) aL (bx.app _) br bz _ (H.gt 1)) ?_
 rintro vq bY (⟨r1,r2,bA,hvq,ac,bB⟩ | ⟨ak,al,ab,bC,ay,aA,a6,bD,hvq,ac,aJ⟩)
 ·subst bA;subst vq;(try dsimp only at hM);replace H:=H.bk ac;clear ac;refine kg 4 ?_;refine t_alloc (cs:=encB (List.replicate 12 false)) H Al103 rfl ?_;intro ax bZ H
  have bb:(List.replicate 12 false).length=12:=by simp
  refine kg 1 ?_;refine t_stArrA (k:=0) (b:=ax) (l:=List.replicate 12 false) (l':=r1) (L':=[cBlk ax (encB r1) 103,cBlk aM [ae,ag,ah,ai,I av,I aw,aj] 40]) H rfl rfl rfl Sz103 bb bB rfl ?_;intro b3 H;refine kg 8 ?_
  refine W.cond (r2 != 0) rfl (fun aN=>?_) (fun aN=>?_)
  ·replace hM:=M.e_t hM aN
   replace aN:=dI aN
   refine kg 7 ?_;replace H:=H.pk [];refine W.ret ?_
   have bc:=M.e_pure hM
   replace H:=H.nilOwn (α:=Int) 3
   replace H:=H.nilOwn (α:=Int) 3
   exact ⟨_,resE_tmp3 rfl,⟨([]),([]),r2,(.slice none 0 0),(.slice none 0 0),bc,rfl,(H.pk [1,0])⟩⟩
  replace hM:=M.e_f hM aN
  exact (M.e_fail hM).elim
 subst bD;subst vq;(try dsimp only at hM);replace H:=H.bk ac;clear ac;refine kg 4 ?_;refine t_alloc (cs:=encB (List.replicate 12 false)) H Al103 rfl ?_;intro ax b4 H
 have bb:(List.replicate 12 false).length=12:=by simp
 refine kg 1 ?_;refine t_stArrA (k:=0) (b:=ax) (l:=List.replicate 12 false) (l':=ab) (L':=[cBlk ax (encB ab) 103,cBlk ay [ae,ag,ah,ai,I ak,I al,aj,.map (some aA)] 90,cMem encDm aA a6 (zaa ao ap aq au ak al aa),cBlk aM [ae,ag,ah,ai,I av,I aw,aj] 40]) H rfl rfl rfl Sz103 bb aJ rfl ?_;intro b6 H;refine kg 8 ?_
 refine W.cond (bC != 0) rfl (fun aO=>?_) (fun aO=>?_)
 ·replace hM:=M.e_t hM aO
  exact (M.e_fail hM).elim
 replace hM:=M.e_f hM aO
 replace aO:=dI aO
 have b7:=(br).len_le
 refine kg 9 ?_
 replace H:=H.nilOwn (α:=Int) 3
 replace H:=H.nilOwn (α:=Int) 3
 obtain ⟨bE,bf,bF⟩:=M.e_bind hM
 obtain ⟨bG,bf⟩:=M.e_iter bf
 refine W.loop (fun m σ W=>∃ (s2:Nat) (l:List Int) (l2:List Int) (aC:Value) (aD:Value) (ρ:Env),σ=upds ρ [(4,aC),(5,aD),(7,Pq ay),(8,Pq ax),(26,aK),(27,I (watches.length:Int)),(28,I (s2:Int))]/\M.iterN (zcx ao ap aq au aa watches ak al ab) m (s2,l,l2)=some bE/\St w W [cOwn (α:=Int) 3 aD l2,cOwn (α:=Int) 3 aC l,cBlk ax (encB ab) 103,cBlk ay [ae,ag,ah,ai,I ak,I al,aj,.map (some aA)] 90,cMem encDm aA a6 (zaa ao ap aq au ak al aa),cBlk aM [ae,ag,ah,ai,I av,I aw,aj] 40] R) ?_ ?_
 ·exact ⟨_,0,[],[],(.slice none 0 0),(.slice none 0 0),_,upds_of _ _ ⟨rfl,rfl,rfl,rfl,rfl,rfl,rfl,trivial⟩,bf,H⟩
 rintro b8 σ b9 ⟨s2,l,l2,aC,aD,ρ,rfl,bt,H⟩
 obtain ⟨bH,bI,ca,hM,bu⟩:=M.e_iterN bt
 simp only [zcx] at hM
 clear bt;refine kg 5 ?_
 refine W.cond (decide ((s2:Int)<(watches.length:Int))) rfl (fun aE=>?_) (fun aE=>?_)
 ·replace hM:=M.e_t hM aE
  replace aE:=dI aE
  obtain ⟨cb,hM⟩:=M.e_gd hM;refine kg 7 ?_;refine t_alloc (cs:=[I 0]) H Al3 rfl ?_;intro aF cc H;refine t_sw 0 0 [I (watches.getD s2 0)] (I (watches.getD s2 0)) H rfl rfl Sz3 rfl rfl rfl rfl ?_;intro cd H;refine kg 10 ?_;refine s_val (x_ld (v:=.agg (encB ab).toArray) rfl (ldArrA Ag103 Sz103 aJ (H.bl 3)))<|s_val (x_mf (fs:=[]) (cs:=[Pq aF]) rfl rfl)<|s_val (x_bld (ps:=[(0,.func (.func 38) #[] #[Pq aF])]) (zs:=[.nilFunc]) (L':=[.func (.func 38) #[] #[Pq aF]]) rfl Tryz.underlying111 Al111 rfl (Bd111 Tryz.underlying111) (.cons (cs:=[.func (.func 38) #[] #[Pq aF]]) rfl rfl rfl rfl rfl<|.nil)) ?_;obtain ⟨ce,bJ,hM⟩:=M.e_bind hM;refine s_call cf37 [Pq ay,.agg (encB ab).toArray,.agg #[.func (.func 38) #[] #[Pq aF]]] rfl (zer ao ap aq au ak al aa ab (watches.getD s2 0) (aS.app _) aT (aU.app _) aV (aW.app _) aX (aY.app _) aZ (aB.app _) aL (Has.here (k:=4) rfl) aJ (Has.here (k:=0) rfl) bJ _ (H.gt 7)) ?_
  rintro vq cf ⟨r3,bg,rfl,hvq,ac⟩
  subst vq;(try dsimp only at hM);replace H:=H.bk ac;clear ac
  have cg:=((H.os 0)).len_le
  refine kg 4 ?_;obtain ⟨bK,bh,bL⟩:=M.e_bind hM
  obtain ⟨bG,bh⟩:=M.e_iter bh
  refine W.loop (fun m σ W=>∃ (am:Int) (flood:Int) (s:Nat) (ρ:Env),σ=upds ρ [(4,aC),(5,aD),(7,Pq ay),(8,Pq ax),(11,I am),(12,I flood),(26,aK),(27,I (watches.length:Int)),(28,I (s2:Int)),(36,bg),(37,I (r3.length:Int)),(38,I (s:Int))]/\M.iterN (zcB ao ap aq au aa ak al ab r3) m (am,flood,s)=some bK/\St w W [cOwn (α:=Int) 3 bg r3,cBlk aF [I (watches.getD s2 0)] 3,cOwn (α:=Int) 3 aD l2,cOwn (α:=Int) 3 aC l,cBlk ax (encB ab) 103,cBlk ay [ae,ag,ah,ai,I ak,I al,aj,.map (some aA)] 90,cMem encDm aA a6 (zaa ao ap aq au ak al aa),cBlk aM [ae,ag,ah,ai,I av,I aw,aj] 40] R) ?_ ?_
  ·exact ⟨_,2001,-1,0,_,upds_of _ _ ⟨rfl,rfl,rfl,rfl,rfl,rfl,rfl,rfl,rfl,rfl,rfl,rfl,trivial⟩,bh,H⟩
  rintro ch σ ci ⟨am,flood,s,ρ,rfl,bv,H⟩
  obtain ⟨a7,a8,cj,hM,aP⟩:=M.e_iterN bv
  simp only [zcB] at hM
  clear bv;refine kg 5 ?_
  refine W.cond (decide ((s:Int)<(r3.length:Int))) rfl (fun aG=>?_) (fun aG=>?_)
  ·replace hM:=M.e_t hM aG
   replace aG:=dI aG
   obtain ⟨ck,hM⟩:=M.e_gd hM;refine kg 10 ?_;refine W.drawT (fun W=>St w W [cOwn (α:=Int) 3 bg r3,cBlk aF [I (watches.getD s2 0)] 3,cOwn (α:=Int) 3 aD l2,cOwn (α:=Int) 3 aC l,cBlk ax (encB ab) 103,cBlk ay [ae,ag,ah,ai,I ak,I al,aj,.map (some aA)] 90,cMem encDm aA a6 (zaa ao ap aq au ak al aa),cBlk aM [ae,ag,ah,ai,I av,I aw,aj] 40] R) (.q 0 (.q 1 (.q 2 (.q 3 (.q 4 (.q 5 (.q 6 (.q 7 (.q 8 (.q 9 (.l2 10 (.l 11 (.l 12 .nil)) 11 (.l 10 (.l 12 .nil))))))))))))) mixed (by decide +kernel) rfl ?_;intro cl bw;replace H:=H.ext bw;clear bw
   refine ⟨(H.pk [0,1,2,3,4,5,6,7]),?_⟩
   obtain ⟨cm,hM⟩:=M.e_gd hM;refine kg 8 ?_
   obtain ⟨ba,bM,aQ⟩:=Flood_atA aL (i:=r3.getD s 0) (by omega) (by omega)
   replace aQ:Sl _ ba (aa.getD (Int.toNat (r3.getD s 0)) default).stages:=aQ
   have cn:=aQ.len_le
   refine t_q rfl (fun w' H=>x_ld (v:=.agg #[I ((aa.getD (Int.toNat (r3.getD s 0)) default).spring),ba]) rfl (ld_ag Ag99 Sz99 (At.mono bM (aB.at H))))<|t_q rfl (fun w' H=>x_ld (v:=.agg (encB ab).toArray) rfl (ldArrA Ag103 Sz103 aJ (H.bl 4))) ?_;refine t_l2 rfl rfl ?_ ?_
   ·skip
    obtain ⟨co,bN,hM⟩:=M.e_bind hM;refine s_call cf39 [Pq ay,.agg #[I ((aa.getD (Int.toNat (r3.getD s 0)) default).spring),ba],.agg (encB ab).toArray] rfl (za7 ao ap aq au ak al aa (aa.getD (Int.toNat (r3.getD s 0)) default) ab (aS.app _) aT (aU.app _) aV (aW.app _) aX (aY.app _) aZ (aB.app _) aL (Has.here (k:=5) rfl) (aB.app _) aQ aJ bN _ (H.gt 8)) ?_
    rintro vq cp ⟨r0,az,aR,rfl,hvq,ac⟩
    subst vq;(try dsimp only at hM);replace H:=H.bk ac;clear ac
    refine s_nil ⟨(H.pk [0,1,2,3,4,5,6,7]),?_⟩
    refine t_l rfl ?_;refine t_alloc (cs:=[I 0,I 0,B false]) H Al108 rfl ?_;intro bO cq H
    refine s_nil ⟨(H.pk [1,2,3,4,5,6,7,8]),?_⟩
    refine t_l rfl ?_;refine t_sw 0 0 [I r0,I az,B aR] (.agg #[I r0,I az,B aR]) H rfl rfl Sz108 rfl rfl rfl rfl ?_;intro cr H
    refine s_nil ⟨(H.pk [1,2,3,4,5,6,7,8]),?_⟩
    refine kg 8 ?_
    refine W.cond (decide (az<am)) rfl (fun aH=>?_) (fun aH=>?_)
    ·replace hM:=M.e_t hM aH
     replace aH:=dI aH
     refine kg 11 ?_
     exact ⟨a7,a8,az,r3.getD s 0,s+1,_,upds_of _ _ ⟨rfl,rfl,rfl,rfl,rfl,rfl,rfl,rfl,rfl,rfl,rfl,rfl,trivial⟩,M.e_inl hM aP,(H.pk [1,2,3,4,5,6,7,8])⟩
    replace hM:=M.e_f hM aH
    replace aH:=dI aH
    refine kg 5 ?_
    exact ⟨a7,a8,am,flood,s+1,_,upds_of _ _ ⟨rfl,rfl,rfl,rfl,rfl,rfl,rfl,rfl,rfl,rfl,rfl,rfl,trivial⟩,M.e_inl hM aP,(H.pk [1,2,3,4,5,6,7,8])⟩
   skip
   refine t_alloc (cs:=[I 0,I 0,B false]) H Al108 rfl ?_;intro bO ct H
   refine s_nil ⟨(H.pk [1,2,3,4,5,6,7,8]),?_⟩
   refine t_l rfl ?_;obtain ⟨cu,bP,hM⟩:=M.e_bind hM;refine s_call cf39 [Pq ay,.agg #[I ((aa.getD (Int.toNat (r3.getD s 0)) default).spring),ba],.agg (encB ab).toArray] rfl (za7 ao ap aq au ak al aa (aa.getD (Int.toNat (r3.getD s 0)) default) ab (aS.app _) aT (aU.app _) aV (aW.app _) aX (aY.app _) aZ (aB.app _) aL (Has.here (k:=6) rfl) (aB.app _) aQ aJ bP _ (H.gt 9)) ?_
   rintro vq cv ⟨r0,az,aR,rfl,hvq,ac⟩
   subst vq;(try dsimp only at hM);replace H:=H.bk ac;clear ac
   refine s_nil ⟨(H.pk [1,2,3,4,5,6,7,8]),?_⟩
   refine t_l rfl ?_;refine t_sw 0 0 [I r0,I az,B aR] (.agg #[I r0,I az,B aR]) H rfl rfl Sz108 rfl rfl rfl rfl ?_;intro cw H
   refine s_nil ⟨(H.pk [1,2,3,4,5,6,7,8]),?_⟩
   refine kg 8 ?_
   refine W.cond (decide (az<am)) rfl (fun aI=>?_) (fun aI=>?_)
   ·replace hM:=M.e_t hM aI
    replace aI:=dI aI
    refine kg 11 ?_
    exact ⟨a7,a8,az,r3.getD s 0,s+1,_,upds_of _ _ ⟨rfl,rfl,rfl,rfl,rfl,rfl,rfl,rfl,rfl,rfl,rfl,rfl,trivial⟩,M.e_inl hM aP,(H.pk [1,2,3,4,5,6,7,8])⟩
   replace hM:=M.e_f hM aI
   replace aI:=dI aI
   refine kg 5 ?_
   exact ⟨a7,a8,am,flood,s+1,_,upds_of _ _ ⟨rfl,rfl,rfl,rfl,rfl,rfl,rfl,rfl,rfl,rfl,rfl,rfl,trivial⟩,M.e_inl hM aP,(H.pk [1,2,3,4,5,6,7,8])⟩
  replace hM:=M.e_f hM aG
  replace aG:=dI aG
  refine W.exit ?_
  have bQ:=M.e_inr hM aP
  subst bQ;replace hM:=bL;(try dsimp only at hM);replace H:=H.pk [2,3,4,5,6,7];refine kg 3 ?_;refine t_bs (α:=Int) T29 [I am] [(am:Int)] H rfl (.cons rfl (Flat.rep_enc _ (am:Int))<|.nil) rfl rfl rfl ?_;intro bR cx H;obtain ⟨cy,hM⟩:=M.e_gd hM;refine t_app (α:=Int) (k:=2) (l:=l) (l2:=[(am:Int)]) (l':=l++([(am:Int)])) (vy:=bR) T29 rfl H rfl rfl rfl (H.os 0) (H.ol 0) (rfl) (by first | omega | (simp only [List.length_nil] at *; omega)) ?_;intro bS cz H;replace H:=H.nf;refine kg 2 ?_;refine t_bs (α:=Int) T29 [I flood] [(flood:Int)] H rfl (.cons rfl (Flat.rep_enc _ (flood:Int))<|.nil) rfl rfl rfl ?_;intro bT cA H;obtain ⟨cB,hM⟩:=M.e_gd hM;refine t_app (α:=Int) (k:=2) (l:=l2) (l2:=[(flood:Int)]) (l':=l2++([(flood:Int)])) (vy:=bT) T29 rfl H rfl rfl rfl (H.os 0) (H.ol 0) (rfl) (by first | omega | (simp only [List.length_nil] at *; omega)) ?_;intro bU cC H;replace H:=H.nf;refine kg 3 ?_;replace H:=H.pk [2,3,4,5,6,7];refine kg 4 ?_
  exact ⟨bH,bI,s2+1,l++([(am:Int)]),l2++([(flood:Int)]),bS,bU,_,upds_of _ _ ⟨rfl,rfl,rfl,rfl,rfl,rfl,rfl,trivial⟩,M.e_inl hM bu,H⟩
 replace hM:=M.e_f hM aE
 replace aE:=dI aE
 refine W.exit ?_
 have bV:=M.e_inr hM bu
 subst bV;replace hM:=bF;(try dsimp only at hM);replace H:=H.pk [0,1];refine kg 8 ?_;refine W.ret ?_
 have bc:=M.e_pure hM
 exact ⟨_,resE_tmp3 rfl,⟨l,l2,0,aC,aD,bc,rfl,(H.pk [1,0])⟩⟩

def zcA (n:Int):M Bool :=
  M.bind (zaf n 0 2001) fun r2 =>
  M.pure r2
theorem zen {R:List Chunk}  (n:Int)  {r:Bool} (hM:(zcA n).Ends r) (w:World) (H:St w w [] R):Ret Tryz.prog 41 #[I n] w fun v w'=>∃ (y0:Bool),y0=r/\v=B y0/\St w w' [] R:=by
 refine ret_of_W Tryz.func41 rfl rfl rfl ?_;refine kg 7 ?_;obtain ⟨ae,ab,hM⟩:=M.e_bind hM;refine s_call cf27 [I n,I 0,I 2001] rfl (zaj n 0 2001 ab _ (H.gt 0)) ?_
 rintro vq ag ⟨r2,rfl,hvq,aa⟩
 subst vq;(try dsimp only at hM);replace H:=H.bk aa;clear aa;refine kg 2 ?_;refine W.ret ?_
 have ac:=M.e_pure hM
 exact ⟨_,resE_tmp rfl,⟨r2,ac,rfl,H⟩⟩

def zco (x:Rpt) (ab aa:List Int):M Bool :=
  M.bind (zbD ab x.watch) fun r2 =>
  M.grd ((!(decide (0<=r2))||(decide ((0:Int)<=r2)&&decide (r2<(aa.length:Int))))) <|
  M.pure ((decide (0<=r2))&&(decide ((aa.getD (Int.toNat r2) 0)<=x.stage)))
theorem zc9 {R:List Chunk} {ag:Nat} {ah:Cells} {aa:Value} {ai:Nat} {aj:Cells} {ak:Value} (x:Rpt) (ab:List Int) (ac:List Int) (ao:Reads R ah) (ap:Sl ah aa ab) (aw:Has R (cBlk ag [aa] 29)) (ax:Reads R aj) (ay:Sl aj ak ac) (az:Has R (cBlk ai [ak] 29)) {r:Bool} (hM:(zco x ab ac).Ends r) (w:World) (H:St w w [] R):Ret Tryz.prog 42 #[.agg #[I x.watch,I x.stage,B x.danger],Pq ag,Pq ai] w fun v w'=>∃ (y0:Bool),y0=r/\v=B y0/\St w w' [] R:=by
 refine ret_of_W Tryz.func42 rfl rfl rfl ?_;refine kg 2 ?_;refine t_bx [I x.watch,I x.stage,B x.danger] H rfl ?_;intro aq aA H;refine kg 7 ?_;obtain ⟨aB,au,hM⟩:=M.e_bind hM;refine s_call cf43 [aa,I x.watch] rfl (zcW ab x.watch (ao.app _) ap au _ (H.gt 1)) ?_
 rintro vq aC ⟨r2,rfl,hvq,al⟩
 subst vq;(try dsimp only at hM);replace H:=H.bk al;clear al;refine kg 3 ?_;refine W.draw (fun W=>St w W [cBlk aq [I x.watch,I x.stage,B x.danger] 108] R) [(0,true),(1,true),(2,true),(3,true),(4,true),(5,true),(6,true),(7,true),(8,true),(9,true),(10,true),(11,true)] mixed (by decide +kernel) rfl ?_;intro aD am;replace H:=H.ext am;clear am
 refine ⟨(H.pk [0]),?_⟩
 obtain ⟨ae,hM⟩:=M.e_grd hM
 replace ae:=M.imp_of ae
 simp only [Bool.and_eq_true,decide_eq_true_eq] at ae
 refine kg 13 ?_;refine W.ret ?_
 have av:=M.e_pure hM
 exact ⟨_,resE_tmp rfl,⟨((decide (0<=r2))&&(decide ((ac.getD (Int.toNat r2) 0)<=x.stage))),av,rfl,(H.pk [])⟩⟩

def zdf (x:Rpt) (aa ab:List Int):M Bool :=
  M.bind (M.opt x.danger (zco x aa ab) false) fun r2 =>
  M.pure (x.danger&&(!r2))
theorem zec {R:List Chunk} {ah:Nat} {aa:Nat} {ai:Cells} {aj:Value} {ab:Nat} {ak:Cells} {al:Value} (x:Rpt) (ac:List Int) (ae:List Int) (am:Reads R ai) (ao:Sl ai aj ac) (ap:Has R (cBlk aa [aj] 29)) (aq:Reads R ak) (au:Sl ak al ae) (av:Has R (cBlk ab [al] 29)) (ay:Has R (cBlk ah [.func (.func 42) #[] #[Pq aa,Pq ab]] 109)) {r:Bool} (hM:(zdf x ac ae).Ends r) (w:World) (H:St w w [] R):Ret Tryz.prog 44 #[.agg #[I x.watch,I x.stage,B x.danger],Pq ah] w fun v w'=>∃ (y0:Bool),y0=r/\v=B y0/\St w w' [] R:=by
 refine ret_of_W Tryz.func44 rfl rfl rfl ?_;refine kg 2 ?_;refine t_bx [I x.watch,I x.stage,B x.danger] H rfl ?_;intro az aA H;refine kg 9 ?_;obtain ⟨r2,aw,hM⟩:=M.e_bind hM;refine t_gcallv (cap:=[Pq aa,Pq ab]) x.danger (gy_t rfl) cf42 (fun hg=>(gd_of hg (.func (.func 42) #[] #[Pq aa,Pq ab]))) (B r2) (fun _=>[.agg #[I x.watch,I x.stage,B x.danger]]) (fun hg=>lst1 (gd_of hg (.agg #[I x.watch,I x.stage,B x.danger]))) H (fun hg=>(zc9 x ac ae (am.app _) ao (ap.app _) (aq.app _) au (av.app _) (M.e_opt aw hg) _ (H.give (A:=[]) rfl)).mono fun v_ w_ ⟨y_,ag,ax,H_⟩=>by subst ag; exact ⟨ax,H.via H_⟩) ?_;intro aB H;refine kg 4 ?_;refine W.ret ?_
 have ag:=M.e_pure hM
 exact ⟨_,resE_tmp rfl,⟨(x.danger&&(!r2)),ag,rfl,(H.pk [])⟩⟩

def zcD (ab:List Int) (ac:List Span) (ae:List Int) (ag:List Town) (ah ai:Int) (aa:List Flood) (p:List Bool) (aj ak:List Int):(Nat × (List Int))->M ((Nat × (List Int)) ⊕ ((List Int) × (List Int))):=fun (s,l) =>
  bif decide ((s:Int)<(aa.length:Int)) then (
  M.grd (decide ((s:Int)<(aa.length:Int))) <|
  M.bind (zaF ab ac ae ag ah ai aa (aa.getD s default) p) fun (r0,r1,r2) =>
  M.bind (zdf (⟨(r0:Int),(r1:Int),r2⟩:Rpt) aj ak) fun r3 =>
  bif r3 then (
  M.grd (decide ((l.length+([(s:Int)]).length)*8<=140737488355328)) <|
  M.pure (.inl (s+1,l++([(s:Int)]))))
  else (
  M.pure (.inl (s+1,l))))
  else (
  M.pure (.inr (l,l)))
def zdd (aa:List Int) (ab:List Span) (ac:List Int) (ae:List Town) (ag ah:Int) (ai:List Flood) (p:List Bool) (aj ak:List Int):M (List Int) :=
  M.bind (M.iter (zcD aa ab ac ae ag ah ai p aj ak) (0,[])) fun (l2,l3) =>
  M.pure l3
theorem zew {R:List Chunk} {aj:Nat} {aE:Cells} {aF:Value} {aG:Cells} {aH:Value} {aI:Cells} {aJ:Value} {aK:Cells} {aL:Value} {aM:Cells} {aw:Value} {aY:Nat} {ag:Nat} {aN:Nat} {aO:Cells} {aP:Value} {aQ:Nat} {aR:Cells} {aS:Value} (ak:List Int) (al:List Span) (am:List Int) (ao:List Town) (ap:Int) (aq:Int) (aa:List Flood) (p:List Bool) (au:List Int) (av:List Int) (aZ:Reads R aE) (a6:Sl aE aF ak) (a7:Reads R aG) (a8:Sl aG aH al) (ba:Reads R aI) (bb:Sl aI aJ am) (bc:Reads R aK) (bf:Sl aK aL ao) (ax:Reads R aM) (ay:Sl aM aw aa) (bg:Has R (cBlk aj [aF,aH,aJ,aL,I ap,I aq,aw,.map (some aY)] 90)) (aT:p.length=12) (bh:Reads R aO) (bi:Sl aO aP au) (bj:Has R (cBlk aN [aP] 29)) (bm:Reads R aR) (bn:Sl aR aS av) (bo:Has R (cBlk aQ [aS] 29)) (bp:Has R (cBlk ag [.func (.func 42) #[] #[Pq aN,Pq aQ]] 109)) {r:(List Int)} (hM:(zdd ak al am ao ap aq aa p au av).Ends r) (w:World) (H:St w w [] R):Ret Tryz.prog 37 #[Pq aj,.agg (encB p).toArray,.agg #[.func (.func 44) #[] #[Pq ag]]] w fun v w'=>∃ (y0:List Int) (u0:Value),y0=r/\v=u0/\St w w' [cOwn (α:=Int) 3 u0 y0] R:=by
 refine ret_of_W Tryz.func37 rfl rfl rfl ?_;refine kg 2 ?_;refine t_box (v:=.agg (encB p).toArray) (cs:=encB p) H rfl rfl ?_;intro az bD H;refine t_bx [.func (.func 44) #[] #[Pq ag]] H rfl ?_;intro aA bE H
 have bF:=(ay).len_le
 refine kg 18 ?_
 replace H:=H.nilOwn (α:=Int) 3
 obtain ⟨br,aB,bt⟩:=M.e_bind hM
 obtain ⟨bG,aB⟩:=M.e_iter aB
 refine W.loop (fun m σ W=>∃ (s:Nat) (l:List Int) (ac:Value) (ρ:Env),σ=upds ρ [(0,Pq aj),(4,Pq az),(5,Pq aA),(7,ac),(14,aw),(15,I (aa.length:Int)),(16,I (s:Int))]/\M.iterN (zcD ak al am ao ap aq aa p au av) m (s,l)=some br/\St w W [cOwn (α:=Int) 3 ac l,cBlk aA [.func (.func 44) #[] #[Pq ag]] 111,cBlk az (encB p) 103] R) ?_ ?_
 ·exact ⟨_,0,[],(.slice none 0 0),_,upds_of _ _ ⟨rfl,rfl,rfl,rfl,rfl,rfl,rfl,trivial⟩,aB,H⟩
 rintro bH σ bI ⟨s,l,ac,ρ,rfl,aU,H⟩
 obtain ⟨aV,aW,bJ,hM,aC⟩:=M.e_iterN aU
 simp only [zcD] at hM
 clear aU;refine kg 5 ?_
 refine W.cond (decide ((s:Int)<(aa.length:Int))) rfl (fun ab=>?_) (fun ab=>?_)
 ·replace hM:=M.e_t hM ab
  replace ab:=dI ab
  obtain ⟨bK,hM⟩:=M.e_gd hM;refine kg 7 ?_
  obtain ⟨ae,bu,ah⟩:=Flood_atA ay (i:=(s:Int)) (by omega) (by omega)
  replace ah:Sl _ ae (aa.getD s default).stages:=ah
  have bL:=ah.len_le
  refine s_val (x_ld (v:=.agg #[I ((aa.getD s default).spring),ae]) rfl (ld_ag Ag99 Sz99 (At.mono bu (ax.at H)))) ?_;refine t_alloc (cs:=[I 0,.slice none 0 0]) H Al99 rfl ?_;intro bv bM H;refine kg 1 ?_;refine t_sw 0 0 [I ((aa.getD s default).spring),ae] (.agg #[I ((aa.getD s default).spring),ae]) H rfl rfl Sz99 rfl rfl rfl (by simp only [List.all_cons,List.all_nil,Bool.true_and,Bool.and_true,Sl.oc ah]; try rfl) ?_;intro bN H;refine kg 2 ?_;refine W.draw (fun W=>St w W [cBlk bv [I ((aa.getD s default).spring),ae] 99,cOwn (α:=Int) 3 ac l,cBlk aA [.func (.func 44) #[] #[Pq ag]] 111,cBlk az (encB p) 103] R) [(0,true),(1,true),(2,true),(3,true),(4,true),(5,false),(6,false)] mixed (by decide +kernel) rfl ?_;intro bO aX;replace H:=H.ext aX;clear aX
  refine ⟨(H.pk [0,1,2,3]),?_⟩
  refine kg 4 ?_;refine d_q rfl (fun w' H=>x_ld (v:=.agg (encB p).toArray) rfl (ldArrA Ag103 Sz103 aT (H.bl 3)))<|d_l rfl ?_;obtain ⟨bP,bw,hM⟩:=M.e_bind hM;refine s_call cf39 [Pq aj,.agg #[I ((aa.getD s default).spring),ae],.agg (encB p).toArray] rfl (za7 ak al am ao ap aq aa (aa.getD s default) p (aZ.app _) a6 (a7.app _) a8 (ba.app _) bb (bc.app _) bf (ax.app _) ay (bg.app _) (ax.app _) ah aT bw _ (H.gt 4)) ?_
  rintro vq bQ ⟨r0,r1,r2,rfl,hvq,ai⟩
  subst vq;(try dsimp only at hM);replace H:=H.bk ai;clear ai
  refine s_nil ⟨(H.pk [0,1,2,3]),?_⟩
  refine d_l rfl ?_;obtain ⟨bR,bx,hM⟩:=M.e_bind hM;refine s_callv (f:=44) rfl cf44 [.agg #[I r0,I r1,B r2]] rfl (zec (⟨(r0:Int),(r1:Int),r2⟩:Rpt) au av (bh.app _) bi (bj.app _) (bm.app _) bn (bo.app _) (bp.app _) bx _ (H.gt 4)) ?_
  rintro vq bS ⟨r3,rfl,hvq,ai⟩
  subst vq;(try dsimp only at hM);replace H:=H.bk ai;clear ai
  refine s_nil ⟨(H.pk [0,1,2,3]),?_⟩
  refine d_nil ?_
  refine W.cond r3 rfl (fun aD=>?_) (fun aD=>?_)
  ·replace hM:=M.e_t hM aD;refine kg 3 ?_;refine t_bs (α:=Int) T29 [I (s:Int)] [(s:Int)] H rfl (.cons rfl (Flat.rep_enc _ (s:Int))<|.nil) rfl rfl rfl ?_;intro bz bT H;obtain ⟨bU,hM⟩:=M.e_gd hM;refine t_app (α:=Int) (k:=2) (l:=l) (l2:=[(s:Int)]) (l':=l++([(s:Int)])) (vy:=bz) T29 rfl H rfl rfl rfl (H.os 0) (H.ol 0) (rfl) (by first | omega | (simp only [List.length_nil] at *; omega)) ?_;intro bA bV H;replace H:=H.nf;refine kg 2 ?_;replace H:=H.pk [2,3,4];refine kg 4 ?_
   exact ⟨aV,aW,s+1,l++([(s:Int)]),bA,_,upds_of _ _ ⟨rfl,rfl,rfl,rfl,rfl,rfl,rfl,trivial⟩,M.e_inl hM aC,H⟩
  replace hM:=M.e_f hM aD;refine kg 5 ?_
  exact ⟨aV,aW,s+1,l,ac,_,upds_of _ _ ⟨rfl,rfl,rfl,rfl,rfl,rfl,rfl,trivial⟩,M.e_inl hM aC,(H.pk [1,2,3])⟩
 replace hM:=M.e_f hM ab
 replace ab:=dI ab
 refine W.exit ?_
 have bB:=M.e_inr hM aC
 subst bB;replace hM:=bt;(try dsimp only at hM);replace H:=H.pk [0];refine kg 5 ?_;refine W.ret ?_
 have bC:=M.e_pure hM
 exact ⟨_,resE_tmp rfl,⟨l,ac,bC,rfl,H⟩⟩

def zdm (x:Rpt) (aa ab:List Int):M Bool :=
  M.bind (M.opt (!x.danger) (zco x aa ab) false) fun r2 =>
  M.pure ((!x.danger)&&r2)
theorem zd9 {R:List Chunk} {ah:Nat} {aa:Nat} {ai:Cells} {aj:Value} {ab:Nat} {ak:Cells} {al:Value} (x:Rpt) (ac:List Int) (ae:List Int) (am:Reads R ai) (ao:Sl ai aj ac) (ap:Has R (cBlk aa [aj] 29)) (aq:Reads R ak) (au:Sl ak al ae) (av:Has R (cBlk ab [al] 29)) (ay:Has R (cBlk ah [.func (.func 42) #[] #[Pq aa,Pq ab]] 109)) {r:Bool} (hM:(zdm x ac ae).Ends r) (w:World) (H:St w w [] R):Ret Tryz.prog 45 #[.agg #[I x.watch,I x.stage,B x.danger],Pq ah] w fun v w'=>∃ (y0:Bool),y0=r/\v=B y0/\St w w' [] R:=by
 refine ret_of_W Tryz.func45 rfl rfl rfl ?_;refine kg 2 ?_;refine t_bx [I x.watch,I x.stage,B x.danger] H rfl ?_;intro az aA H;refine kg 10 ?_;obtain ⟨r2,aw,hM⟩:=M.e_bind hM;refine t_gcallv (cap:=[Pq aa,Pq ab]) (!x.danger) (gy_t rfl) cf42 (fun hg=>(gd_of hg (.func (.func 42) #[] #[Pq aa,Pq ab]))) (B r2) (fun _=>[.agg #[I x.watch,I x.stage,B x.danger]]) (fun hg=>lst1 (gd_of hg (.agg #[I x.watch,I x.stage,B x.danger]))) H (fun hg=>(zc9 x ac ae (am.app _) ao (ap.app _) (aq.app _) au (av.app _) (M.e_opt aw hg) _ (H.give (A:=[]) rfl)).mono fun v_ w_ ⟨y_,ag,ax,H_⟩=>by subst ag; exact ⟨ax,H.via H_⟩) ?_;intro aB H;refine kg 3 ?_;refine W.ret ?_
 have ag:=M.e_pure hM
 exact ⟨_,resE_tmp rfl,⟨((!x.danger)&&r2),ag,rfl,(H.pk [])⟩⟩

def zcm (ab:List Int) (ac:List Span) (ae:List Int) (ag:List Town) (ah ai:Int) (aa:List Flood) (p:List Bool) (aj ak:List Int):(Nat × (List Int))->M ((Nat × (List Int)) ⊕ ((List Int) × (List Int))):=fun (s,l) =>
  bif decide ((s:Int)<(aa.length:Int)) then (
  M.grd (decide ((s:Int)<(aa.length:Int))) <|
  M.bind (zaF ab ac ae ag ah ai aa (aa.getD s default) p) fun (r0,r1,r2) =>
  M.bind (zdm (⟨(r0:Int),(r1:Int),r2⟩:Rpt) aj ak) fun r3 =>
  bif r3 then (
  M.grd (decide ((l.length+([(s:Int)]).length)*8<=140737488355328)) <|
  M.pure (.inl (s+1,l++([(s:Int)]))))
  else (
  M.pure (.inl (s+1,l))))
  else (
  M.pure (.inr (l,l)))
def zdk (aa:List Int) (ab:List Span) (ac:List Int) (ae:List Town) (ag ah:Int) (ai:List Flood) (p:List Bool) (aj ak:List Int):M (List Int) :=
  M.bind (M.iter (zcm aa ab ac ae ag ah ai p aj ak) (0,[])) fun (l2,l3) =>
  M.pure l3
theorem zdM {R:List Chunk} {aj:Nat} {aE:Cells} {aF:Value} {aG:Cells} {aH:Value} {aI:Cells} {aJ:Value} {aK:Cells} {aL:Value} {aM:Cells} {aw:Value} {aY:Nat} {ag:Nat} {aN:Nat} {aO:Cells} {aP:Value} {aQ:Nat} {aR:Cells} {aS:Value} (ak:List Int) (al:List Span) (am:List Int) (ao:List Town) (ap:Int) (aq:Int) (aa:List Flood) (p:List Bool) (au:List Int) (av:List Int) (aZ:Reads R aE) (a6:Sl aE aF ak) (a7:Reads R aG) (a8:Sl aG aH al) (ba:Reads R aI) (bb:Sl aI aJ am) (bc:Reads R aK) (bf:Sl aK aL ao) (ax:Reads R aM) (ay:Sl aM aw aa) (bg:Has R (cBlk aj [aF,aH,aJ,aL,I ap,I aq,aw,.map (some aY)] 90)) (aT:p.length=12) (bh:Reads R aO) (bi:Sl aO aP au) (bj:Has R (cBlk aN [aP] 29)) (bm:Reads R aR) (bn:Sl aR aS av) (bo:Has R (cBlk aQ [aS] 29)) (bp:Has R (cBlk ag [.func (.func 42) #[] #[Pq aN,Pq aQ]] 109)) {r:(List Int)} (hM:(zdk ak al am ao ap aq aa p au av).Ends r) (w:World) (H:St w w [] R):Ret Tryz.prog 37 #[Pq aj,.agg (encB p).toArray,.agg #[.func (.func 45) #[] #[Pq ag]]] w fun v w'=>∃ (y0:List Int) (u0:Value),y0=r/\v=u0/\St w w' [cOwn (α:=Int) 3 u0 y0] R:=by
 refine ret_of_W Tryz.func37 rfl rfl rfl ?_;refine kg 2 ?_;refine t_box (v:=.agg (encB p).toArray) (cs:=encB p) H rfl rfl ?_;intro az bD H;refine t_bx [.func (.func 45) #[] #[Pq ag]] H rfl ?_;intro aA bE H
 have bF:=(ay).len_le
 refine kg 18 ?_
 replace H:=H.nilOwn (α:=Int) 3
 obtain ⟨br,aB,bt⟩:=M.e_bind hM
 obtain ⟨bG,aB⟩:=M.e_iter aB
 refine W.loop (fun m σ W=>∃ (s:Nat) (l:List Int) (ac:Value) (ρ:Env),σ=upds ρ [(0,Pq aj),(4,Pq az),(5,Pq aA),(7,ac),(14,aw),(15,I (aa.length:Int)),(16,I (s:Int))]/\M.iterN (zcm ak al am ao ap aq aa p au av) m (s,l)=some br/\St w W [cOwn (α:=Int) 3 ac l,cBlk aA [.func (.func 45) #[] #[Pq ag]] 111,cBlk az (encB p) 103] R) ?_ ?_
 ·exact ⟨_,0,[],(.slice none 0 0),_,upds_of _ _ ⟨rfl,rfl,rfl,rfl,rfl,rfl,rfl,trivial⟩,aB,H⟩
 rintro bH σ bI ⟨s,l,ac,ρ,rfl,aU,H⟩
 obtain ⟨aV,aW,bJ,hM,aC⟩:=M.e_iterN aU
 simp only [zcm] at hM
 clear aU;refine kg 5 ?_
 refine W.cond (decide ((s:Int)<(aa.length:Int))) rfl (fun ab=>?_) (fun ab=>?_)
 ·replace hM:=M.e_t hM ab
  replace ab:=dI ab
  obtain ⟨bK,hM⟩:=M.e_gd hM;refine kg 7 ?_
  obtain ⟨ae,bu,ah⟩:=Flood_atA ay (i:=(s:Int)) (by omega) (by omega)
  replace ah:Sl _ ae (aa.getD s default).stages:=ah
  have bL:=ah.len_le
  refine s_val (x_ld (v:=.agg #[I ((aa.getD s default).spring),ae]) rfl (ld_ag Ag99 Sz99 (At.mono bu (ax.at H)))) ?_;refine t_alloc (cs:=[I 0,.slice none 0 0]) H Al99 rfl ?_;intro bv bM H;refine kg 1 ?_;refine t_sw 0 0 [I ((aa.getD s default).spring),ae] (.agg #[I ((aa.getD s default).spring),ae]) H rfl rfl Sz99 rfl rfl rfl (by simp only [List.all_cons,List.all_nil,Bool.true_and,Bool.and_true,Sl.oc ah]; try rfl) ?_;intro bN H;refine kg 2 ?_;refine W.draw (fun W=>St w W [cBlk bv [I ((aa.getD s default).spring),ae] 99,cOwn (α:=Int) 3 ac l,cBlk aA [.func (.func 45) #[] #[Pq ag]] 111,cBlk az (encB p) 103] R) [(0,true),(1,true),(2,true),(3,true),(4,true),(5,false),(6,false)] mixed (by decide +kernel) rfl ?_;intro bO aX;replace H:=H.ext aX;clear aX
  refine ⟨(H.pk [0,1,2,3]),?_⟩
  refine kg 4 ?_;refine d_q rfl (fun w' H=>x_ld (v:=.agg (encB p).toArray) rfl (ldArrA Ag103 Sz103 aT (H.bl 3)))<|d_l rfl ?_;obtain ⟨bP,bw,hM⟩:=M.e_bind hM;refine s_call cf39 [Pq aj,.agg #[I ((aa.getD s default).spring),ae],.agg (encB p).toArray] rfl (za7 ak al am ao ap aq aa (aa.getD s default) p (aZ.app _) a6 (a7.app _) a8 (ba.app _) bb (bc.app _) bf (ax.app _) ay (bg.app _) (ax.app _) ah aT bw _ (H.gt 4)) ?_
  rintro vq bQ ⟨r0,r1,r2,rfl,hvq,ai⟩
  subst vq;(try dsimp only at hM);replace H:=H.bk ai;clear ai
  refine s_nil ⟨(H.pk [0,1,2,3]),?_⟩
  refine d_l rfl ?_;obtain ⟨bR,bx,hM⟩:=M.e_bind hM;refine s_callv (f:=45) rfl cf45 [.agg #[I r0,I r1,B r2]] rfl (zd9 (⟨(r0:Int),(r1:Int),r2⟩:Rpt) au av (bh.app _) bi (bj.app _) (bm.app _) bn (bo.app _) (bp.app _) bx _ (H.gt 4)) ?_
  rintro vq bS ⟨r3,rfl,hvq,ai⟩
  subst vq;(try dsimp only at hM);replace H:=H.bk ai;clear ai
  refine s_nil ⟨(H.pk [0,1,2,3]),?_⟩
  refine d_nil ?_
  refine W.cond r3 rfl (fun aD=>?_) (fun aD=>?_)
  ·replace hM:=M.e_t hM aD;refine kg 3 ?_;refine t_bs (α:=Int) T29 [I (s:Int)] [(s:Int)] H rfl (.cons rfl (Flat.rep_enc _ (s:Int))<|.nil) rfl rfl rfl ?_;intro bz bT H;obtain ⟨bU,hM⟩:=M.e_gd hM;refine t_app (α:=Int) (k:=2) (l:=l) (l2:=[(s:Int)]) (l':=l++([(s:Int)])) (vy:=bz) T29 rfl H rfl rfl rfl (H.os 0) (H.ol 0) (rfl) (by first | omega | (simp only [List.length_nil] at *; omega)) ?_;intro bA bV H;replace H:=H.nf;refine kg 2 ?_;replace H:=H.pk [2,3,4];refine kg 4 ?_
   exact ⟨aV,aW,s+1,l++([(s:Int)]),bA,_,upds_of _ _ ⟨rfl,rfl,rfl,rfl,rfl,rfl,rfl,trivial⟩,M.e_inl hM aC,H⟩
  replace hM:=M.e_f hM aD;refine kg 5 ?_
  exact ⟨aV,aW,s+1,l,ac,_,upds_of _ _ ⟨rfl,rfl,rfl,rfl,rfl,rfl,rfl,trivial⟩,M.e_inl hM aC,(H.pk [1,2,3])⟩
 replace hM:=M.e_f hM ab
 replace ab:=dI ab
 refine W.exit ?_
 have bB:=M.e_inr hM aC
 subst bB;replace hM:=bt;(try dsimp only at hM);replace H:=H.pk [0];refine kg 5 ?_;refine W.ret ?_
 have bC:=M.e_pure hM
 exact ⟨_,resE_tmp rfl,⟨l,ac,bC,rfl,H⟩⟩

def zaq (aa:List Int) (ab:List Span) (ac:List Int) (ae:List Town) (ak al:Int) (ag:List Flood) (watches thresholds:List Int):M ((List Int) × (List Int) × Int) :=
  M.bind (zcJ aa ab ac ae ak al ag watches) fun x_=>match x_ with
  | (.inl (r1,r2))=>(
  bif r2 != 0 then (
  M.pure (([]),([]),r2))
  else (
  M.fail))
  | (.inr (ah,ai,aj,am))=>(
  bif am != 0 then (
  M.fail)
  else (
  bif (thresholds.length:Int) != (watches.length:Int) then (
  M.pure (([]),([]),2))
  else (
  M.bind (zbm thresholds (fun ao=>zcA ao)) fun r3 =>
  bif !r3 then (
  M.pure (([]),([]),4))
  else (
  M.bind (zdd aa ab ac ae ah ai ag aj watches thresholds) fun r4 =>
  M.bind (zdk aa ab ac ae ah ai ag aj watches thresholds) fun r5 =>
  M.pure (r4,r5,0)))))
theorem zaJ {R:List Chunk} {aZ:Cells} {ae:Value} {a6:Cells} {ag:Value} {a7:Cells} {ah:Value} {a8:Cells} {ai:Value} {ba:Cells} {aj:Value} {bb:Cells} {ak:Value} {bc:Cells} {al:Value} (au:List Int) (av:List Span) (aw:List Int) (ax:List Town) (am:Int) (ao:Int) (ay:List Flood) (watches:List Int) (thresholds:List Int) (aJ:Reads R aZ) (aK:Sl aZ ae au) (aL:Reads R a6) (aM:Sl a6 ag av) (aN:Reads R a7) (aO:Sl a7 ah aw) (aP:Reads R a8) (aQ:Sl a8 ai ax) (aR:Reads R ba) (aS:Sl ba aj ay) (aT:Reads R bb) (az:Sl bb ak watches) (aU:Reads R bc) (aA:Sl bc al thresholds) {r:((List Int) × (List Int) × Int)} (hM:(zaq au av aw ax am ao ay watches thresholds).Ends r) (w:World) (H:St w w [] R):Ret Tryz.prog 22 #[.agg #[ae,ag,ah,ai,I am,I ao,aj],ak,al] w fun v w'=>∃ (y0:List Int) (y1:List Int) (y2:Int) (u0:Value) (u1:Value),(y0,y1,y2)=r/\v = .tuple #[u0,u1,I y2]/\St w w' [cOwn (α:=Int) 3 u0 y0,cOwn (α:=Int) 3 u1 y1] R:=by
 refine ret_of_W Tryz.func22 rfl rfl rfl ?_;refine kg 2 ?_;refine t_bx [ae,ag,ah,ai,I am,I ao,aj] H rfl ?_;intro bf bF H;refine t_box (v:=ak) (cs:=[ak]) H rfl (Sl.cells az) ?_;intro aB bG H;refine t_box (v:=al) (cs:=[al]) H rfl (Sl.cells aA) ?_;intro aC bH H;refine kg 8 ?_;obtain ⟨bI,bi,hM⟩:=M.e_bind hM;refine s_call cf36 [.agg #[ae,ag,ah,ai,I am,I ao,aj],ak] rfl (zdc au av aw ax am ao ay watches (aJ.app _) aK (aL.app _) aM (aN.app _) aO (aP.app _) aQ (aR.app _) aS (aT.app _) az bi _ (H.gt 3)) ?_
 rintro vq bJ (⟨r1,r2,bj,hvq,aa,bm⟩ | ⟨aH,aI,ac,bn,aV,bg,bo,bp,hvq,aa,aD⟩)
 ·subst bj;subst vq;(try dsimp only at hM);replace H:=H.bk aa;clear aa;refine kg 4 ?_;refine t_alloc (cs:=encB (List.replicate 12 false)) H Al103 rfl ?_;intro aE bK H
  have aW:(List.replicate 12 false).length=12:=by simp
  refine kg 1 ?_;refine t_stArrA (k:=0) (b:=aE) (l:=List.replicate 12 false) (l':=r1) (L':=[cBlk aE (encB r1) 103,cBlk aC [al] 29,cBlk aB [ak] 29,cBlk bf [ae,ag,ah,ai,I am,I ao,aj] 40]) H rfl rfl rfl Sz103 aW bm rfl ?_;intro bL H;refine kg 10 ?_
  refine W.cond (r2 != 0) rfl (fun aF=>?_) (fun aF=>?_)
  ·replace hM:=M.e_t hM aF
   replace aF:=dI aF
   refine kg 7 ?_;replace H:=H.pk [];refine W.ret ?_
   have ap:=M.e_pure hM
   replace H:=H.nilOwn (α:=Int) 3
   replace H:=H.nilOwn (α:=Int) 3
   exact ⟨_,resE_tmp3 rfl,⟨([]),([]),r2,(.slice none 0 0),(.slice none 0 0),ap,rfl,(H.pk [1,0])⟩⟩
  replace hM:=M.e_f hM aF
  exact (M.e_fail hM).elim
 subst bp;subst vq;(try dsimp only at hM);replace H:=H.bk aa;clear aa;refine kg 4 ?_;refine t_alloc (cs:=encB (List.replicate 12 false)) H Al103 rfl ?_;intro aE bM H
 have aW:(List.replicate 12 false).length=12:=by simp
 refine kg 1 ?_;refine t_stArrA (k:=0) (b:=aE) (l:=List.replicate 12 false) (l':=ac) (L':=[cBlk aE (encB ac) 103,cBlk aV [ae,ag,ah,ai,I aH,I aI,aj,.map (some bg)] 90,cMem encDm bg bo (zaa au av aw ax aH aI ay),cBlk aC [al] 29,cBlk aB [ak] 29,cBlk bf [ae,ag,ah,ai,I am,I ao,aj] 40]) H rfl rfl rfl Sz103 aW aD rfl ?_;intro bN H;refine kg 10 ?_
 refine W.cond (bn != 0) rfl (fun aG=>?_) (fun aG=>?_)
 ·replace hM:=M.e_t hM aG
  exact (M.e_fail hM).elim
 replace hM:=M.e_f hM aG
 replace aG:=dI aG
 have bO:=(aA).len_le
 have bP:=(az).len_le
 refine kg 9 ?_
 refine W.cond ((thresholds.length:Int) != (watches.length:Int)) rfl (fun aq=>?_) (fun aq=>?_)
 ·replace hM:=M.e_t hM aq
  replace aq:=dI aq
  refine kg 6 ?_;replace H:=H.pk [];refine W.ret ?_
  have ap:=M.e_pure hM
  replace H:=H.nilOwn (α:=Int) 3
  replace H:=H.nilOwn (α:=Int) 3
  exact ⟨_,resE_tmp3 rfl,⟨([]),([]),2,(.slice none 0 0),(.slice none 0 0),ap,rfl,(H.pk [1,0])⟩⟩
 replace hM:=M.e_f hM aq
 replace aq:=dI aq
 refine kg 3 ?_;obtain ⟨bQ,br,hM⟩:=M.e_bind hM;refine s_call cf40 [al,.func (.func 41) #[] #[]] rfl (zdt thresholds (fun aX=>zcA aX) (aU.app _) aA ⟨41,[],rfl,cf41,fun bh bR bS bt aX bT bu bU bv bw=>by obtain rfl:=Arg.int bv; exact (zen aX bw bh (St.refl bu)).mono fun bt bh ⟨bV,bx,bz,bA⟩=>by subst bx; exact ⟨bz,bA⟩⟩ br _ (H.gt 6)) ?_
 rintro vq bW ⟨r3,rfl,hvq,aa⟩
 subst vq;(try dsimp only at hM);replace H:=H.bk aa;clear aa;refine kg 3 ?_
 refine W.cond (!r3) rfl (fun aY=>?_) (fun aY=>?_)
 ·replace hM:=M.e_t hM aY;refine kg 6 ?_;replace H:=H.pk [];refine W.ret ?_
  have ap:=M.e_pure hM
  replace H:=H.nilOwn (α:=Int) 3
  replace H:=H.nilOwn (α:=Int) 3
  exact ⟨_,resE_tmp3 rfl,⟨([]),([]),4,(.slice none 0 0),(.slice none 0 0),ap,rfl,(H.pk [1,0])⟩⟩
 replace hM:=M.e_f hM aY;refine kg 3 ?_;refine s_val (x_mf (fs:=[]) (cs:=[Pq aB,Pq aC]) rfl rfl) ?_;refine t_alloc (cs:=[.nilFunc]) H Al109 rfl ?_;intro ab bX H;refine t_sw 0 0 [.func (.func 42) #[] #[Pq aB,Pq aC]] (.func (.func 42) #[] #[Pq aB,Pq aC]) H rfl rfl Sz109 rfl rfl rfl rfl ?_;intro bY H;refine kg 4 ?_;refine s_val (x_ld (v:=.agg (encB ac).toArray) rfl (ldArrA Ag103 Sz103 aD (H.bl 1)))<|s_val (x_mf (fs:=[]) (cs:=[Pq ab]) rfl rfl)<|s_val (x_bld (ps:=[(0,.func (.func 44) #[] #[Pq ab])]) (zs:=[.nilFunc]) (L':=[.func (.func 44) #[] #[Pq ab]]) rfl Tryz.underlying111 Al111 rfl (Bd111 Tryz.underlying111) (.cons (cs:=[.func (.func 44) #[] #[Pq ab]]) rfl rfl rfl rfl rfl<|.nil)) ?_;obtain ⟨bZ,bB,hM⟩:=M.e_bind hM;refine s_call cf37 [Pq aV,.agg (encB ac).toArray,.agg #[.func (.func 44) #[] #[Pq ab]]] rfl (zew au av aw ax aH aI ay ac watches thresholds (aJ.app _) aK (aL.app _) aM (aN.app _) aO (aP.app _) aQ (aR.app _) aS (Has.here (k:=2) rfl) aD (aT.app _) az (Has.here (k:=5) rfl) (aU.app _) aA (Has.here (k:=4) rfl) (Has.here (k:=0) rfl) bB _ (H.gt 7)) ?_
 rintro vq b3 ⟨r4,bC,rfl,hvq,aa⟩
 subst vq;(try dsimp only at hM);replace H:=H.bk aa;clear aa;refine kg 5 ?_;refine s_val (x_ld (v:=.agg (encB ac).toArray) rfl (ldArrA Ag103 Sz103 aD (H.bl 2)))<|s_val (x_mf (fs:=[]) (cs:=[Pq ab]) rfl rfl)<|s_val (x_bld (ps:=[(0,.func (.func 45) #[] #[Pq ab])]) (zs:=[.nilFunc]) (L':=[.func (.func 45) #[] #[Pq ab]]) rfl Tryz.underlying111 Al111 rfl (Bd111 Tryz.underlying111) (.cons (cs:=[.func (.func 45) #[] #[Pq ab]]) rfl rfl rfl rfl rfl<|.nil)) ?_;obtain ⟨b4,bD,hM⟩:=M.e_bind hM;refine s_call cf37 [Pq aV,.agg (encB ac).toArray,.agg #[.func (.func 45) #[] #[Pq ab]]] rfl (zdM au av aw ax aH aI ay ac watches thresholds (aJ.app _) aK (aL.app _) aM (aN.app _) aO (aP.app _) aQ (aR.app _) aS (Has.here (k:=3) rfl) aD (aT.app _) az (Has.here (k:=6) rfl) (aU.app _) aA (Has.here (k:=5) rfl) (Has.here (k:=1) rfl) bD _ (H.gt 8)) ?_
 rintro vq b6 ⟨r5,bE,rfl,hvq,aa⟩
 subst vq;(try dsimp only at hM);replace H:=H.bk aa;clear aa;refine kg 2 ?_;replace H:=H.pk [0,1];refine kg 8 ?_;refine W.ret ?_
 have ap:=M.e_pure hM
 exact ⟨_,resE_tmp3 rfl,⟨r4,r5,0,bC,bE,ap,rfl,(H.pk [1,0])⟩⟩

end Go.Proofs.YtdmdhmineljlhabGreat
end
section
set_option maxRecDepth 100000
set_option maxHeartbeats 16000000
namespace Go.Proofs.YtdmdhmineljlhabGreat
open Go Go.Nm
attribute [local irreducible] gd execOp SL SLD SLT WR
def zb3  : M Bool :=
  M.bind (zae 4) fun (r0,r1,r2,r3,r4,r5,r6) =>
  M.bind (zaI r0 r1 r2 r3 r4 r5 r6 (⟨(0:Int),(0:Int)⟩:Dem)) fun (bc,aj) =>
  M.bind (zae 4) fun (bf,bg,bh,bi,bj,bm,bn) =>
  M.bind (zaI bf bg bh bi bj bm bn (⟨(1:Int),(0:Int)⟩:Dem)) fun (au,ak) =>
  M.bind (zae 4) fun (bo,bp,br,bt,bu,bv,bw) =>
  M.bind (zbV bo bp br bt bu bv bw) fun (bY,al) =>
  M.bind (zae 3) fun (bx,bz,bA,bB,bC,bD,bE) =>
  M.bind (zbV bx bz bA bB bC bD bE) fun (av,am) =>
  M.bind (zae 1) fun (bF,bG,bH,bI,bJ,bK,bL) =>
  M.bind (zbV bF bG bH bI bJ bK bL) fun (bM,ao) =>
  M.bind (zae 4) fun (bN,bO,bP,bQ,bR,bS,bT) =>
  M.bind (zbl bN bO bP bQ bR bS bT 0 0) fun (ba,bb,ap) =>
  M.bind (M.opt (!((((((aj != 0)||(ak != 0))||(al != 6))||(am != 0))||(ao != 0))||(ap != 0))) (zal bc ([(0:Int)])) false) fun r7 =>
  M.bind (M.opt (!(((((((((aj != 0)||(ak != 0))||(al != 6))||(am != 0))||(ao != 0))||(ap != 0))||(!r7))||(decide (0<(au.length:Int))))||((av.length:Int) != 2))) (zal bM ([(2:Int)])) false) fun r8 =>
  bif !((((((((((aj != 0)||(ak != 0))||(al != 6))||(am != 0))||(ao != 0))||(ap != 0))||(!r7))||(decide (0<(au.length:Int))))||((av.length:Int) != 2))||(!r8)) then (
  M.bind (zaz 6 10) fun (bU,bV) =>
  bif (((((((((((aj != 0)||(ak != 0))||(al != 6))||(am != 0))||(ao != 0))||(ap != 0))||(!r7))||(decide (0<(au.length:Int))))||((av.length:Int) != 2))||(!r8))||(!(decide ((⟨(ba:Int),(bb:Int)⟩:Span)=(⟨(bU:Int),(bV:Int)⟩:Span))))) then (
  M.pure false)
  else (
  M.bind (zae 1) fun (aw,ax,ay,az,aA,aB,aC) =>
  M.bind (zcw aw ax ay az aA aB aC ([(2:Int)])) fun (aD,aE,aa) =>
  M.bind (zae 1) fun (aF,aG,aH,aI,aJ,aK,aL) =>
  M.bind (zaq aF aG aH aI aJ aK aL ([(2:Int)]) ([(250:Int)])) fun (ag,ah,ab) =>
  M.bind (zae 1) fun (aM,aN,aO,aP,aQ,aR,aS) =>
  M.bind (zaq aM aN aO aP aQ aR aS ([(2:Int)]) ([(240:Int)])) fun (bW,aT,ac) =>
  M.bind (zae 1) fun (aU,aV,aW,aX,aY,aZ,a6) =>
  M.bind (zaq aU aV aW aX aY aZ a6 ([(2:Int)]) ([(251:Int)])) fun (a7,bX,ae) =>
  M.bind (M.opt ((((aa==0)&&(ab==0))&&(ac==0))&&(ae==0)) (zal aD ([(250:Int)])) false) fun r9 =>
  M.bind (M.opt (((((aa==0)&&(ab==0))&&(ac==0))&&(ae==0))&&r9) (zal aE ([(0:Int)])) false) fun ai =>
  M.grd ((!((((((aa==0)&&(ab==0))&&(ac==0))&&(ae==0))&&r9)&&ai)||(decide ((-9223372036854775808:Int)<=((ag.length:Int)+(ah.length:Int)))&&decide (((ag.length:Int)+(ah.length:Int))<=(9223372036854775807:Int))))) <|
  M.bind (M.opt (((((((aa==0)&&(ab==0))&&(ac==0))&&(ae==0))&&r9)&&ai)&&(((ag.length:Int)+(ah.length:Int))==0)) (zal aT ([(1:Int)])) false) fun aq =>
  M.bind (M.opt ((((((((aa==0)&&(ab==0))&&(ac==0))&&(ae==0))&&r9)&&ai)&&(((ag.length:Int)+(ah.length:Int))==0))&&aq) (zal a7 ([(0:Int)])) false) fun a8 =>
  M.pure (((((((((aa==0)&&(ab==0))&&(ac==0))&&(ae==0))&&r9)&&ai)&&(((ag.length:Int)+(ah.length:Int))==0))&&aq)&&a8)))
  else (
  bif (((((((((((aj != 0)||(ak != 0))||(al != 6))||(am != 0))||(ao != 0))||(ap != 0))||(!r7))||(decide (0<(au.length:Int))))||((av.length:Int) != 2))||(!r8))||(!(decide ((⟨(ba:Int),(bb:Int)⟩:Span)=(⟨(0:Int),(0:Int)⟩:Span))))) then (
  M.pure false)
  else (
  M.bind (zae 1) fun (aw,ax,ay,az,aA,aB,aC) =>
  M.bind (zcw aw ax ay az aA aB aC ([(2:Int)])) fun (aD,aE,aa) =>
  M.bind (zae 1) fun (aF,aG,aH,aI,aJ,aK,aL) =>
  M.bind (zaq aF aG aH aI aJ aK aL ([(2:Int)]) ([(250:Int)])) fun (ag,ah,ab) =>
  M.bind (zae 1) fun (aM,aN,aO,aP,aQ,aR,aS) =>
  M.bind (zaq aM aN aO aP aQ aR aS ([(2:Int)]) ([(240:Int)])) fun (bW,aT,ac) =>
  M.bind (zae 1) fun (aU,aV,aW,aX,aY,aZ,a6) =>
  M.bind (zaq aU aV aW aX aY aZ a6 ([(2:Int)]) ([(251:Int)])) fun (a7,bX,ae) =>
  M.bind (M.opt ((((aa==0)&&(ab==0))&&(ac==0))&&(ae==0)) (zal aD ([(250:Int)])) false) fun r9 =>
  M.bind (M.opt (((((aa==0)&&(ab==0))&&(ac==0))&&(ae==0))&&r9) (zal aE ([(0:Int)])) false) fun ai =>
  M.grd ((!((((((aa==0)&&(ab==0))&&(ac==0))&&(ae==0))&&r9)&&ai)||(decide ((-9223372036854775808:Int)<=((ag.length:Int)+(ah.length:Int)))&&decide (((ag.length:Int)+(ah.length:Int))<=(9223372036854775807:Int))))) <|
  M.bind (M.opt (((((((aa==0)&&(ab==0))&&(ac==0))&&(ae==0))&&r9)&&ai)&&(((ag.length:Int)+(ah.length:Int))==0)) (zal aT ([(1:Int)])) false) fun aq =>
  M.bind (M.opt ((((((((aa==0)&&(ab==0))&&(ac==0))&&(ae==0))&&r9)&&ai)&&(((ag.length:Int)+(ah.length:Int))==0))&&aq) (zal a7 ([(0:Int)])) false) fun a8 =>
  M.pure (((((((((aa==0)&&(ab==0))&&(ac==0))&&(ae==0))&&r9)&&ai)&&(((ag.length:Int)+(ah.length:Int))==0))&&aq)&&a8)))
theorem zdv {R:List Chunk}    {r:Bool} (hM:(zb3).Ends r) (w:World) (H:St w w [] R):Ret Tryz.prog 10 #[] w fun v w'=>∃ (y0:Bool),y0=r/\v=B y0/\St w w' [] R:=by
 refine ret_of_W Tryz.func10 rfl rfl rfl ?_;refine kg 6 ?_;obtain ⟨fm,ck,hM⟩:=M.e_bind hM;refine s_call cf17 [I 4] rfl (zah 4 ck _ (H.gt 0)) ?_
 rintro vq fo ⟨r0,r1,r2,r3,r4,r5,r6,cl,cm,cn,co,cp,fp,fq,rfl,hvq,aa,cq⟩
 subst vq;(try dsimp only at hM);replace H:=H.bk aa;clear aa;refine s_val (x_bld (ps:=[(0,I 0)]) (zs:=[I 0,I 0]) (L':=[I 0,I 0]) rfl Tryz.underlying49 Al49 rfl (Bd49 Tryz.underlying49) (.cons (cs:=[I 0]) rfl rfl rfl rfl rfl<|.nil)) ?_;obtain ⟨fu,cr,hM⟩:=M.e_bind hM;refine s_call cf8 [.agg #[cl,cm,cn,co,I r4,I r5,cp],.agg #[I 0,I 0]] rfl (zcq r0 r1 r2 r3 r4 r5 r6 (⟨(0:Int),(0:Int)⟩:Dem) (rdo 0) (H.os 0) (rdo 1) (H.os 1) (rdo 2) (H.os 2) (rdo 3) (H.os 3) (Reads.sup (rdo 4) (Reads.of (k:=5) rfl roLe)) (rowSl rfl (H.get (k:=4) rfl) (roLe _ (H.get (k:=5) rfl)) cq) cr _ (H.gt 6)) ?_
 rintro vq fv ⟨bR,am,aO,rfl,hvq,aa⟩
 subst vq;(try dsimp only at hM);replace H:=H.bk aa;clear aa;refine kg 6 ?_;replace H:=H.pk [0];refine kg 2 ?_;obtain ⟨fw,ct,hM⟩:=M.e_bind hM;refine s_call cf17 [I 4] rfl (zah 4 ct _ (H.gt 1)) ?_
 rintro vq fx ⟨cu,cv,cw,cx,bS,bT,cy,cz,cA,cB,cC,cD,fy,fA,rfl,hvq,aa,cE⟩
 subst vq;(try dsimp only at hM);replace H:=H.bk aa;clear aa;refine s_val (x_bld (ps:=[(0,I 1)]) (zs:=[I 0,I 0]) (L':=[I 1,I 0]) rfl Tryz.underlying49 Al49 rfl (Bd49 Tryz.underlying49) (.cons (cs:=[I 1]) rfl rfl rfl rfl rfl<|.nil)) ?_;obtain ⟨fB,cF,hM⟩:=M.e_bind hM;refine s_call cf8 [.agg #[cz,cA,cB,cC,I bS,I bT,cD],.agg #[I 1,I 0]] rfl (zcq cu cv cw cx bS bT cy (⟨(1:Int),(0:Int)⟩:Dem) (rdo 0) (H.os 0) (rdo 1) (H.os 1) (rdo 2) (H.os 2) (rdo 3) (H.os 3) (Reads.sup (rdo 4) (Reads.of (k:=5) rfl roLe)) (rowSl rfl (H.get (k:=4) rfl) (roLe _ (H.get (k:=5) rfl)) cE) cF _ (H.gt 7)) ?_
 rintro vq fC ⟨az,ao,cG,rfl,hvq,aa⟩
 subst vq;(try dsimp only at hM);replace H:=H.bk aa;clear aa;refine kg 6 ?_;replace H:=H.pk [0,7];refine kg 2 ?_;obtain ⟨fD,cH,hM⟩:=M.e_bind hM;refine s_call cf17 [I 4] rfl (zah 4 cH _ (H.gt 2)) ?_
 rintro vq fE ⟨cI,cJ,cK,cL,bU,bV,cM,cN,cO,cP,cQ,cR,fF,fG,rfl,hvq,aa,cS⟩
 subst vq;(try dsimp only at hM);replace H:=H.bk aa;clear aa;obtain ⟨fH,cT,hM⟩:=M.e_bind hM;refine s_call cf18 [.agg #[cN,cO,cP,cQ,I bU,I bV,cR]] rfl (zcI cI cJ cK cL bU bV cM (rdo 0) (H.os 0) (rdo 1) (H.os 1) (rdo 2) (H.os 2) (rdo 3) (H.os 3) (Reads.sup (rdo 4) (Reads.of (k:=5) rfl roLe)) (rowSl rfl (H.get (k:=4) rfl) (roLe _ (H.get (k:=5) rfl)) cS) cT _ (H.gt 8)) ?_
 rintro vq fI ⟨fJ,ap,fK,rfl,hvq,aa⟩
 subst vq;(try dsimp only at hM);replace H:=H.bk aa;clear aa;refine kg 6 ?_;replace H:=H.pk [7,8];refine kg 2 ?_;obtain ⟨fL,cU,hM⟩:=M.e_bind hM;refine s_call cf17 [I 3] rfl (zah 3 cU _ (H.gt 2)) ?_
 rintro vq fM ⟨cV,cW,cX,cY,bW,bX,cZ,c6,c7,c8,c9,da,fN,fO,rfl,hvq,aa,db⟩
 subst vq;(try dsimp only at hM);replace H:=H.bk aa;clear aa;obtain ⟨fP,dc,hM⟩:=M.e_bind hM;refine s_call cf18 [.agg #[c6,c7,c8,c9,I bW,I bX,da]] rfl (zcI cV cW cX cY bW bX cZ (rdo 0) (H.os 0) (rdo 1) (H.os 1) (rdo 2) (H.os 2) (rdo 3) (H.os 3) (Reads.sup (rdo 4) (Reads.of (k:=5) rfl roLe)) (rowSl rfl (H.get (k:=4) rfl) (roLe _ (H.get (k:=5) rfl)) db) dc _ (H.gt 8)) ?_
 rintro vq fQ ⟨aA,aq,dd,rfl,hvq,aa⟩
 subst vq;(try dsimp only at hM);replace H:=H.bk aa;clear aa;refine kg 6 ?_;replace H:=H.pk [0,7,8];refine kg 2 ?_;obtain ⟨fR,dg,hM⟩:=M.e_bind hM;refine s_call cf17 [I 1] rfl (zah 1 dg _ (H.gt 3)) ?_
 rintro vq fS ⟨di,dj,dk,dm,bY,bZ,dp,dq,dr,dt,du,dv,fT,fU,rfl,hvq,aa,dw⟩
 subst vq;(try dsimp only at hM);replace H:=H.bk aa;clear aa;obtain ⟨fV,dx,hM⟩:=M.e_bind hM;refine s_call cf18 [.agg #[dq,dr,dt,du,I bY,I bZ,dv]] rfl (zcI di dj dk dm bY bZ dp (rdo 0) (H.os 0) (rdo 1) (H.os 1) (rdo 2) (H.os 2) (rdo 3) (H.os 3) (Reads.sup (rdo 4) (Reads.of (k:=5) rfl roLe)) (rowSl rfl (H.get (k:=4) rfl) (roLe _ (H.get (k:=5) rfl)) dw) dx _ (H.gt 9)) ?_
 rintro vq fW ⟨b3,au,aP,rfl,hvq,aa⟩
 subst vq;(try dsimp only at hM);replace H:=H.bk aa;clear aa;refine kg 6 ?_;replace H:=H.pk [0,7,8,9];refine kg 2 ?_;obtain ⟨fX,dz,hM⟩:=M.e_bind hM;refine s_call cf17 [I 4] rfl (zah 4 dz _ (H.gt 4)) ?_
 rintro vq fY ⟨dA,dB,dC,dD,b4,b6,dE,dF,dG,dH,dJ,dK,fZ,f0,rfl,hvq,aa,dL⟩
 subst vq;(try dsimp only at hM);replace H:=H.bk aa;clear aa;obtain ⟨f6,dM,hM⟩:=M.e_bind hM;refine s_call cf12 [.agg #[dF,dG,dH,dJ,I b4,I b6,dK],I 0,I 0] rfl (zdg dA dB dC dD b4 b6 dE 0 0 (rdo 0) (H.os 0) (rdo 1) (H.os 1) (rdo 2) (H.os 2) (rdo 3) (H.os 3) (Reads.sup (rdo 4) (Reads.of (k:=5) rfl roLe)) (rowSl rfl (H.get (k:=4) rfl) (roLe _ (H.get (k:=5) rfl)) dL) dM _ (H.gt 10)) ?_
 rintro vq f9 ⟨av,aw,ax,rfl,hvq,aa⟩
 subst vq;(try dsimp only at hM);replace H:=H.bk aa;clear aa;refine kg 3 ?_;refine t_alloc (cs:=[I 0,I 0]) H Al24 rfl ?_;intro dN gc H;refine t_sw 0 0 [I av,I aw] (.agg #[I av,I aw]) H rfl rfl Sz24 rfl rfl rfl rfl ?_;intro gf H;refine kg 2 ?_;replace H:=H.pk [0,7,8,9,10];refine kg 2 ?_;refine W.draw (fun W=>St w W [cBlk dN [I av,I aw] 24,cOwn (α:=Int) 3 aP b3,cOwn (α:=Int) 3 dd aA,cOwn (α:=Int) 3 cG az,cOwn (α:=Int) 3 aO bR] R) [(0,true),(1,true),(2,true),(3,true),(4,true),(5,true),(6,true),(7,true),(8,true),(9,true),(10,true),(11,true),(12,true),(13,true),(14,true),(15,true),(16,true),(17,true),(18,true),(19,true),(20,true),(21,true),(22,true),(23,true),(24,false),(25,false),(26,true),(27,true),(28,true),(29,true),(30,true),(31,true),(32,true),(33,true),(34,true),(35,true),(36,true),(37,true),(38,true),(39,true),(40,false),(41,false),(42,true),(43,true),(44,true),(45,true),(46,false),(47,true),(48,true)] mixed (by decide +kernel) rfl ?_;intro gg b7;replace H:=H.ext b7;clear b7
 refine ⟨(H.pk [0,1,2,3,4]),?_⟩
 refine kg 24 ?_;refine d_l rfl ?_;refine t_gbs (α:=Int) T29 (!((((((am != 0)||(ao != 0))||(ap != 6))||(aq != 0))||(au != 0))||(ax != 0))) (gy_f rfl) [I 0] [(0:Int)] H (fun _=>rfl) (.cons rfl (Flat.rep_enc _ (0:Int))<|.nil) rfl rfl rfl ?_;intro b8 gh gi H dO
 refine s_nil ⟨(H.pk [1,2,3,4,5]),?_⟩
 refine d_l rfl ?_;obtain ⟨r7,dP,hM⟩:=M.e_bind hM;refine t_gcall (!((((((am != 0)||(ao != 0))||(ap != 6))||(aq != 0))||(au != 0))||(ax != 0))) (gy_f rfl) cf19 (B r7) (fun _=>[aO,b8]) (fun hg=>lst2 (gd_of hg (aO)) (gd_of hg (b8))) H (fun hg=>(zan bR ([(0:Int)]) (rdo 5) (H.os 5) (Reads.of (k:=0) rfl roLe) (dO hg) (M.e_opt dP hg) _ (H.give (A:=[]) rfl)).mono fun v_ w_ ⟨y_,ab,ac,H_⟩=>by subst ab; exact ⟨ac,H.via H_⟩) ?_;intro gj H
 refine s_nil ⟨(H.pk [1,2,3,4,5]),?_⟩
 refine kg 14 ?_;refine d_l rfl ?_;refine t_gbs (α:=Int) T29 (!(((((((((am != 0)||(ao != 0))||(ap != 6))||(aq != 0))||(au != 0))||(ax != 0))||(!r7))||(decide (0<(az.length:Int))))||((aA.length:Int) != 2))) (gy_f rfl) [I 2] [(2:Int)] H (fun _=>rfl) (.cons rfl (Flat.rep_enc _ (2:Int))<|.nil) rfl rfl rfl ?_;intro b9 gk gl H dQ
 refine s_nil ⟨(H.pk [2,3,4,5,6]),?_⟩
 refine d_l rfl ?_;obtain ⟨r8,dR,hM⟩:=M.e_bind hM;refine t_gcall (!(((((((((am != 0)||(ao != 0))||(ap != 6))||(aq != 0))||(au != 0))||(ax != 0))||(!r7))||(decide (0<(az.length:Int))))||((aA.length:Int) != 2))) (gy_f rfl) cf19 (B r8) (fun _=>[aP,b9]) (fun hg=>lst2 (gd_of hg (aP)) (gd_of hg (b9))) H (fun hg=>(zan b3 ([(2:Int)]) (rdo 3) (H.os 3) (Reads.of (k:=0) rfl roLe) (dQ hg) (M.e_opt dR hg) _ (H.give (A:=[]) rfl)).mono fun v_ w_ ⟨y_,ab,ac,H_⟩=>by subst ab; exact ⟨ac,H.via H_⟩) ?_;intro gm H
 refine s_nil ⟨(H.pk [2,3,4,5,6]),?_⟩
 refine kg 4 ?_;refine d_l rfl ?_
 refine g_splitV (!((((((((((am != 0)||(ao != 0))||(ap != 6))||(aq != 0))||(au != 0))||(ax != 0))||(!r7))||(decide (0<(az.length:Int))))||((aA.length:Int) != 2))||(!r8))) (.agg #[I 0,I 0]) (gy_f rfl) (fun aQ=>?_) (fun aQ=>?_)
 ·replace hM:=M.e_t hM aQ;obtain ⟨gn,dS,hM⟩:=M.e_bind hM;refine s_call cf20 [I 6,I 10] rfl (zbn 6 10 dS _ (H.gt 7)) ?_
  rintro vq gp ⟨ca,cb,rfl,hvq,aa⟩
  subst vq;(try dsimp only at hM);replace H:=H.bk aa;clear aa
  refine s_nil ⟨(H.pk [2,3,4,5,6]),?_⟩
  refine d_qg (!((((((((((am != 0)||(ao != 0))||(ap != 6))||(aq != 0))||(au != 0))||(ax != 0))||(!r7))||(decide (0<(az.length:Int))))||((aA.length:Int) != 2))||(!r8))) rfl (gy_f rfl) (fun hg=>(fun w' H=>x_neS (eqT24 (⟨(av:Int),(aw:Int)⟩:Span) (⟨(ca:Int),(cb:Int)⟩:Span) _) gdT24 (gd_of hg (.agg #[I av,I aw])) rfl)) ?_;refine kg 2 ?_;replace H:=H.pk []
  refine W.cond (((((((((((am != 0)||(ao != 0))||(ap != 6))||(aq != 0))||(au != 0))||(ax != 0))||(!r7))||(decide (0<(az.length:Int))))||((aA.length:Int) != 2))||(!r8))||(!(decide ((⟨(av:Int),(aw:Int)⟩:Span)=(⟨(ca:Int),(cb:Int)⟩:Span))))) rfl (fun aR=>?_) (fun aR=>?_)
  ·replace hM:=M.e_t hM aR;refine kg 4 ?_;refine W.ret ?_
   have ab:=M.e_pure hM
   exact ⟨_,resE_tmp rfl,⟨false,ab,rfl,H⟩⟩
  replace hM:=M.e_f hM aR;refine kg 3 ?_;obtain ⟨gq,dU,hM⟩:=M.e_bind hM;refine s_call cf17 [I 1] rfl (zah 1 dU _ (H.gt 0)) ?_
  rintro vq gr ⟨aS,aT,aU,aV,aB,aC,aW,aX,aY,aZ,a6,a7,dV,dW,rfl,hvq,aa,dX⟩
  subst vq;(try dsimp only at hM);replace H:=H.bk aa;clear aa;refine t_bs (α:=Int) T29 [I 2] [(2:Int)] H rfl (.cons rfl (Flat.rep_enc _ (2:Int))<|.nil) rfl rfl rfl ?_;intro dY gw H;obtain ⟨gx,dZ,hM⟩:=M.e_bind hM;refine s_call cf21 [.agg #[aX,aY,aZ,a6,I aB,I aC,a7],dY] rfl (zcX aS aT aU aV aB aC aW ([(2:Int)]) (rdo 1) (H.os 1) (rdo 2) (H.os 2) (rdo 3) (H.os 3) (rdo 4) (H.os 4) (Reads.sup (rdo 5) (Reads.of (k:=6) rfl roLe)) (rowSl rfl (H.get (k:=5) rfl) (roLe _ (H.get (k:=6) rfl)) dX) (rdo 0) (H.os 0) dZ _ (H.gt 7)) ?_
  rintro vq gy ⟨a8,ba,ae,aD,aE,rfl,hvq,aa⟩
  subst vq;(try dsimp only at hM);replace H:=H.bk aa;clear aa;refine kg 8 ?_;replace H:=H.pk [0,1];refine kg 2 ?_;obtain ⟨gz,d4,hM⟩:=M.e_bind hM;refine s_call cf17 [I 1] rfl (zah 1 d4 _ (H.gt 2)) ?_
  rintro vq gA ⟨bb,bc,bf,bg,aF,aG,bh,bi,bj,bm,bn,bo,d5,d6,rfl,hvq,aa,d7⟩
  subst vq;(try dsimp only at hM);replace H:=H.bk aa;clear aa;refine t_bs (α:=Int) T29 [I 2] [(2:Int)] H rfl (.cons rfl (Flat.rep_enc _ (2:Int))<|.nil) rfl rfl rfl ?_;intro d8 gB H;refine t_bs (α:=Int) T29 [I 250] [(250:Int)] H rfl (.cons rfl (Flat.rep_enc _ (250:Int))<|.nil) rfl rfl rfl ?_;intro d9 gC H;obtain ⟨gD,ea,hM⟩:=M.e_bind hM;refine s_call cf22 [.agg #[bi,bj,bm,bn,I aF,I aG,bo],d8,d9] rfl (zaJ bb bc bf bg aF aG bh ([(2:Int)]) ([(250:Int)]) (rdo 2) (H.os 2) (rdo 3) (H.os 3) (rdo 4) (H.os 4) (rdo 5) (H.os 5) (Reads.sup (rdo 6) (Reads.of (k:=7) rfl roLe)) (rowSl rfl (H.get (k:=6) rfl) (roLe _ (H.get (k:=7) rfl)) d7) (rdo 1) (H.os 1) (rdo 0) (H.os 0) ea _ (H.gt 10)) ?_
  rintro vq gE ⟨ak,al,ag,eb,ec,rfl,hvq,aa⟩
  subst vq;(try dsimp only at hM);replace H:=H.bk aa;clear aa;refine kg 8 ?_;replace H:=H.pk [0,1,10,11];refine kg 2 ?_;obtain ⟨gF,ed,hM⟩:=M.e_bind hM;refine s_call cf17 [I 1] rfl (zah 1 ed _ (H.gt 4)) ?_
  rintro vq gG ⟨bp,br,bt,bu,aH,aI,bv,bw,bx,bz,bA,bB,ef,eg,rfl,hvq,aa,eh⟩
  subst vq;(try dsimp only at hM);replace H:=H.bk aa;clear aa;refine t_bs (α:=Int) T29 [I 2] [(2:Int)] H rfl (.cons rfl (Flat.rep_enc _ (2:Int))<|.nil) rfl rfl rfl ?_;intro ei gH H;refine t_bs (α:=Int) T29 [I 240] [(240:Int)] H rfl (.cons rfl (Flat.rep_enc _ (240:Int))<|.nil) rfl rfl rfl ?_;intro ej gI H;obtain ⟨gJ,el,hM⟩:=M.e_bind hM;refine s_call cf22 [.agg #[bw,bx,bz,bA,I aH,I aI,bB],ei,ej] rfl (zaJ bp br bt bu aH aI bv ([(2:Int)]) ([(240:Int)]) (rdo 2) (H.os 2) (rdo 3) (H.os 3) (rdo 4) (H.os 4) (rdo 5) (H.os 5) (Reads.sup (rdo 6) (Reads.of (k:=7) rfl roLe)) (rowSl rfl (H.get (k:=6) rfl) (roLe _ (H.get (k:=7) rfl)) eh) (rdo 1) (H.os 1) (rdo 0) (H.os 0) el _ (H.gt 12)) ?_
  rintro vq gK ⟨em,bC,ah,eo,aJ,rfl,hvq,aa⟩
  subst vq;(try dsimp only at hM);replace H:=H.bk aa;clear aa;refine kg 8 ?_;replace H:=H.pk [1,10,11,12,13];refine kg 2 ?_;obtain ⟨gL,ep,hM⟩:=M.e_bind hM;refine s_call cf17 [I 1] rfl (zah 1 ep _ (H.gt 5)) ?_
  rintro vq gM ⟨bD,bE,bF,bG,aK,aL,bH,bI,bJ,bK,bL,bM,eq,er,rfl,hvq,aa,eu⟩
  subst vq;(try dsimp only at hM);replace H:=H.bk aa;clear aa;refine t_bs (α:=Int) T29 [I 2] [(2:Int)] H rfl (.cons rfl (Flat.rep_enc _ (2:Int))<|.nil) rfl rfl rfl ?_;intro ew gN H;refine t_bs (α:=Int) T29 [I 251] [(251:Int)] H rfl (.cons rfl (Flat.rep_enc _ (251:Int))<|.nil) rfl rfl rfl ?_;intro ey gO H;obtain ⟨gP,ez,hM⟩:=M.e_bind hM;refine s_call cf22 [.agg #[bI,bJ,bK,bL,I aK,I aL,bM],ew,ey] rfl (zaJ bD bE bF bG aK aL bH ([(2:Int)]) ([(251:Int)]) (rdo 2) (H.os 2) (rdo 3) (H.os 3) (rdo 4) (H.os 4) (rdo 5) (H.os 5) (Reads.sup (rdo 6) (Reads.of (k:=7) rfl roLe)) (rowSl rfl (H.get (k:=6) rfl) (roLe _ (H.get (k:=7) rfl)) eu) (rdo 1) (H.os 1) (rdo 0) (H.os 0) ez _ (H.gt 13)) ?_
  rintro vq gQ ⟨bN,eA,ai,aM,eB,rfl,hvq,aa⟩
  subst vq;(try dsimp only at hM);replace H:=H.bk aa;clear aa;refine kg 8 ?_;replace H:=H.pk [0,10,11,12,13,14];refine kg 18 ?_;refine t_gbs (α:=Int) T29 ((((ae==0)&&(ag==0))&&(ah==0))&&(ai==0)) (gy_t rfl) [I 250] [(250:Int)] H (fun _=>rfl) (.cons rfl (Flat.rep_enc _ (250:Int))<|.nil) rfl rfl rfl ?_;intro cc eC gR H eD;obtain ⟨r9,eE,hM⟩:=M.e_bind hM;refine t_gcall ((((ae==0)&&(ag==0))&&(ah==0))&&(ai==0)) (gy_t rfl) cf19 (B r9) (fun _=>[aD,cc]) (fun hg=>lst2 (gd_of hg (aD)) (gd_of hg (cc))) H (fun hg=>(zan a8 ([(250:Int)]) (rdo 5) (H.os 5) (Reads.of (k:=0) rfl roLe) (eD hg) (M.e_opt eE hg) _ (H.give (A:=[]) rfl)).mono fun v_ w_ ⟨y_,ab,ac,H_⟩=>by subst ab; exact ⟨ac,H.via H_⟩) ?_;intro gS H;refine kg 3 ?_;refine t_gbs (α:=Int) T29 (((((ae==0)&&(ag==0))&&(ah==0))&&(ai==0))&&r9) (gy_t rfl) [I 0] [(0:Int)] H (fun _=>rfl) (.cons rfl (Flat.rep_enc _ (0:Int))<|.nil) rfl rfl rfl ?_;intro cd eF gT H eG;obtain ⟨aj,eH,hM⟩:=M.e_bind hM;refine t_gcall (((((ae==0)&&(ag==0))&&(ah==0))&&(ai==0))&&r9) (gy_t rfl) cf19 (B aj) (fun _=>[aE,cd]) (fun hg=>lst2 (gd_of hg (aE)) (gd_of hg (cd))) H (fun hg=>(zan ba ([(0:Int)]) (rdo 7) (H.os 7) (Reads.of (k:=0) rfl roLe) (eG hg) (M.e_opt eH hg) _ (H.give (A:=[]) rfl)).mono fun v_ w_ ⟨y_,ab,ac,H_⟩=>by subst ab; exact ⟨ac,H.via H_⟩) ?_;intro gU H;obtain ⟨bO,hM⟩:=M.e_grd hM
  replace bO:=M.imp_of bO
  simp only [Bool.and_eq_true,decide_eq_true_eq] at bO
  refine kg 11 ?_;refine t_gbs (α:=Int) T29 (((((((ae==0)&&(ag==0))&&(ah==0))&&(ai==0))&&r9)&&aj)&&(((ak.length:Int)+(al.length:Int))==0)) (gy_t rfl) [I 1] [(1:Int)] H (fun _=>rfl) (.cons rfl (Flat.rep_enc _ (1:Int))<|.nil) rfl rfl rfl ?_;intro ce eI gV H eJ;obtain ⟨ay,eK,hM⟩:=M.e_bind hM;refine t_gcall (((((((ae==0)&&(ag==0))&&(ah==0))&&(ai==0))&&r9)&&aj)&&(((ak.length:Int)+(al.length:Int))==0)) (gy_t rfl) cf19 (B ay) (fun _=>[aJ,ce]) (fun hg=>lst2 (gd_of hg (aJ)) (gd_of hg (ce))) H (fun hg=>(zan bC ([(1:Int)]) (rdo 4) (H.os 4) (Reads.of (k:=0) rfl roLe) (eJ hg) (M.e_opt eK hg) _ (H.give (A:=[]) rfl)).mono fun v_ w_ ⟨y_,ab,ac,H_⟩=>by subst ab; exact ⟨ac,H.via H_⟩) ?_;intro gW H;refine kg 3 ?_;refine t_gbs (α:=Int) T29 ((((((((ae==0)&&(ag==0))&&(ah==0))&&(ai==0))&&r9)&&aj)&&(((ak.length:Int)+(al.length:Int))==0))&&ay) (gy_t rfl) [I 0] [(0:Int)] H (fun _=>rfl) (.cons rfl (Flat.rep_enc _ (0:Int))<|.nil) rfl rfl rfl ?_;intro cf eL gX H eM;obtain ⟨aN,eN,hM⟩:=M.e_bind hM;refine t_gcall ((((((((ae==0)&&(ag==0))&&(ah==0))&&(ai==0))&&r9)&&aj)&&(((ak.length:Int)+(al.length:Int))==0))&&ay) (gy_t rfl) cf19 (B aN) (fun _=>[aM,cf]) (fun hg=>lst2 (gd_of hg (aM)) (gd_of hg (cf))) H (fun hg=>(zan bN ([(0:Int)]) (rdo 4) (H.os 4) (Reads.of (k:=0) rfl roLe) (eM hg) (M.e_opt eN hg) _ (H.give (A:=[]) rfl)).mono fun v_ w_ ⟨y_,ab,ac,H_⟩=>by subst ab; exact ⟨ac,H.via H_⟩) ?_;intro gY H;refine kg 3 ?_;replace H:=H.pk [];refine W.ret ?_
  have ab:=M.e_pure hM
  exact ⟨_,resE_tmp rfl,⟨(((((((((ae==0)&&(ag==0))&&(ah==0))&&(ai==0))&&r9)&&aj)&&(((ak.length:Int)+(al.length:Int))==0))&&ay)&&aN),ab,rfl,H⟩⟩
 replace hM:=M.e_f hM aQ
 refine s_nil ⟨(H.pk [2,3,4,5,6]),?_⟩
 refine d_qg (!((((((((((am != 0)||(ao != 0))||(ap != 6))||(aq != 0))||(au != 0))||(ax != 0))||(!r7))||(decide (0<(az.length:Int))))||((aA.length:Int) != 2))||(!r8))) rfl (gy_f rfl) (fun hg=>(fun w' H=>x_neS (eqT24 (⟨(av:Int),(aw:Int)⟩:Span) (⟨(0:Int),(0:Int)⟩:Span) _) gdT24 (gd_of hg (.agg #[I av,I aw])) (gd_of hg (.agg #[I 0,I 0])))) ?_;refine kg 2 ?_;replace H:=H.pk []
 refine W.cond (((((((((((am != 0)||(ao != 0))||(ap != 6))||(aq != 0))||(au != 0))||(ax != 0))||(!r7))||(decide (0<(az.length:Int))))||((aA.length:Int) != 2))||(!r8))||(!(decide ((⟨(av:Int),(aw:Int)⟩:Span)=(⟨(0:Int),(0:Int)⟩:Span))))) rfl (fun bP=>?_) (fun bP=>?_)
 ·replace hM:=M.e_t hM bP;refine kg 4 ?_;refine W.ret ?_
  have ab:=M.e_pure hM
  exact ⟨_,resE_tmp rfl,⟨false,ab,rfl,H⟩⟩
 replace hM:=M.e_f hM bP;refine kg 3 ?_;obtain ⟨gZ,eO,hM⟩:=M.e_bind hM;refine s_call cf17 [I 1] rfl (zah 1 eO _ (H.gt 0)) ?_
 rintro vq g0 ⟨aS,aT,aU,aV,aB,aC,aW,aX,aY,aZ,a6,a7,dV,dW,rfl,hvq,aa,eP⟩
 subst vq;(try dsimp only at hM);replace H:=H.bk aa;clear aa;refine t_bs (α:=Int) T29 [I 2] [(2:Int)] H rfl (.cons rfl (Flat.rep_enc _ (2:Int))<|.nil) rfl rfl rfl ?_;intro eQ g6 H;obtain ⟨g7,eR,hM⟩:=M.e_bind hM;refine s_call cf21 [.agg #[aX,aY,aZ,a6,I aB,I aC,a7],eQ] rfl (zcX aS aT aU aV aB aC aW ([(2:Int)]) (rdo 1) (H.os 1) (rdo 2) (H.os 2) (rdo 3) (H.os 3) (rdo 4) (H.os 4) (Reads.sup (rdo 5) (Reads.of (k:=6) rfl roLe)) (rowSl rfl (H.get (k:=5) rfl) (roLe _ (H.get (k:=6) rfl)) eP) (rdo 0) (H.os 0) eR _ (H.gt 7)) ?_
 rintro vq g8 ⟨a8,ba,ae,aD,aE,rfl,hvq,aa⟩
 subst vq;(try dsimp only at hM);replace H:=H.bk aa;clear aa;refine kg 8 ?_;replace H:=H.pk [0,1];refine kg 2 ?_;obtain ⟨g9,eS,hM⟩:=M.e_bind hM;refine s_call cf17 [I 1] rfl (zah 1 eS _ (H.gt 2)) ?_
 rintro vq hJ ⟨bb,bc,bf,bg,aF,aG,bh,bi,bj,bm,bn,bo,d5,d6,rfl,hvq,aa,eT⟩
 subst vq;(try dsimp only at hM);replace H:=H.bk aa;clear aa;refine t_bs (α:=Int) T29 [I 2] [(2:Int)] H rfl (.cons rfl (Flat.rep_enc _ (2:Int))<|.nil) rfl rfl rfl ?_;intro eU hO H;refine t_bs (α:=Int) T29 [I 250] [(250:Int)] H rfl (.cons rfl (Flat.rep_enc _ (250:Int))<|.nil) rfl rfl rfl ?_;intro eV hP H;obtain ⟨hZ,eW,hM⟩:=M.e_bind hM;refine s_call cf22 [.agg #[bi,bj,bm,bn,I aF,I aG,bo],eU,eV] rfl (zaJ bb bc bf bg aF aG bh ([(2:Int)]) ([(250:Int)]) (rdo 2) (H.os 2) (rdo 3) (H.os 3) (rdo 4) (H.os 4) (rdo 5) (H.os 5) (Reads.sup (rdo 6) (Reads.of (k:=7) rfl roLe)) (rowSl rfl (H.get (k:=6) rfl) (roLe _ (H.get (k:=7) rfl)) eT) (rdo 1) (H.os 1) (rdo 0) (H.os 0) eW _ (H.gt 10)) ?_
 rintro vq h9 ⟨ak,al,ag,eb,ec,rfl,hvq,aa⟩
 subst vq;(try dsimp only at hM);replace H:=H.bk aa;clear aa;refine kg 8 ?_;replace H:=H.pk [0,1,10,11];refine kg 2 ?_;obtain ⟨ia,eX,hM⟩:=M.e_bind hM;refine s_call cf17 [I 1] rfl (zah 1 eX _ (H.gt 4)) ?_
 rintro vq ib ⟨bp,br,bt,bu,aH,aI,bv,bw,bx,bz,bA,bB,ef,eg,rfl,hvq,aa,eY⟩
 subst vq;(try dsimp only at hM);replace H:=H.bk aa;clear aa;refine t_bs (α:=Int) T29 [I 2] [(2:Int)] H rfl (.cons rfl (Flat.rep_enc _ (2:Int))<|.nil) rfl rfl rfl ?_;intro eZ ic H;refine t_bs (α:=Int) T29 [I 240] [(240:Int)] H rfl (.cons rfl (Flat.rep_enc _ (240:Int))<|.nil) rfl rfl rfl ?_;intro e5 ie H;obtain ⟨ig,e6,hM⟩:=M.e_bind hM;refine s_call cf22 [.agg #[bw,bx,bz,bA,I aH,I aI,bB],eZ,e5] rfl (zaJ bp br bt bu aH aI bv ([(2:Int)]) ([(240:Int)]) (rdo 2) (H.os 2) (rdo 3) (H.os 3) (rdo 4) (H.os 4) (rdo 5) (H.os 5) (Reads.sup (rdo 6) (Reads.of (k:=7) rfl roLe)) (rowSl rfl (H.get (k:=6) rfl) (roLe _ (H.get (k:=7) rfl)) eY) (rdo 1) (H.os 1) (rdo 0) (H.os 0) e6 _ (H.gt 12)) ?_
 rintro vq ii ⟨em,bC,ah,eo,aJ,rfl,hvq,aa⟩
 subst vq;(try dsimp only at hM);replace H:=H.bk aa;clear aa;refine kg 8 ?_;replace H:=H.pk [1,10,11,12,13];refine kg 2 ?_;obtain ⟨ij,e7,hM⟩:=M.e_bind hM;refine s_call cf17 [I 1] rfl (zah 1 e7 _ (H.gt 5)) ?_
 rintro vq ik ⟨bD,bE,bF,bG,aK,aL,bH,bI,bJ,bK,bL,bM,eq,er,rfl,hvq,aa,e8⟩
 subst vq;(try dsimp only at hM);replace H:=H.bk aa;clear aa;refine t_bs (α:=Int) T29 [I 2] [(2:Int)] H rfl (.cons rfl (Flat.rep_enc _ (2:Int))<|.nil) rfl rfl rfl ?_;intro e9 il H;refine t_bs (α:=Int) T29 [I 251] [(251:Int)] H rfl (.cons rfl (Flat.rep_enc _ (251:Int))<|.nil) rfl rfl rfl ?_;intro fa im H;obtain ⟨io,fb,hM⟩:=M.e_bind hM;refine s_call cf22 [.agg #[bI,bJ,bK,bL,I aK,I aL,bM],e9,fa] rfl (zaJ bD bE bF bG aK aL bH ([(2:Int)]) ([(251:Int)]) (rdo 2) (H.os 2) (rdo 3) (H.os 3) (rdo 4) (H.os 4) (rdo 5) (H.os 5) (Reads.sup (rdo 6) (Reads.of (k:=7) rfl roLe)) (rowSl rfl (H.get (k:=6) rfl) (roLe _ (H.get (k:=7) rfl)) e8) (rdo 1) (H.os 1) (rdo 0) (H.os 0) fb _ (H.gt 13)) ?_
 rintro vq ip ⟨bN,eA,ai,aM,eB,rfl,hvq,aa⟩
 subst vq;(try dsimp only at hM);replace H:=H.bk aa;clear aa;refine kg 8 ?_;replace H:=H.pk [0,10,11,12,13,14];refine kg 18 ?_;refine t_gbs (α:=Int) T29 ((((ae==0)&&(ag==0))&&(ah==0))&&(ai==0)) (gy_t rfl) [I 250] [(250:Int)] H (fun _=>rfl) (.cons rfl (Flat.rep_enc _ (250:Int))<|.nil) rfl rfl rfl ?_;intro cg eC iq H fd;obtain ⟨r9,fe,hM⟩:=M.e_bind hM;refine t_gcall ((((ae==0)&&(ag==0))&&(ah==0))&&(ai==0)) (gy_t rfl) cf19 (B r9) (fun _=>[aD,cg]) (fun hg=>lst2 (gd_of hg (aD)) (gd_of hg (cg))) H (fun hg=>(zan a8 ([(250:Int)]) (rdo 5) (H.os 5) (Reads.of (k:=0) rfl roLe) (fd hg) (M.e_opt fe hg) _ (H.give (A:=[]) rfl)).mono fun v_ w_ ⟨y_,ab,ac,H_⟩=>by subst ab; exact ⟨ac,H.via H_⟩) ?_;intro ir H;refine kg 3 ?_;refine t_gbs (α:=Int) T29 (((((ae==0)&&(ag==0))&&(ah==0))&&(ai==0))&&r9) (gy_t rfl) [I 0] [(0:Int)] H (fun _=>rfl) (.cons rfl (Flat.rep_enc _ (0:Int))<|.nil) rfl rfl rfl ?_;intro ch eF iu H ff;obtain ⟨aj,fg,hM⟩:=M.e_bind hM;refine t_gcall (((((ae==0)&&(ag==0))&&(ah==0))&&(ai==0))&&r9) (gy_t rfl) cf19 (B aj) (fun _=>[aE,ch]) (fun hg=>lst2 (gd_of hg (aE)) (gd_of hg (ch))) H (fun hg=>(zan ba ([(0:Int)]) (rdo 7) (H.os 7) (Reads.of (k:=0) rfl roLe) (ff hg) (M.e_opt fg hg) _ (H.give (A:=[]) rfl)).mono fun v_ w_ ⟨y_,ab,ac,H_⟩=>by subst ab; exact ⟨ac,H.via H_⟩) ?_;intro iw H;obtain ⟨bQ,hM⟩:=M.e_grd hM
 replace bQ:=M.imp_of bQ
 simp only [Bool.and_eq_true,decide_eq_true_eq] at bQ
 refine kg 11 ?_;refine t_gbs (α:=Int) T29 (((((((ae==0)&&(ag==0))&&(ah==0))&&(ai==0))&&r9)&&aj)&&(((ak.length:Int)+(al.length:Int))==0)) (gy_t rfl) [I 1] [(1:Int)] H (fun _=>rfl) (.cons rfl (Flat.rep_enc _ (1:Int))<|.nil) rfl rfl rfl ?_;intro ci eI iy H fh;obtain ⟨ay,fi,hM⟩:=M.e_bind hM;refine t_gcall (((((((ae==0)&&(ag==0))&&(ah==0))&&(ai==0))&&r9)&&aj)&&(((ak.length:Int)+(al.length:Int))==0)) (gy_t rfl) cf19 (B ay) (fun _=>[aJ,ci]) (fun hg=>lst2 (gd_of hg (aJ)) (gd_of hg (ci))) H (fun hg=>(zan bC ([(1:Int)]) (rdo 4) (H.os 4) (Reads.of (k:=0) rfl roLe) (fh hg) (M.e_opt fi hg) _ (H.give (A:=[]) rfl)).mono fun v_ w_ ⟨y_,ab,ac,H_⟩=>by subst ab; exact ⟨ac,H.via H_⟩) ?_;intro iz H;refine kg 3 ?_;refine t_gbs (α:=Int) T29 ((((((((ae==0)&&(ag==0))&&(ah==0))&&(ai==0))&&r9)&&aj)&&(((ak.length:Int)+(al.length:Int))==0))&&ay) (gy_t rfl) [I 0] [(0:Int)] H (fun _=>rfl) (.cons rfl (Flat.rep_enc _ (0:Int))<|.nil) rfl rfl rfl ?_;intro cj eL iA H fj;obtain ⟨aN,fk,hM⟩:=M.e_bind hM;refine t_gcall ((((((((ae==0)&&(ag==0))&&(ah==0))&&(ai==0))&&r9)&&aj)&&(((ak.length:Int)+(al.length:Int))==0))&&ay) (gy_t rfl) cf19 (B aN) (fun _=>[aM,cj]) (fun hg=>lst2 (gd_of hg (aM)) (gd_of hg (cj))) H (fun hg=>(zan bN ([(0:Int)]) (rdo 4) (H.os 4) (Reads.of (k:=0) rfl roLe) (fj hg) (M.e_opt fk hg) _ (H.give (A:=[]) rfl)).mono fun v_ w_ ⟨y_,ab,ac,H_⟩=>by subst ab; exact ⟨ac,H.via H_⟩) ?_;intro iB H;refine kg 3 ?_;replace H:=H.pk [];refine W.ret ?_
 have ab:=M.e_pure hM
 exact ⟨_,resE_tmp rfl,⟨(((((((((ae==0)&&(ag==0))&&(ah==0))&&(ai==0))&&r9)&&aj)&&(((ak.length:Int)+(al.length:Int))==0))&&ay)&&aN),ab,rfl,H⟩⟩

end Go.Proofs.YtdmdhmineljlhabGreat
end
