/- Part 3 of the texts on which the proof rests. Conditions: none. -/
import Derived.Test.YtnncijcapdnlgaaGreatZA2
set_option linter.unusedVariables false
set_option linter.unusedSimpArgs false
set_option linter.unusedSectionVars false
section
set_option maxRecDepth 100000
set_option maxHeartbeats 16000000
namespace Go.Proofs.YtnncijcapdnlgaaGreat
open Go Go.Nm
attribute [local irreducible] gd execOp SL SLD SLT WR
def zat (aa:List Sect) (ac:List Mrk) (ae:List Rch) (r_:Rch) (r0:Int) (r2:Bool):(Int × Int × Int × Int × Int)->Int->M ((Int × Int × Int × Int × Int) ⊕ Unit):=fun (s,s2,s3,s4,s5) x =>
  bif r2 then (
  M.fail)
  else (
  M.bind (zaK aa ac ae r_ (⟨(max r0 x:Int),(x:Int),(r_.hi:Int),(r_.hi:Int)⟩:Cas)) fun r4 =>
  M.bind (M.opt (!(decide ((⟨(s2:Int),(s3:Int),(s4:Int),(s5:Int)⟩:Cas)=(⟨(0:Int),(0:Int),(0:Int),(0:Int)⟩:Cas)))) (zbz r4 s) false) fun r5 =>
  bif ((decide ((⟨(s2:Int),(s3:Int),(s4:Int),(s5:Int)⟩:Cas)=(⟨(0:Int),(0:Int),(0:Int),(0:Int)⟩:Cas)))||r5) then (
  M.pure (.inl (r4,max r0 x,x,r_.hi,r_.hi)))
  else (
  M.pure (.inl (s,s2,s3,s4,s5))))
def zbH (aa:List Sect) (ac:List Mrk) (ae:List Rch) (marks:List Int) (r_:Rch):M (Int × Int × Int × Int × Int) :=
  M.bind (zas aa ac ae marks r_.up) fun (r0,r1) =>
  M.bind (zas aa ac ae marks r_.down) fun (ag,ah) =>
  M.bind (zbz 1 0) fun r2 =>
  bif !r2 then (
  M.bind (zaG ah ([(r1:Int)])) fun r3 =>
  M.bind (zbx (⟨(ag:Int),(r3:Int)⟩:Span)) fun (ai,aj) =>
  M.bind (zap (M.yl (zat aa ac ae r_ r0 r2)) (.inl (0,0,0,0,0)) ai aj) fun x_=>match x_ with
  | .inl (s,s2,s3,s4,s5)=>(
  M.pure (s2,s3,s4,s5,s))
  | .inr _=>M.fail)
  else (
  M.fail)
theorem zcG {R:List Chunk} {ag:Nat} {aZ:Cells} {a7:Value} {a8:Cells} {ba:Value} {bb:Cells} {bc:Value} {ah:Nat} {bf:Cells} {aB:Value} (aa:List Sect) (ac:List Mrk) (ae:List Rch) (marks:List Int) (r_:Rch) (aF:Reads R aZ) (aL:Sl aZ a7 aa) (aG:Reads R a8) (aM:Sl a8 ba ac) (aH:Reads R bb) (aN:Sl bb bc ae) (aI:Has R (cBlk ag [a7,ba,bc,.map (some ah)] 117)) (aO:Reads R bf) (aS:Sl bf aB marks) {r:(Int × Int × Int × Int × Int)} (hM:(zbH aa ac ae marks r_).Ends r) (w:World) (H:St w w [cMemI encSpt ah (zaa aa ac ae)] R):Ret Tryz.prog 50 #[Pq ag,aB,.agg #[I r_.up,I r_.down,I r_.lo,I r_.hi,B r_.narrow],.agg #[.func (.func 86) #[] #[]]] w fun v w'=>∃ (y0:Int) (y1:Int) (y2:Int) (y3:Int) (y4:Int),(y0,y1,y2,y3,y4)=r/\v = .tuple #[.agg #[I y0,I y1,I y2,I y3],I y4]/\St w w' [cMemI encSpt ah (zaa aa ac ae)] R:=by
 refine ret_of_WD Tryz.func50 rfl rfl rfl ?_
 replace H:St w w [cMk ([]),cMemI encSpt ah (zaa aa ac ae)] R:=H.mk0
 have bJ:=aL.len_le
 have bK:=aM.len_le
 have bL:=aN.len_le
 have bN:=aS.len_le
 unfold zbH at hM
 refine WD.seq<|WD.of<|W.region rfl ?_;refine t_b1 (Pq ag) H rfl rfl ?_;intro al bO H;refine t_bx [I r_.up,I r_.down,I r_.lo,I r_.hi,B r_.narrow] H rfl ?_;intro aj bP H;refine t_bx [.func (.func 86) #[] #[]] H rfl ?_;intro ak bQ H;refine t_alloc (cs:=[I 0,I 0,I 0,I 0]) H Al43 rfl ?_;intro am bR H;refine kg 2 ?_;refine WD.seq<|WD.of ?_;refine W.drawA (fun W=>St w W [cBlk am [I 0,I 0,I 0,I 0] 43,cBlk ak [.func (.func 86) #[] #[]] 128,cBlk aj [I r_.up,I r_.down,I r_.lo,I r_.hi,B r_.narrow] 38,cBlk al [Pq ag] 83,cMk ([]),cMemI encSpt ah (zaa aa ac ae)] R) [(0,true),(1,true),(2,true),(3,true),(5,true),(6,true),(7,true),(8,true),(4,false),(9,false)] [(10,10,36,[I 0,I 0]),(11,11,36,[I 0,I 0])] (.l 12 (.l 13 .nil)) 2 mixed (by decide +kernel) rfl (by intro x hx; simp only [List.mem_cons,List.not_mem_nil,or_false] at hx; rcases hx with rfl | rfl <;> first | exact ⟨_,_,_,rfl,_,Al36,rfl⟩) (by decide) (by decide) H ?_;refine sa_q (fun ai w_ H=>(St.pick H [0,1,2,3,4,5] (by decide) rfl)) rfl rfl (fun g_ w' H=>x_ld (v:=Pq ag) rfl (ldb_sc Sc83 (H.bl 3) rfl)) ?_;refine sa_q (fun ai w_ H=>(St.pick H [0,1,2,3,4,5] (by decide) rfl)) rfl rfl (fun g_ w' H=>x_mv (v:=aB) rfl) ?_;refine sa_q (fun ai w_ H=>(St.pick H [0,1,2,3,4,5] (by decide) rfl)) rfl rfl (fun g_ w' H=>x_fa (v:=Pq aj) rfl (fa_blk (o:=0) Fd38_0 Sz3)) ?_;refine sa_q (fun ai w_ H=>(St.pick H [0,1,2,3,4,5] (by decide) rfl)) rfl rfl (fun g_ w' H=>x_ld (v:=I r_.up) rfl (ldb_sc Sc3 (H.bl 2) rfl)) ?_;refine sa_q (fun ai w_ H=>(St.pick H [0,1,2,3,4,5] (by decide) rfl)) rfl rfl (fun g_ w' H=>x_ld (v:=Pq ag) rfl (ldb_sc Sc83 (H.bl 3) rfl)) ?_;refine sa_q (fun ai w_ H=>(St.pick H [0,1,2,3,4,5] (by decide) rfl)) rfl rfl (fun g_ w' H=>x_mv (v:=aB) rfl) ?_;refine sa_q (fun ai w_ H=>(St.pick H [0,1,2,3,4,5] (by decide) rfl)) rfl rfl (fun g_ w' H=>x_fa (v:=Oq aj 1) rfl (fa_blk (o:=0) Fd38_1 Sz3)) ?_;refine sa_q (fun ai w_ H=>(St.pick H [0,1,2,3,4,5] (by decide) rfl)) rfl rfl (fun g_ w' H=>x_ld (v:=I r_.down) rfl (ldb_sc Sc3 (H.bl 2) rfl)) ?_;refine sa_l (fun ai w_ H=>(St.pick H [0,1,2,3,4,5] (by decide) rfl)) rfl ?_;intro g_ ai bh H
 replace H:St w bh (cBlk am [I 0,I 0,I 0,I 0] 43 :: cBlk ak [.func (.func 86) #[] #[]] 128 :: cBlk aj [I r_.up,I r_.down,I r_.lo,I r_.hi,B r_.narrow] 38 :: cBlk al [Pq ag] 83 :: cMk ([]) :: cMemI encSpt ah (zaa aa ac ae) :: ai) R:=H
 obtain ⟨bS,bi,hM⟩:=M.e_bind hM;refine s_call cf59 [Pq ag,aB,I r_.up] rfl (zbB aa ac ae marks r_.up (aF.app _) aL (aG.app _) aM (aH.app _) aN (aI.app _) (aO.app _) aS bi _ (St.give (T:=(cBlk am [I 0,I 0,I 0,I 0] 43 :: cBlk ak [.func (.func 86) #[] #[]] 128 :: cBlk aj [I r_.up,I r_.down,I r_.lo,I r_.hi,B r_.narrow] 38 :: cBlk al [Pq ag] 83 :: cMk ([]) :: cMemI encSpt ah (zaa aa ac ae) :: ai)) H rfl)) ?_
 rintro vq bj ⟨r0,r1,rfl,hvq,ao⟩
 subst vq;(try dsimp only at hM)
 replace H:St w bj (cBlk am [I 0,I 0,I 0,I 0] 43 :: cBlk ak [.func (.func 86) #[] #[]] 128 :: cBlk aj [I r_.up,I r_.down,I r_.lo,I r_.hi,B r_.narrow] 38 :: cBlk al [Pq ag] 83 :: cMk ([]) :: cMemI encSpt ah (zaa aa ac ae) :: ai) R:=H.back ao rfl
 clear ao
 refine s_nil ⟨(St.pick H [0,1,2,3,4,5] (by decide) rfl),_,[cBlk am [I 0,I 0,I 0,I 0] 43,cBlk ak [.func (.func 86) #[] #[]] 128,cBlk aj [I r_.up,I r_.down,I r_.lo,I r_.hi,B r_.narrow] 38,cBlk al [Pq ag] 83,cMk ([]),cMemI encSpt ah (zaa aa ac ae)],mix_upd rfl,H,?_⟩
 refine sa_l (fun ai w_ H=>(St.pick H [0,1,2,3,4,5] (by decide) rfl)) rfl ?_;intro g_ ai bm H
 replace H:St w bm (cBlk am [I 0,I 0,I 0,I 0] 43 :: cBlk ak [.func (.func 86) #[] #[]] 128 :: cBlk aj [I r_.up,I r_.down,I r_.lo,I r_.hi,B r_.narrow] 38 :: cBlk al [Pq ag] 83 :: cMk ([]) :: cMemI encSpt ah (zaa aa ac ae) :: ai) R:=H
 obtain ⟨bT,bn,hM⟩:=M.e_bind hM;refine s_call cf59 [Pq ag,aB,I r_.down] rfl (zbB aa ac ae marks r_.down (aF.app _) aL (aG.app _) aM (aH.app _) aN (aI.app _) (aO.app _) aS bn _ (St.give (T:=(cBlk am [I 0,I 0,I 0,I 0] 43 :: cBlk ak [.func (.func 86) #[] #[]] 128 :: cBlk aj [I r_.up,I r_.down,I r_.lo,I r_.hi,B r_.narrow] 38 :: cBlk al [Pq ag] 83 :: cMk ([]) :: cMemI encSpt ah (zaa aa ac ae) :: ai)) H rfl)) ?_
 rintro vq bo ⟨ap,au,rfl,hvq,ao⟩
 subst vq;(try dsimp only at hM)
 replace H:St w bo (cBlk am [I 0,I 0,I 0,I 0] 43 :: cBlk ak [.func (.func 86) #[] #[]] 128 :: cBlk aj [I r_.up,I r_.down,I r_.lo,I r_.hi,B r_.narrow] 38 :: cBlk al [Pq ag] 83 :: cMk ([]) :: cMemI encSpt ah (zaa aa ac ae) :: ai) R:=H.back ao rfl
 clear ao
 refine s_nil ⟨(St.pick H [0,1,2,3,4,5] (by decide) rfl),_,[cBlk am [I 0,I 0,I 0,I 0] 43,cBlk ak [.func (.func 86) #[] #[]] 128,cBlk aj [I r_.up,I r_.down,I r_.lo,I r_.hi,B r_.narrow] 38,cBlk al [Pq ag] 83,cMk ([]),cMemI encSpt ah (zaa aa ac ae)],mix_upd rfl,H,?_⟩
 refine sa_nil (fun ai w_ H=>(St.pick H [0,1,2,3,4,5] (by decide) rfl)) ?_;intro aq ay bp H
 replace H:St w bp [cBlk am [I 0,I 0,I 0,I 0] 43,cBlk ak [.func (.func 86) #[] #[]] 128,cBlk aj [I r_.up,I r_.down,I r_.lo,I r_.hi,B r_.narrow] 38,cBlk al [Pq ag] 83,cMk ([]),cMemI encSpt ah (zaa aa ac ae),cBlk aq [I 0,I 0] 36,cBlk ay [I 0,I 0] 36] R:=(H)
 refine t_l rfl ?_;refine t_sw 6 0 [I r0,I r1] (.agg #[I r0,I r1]) H rfl rfl Sz36 rfl rfl rfl rfl ?_;intro bU H
 refine s_nil ⟨(St.pick H [0,1,2,3,4,5] (by decide) rfl),?_⟩
 refine t_l rfl ?_;refine t_sw 7 0 [I ap,I au] (.agg #[I ap,I au]) H rfl rfl Sz36 rfl rfl rfl rfl ?_;intro bV H
 refine s_nil ⟨(St.pick H [0,1,2,3,4,5] (by decide) rfl),?_⟩
 refine t_nil<|WD.seq<|WD.of ?_;refine W.drawA (fun W=>St w W [cBlk am [I 0,I 0,I 0,I 0] 43,cBlk ak [.func (.func 86) #[] #[]] 128,cBlk aj [I r_.up,I r_.down,I r_.lo,I r_.hi,B r_.narrow] 38,cBlk al [Pq ag] 83,cMk ([]),cMemI encSpt ah (zaa aa ac ae),cBlk aq [I r0,I r1] 36,cBlk ay [I ap,I au] 36] R) [(0,true),(1,true),(2,true),(3,true),(4,true),(5,false)] [(6,12,3,[I 0]),(7,13,4,[B false])] (.l 8 (.l 9 .nil)) 2 mixed (by decide +kernel) rfl (by intro x hx; simp only [List.mem_cons,List.not_mem_nil,or_false] at hx; rcases hx with rfl | rfl <;> first | exact ⟨_,_,_,rfl,_,Al3,rfl⟩ | exact ⟨_,_,_,rfl,_,Al4,rfl⟩) (by decide) (by decide) H ?_;refine sa_q (fun ai w_ H=>(St.pick H [0,1,2,3,4,5,6,7] (by decide) rfl)) rfl rfl (fun g_ w' H=>x_fa (v:=Oq aj 2) rfl (fa_blk (o:=0) Fd38_2 Sz36)) ?_;refine sa_q (fun ai w_ H=>(St.pick H [0,1,2,3,4,5,6,7] (by decide) rfl)) rfl rfl (fun g_ w' H=>x_fa (v:=Oq aj 2) rfl (fa_blk (o:=2) Fd36_0 Sz3)) ?_;refine sa_q (fun ai w_ H=>(St.pick H [0,1,2,3,4,5,6,7] (by decide) rfl)) rfl rfl (fun g_ w' H=>x_ld (v:=I r_.lo) rfl (ldb_sc Sc3 (H.bl 2) rfl)) ?_;refine sa_q (fun ai w_ H=>(St.pick H [0,1,2,3,4,5,6,7] (by decide) rfl)) rfl rfl (fun g_ w' H=>x_fa (v:=Pq ak) rfl (fa_blk (o:=0) Fd128_0 Sz123)) ?_;refine sa_q (fun ai w_ H=>(St.pick H [0,1,2,3,4,5,6,7] (by decide) rfl)) rfl rfl (fun g_ w' H=>x_ld (v:=.func (.func 86) #[] #[]) rfl (ldb_sc Sc123 (H.bl 1) rfl)) ?_;refine sa_l (fun ai w_ H=>(St.pick H [0,1,2,3,4,5,6,7] (by decide) rfl)) rfl ?_;intro g_ ai br H
 replace H:St w br (cBlk am [I 0,I 0,I 0,I 0] 43 :: cBlk ak [.func (.func 86) #[] #[]] 128 :: cBlk aj [I r_.up,I r_.down,I r_.lo,I r_.hi,B r_.narrow] 38 :: cBlk al [Pq ag] 83 :: cMk ([]) :: cMemI encSpt ah (zaa aa ac ae) :: cBlk aq [I r0,I r1] 36 :: cBlk ay [I ap,I au] 36 :: ai) R:=H
 obtain ⟨bW,bt,hM⟩:=M.e_bind hM;refine s_callv (f:=86) rfl cf86 [I 1,I 0] rfl (zdz 1 0 bt _ (St.give (T:=(cBlk am [I 0,I 0,I 0,I 0] 43 :: cBlk ak [.func (.func 86) #[] #[]] 128 :: cBlk aj [I r_.up,I r_.down,I r_.lo,I r_.hi,B r_.narrow] 38 :: cBlk al [Pq ag] 83 :: cMk ([]) :: cMemI encSpt ah (zaa aa ac ae) :: cBlk aq [I r0,I r1] 36 :: cBlk ay [I ap,I au] 36 :: ai)) H rfl)) ?_
 rintro vq bu ⟨r2,rfl,hvq,ao⟩
 subst vq;(try dsimp only at hM)
 replace H:St w bu (cBlk am [I 0,I 0,I 0,I 0] 43 :: cBlk ak [.func (.func 86) #[] #[]] 128 :: cBlk aj [I r_.up,I r_.down,I r_.lo,I r_.hi,B r_.narrow] 38 :: cBlk al [Pq ag] 83 :: cMk ([]) :: cMemI encSpt ah (zaa aa ac ae) :: cBlk aq [I r0,I r1] 36 :: cBlk ay [I ap,I au] 36 :: ai) R:=H.back ao rfl
 clear ao
 refine s_nil ⟨(St.pick H [0,1,2,3,4,5,6,7] (by decide) rfl),_,[cBlk am [I 0,I 0,I 0,I 0] 43,cBlk ak [.func (.func 86) #[] #[]] 128,cBlk aj [I r_.up,I r_.down,I r_.lo,I r_.hi,B r_.narrow] 38,cBlk al [Pq ag] 83,cMk ([]),cMemI encSpt ah (zaa aa ac ae),cBlk aq [I r0,I r1] 36,cBlk ay [I ap,I au] 36],mix_upd rfl,H,?_⟩
 refine sa_nil (fun ai w_ H=>(St.pick H [0,1,2,3,4,5,6,7] (by decide) rfl)) ?_;intro az aA bv H
 replace H:St w bv [cBlk am [I 0,I 0,I 0,I 0] 43,cBlk ak [.func (.func 86) #[] #[]] 128,cBlk aj [I r_.up,I r_.down,I r_.lo,I r_.hi,B r_.narrow] 38,cBlk al [Pq ag] 83,cMk ([]),cMemI encSpt ah (zaa aa ac ae),cBlk aq [I r0,I r1] 36,cBlk ay [I ap,I au] 36,cBlk az [I 0] 3,cBlk aA [B false] 4] R:=(H)
 refine t_l rfl ?_;refine t_sw 8 0 [I r_.lo] (I r_.lo) H rfl rfl Sz3 rfl rfl rfl rfl ?_;intro bX H
 refine s_nil ⟨(St.pick H [0,1,2,3,4,5,6,7] (by decide) rfl),?_⟩
 refine t_l rfl ?_;refine t_sw 9 0 [B r2] (B r2) H rfl rfl Sz4 rfl rfl rfl rfl ?_;intro bY H
 refine s_nil ⟨(St.pick H [0,1,2,3,4,5,6,7] (by decide) rfl),?_⟩
 refine t_nil<|WD.seq<|WD.seq<|WD.of ?_;refine kg 4 ?_
 refine WD.cond (!r2) rfl (fun aT=>?_) (fun aT=>?_)
 ·replace hM:=M.e_t hM aT;refine WD.of ?_;refine kg 4 ?_;refine t_sw 8 0 [I r_.hi] (I r_.hi) H rfl rfl Sz3 rfl rfl rfl rfl ?_;intro bZ H;refine s_nil<|WD.seq<|WD.of<|W.region rfl ?_;refine t_alloc (cs:=[I 0,I 0,I 0,I 0]) H Al43 rfl ?_;intro av b6 H;refine s_nil<|WD.seq<|WD.of<|W.region rfl ?_;refine t_alloc (cs:=[I 0]) H Al3 rfl ?_;intro ax b7 H;refine t_sw 0 0 [I 0] (I 0) H rfl rfl Sz3 rfl rfl rfl rfl ?_;intro b8 H;refine s_nil<|WD.seq<|WD.seq<|WD.of ?_;refine W.draw (fun W=>St w W [cBlk ax [I 0] 3,cBlk av [I 0,I 0,I 0,I 0] 43,cBlk am [I 0,I 0,I 0,I 0] 43,cBlk ak [.func (.func 86) #[] #[]] 128,cBlk aj [I r_.up,I r_.down,I r_.lo,I r_.hi,B r_.narrow] 38,cBlk al [Pq ag] 83,cMk ([]),cMemI encSpt ah (zaa aa ac ae),cBlk aq [I r0,I r1] 36,cBlk ay [I ap,I au] 36,cBlk az [I r_.hi] 3,cBlk aA [B r2] 4] R) [(0,true),(1,true),(2,true),(3,true),(4,true),(5,true),(6,false),(7,false),(8,true),(9,false)] mixed (by decide +kernel) rfl ?_;intro b9 aJ;replace H:=H.ext aJ;clear aJ
  refine ⟨(H.pk [0,1,2,3,4,5,6,7,8,9,10,11]),?_⟩
  refine kg 6 ?_;refine d_l rfl ?_;refine t_bs (α:=Int) T28 [I r1] [(r1:Int)] H rfl (.cons rfl (Flat.rep_enc _ (r1:Int))<|.nil) rfl rfl rfl ?_;intro bw cb H
  have cc:=Sl.cells (H.os 0)
  have ce:=Sl.oc (H.os 0)
  refine s_nil ⟨(H.pk [1,2,3,4,5,6,7,8,9,10,11,12]),?_⟩
  refine d_l rfl ?_;obtain ⟨cf,bx,hM⟩:=M.e_bind hM;refine s_call cf85 [I au,bw] rfl (zcF au ([(r1:Int)]) (rdo 0) (H.os 0) bx _ (H.gt 13)) ?_
  rintro vq cg ⟨r3,rfl,hvq,ao⟩
  subst vq;(try dsimp only at hM);replace H:=H.bk ao;clear ao
  refine s_nil ⟨(H.pk [1,2,3,4,5,6,7,8,9,10,11,12]),?_⟩
  refine d_q rfl (fun w' H=>x_bld (ps:=[(0,I ap),(1,I r3)]) (zs:=[I 0,I 0]) (L':=[I ap,I r3]) rfl Tryz.underlying36 Al36 rfl (Bd36 Tryz.underlying36) (.cons (cs:=[I ap]) rfl rfl rfl rfl rfl<|.cons (cs:=[I r3]) rfl rfl rfl rfl rfl<|.nil))<|d_l rfl ?_;obtain ⟨ch,bz,hM⟩:=M.e_bind hM;refine s_call cf84 [.agg #[I ap,I r3]] rfl (zdI (⟨(ap:Int),(r3:Int)⟩:Span) bz _ (H.gt 13)) ?_
  rintro vq ci ⟨aC,aD,aE,rfl,hvq,ao⟩
  subst vq;(try dsimp only at hM);replace H:=H.bk ao;clear ao
  refine s_nil ⟨(H.pk [2,3,4,5,6,7,8,9,10,11,12,13]),?_⟩
  refine d_nil ?_;replace H:=H.pk [0,2,3,4,5,6,7,8,9,10,12,13];refine WD.block ?_;obtain ⟨cj,bA,hM⟩:=M.e_bind hM;refine WD.range (L:=[cBlk ax [I 0] 3,cBlk av [I 0,I 0,I 0,I 0] 43,cMemI encSpt ah (zaa aa ac ae),cBlk aE [I aC,I aD] 36,cBlk am [I 0,I 0,I 0,I 0] 43,cBlk ak [.func (.func 86) #[] #[]] 128,cBlk aj [I r_.up,I r_.down,I r_.lo,I r_.hi,B r_.narrow] 38,cBlk al [Pq ag] 83,cBlk aq [I r0,I r1] 36,cBlk az [I r_.hi] 3,cBlk aA [B r2] 4]) [Pq aE] (H.pk [7,1,2,8,0,3,4,5,6,9,10,11]) rfl cf115 ?_;intro aP aQ aU bB aV H
  have hYC:YieldC Tryz.prog ([cMk (aQ :: ([])),cBlk aE [I aC,I aD] 36,cBlk am [I 0,I 0,I 0,I 0] 43,cBlk ak [.func (.func 86) #[] #[]] 128,cBlk aj [I r_.up,I r_.down,I r_.lo,I r_.hi,B r_.narrow] 38,cBlk al [Pq ag] 83,cBlk aq [I r0,I r1] 36,cBlk az [I r_.hi] 3,cBlk aA [B r2] 4]++R) arI (yJ aP aU (fun (s,s2,s3,s4,s5) aR=>aR=[cBlk ax [I s] 3,cBlk av [I s2,I s3,I s4,I s5] 43,cMemI encSpt ah (zaa aa ac ae)]) (fun (_:Unit) _=>False) (fun _=>.ret)) (.func (.yield aP) #[] #[]) (M.yl (zat aa ac ae r_ r0 r2)):=by
   refine YieldC.mk aV (fun (s,s2,s3,s4,s5) aR=>aR=[cBlk ax [I s] 3,cBlk av [I s2,I s3,I s4,I s5] 43,cMemI encSpt ah (zaa aa ac ae)]) (fun (_:Unit) _=>False) (fun _=>.ret) (zat aa ac ae r_ r0 r2) (by rintro ⟨s,s2,s3,s4,s5⟩ _ h_; obtain ⟨rfl⟩:=h_; rfl) (fun _ _ h_=>h_.elim) rfl (arI_len rfl) ?_;intro C_ ck x W_ bC
   obtain rfl:=bC
   refine kg 3 ?_
   refine ⟨rfl,rfl,?_⟩
   intro w R aK aR s_ r bD hM H
   obtain ⟨s,s2,s3,s4,s5⟩:=s_
   obtain ⟨rfl⟩:=bD
   replace aF:=aF.sub aK
   replace aG:=aG.sub aK
   replace aH:=aH.sub aK
   replace aI:=aI.sub aK
   replace aO:=aO.sub aK
   replace hM:(zat aa ac ae r_ r0 r2 (s,s2,s3,s4,s5) x).Ends r:=hM
   simp only [zat] at hM
   replace H:=H.pk [0,1,2,4,5,6,7,8,9,10,11,3];refine kg 10 ?_;refine s_val (x_bld (ps:=[(0,I (max r0 x)),(1,I x),(2,I r_.hi),(3,I r_.hi)]) (zs:=[I 0,I 0,I 0,I 0]) (L':=[I (max r0 x),I x,I r_.hi,I r_.hi]) rfl Tryz.underlying43 Al43 rfl (Bd43 Tryz.underlying43) (.cons (cs:=[I (max r0 x)]) rfl rfl rfl rfl rfl<|.cons (cs:=[I x]) rfl rfl rfl rfl rfl<|.cons (cs:=[I r_.hi]) rfl rfl rfl rfl rfl<|.cons (cs:=[I r_.hi]) rfl rfl rfl rfl rfl<|.nil)) ?_;refine t_alloc (cs:=[I 0,I 0,I 0,I 0]) H Al43 rfl ?_;intro cn co H;refine t_sw 0 0 [I (max r0 x),I x,I r_.hi,I r_.hi] (.agg #[I (max r0 x),I x,I r_.hi,I r_.hi]) H rfl rfl Sz43 rfl rfl rfl rfl ?_;intro cp H;refine kg 6 ?_
   refine W.cond r2 rfl (fun aW=>?_) (fun aW=>?_)
   ·replace hM:=M.e_t hM aW
    exact (M.e_fail hM).elim
   replace hM:=M.e_f hM aW;refine kg 6 ?_;obtain ⟨cq,bE,hM⟩:=M.e_bind hM;refine s_call cf22 [Pq ag,.agg #[I r_.up,I r_.down,I r_.lo,I r_.hi,B r_.narrow],.agg #[I (max r0 x),I x,I r_.hi,I r_.hi]] rfl (zdi aa ac ae r_ (⟨(max r0 x:Int),(x:Int),(r_.hi:Int),(r_.hi:Int)⟩:Cas) (aF.app _) aL (aG.app _) aM (aH.app _) aN (aI.app _) bE _ ((H.pk [3,0,1,2,4,5,6,7,8,9,10,11,12]).gt 12)) ?_
   rintro vq cr ⟨r4,rfl,hvq,ao⟩
   subst vq;(try dsimp only at hM)
   replace H:=H.pk [3,0,1,2,4,5,6,7,8,9,10,11,12] |>.bk ao
   clear ao;refine kg 5 ?_;refine s_val (x_bld (ps:=[]) (zs:=[I 0,I 0,I 0,I 0]) (L':=[I 0,I 0,I 0,I 0]) rfl Tryz.underlying43 Al43 rfl (Bd43 Tryz.underlying43) (.nil))<|s_val (x_eqS (eqT43 (⟨(s2:Int),(s3:Int),(s4:Int),(s5:Int)⟩:Cas) (⟨(0:Int),(0:Int),(0:Int),(0:Int)⟩:Cas) _) gdT43 rfl rfl) ?_;refine kg 5 ?_;obtain ⟨r5,bF,hM⟩:=M.e_bind hM;refine t_gcallv (cap:=[]) (!(decide ((⟨(s2:Int),(s3:Int),(s4:Int),(s5:Int)⟩:Cas)=(⟨(0:Int),(0:Int),(0:Int),(0:Int)⟩:Cas)))) (gy_f rfl) cf86 (fun hg=>(gd_of hg (.func (.func 86) #[] #[]))) (B r5) (fun _=>[I r4,I s]) (fun hg=>lst2 (gd_of hg (I r4)) (gd_of hg (I s))) H (fun hg=>(zdz r4 s (M.e_opt bF hg) _ (H.give (A:=[]) rfl)).mono fun v_ w_ ⟨y_,aX,bG,H_⟩=>by subst aX; exact ⟨bG,H.via H_⟩) ?_;intro ct H;refine s_val (x_por (b:=decide ((⟨(s2:Int),(s3:Int),(s4:Int),(s5:Int)⟩:Cas)=(⟨(0:Int),(0:Int),(0:Int),(0:Int)⟩:Cas))) (r:=r5) rfl rfl (fun hb=>gd_of (c:=!(decide ((⟨(s2:Int),(s3:Int),(s4:Int),(s5:Int)⟩:Cas)=(⟨(0:Int),(0:Int),(0:Int),(0:Int)⟩:Cas)))) (by first | exact hb | (rw [hb]; rfl) | simp_all) (B r5)))<|s_nil ?_
   refine W.cond ((decide ((⟨(s2:Int),(s3:Int),(s4:Int),(s5:Int)⟩:Cas)=(⟨(0:Int),(0:Int),(0:Int),(0:Int)⟩:Cas)))||r5) rfl (fun aY=>?_) (fun aY=>?_)
   ·replace hM:=M.e_t hM aY;refine kg 3 ?_;refine t_sw 3 0 [I (max r0 x),I x,I r_.hi,I r_.hi] (.agg #[I (max r0 x),I x,I r_.hi,I r_.hi]) H rfl rfl Sz43 rfl rfl rfl rfl ?_;intro cv H;refine t_sw 2 0 [I r4] (I r4) H rfl rfl Sz3 rfl rfl rfl rfl ?_;intro cw H;refine s_nil ?_
    exact ⟨(r4,max r0 x,x,r_.hi,r_.hi),[cBlk ax [I r4] 3,cBlk av [I (max r0 x),I x,I r_.hi,I r_.hi] 43,cMemI encSpt ah (zaa aa ac ae)],(M.e_pure hM).symm,rfl,H.pick [2,3,0,12,4,5,6,7,8,9,10,11] (by decide) rfl⟩
   replace hM:=M.e_f hM aY;refine W.skip ?_
   exact ⟨(s,s2,s3,s4,s5),[cBlk ax [I s] 3,cBlk av [I s2,I s3,I s4,I s5] 43,cMemI encSpt ah (zaa aa ac ae)],(M.e_pure hM).symm,rfl,H.pick [2,3,0,12,4,5,6,7,8,9,10,11] (by decide) rfl⟩
  replace H:St w bB (cAll (cObj aP (.loop aU) :: [cBlk ax [I 0] 3,cBlk av [I 0,I 0,I 0,I 0] 43,cMemI encSpt ah (zaa aa ac ae)]) :: [cMk (aQ :: ([])),cBlk aE [I aC,I aD] 36,cBlk am [I 0,I 0,I 0,I 0] 43,cBlk ak [.func (.func 86) #[] #[]] 128,cBlk aj [I r_.up,I r_.down,I r_.lo,I r_.hi,B r_.narrow] 38,cBlk al [Pq ag] 83,cBlk aq [I r0,I r1] 36,cBlk az [I r_.hi] 3,cBlk aA [B r2] 4]) R:=St.bundleB (A:=cObj aP (.loop aU) :: [cBlk ax [I 0] 3,cBlk av [I 0,I 0,I 0,I 0] 43,cMemI encSpt ah (zaa aa ac ae)]) (T:=[cMk (aQ :: ([])),cBlk aE [I aC,I aD] 36,cBlk am [I 0,I 0,I 0,I 0] 43,cBlk ak [.func (.func 86) #[] #[]] 128,cBlk aj [I r_.up,I r_.down,I r_.lo,I r_.hi,B r_.narrow] 38,cBlk al [Pq ag] 83,cBlk aq [I r0,I r1] 36,cBlk az [I r_.hi] 3,cBlk aA [B r2] 4]) rfl (H.pk [0,2,3,4,1,5,6,7,8,9,10,11,12])
  refine (zdG (M.yl (zat aa ac ae r_ r0 r2)) (.inl (0,0,0,0,0)) aC aD hYC ⟨_,rfl,rfl⟩ (Has.here (k:=1) rfl) bA _ (H.gt 9)).mono ?_
  rintro vq cx ⟨bH,cy,rfl,hvq,ao,bg⟩
  replace H:=H.back ao rfl
  clear ao hYC
  rcases bH with ⟨s,s2,s3,s4,s5⟩ | _
  ·(try dsimp only at hM)
   obtain ⟨_,rfl,rfl⟩:=bg
   refine ⟨_,[cBlk ax [I s] 3,cBlk av [I s2,I s3,I s4,I s5] 43,cMemI encSpt ah (zaa aa ac ae),cBlk aE [I aC,I aD] 36,cBlk am [I 0,I 0,I 0,I 0] 43,cBlk ak [.func (.func 86) #[] #[]] 128,cBlk aj [I r_.up,I r_.down,I r_.lo,I r_.hi,B r_.narrow] 38,cBlk al [Pq ag] 83,cBlk aq [I r0,I r1] 36,cBlk az [I r_.hi] 3,cBlk aA [B r2] 4],H.unbundle.pick [0,4,1,2,3,5,6,7,8,9,10,11,12] (by decide) rfl,aV.nb,?_⟩
   intro cz H
   rw [aV.pd]
   replace H:=H.nf
   try simp only []
   replace H:=H.pk [0,1,2,3,5];refine WD.seq<|WD.of ?_;refine W.draw (fun W=>St w W [cMk (aQ :: ([])),cBlk ax [I s] 3,cBlk av [I s2,I s3,I s4,I s5] 43,cMemI encSpt ah (zaa aa ac ae)] R) [(0,true),(1,true),(2,false),(3,true)] mixed (by decide +kernel) rfl ?_;intro cA aJ;replace H:=H.ext aJ;clear aJ
   refine ⟨(H.pk [0,1,2,3]),?_⟩
   refine kg 2 ?_;refine d_l rfl ?_;refine t_sw 4 0 [I s2,I s3,I s4,I s5] (.agg #[I s2,I s3,I s4,I s5]) H rfl rfl Sz43 rfl rfl rfl rfl ?_;intro cB H
   refine s_nil ⟨(H.pk [0,1,2,3]),?_⟩
   refine kg 2 ?_;replace H:=H.pk [0,3,4];refine WD.of ?_;refine W.ret ?_;refine bodyD_r (H.pk [0,1,2]) ?_;intro cC H;replace H:=H.nf
   have bI:=(H.bl 1)
   have aX:=M.e_pure hM
   exact ⟨_,(resE_ofn (vs:=[.agg #[I s2,I s3,I s4,I s5],I s]) rfl rfl (.cell (v:=.agg #[I s2,I s3,I s4,I s5]) rfl (run_loadVar_ag (ds:=[I s2,I s3,I s4,I s5]) Ag43 Sz43 bI rfl rfl)<|.tmp (v:=I s) rfl<|.nil)),⟨s2,s3,s4,s5,s,aX,rfl,(H.pk [0])⟩⟩
  obtain ⟨_,_,h_⟩:=bg; exact h_.elim
 replace hM:=M.e_f hM aT
 exact (M.e_fail hM).elim

def zcK  : M Unit :=
  M.pure ()
theorem zaE {R:List Chunk}    {r:Unit} (hM:(zcK).Ends r) (w:World) (H:St w w [] R):Ret Tryz.prog 52 #[] w fun v w'=>()=r/\v = .agg #[.func (.func 87) #[] #[]]/\St w w' [] R:=by
 refine ret_of_W Tryz.func52 rfl rfl rfl ?_;refine kg 2 ?_;refine t_alloc (cs:=[.nilFunc]) H Al128 rfl ?_;intro ae ag H;refine kg 3 ?_;refine s_val (x_bld (ps:=[(0,.func (.func 87) #[] #[])]) (zs:=[.nilFunc]) (L':=[.func (.func 87) #[] #[]]) rfl Tryz.underlying128 Al128 rfl (Bd128 Tryz.underlying128) (.cons (cs:=[.func (.func 87) #[] #[]]) rfl rfl rfl rfl rfl<|.nil)) ?_;refine t_sw 0 0 [.func (.func 87) #[] #[]] (.agg #[.func (.func 87) #[] #[]]) H rfl rfl Sz128 rfl rfl rfl rfl ?_;intro ah H;refine s_nil ?_;refine W.ret ?_
 have aa:=(H.bl 0)
 have ac:=M.e_pure hM
 exact ⟨_,(resE_of1 (v:=.agg #[.func (.func 87) #[] #[]]) rfl (.cell (v:=.agg #[.func (.func 87) #[] #[]]) rfl (run_loadVar_ag (ds:=[.func (.func 87) #[] #[]]) Ag128 Sz128 aa rfl rfl)<|.nil)),⟨ac,rfl,(H.pk [])⟩⟩

def zbg (a b:Int):M Bool :=
  M.pure (decide (b<a))
theorem zdP {R:List Chunk}  (a:Int) (b:Int)  {r:Bool} (hM:(zbg a b).Ends r) (w:World) (H:St w w [] R):Ret Tryz.prog 87 #[I a,I b] w fun v w'=>∃ (y0:Bool),y0=r/\v=B y0/\St w w' [] R:=by
 refine ret_of_W Tryz.func87 rfl rfl rfl ?_;refine kg 11 ?_;refine W.ret ?_
 have aa:=M.e_pure hM
 exact ⟨_,resE_tmp rfl,⟨(decide (b<a)),aa,rfl,H⟩⟩

def zav (aa:List Sect) (ac:List Mrk) (ae:List Rch) (r_:Rch) (r1:Int) (r2:Bool):(Int × Int × Int × Int × Int)->Int->M ((Int × Int × Int × Int × Int) ⊕ Unit):=fun (s,s2,s3,s4,s5) x =>
  bif r2 then (
  M.bind (zaK aa ac ae r_ (⟨(r1:Int),(x:Int),(r_.lo:Int),(r_.lo:Int)⟩:Cas)) fun r4 =>
  M.bind (M.opt (!(decide ((⟨(s2:Int),(s3:Int),(s4:Int),(s5:Int)⟩:Cas)=(⟨(0:Int),(0:Int),(0:Int),(0:Int)⟩:Cas)))) (zbg r4 s) false) fun r5 =>
  bif ((decide ((⟨(s2:Int),(s3:Int),(s4:Int),(s5:Int)⟩:Cas)=(⟨(0:Int),(0:Int),(0:Int),(0:Int)⟩:Cas)))||r5) then (
  M.pure (.inl (r4,r1,x,r_.lo,r_.lo)))
  else (
  M.pure (.inl (s,s2,s3,s4,s5))))
  else (
  M.fail)
def zaS (aa:List Sect) (ac:List Mrk) (ae:List Rch) (marks:List Int) (r_:Rch):M (Int × Int × Int × Int × Int) :=
  M.bind (zas aa ac ae marks r_.up) fun (r0,r1) =>
  M.bind (zas aa ac ae marks r_.down) fun (ag,ah) =>
  M.bind (zbg 1 0) fun r2 =>
  bif !r2 then (
  M.fail)
  else (
  M.bind (zaG ah ([(r1:Int)])) fun r3 =>
  M.bind (zbx (⟨(ag:Int),(r3:Int)⟩:Span)) fun (ai,aj) =>
  M.bind (zap (M.yl (zav aa ac ae r_ r1 r2)) (.inl (0,0,0,0,0)) ai aj) fun x_=>match x_ with
  | .inl (s,s2,s3,s4,s5)=>(
  M.pure (s2,s3,s4,s5,s))
  | .inr _=>M.fail)
theorem zam {R:List Chunk} {ag:Nat} {aZ:Cells} {a7:Value} {a8:Cells} {ba:Value} {bb:Cells} {bc:Value} {ah:Nat} {bf:Cells} {aB:Value} (aa:List Sect) (ac:List Mrk) (ae:List Rch) (marks:List Int) (r_:Rch) (aF:Reads R aZ) (aL:Sl aZ a7 aa) (aG:Reads R a8) (aM:Sl a8 ba ac) (aH:Reads R bb) (aN:Sl bb bc ae) (aI:Has R (cBlk ag [a7,ba,bc,.map (some ah)] 117)) (aO:Reads R bf) (aS:Sl bf aB marks) {r:(Int × Int × Int × Int × Int)} (hM:(zaS aa ac ae marks r_).Ends r) (w:World) (H:St w w [cMemI encSpt ah (zaa aa ac ae)] R):Ret Tryz.prog 50 #[Pq ag,aB,.agg #[I r_.up,I r_.down,I r_.lo,I r_.hi,B r_.narrow],.agg #[.func (.func 87) #[] #[]]] w fun v w'=>∃ (y0:Int) (y1:Int) (y2:Int) (y3:Int) (y4:Int),(y0,y1,y2,y3,y4)=r/\v = .tuple #[.agg #[I y0,I y1,I y2,I y3],I y4]/\St w w' [cMemI encSpt ah (zaa aa ac ae)] R:=by
 refine ret_of_WD Tryz.func50 rfl rfl rfl ?_
 replace H:St w w [cMk ([]),cMemI encSpt ah (zaa aa ac ae)] R:=H.mk0
 have bJ:=aL.len_le
 have bK:=aM.len_le
 have bL:=aN.len_le
 have bN:=aS.len_le
 unfold zaS at hM
 refine WD.seq<|WD.of<|W.region rfl ?_;refine t_b1 (Pq ag) H rfl rfl ?_;intro al bO H;refine t_bx [I r_.up,I r_.down,I r_.lo,I r_.hi,B r_.narrow] H rfl ?_;intro aj bP H;refine t_bx [.func (.func 87) #[] #[]] H rfl ?_;intro ak bQ H;refine t_alloc (cs:=[I 0,I 0,I 0,I 0]) H Al43 rfl ?_;intro am bR H;refine kg 2 ?_;refine WD.seq<|WD.of ?_;refine W.drawA (fun W=>St w W [cBlk am [I 0,I 0,I 0,I 0] 43,cBlk ak [.func (.func 87) #[] #[]] 128,cBlk aj [I r_.up,I r_.down,I r_.lo,I r_.hi,B r_.narrow] 38,cBlk al [Pq ag] 83,cMk ([]),cMemI encSpt ah (zaa aa ac ae)] R) [(0,true),(1,true),(2,true),(3,true),(5,true),(6,true),(7,true),(8,true),(4,false),(9,false)] [(10,10,36,[I 0,I 0]),(11,11,36,[I 0,I 0])] (.l 12 (.l 13 .nil)) 2 mixed (by decide +kernel) rfl (by intro x hx; simp only [List.mem_cons,List.not_mem_nil,or_false] at hx; rcases hx with rfl | rfl <;> first | exact ⟨_,_,_,rfl,_,Al36,rfl⟩) (by decide) (by decide) H ?_;refine sa_q (fun ai w_ H=>(St.pick H [0,1,2,3,4,5] (by decide) rfl)) rfl rfl (fun g_ w' H=>x_ld (v:=Pq ag) rfl (ldb_sc Sc83 (H.bl 3) rfl)) ?_;refine sa_q (fun ai w_ H=>(St.pick H [0,1,2,3,4,5] (by decide) rfl)) rfl rfl (fun g_ w' H=>x_mv (v:=aB) rfl) ?_;refine sa_q (fun ai w_ H=>(St.pick H [0,1,2,3,4,5] (by decide) rfl)) rfl rfl (fun g_ w' H=>x_fa (v:=Pq aj) rfl (fa_blk (o:=0) Fd38_0 Sz3)) ?_;refine sa_q (fun ai w_ H=>(St.pick H [0,1,2,3,4,5] (by decide) rfl)) rfl rfl (fun g_ w' H=>x_ld (v:=I r_.up) rfl (ldb_sc Sc3 (H.bl 2) rfl)) ?_;refine sa_q (fun ai w_ H=>(St.pick H [0,1,2,3,4,5] (by decide) rfl)) rfl rfl (fun g_ w' H=>x_ld (v:=Pq ag) rfl (ldb_sc Sc83 (H.bl 3) rfl)) ?_;refine sa_q (fun ai w_ H=>(St.pick H [0,1,2,3,4,5] (by decide) rfl)) rfl rfl (fun g_ w' H=>x_mv (v:=aB) rfl) ?_;refine sa_q (fun ai w_ H=>(St.pick H [0,1,2,3,4,5] (by decide) rfl)) rfl rfl (fun g_ w' H=>x_fa (v:=Oq aj 1) rfl (fa_blk (o:=0) Fd38_1 Sz3)) ?_;refine sa_q (fun ai w_ H=>(St.pick H [0,1,2,3,4,5] (by decide) rfl)) rfl rfl (fun g_ w' H=>x_ld (v:=I r_.down) rfl (ldb_sc Sc3 (H.bl 2) rfl)) ?_;refine sa_l (fun ai w_ H=>(St.pick H [0,1,2,3,4,5] (by decide) rfl)) rfl ?_;intro g_ ai bh H
 replace H:St w bh (cBlk am [I 0,I 0,I 0,I 0] 43 :: cBlk ak [.func (.func 87) #[] #[]] 128 :: cBlk aj [I r_.up,I r_.down,I r_.lo,I r_.hi,B r_.narrow] 38 :: cBlk al [Pq ag] 83 :: cMk ([]) :: cMemI encSpt ah (zaa aa ac ae) :: ai) R:=H
 obtain ⟨bS,bi,hM⟩:=M.e_bind hM;refine s_call cf59 [Pq ag,aB,I r_.up] rfl (zbB aa ac ae marks r_.up (aF.app _) aL (aG.app _) aM (aH.app _) aN (aI.app _) (aO.app _) aS bi _ (St.give (T:=(cBlk am [I 0,I 0,I 0,I 0] 43 :: cBlk ak [.func (.func 87) #[] #[]] 128 :: cBlk aj [I r_.up,I r_.down,I r_.lo,I r_.hi,B r_.narrow] 38 :: cBlk al [Pq ag] 83 :: cMk ([]) :: cMemI encSpt ah (zaa aa ac ae) :: ai)) H rfl)) ?_
 rintro vq bj ⟨r0,r1,rfl,hvq,ao⟩
 subst vq;(try dsimp only at hM)
 replace H:St w bj (cBlk am [I 0,I 0,I 0,I 0] 43 :: cBlk ak [.func (.func 87) #[] #[]] 128 :: cBlk aj [I r_.up,I r_.down,I r_.lo,I r_.hi,B r_.narrow] 38 :: cBlk al [Pq ag] 83 :: cMk ([]) :: cMemI encSpt ah (zaa aa ac ae) :: ai) R:=H.back ao rfl
 clear ao
 refine s_nil ⟨(St.pick H [0,1,2,3,4,5] (by decide) rfl),_,[cBlk am [I 0,I 0,I 0,I 0] 43,cBlk ak [.func (.func 87) #[] #[]] 128,cBlk aj [I r_.up,I r_.down,I r_.lo,I r_.hi,B r_.narrow] 38,cBlk al [Pq ag] 83,cMk ([]),cMemI encSpt ah (zaa aa ac ae)],mix_upd rfl,H,?_⟩
 refine sa_l (fun ai w_ H=>(St.pick H [0,1,2,3,4,5] (by decide) rfl)) rfl ?_;intro g_ ai bm H
 replace H:St w bm (cBlk am [I 0,I 0,I 0,I 0] 43 :: cBlk ak [.func (.func 87) #[] #[]] 128 :: cBlk aj [I r_.up,I r_.down,I r_.lo,I r_.hi,B r_.narrow] 38 :: cBlk al [Pq ag] 83 :: cMk ([]) :: cMemI encSpt ah (zaa aa ac ae) :: ai) R:=H
 obtain ⟨bT,bn,hM⟩:=M.e_bind hM;refine s_call cf59 [Pq ag,aB,I r_.down] rfl (zbB aa ac ae marks r_.down (aF.app _) aL (aG.app _) aM (aH.app _) aN (aI.app _) (aO.app _) aS bn _ (St.give (T:=(cBlk am [I 0,I 0,I 0,I 0] 43 :: cBlk ak [.func (.func 87) #[] #[]] 128 :: cBlk aj [I r_.up,I r_.down,I r_.lo,I r_.hi,B r_.narrow] 38 :: cBlk al [Pq ag] 83 :: cMk ([]) :: cMemI encSpt ah (zaa aa ac ae) :: ai)) H rfl)) ?_
 rintro vq bo ⟨ap,au,rfl,hvq,ao⟩
 subst vq;(try dsimp only at hM)
 replace H:St w bo (cBlk am [I 0,I 0,I 0,I 0] 43 :: cBlk ak [.func (.func 87) #[] #[]] 128 :: cBlk aj [I r_.up,I r_.down,I r_.lo,I r_.hi,B r_.narrow] 38 :: cBlk al [Pq ag] 83 :: cMk ([]) :: cMemI encSpt ah (zaa aa ac ae) :: ai) R:=H.back ao rfl
 clear ao
 refine s_nil ⟨(St.pick H [0,1,2,3,4,5] (by decide) rfl),_,[cBlk am [I 0,I 0,I 0,I 0] 43,cBlk ak [.func (.func 87) #[] #[]] 128,cBlk aj [I r_.up,I r_.down,I r_.lo,I r_.hi,B r_.narrow] 38,cBlk al [Pq ag] 83,cMk ([]),cMemI encSpt ah (zaa aa ac ae)],mix_upd rfl,H,?_⟩
 refine sa_nil (fun ai w_ H=>(St.pick H [0,1,2,3,4,5] (by decide) rfl)) ?_;intro aq ay bp H
 replace H:St w bp [cBlk am [I 0,I 0,I 0,I 0] 43,cBlk ak [.func (.func 87) #[] #[]] 128,cBlk aj [I r_.up,I r_.down,I r_.lo,I r_.hi,B r_.narrow] 38,cBlk al [Pq ag] 83,cMk ([]),cMemI encSpt ah (zaa aa ac ae),cBlk aq [I 0,I 0] 36,cBlk ay [I 0,I 0] 36] R:=(H)
 refine t_l rfl ?_;refine t_sw 6 0 [I r0,I r1] (.agg #[I r0,I r1]) H rfl rfl Sz36 rfl rfl rfl rfl ?_;intro bU H
 refine s_nil ⟨(St.pick H [0,1,2,3,4,5] (by decide) rfl),?_⟩
 refine t_l rfl ?_;refine t_sw 7 0 [I ap,I au] (.agg #[I ap,I au]) H rfl rfl Sz36 rfl rfl rfl rfl ?_;intro bV H
 refine s_nil ⟨(St.pick H [0,1,2,3,4,5] (by decide) rfl),?_⟩
 refine t_nil<|WD.seq<|WD.of ?_;refine W.drawA (fun W=>St w W [cBlk am [I 0,I 0,I 0,I 0] 43,cBlk ak [.func (.func 87) #[] #[]] 128,cBlk aj [I r_.up,I r_.down,I r_.lo,I r_.hi,B r_.narrow] 38,cBlk al [Pq ag] 83,cMk ([]),cMemI encSpt ah (zaa aa ac ae),cBlk aq [I r0,I r1] 36,cBlk ay [I ap,I au] 36] R) [(0,true),(1,true),(2,true),(3,true),(4,true),(5,false)] [(6,12,3,[I 0]),(7,13,4,[B false])] (.l 8 (.l 9 .nil)) 2 mixed (by decide +kernel) rfl (by intro x hx; simp only [List.mem_cons,List.not_mem_nil,or_false] at hx; rcases hx with rfl | rfl <;> first | exact ⟨_,_,_,rfl,_,Al3,rfl⟩ | exact ⟨_,_,_,rfl,_,Al4,rfl⟩) (by decide) (by decide) H ?_;refine sa_q (fun ai w_ H=>(St.pick H [0,1,2,3,4,5,6,7] (by decide) rfl)) rfl rfl (fun g_ w' H=>x_fa (v:=Oq aj 2) rfl (fa_blk (o:=0) Fd38_2 Sz36)) ?_;refine sa_q (fun ai w_ H=>(St.pick H [0,1,2,3,4,5,6,7] (by decide) rfl)) rfl rfl (fun g_ w' H=>x_fa (v:=Oq aj 2) rfl (fa_blk (o:=2) Fd36_0 Sz3)) ?_;refine sa_q (fun ai w_ H=>(St.pick H [0,1,2,3,4,5,6,7] (by decide) rfl)) rfl rfl (fun g_ w' H=>x_ld (v:=I r_.lo) rfl (ldb_sc Sc3 (H.bl 2) rfl)) ?_;refine sa_q (fun ai w_ H=>(St.pick H [0,1,2,3,4,5,6,7] (by decide) rfl)) rfl rfl (fun g_ w' H=>x_fa (v:=Pq ak) rfl (fa_blk (o:=0) Fd128_0 Sz123)) ?_;refine sa_q (fun ai w_ H=>(St.pick H [0,1,2,3,4,5,6,7] (by decide) rfl)) rfl rfl (fun g_ w' H=>x_ld (v:=.func (.func 87) #[] #[]) rfl (ldb_sc Sc123 (H.bl 1) rfl)) ?_;refine sa_l (fun ai w_ H=>(St.pick H [0,1,2,3,4,5,6,7] (by decide) rfl)) rfl ?_;intro g_ ai br H
 replace H:St w br (cBlk am [I 0,I 0,I 0,I 0] 43 :: cBlk ak [.func (.func 87) #[] #[]] 128 :: cBlk aj [I r_.up,I r_.down,I r_.lo,I r_.hi,B r_.narrow] 38 :: cBlk al [Pq ag] 83 :: cMk ([]) :: cMemI encSpt ah (zaa aa ac ae) :: cBlk aq [I r0,I r1] 36 :: cBlk ay [I ap,I au] 36 :: ai) R:=H
 obtain ⟨bW,bt,hM⟩:=M.e_bind hM;refine s_callv (f:=87) rfl cf87 [I 1,I 0] rfl (zdP 1 0 bt _ (St.give (T:=(cBlk am [I 0,I 0,I 0,I 0] 43 :: cBlk ak [.func (.func 87) #[] #[]] 128 :: cBlk aj [I r_.up,I r_.down,I r_.lo,I r_.hi,B r_.narrow] 38 :: cBlk al [Pq ag] 83 :: cMk ([]) :: cMemI encSpt ah (zaa aa ac ae) :: cBlk aq [I r0,I r1] 36 :: cBlk ay [I ap,I au] 36 :: ai)) H rfl)) ?_
 rintro vq bu ⟨r2,rfl,hvq,ao⟩
 subst vq;(try dsimp only at hM)
 replace H:St w bu (cBlk am [I 0,I 0,I 0,I 0] 43 :: cBlk ak [.func (.func 87) #[] #[]] 128 :: cBlk aj [I r_.up,I r_.down,I r_.lo,I r_.hi,B r_.narrow] 38 :: cBlk al [Pq ag] 83 :: cMk ([]) :: cMemI encSpt ah (zaa aa ac ae) :: cBlk aq [I r0,I r1] 36 :: cBlk ay [I ap,I au] 36 :: ai) R:=H.back ao rfl
 clear ao
 refine s_nil ⟨(St.pick H [0,1,2,3,4,5,6,7] (by decide) rfl),_,[cBlk am [I 0,I 0,I 0,I 0] 43,cBlk ak [.func (.func 87) #[] #[]] 128,cBlk aj [I r_.up,I r_.down,I r_.lo,I r_.hi,B r_.narrow] 38,cBlk al [Pq ag] 83,cMk ([]),cMemI encSpt ah (zaa aa ac ae),cBlk aq [I r0,I r1] 36,cBlk ay [I ap,I au] 36],mix_upd rfl,H,?_⟩
 refine sa_nil (fun ai w_ H=>(St.pick H [0,1,2,3,4,5,6,7] (by decide) rfl)) ?_;intro az aA bv H
 replace H:St w bv [cBlk am [I 0,I 0,I 0,I 0] 43,cBlk ak [.func (.func 87) #[] #[]] 128,cBlk aj [I r_.up,I r_.down,I r_.lo,I r_.hi,B r_.narrow] 38,cBlk al [Pq ag] 83,cMk ([]),cMemI encSpt ah (zaa aa ac ae),cBlk aq [I r0,I r1] 36,cBlk ay [I ap,I au] 36,cBlk az [I 0] 3,cBlk aA [B false] 4] R:=(H)
 refine t_l rfl ?_;refine t_sw 8 0 [I r_.lo] (I r_.lo) H rfl rfl Sz3 rfl rfl rfl rfl ?_;intro bX H
 refine s_nil ⟨(St.pick H [0,1,2,3,4,5,6,7] (by decide) rfl),?_⟩
 refine t_l rfl ?_;refine t_sw 9 0 [B r2] (B r2) H rfl rfl Sz4 rfl rfl rfl rfl ?_;intro bY H
 refine s_nil ⟨(St.pick H [0,1,2,3,4,5,6,7] (by decide) rfl),?_⟩
 refine t_nil<|WD.seq<|WD.seq<|WD.of ?_;refine kg 4 ?_
 refine WD.cond (!r2) rfl (fun aT=>?_) (fun aT=>?_)
 ·replace hM:=M.e_t hM aT
  exact (M.e_fail hM).elim
 replace hM:=M.e_f hM aT;refine WD.of<|W.skip<|WD.seq<|WD.of<|W.region rfl ?_;refine t_alloc (cs:=[I 0,I 0,I 0,I 0]) H Al43 rfl ?_;intro av bZ H;refine s_nil<|WD.seq<|WD.of<|W.region rfl ?_;refine t_alloc (cs:=[I 0]) H Al3 rfl ?_;intro ax b6 H;refine t_sw 0 0 [I 0] (I 0) H rfl rfl Sz3 rfl rfl rfl rfl ?_;intro b7 H;refine s_nil<|WD.seq<|WD.seq<|WD.of ?_;refine W.draw (fun W=>St w W [cBlk ax [I 0] 3,cBlk av [I 0,I 0,I 0,I 0] 43,cBlk am [I 0,I 0,I 0,I 0] 43,cBlk ak [.func (.func 87) #[] #[]] 128,cBlk aj [I r_.up,I r_.down,I r_.lo,I r_.hi,B r_.narrow] 38,cBlk al [Pq ag] 83,cMk ([]),cMemI encSpt ah (zaa aa ac ae),cBlk aq [I r0,I r1] 36,cBlk ay [I ap,I au] 36,cBlk az [I r_.lo] 3,cBlk aA [B r2] 4] R) [(0,true),(1,true),(2,true),(3,true),(4,true),(5,true),(6,false),(7,false),(8,true),(9,false)] mixed (by decide +kernel) rfl ?_;intro b8 aJ;replace H:=H.ext aJ;clear aJ
 refine ⟨(H.pk [0,1,2,3,4,5,6,7,8,9,10,11]),?_⟩
 refine kg 6 ?_;refine d_l rfl ?_;refine t_bs (α:=Int) T28 [I r1] [(r1:Int)] H rfl (.cons rfl (Flat.rep_enc _ (r1:Int))<|.nil) rfl rfl rfl ?_;intro bw b9 H
 have cb:=Sl.cells (H.os 0)
 have cc:=Sl.oc (H.os 0)
 refine s_nil ⟨(H.pk [1,2,3,4,5,6,7,8,9,10,11,12]),?_⟩
 refine d_l rfl ?_;obtain ⟨ce,bx,hM⟩:=M.e_bind hM;refine s_call cf85 [I au,bw] rfl (zcF au ([(r1:Int)]) (rdo 0) (H.os 0) bx _ (H.gt 13)) ?_
 rintro vq cf ⟨r3,rfl,hvq,ao⟩
 subst vq;(try dsimp only at hM);replace H:=H.bk ao;clear ao
 refine s_nil ⟨(H.pk [1,2,3,4,5,6,7,8,9,10,11,12]),?_⟩
 refine d_q rfl (fun w' H=>x_bld (ps:=[(0,I ap),(1,I r3)]) (zs:=[I 0,I 0]) (L':=[I ap,I r3]) rfl Tryz.underlying36 Al36 rfl (Bd36 Tryz.underlying36) (.cons (cs:=[I ap]) rfl rfl rfl rfl rfl<|.cons (cs:=[I r3]) rfl rfl rfl rfl rfl<|.nil))<|d_l rfl ?_;obtain ⟨cg,bz,hM⟩:=M.e_bind hM;refine s_call cf84 [.agg #[I ap,I r3]] rfl (zdI (⟨(ap:Int),(r3:Int)⟩:Span) bz _ (H.gt 13)) ?_
 rintro vq ch ⟨aC,aD,aE,rfl,hvq,ao⟩
 subst vq;(try dsimp only at hM);replace H:=H.bk ao;clear ao
 refine s_nil ⟨(H.pk [2,3,4,5,6,7,8,9,10,11,12,13]),?_⟩
 refine d_nil ?_;replace H:=H.pk [0,2,3,4,5,6,7,8,9,10,12,13];refine WD.block ?_;obtain ⟨ci,bA,hM⟩:=M.e_bind hM;refine WD.range (L:=[cBlk ax [I 0] 3,cBlk av [I 0,I 0,I 0,I 0] 43,cMemI encSpt ah (zaa aa ac ae),cBlk aE [I aC,I aD] 36,cBlk am [I 0,I 0,I 0,I 0] 43,cBlk ak [.func (.func 87) #[] #[]] 128,cBlk aj [I r_.up,I r_.down,I r_.lo,I r_.hi,B r_.narrow] 38,cBlk al [Pq ag] 83,cBlk aq [I r0,I r1] 36,cBlk az [I r_.lo] 3,cBlk aA [B r2] 4]) [Pq aE] (H.pk [7,1,2,8,0,3,4,5,6,9,10,11]) rfl cf115 ?_;intro aP aQ aU bB aV H
 have hYC:YieldC Tryz.prog ([cMk (aQ :: ([])),cBlk aE [I aC,I aD] 36,cBlk am [I 0,I 0,I 0,I 0] 43,cBlk ak [.func (.func 87) #[] #[]] 128,cBlk aj [I r_.up,I r_.down,I r_.lo,I r_.hi,B r_.narrow] 38,cBlk al [Pq ag] 83,cBlk aq [I r0,I r1] 36,cBlk az [I r_.lo] 3,cBlk aA [B r2] 4]++R) arI (yJ aP aU (fun (s,s2,s3,s4,s5) aR=>aR=[cBlk ax [I s] 3,cBlk av [I s2,I s3,I s4,I s5] 43,cMemI encSpt ah (zaa aa ac ae)]) (fun (_:Unit) _=>False) (fun _=>.ret)) (.func (.yield aP) #[] #[]) (M.yl (zav aa ac ae r_ r1 r2)):=by
  refine YieldC.mk aV (fun (s,s2,s3,s4,s5) aR=>aR=[cBlk ax [I s] 3,cBlk av [I s2,I s3,I s4,I s5] 43,cMemI encSpt ah (zaa aa ac ae)]) (fun (_:Unit) _=>False) (fun _=>.ret) (zav aa ac ae r_ r1 r2) (by rintro ⟨s,s2,s3,s4,s5⟩ _ h_; obtain ⟨rfl⟩:=h_; rfl) (fun _ _ h_=>h_.elim) rfl (arI_len rfl) ?_;intro C_ cj x W_ bC
  obtain rfl:=bC
  refine kg 3 ?_
  refine ⟨rfl,rfl,?_⟩
  intro w R aK aR s_ r bD hM H
  obtain ⟨s,s2,s3,s4,s5⟩:=s_
  obtain ⟨rfl⟩:=bD
  replace aF:=aF.sub aK
  replace aG:=aG.sub aK
  replace aH:=aH.sub aK
  replace aI:=aI.sub aK
  replace aO:=aO.sub aK
  replace hM:(zav aa ac ae r_ r1 r2 (s,s2,s3,s4,s5) x).Ends r:=hM
  simp only [zav] at hM
  replace H:=H.pk [0,1,2,4,5,6,7,8,9,10,11,3];refine kg 10 ?_;refine s_val (x_bld (ps:=[(0,I (max r0 x)),(1,I x),(2,I r_.lo),(3,I r_.lo)]) (zs:=[I 0,I 0,I 0,I 0]) (L':=[I (max r0 x),I x,I r_.lo,I r_.lo]) rfl Tryz.underlying43 Al43 rfl (Bd43 Tryz.underlying43) (.cons (cs:=[I (max r0 x)]) rfl rfl rfl rfl rfl<|.cons (cs:=[I x]) rfl rfl rfl rfl rfl<|.cons (cs:=[I r_.lo]) rfl rfl rfl rfl rfl<|.cons (cs:=[I r_.lo]) rfl rfl rfl rfl rfl<|.nil)) ?_;refine t_alloc (cs:=[I 0,I 0,I 0,I 0]) H Al43 rfl ?_;intro ck cn H;refine t_sw 0 0 [I (max r0 x),I x,I r_.lo,I r_.lo] (.agg #[I (max r0 x),I x,I r_.lo,I r_.lo]) H rfl rfl Sz43 rfl rfl rfl rfl ?_;intro co H;refine kg 6 ?_
  refine W.cond r2 rfl (fun aW=>?_) (fun aW=>?_)
  ·replace hM:=M.e_t hM aW;refine kg 4 ?_;refine t_sw 0 0 [I r1] (I r1) H rfl rfl Sz3 rfl rfl rfl rfl ?_;intro cp H;refine kg 6 ?_;obtain ⟨cq,bE,hM⟩:=M.e_bind hM;refine s_call cf22 [Pq ag,.agg #[I r_.up,I r_.down,I r_.lo,I r_.hi,B r_.narrow],.agg #[I r1,I x,I r_.lo,I r_.lo]] rfl (zdi aa ac ae r_ (⟨(r1:Int),(x:Int),(r_.lo:Int),(r_.lo:Int)⟩:Cas) (aF.app _) aL (aG.app _) aM (aH.app _) aN (aI.app _) bE _ ((H.pk [3,0,1,2,4,5,6,7,8,9,10,11,12]).gt 12)) ?_
   rintro vq cr ⟨r4,rfl,hvq,ao⟩
   subst vq;(try dsimp only at hM)
   replace H:=H.pk [3,0,1,2,4,5,6,7,8,9,10,11,12] |>.bk ao
   clear ao;refine kg 5 ?_;refine s_val (x_bld (ps:=[]) (zs:=[I 0,I 0,I 0,I 0]) (L':=[I 0,I 0,I 0,I 0]) rfl Tryz.underlying43 Al43 rfl (Bd43 Tryz.underlying43) (.nil))<|s_val (x_eqS (eqT43 (⟨(s2:Int),(s3:Int),(s4:Int),(s5:Int)⟩:Cas) (⟨(0:Int),(0:Int),(0:Int),(0:Int)⟩:Cas) _) gdT43 rfl rfl) ?_;refine kg 5 ?_;obtain ⟨r5,bF,hM⟩:=M.e_bind hM;refine t_gcallv (cap:=[]) (!(decide ((⟨(s2:Int),(s3:Int),(s4:Int),(s5:Int)⟩:Cas)=(⟨(0:Int),(0:Int),(0:Int),(0:Int)⟩:Cas)))) (gy_f rfl) cf87 (fun hg=>(gd_of hg (.func (.func 87) #[] #[]))) (B r5) (fun _=>[I r4,I s]) (fun hg=>lst2 (gd_of hg (I r4)) (gd_of hg (I s))) H (fun hg=>(zdP r4 s (M.e_opt bF hg) _ (H.give (A:=[]) rfl)).mono fun v_ w_ ⟨y_,aX,bG,H_⟩=>by subst aX; exact ⟨bG,H.via H_⟩) ?_;intro ct H;refine s_val (x_por (b:=decide ((⟨(s2:Int),(s3:Int),(s4:Int),(s5:Int)⟩:Cas)=(⟨(0:Int),(0:Int),(0:Int),(0:Int)⟩:Cas))) (r:=r5) rfl rfl (fun hb=>gd_of (c:=!(decide ((⟨(s2:Int),(s3:Int),(s4:Int),(s5:Int)⟩:Cas)=(⟨(0:Int),(0:Int),(0:Int),(0:Int)⟩:Cas)))) (by first | exact hb | (rw [hb]; rfl) | simp_all) (B r5)))<|s_nil ?_
   refine W.cond ((decide ((⟨(s2:Int),(s3:Int),(s4:Int),(s5:Int)⟩:Cas)=(⟨(0:Int),(0:Int),(0:Int),(0:Int)⟩:Cas)))||r5) rfl (fun aY=>?_) (fun aY=>?_)
   ·replace hM:=M.e_t hM aY;refine kg 3 ?_;refine t_sw 3 0 [I r1,I x,I r_.lo,I r_.lo] (.agg #[I r1,I x,I r_.lo,I r_.lo]) H rfl rfl Sz43 rfl rfl rfl rfl ?_;intro cv H;refine t_sw 2 0 [I r4] (I r4) H rfl rfl Sz3 rfl rfl rfl rfl ?_;intro cw H;refine s_nil ?_
    exact ⟨(r4,r1,x,r_.lo,r_.lo),[cBlk ax [I r4] 3,cBlk av [I r1,I x,I r_.lo,I r_.lo] 43,cMemI encSpt ah (zaa aa ac ae)],(M.e_pure hM).symm,rfl,H.pick [2,3,0,12,4,5,6,7,8,9,10,11] (by decide) rfl⟩
   replace hM:=M.e_f hM aY;refine W.skip ?_
   exact ⟨(s,s2,s3,s4,s5),[cBlk ax [I s] 3,cBlk av [I s2,I s3,I s4,I s5] 43,cMemI encSpt ah (zaa aa ac ae)],(M.e_pure hM).symm,rfl,H.pick [2,3,0,12,4,5,6,7,8,9,10,11] (by decide) rfl⟩
  replace hM:=M.e_f hM aW
  exact (M.e_fail hM).elim
 replace H:St w bB (cAll (cObj aP (.loop aU) :: [cBlk ax [I 0] 3,cBlk av [I 0,I 0,I 0,I 0] 43,cMemI encSpt ah (zaa aa ac ae)]) :: [cMk (aQ :: ([])),cBlk aE [I aC,I aD] 36,cBlk am [I 0,I 0,I 0,I 0] 43,cBlk ak [.func (.func 87) #[] #[]] 128,cBlk aj [I r_.up,I r_.down,I r_.lo,I r_.hi,B r_.narrow] 38,cBlk al [Pq ag] 83,cBlk aq [I r0,I r1] 36,cBlk az [I r_.lo] 3,cBlk aA [B r2] 4]) R:=St.bundleB (A:=cObj aP (.loop aU) :: [cBlk ax [I 0] 3,cBlk av [I 0,I 0,I 0,I 0] 43,cMemI encSpt ah (zaa aa ac ae)]) (T:=[cMk (aQ :: ([])),cBlk aE [I aC,I aD] 36,cBlk am [I 0,I 0,I 0,I 0] 43,cBlk ak [.func (.func 87) #[] #[]] 128,cBlk aj [I r_.up,I r_.down,I r_.lo,I r_.hi,B r_.narrow] 38,cBlk al [Pq ag] 83,cBlk aq [I r0,I r1] 36,cBlk az [I r_.lo] 3,cBlk aA [B r2] 4]) rfl (H.pk [0,2,3,4,1,5,6,7,8,9,10,11,12])
 refine (zdG (M.yl (zav aa ac ae r_ r1 r2)) (.inl (0,0,0,0,0)) aC aD hYC ⟨_,rfl,rfl⟩ (Has.here (k:=1) rfl) bA _ (H.gt 9)).mono ?_
 rintro vq cx ⟨bH,cy,rfl,hvq,ao,bg⟩
 replace H:=H.back ao rfl
 clear ao hYC
 rcases bH with ⟨s,s2,s3,s4,s5⟩ | _
 ·(try dsimp only at hM)
  obtain ⟨_,rfl,rfl⟩:=bg
  refine ⟨_,[cBlk ax [I s] 3,cBlk av [I s2,I s3,I s4,I s5] 43,cMemI encSpt ah (zaa aa ac ae),cBlk aE [I aC,I aD] 36,cBlk am [I 0,I 0,I 0,I 0] 43,cBlk ak [.func (.func 87) #[] #[]] 128,cBlk aj [I r_.up,I r_.down,I r_.lo,I r_.hi,B r_.narrow] 38,cBlk al [Pq ag] 83,cBlk aq [I r0,I r1] 36,cBlk az [I r_.lo] 3,cBlk aA [B r2] 4],H.unbundle.pick [0,4,1,2,3,5,6,7,8,9,10,11,12] (by decide) rfl,aV.nb,?_⟩
  intro cz H
  rw [aV.pd]
  replace H:=H.nf
  try simp only []
  replace H:=H.pk [0,1,2,3,5];refine WD.seq<|WD.of ?_;refine W.draw (fun W=>St w W [cMk (aQ :: ([])),cBlk ax [I s] 3,cBlk av [I s2,I s3,I s4,I s5] 43,cMemI encSpt ah (zaa aa ac ae)] R) [(0,true),(1,true),(2,false),(3,true)] mixed (by decide +kernel) rfl ?_;intro cA aJ;replace H:=H.ext aJ;clear aJ
  refine ⟨(H.pk [0,1,2,3]),?_⟩
  refine kg 2 ?_;refine d_l rfl ?_;refine t_sw 4 0 [I s2,I s3,I s4,I s5] (.agg #[I s2,I s3,I s4,I s5]) H rfl rfl Sz43 rfl rfl rfl rfl ?_;intro cB H
  refine s_nil ⟨(H.pk [0,1,2,3]),?_⟩
  refine kg 2 ?_;replace H:=H.pk [0,3,4];refine WD.of ?_;refine W.ret ?_;refine bodyD_r (H.pk [0,1,2]) ?_;intro cC H;replace H:=H.nf
  have bI:=(H.bl 1)
  have aX:=M.e_pure hM
  exact ⟨_,(resE_ofn (vs:=[.agg #[I s2,I s3,I s4,I s5],I s]) rfl rfl (.cell (v:=.agg #[I s2,I s3,I s4,I s5]) rfl (run_loadVar_ag (ds:=[I s2,I s3,I s4,I s5]) Ag43 Sz43 bI rfl rfl)<|.tmp (v:=I s) rfl<|.nil)),⟨s2,s3,s4,s5,s,aX,rfl,(H.pk [0])⟩⟩
 obtain ⟨_,_,h_⟩:=bg; exact h_.elim

def zcq (aa:List Sect) (ac:List Mrk) (ae:List Rch) (marks:List Int) (r_:Rch):M (Int × Int) :=
  M.bind (zdr) fun (_:Unit) =>
  M.bind (zbH aa ac ae marks r_) fun (ah,ai,aj,ak,r1) =>
  M.bind (zcK) fun (_:Unit) =>
  M.bind (zaS aa ac ae marks r_) fun (al,am,ao,ap,ag) =>
  M.pure (r1,ag)
theorem zeU {R:List Chunk} {ao:Nat} {aN:Cells} {aO:Value} {aP:Cells} {aQ:Value} {aR:Cells} {aS:Value} {aM:Nat} {aT:Cells} {ap:Value} (ak:List Sect) (al:List Mrk) (am:List Rch) (marks:List Int) (r_:Rch) (aq:Reads R aN) (au:Sl aN aO ak) (av:Reads R aP) (ax:Sl aP aQ al) (ay:Reads R aR) (az:Sl aR aS am) (aA:Has R (cBlk ao [aO,aQ,aS,.map (some aM)] 117)) (aB:Reads R aT) (aC:Sl aT ap marks) {r:(Int × Int)} (hM:(zcq ak al am marks r_).Ends r) (w:World) (H:St w w [cMemI encSpt aM (zaa ak al am)] R):Ret Tryz.prog 25 #[Pq ao,ap,.agg #[I r_.up,I r_.down,I r_.lo,I r_.hi,B r_.narrow]] w fun v w'=>∃ (y0:Int) (y1:Int),(y0,y1)=r/\v = .agg #[I y0,I y1]/\St w w' [cMemI encSpt aM (zaa ak al am)] R:=by
 refine ret_of_W Tryz.func25 rfl rfl rfl ?_;refine kg 2 ?_;refine t_bx [I r_.up,I r_.down,I r_.lo,I r_.hi,B r_.narrow] H rfl ?_;intro aK bC H;refine t_alloc (cs:=[I 0,I 0]) H Al36 rfl ?_;intro aL bD H;refine kg 2 ?_;refine W.drawT (fun W=>St w W [cBlk aL [I 0,I 0] 36,cBlk aK [I r_.up,I r_.down,I r_.lo,I r_.hi,B r_.narrow] 38] R) (.q 0 (.q 1 (.q 2 (.l2 3 (.l2 4 (.q 5 (.q 6 (.q 7 (.l 8 (.l 9 (.q 10 .nil)))))) 8 (.l 4 (.q 5 (.q 6 (.q 7 (.l 9 (.q 10 .nil))))))) 8 (.l 3 (.l 4 (.q 5 (.q 6 (.q 7 (.l 9 (.q 10 .nil))))))))))) mixed (by decide +kernel) rfl ?_;intro bE aD;replace H:=H.ext aD;clear aD
 refine ⟨(H.pk [0,1]),?_⟩
 refine kg 3 ?_;refine t_l2 rfl rfl ?_ ?_
 ·skip
  obtain ⟨bF,aU,hM⟩:=M.e_bind hM;refine s_call cf51 [] rfl (zdS aU _ (H.gt 3)) ?_
  rintro vq bG ⟨rfl,hvq,ac⟩
  subst vq;(try dsimp only at hM);replace H:=H.bk ac;clear ac
  refine s_nil ⟨(H.pk [0,1]),?_⟩
  refine t_l2 rfl rfl ?_ ?_
  ·skip
   obtain ⟨bH,aV,hM⟩:=M.e_bind hM;refine s_call cf50 [Pq ao,ap,.agg #[I r_.up,I r_.down,I r_.lo,I r_.hi,B r_.narrow],.agg #[.func (.func 86) #[] #[]]] rfl (zcG ak al am marks r_ (aq.app _) au (av.app _) ax (ay.app _) az (aA.app _) (aB.app _) aC aV _ ((H.pk [2,0,1]).gt 2)) ?_
   rintro vq bI ⟨aE,aF,aG,aH,r1,rfl,hvq,ac⟩
   subst vq;(try dsimp only at hM)
   replace H:=H.pk [2,0,1] |>.bk ac
   clear ac
   refine s_nil ⟨(H.pk [1,2]),?_⟩
   refine kg 3 ?_;refine t_l rfl ?_;refine t_alloc (cs:=[I 0,I 0,I 0,I 0]) H Al43 rfl ?_;intro aJ bJ H
   refine s_nil ⟨(H.pk [2,3]),?_⟩
   refine t_l rfl ?_;refine t_sw 0 0 [I aE,I aF,I aG,I aH] (.agg #[I aE,I aF,I aG,I aH]) H rfl rfl Sz43 rfl rfl rfl rfl ?_;intro bK H
   refine s_nil ⟨(H.pk [2,3]),?_⟩
   refine kg 3 ?_;refine W.drawT (fun W=>St w W [cBlk aJ [I aE,I aF,I aG,I aH] 43,cBlk aL [I 0,I 0] 36,cBlk aK [I r_.up,I r_.down,I r_.lo,I r_.hi,B r_.narrow] 38] R) (.q 0 (.q 1 (.q 2 (.l2 3 (.l2 4 (.q 5 (.q 6 (.q 7 (.l 8 (.l 9 (.q 10 .nil)))))) 8 (.l 4 (.q 5 (.q 6 (.q 7 (.l 9 (.q 10 .nil))))))) 8 (.l 3 (.l 4 (.q 5 (.q 6 (.q 7 (.l 9 (.q 10 .nil))))))))))) mixed (by decide +kernel) rfl ?_;intro bL aD;replace H:=H.ext aD;clear aD
   refine ⟨(H.pk [0,2,3]),?_⟩
   refine kg 3 ?_;refine t_l2 rfl rfl ?_ ?_
   ·skip
    obtain ⟨bN,aW,hM⟩:=M.e_bind hM;refine s_call cf52 [] rfl (zaE aW _ (H.gt 4)) ?_
    rintro vq bO ⟨rfl,hvq,ac⟩
    subst vq;(try dsimp only at hM);replace H:=H.bk ac;clear ac
    refine s_nil ⟨(H.pk [0,2,3]),?_⟩
    refine t_l2 rfl rfl ?_ ?_
    ·skip
     obtain ⟨bP,aX,hM⟩:=M.e_bind hM;refine s_call cf50 [Pq ao,ap,.agg #[I r_.up,I r_.down,I r_.lo,I r_.hi,B r_.narrow],.agg #[.func (.func 87) #[] #[]]] rfl (zam ak al am marks r_ (aq.app _) au (av.app _) ax (ay.app _) az (aA.app _) (aB.app _) aC aX _ ((H.pk [1,0,2,3]).gt 3)) ?_
     rintro vq bQ ⟨ae,ag,ah,ai,aa,rfl,hvq,ac⟩
     subst vq;(try dsimp only at hM)
     replace H:=H.pk [1,0,2,3] |>.bk ac
     clear ac
     refine s_nil ⟨(H.pk [1,2,3]),?_⟩
     refine kg 3 ?_;refine t_l rfl ?_;refine t_alloc (cs:=[I 0,I 0,I 0,I 0]) H Al43 rfl ?_;intro aI bR H
     refine s_nil ⟨(H.pk [2,3,4]),?_⟩
     refine t_l rfl ?_;refine t_sw 0 0 [I ae,I ag,I ah,I ai] (.agg #[I ae,I ag,I ah,I ai]) H rfl rfl Sz43 rfl rfl rfl rfl ?_;intro bS H
     refine s_nil ⟨(H.pk [2,3,4]),?_⟩
     refine kg 2 ?_;replace H:=H.pk [1,3];refine kg 4 ?_;refine s_val (x_bld (ps:=[(0,I r1),(1,I aa)]) (zs:=[I 0,I 0]) (L':=[I r1,I aa]) rfl Tryz.underlying36 Al36 rfl (Bd36 Tryz.underlying36) (.cons (cs:=[I r1]) rfl rfl rfl rfl rfl<|.cons (cs:=[I aa]) rfl rfl rfl rfl rfl<|.nil)) ?_;refine t_sw 1 0 [I r1,I aa] (.agg #[I r1,I aa]) H rfl rfl Sz36 rfl rfl rfl rfl ?_;intro bT H;refine s_nil ?_;refine W.ret ?_
     have aY:=(H.bl 1)
     have aj:=M.e_pure hM
     exact ⟨_,(resE_of1 (v:=.agg #[I r1,I aa]) rfl (.cell (v:=.agg #[I r1,I aa]) rfl (run_loadVar_ag (ds:=[I r1,I aa]) Ag36 Sz36 aY rfl rfl)<|.nil)),⟨r1,aa,aj,rfl,(H.pk [0])⟩⟩
    skip
    refine t_alloc (cs:=[I 0,I 0,I 0,I 0]) H Al43 rfl ?_;intro aI bU H
    refine s_nil ⟨(H.pk [1,3,4]),?_⟩
    refine t_l rfl ?_;obtain ⟨bV,aZ,hM⟩:=M.e_bind hM;refine s_call cf50 [Pq ao,ap,.agg #[I r_.up,I r_.down,I r_.lo,I r_.hi,B r_.narrow],.agg #[.func (.func 87) #[] #[]]] rfl (zam ak al am marks r_ (aq.app _) au (av.app _) ax (ay.app _) az (aA.app _) (aB.app _) aC aZ _ ((H.pk [2,0,1,3,4]).gt 4)) ?_
    rintro vq bW ⟨ae,ag,ah,ai,aa,rfl,hvq,ac⟩
    subst vq;(try dsimp only at hM)
    replace H:=H.pk [2,0,1,3,4] |>.bk ac
    clear ac
    refine s_nil ⟨(H.pk [2,3,4]),?_⟩
    refine kg 3 ?_;refine t_l rfl ?_;refine t_sw 1 0 [I ae,I ag,I ah,I ai] (.agg #[I ae,I ag,I ah,I ai]) H rfl rfl Sz43 rfl rfl rfl rfl ?_;intro bX H
    refine s_nil ⟨(H.pk [2,3,4]),?_⟩
    refine kg 2 ?_;replace H:=H.pk [0,3];refine kg 4 ?_;refine s_val (x_bld (ps:=[(0,I r1),(1,I aa)]) (zs:=[I 0,I 0]) (L':=[I r1,I aa]) rfl Tryz.underlying36 Al36 rfl (Bd36 Tryz.underlying36) (.cons (cs:=[I r1]) rfl rfl rfl rfl rfl<|.cons (cs:=[I aa]) rfl rfl rfl rfl rfl<|.nil)) ?_;refine t_sw 1 0 [I r1,I aa] (.agg #[I r1,I aa]) H rfl rfl Sz36 rfl rfl rfl rfl ?_;intro bY H;refine s_nil ?_;refine W.ret ?_
    have a7:=(H.bl 1)
    have aj:=M.e_pure hM
    exact ⟨_,(resE_of1 (v:=.agg #[I r1,I aa]) rfl (.cell (v:=.agg #[I r1,I aa]) rfl (run_loadVar_ag (ds:=[I r1,I aa]) Ag36 Sz36 a7 rfl rfl)<|.nil)),⟨r1,aa,aj,rfl,(H.pk [0])⟩⟩
   skip
   refine t_alloc (cs:=[I 0,I 0,I 0,I 0]) H Al43 rfl ?_;intro aI bZ H
   refine s_nil ⟨(H.pk [1,3,4]),?_⟩
   refine t_l rfl ?_;obtain ⟨b6,a8,hM⟩:=M.e_bind hM;refine s_call cf52 [] rfl (zaE a8 _ (H.gt 5)) ?_
   rintro vq b7 ⟨rfl,hvq,ac⟩
   subst vq;(try dsimp only at hM);replace H:=H.bk ac;clear ac
   refine s_nil ⟨(H.pk [1,3,4]),?_⟩
   refine t_l rfl ?_;obtain ⟨b8,ba,hM⟩:=M.e_bind hM;refine s_call cf50 [Pq ao,ap,.agg #[I r_.up,I r_.down,I r_.lo,I r_.hi,B r_.narrow],.agg #[.func (.func 87) #[] #[]]] rfl (zam ak al am marks r_ (aq.app _) au (av.app _) ax (ay.app _) az (aA.app _) (aB.app _) aC ba _ ((H.pk [2,0,1,3,4]).gt 4)) ?_
   rintro vq b9 ⟨ae,ag,ah,ai,aa,rfl,hvq,ac⟩
   subst vq;(try dsimp only at hM)
   replace H:=H.pk [2,0,1,3,4] |>.bk ac
   clear ac
   refine s_nil ⟨(H.pk [2,3,4]),?_⟩
   refine kg 3 ?_;refine t_l rfl ?_;refine t_sw 1 0 [I ae,I ag,I ah,I ai] (.agg #[I ae,I ag,I ah,I ai]) H rfl rfl Sz43 rfl rfl rfl rfl ?_;intro cb H
   refine s_nil ⟨(H.pk [2,3,4]),?_⟩
   refine kg 2 ?_;replace H:=H.pk [0,3];refine kg 4 ?_;refine s_val (x_bld (ps:=[(0,I r1),(1,I aa)]) (zs:=[I 0,I 0]) (L':=[I r1,I aa]) rfl Tryz.underlying36 Al36 rfl (Bd36 Tryz.underlying36) (.cons (cs:=[I r1]) rfl rfl rfl rfl rfl<|.cons (cs:=[I aa]) rfl rfl rfl rfl rfl<|.nil)) ?_;refine t_sw 1 0 [I r1,I aa] (.agg #[I r1,I aa]) H rfl rfl Sz36 rfl rfl rfl rfl ?_;intro cc H;refine s_nil ?_;refine W.ret ?_
   have bb:=(H.bl 1)
   have aj:=M.e_pure hM
   exact ⟨_,(resE_of1 (v:=.agg #[I r1,I aa]) rfl (.cell (v:=.agg #[I r1,I aa]) rfl (run_loadVar_ag (ds:=[I r1,I aa]) Ag36 Sz36 bb rfl rfl)<|.nil)),⟨r1,aa,aj,rfl,(H.pk [0])⟩⟩
  skip
  refine t_alloc (cs:=[I 0,I 0,I 0,I 0]) H Al43 rfl ?_;intro aJ ce H
  refine s_nil ⟨(H.pk [1,2]),?_⟩
  refine t_l rfl ?_;obtain ⟨cf,bc,hM⟩:=M.e_bind hM;refine s_call cf50 [Pq ao,ap,.agg #[I r_.up,I r_.down,I r_.lo,I r_.hi,B r_.narrow],.agg #[.func (.func 86) #[] #[]]] rfl (zcG ak al am marks r_ (aq.app _) au (av.app _) ax (ay.app _) az (aA.app _) (aB.app _) aC bc _ ((H.pk [3,0,1,2]).gt 3)) ?_
  rintro vq cg ⟨aE,aF,aG,aH,r1,rfl,hvq,ac⟩
  subst vq;(try dsimp only at hM)
  replace H:=H.pk [3,0,1,2] |>.bk ac
  clear ac
  refine s_nil ⟨(H.pk [2,3]),?_⟩
  refine kg 3 ?_;refine t_l rfl ?_;refine t_sw 1 0 [I aE,I aF,I aG,I aH] (.agg #[I aE,I aF,I aG,I aH]) H rfl rfl Sz43 rfl rfl rfl rfl ?_;intro ch H
  refine s_nil ⟨(H.pk [2,3]),?_⟩
  refine kg 3 ?_;refine W.drawT (fun W=>St w W [cBlk aJ [I aE,I aF,I aG,I aH] 43,cBlk aL [I 0,I 0] 36,cBlk aK [I r_.up,I r_.down,I r_.lo,I r_.hi,B r_.narrow] 38] R) (.q 0 (.q 1 (.q 2 (.l2 3 (.l2 4 (.q 5 (.q 6 (.q 7 (.l 8 (.l 9 (.q 10 .nil)))))) 8 (.l 4 (.q 5 (.q 6 (.q 7 (.l 9 (.q 10 .nil))))))) 8 (.l 3 (.l 4 (.q 5 (.q 6 (.q 7 (.l 9 (.q 10 .nil))))))))))) mixed (by decide +kernel) rfl ?_;intro ci aD;replace H:=H.ext aD;clear aD
  refine ⟨(H.pk [1,2,3]),?_⟩
  refine kg 3 ?_;refine t_l2 rfl rfl ?_ ?_
  ·skip
   obtain ⟨cj,bf,hM⟩:=M.e_bind hM;refine s_call cf52 [] rfl (zaE bf _ (H.gt 4)) ?_
   rintro vq ck ⟨rfl,hvq,ac⟩
   subst vq;(try dsimp only at hM);replace H:=H.bk ac;clear ac
   refine s_nil ⟨(H.pk [1,2,3]),?_⟩
   refine t_l2 rfl rfl ?_ ?_
   ·skip
    obtain ⟨cn,bg,hM⟩:=M.e_bind hM;refine s_call cf50 [Pq ao,ap,.agg #[I r_.up,I r_.down,I r_.lo,I r_.hi,B r_.narrow],.agg #[.func (.func 87) #[] #[]]] rfl (zam ak al am marks r_ (aq.app _) au (av.app _) ax (ay.app _) az (aA.app _) (aB.app _) aC bg _ (H.gt 3)) ?_
    rintro vq co ⟨ae,ag,ah,ai,aa,rfl,hvq,ac⟩
    subst vq;(try dsimp only at hM);replace H:=H.bk ac;clear ac
    refine s_nil ⟨(H.pk [1,2,3]),?_⟩
    refine kg 3 ?_;refine t_l rfl ?_;refine t_alloc (cs:=[I 0,I 0,I 0,I 0]) H Al43 rfl ?_;intro aI cp H
    refine s_nil ⟨(H.pk [2,3,4]),?_⟩
    refine t_l rfl ?_;refine t_sw 0 0 [I ae,I ag,I ah,I ai] (.agg #[I ae,I ag,I ah,I ai]) H rfl rfl Sz43 rfl rfl rfl rfl ?_;intro cq H
    refine s_nil ⟨(H.pk [2,3,4]),?_⟩
    refine kg 2 ?_;replace H:=H.pk [1,3];refine kg 4 ?_;refine s_val (x_bld (ps:=[(0,I r1),(1,I aa)]) (zs:=[I 0,I 0]) (L':=[I r1,I aa]) rfl Tryz.underlying36 Al36 rfl (Bd36 Tryz.underlying36) (.cons (cs:=[I r1]) rfl rfl rfl rfl rfl<|.cons (cs:=[I aa]) rfl rfl rfl rfl rfl<|.nil)) ?_;refine t_sw 1 0 [I r1,I aa] (.agg #[I r1,I aa]) H rfl rfl Sz36 rfl rfl rfl rfl ?_;intro cr H;refine s_nil ?_;refine W.ret ?_
    have bh:=(H.bl 1)
    have aj:=M.e_pure hM
    exact ⟨_,(resE_of1 (v:=.agg #[I r1,I aa]) rfl (.cell (v:=.agg #[I r1,I aa]) rfl (run_loadVar_ag (ds:=[I r1,I aa]) Ag36 Sz36 bh rfl rfl)<|.nil)),⟨r1,aa,aj,rfl,(H.pk [0])⟩⟩
   skip
   refine t_alloc (cs:=[I 0,I 0,I 0,I 0]) H Al43 rfl ?_;intro aI ct H
   refine s_nil ⟨(H.pk [2,3,4]),?_⟩
   refine t_l rfl ?_;obtain ⟨cv,bi,hM⟩:=M.e_bind hM;refine s_call cf50 [Pq ao,ap,.agg #[I r_.up,I r_.down,I r_.lo,I r_.hi,B r_.narrow],.agg #[.func (.func 87) #[] #[]]] rfl (zam ak al am marks r_ (aq.app _) au (av.app _) ax (ay.app _) az (aA.app _) (aB.app _) aC bi _ ((H.pk [1,0,2,3,4]).gt 4)) ?_
   rintro vq cw ⟨ae,ag,ah,ai,aa,rfl,hvq,ac⟩
   subst vq;(try dsimp only at hM)
   replace H:=H.pk [1,0,2,3,4] |>.bk ac
   clear ac
   refine s_nil ⟨(H.pk [2,3,4]),?_⟩
   refine kg 3 ?_;refine t_l rfl ?_;refine t_sw 1 0 [I ae,I ag,I ah,I ai] (.agg #[I ae,I ag,I ah,I ai]) H rfl rfl Sz43 rfl rfl rfl rfl ?_;intro cx H
   refine s_nil ⟨(H.pk [2,3,4]),?_⟩
   refine kg 2 ?_;replace H:=H.pk [0,3];refine kg 4 ?_;refine s_val (x_bld (ps:=[(0,I r1),(1,I aa)]) (zs:=[I 0,I 0]) (L':=[I r1,I aa]) rfl Tryz.underlying36 Al36 rfl (Bd36 Tryz.underlying36) (.cons (cs:=[I r1]) rfl rfl rfl rfl rfl<|.cons (cs:=[I aa]) rfl rfl rfl rfl rfl<|.nil)) ?_;refine t_sw 1 0 [I r1,I aa] (.agg #[I r1,I aa]) H rfl rfl Sz36 rfl rfl rfl rfl ?_;intro cy H;refine s_nil ?_;refine W.ret ?_
   have bj:=(H.bl 1)
   have aj:=M.e_pure hM
   exact ⟨_,(resE_of1 (v:=.agg #[I r1,I aa]) rfl (.cell (v:=.agg #[I r1,I aa]) rfl (run_loadVar_ag (ds:=[I r1,I aa]) Ag36 Sz36 bj rfl rfl)<|.nil)),⟨r1,aa,aj,rfl,(H.pk [0])⟩⟩
  skip
  refine t_alloc (cs:=[I 0,I 0,I 0,I 0]) H Al43 rfl ?_;intro aI cz H
  refine s_nil ⟨(H.pk [2,3,4]),?_⟩
  refine t_l rfl ?_;obtain ⟨cA,bm,hM⟩:=M.e_bind hM;refine s_call cf52 [] rfl (zaE bm _ (H.gt 5)) ?_
  rintro vq cB ⟨rfl,hvq,ac⟩
  subst vq;(try dsimp only at hM);replace H:=H.bk ac;clear ac
  refine s_nil ⟨(H.pk [2,3,4]),?_⟩
  refine t_l rfl ?_;obtain ⟨cC,bn,hM⟩:=M.e_bind hM;refine s_call cf50 [Pq ao,ap,.agg #[I r_.up,I r_.down,I r_.lo,I r_.hi,B r_.narrow],.agg #[.func (.func 87) #[] #[]]] rfl (zam ak al am marks r_ (aq.app _) au (av.app _) ax (ay.app _) az (aA.app _) (aB.app _) aC bn _ ((H.pk [1,0,2,3,4]).gt 4)) ?_
  rintro vq cD ⟨ae,ag,ah,ai,aa,rfl,hvq,ac⟩
  subst vq;(try dsimp only at hM)
  replace H:=H.pk [1,0,2,3,4] |>.bk ac
  clear ac
  refine s_nil ⟨(H.pk [2,3,4]),?_⟩
  refine kg 3 ?_;refine t_l rfl ?_;refine t_sw 1 0 [I ae,I ag,I ah,I ai] (.agg #[I ae,I ag,I ah,I ai]) H rfl rfl Sz43 rfl rfl rfl rfl ?_;intro cE H
  refine s_nil ⟨(H.pk [2,3,4]),?_⟩
  refine kg 2 ?_;replace H:=H.pk [0,3];refine kg 4 ?_;refine s_val (x_bld (ps:=[(0,I r1),(1,I aa)]) (zs:=[I 0,I 0]) (L':=[I r1,I aa]) rfl Tryz.underlying36 Al36 rfl (Bd36 Tryz.underlying36) (.cons (cs:=[I r1]) rfl rfl rfl rfl rfl<|.cons (cs:=[I aa]) rfl rfl rfl rfl rfl<|.nil)) ?_;refine t_sw 1 0 [I r1,I aa] (.agg #[I r1,I aa]) H rfl rfl Sz36 rfl rfl rfl rfl ?_;intro cF H;refine s_nil ?_;refine W.ret ?_
  have bo:=(H.bl 1)
  have aj:=M.e_pure hM
  exact ⟨_,(resE_of1 (v:=.agg #[I r1,I aa]) rfl (.cell (v:=.agg #[I r1,I aa]) rfl (run_loadVar_ag (ds:=[I r1,I aa]) Ag36 Sz36 bo rfl rfl)<|.nil)),⟨r1,aa,aj,rfl,(H.pk [0])⟩⟩
 skip
 refine t_alloc (cs:=[I 0,I 0,I 0,I 0]) H Al43 rfl ?_;intro aJ cG H
 refine s_nil ⟨(H.pk [1,2]),?_⟩
 refine t_l rfl ?_;obtain ⟨cH,bp,hM⟩:=M.e_bind hM;refine s_call cf51 [] rfl (zdS bp _ (H.gt 4)) ?_
 rintro vq cI ⟨rfl,hvq,ac⟩
 subst vq;(try dsimp only at hM);replace H:=H.bk ac;clear ac
 refine s_nil ⟨(H.pk [1,2]),?_⟩
 refine t_l rfl ?_;obtain ⟨cJ,br,hM⟩:=M.e_bind hM;refine s_call cf50 [Pq ao,ap,.agg #[I r_.up,I r_.down,I r_.lo,I r_.hi,B r_.narrow],.agg #[.func (.func 86) #[] #[]]] rfl (zcG ak al am marks r_ (aq.app _) au (av.app _) ax (ay.app _) az (aA.app _) (aB.app _) aC br _ ((H.pk [3,0,1,2]).gt 3)) ?_
 rintro vq cK ⟨aE,aF,aG,aH,r1,rfl,hvq,ac⟩
 subst vq;(try dsimp only at hM)
 replace H:=H.pk [3,0,1,2] |>.bk ac
 clear ac
 refine s_nil ⟨(H.pk [2,3]),?_⟩
 refine kg 3 ?_;refine t_l rfl ?_;refine t_sw 1 0 [I aE,I aF,I aG,I aH] (.agg #[I aE,I aF,I aG,I aH]) H rfl rfl Sz43 rfl rfl rfl rfl ?_;intro cL H
 refine s_nil ⟨(H.pk [2,3]),?_⟩
 refine kg 3 ?_;refine W.drawT (fun W=>St w W [cBlk aJ [I aE,I aF,I aG,I aH] 43,cBlk aL [I 0,I 0] 36,cBlk aK [I r_.up,I r_.down,I r_.lo,I r_.hi,B r_.narrow] 38] R) (.q 0 (.q 1 (.q 2 (.l2 3 (.l2 4 (.q 5 (.q 6 (.q 7 (.l 8 (.l 9 (.q 10 .nil)))))) 8 (.l 4 (.q 5 (.q 6 (.q 7 (.l 9 (.q 10 .nil))))))) 8 (.l 3 (.l 4 (.q 5 (.q 6 (.q 7 (.l 9 (.q 10 .nil))))))))))) mixed (by decide +kernel) rfl ?_;intro cM aD;replace H:=H.ext aD;clear aD
 refine ⟨(H.pk [1,2,3]),?_⟩
 refine kg 3 ?_;refine t_l2 rfl rfl ?_ ?_
 ·skip
  obtain ⟨cN,bt,hM⟩:=M.e_bind hM;refine s_call cf52 [] rfl (zaE bt _ (H.gt 4)) ?_
  rintro vq cO ⟨rfl,hvq,ac⟩
  subst vq;(try dsimp only at hM);replace H:=H.bk ac;clear ac
  refine s_nil ⟨(H.pk [1,2,3]),?_⟩
  refine t_l2 rfl rfl ?_ ?_
  ·skip
   obtain ⟨cQ,bu,hM⟩:=M.e_bind hM;refine s_call cf50 [Pq ao,ap,.agg #[I r_.up,I r_.down,I r_.lo,I r_.hi,B r_.narrow],.agg #[.func (.func 87) #[] #[]]] rfl (zam ak al am marks r_ (aq.app _) au (av.app _) ax (ay.app _) az (aA.app _) (aB.app _) aC bu _ (H.gt 3)) ?_
   rintro vq cS ⟨ae,ag,ah,ai,aa,rfl,hvq,ac⟩
   subst vq;(try dsimp only at hM);replace H:=H.bk ac;clear ac
   refine s_nil ⟨(H.pk [1,2,3]),?_⟩
   refine kg 3 ?_;refine t_l rfl ?_;refine t_alloc (cs:=[I 0,I 0,I 0,I 0]) H Al43 rfl ?_;intro aI cT H
   refine s_nil ⟨(H.pk [2,3,4]),?_⟩
   refine t_l rfl ?_;refine t_sw 0 0 [I ae,I ag,I ah,I ai] (.agg #[I ae,I ag,I ah,I ai]) H rfl rfl Sz43 rfl rfl rfl rfl ?_;intro cU H
   refine s_nil ⟨(H.pk [2,3,4]),?_⟩
   refine kg 2 ?_;replace H:=H.pk [1,3];refine kg 4 ?_;refine s_val (x_bld (ps:=[(0,I r1),(1,I aa)]) (zs:=[I 0,I 0]) (L':=[I r1,I aa]) rfl Tryz.underlying36 Al36 rfl (Bd36 Tryz.underlying36) (.cons (cs:=[I r1]) rfl rfl rfl rfl rfl<|.cons (cs:=[I aa]) rfl rfl rfl rfl rfl<|.nil)) ?_;refine t_sw 1 0 [I r1,I aa] (.agg #[I r1,I aa]) H rfl rfl Sz36 rfl rfl rfl rfl ?_;intro cV H;refine s_nil ?_;refine W.ret ?_
   have bv:=(H.bl 1)
   have aj:=M.e_pure hM
   exact ⟨_,(resE_of1 (v:=.agg #[I r1,I aa]) rfl (.cell (v:=.agg #[I r1,I aa]) rfl (run_loadVar_ag (ds:=[I r1,I aa]) Ag36 Sz36 bv rfl rfl)<|.nil)),⟨r1,aa,aj,rfl,(H.pk [0])⟩⟩
  skip
  refine t_alloc (cs:=[I 0,I 0,I 0,I 0]) H Al43 rfl ?_;intro aI cW H
  refine s_nil ⟨(H.pk [2,3,4]),?_⟩
  refine t_l rfl ?_;obtain ⟨cX,bw,hM⟩:=M.e_bind hM;refine s_call cf50 [Pq ao,ap,.agg #[I r_.up,I r_.down,I r_.lo,I r_.hi,B r_.narrow],.agg #[.func (.func 87) #[] #[]]] rfl (zam ak al am marks r_ (aq.app _) au (av.app _) ax (ay.app _) az (aA.app _) (aB.app _) aC bw _ ((H.pk [1,0,2,3,4]).gt 4)) ?_
  rintro vq cY ⟨ae,ag,ah,ai,aa,rfl,hvq,ac⟩
  subst vq;(try dsimp only at hM)
  replace H:=H.pk [1,0,2,3,4] |>.bk ac
  clear ac
  refine s_nil ⟨(H.pk [2,3,4]),?_⟩
  refine kg 3 ?_;refine t_l rfl ?_;refine t_sw 1 0 [I ae,I ag,I ah,I ai] (.agg #[I ae,I ag,I ah,I ai]) H rfl rfl Sz43 rfl rfl rfl rfl ?_;intro cZ H
  refine s_nil ⟨(H.pk [2,3,4]),?_⟩
  refine kg 2 ?_;replace H:=H.pk [0,3];refine kg 4 ?_;refine s_val (x_bld (ps:=[(0,I r1),(1,I aa)]) (zs:=[I 0,I 0]) (L':=[I r1,I aa]) rfl Tryz.underlying36 Al36 rfl (Bd36 Tryz.underlying36) (.cons (cs:=[I r1]) rfl rfl rfl rfl rfl<|.cons (cs:=[I aa]) rfl rfl rfl rfl rfl<|.nil)) ?_;refine t_sw 1 0 [I r1,I aa] (.agg #[I r1,I aa]) H rfl rfl Sz36 rfl rfl rfl rfl ?_;intro c8 H;refine s_nil ?_;refine W.ret ?_
  have bx:=(H.bl 1)
  have aj:=M.e_pure hM
  exact ⟨_,(resE_of1 (v:=.agg #[I r1,I aa]) rfl (.cell (v:=.agg #[I r1,I aa]) rfl (run_loadVar_ag (ds:=[I r1,I aa]) Ag36 Sz36 bx rfl rfl)<|.nil)),⟨r1,aa,aj,rfl,(H.pk [0])⟩⟩
 skip
 refine t_alloc (cs:=[I 0,I 0,I 0,I 0]) H Al43 rfl ?_;intro aI c9 H
 refine s_nil ⟨(H.pk [2,3,4]),?_⟩
 refine t_l rfl ?_;obtain ⟨da,bz,hM⟩:=M.e_bind hM;refine s_call cf52 [] rfl (zaE bz _ (H.gt 5)) ?_
 rintro vq db ⟨rfl,hvq,ac⟩
 subst vq;(try dsimp only at hM);replace H:=H.bk ac;clear ac
 refine s_nil ⟨(H.pk [2,3,4]),?_⟩
 refine t_l rfl ?_;obtain ⟨dc,bA,hM⟩:=M.e_bind hM;refine s_call cf50 [Pq ao,ap,.agg #[I r_.up,I r_.down,I r_.lo,I r_.hi,B r_.narrow],.agg #[.func (.func 87) #[] #[]]] rfl (zam ak al am marks r_ (aq.app _) au (av.app _) ax (ay.app _) az (aA.app _) (aB.app _) aC bA _ ((H.pk [1,0,2,3,4]).gt 4)) ?_
 rintro vq dd ⟨ae,ag,ah,ai,aa,rfl,hvq,ac⟩
 subst vq;(try dsimp only at hM)
 replace H:=H.pk [1,0,2,3,4] |>.bk ac
 clear ac
 refine s_nil ⟨(H.pk [2,3,4]),?_⟩
 refine kg 3 ?_;refine t_l rfl ?_;refine t_sw 1 0 [I ae,I ag,I ah,I ai] (.agg #[I ae,I ag,I ah,I ai]) H rfl rfl Sz43 rfl rfl rfl rfl ?_;intro dg H
 refine s_nil ⟨(H.pk [2,3,4]),?_⟩
 refine kg 2 ?_;replace H:=H.pk [0,3];refine kg 4 ?_;refine s_val (x_bld (ps:=[(0,I r1),(1,I aa)]) (zs:=[I 0,I 0]) (L':=[I r1,I aa]) rfl Tryz.underlying36 Al36 rfl (Bd36 Tryz.underlying36) (.cons (cs:=[I r1]) rfl rfl rfl rfl rfl<|.cons (cs:=[I aa]) rfl rfl rfl rfl rfl<|.nil)) ?_;refine t_sw 1 0 [I r1,I aa] (.agg #[I r1,I aa]) H rfl rfl Sz36 rfl rfl rfl rfl ?_;intro dh H;refine s_nil ?_;refine W.ret ?_
 have bB:=(H.bl 1)
 have aj:=M.e_pure hM
 exact ⟨_,(resE_of1 (v:=.agg #[I r1,I aa]) rfl (.cell (v:=.agg #[I r1,I aa]) rfl (run_loadVar_ag (ds:=[I r1,I aa]) Ag36 Sz36 bB rfl rfl)<|.nil)),⟨r1,aa,aj,rfl,(H.pk [0])⟩⟩

def zab (n aa greatest:Int):M Bool :=
  M.pure ((decide (aa<=n))&&(decide (n<=greatest)))
theorem zae {R:List Chunk}  (n:Int) (aa:Int) (greatest:Int)  {r:Bool} (hM:(zab n aa greatest).Ends r) (w:World) (H:St w w [] R):Ret Tryz.prog 20 #[I n,I aa,I greatest] w fun v w'=>∃ (y0:Bool),y0=r/\v=B y0/\St w w' [] R:=by
 refine ret_of_W Tryz.func20 rfl rfl rfl ?_;refine kg 13 ?_;refine s_val (x_pand (b:=decide (aa<=n)) (r:=decide (n<=greatest)) rfl (fun hb=>gd_of (c:=decide (aa<=n)) (by first | exact hb | (rw [hb]; rfl) | simp_all) (B (decide (n<=greatest)))) rfl) ?_;refine kg 2 ?_;refine W.ret ?_
 have ac:=M.e_pure hM
 exact ⟨_,resE_tmp rfl,⟨((decide (aa<=n))&&(decide (n<=greatest))),ac,rfl,H⟩⟩

def zbL (s:List Sect) (f:Sect->M Bool):Nat->M (Nat ⊕ (Int ⊕ Unit)):=fun s2 =>
  bif decide ((s2:Int)<(s.length:Int)) then (
  M.grd (decide ((s2:Int)<(s.length:Int))) <|
  M.bind (f (s.getD s2 default)) fun r2 =>
  bif r2 then (
  M.pure (.inr (.inl (s2:Int))))
  else (
  M.pure (.inl (s2+1))))
  else (
  M.pure (.inr (.inr ())))
def zde (s:List Sect) (f:Sect->M Bool):M Int :=
  M.bind (M.iter (zbL s f) 0) fun x_=>match x_ with
  | (.inl s3)=>(
  M.pure s3)
  | (.inr (_:Unit))=>(
  M.pure (-1))
theorem zeH {R:List Chunk} {al:Cells} {ae:Value} {ag:Value} (s:List Sect) (f:Sect->M Bool) (am:Reads R al) (ao:Sl al ae s) (av:FnM Tryz.prog R ag f) {r:Int} (hM:(zde s f).Ends r) (w:World) (H:St w w [] R):Ret Tryz.prog 136 #[ae,ag] w fun v w'=>∃ (y0:Int),y0=r/\v=I y0/\St w w' [] R:=by
 refine ret_of_W Tryz.func136 rfl rfl rfl ?_
 have aE:=(ao).len_le
 refine kg 12 ?_;obtain ⟨ax,ah,ap⟩:=M.e_bind hM
 obtain ⟨aF,ah⟩:=M.e_iter ah
 refine W.loop (fun m σ W=>∃ (s2:Nat) (ρ:Env),σ=upds ρ [(0,ae),(1,ag),(7,I (s.length:Int)),(8,I (s2:Int))]/\M.iterN (zbL s f) m s2=some ax/\St w W [] R) ?_ ?_
 ·exact ⟨_,0,_,upds_of _ _ ⟨rfl,rfl,rfl,rfl,trivial⟩,ah,H⟩
 rintro aG σ aH ⟨s2,ρ,rfl,aq,H⟩
 obtain ⟨ay,az,aI,hM,ai⟩:=M.e_iterN aq
 simp only [zbL] at hM
 clear aq;refine kg 5 ?_
 refine W.cond (decide ((s2:Int)<(s.length:Int))) rfl (fun aa=>?_) (fun aa=>?_)
 ·replace hM:=M.e_t hM aa
  replace aa:=dI aa
  obtain ⟨aJ,hM⟩:=M.e_gd hM;refine kg 14 ?_
  obtain ⟨au,aA,ac⟩:=Sect_atA ao (i:=(s2:Int)) (by omega) (by omega)
  replace ac:Sl _ au (s.getD s2 default).rows:=ac
  have aK:=ac.len_le
  refine s_val (x_ld (v:=.agg #[I ((s.getD s2 default).place),au]) rfl (ld_ag Ag76 Sz76 (At.mono aA (am.at H)))) ?_;obtain ⟨r2,aB,hM⟩:=M.e_bind hM;refine t_callM H av rfl rfl (s.getD s2 default) (am.app _) ⟨_,Sect_mk ac,rfl⟩ aB ?_;intro aL H;refine s_nil ?_
  refine W.cond r2 rfl (fun aj=>?_) (fun aj=>?_)
  ·replace hM:=M.e_t hM aj;refine kg 5 ?_;refine W.ret ?_
   have aC:=M.e_inr hM ai
   subst aC;replace hM:=ap;(try dsimp only at hM)
   have ak:=M.e_pure hM
   exact ⟨_,resE_tmp rfl,⟨(s2:Int),ak,rfl,H⟩⟩
  replace hM:=M.e_f hM aj;refine kg 5 ?_
  exact ⟨ay,az,s2+1,_,upds_of _ _ ⟨rfl,rfl,rfl,rfl,trivial⟩,M.e_inl hM ai,H⟩
 replace hM:=M.e_f hM aa
 replace aa:=dI aa
 refine W.exit ?_
 have aD:=M.e_inr hM ai
 subst aD;replace hM:=ap;(try dsimp only at hM);refine kg 4 ?_;refine W.ret ?_
 have ak:=M.e_pure hM
 exact ⟨_,resE_tmp rfl,⟨(-1),ak,rfl,H⟩⟩

def zcO (s:List Sect) (f:Sect->M Bool):M Bool :=
  M.bind (zde s f) fun r2 =>
  M.pure (decide (0<=r2))
theorem zef {R:List Chunk} {ae:Cells} {aa:Value} {ac:Value} (s:List Sect) (f:Sect->M Bool) (ah:Reads R ae) (ai:Sl ae aa s) (aj:FnM Tryz.prog R ac f) {r:Bool} (hM:(zcO s f).Ends r) (w:World) (H:St w w [] R):Ret Tryz.prog 106 #[aa,ac] w fun v w'=>∃ (y0:Bool),y0=r/\v=B y0/\St w w' [] R:=by
 refine ret_of_W Tryz.func106 rfl rfl rfl ?_;refine kg 8 ?_;obtain ⟨am,ak,hM⟩:=M.e_bind hM;refine s_call cf136 [aa,ac] rfl (zeH s f (ah.app _) ai (aj.app _) ak _ (H.gt 0)) ?_
 rintro vq ao ⟨r2,rfl,hvq,ag⟩
 subst vq;(try dsimp only at hM);replace H:=H.bk ag;clear ag;refine kg 3 ?_;refine W.ret ?_
 have al:=M.e_pure hM
 exact ⟨_,resE_tmp rfl,⟨(decide (0<=r2)),al,rfl,H⟩⟩

def zbS (x:Sect) (aa:Sect->M Bool):M Bool :=
  M.bind (aa x) fun r2 =>
  M.pure (!r2)
theorem zfk {R:List Chunk} {ac:Cells} {aa:Value} {ae:Nat} {ag:Value} (x:Sect) (ah:Sect->M Bool) (ai:Reads R ac) (aj:Sl ac aa x.rows) (ak:FnM Tryz.prog R ag ah) (ao:Has R (cBlk ae [ag] 158)) {r:Bool} (hM:(zbS x ah).Ends r) (w:World) (H:St w w [] R):Ret Tryz.prog 107 #[.agg #[I x.place,aa],Pq ae] w fun v w'=>∃ (y0:Bool),y0=r/\v=B y0/\St w w' [] R:=by
 refine ret_of_W Tryz.func107 rfl rfl rfl ?_;refine kg 2 ?_;refine t_bx [I x.place,aa] H rfl ?_;intro ap aq H;refine kg 6 ?_;obtain ⟨r2,al,hM⟩:=M.e_bind hM;refine t_callM H ak rfl rfl x (ai.app _) ⟨_,Sect_mk aj,rfl⟩ al ?_;intro au H;refine kg 3 ?_;refine W.ret ?_
 have am:=M.e_pure hM
 exact ⟨_,resE_tmp rfl,⟨(!r2),am,rfl,(H.pk [])⟩⟩

def zb7 (l:List Sect) (so:Sect->M Bool):M Bool :=
  M.bind (zcO l (fun aa=>zbS aa so)) fun r2 =>
  M.pure (!r2)
theorem zeg {R:List Chunk} {ah:Cells} {ac:Value} {aa:Value} (l:List Sect) (so:Sect->M Bool) (al:Reads R ah) (am:Sl ah ac l) (ai:FnM Tryz.prog R aa so) {r:Bool} (hM:(zb7 l so).Ends r) (w:World) (H:St w w [] R):Ret Tryz.prog 72 #[ac,aa] w fun v w'=>∃ (y0:Bool),y0=r/\v=B y0/\St w w' [] R:=by
 refine ret_of_W Tryz.func72 rfl rfl rfl ?_;refine kg 2 ?_;refine t_box (v:=aa) (cs:=[aa]) H rfl (FnM.cells ai) ?_;intro ae aD H;refine kg 5 ?_;refine s_val (x_mf (fs:=[]) (cs:=[Pq ae]) rfl rfl) ?_;obtain ⟨aE,ao,hM⟩:=M.e_bind hM;refine s_call cf106 [ac,.func (.func 107) #[] #[Pq ae]] rfl (zef l (fun ag=>zbS ag so) (al.app _) am ⟨107,[Pq ae],rfl,cf107,fun aj aF aG ap ag aH aq au av ax=>by obtain ⟨aI,rfl,ay⟩:=Sect_arg av; exact (zfk ag so au ay (FnM.app (ai.app _) _) (Has.app (Has.here (k:=0) rfl) _) ax aj (St.refl aq)).mono fun ap aj ⟨aJ,az,aA,aB⟩=>by subst az; exact ⟨aA,aB⟩⟩ ao _ (H.gt 1)) ?_
 rintro vq aK ⟨r2,rfl,hvq,ak⟩
 subst vq;(try dsimp only at hM);replace H:=H.bk ak;clear ak;refine kg 3 ?_;refine W.ret ?_
 have aC:=M.e_pure hM
 exact ⟨_,resE_tmp rfl,⟨(!r2),aC,rfl,(H.pk [])⟩⟩

def zbU (x:Sect):M Bool :=
  M.bind (zab (x.rows.length:Int) 2 8) fun r2 =>
  M.pure r2
theorem zeJ {R:List Chunk} {ac:Cells} {aa:Value} (x:Sect) (aj:Reads R ac) (ag:Sl ac aa x.rows) {r:Bool} (hM:(zbU x).Ends r) (w:World) (H:St w w [] R):Ret Tryz.prog 71 #[.agg #[I x.place,aa]] w fun v w'=>∃ (y0:Bool),y0=r/\v=B y0/\St w w' [] R:=by
 refine ret_of_W Tryz.func71 rfl rfl rfl ?_;refine kg 2 ?_;refine t_bx [I x.place,aa] H rfl ?_;intro ak al H
 have am:=(ag).len_le
 refine kg 7 ?_;obtain ⟨ao,ah,hM⟩:=M.e_bind hM;refine s_call cf20 [I (x.rows.length:Int),I 2,I 8] rfl (zae (x.rows.length:Int) 2 8 ah _ (H.gt 1)) ?_
 rintro vq ap ⟨r2,rfl,hvq,ae⟩
 subst vq;(try dsimp only at hM);replace H:=H.bk ae;clear ae;refine kg 2 ?_;refine W.ret ?_
 have ai:=M.e_pure hM
 exact ⟨_,resE_tmp rfl,⟨r2,ai,rfl,(H.pk [])⟩⟩

def za3 (x:Sect):(Int × Int × Nat)->M ((Int × Int × Nat) ⊕ ((Int × Int) ⊕ (Int × Int))):=fun (s,s2,s3) =>
  bif decide ((s3:Int)<(x.rows.length:Int)) then (
  M.grd (decide ((s3:Int)<(x.rows.length:Int))) <|
  M.grd (decide ((-9223372036854775808:Int)<=(s+1))&&decide ((s+1)<=(9223372036854775807:Int))) <|
  M.bind (zab ((x.rows.getD s3 default).stage) (s+1) 2000) fun r2 =>
  M.bind (M.opt (!(!r2)) (zab ((x.rows.getD s3 default).carry) s2 100000) false) fun r3 =>
  bif ((!r2)||(!r3)) then (
  M.pure (.inr (.inl (s,s2))))
  else (
  M.pure (.inl ((x.rows.getD s3 default).stage,(x.rows.getD s3 default).carry,s3+1))))
  else (
  M.pure (.inr (.inr (s,s2))))
def zck (x:Sect):M Bool :=
  M.bind (M.iter (za3 x) (-1,0,0)) fun x_=>match x_ with
  | (.inl (s4,s5))=>(
  M.pure false)
  | (.inr (s6,s7))=>(
  M.bind (zab x.place 0 10000) fun r4 =>
  M.pure r4)
theorem zew {R:List Chunk} {ak:Cells} {ac:Value} (x:Sect) (aE:Reads R ak) (aq:Sl ak ac x.rows) {r:Bool} (hM:(zck x).Ends r) (w:World) (H:St w w [] R):Ret Tryz.prog 73 #[.agg #[I x.place,ac]] w fun v w'=>∃ (y0:Bool),y0=r/\v=B y0/\St w w' [] R:=by
 refine ret_of_W Tryz.func73 rfl rfl rfl ?_;refine kg 2 ?_;refine t_bx [I x.place,ac] H rfl ?_;intro al aF H;refine kg 4 ?_;refine s_val (x_bld (ps:=[(0,I (-1))]) (zs:=[I 0,I 0]) (L':=[I (-1),I 0]) rfl Tryz.underlying78 Al78 rfl (Bd78 Tryz.underlying78) (.cons (cs:=[I (-1)]) rfl rfl rfl rfl rfl<|.nil)) ?_;refine t_alloc (cs:=[I 0,I 0]) H Al78 rfl ?_;intro am aG H;refine t_sw 0 0 [I (-1),I 0] (.agg #[I (-1),I 0]) H rfl rfl Sz78 rfl rfl rfl rfl ?_;intro aH H
 have aI:=(aq).len_le
 refine kg 10 ?_;obtain ⟨au,ah,ao⟩:=M.e_bind hM
 obtain ⟨aJ,ah⟩:=M.e_iter ah
 refine W.loop (fun m σ W=>∃ (s:Int) (s2:Int) (s3:Nat) (ρ:Env),σ=upds ρ [(1,Pq al),(3,Pq am),(8,ac),(9,I (x.rows.length:Int)),(10,I (s3:Int))]/\M.iterN (za3 x) m (s,s2,s3)=some au/\St w W [cBlk am [I s,I s2] 78,cBlk al [I x.place,ac] 76] R) ?_ ?_
 ·exact ⟨_,-1,0,0,_,upds_of _ _ ⟨rfl,rfl,rfl,rfl,rfl,trivial⟩,ah,H⟩
 rintro aK σ aL ⟨s,s2,s3,ρ,rfl,ap,H⟩
 obtain ⟨av,ax,aM,hM,ai⟩:=M.e_iterN ap
 simp only [za3] at hM
 clear ap;refine kg 5 ?_
 refine W.cond (decide ((s3:Int)<(x.rows.length:Int))) rfl (fun aa=>?_) (fun aa=>?_)
 ·replace hM:=M.e_t hM aa
  replace aa:=dI aa
  obtain ⟨aN,hM⟩:=M.e_gd hM;refine kg 7 ?_;refine t_alloc (cs:=[I 0,I 0]) H Al78 rfl ?_;intro aO aP H;refine t_sw 0 0 [I ((x.rows.getD s3 default).stage),I ((x.rows.getD s3 default).carry)] (.agg #[I ((x.rows.getD s3 default).stage),I ((x.rows.getD s3 default).carry)]) H rfl rfl Sz78 rfl rfl rfl rfl ?_;intro aQ H;obtain ⟨aR,hM⟩:=M.e_gd hM;refine kg 9 ?_;obtain ⟨aS,ay,hM⟩:=M.e_bind hM;refine s_call cf20 [I ((x.rows.getD s3 default).stage),I (s+1),I 2000] rfl (zae ((x.rows.getD s3 default).stage) (s+1) 2000 ay _ (H.gt 3)) ?_
  rintro vq aT ⟨r2,rfl,hvq,ae⟩
  subst vq;(try dsimp only at hM);replace H:=H.bk ae;clear ae;refine kg 6 ?_;obtain ⟨r3,az,hM⟩:=M.e_bind hM;refine t_gcall (!(!r2)) (gy_f rfl) cf20 (B r3) (fun _=>[I ((x.rows.getD s3 default).carry),I s2,I 100000]) (fun hg=>lst3 (gd_of hg (I ((x.rows.getD s3 default).carry))) (gd_of hg (I s2)) rfl) H (fun hg=>(zae ((x.rows.getD s3 default).carry) s2 100000 (M.e_opt az hg) _ (H.give (A:=[]) rfl)).mono fun v_ w_ ⟨y_,ag,aA,H_⟩=>by subst ag; exact ⟨aA,H.via H_⟩) ?_;intro aU H;refine kg 1 ?_;refine s_val (x_por (b:=!r2) (r:=!r3) rfl rfl (fun hb=>gd_of (c:=!(!r2)) (by first | exact hb | (rw [hb]; rfl) | simp_all) (B (!r3))))<|s_nil ?_
  refine W.cond ((!r2)||(!r3)) rfl (fun aj=>?_) (fun aj=>?_)
  ·replace hM:=M.e_t hM aj;refine kg 4 ?_;refine W.ret ?_
   have aB:=M.e_inr hM ai
   subst aB;replace hM:=ao;(try dsimp only at hM)
   have ag:=M.e_pure hM
   exact ⟨_,resE_tmp rfl,⟨false,ag,rfl,(H.pk [])⟩⟩
  replace hM:=M.e_f hM aj;refine kg 3 ?_;refine t_sw 1 0 [I ((x.rows.getD s3 default).stage),I ((x.rows.getD s3 default).carry)] (.agg #[I ((x.rows.getD s3 default).stage),I ((x.rows.getD s3 default).carry)]) H rfl rfl Sz78 rfl rfl rfl rfl ?_;intro aV H;refine kg 5 ?_
  exact ⟨av,ax,(x.rows.getD s3 default).stage,(x.rows.getD s3 default).carry,s3+1,_,upds_of _ _ ⟨rfl,rfl,rfl,rfl,rfl,trivial⟩,M.e_inl hM ai,(H.pk [1,2])⟩
 replace hM:=M.e_f hM aa
 replace aa:=dI aa
 refine W.exit ?_
 have aC:=M.e_inr hM ai
 subst aC;replace hM:=ao;(try dsimp only at hM);refine kg 4 ?_;obtain ⟨aW,aD,hM⟩:=M.e_bind hM;refine s_call cf20 [I x.place,I 0,I 10000] rfl (zae x.place 0 10000 aD _ (H.gt 2)) ?_
 rintro vq aX ⟨r4,rfl,hvq,ae⟩
 subst vq;(try dsimp only at hM);replace H:=H.bk ae;clear ae;refine kg 2 ?_;replace H:=H.pk [];refine W.ret ?_
 have ag:=M.e_pure hM
 exact ⟨_,resE_tmp rfl,⟨r4,ag,rfl,H⟩⟩

def zbq (s:List Mrk) (f:Mrk->M Bool):Nat->M (Nat ⊕ (Int ⊕ Unit)):=fun s2 =>
  bif decide ((s2:Int)<(s.length:Int)) then (
  M.grd (decide ((s2:Int)<(s.length:Int))) <|
  M.bind (f (s.getD s2 default)) fun r2 =>
  bif r2 then (
  M.pure (.inr (.inl (s2:Int))))
  else (
  M.pure (.inl (s2+1))))
  else (
  M.pure (.inr (.inr ())))
def zdg (s:List Mrk) (f:Mrk->M Bool):M Int :=
  M.bind (M.iter (zbq s f) 0) fun x_=>match x_ with
  | (.inl s3)=>(
  M.pure s3)
  | (.inr (_:Unit))=>(
  M.pure (-1))
theorem zel {R:List Chunk} {ak:Cells} {ac:Value} {ae:Value} (s:List Mrk) (f:Mrk->M Bool) (aA:Reads R ak) (ao:Sl ak ac s) (ap:FnM Tryz.prog R ae f) {r:Int} (hM:(zdg s f).Ends r) (w:World) (H:St w w [] R):Ret Tryz.prog 137 #[ac,ae] w fun v w'=>∃ (y0:Int),y0=r/\v=I y0/\St w w' [] R:=by
 refine ret_of_W Tryz.func137 rfl rfl rfl ?_
 have aB:=(ao).len_le
 refine kg 12 ?_;obtain ⟨aq,ag,al⟩:=M.e_bind hM
 obtain ⟨aC,ag⟩:=M.e_iter ag
 refine W.loop (fun m σ W=>∃ (s2:Nat) (ρ:Env),σ=upds ρ [(0,ac),(1,ae),(7,I (s.length:Int)),(8,I (s2:Int))]/\M.iterN (zbq s f) m s2=some aq/\St w W [] R) ?_ ?_
 ·exact ⟨_,0,_,upds_of _ _ ⟨rfl,rfl,rfl,rfl,trivial⟩,ag,H⟩
 rintro aD σ aE ⟨s2,ρ,rfl,am,H⟩
 obtain ⟨au,av,aF,hM,ah⟩:=M.e_iterN am
 simp only [zbq] at hM
 clear am;refine kg 5 ?_
 refine W.cond (decide ((s2:Int)<(s.length:Int))) rfl (fun aa=>?_) (fun aa=>?_)
 ·replace hM:=M.e_t hM aa
  replace aa:=dI aa
  obtain ⟨aG,hM⟩:=M.e_gd hM;refine kg 15 ?_;obtain ⟨r2,ax,hM⟩:=M.e_bind hM;refine t_callM H ap rfl rfl (s.getD s2 default) Reads.none ⟨_,rfl,rfl⟩ ax ?_;intro aH H;refine s_nil ?_
  refine W.cond r2 rfl (fun ai=>?_) (fun ai=>?_)
  ·replace hM:=M.e_t hM ai;refine kg 5 ?_;refine W.ret ?_
   have ay:=M.e_inr hM ah
   subst ay;replace hM:=al;(try dsimp only at hM)
   have aj:=M.e_pure hM
   exact ⟨_,resE_tmp rfl,⟨(s2:Int),aj,rfl,H⟩⟩
  replace hM:=M.e_f hM ai;refine kg 5 ?_
  exact ⟨au,av,s2+1,_,upds_of _ _ ⟨rfl,rfl,rfl,rfl,trivial⟩,M.e_inl hM ah,H⟩
 replace hM:=M.e_f hM aa
 replace aa:=dI aa
 refine W.exit ?_
 have az:=M.e_inr hM ah
 subst az;replace hM:=al;(try dsimp only at hM);refine kg 4 ?_;refine W.ret ?_
 have aj:=M.e_pure hM
 exact ⟨_,resE_tmp rfl,⟨(-1),aj,rfl,H⟩⟩

def zcY (s:List Mrk) (f:Mrk->M Bool):M Bool :=
  M.bind (zdg s f) fun r2 =>
  M.pure (decide (0<=r2))
theorem zeq {R:List Chunk} {ae:Cells} {aa:Value} {ac:Value} (s:List Mrk) (f:Mrk->M Bool) (ah:Reads R ae) (ai:Sl ae aa s) (aj:FnM Tryz.prog R ac f) {r:Bool} (hM:(zcY s f).Ends r) (w:World) (H:St w w [] R):Ret Tryz.prog 108 #[aa,ac] w fun v w'=>∃ (y0:Bool),y0=r/\v=B y0/\St w w' [] R:=by
 refine ret_of_W Tryz.func108 rfl rfl rfl ?_;refine kg 8 ?_;obtain ⟨am,ak,hM⟩:=M.e_bind hM;refine s_call cf137 [aa,ac] rfl (zel s f (ah.app _) ai (aj.app _) ak _ (H.gt 0)) ?_
 rintro vq ao ⟨r2,rfl,hvq,ag⟩
 subst vq;(try dsimp only at hM);replace H:=H.bk ag;clear ag;refine kg 3 ?_;refine W.ret ?_
 have al:=M.e_pure hM
 exact ⟨_,resE_tmp rfl,⟨(decide (0<=r2)),al,rfl,H⟩⟩

end Go.Proofs.YtnncijcapdnlgaaGreat
end
section
set_option maxRecDepth 100000
set_option maxHeartbeats 16000000
namespace Go.Proofs.YtnncijcapdnlgaaGreat
open Go Go.Nm
attribute [local irreducible] gd execOp SL SLD SLT WR
def zb0 (x:Mrk) (aa:Mrk->M Bool):M Bool :=
  M.bind (aa x) fun r2 =>
  M.pure (!r2)
theorem zed {R:List Chunk} {aa:Nat} {ac:Value} (x:Mrk) (ae:Mrk->M Bool) (ag:FnM Tryz.prog R ac ae) (aj:Has R (cBlk aa [ac] 161)) {r:Bool} (hM:(zb0 x ae).Ends r) (w:World) (H:St w w [] R):Ret Tryz.prog 109 #[.agg #[I x.place,I x.lo,I x.hi],Pq aa] w fun v w'=>∃ (y0:Bool),y0=r/\v=B y0/\St w w' [] R:=by
 refine ret_of_W Tryz.func109 rfl rfl rfl ?_;refine kg 2 ?_;refine t_bx [I x.place,I x.lo,I x.hi] H rfl ?_;intro ak al H;refine kg 6 ?_;obtain ⟨r2,ah,hM⟩:=M.e_bind hM;refine t_callM H ag rfl rfl x Reads.none ⟨_,rfl,rfl⟩ ah ?_;intro am H;refine kg 3 ?_;refine W.ret ?_
 have ai:=M.e_pure hM
 exact ⟨_,resE_tmp rfl,⟨(!r2),ai,rfl,(H.pk [])⟩⟩

def zbT (l:List Mrk) (so:Mrk->M Bool):M Bool :=
  M.bind (zcY l (fun aa=>zb0 aa so)) fun r2 =>
  M.pure (!r2)
theorem zeA {R:List Chunk} {ah:Cells} {ac:Value} {aa:Value} (l:List Mrk) (so:Mrk->M Bool) (al:Reads R ah) (am:Sl ah ac l) (ai:FnM Tryz.prog R aa so) {r:Bool} (hM:(zbT l so).Ends r) (w:World) (H:St w w [] R):Ret Tryz.prog 74 #[ac,aa] w fun v w'=>∃ (y0:Bool),y0=r/\v=B y0/\St w w' [] R:=by
 refine ret_of_W Tryz.func74 rfl rfl rfl ?_;refine kg 2 ?_;refine t_box (v:=aa) (cs:=[aa]) H rfl (FnM.cells ai) ?_;intro ae aB H;refine kg 5 ?_;refine s_val (x_mf (fs:=[]) (cs:=[Pq ae]) rfl rfl) ?_;obtain ⟨aC,ao,hM⟩:=M.e_bind hM;refine s_call cf108 [ac,.func (.func 109) #[] #[Pq ae]] rfl (zeq l (fun ag=>zb0 ag so) (al.app _) am ⟨109,[Pq ae],rfl,cf109,fun aj aD aE ap ag aF aq aG au av=>by obtain rfl:=Mrk_arg au; exact (zed ag so (FnM.app (ai.app _) _) (Has.app (Has.here (k:=0) rfl) _) av aj (St.refl aq)).mono fun ap aj ⟨aH,ax,ay,az⟩=>by subst ax; exact ⟨ay,az⟩⟩ ao _ (H.gt 1)) ?_
 rintro vq aI ⟨r2,rfl,hvq,ak⟩
 subst vq;(try dsimp only at hM);replace H:=H.bk ak;clear ak;refine kg 3 ?_;refine W.ret ?_
 have aA:=M.e_pure hM
 exact ⟨_,resE_tmp rfl,⟨(!r2),aA,rfl,(H.pk [])⟩⟩

def zbu (s:Span) (aa greatest:Int):M Bool :=
  M.bind (zab s.lo aa greatest) fun r2 =>
  M.bind (M.opt r2 (zab s.hi s.lo greatest) false) fun r3 =>
  M.pure (r2&&r3)
theorem zd5 {R:List Chunk}  (s:Span) (aa:Int) (greatest:Int)  {r:Bool} (hM:(zbu s aa greatest).Ends r) (w:World) (H:St w w [] R):Ret Tryz.prog 110 #[.agg #[I s.lo,I s.hi],I aa,I greatest] w fun v w'=>∃ (y0:Bool),y0=r/\v=B y0/\St w w' [] R:=by
 refine ret_of_W Tryz.func110 rfl rfl rfl ?_;refine kg 2 ?_;refine t_bx [I s.lo,I s.hi] H rfl ?_;intro aj ak H;refine kg 8 ?_;obtain ⟨al,ag,hM⟩:=M.e_bind hM;refine s_call cf20 [I s.lo,I aa,I greatest] rfl (zae s.lo aa greatest ag _ (H.gt 1)) ?_
 rintro vq am ⟨r2,rfl,hvq,ae⟩
 subst vq;(try dsimp only at hM);replace H:=H.bk ae;clear ae;refine kg 6 ?_;obtain ⟨r3,ah,hM⟩:=M.e_bind hM;refine t_gcall r2 (gy_t rfl) cf20 (B r3) (fun _=>[I s.hi,I s.lo,I greatest]) (fun hg=>lst3 (gd_of hg (I s.hi)) (gd_of hg (I s.lo)) (gd_of hg (I greatest))) H (fun hg=>(zae s.hi s.lo greatest (M.e_opt ah hg) _ (H.give (A:=[]) rfl)).mono fun v_ w_ ⟨y_,ac,ai,H_⟩=>by subst ac; exact ⟨ai,H.via H_⟩) ?_;intro ao H;refine s_val (x_pand (b:=r2) (r:=r3) rfl (fun hb=>gd_of (c:=r2) (by first | exact hb | (rw [hb]; rfl) | simp_all) (B r3)) rfl) ?_;refine kg 2 ?_;refine W.ret ?_
 have ac:=M.e_pure hM
 exact ⟨_,resE_tmp rfl,⟨(r2&&r3),ac,rfl,(H.pk [])⟩⟩

def zba (m_:Mrk):M Bool :=
  M.bind (zab m_.place 0 10000) fun r2 =>
  M.bind (M.opt r2 (zbu (⟨(m_.lo:Int),(m_.hi:Int)⟩:Span) 0 2000) false) fun r3 =>
  M.pure (r2&&r3)
theorem zeW {R:List Chunk}  (m_:Mrk)  {r:Bool} (hM:(zba m_).Ends r) (w:World) (H:St w w [] R):Ret Tryz.prog 75 #[.agg #[I m_.place,I m_.lo,I m_.hi]] w fun v w'=>∃ (y0:Bool),y0=r/\v=B y0/\St w w' [] R:=by
 refine ret_of_W Tryz.func75 rfl rfl rfl ?_;refine kg 2 ?_;refine t_bx [I m_.place,I m_.lo,I m_.hi] H rfl ?_;intro ai aj H;refine kg 6 ?_;obtain ⟨ak,ae,hM⟩:=M.e_bind hM;refine s_call cf20 [I m_.place,I 0,I 10000] rfl (zae m_.place 0 10000 ae _ (H.gt 1)) ?_
 rintro vq al ⟨r2,rfl,hvq,ac⟩
 subst vq;(try dsimp only at hM);replace H:=H.bk ac;clear ac;refine kg 3 ?_;obtain ⟨r3,ag,hM⟩:=M.e_bind hM;refine t_gcall r2 (gy_t rfl) cf110 (B r3) (fun _=>[.agg #[I m_.lo,I m_.hi],I 0,I 2000]) (fun hg=>lst3 (gd_of hg (.agg #[I m_.lo,I m_.hi])) rfl rfl) H (fun hg=>(zd5 (⟨(m_.lo:Int),(m_.hi:Int)⟩:Span) 0 2000 (M.e_opt ag hg) _ (H.give (A:=[]) rfl)).mono fun v_ w_ ⟨y_,aa,ah,H_⟩=>by subst aa; exact ⟨ah,H.via H_⟩) ?_;intro am H;refine s_val (x_pand (b:=r2) (r:=r3) rfl (fun hb=>gd_of (c:=r2) (by first | exact hb | (rw [hb]; rfl) | simp_all) (B r3)) rfl) ?_;refine kg 2 ?_;refine W.ret ?_
 have aa:=M.e_pure hM
 exact ⟨_,resE_tmp rfl,⟨(r2&&r3),aa,rfl,(H.pk [])⟩⟩

def zaZ (s:List Rch) (f:Rch->M Bool):Nat->M (Nat ⊕ (Int ⊕ Unit)):=fun s2 =>
  bif decide ((s2:Int)<(s.length:Int)) then (
  M.grd (decide ((s2:Int)<(s.length:Int))) <|
  M.bind (f (s.getD s2 default)) fun r2 =>
  bif r2 then (
  M.pure (.inr (.inl (s2:Int))))
  else (
  M.pure (.inl (s2+1))))
  else (
  M.pure (.inr (.inr ())))
def zdc (s:List Rch) (f:Rch->M Bool):M Int :=
  M.bind (M.iter (zaZ s f) 0) fun x_=>match x_ with
  | (.inl s3)=>(
  M.pure s3)
  | (.inr (_:Unit))=>(
  M.pure (-1))
theorem zfc {R:List Chunk} {ak:Cells} {ac:Value} {ae:Value} (s:List Rch) (f:Rch->M Bool) (aA:Reads R ak) (ao:Sl ak ac s) (ap:FnM Tryz.prog R ae f) {r:Int} (hM:(zdc s f).Ends r) (w:World) (H:St w w [] R):Ret Tryz.prog 138 #[ac,ae] w fun v w'=>∃ (y0:Int),y0=r/\v=I y0/\St w w' [] R:=by
 refine ret_of_W Tryz.func138 rfl rfl rfl ?_
 have aB:=(ao).len_le
 refine kg 12 ?_;obtain ⟨aq,ag,al⟩:=M.e_bind hM
 obtain ⟨aC,ag⟩:=M.e_iter ag
 refine W.loop (fun m σ W=>∃ (s2:Nat) (ρ:Env),σ=upds ρ [(0,ac),(1,ae),(7,I (s.length:Int)),(8,I (s2:Int))]/\M.iterN (zaZ s f) m s2=some aq/\St w W [] R) ?_ ?_
 ·exact ⟨_,0,_,upds_of _ _ ⟨rfl,rfl,rfl,rfl,trivial⟩,ag,H⟩
 rintro aD σ aE ⟨s2,ρ,rfl,am,H⟩
 obtain ⟨au,av,aF,hM,ah⟩:=M.e_iterN am
 simp only [zaZ] at hM
 clear am;refine kg 5 ?_
 refine W.cond (decide ((s2:Int)<(s.length:Int))) rfl (fun aa=>?_) (fun aa=>?_)
 ·replace hM:=M.e_t hM aa
  replace aa:=dI aa
  obtain ⟨aG,hM⟩:=M.e_gd hM;refine kg 15 ?_;obtain ⟨r2,ax,hM⟩:=M.e_bind hM;refine t_callM H ap rfl rfl (s.getD s2 default) Reads.none ⟨_,rfl,rfl⟩ ax ?_;intro aH H;refine s_nil ?_
  refine W.cond r2 rfl (fun ai=>?_) (fun ai=>?_)
  ·replace hM:=M.e_t hM ai;refine kg 5 ?_;refine W.ret ?_
   have ay:=M.e_inr hM ah
   subst ay;replace hM:=al;(try dsimp only at hM)
   have aj:=M.e_pure hM
   exact ⟨_,resE_tmp rfl,⟨(s2:Int),aj,rfl,H⟩⟩
  replace hM:=M.e_f hM ai;refine kg 5 ?_
  exact ⟨au,av,s2+1,_,upds_of _ _ ⟨rfl,rfl,rfl,rfl,trivial⟩,M.e_inl hM ah,H⟩
 replace hM:=M.e_f hM aa
 replace aa:=dI aa
 refine W.exit ?_
 have az:=M.e_inr hM ah
 subst az;replace hM:=al;(try dsimp only at hM);refine kg 4 ?_;refine W.ret ?_
 have aj:=M.e_pure hM
 exact ⟨_,resE_tmp rfl,⟨(-1),aj,rfl,H⟩⟩

def zcX (s:List Rch) (f:Rch->M Bool):M Bool :=
  M.bind (zdc s f) fun r2 =>
  M.pure (decide (0<=r2))
theorem zfr {R:List Chunk} {ae:Cells} {aa:Value} {ac:Value} (s:List Rch) (f:Rch->M Bool) (ah:Reads R ae) (ai:Sl ae aa s) (aj:FnM Tryz.prog R ac f) {r:Bool} (hM:(zcX s f).Ends r) (w:World) (H:St w w [] R):Ret Tryz.prog 111 #[aa,ac] w fun v w'=>∃ (y0:Bool),y0=r/\v=B y0/\St w w' [] R:=by
 refine ret_of_W Tryz.func111 rfl rfl rfl ?_;refine kg 8 ?_;obtain ⟨am,ak,hM⟩:=M.e_bind hM;refine s_call cf138 [aa,ac] rfl (zfc s f (ah.app _) ai (aj.app _) ak _ (H.gt 0)) ?_
 rintro vq ao ⟨r2,rfl,hvq,ag⟩
 subst vq;(try dsimp only at hM);replace H:=H.bk ag;clear ag;refine kg 3 ?_;refine W.ret ?_
 have al:=M.e_pure hM
 exact ⟨_,resE_tmp rfl,⟨(decide (0<=r2)),al,rfl,H⟩⟩

def zcA (x:Rch) (aa:Rch->M Bool):M Bool :=
  M.bind (aa x) fun r2 =>
  M.pure (!r2)
theorem zen {R:List Chunk} {aa:Nat} {ac:Value} (x:Rch) (ae:Rch->M Bool) (ag:FnM Tryz.prog R ac ae) (aj:Has R (cBlk aa [ac] 87)) {r:Bool} (hM:(zcA x ae).Ends r) (w:World) (H:St w w [] R):Ret Tryz.prog 112 #[.agg #[I x.up,I x.down,I x.lo,I x.hi,B x.narrow],Pq aa] w fun v w'=>∃ (y0:Bool),y0=r/\v=B y0/\St w w' [] R:=by
 refine ret_of_W Tryz.func112 rfl rfl rfl ?_;refine kg 2 ?_;refine t_bx [I x.up,I x.down,I x.lo,I x.hi,B x.narrow] H rfl ?_;intro ak al H;refine kg 6 ?_;obtain ⟨r2,ah,hM⟩:=M.e_bind hM;refine t_callM H ag rfl rfl x Reads.none ⟨_,rfl,rfl⟩ ah ?_;intro am H;refine kg 3 ?_;refine W.ret ?_
 have ai:=M.e_pure hM
 exact ⟨_,resE_tmp rfl,⟨(!r2),ai,rfl,(H.pk [])⟩⟩

def zbP (l:List Rch) (so:Rch->M Bool):M Bool :=
  M.bind (zcX l (fun aa=>zcA aa so)) fun r2 =>
  M.pure (!r2)
theorem zeb {R:List Chunk} {ah:Cells} {ac:Value} {aa:Value} (l:List Rch) (so:Rch->M Bool) (al:Reads R ah) (am:Sl ah ac l) (ai:FnM Tryz.prog R aa so) {r:Bool} (hM:(zbP l so).Ends r) (w:World) (H:St w w [] R):Ret Tryz.prog 76 #[ac,aa] w fun v w'=>∃ (y0:Bool),y0=r/\v=B y0/\St w w' [] R:=by
 refine ret_of_W Tryz.func76 rfl rfl rfl ?_;refine kg 2 ?_;refine t_box (v:=aa) (cs:=[aa]) H rfl (FnM.cells ai) ?_;intro ae aB H;refine kg 5 ?_;refine s_val (x_mf (fs:=[]) (cs:=[Pq ae]) rfl rfl) ?_;obtain ⟨aC,ao,hM⟩:=M.e_bind hM;refine s_call cf111 [ac,.func (.func 112) #[] #[Pq ae]] rfl (zfr l (fun ag=>zcA ag so) (al.app _) am ⟨112,[Pq ae],rfl,cf112,fun aj aD aE ap ag aF aq aG au av=>by obtain rfl:=Rch_arg au; exact (zen ag so (FnM.app (ai.app _) _) (Has.app (Has.here (k:=0) rfl) _) av aj (St.refl aq)).mono fun ap aj ⟨aH,ax,ay,az⟩=>by subst ax; exact ⟨ay,az⟩⟩ ao _ (H.gt 1)) ?_
 rintro vq aI ⟨r2,rfl,hvq,ak⟩
 subst vq;(try dsimp only at hM);replace H:=H.bk ak;clear ak;refine kg 3 ?_;refine W.ret ?_
 have aA:=M.e_pure hM
 exact ⟨_,resE_tmp rfl,⟨(!r2),aA,rfl,(H.pk [])⟩⟩

def zcu (r_:Rch) (sections:Int):M Bool :=
  M.grd (decide ((-9223372036854775808:Int)<=(sections-1))&&decide ((sections-1)<=(9223372036854775807:Int))) <|
  M.bind (zab r_.up 0 (sections-1)) fun r2 =>
  M.grd ((!r2||(decide ((-9223372036854775808:Int)<=(r_.up+1))&&decide ((r_.up+1)<=(9223372036854775807:Int))))) <|
  M.bind (M.opt r2 (zab r_.down (r_.up+1) (sections-1)) false) fun r3 =>
  M.bind (M.opt (r2&&r3) (zbu (⟨(r_.lo:Int),(r_.hi:Int)⟩:Span) 1 400) false) fun r4 =>
  M.pure ((r2&&r3)&&r4)
theorem ze0 {R:List Chunk}  (r_:Rch) (sections:Int)  {r:Bool} (hM:(zcu r_ sections).Ends r) (w:World) (H:St w w [] R):Ret Tryz.prog 78 #[.agg #[I r_.up,I r_.down,I r_.lo,I r_.hi,B r_.narrow],I sections] w fun v w'=>∃ (y0:Bool),y0=r/\v=B y0/\St w w' [] R:=by
 refine ret_of_W Tryz.func78 rfl rfl rfl ?_;refine kg 2 ?_;refine t_bx [I r_.up,I r_.down,I r_.lo,I r_.hi,B r_.narrow] H rfl ?_;intro ak al H;obtain ⟨am,hM⟩:=M.e_gd hM;refine kg 8 ?_;obtain ⟨ao,ah,hM⟩:=M.e_bind hM;refine s_call cf20 [I r_.up,I 0,I (sections-1)] rfl (zae r_.up 0 (sections-1) ah _ (H.gt 1)) ?_
 rintro vq ap ⟨r2,rfl,hvq,ag⟩
 subst vq;(try dsimp only at hM);replace H:=H.bk ag;clear ag;obtain ⟨ac,hM⟩:=M.e_grd hM
 replace ac:=M.imp_of ac
 simp only [Bool.and_eq_true,decide_eq_true_eq] at ac
 refine kg 8 ?_;obtain ⟨r3,ai,hM⟩:=M.e_bind hM;refine t_gcall r2 (gy_t rfl) cf20 (B r3) (fun _=>[I r_.down,I (r_.up+1),I (sections-1)]) (fun hg=>lst3 (gd_of hg (I r_.down)) (gd_of hg (I (r_.up+1))) (gd_of hg (I (sections-1)))) H (fun hg=>(zae r_.down (r_.up+1) (sections-1) (M.e_opt ai hg) _ (H.give (A:=[]) rfl)).mono fun v_ w_ ⟨y_,aa,ae,H_⟩=>by subst aa; exact ⟨ae,H.via H_⟩) ?_;intro aq H;refine s_val (x_pand (b:=r2) (r:=r3) rfl (fun hb=>gd_of (c:=r2) (by first | exact hb | (rw [hb]; rfl) | simp_all) (B r3)) rfl) ?_;refine kg 3 ?_;obtain ⟨r4,aj,hM⟩:=M.e_bind hM;refine t_gcall (r2&&r3) (gy_t rfl) cf110 (B r4) (fun _=>[.agg #[I r_.lo,I r_.hi],I 1,I 400]) (fun hg=>lst3 (gd_of hg (.agg #[I r_.lo,I r_.hi])) rfl rfl) H (fun hg=>(zd5 (⟨(r_.lo:Int),(r_.hi:Int)⟩:Span) 1 400 (M.e_opt aj hg) _ (H.give (A:=[]) rfl)).mono fun v_ w_ ⟨y_,aa,ae,H_⟩=>by subst aa; exact ⟨ae,H.via H_⟩) ?_;intro au H;refine s_val (x_pand (b:=(r2&&r3)) (r:=r4) rfl (fun hb=>gd_of (c:=(r2&&r3)) (by first | exact hb | (rw [hb]; rfl) | simp_all) (B r4)) rfl) ?_;refine kg 2 ?_;refine W.ret ?_
 have aa:=M.e_pure hM
 exact ⟨_,resE_tmp rfl,⟨((r2&&r3)&&r4),aa,rfl,(H.pk [])⟩⟩

def zco (r_:Rch) (aa:List Sect) (ac:List Mrk) (ae:List Rch):M Bool :=
  M.bind (zcu r_ (aa.length:Int)) fun r2 =>
  M.pure r2
theorem zet {R:List Chunk} {ac:Nat} {ae:Cells} {ag:Value} {ah:Cells} {ai:Value} {aj:Cells} {ak:Value} (r_:Rch) (aa:List Sect) (al:List Mrk) (am:List Rch) (av:Reads R ae) (ap:Sl ae ag aa) (ax:Reads R ah) (ay:Sl ah ai al) (az:Reads R aj) (aA:Sl aj ak am) (aB:Has R (cBlk ac [ag,ai,ak] 27)) {r:Bool} (hM:(zco r_ aa al am).Ends r) (w:World) (H:St w w [] R):Ret Tryz.prog 77 #[.agg #[I r_.up,I r_.down,I r_.lo,I r_.hi,B r_.narrow],Pq ac] w fun v w'=>∃ (y0:Bool),y0=r/\v=B y0/\St w w' [] R:=by
 refine ret_of_W Tryz.func77 rfl rfl rfl ?_;refine kg 2 ?_;refine t_bx [I r_.up,I r_.down,I r_.lo,I r_.hi,B r_.narrow] H rfl ?_;intro aC aD H
 have aE:=(ap).len_le
 refine kg 8 ?_;obtain ⟨aF,aq,hM⟩:=M.e_bind hM;refine s_call cf78 [.agg #[I r_.up,I r_.down,I r_.lo,I r_.hi,B r_.narrow],I (aa.length:Int)] rfl (ze0 r_ (aa.length:Int) aq _ (H.gt 1)) ?_
 rintro vq aG ⟨r2,rfl,hvq,ao⟩
 subst vq;(try dsimp only at hM);replace H:=H.bk ao;clear ao;refine kg 2 ?_;refine W.ret ?_
 have au:=M.e_pure hM
 exact ⟨_,resE_tmp rfl,⟨r2,au,rfl,(H.pk [])⟩⟩

def zbA (s_Sections:List Sect):(Int × Nat)->M ((Int × Nat) ⊕ (Unit ⊕ Unit)):=fun (last,s2) =>
  bif decide ((s2:Int)<(s_Sections.length:Int)) then (
  M.grd (decide ((s2:Int)<(s_Sections.length:Int))) <|
  M.bind (zck (s_Sections.getD s2 default)) fun r6 =>
  bif ((!r6)||(decide (((s_Sections.getD s2 default).place)<=last))) then (
  M.pure (.inr (.inl ())))
  else (
  M.pure (.inl ((s_Sections.getD s2 default).place,s2+1))))
  else (
  M.pure (.inr (.inr ())))
def zbZ (s_Sections:List Sect) (s_Marks:List Mrk) (s_Reaches:List Rch):M Int :=
  M.bind (zab (s_Sections.length:Int) 2 6) fun r2 =>
  M.bind (M.opt (!(!r2)) (zab (s_Marks.length:Int) 1 16) false) fun r3 =>
  M.bind (M.opt (!((!r2)||(!r3))) (zab (s_Reaches.length:Int) 1 6) false) fun r4 =>
  M.bind (M.opt (!(((!r2)||(!r3))||(!r4))) (zb7 s_Sections (fun aa=>zbU aa)) false) fun r5 =>
  bif ((((!r2)||(!r3))||(!r4))||(!r5)) then (
  M.pure 3)
  else (
  M.bind (M.iter (zbA s_Sections) (-1,0)) fun x_=>match x_ with
  | (.inl (_:Unit))=>(
  M.pure 70)
  | (.inr (_:Unit))=>(
  M.bind (zbT s_Marks (fun aa=>zba aa)) fun r7 =>
  M.bind (M.opt (!(!r7)) (zbP s_Reaches (fun aa=>zco aa s_Sections s_Marks s_Reaches)) false) fun r8 =>
  bif ((!r7)||(!r8)) then (
  M.pure 70)
  else (
  M.pure 0)))
theorem zeB {R:List Chunk} {aL:Cells} {ag:Value} {aM:Cells} {am:Value} {aN:Cells} {ah:Value} (s_Sections:List Sect) (s_Marks:List Mrk) (s_Reaches:List Rch) (aC:Reads R aL) (ao:Sl aL ag s_Sections) (aO:Reads R aM) (aE:Sl aM am s_Marks) (aP:Reads R aN) (aD:Sl aN ah s_Reaches) {r:Int} (hM:(zbZ s_Sections s_Marks s_Reaches).Ends r) (w:World) (H:St w w [] R):Ret Tryz.prog 42 #[.agg #[ag,am,ah]] w fun v w'=>∃ (y0:Int),y0=r/\v=I y0/\St w w' [] R:=by
 refine ret_of_W Tryz.func42 rfl rfl rfl ?_;refine kg 2 ?_;refine t_bx [ag,am,ah] H rfl ?_;intro ae bm H
 have bn:=(ao).len_le
 refine kg 12 ?_;obtain ⟨bo,aW,hM⟩:=M.e_bind hM;refine s_call cf20 [I (s_Sections.length:Int),I 2,I 6] rfl (zae (s_Sections.length:Int) 2 6 aW _ (H.gt 1)) ?_
 rintro vq bp ⟨r2,rfl,hvq,ai⟩
 subst vq;(try dsimp only at hM);replace H:=H.bk ai;clear ai
 have br:=(aE).len_le
 refine kg 5 ?_;obtain ⟨r3,aX,hM⟩:=M.e_bind hM;refine t_gcall (!(!r2)) (gy_f rfl) cf20 (B r3) (fun _=>[I (s_Marks.length:Int),I 1,I 16]) (fun hg=>lst3 (gd_of hg (I (s_Marks.length:Int))) rfl rfl) H (fun hg=>(zae (s_Marks.length:Int) 1 16 (M.e_opt aX hg) _ (H.give (A:=[]) rfl)).mono fun v_ w_ ⟨y_,aa,ak,H_⟩=>by subst aa; exact ⟨ak,H.via H_⟩) ?_;intro bt H;refine kg 1 ?_;refine s_val (x_por (b:=!r2) (r:=!r3) rfl rfl (fun hb=>gd_of (c:=!(!r2)) (by first | exact hb | (rw [hb]; rfl) | simp_all) (B (!r3))))<|zM (B ((!r2)||(!r3))) rfl<|g_val (!((!r2)||(!r3))) (gy_f rfl) (fun hg=>x_fa (v:=Oq ae 2) rfl (fa_blk (o:=0) Fd27_2 Sz25))<|g_val (!((!r2)||(!r3))) (gy_f rfl) (fun hg=>x_ld (v:=ah) (gd_of hg (Oq ae 2)) (ldb_sc Sc25 (H.bl 0) rfl)) ?_
 have bu:=(aD).len_le
 refine g_val (!((!r2)||(!r3))) (gy_f rfl) (fun hg=>x_lenS T25.und (gd_of hg (ah)) aD) ?_;obtain ⟨r4,aY,hM⟩:=M.e_bind hM;refine t_gcall (!((!r2)||(!r3))) (gy_f rfl) cf20 (B r4) (fun _=>[I (s_Reaches.length:Int),I 1,I 6]) (fun hg=>lst3 (gd_of hg (I (s_Reaches.length:Int))) rfl rfl) H (fun hg=>(zae (s_Reaches.length:Int) 1 6 (M.e_opt aY hg) _ (H.give (A:=[]) rfl)).mono fun v_ w_ ⟨y_,aa,ak,H_⟩=>by subst aa; exact ⟨ak,H.via H_⟩) ?_;intro bv H;refine g_val (!((!r2)||(!r3))) (gy_f rfl) (fun hg=>x_not (b:=r4) (gd_of hg (B r4)))<|s_val (x_por (b:=((!r2)||(!r3))) (r:=!r4) rfl rfl (fun hb=>gd_of (c:=!((!r2)||(!r3))) (by first | exact hb | (rw [hb]; rfl) | simp_all) (B (!r4))))<|zM (B (((!r2)||(!r3))||(!r4))) rfl<|g_val (!(((!r2)||(!r3))||(!r4))) (gy_f rfl) (fun hg=>x_fa (v:=Pq ae) rfl (fa_blk (o:=0) Fd27_0 Sz23))<|g_val (!(((!r2)||(!r3))||(!r4))) (gy_f rfl) (fun hg=>x_ld (v:=ag) (gd_of hg (Pq ae)) (ldb_sc Sc23 (H.bl 0) rfl))<|g_val (!(((!r2)||(!r3))||(!r4))) (gy_f rfl) (fun hg=>x_mv (v:=.func (.func 71) #[] #[]) rfl) ?_;obtain ⟨r5,aZ,hM⟩:=M.e_bind hM;refine t_gcall (!(((!r2)||(!r3))||(!r4))) (gy_f rfl) cf72 (B r5) (fun _=>[ag,.func (.func 71) #[] #[]]) (fun hg=>lst2 (gd_of hg (ag)) (gd_of hg (.func (.func 71) #[] #[]))) H (fun hg=>(zeg s_Sections (fun ac=>zbU ac) (aC.app _) ao ⟨71,[],rfl,cf71,fun aj aQ aR ap ac aS aq aF au av=>by obtain ⟨bw,rfl,a7⟩:=Sect_arg au; exact (zeJ ac aF a7 av aj (St.refl aq)).mono fun ap aj ⟨aT,ax,ay,az⟩=>by subst ax; exact ⟨ay,az⟩⟩ (M.e_opt aZ hg) _ (H.give (A:=[]) rfl)).mono fun v_ w_ ⟨y_,aa,ak,H_⟩=>by subst aa; exact ⟨ak,H.via H_⟩) ?_;intro bx H;refine g_val (!(((!r2)||(!r3))||(!r4))) (gy_f rfl) (fun hg=>x_not (b:=r5) (gd_of hg (B r5)))<|s_val (x_por (b:=(((!r2)||(!r3))||(!r4))) (r:=!r5) rfl rfl (fun hb=>gd_of (c:=!(((!r2)||(!r3))||(!r4))) (by first | exact hb | (rw [hb]; rfl) | simp_all) (B (!r5))))<|s_nil ?_
 refine W.cond ((((!r2)||(!r3))||(!r4))||(!r5)) rfl (fun aG=>?_) (fun aG=>?_)
 ·replace hM:=M.e_t hM aG;refine kg 4 ?_;refine W.ret ?_
  have aa:=M.e_pure hM
  exact ⟨_,resE_tmp rfl,⟨3,aa,rfl,(H.pk [])⟩⟩
 replace hM:=M.e_f hM aG
 have bz:=(ao).len_le
 refine kg 14 ?_;obtain ⟨a8,aH,aU⟩:=M.e_bind hM
 obtain ⟨bA,aH⟩:=M.e_iter aH
 refine W.loop (fun m σ W=>∃ (last:Int) (s2:Nat) (ρ:Env),σ=upds ρ [(1,Pq ae),(4,I last),(34,ag),(35,I (s_Sections.length:Int)),(36,I (s2:Int))]/\M.iterN (zbA s_Sections) m (last,s2)=some a8/\St w W [cBlk ae [ag,am,ah] 27] R) ?_ ?_
 ·exact ⟨_,-1,0,_,upds_of _ _ ⟨rfl,rfl,rfl,rfl,rfl,trivial⟩,aH,H⟩
 rintro bB σ bC ⟨last,s2,ρ,rfl,aV,H⟩
 obtain ⟨ba,bb,bD,hM,aI⟩:=M.e_iterN aV
 simp only [zbA] at hM
 clear aV;refine kg 5 ?_
 refine W.cond (decide ((s2:Int)<(s_Sections.length:Int))) rfl (fun al=>?_) (fun al=>?_)
 ·replace hM:=M.e_t hM al
  replace al:=dI al
  obtain ⟨bE,hM⟩:=M.e_gd hM;refine kg 6 ?_
  obtain ⟨aA,bc,aB⟩:=Sect_atA ao (i:=(s2:Int)) (by omega) (by omega)
  replace aB:Sl _ aA (s_Sections.getD s2 default).rows:=aB
  have bF:=aB.len_le
  refine s_val (x_ld (v:=.agg #[I ((s_Sections.getD s2 default).place),aA]) rfl (ld_ag Ag76 Sz76 (At.mono bc (aC.at H)))) ?_;refine t_alloc (cs:=[I 0,.slice none 0 0]) H Al76 rfl ?_;intro bG bH H;refine t_sw 0 0 [I ((s_Sections.getD s2 default).place),aA] (.agg #[I ((s_Sections.getD s2 default).place),aA]) H rfl rfl Sz76 rfl rfl rfl (by simp only [List.all_cons,List.all_nil,Bool.true_and,Bool.and_true,Sl.oc aB]; try rfl) ?_;intro bI H;refine kg 5 ?_;obtain ⟨bJ,bf,hM⟩:=M.e_bind hM;refine s_call cf73 [.agg #[I ((s_Sections.getD s2 default).place),aA]] rfl (zew (s_Sections.getD s2 default) (aC.app _) aB bf _ (H.gt 2)) ?_
  rintro vq bK ⟨r6,rfl,hvq,ai⟩
  subst vq;(try dsimp only at hM);replace H:=H.bk ai;clear ai;refine kg 6 ?_;refine s_val (x_por (b:=!r6) (r:=decide (((s_Sections.getD s2 default).place)<=last)) rfl rfl (fun hb=>gd_of (c:=!(!r6)) (by first | exact hb | (rw [hb]; rfl) | simp_all) (B (decide (((s_Sections.getD s2 default).place)<=last)))))<|s_nil ?_
  refine W.cond ((!r6)||(decide (((s_Sections.getD s2 default).place)<=last))) rfl (fun aJ=>?_) (fun aJ=>?_)
  ·replace hM:=M.e_t hM aJ;refine kg 4 ?_;refine W.ret ?_
   have bg:=M.e_inr hM aI
   subst bg;replace hM:=aU;(try dsimp only at hM)
   have aa:=M.e_pure hM
   exact ⟨_,resE_tmp rfl,⟨70,aa,rfl,(H.pk [])⟩⟩
  replace hM:=M.e_f hM aJ;refine kg 10 ?_
  exact ⟨ba,bb,(s_Sections.getD s2 default).place,s2+1,_,upds_of _ _ ⟨rfl,rfl,rfl,rfl,rfl,trivial⟩,M.e_inl hM aI,(H.pk [1])⟩
 replace hM:=M.e_f hM al
 replace al:=dI al
 refine W.exit ?_
 have bh:=M.e_inr hM aI
 subst bh;replace hM:=aU;(try dsimp only at hM);refine kg 5 ?_;obtain ⟨bL,bi,hM⟩:=M.e_bind hM;refine s_call cf74 [am,.func (.func 75) #[] #[]] rfl (zeA s_Marks (fun ac=>zba ac) (aO.app _) aE ⟨75,[],rfl,cf75,fun aj aQ aR ap ac aS aq aF au av=>by obtain rfl:=Mrk_arg au; exact (zeW ac av aj (St.refl aq)).mono fun ap aj ⟨aT,ax,ay,az⟩=>by subst ax; exact ⟨ay,az⟩⟩ bi _ (H.gt 1)) ?_
 rintro vq bN ⟨r7,rfl,hvq,ai⟩
 subst vq;(try dsimp only at hM);replace H:=H.bk ai;clear ai;refine kg 4 ?_;refine g_val (!(!r7)) (gy_f rfl) (fun hg=>x_mf (fs:=[]) (cs:=[Pq ae]) rfl rfl) ?_;obtain ⟨r8,bj,hM⟩:=M.e_bind hM;refine t_gcall (!(!r7)) (gy_f rfl) cf76 (B r8) (fun _=>[ah,.func (.func 77) #[] #[Pq ae]]) (fun hg=>lst2 (gd_of hg (ah)) (gd_of hg (.func (.func 77) #[] #[Pq ae]))) H (fun hg=>(zeb s_Reaches (fun ac=>zco ac s_Sections s_Marks s_Reaches) (aP.app _) aD ⟨77,[Pq ae],rfl,cf77,fun aj aQ aR ap ac aS aq aF au av=>by obtain rfl:=Rch_arg au; exact (zet ac s_Sections s_Marks s_Reaches (Reads.app (aC.app _) _) ao (Reads.app (aO.app _) _) aE (Reads.app (aP.app _) _) aD (Has.app (Has.here (k:=0) rfl) _) av aj (St.refl aq)).mono fun ap aj ⟨aT,ax,ay,az⟩=>by subst ax; exact ⟨ay,az⟩⟩ (M.e_opt bj hg) _ (H.give (A:=[]) rfl)).mono fun v_ w_ ⟨y_,aa,ak,H_⟩=>by subst aa; exact ⟨ak,H.via H_⟩) ?_;intro bO H;refine kg 1 ?_;refine s_val (x_por (b:=!r7) (r:=!r8) rfl rfl (fun hb=>gd_of (c:=!(!r7)) (by first | exact hb | (rw [hb]; rfl) | simp_all) (B (!r8))))<|s_nil ?_
 refine W.cond ((!r7)||(!r8)) rfl (fun aK=>?_) (fun aK=>?_)
 ·replace hM:=M.e_t hM aK;refine kg 4 ?_;refine W.ret ?_
  have aa:=M.e_pure hM
  exact ⟨_,resE_tmp rfl,⟨70,aa,rfl,(H.pk [])⟩⟩
 replace hM:=M.e_f hM aK;refine kg 5 ?_;refine W.ret ?_
 have aa:=M.e_pure hM
 exact ⟨_,resE_tmp rfl,⟨0,aa,rfl,(H.pk [])⟩⟩

def zar (s_Sections:List Sect) (s_Marks:List Mrk) (s_Reaches:List Rch):M (Int ⊕ Int) :=
  M.bind (zbZ s_Sections s_Marks s_Reaches) fun r2 =>
  bif r2 != 0 then (
  M.pure (.inl r2))
  else (
  M.pure (.inr 0))
theorem zbo {R:List Chunk} {aj:Cells} {aa:Value} {ak:Cells} {ac:Value} {al:Cells} {ae:Value} (s_Sections:List Sect) (s_Marks:List Mrk) (s_Reaches:List Rch) (aq:Reads R aj) (au:Sl aj aa s_Sections) (av:Reads R ak) (ax:Sl ak ac s_Marks) (ay:Reads R al) (az:Sl al ae s_Reaches) {r:(Int ⊕ Int)} (hM:(zar s_Sections s_Marks s_Reaches).Ends r) (w:World) (H:St w w [] R):Ret Tryz.prog 19 #[.agg #[aa,ac,ae]] w fun v w'=>(∃ (y0:Int),(.inl y0)=r/\v = .tuple #[.pointer none,I y0]/\St w w' [] R)∨(∃ (y0:Int) (am:Nat) (ao:Nat),(.inr y0)=r/\v = .tuple #[Pq am,I y0]/\St w w' [cBlk am [aa,ac,ae,.map (some ao)] 117,cMemI encSpt ao (zaa s_Sections s_Marks s_Reaches)] R):=by
 refine ret_of_W Tryz.func19 rfl rfl rfl ?_;refine kg 2 ?_;refine t_bx [aa,ac,ae] H rfl ?_;intro aC aD H;refine kg 7 ?_;obtain ⟨aE,aA,hM⟩:=M.e_bind hM;refine s_call cf42 [.agg #[aa,ac,ae]] rfl (zeB s_Sections s_Marks s_Reaches (aq.app _) au (av.app _) ax (ay.app _) az aA _ (H.gt 1)) ?_
 rintro vq aF ⟨r2,rfl,hvq,ap⟩
 subst vq;(try dsimp only at hM);replace H:=H.bk ap;clear ap;refine kg 7 ?_
 refine W.cond (r2 != 0) rfl (fun ag=>?_) (fun ag=>?_)
 ·replace hM:=M.e_t hM ag
  replace ag:=dI ag
  refine kg 6 ?_;refine W.ret ?_
  have ai:=M.e_pure hM
  exact ⟨_,resE_tmp2 rfl,.inl (⟨r2,ai,rfl,(H.pk [])⟩)⟩
 replace hM:=M.e_f hM ag
 replace ag:=dI ag
 refine kg 4 ?_;refine t_mkmemI encSpt (zaa s_Sections s_Marks s_Reaches) H ?_;intro ah aG H;refine s_val (x_bld (ps:=[(0,.agg #[aa,ac,ae]),(1,.map (some ah))]) (zs:=[.slice none 0 0,.slice none 0 0,.slice none 0 0,.map none]) (L':=[aa,ac,ae,.map (some ah)]) rfl Tryz.underlying117 Al117 rfl (Bd117 Tryz.underlying117) (.cons (cs:=[aa,ac,ae]) rfl rfl rfl rfl rfl<|.cons (cs:=[.map (some ah)]) rfl rfl rfl rfl rfl<|.nil)) ?_;refine t_bx [aa,ac,ae,.map (some ah)] H rfl ?_;intro aB aH H;refine kg 3 ?_;refine W.ret ?_
 have ai:=M.e_pure hM
 exact ⟨_,resE_tmp2 rfl,.inr (⟨0,aB,ah,ai,rfl,(H.pk [0,1])⟩)⟩

def zcQ (s_Marks:List Mrk) (marks:List Int):(Int × Int × Nat)->M ((Int × Int × Nat) ⊕ Int):=fun (e2,last,s2) =>
  bif decide ((s2:Int)<(marks.length:Int)) then (
  M.grd (decide ((s2:Int)<(marks.length:Int))) <|
  M.grd ((!(e2==0)||(decide ((-9223372036854775808:Int)<=(last+1))&&decide ((last+1)<=(9223372036854775807:Int))))) <|
  M.bind (M.opt (e2==0) (zab (marks.getD s2 0) (last+1) ((s_Marks.length:Int)-1)) false) fun r2 =>
  bif ((e2==0)&&(!r2)) then (
  M.pure (.inl (2,marks.getD s2 0,s2+1)))
  else (
  M.pure (.inl (e2,marks.getD s2 0,s2+1))))
  else (
  M.pure (.inr e2))
def zbp (s_Marks:List Mrk) (marks:List Int):(Int × Int × Nat)->M ((Int × Int × Nat) ⊕ Int):=fun (e2,last,s2) =>
  bif decide ((s2:Int)<(marks.length:Int)) then (
  M.grd (decide ((s2:Int)<(marks.length:Int))) <|
  M.grd ((!(e2==0)||(decide ((-9223372036854775808:Int)<=(last+1))&&decide ((last+1)<=(9223372036854775807:Int))))) <|
  M.bind (M.opt (e2==0) (zab (marks.getD s2 0) (last+1) ((s_Marks.length:Int)-1)) false) fun r2 =>
  bif ((e2==0)&&(!r2)) then (
  M.pure (.inl (2,marks.getD s2 0,s2+1)))
  else (
  M.pure (.inl (e2,marks.getD s2 0,s2+1))))
  else (
  M.pure (.inr e2))
def za4 (s_Sections:List Sect) (s_Marks:List Mrk) (s_Reaches:List Rch) (marks:List Int):M (Int ⊕ Int) :=
  M.bind (zar s_Sections s_Marks s_Reaches) fun x_=>match x_ with
  | (.inl r1)=>(
  M.bind (M.iter (zcQ s_Marks marks) (r1,-1,0)) fun e3 =>
  M.pure (.inl e3))
  | (.inr aa)=>(
  M.bind (M.iter (zbp s_Marks marks) (aa,-1,0)) fun e3 =>
  M.pure (.inr e3))
theorem zdt {R:List Chunk} {aD:Cells} {aa:Value} {aE:Cells} {ac:Value} {aF:Cells} {ae:Value} {aG:Cells} {ak:Value} (s_Sections:List Sect) (s_Marks:List Mrk) (s_Reaches:List Rch) (marks:List Int) (aQ:Reads R aD) (aR:Sl aD aa s_Sections) (aS:Reads R aE) (am:Sl aE ac s_Marks) (aT:Reads R aF) (aU:Sl aF ae s_Reaches) (bi:Reads R aG) (aH:Sl aG ak marks) {r:(Int ⊕ Int)} (hM:(za4 s_Sections s_Marks s_Reaches marks).Ends r) (w:World) (H:St w w [] R):Ret Tryz.prog 45 #[.agg #[aa,ac,ae],ak] w fun v w'=>(∃ (y0:Int),(.inl y0)=r/\v = .tuple #[.pointer none,I y0]/\St w w' [] R)∨(∃ (y0:Int) (aI:Nat) (aJ:Nat),(.inr y0)=r/\v = .tuple #[Pq aI,I y0]/\St w w' [cBlk aI [aa,ac,ae,.map (some aJ)] 117,cMemI encSpt aJ (zaa s_Sections s_Marks s_Reaches)] R):=by
 refine ret_of_W Tryz.func45 rfl rfl rfl ?_;refine kg 2 ?_;refine t_bx [aa,ac,ae] H rfl ?_;intro al bj H;refine kg 6 ?_;obtain ⟨bm,aV,hM⟩:=M.e_bind hM;refine s_call cf19 [.agg #[aa,ac,ae]] rfl (zbo s_Sections s_Marks s_Reaches (aQ.app _) aR (aS.app _) am (aT.app _) aU aV _ (H.gt 1)) ?_
 rintro vq bn (⟨r1,aW,hvq,aj⟩ | ⟨aX,ao,ap,aY,hvq,aj⟩)
 ·subst aW;subst vq;(try dsimp only at hM);replace H:=H.bk aj;clear aj
  have bo:=(aH).len_le
  refine kg 18 ?_;obtain ⟨aZ,aq,a7⟩:=M.e_bind hM
  obtain ⟨a8,aq⟩:=M.e_iter aq
  refine W.loop (fun m σ W=>∃ (e2:Int) (last:Int) (s2:Nat) (ρ:Env),σ=upds ρ [(2,Pq al),(6,.pointer none),(7,I e2),(8,I last),(16,ak),(17,I (marks.length:Int)),(18,I (s2:Int))]/\M.iterN (zcQ s_Marks marks) m (e2,last,s2)=some aZ/\St w W [cBlk al [aa,ac,ae] 27] R) ?_ ?_
  ·exact ⟨_,r1,-1,0,_,upds_of _ _ ⟨rfl,rfl,rfl,rfl,rfl,rfl,rfl,trivial⟩,aq,H⟩
  rintro bp σ br ⟨e2,last,s2,ρ,rfl,aK,H⟩
  obtain ⟨aL,aM,bt,hM,au⟩:=M.e_iterN aK
  simp only [zcQ] at hM
  clear aK;refine kg 5 ?_
  refine W.cond (decide ((s2:Int)<(marks.length:Int))) rfl (fun ag=>?_) (fun ag=>?_)
  ·replace hM:=M.e_t hM ag
   replace ag:=dI ag
   obtain ⟨bu,hM⟩:=M.e_gd hM;obtain ⟨av,hM⟩:=M.e_grd hM
   replace av:=M.imp_of av
   simp only [Bool.and_eq_true,decide_eq_true_eq] at av
   have bv:=(am).len_le
   refine kg 22 ?_;obtain ⟨r2,ba,hM⟩:=M.e_bind hM;refine t_gcall (e2==0) (gy_t rfl) cf20 (B r2) (fun _=>[I (marks.getD s2 0),I (last+1),I ((s_Marks.length:Int)-1)]) (fun hg=>lst3 (gd_of hg (I (marks.getD s2 0))) (gd_of hg (I (last+1))) (gd_of hg (I ((s_Marks.length:Int)-1)))) H (fun hg=>(zae (marks.getD s2 0) (last+1) ((s_Marks.length:Int)-1) (M.e_opt ba hg) _ (H.give (A:=[]) rfl)).mono fun v_ w_ ⟨y_,ah,ax,H_⟩=>by subst ah; exact ⟨ax,H.via H_⟩) ?_;intro bw H;refine kg 1 ?_;refine s_val (x_pand (b:=e2==0) (r:=!r2) rfl (fun hb=>gd_of (c:=e2==0) (by first | exact hb | (rw [hb]; rfl) | simp_all) (B (!r2))) rfl)<|s_nil ?_
   refine W.cond ((e2==0)&&(!r2)) rfl (fun ay=>?_) (fun ay=>?_)
   ·replace hM:=M.e_t hM ay;refine kg 11 ?_
    exact ⟨aL,aM,2,marks.getD s2 0,s2+1,_,upds_of _ _ ⟨rfl,rfl,rfl,rfl,rfl,rfl,rfl,trivial⟩,M.e_inl hM au,H⟩
   replace hM:=M.e_f hM ay;refine kg 9 ?_
   exact ⟨aL,aM,e2,marks.getD s2 0,s2+1,_,upds_of _ _ ⟨rfl,rfl,rfl,rfl,rfl,rfl,rfl,trivial⟩,M.e_inl hM au,H⟩
  replace hM:=M.e_f hM ag
  replace ag:=dI ag
  refine W.exit ?_
  have bb:=M.e_inr hM au
  subst bb;replace hM:=a7;(try dsimp only at hM);refine kg 7 ?_;refine W.ret ?_
  have ah:=M.e_pure hM
  exact ⟨_,resE_tmp2 rfl,.inl (⟨e2,ah,rfl,(H.pk [])⟩)⟩
 subst aY;subst vq;(try dsimp only at hM);replace H:=H.bk aj;clear aj
 have bx:=(aH).len_le
 refine kg 18 ?_;obtain ⟨bc,az,bf⟩:=M.e_bind hM
 obtain ⟨a8,az⟩:=M.e_iter az
 refine W.loop (fun m σ W=>∃ (e2:Int) (last:Int) (s2:Nat) (ρ:Env),σ=upds ρ [(2,Pq al),(6,Pq ao),(7,I e2),(8,I last),(16,ak),(17,I (marks.length:Int)),(18,I (s2:Int))]/\M.iterN (zbp s_Marks marks) m (e2,last,s2)=some bc/\St w W [cBlk ao [aa,ac,ae,.map (some ap)] 117,cMemI encSpt ap (zaa s_Sections s_Marks s_Reaches),cBlk al [aa,ac,ae] 27] R) ?_ ?_
 ·exact ⟨_,aX,-1,0,_,upds_of _ _ ⟨rfl,rfl,rfl,rfl,rfl,rfl,rfl,trivial⟩,az,H⟩
 rintro bz σ bA ⟨e2,last,s2,ρ,rfl,aN,H⟩
 obtain ⟨aO,aP,bB,hM,aA⟩:=M.e_iterN aN
 simp only [zbp] at hM
 clear aN;refine kg 5 ?_
 refine W.cond (decide ((s2:Int)<(marks.length:Int))) rfl (fun ai=>?_) (fun ai=>?_)
 ·replace hM:=M.e_t hM ai
  replace ai:=dI ai
  obtain ⟨bC,hM⟩:=M.e_gd hM;obtain ⟨aB,hM⟩:=M.e_grd hM
  replace aB:=M.imp_of aB
  simp only [Bool.and_eq_true,decide_eq_true_eq] at aB
  have bD:=(am).len_le
  refine kg 22 ?_;obtain ⟨r2,bg,hM⟩:=M.e_bind hM;refine t_gcall (e2==0) (gy_t rfl) cf20 (B r2) (fun _=>[I (marks.getD s2 0),I (last+1),I ((s_Marks.length:Int)-1)]) (fun hg=>lst3 (gd_of hg (I (marks.getD s2 0))) (gd_of hg (I (last+1))) (gd_of hg (I ((s_Marks.length:Int)-1)))) H (fun hg=>(zae (marks.getD s2 0) (last+1) ((s_Marks.length:Int)-1) (M.e_opt bg hg) _ (H.give (A:=[]) rfl)).mono fun v_ w_ ⟨y_,ah,ax,H_⟩=>by subst ah; exact ⟨ax,H.via H_⟩) ?_;intro bE H;refine kg 1 ?_;refine s_val (x_pand (b:=e2==0) (r:=!r2) rfl (fun hb=>gd_of (c:=e2==0) (by first | exact hb | (rw [hb]; rfl) | simp_all) (B (!r2))) rfl)<|s_nil ?_
  refine W.cond ((e2==0)&&(!r2)) rfl (fun aC=>?_) (fun aC=>?_)
  ·replace hM:=M.e_t hM aC;refine kg 11 ?_
   exact ⟨aO,aP,2,marks.getD s2 0,s2+1,_,upds_of _ _ ⟨rfl,rfl,rfl,rfl,rfl,rfl,rfl,trivial⟩,M.e_inl hM aA,H⟩
  replace hM:=M.e_f hM aC;refine kg 9 ?_
  exact ⟨aO,aP,e2,marks.getD s2 0,s2+1,_,upds_of _ _ ⟨rfl,rfl,rfl,rfl,rfl,rfl,rfl,trivial⟩,M.e_inl hM aA,H⟩
 replace hM:=M.e_f hM ai
 replace ai:=dI ai
 refine W.exit ?_
 have bh:=M.e_inr hM aA
 subst bh;replace hM:=bf;(try dsimp only at hM);refine kg 7 ?_;refine W.ret ?_
 have ah:=M.e_pure hM
 exact ⟨_,resE_tmp2 rfl,.inr (⟨e2,ao,ap,ah,rfl,(H.pk [0,1])⟩)⟩

def zbY (s_Sections:List Sect) (s_Marks:List Mrk) (s_Reaches:List Rch) (marks:List Int) (reach:Int):M ((Int × Int × Int × Int × Bool × Int) ⊕ (Int × Int × Int × Int × Bool × Int)) :=
  M.bind (za4 s_Sections s_Marks s_Reaches marks) fun x_=>match x_ with
  | (.inl r1)=>(
  M.bind (M.opt (r1==0) (zab reach 0 ((s_Reaches.length:Int)-1)) false) fun r2 =>
  bif ((r1==0)&&(!r2)) then (
  M.pure (.inl (0,0,0,0,false,2)))
  else (
  bif r1 != 0 then (
  M.pure (.inl (0,0,0,0,false,r1)))
  else (
  M.fail)))
  | (.inr aa)=>(
  M.bind (M.opt (aa==0) (zab reach 0 ((s_Reaches.length:Int)-1)) false) fun r2 =>
  bif ((aa==0)&&(!r2)) then (
  M.pure (.inl (0,0,0,0,false,2)))
  else (
  bif aa != 0 then (
  M.fail)
  else (
  M.grd (decide ((0:Int)<=reach)&&decide (reach<(s_Reaches.length:Int))) <|
  M.pure (.inr (((s_Reaches.getD (Int.toNat reach) default).up),((s_Reaches.getD (Int.toNat reach) default).down),((s_Reaches.getD (Int.toNat reach) default).lo),((s_Reaches.getD (Int.toNat reach) default).hi),((s_Reaches.getD (Int.toNat reach) default).narrow),0)))))
theorem zeu {R:List Chunk} {ax:Cells} {ac:Value} {ay:Cells} {ae:Value} {az:Cells} {ag:Value} {aA:Cells} {am:Value} (s_Sections:List Sect) (s_Marks:List Mrk) (s_Reaches:List Rch) (marks:List Int) (reach:Int) (aG:Reads R ax) (aH:Sl ax ac s_Sections) (aI:Reads R ay) (aJ:Sl ay ae s_Marks) (aK:Reads R az) (ao:Sl az ag s_Reaches) (aL:Reads R aA) (aM:Sl aA am marks) {r:((Int × Int × Int × Int × Bool × Int) ⊕ (Int × Int × Int × Int × Bool × Int))} (hM:(zbY s_Sections s_Marks s_Reaches marks reach).Ends r) (w:World) (H:St w w [] R):Ret Tryz.prog 23 #[.agg #[ac,ae,ag],am,I reach] w fun v w'=>(∃ (y0:Int) (y1:Int) (y2:Int) (y3:Int) (y4:Bool) (y5:Int),(.inl (y0,y1,y2,y3,y4,y5))=r/\v = .tuple #[.pointer none,.agg #[I y0,I y1,I y2,I y3,B y4],I y5]/\St w w' [] R)∨(∃ (y0:Int) (y1:Int) (y2:Int) (y3:Int) (y4:Bool) (y5:Int) (aB:Nat) (aC:Nat),(.inr (y0,y1,y2,y3,y4,y5))=r/\v = .tuple #[Pq aB,.agg #[I y0,I y1,I y2,I y3,B y4],I y5]/\St w w' [cBlk aB [ac,ae,ag,.map (some aC)] 117,cMemI encSpt aC (zaa s_Sections s_Marks s_Reaches)] R):=by
 refine ret_of_W Tryz.func23 rfl rfl rfl ?_;refine kg 2 ?_;refine t_bx [ac,ae,ag] H rfl ?_;intro aN aX H;refine kg 1 ?_;refine t_alloc (cs:=[I 0,I 0,I 0,I 0,B false]) H Al38 rfl ?_;intro aY aZ H;refine kg 6 ?_;obtain ⟨a7,aO,hM⟩:=M.e_bind hM;refine s_call cf45 [.agg #[ac,ae,ag],am] rfl (zdt s_Sections s_Marks s_Reaches marks (aG.app _) aH (aI.app _) aJ (aK.app _) ao (aL.app _) aM aO _ (H.gt 2)) ?_
 rintro vq a8 (⟨r1,aP,hvq,ah⟩ | ⟨ai,al,ap,aQ,hvq,ah⟩)
 ·subst aP;subst vq;(try dsimp only at hM);replace H:=H.bk ah;clear ah
  have ba:=(ao).len_le
  refine kg 17 ?_;obtain ⟨r2,aR,hM⟩:=M.e_bind hM;refine t_gcall (r1==0) (gy_t rfl) cf20 (B r2) (fun _=>[I reach,I 0,I ((s_Reaches.length:Int)-1)]) (fun hg=>lst3 (gd_of hg (I reach)) rfl (gd_of hg (I ((s_Reaches.length:Int)-1)))) H (fun hg=>(zae reach 0 ((s_Reaches.length:Int)-1) (M.e_opt aR hg) _ (H.give (A:=[]) rfl)).mono fun v_ w_ ⟨y_,aa,aq,H_⟩=>by subst aa; exact ⟨aq,H.via H_⟩) ?_;intro bb H;refine kg 1 ?_;refine s_val (x_pand (b:=r1==0) (r:=!r2) rfl (fun hb=>gd_of (c:=r1==0) (by first | exact hb | (rw [hb]; rfl) | simp_all) (B (!r2))) rfl)<|s_nil ?_
  refine W.cond ((r1==0)&&(!r2)) rfl (fun au=>?_) (fun au=>?_)
  ·replace hM:=M.e_t hM au;refine kg 9 ?_
   refine W.cond ((2:Int) != 0) rfl (fun aD=>?_) (fun aD=>?_)
   ·skip
    refine kg 2 ?_;refine s_val (x_bld (ps:=[]) (zs:=[I 0,I 0,I 0,I 0,B false]) (L':=[I 0,I 0,I 0,I 0,B false]) rfl Tryz.underlying38 Al38 rfl (Bd38 Tryz.underlying38) (.nil)) ?_;refine kg 2 ?_;refine t_sw 0 0 [I 0,I 0,I 0,I 0,B false] (.agg #[I 0,I 0,I 0,I 0,B false]) H rfl rfl Sz38 rfl rfl rfl rfl ?_;intro bc H;refine kg 2 ?_;refine W.ret ?_
    have aS:=(H.bl 0)
    have aa:=M.e_pure hM
    exact ⟨_,(resE_ofn (vs:=[.pointer none,.agg #[I 0,I 0,I 0,I 0,B false],I 2]) rfl rfl (.tmp (v:=.pointer none) rfl<|.cell (v:=.agg #[I 0,I 0,I 0,I 0,B false]) rfl (run_loadVar_ag (ds:=[I 0,I 0,I 0,I 0,B false]) Ag38 Sz38 aS rfl rfl)<|.tmp (v:=I 2) rfl<|.nil)),.inl (⟨0,0,0,0,false,2,aa,rfl,(H.pk [])⟩)⟩
   skip
   exact absurd aD (by decide)
  replace hM:=M.e_f hM au;refine kg 7 ?_
  refine W.cond (r1 != 0) rfl (fun aj=>?_) (fun aj=>?_)
  ·replace hM:=M.e_t hM aj
   replace aj:=dI aj
   refine kg 2 ?_;refine s_val (x_bld (ps:=[]) (zs:=[I 0,I 0,I 0,I 0,B false]) (L':=[I 0,I 0,I 0,I 0,B false]) rfl Tryz.underlying38 Al38 rfl (Bd38 Tryz.underlying38) (.nil)) ?_;refine kg 2 ?_;refine t_sw 0 0 [I 0,I 0,I 0,I 0,B false] (.agg #[I 0,I 0,I 0,I 0,B false]) H rfl rfl Sz38 rfl rfl rfl rfl ?_;intro bf H;refine kg 2 ?_;refine W.ret ?_
   have aT:=(H.bl 0)
   have aa:=M.e_pure hM
   exact ⟨_,(resE_ofn (vs:=[.pointer none,.agg #[I 0,I 0,I 0,I 0,B false],I r1]) rfl rfl (.tmp (v:=.pointer none) rfl<|.cell (v:=.agg #[I 0,I 0,I 0,I 0,B false]) rfl (run_loadVar_ag (ds:=[I 0,I 0,I 0,I 0,B false]) Ag38 Sz38 aT rfl rfl)<|.tmp (v:=I r1) rfl<|.nil)),.inl (⟨0,0,0,0,false,r1,aa,rfl,(H.pk [])⟩)⟩
  replace hM:=M.e_f hM aj
  exact (M.e_fail hM).elim
 subst aQ;subst vq;(try dsimp only at hM);replace H:=H.bk ah;clear ah
 have bg:=(ao).len_le
 refine kg 17 ?_;obtain ⟨r2,aU,hM⟩:=M.e_bind hM;refine t_gcall (ai==0) (gy_t rfl) cf20 (B r2) (fun _=>[I reach,I 0,I ((s_Reaches.length:Int)-1)]) (fun hg=>lst3 (gd_of hg (I reach)) rfl (gd_of hg (I ((s_Reaches.length:Int)-1)))) H (fun hg=>(zae reach 0 ((s_Reaches.length:Int)-1) (M.e_opt aU hg) _ (H.give (A:=[]) rfl)).mono fun v_ w_ ⟨y_,aa,aq,H_⟩=>by subst aa; exact ⟨aq,H.via H_⟩) ?_;intro bh H;refine kg 1 ?_;refine s_val (x_pand (b:=ai==0) (r:=!r2) rfl (fun hb=>gd_of (c:=ai==0) (by first | exact hb | (rw [hb]; rfl) | simp_all) (B (!r2))) rfl)<|s_nil ?_
 refine W.cond ((ai==0)&&(!r2)) rfl (fun av=>?_) (fun av=>?_)
 ·replace hM:=M.e_t hM av;refine kg 9 ?_
  refine W.cond ((2:Int) != 0) rfl (fun aE=>?_) (fun aE=>?_)
  ·skip
   refine kg 2 ?_;refine s_val (x_bld (ps:=[]) (zs:=[I 0,I 0,I 0,I 0,B false]) (L':=[I 0,I 0,I 0,I 0,B false]) rfl Tryz.underlying38 Al38 rfl (Bd38 Tryz.underlying38) (.nil)) ?_;refine kg 2 ?_;refine t_sw 2 0 [I 0,I 0,I 0,I 0,B false] (.agg #[I 0,I 0,I 0,I 0,B false]) H rfl rfl Sz38 rfl rfl rfl rfl ?_;intro bi H;refine kg 2 ?_;replace H:=H.pk [2];refine W.ret ?_
   have aV:=(H.bl 0)
   have aa:=M.e_pure hM
   exact ⟨_,(resE_ofn (vs:=[.pointer none,.agg #[I 0,I 0,I 0,I 0,B false],I 2]) rfl rfl (.tmp (v:=.pointer none) rfl<|.cell (v:=.agg #[I 0,I 0,I 0,I 0,B false]) rfl (run_loadVar_ag (ds:=[I 0,I 0,I 0,I 0,B false]) Ag38 Sz38 aV rfl rfl)<|.tmp (v:=I 2) rfl<|.nil)),.inl (⟨0,0,0,0,false,2,aa,rfl,(H.pk [])⟩)⟩
  skip
  exact absurd aE (by decide)
 replace hM:=M.e_f hM av;refine kg 7 ?_
 refine W.cond (ai != 0) rfl (fun ak=>?_) (fun ak=>?_)
 ·replace hM:=M.e_t hM ak
  exact (M.e_fail hM).elim
 replace hM:=M.e_f hM ak
 replace ak:=dI ak
 refine kg 2 ?_;refine W.draw (fun W=>St w W [cBlk al [ac,ae,ag,.map (some ap)] 117,cMemI encSpt ap (zaa s_Sections s_Marks s_Reaches),cBlk aN [ac,ae,ag] 27] R) [(0,true),(1,true),(2,true),(3,true),(4,true),(5,true),(6,true),(7,false),(8,true)] mixed (by decide +kernel) rfl ?_;intro bj aF;replace H:=H.ext aF;clear aF
 refine ⟨(H.pk [0,1,3]),?_⟩
 obtain ⟨bm,hM⟩:=M.e_gd hM;refine kg 7 ?_;refine d_l rfl ?_;refine t_sw 2 0 [I ((s_Reaches.getD (Int.toNat reach) default).up),I ((s_Reaches.getD (Int.toNat reach) default).down),I ((s_Reaches.getD (Int.toNat reach) default).lo),I ((s_Reaches.getD (Int.toNat reach) default).hi),B ((s_Reaches.getD (Int.toNat reach) default).narrow)] (.agg #[I ((s_Reaches.getD (Int.toNat reach) default).up),I ((s_Reaches.getD (Int.toNat reach) default).down),I ((s_Reaches.getD (Int.toNat reach) default).lo),I ((s_Reaches.getD (Int.toNat reach) default).hi),B ((s_Reaches.getD (Int.toNat reach) default).narrow)]) H rfl rfl Sz38 rfl rfl rfl rfl ?_;intro bn H
 refine s_nil ⟨(H.pk [0,1,3]),?_⟩
 refine kg 2 ?_;refine W.ret ?_
 have aW:=(H.bl 2)
 have aa:=M.e_pure hM
 exact ⟨_,(resE_ofn (vs:=[Pq al,.agg #[I ((s_Reaches.getD (Int.toNat reach) default).up),I ((s_Reaches.getD (Int.toNat reach) default).down),I ((s_Reaches.getD (Int.toNat reach) default).lo),I ((s_Reaches.getD (Int.toNat reach) default).hi),B ((s_Reaches.getD (Int.toNat reach) default).narrow)],I 0]) rfl rfl (.tmp (v:=Pq al) rfl<|.cell (v:=.agg #[I ((s_Reaches.getD (Int.toNat reach) default).up),I ((s_Reaches.getD (Int.toNat reach) default).down),I ((s_Reaches.getD (Int.toNat reach) default).lo),I ((s_Reaches.getD (Int.toNat reach) default).hi),B ((s_Reaches.getD (Int.toNat reach) default).narrow)]) rfl (run_loadVar_ag (ds:=[I ((s_Reaches.getD (Int.toNat reach) default).up),I ((s_Reaches.getD (Int.toNat reach) default).down),I ((s_Reaches.getD (Int.toNat reach) default).lo),I ((s_Reaches.getD (Int.toNat reach) default).hi),B ((s_Reaches.getD (Int.toNat reach) default).narrow)]) Ag38 Sz38 aW rfl rfl)<|.tmp (v:=I 0) rfl<|.nil)),.inr (⟨((s_Reaches.getD (Int.toNat reach) default).up),((s_Reaches.getD (Int.toNat reach) default).down),((s_Reaches.getD (Int.toNat reach) default).lo),((s_Reaches.getD (Int.toNat reach) default).hi),((s_Reaches.getD (Int.toNat reach) default).narrow),0,al,ap,aa,rfl,(H.pk [0,1])⟩)⟩

def zbh (s:List Int) (f:Int->M Bool):Nat->M (Nat ⊕ (Int ⊕ Unit)):=fun s2 =>
  bif decide ((s2:Int)<(s.length:Int)) then (
  M.grd (decide ((s2:Int)<(s.length:Int))) <|
  M.bind (f (s.getD s2 0)) fun r2 =>
  bif r2 then (
  M.pure (.inr (.inl (s2:Int))))
  else (
  M.pure (.inl (s2+1))))
  else (
  M.pure (.inr (.inr ())))
def zcT (s:List Int) (f:Int->M Bool):M Int :=
  M.bind (M.iter (zbh s f) 0) fun x_=>match x_ with
  | (.inl s3)=>(
  M.pure s3)
  | (.inr (_:Unit))=>(
  M.pure (-1))
theorem zfg {R:List Chunk} {ak:Cells} {ac:Value} {ae:Value} (s:List Int) (f:Int->M Bool) (aA:Reads R ak) (ao:Sl ak ac s) (ap:FnM Tryz.prog R ae f) {r:Int} (hM:(zcT s f).Ends r) (w:World) (H:St w w [] R):Ret Tryz.prog 114 #[ac,ae] w fun v w'=>∃ (y0:Int),y0=r/\v=I y0/\St w w' [] R:=by
 refine ret_of_W Tryz.func114 rfl rfl rfl ?_
 have aB:=(ao).len_le
 refine kg 12 ?_;obtain ⟨aq,ag,al⟩:=M.e_bind hM
 obtain ⟨aC,ag⟩:=M.e_iter ag
 refine W.loop (fun m σ W=>∃ (s2:Nat) (ρ:Env),σ=upds ρ [(0,ac),(1,ae),(7,I (s.length:Int)),(8,I (s2:Int))]/\M.iterN (zbh s f) m s2=some aq/\St w W [] R) ?_ ?_
 ·exact ⟨_,0,_,upds_of _ _ ⟨rfl,rfl,rfl,rfl,trivial⟩,ag,H⟩
 rintro aD σ aE ⟨s2,ρ,rfl,am,H⟩
 obtain ⟨au,av,aF,hM,ah⟩:=M.e_iterN am
 simp only [zbh] at hM
 clear am;refine kg 5 ?_
 refine W.cond (decide ((s2:Int)<(s.length:Int))) rfl (fun aa=>?_) (fun aa=>?_)
 ·replace hM:=M.e_t hM aa
  replace aa:=dI aa
  obtain ⟨aG,hM⟩:=M.e_gd hM;refine kg 15 ?_;obtain ⟨r2,ax,hM⟩:=M.e_bind hM;refine t_callM H ap rfl rfl (s.getD s2 0) Reads.none (Arg.mkI (fun _=>none) _) ax ?_;intro aH H;refine s_nil ?_
  refine W.cond r2 rfl (fun ai=>?_) (fun ai=>?_)
  ·replace hM:=M.e_t hM ai;refine kg 5 ?_;refine W.ret ?_
   have ay:=M.e_inr hM ah
   subst ay;replace hM:=al;(try dsimp only at hM)
   have aj:=M.e_pure hM
   exact ⟨_,resE_tmp rfl,⟨(s2:Int),aj,rfl,H⟩⟩
  replace hM:=M.e_f hM ai;refine kg 5 ?_
  exact ⟨au,av,s2+1,_,upds_of _ _ ⟨rfl,rfl,rfl,rfl,trivial⟩,M.e_inl hM ah,H⟩
 replace hM:=M.e_f hM aa
 replace aa:=dI aa
 refine W.exit ?_
 have az:=M.e_inr hM ah
 subst az;replace hM:=al;(try dsimp only at hM);refine kg 4 ?_;refine W.ret ?_
 have aj:=M.e_pure hM
 exact ⟨_,resE_tmp rfl,⟨(-1),aj,rfl,H⟩⟩

def zcE (s:List Int) (f:Int->M Bool):M Bool :=
  M.bind (zcT s f) fun r2 =>
  M.pure (decide (0<=r2))
theorem zff {R:List Chunk} {ae:Cells} {aa:Value} {ac:Value} (s:List Int) (f:Int->M Bool) (ah:Reads R ae) (ai:Sl ae aa s) (aj:FnM Tryz.prog R ac f) {r:Bool} (hM:(zcE s f).Ends r) (w:World) (H:St w w [] R):Ret Tryz.prog 82 #[aa,ac] w fun v w'=>∃ (y0:Bool),y0=r/\v=B y0/\St w w' [] R:=by
 refine ret_of_W Tryz.func82 rfl rfl rfl ?_;refine kg 8 ?_;obtain ⟨am,ak,hM⟩:=M.e_bind hM;refine s_call cf114 [aa,ac] rfl (zfg s f (ah.app _) ai (aj.app _) ak _ (H.gt 0)) ?_
 rintro vq ao ⟨r2,rfl,hvq,ag⟩
 subst vq;(try dsimp only at hM);replace H:=H.bk ag;clear ag;refine kg 3 ?_;refine W.ret ?_
 have al:=M.e_pure hM
 exact ⟨_,resE_tmp rfl,⟨(decide (0<=r2)),al,rfl,H⟩⟩

def zb3 (x:Int) (aa:Int->M Bool):M Bool :=
  M.bind (aa x) fun r2 =>
  M.pure (!r2)
theorem zfo {R:List Chunk} {aa:Nat} {ac:Value} (x:Int) (ae:Int->M Bool) (ag:FnM Tryz.prog R ac ae) (aj:Has R (cBlk aa [ac] 124)) {r:Bool} (hM:(zb3 x ae).Ends r) (w:World) (H:St w w [] R):Ret Tryz.prog 83 #[I x,Pq aa] w fun v w'=>∃ (y0:Bool),y0=r/\v=B y0/\St w w' [] R:=by
 refine ret_of_W Tryz.func83 rfl rfl rfl ?_;refine kg 8 ?_;obtain ⟨r2,ah,hM⟩:=M.e_bind hM;refine t_callM H ag rfl rfl x Reads.none (Arg.mkI (fun _=>none) _) ah ?_;intro ak H;refine kg 3 ?_;refine W.ret ?_
 have ai:=M.e_pure hM
 exact ⟨_,resE_tmp rfl,⟨(!r2),ai,rfl,H⟩⟩

def zaw (l:List Int) (so:Int->M Bool):M Bool :=
  M.bind (zcE l (fun aa=>zb3 aa so)) fun r2 =>
  M.pure (!r2)
theorem zcf {R:List Chunk} {ah:Cells} {ac:Value} {aa:Value} (l:List Int) (so:Int->M Bool) (al:Reads R ah) (am:Sl ah ac l) (ai:FnM Tryz.prog R aa so) {r:Bool} (hM:(zaw l so).Ends r) (w:World) (H:St w w [] R):Ret Tryz.prog 46 #[ac,aa] w fun v w'=>∃ (y0:Bool),y0=r/\v=B y0/\St w w' [] R:=by
 refine ret_of_W Tryz.func46 rfl rfl rfl ?_;refine kg 2 ?_;refine t_box (v:=aa) (cs:=[aa]) H rfl (FnM.cells ai) ?_;intro ae aB H;refine kg 5 ?_;refine s_val (x_mf (fs:=[]) (cs:=[Pq ae]) rfl rfl) ?_;obtain ⟨aC,ao,hM⟩:=M.e_bind hM;refine s_call cf82 [ac,.func (.func 83) #[] #[Pq ae]] rfl (zff l (fun ag=>zb3 ag so) (al.app _) am ⟨83,[Pq ae],rfl,cf83,fun aj aD aE ap ag aF aq aG au av=>by obtain rfl:=Arg.int au; exact (zfo ag so (FnM.app (ai.app _) _) (Has.app (Has.here (k:=0) rfl) _) av aj (St.refl aq)).mono fun ap aj ⟨aH,ax,ay,az⟩=>by subst ax; exact ⟨ay,az⟩⟩ ao _ (H.gt 1)) ?_
 rintro vq aI ⟨r2,rfl,hvq,ak⟩
 subst vq;(try dsimp only at hM);replace H:=H.bk ak;clear ak;refine kg 3 ?_;refine W.ret ?_
 have aA:=M.e_pure hM
 exact ⟨_,resE_tmp rfl,⟨(!r2),aA,rfl,(H.pk [])⟩⟩

def zaj (ac:List Sect) (aa:List Mrk) (ae:List Rch) (a b:Int):M Bool :=
  M.grd (decide ((0:Int)<=a)&&decide (a<(aa.length:Int))) <|
  M.grd (decide ((0:Int)<=b)&&decide (b<(aa.length:Int))) <|
  M.pure ((decide (((aa.getD (Int.toNat a) default).place)<=((aa.getD (Int.toNat b) default).place)))&&(decide (((aa.getD (Int.toNat a) default).hi)<((aa.getD (Int.toNat b) default).lo))))
theorem zax {R:List Chunk} {ac:Nat} {ae:Cells} {ag:Value} {ah:Cells} {ai:Value} {aj:Cells} {ak:Value} {ap:Nat} (al:List Sect) (aa:List Mrk) (am:List Rch) (a:Int) (b:Int) (au:Reads R ae) (av:Sl ae ag al) (ax:Reads R ah) (ay:Sl ah ai aa) (az:Reads R aj) (aA:Sl aj ak am) (aB:Has R (cBlk ac [ag,ai,ak,.map (some ap)] 117)) {r:Bool} (hM:(zaj al aa am a b).Ends r) (w:World) (H:St w w [] R):Ret Tryz.prog 49 #[Pq ac,I a,I b] w fun v w'=>∃ (y0:Bool),y0=r/\v=B y0/\St w w' [] R:=by
 refine ret_of_W Tryz.func49 rfl rfl rfl ?_;refine kg 5 ?_;refine W.draw (fun W=>St w W [] R) [(0,true),(1,true),(2,true),(3,true),(4,true),(5,true),(6,true),(7,true),(8,true),(9,true),(10,true),(11,true),(12,true),(13,true),(14,true),(15,true),(16,true),(17,true),(18,true),(19,true),(20,true),(21,true),(22,true),(23,true),(24,true),(25,true),(26,true),(27,true),(28,true),(29,true),(30,true),(31,true),(32,true),(33,true),(34,true),(35,true),(36,true),(37,true),(38,true),(39,true),(40,true),(41,true),(42,true)] mixed (by decide +kernel) rfl ?_;intro aC ao;replace H:=H.ext ao;clear ao
 refine ⟨(H.pk []),?_⟩
 obtain ⟨aD,hM⟩:=M.e_gd hM;obtain ⟨aE,hM⟩:=M.e_gd hM;refine kg 41 ?_;refine d_q rfl (fun w' H=>x_pand (b:=decide (((aa.getD (Int.toNat a) default).place)<=((aa.getD (Int.toNat b) default).place))) (r:=decide (((aa.getD (Int.toNat a) default).hi)<((aa.getD (Int.toNat b) default).lo))) rfl (fun hb=>gd_of (c:=decide (((aa.getD (Int.toNat a) default).place)<=((aa.getD (Int.toNat b) default).place))) (by first | exact hb | (rw [hb]; rfl) | simp_all) (B (decide (((aa.getD (Int.toNat a) default).hi)<((aa.getD (Int.toNat b) default).lo))))) rfl) ?_;refine kg 2 ?_;refine W.ret ?_
 have aq:=M.e_pure hM
 exact ⟨_,resE_tmp rfl,⟨((decide (((aa.getD (Int.toNat a) default).place)<=((aa.getD (Int.toNat b) default).place)))&&(decide (((aa.getD (Int.toNat a) default).hi)<((aa.getD (Int.toNat b) default).lo)))),aq,rfl,H⟩⟩

def zb2 (b:Int) (aa:List Sect) (ac:List Mrk) (ae:List Rch) (ag:Int):M Bool :=
  M.bind (zaj aa ac ae ag b) fun r2 =>
  M.pure (!r2)
theorem zeX {R:List Chunk} {ai:Nat} {ac:Nat} {aj:Cells} {ak:Value} {al:Cells} {am:Value} {ao:Cells} {ap:Value} {av:Nat} {aq:Nat} (b:Int) (ae:List Sect) (ag:List Mrk) (ah:List Rch) (aa:Int) (ax:Reads R aj) (ay:Sl aj ak ae) (az:Reads R al) (aA:Sl al am ag) (aB:Reads R ao) (aC:Sl ao ap ah) (aD:Has R (cBlk ac [ak,am,ap,.map (some av)] 117)) (aG:Has R (cBlk ai [Pq ac] 83)) (aH:Has R (cBlk aq [I aa] 3)) {r:Bool} (hM:(zb2 b ae ag ah aa).Ends r) (w:World) (H:St w w [] R):Ret Tryz.prog 48 #[I b,Pq ai,Pq aq] w fun v w'=>∃ (y0:Bool),y0=r/\v=B y0/\St w w' [] R:=by
 refine ret_of_W Tryz.func48 rfl rfl rfl ?_;refine kg 9 ?_;obtain ⟨aI,aE,hM⟩:=M.e_bind hM;refine s_call cf49 [Pq ac,I aa,I b] rfl (zax ae ag ah aa b (ax.app _) ay (az.app _) aA (aB.app _) aC (aD.app _) aE _ (H.gt 0)) ?_
 rintro vq aJ ⟨r2,rfl,hvq,au⟩
 subst vq;(try dsimp only at hM);replace H:=H.bk au;clear au;refine kg 3 ?_;refine W.ret ?_
 have aF:=M.e_pure hM
 exact ⟨_,resE_tmp rfl,⟨(!r2),aF,rfl,H⟩⟩

def zbQ (a:Int) (aa:List Int) (ac:List Sect) (ae:List Mrk) (ag:List Rch):M Bool :=
  M.bind (zaw aa (fun ah=>zb2 ah ac ae ag a)) fun r2 =>
  M.pure r2
theorem zeE {R:List Chunk} {al:Nat} {am:Cells} {ah:Value} {aa:Nat} {ao:Nat} {ap:Cells} {aq:Value} {au:Cells} {av:Value} {ax:Cells} {ay:Value} {aB:Nat} (a:Int) (ai:List Int) (ac:List Sect) (ae:List Mrk) (ag:List Rch) (aC:Reads R am) (aD:Sl am ah ai) (aV:Has R (cBlk al [ah] 28)) (aE:Reads R ap) (aF:Sl ap aq ac) (aG:Reads R au) (aH:Sl au av ae) (aI:Reads R ax) (aJ:Sl ax ay ag) (aK:Has R (cBlk ao [aq,av,ay,.map (some aB)] 117)) (aL:Has R (cBlk aa [Pq ao] 83)) {r:Bool} (hM:(zbQ a ai ac ae ag).Ends r) (w:World) (H:St w w [] R):Ret Tryz.prog 47 #[I a,Pq al,Pq aa] w fun v w'=>∃ (y0:Bool),y0=r/\v=B y0/\St w w' [] R:=by
 refine ret_of_W Tryz.func47 rfl rfl rfl ?_;refine kg 2 ?_;refine t_b1 (I a) H rfl rfl ?_;intro aj aW H;refine kg 5 ?_;refine s_val (x_mf (fs:=[]) (cs:=[Pq aa,Pq aj]) rfl rfl) ?_;obtain ⟨aX,aM,hM⟩:=M.e_bind hM;refine s_call cf46 [ah,.func (.func 48) #[] #[Pq aa,Pq aj]] rfl (zcf ai (fun ak=>zb2 ak ac ae ag a) (aC.app _) aD ⟨48,[Pq aa,Pq aj],rfl,cf48,fun az aY aZ aN ak a7 aO a8 aP aQ=>by obtain rfl:=Arg.int aP; exact (zeX ak ac ae ag a (Reads.app (aE.app _) _) aF (Reads.app (aG.app _) _) aH (Reads.app (aI.app _) _) aJ (Has.app (aK.app _) _) (Has.app (aL.app _) _) (Has.app (Has.here (k:=0) rfl) _) aQ az (St.refl aO)).mono fun aN az ⟨ba,aR,aS,aT⟩=>by subst aR; exact ⟨aS,aT⟩⟩ aM _ (H.gt 1)) ?_
 rintro vq bb ⟨r2,rfl,hvq,aA⟩
 subst vq;(try dsimp only at hM);replace H:=H.bk aA;clear aA;refine kg 2 ?_;refine W.ret ?_
 have aU:=M.e_pure hM
 exact ⟨_,resE_tmp rfl,⟨r2,aU,rfl,(H.pk [])⟩⟩

def zbf (aa:List Sect) (ac:List Mrk) (ae:List Rch) (marks:List Int):M Bool :=
  M.bind (zaw marks (fun ag=>zbQ ag marks aa ac ae)) fun r2 =>
  M.pure r2
theorem zdv {R:List Chunk} {ah:Nat} {am:Cells} {ao:Value} {ap:Cells} {aq:Value} {au:Cells} {av:Value} {aB:Nat} {ax:Cells} {aa:Value} (ac:List Sect) (ae:List Mrk) (ag:List Rch) (marks:List Int) (aC:Reads R am) (aD:Sl am ao ac) (aE:Reads R ap) (aF:Sl ap aq ae) (aG:Reads R au) (aH:Sl au av ag) (aI:Has R (cBlk ah [ao,aq,av,.map (some aB)] 117)) (ay:Reads R ax) (ai:Sl ax aa marks) {r:Bool} (hM:(zbf ac ae ag marks).Ends r) (w:World) (H:St w w [] R):Ret Tryz.prog 24 #[Pq ah,aa] w fun v w'=>∃ (y0:Bool),y0=r/\v=B y0/\St w w' [] R:=by
 refine ret_of_W Tryz.func24 rfl rfl rfl ?_;refine kg 2 ?_;refine t_b1 (Pq ah) H rfl rfl ?_;intro aj aS H;refine t_box (v:=aa) (cs:=[aa]) H rfl (Sl.cells ai) ?_;intro ak aT H;refine kg 5 ?_;refine s_val (x_mf (fs:=[]) (cs:=[Pq ak,Pq aj]) rfl rfl) ?_;obtain ⟨aU,aJ,hM⟩:=M.e_bind hM;refine s_call cf46 [aa,.func (.func 47) #[] #[Pq ak,Pq aj]] rfl (zcf marks (fun al=>zbQ al marks ac ae ag) (ay.app _) ai ⟨47,[Pq ak,Pq aj],rfl,cf47,fun az aV aW aK al aX aL aY aM aN=>by obtain rfl:=Arg.int aM; exact (zeE al marks ac ae ag (Reads.app (ay.app _) _) ai (Has.app (Has.here (k:=0) rfl) _) (Reads.app (aC.app _) _) aD (Reads.app (aE.app _) _) aF (Reads.app (aG.app _) _) aH (Has.app (aI.app _) _) (Has.app (Has.here (k:=1) rfl) _) aN az (St.refl aL)).mono fun aK az ⟨aZ,aO,aP,aQ⟩=>by subst aO; exact ⟨aP,aQ⟩⟩ aJ _ (H.gt 2)) ?_
 rintro vq a7 ⟨r2,rfl,hvq,aA⟩
 subst vq;(try dsimp only at hM);replace H:=H.bk aA;clear aA;refine kg 2 ?_;replace H:=H.pk [];refine W.ret ?_
 have aR:=M.e_pure hM
 exact ⟨_,resE_tmp rfl,⟨r2,aR,rfl,H⟩⟩

def zaz (s_Sections:List Sect) (s_Marks:List Mrk) (s_Reaches:List Rch) (marks:List Int) (reach:Int):M (Int × Int × Int) :=
  M.bind (zbY s_Sections s_Marks s_Reaches marks reach) fun x_=>match x_ with
  | (.inl (aj,ak,al,am,ao,r2))=>(
  bif r2 != 0 then (
  M.pure (0,0,r2))
  else (
  M.fail))
  | (.inr (aa,ac,ae,ag,ah,ai))=>(
  bif ai != 0 then (
  M.fail)
  else (
  M.bind (zbf s_Sections s_Marks s_Reaches marks) fun r3 =>
  bif !r3 then (
  M.pure (0,0,7))
  else (
  M.bind (zcq s_Sections s_Marks s_Reaches marks (⟨(aa:Int),(ac:Int),(ae:Int),(ag:Int),ah⟩:Rch)) fun (r0,r1) =>
  M.pure (r0,r1,0))))
theorem zaV {R:List Chunk} {aE:Cells} {ai:Value} {aF:Cells} {aj:Value} {aG:Cells} {ak:Value} {aH:Cells} {ac:Value} (s_Sections:List Sect) (s_Marks:List Mrk) (s_Reaches:List Rch) (marks:List Int) (reach:Int) (au:Reads R aE) (av:Sl aE ai s_Sections) (ax:Reads R aF) (ay:Sl aF aj s_Marks) (az:Reads R aG) (aA:Sl aG ak s_Reaches) (aB:Reads R aH) (aC:Sl aH ac marks) {r:(Int × Int × Int)} (hM:(zaz s_Sections s_Marks s_Reaches marks reach).Ends r) (w:World) (H:St w w [] R):Ret Tryz.prog 7 #[.agg #[ai,aj,ak],ac,I reach] w fun v w'=>∃ (y0:Int) (y1:Int) (y2:Int),(y0,y1,y2)=r/\v = .tuple #[.agg #[I y0,I y1],I y2]/\St w w' [] R:=by
 refine ret_of_W Tryz.func7 rfl rfl rfl ?_;refine kg 2 ?_;refine t_bx [ai,aj,ak] H rfl ?_;intro aY aZ H;refine t_alloc (cs:=[I 0,I 0]) H Al36 rfl ?_;intro a7 a8 H;refine kg 7 ?_;obtain ⟨ba,aO,hM⟩:=M.e_bind hM;refine s_call cf23 [.agg #[ai,aj,ak],ac,I reach] rfl (zeu s_Sections s_Marks s_Reaches marks reach (au.app _) av (ax.app _) ay (az.app _) aA (aB.app _) aC aO _ (H.gt 2)) ?_
 rintro vq bb (⟨aI,aJ,aK,aL,aM,r2,aP,hvq,aa⟩ | ⟨al,am,ao,ap,aq,aQ,aN,bc,aR,hvq,aa⟩)
 ·subst aP;subst vq;(try dsimp only at hM);replace H:=H.bk aa;clear aa;refine kg 4 ?_;refine t_alloc (cs:=[I 0,I 0,I 0,I 0,B false]) H Al38 rfl ?_;intro aS bf H;refine kg 1 ?_;refine t_sw 0 0 [I aI,I aJ,I aK,I aL,B aM] (.agg #[I aI,I aJ,I aK,I aL,B aM]) H rfl rfl Sz38 rfl rfl rfl rfl ?_;intro bg H;refine kg 10 ?_
  refine W.cond (r2 != 0) rfl (fun ae=>?_) (fun ae=>?_)
  ·replace hM:=M.e_t hM ae
   replace ae:=dI ae
   refine kg 2 ?_;refine s_val (x_bld (ps:=[]) (zs:=[I 0,I 0]) (L':=[I 0,I 0]) rfl Tryz.underlying36 Al36 rfl (Bd36 Tryz.underlying36) (.nil)) ?_;refine kg 1 ?_;refine t_sw 1 0 [I 0,I 0] (.agg #[I 0,I 0]) H rfl rfl Sz36 rfl rfl rfl rfl ?_;intro bh H;refine kg 2 ?_;replace H:=H.pk [1];refine W.ret ?_
   have aT:=(H.bl 0)
   have ag:=M.e_pure hM
   exact ⟨_,(resE_ofn (vs:=[.agg #[I 0,I 0],I r2]) rfl rfl (.cell (v:=.agg #[I 0,I 0]) rfl (run_loadVar_ag (ds:=[I 0,I 0]) Ag36 Sz36 aT rfl rfl)<|.tmp (v:=I r2) rfl<|.nil)),⟨0,0,r2,ag,rfl,(H.pk [])⟩⟩
  replace hM:=M.e_f hM ae
  exact (M.e_fail hM).elim
 subst aR;subst vq;(try dsimp only at hM);replace H:=H.bk aa;clear aa;refine kg 4 ?_;refine t_alloc (cs:=[I 0,I 0,I 0,I 0,B false]) H Al38 rfl ?_;intro aS bi H;refine kg 1 ?_;refine t_sw 0 0 [I al,I am,I ao,I ap,B aq] (.agg #[I al,I am,I ao,I ap,B aq]) H rfl rfl Sz38 rfl rfl rfl rfl ?_;intro bj H;refine kg 10 ?_
 refine W.cond (aQ != 0) rfl (fun ah=>?_) (fun ah=>?_)
 ·replace hM:=M.e_t hM ah
  exact (M.e_fail hM).elim
 replace hM:=M.e_f hM ah
 replace ah:=dI ah
 refine kg 4 ?_;obtain ⟨bm,aU,hM⟩:=M.e_bind hM;refine s_call cf24 [Pq aN,ac] rfl (zdv s_Sections s_Marks s_Reaches marks (au.app _) av (ax.app _) ay (az.app _) aA (Has.here (k:=1) rfl) (aB.app _) aC aU _ (H.gt 5)) ?_
 rintro vq bn ⟨r3,rfl,hvq,aa⟩
 subst vq;(try dsimp only at hM);replace H:=H.bk aa;clear aa;refine kg 3 ?_
 refine W.cond (!r3) rfl (fun aD=>?_) (fun aD=>?_)
 ·replace hM:=M.e_t hM aD;refine kg 2 ?_;refine s_val (x_bld (ps:=[]) (zs:=[I 0,I 0]) (L':=[I 0,I 0]) rfl Tryz.underlying36 Al36 rfl (Bd36 Tryz.underlying36) (.nil)) ?_;refine t_sw 3 0 [I 0,I 0] (.agg #[I 0,I 0]) H rfl rfl Sz36 rfl rfl rfl rfl ?_;intro bo H;refine kg 2 ?_;replace H:=H.pk [3];refine W.ret ?_
  have aV:=(H.bl 0)
  have ag:=M.e_pure hM
  exact ⟨_,(resE_ofn (vs:=[.agg #[I 0,I 0],I 7]) rfl rfl (.cell (v:=.agg #[I 0,I 0]) rfl (run_loadVar_ag (ds:=[I 0,I 0]) Ag36 Sz36 aV rfl rfl)<|.tmp (v:=I 7) rfl<|.nil)),⟨0,0,7,ag,rfl,(H.pk [])⟩⟩
 replace hM:=M.e_f hM aD;refine kg 6 ?_;obtain ⟨bp,aW,hM⟩:=M.e_bind hM;refine s_call cf25 [Pq aN,ac,.agg #[I al,I am,I ao,I ap,B aq]] rfl (zeU s_Sections s_Marks s_Reaches marks (⟨(al:Int),(am:Int),(ao:Int),(ap:Int),aq⟩:Rch) (au.app _) av (ax.app _) ay (az.app _) aA (Has.here (k:=1) rfl) (aB.app _) aC aW _ ((H.pk [2,0,1,3,4]).gt 4)) ?_
 rintro vq br ⟨r0,r1,rfl,hvq,aa⟩
 subst vq;(try dsimp only at hM)
 replace H:=H.pk [2,0,1,3,4] |>.bk aa
 clear aa;refine t_sw 3 0 [I r0,I r1] (.agg #[I r0,I r1]) H rfl rfl Sz36 rfl rfl rfl rfl ?_;intro bt H;refine kg 2 ?_;replace H:=H.pk [3];refine W.ret ?_
 have aX:=(H.bl 0)
 have ag:=M.e_pure hM
 exact ⟨_,(resE_ofn (vs:=[.agg #[I r0,I r1],I 0]) rfl rfl (.cell (v:=.agg #[I r0,I r1]) rfl (run_loadVar_ag (ds:=[I r0,I r1]) Ag36 Sz36 aX rfl rfl)<|.tmp (v:=I 0) rfl<|.nil)),⟨r0,r1,0,ag,rfl,(H.pk [])⟩⟩

def zda (c:Cas) (r_:Rch):M Bool :=
  M.bind (zab c.up 0 2000) fun r2 =>
  M.bind (M.opt r2 (zab c.down 0 c.up) false) fun r3 =>
  M.bind (M.opt (r2&&r3) (zab c.roughup r_.lo r_.hi) false) fun r4 =>
  M.bind (M.opt ((r2&&r3)&&r4) (zab c.roughdown r_.lo r_.hi) false) fun r5 =>
  M.pure (((r2&&r3)&&r4)&&r5)
theorem zes {R:List Chunk}  (c:Cas) (r_:Rch)  {r:Bool} (hM:(zda c r_).Ends r) (w:World) (H:St w w [] R):Ret Tryz.prog 21 #[.agg #[I c.up,I c.down,I c.roughup,I c.roughdown],.agg #[I r_.up,I r_.down,I r_.lo,I r_.hi,B r_.narrow]] w fun v w'=>∃ (y0:Bool),y0=r/\v=B y0/\St w w' [] R:=by
 refine ret_of_W Tryz.func21 rfl rfl rfl ?_;refine kg 2 ?_;refine t_bx [I c.up,I c.down,I c.roughup,I c.roughdown] H rfl ?_;intro ak al H;refine t_bx [I r_.up,I r_.down,I r_.lo,I r_.hi,B r_.narrow] H rfl ?_;intro am ao H;refine kg 6 ?_;obtain ⟨ap,ag,hM⟩:=M.e_bind hM;refine s_call cf20 [I c.up,I 0,I 2000] rfl (zae c.up 0 2000 ag _ (H.gt 2)) ?_
 rintro vq aq ⟨r2,rfl,hvq,ae⟩
 subst vq;(try dsimp only at hM);replace H:=H.bk ae;clear ae;refine kg 5 ?_;obtain ⟨r3,ah,hM⟩:=M.e_bind hM;refine t_gcall r2 (gy_t rfl) cf20 (B r3) (fun _=>[I c.down,I 0,I c.up]) (fun hg=>lst3 (gd_of hg (I c.down)) rfl (gd_of hg (I c.up))) H (fun hg=>(zae c.down 0 c.up (M.e_opt ah hg) _ (H.give (A:=[]) rfl)).mono fun v_ w_ ⟨y_,aa,ac,H_⟩=>by subst aa; exact ⟨ac,H.via H_⟩) ?_;intro au H;refine s_val (x_pand (b:=r2) (r:=r3) rfl (fun hb=>gd_of (c:=r2) (by first | exact hb | (rw [hb]; rfl) | simp_all) (B r3)) rfl) ?_;refine kg 9 ?_;obtain ⟨r4,ai,hM⟩:=M.e_bind hM;refine t_gcall (r2&&r3) (gy_t rfl) cf20 (B r4) (fun _=>[I c.roughup,I r_.lo,I r_.hi]) (fun hg=>lst3 (gd_of hg (I c.roughup)) (gd_of hg (I r_.lo)) (gd_of hg (I r_.hi))) H (fun hg=>(zae c.roughup r_.lo r_.hi (M.e_opt ai hg) _ (H.give (A:=[]) rfl)).mono fun v_ w_ ⟨y_,aa,ac,H_⟩=>by subst aa; exact ⟨ac,H.via H_⟩) ?_;intro av H;refine s_val (x_pand (b:=(r2&&r3)) (r:=r4) rfl (fun hb=>gd_of (c:=(r2&&r3)) (by first | exact hb | (rw [hb]; rfl) | simp_all) (B r4)) rfl) ?_;refine kg 9 ?_;obtain ⟨r5,aj,hM⟩:=M.e_bind hM;refine t_gcall ((r2&&r3)&&r4) (gy_t rfl) cf20 (B r5) (fun _=>[I c.roughdown,I r_.lo,I r_.hi]) (fun hg=>lst3 (gd_of hg (I c.roughdown)) (gd_of hg (I r_.lo)) (gd_of hg (I r_.hi))) H (fun hg=>(zae c.roughdown r_.lo r_.hi (M.e_opt aj hg) _ (H.give (A:=[]) rfl)).mono fun v_ w_ ⟨y_,aa,ac,H_⟩=>by subst aa; exact ⟨ac,H.via H_⟩) ?_;intro ax H;refine s_val (x_pand (b:=((r2&&r3)&&r4)) (r:=r5) rfl (fun hb=>gd_of (c:=((r2&&r3)&&r4)) (by first | exact hb | (rw [hb]; rfl) | simp_all) (B r5)) rfl) ?_;refine kg 2 ?_;replace H:=H.pk [];refine W.ret ?_
 have aa:=M.e_pure hM
 exact ⟨_,resE_tmp rfl,⟨(((r2&&r3)&&r4)&&r5),aa,rfl,H⟩⟩

def zbb (s_Sections:List Sect) (s_Marks:List Mrk) (s_Reaches:List Rch) (reach:Int) (c:Cas):M (Int × Int) :=
  M.bind (zar s_Sections s_Marks s_Reaches) fun x_=>match x_ with
  | (.inl r1)=>(
  bif r1 != 0 then (
  M.pure (0,r1))
  else (
  M.fail))
  | (.inr aa)=>(
  bif aa != 0 then (
  M.fail)
  else (
  M.bind (zab reach 0 ((s_Reaches.length:Int)-1)) fun r2 =>
  bif !r2 then (
  M.pure (0,2))
  else (
  M.grd (decide ((0:Int)<=reach)&&decide (reach<(s_Reaches.length:Int))) <|
  M.bind (zda c (s_Reaches.getD (Int.toNat reach) default)) fun r3 =>
  bif !r3 then (
  M.pure (0,4))
  else (
  M.bind (zaK s_Sections s_Marks s_Reaches (s_Reaches.getD (Int.toNat reach) default) c) fun r4 =>
  M.pure (r4,0)))))
theorem zdu {R:List Chunk} {au:Cells} {ac:Value} {av:Cells} {ae:Value} {ax:Cells} {ag:Value} (s_Sections:List Sect) (s_Marks:List Mrk) (s_Reaches:List Rch) (reach:Int) (c:Cas) (ay:Reads R au) (az:Sl au ac s_Sections) (aA:Reads R av) (aB:Sl av ae s_Marks) (aC:Reads R ax) (al:Sl ax ag s_Reaches) {r:(Int × Int)} (hM:(zbb s_Sections s_Marks s_Reaches reach c).Ends r) (w:World) (H:St w w [] R):Ret Tryz.prog 6 #[.agg #[ac,ae,ag],I reach,.agg #[I c.up,I c.down,I c.roughup,I c.roughdown]] w fun v w'=>∃ (y0:Int) (y1:Int),(y0,y1)=r/\v = .tuple #[I y0,I y1]/\St w w' [] R:=by
 refine ret_of_W Tryz.func6 rfl rfl rfl ?_;refine kg 2 ?_;refine t_bx [ac,ae,ag] H rfl ?_;intro aD aM H;refine t_bx [I c.up,I c.down,I c.roughup,I c.roughdown] H rfl ?_;intro aE aN H;refine kg 6 ?_;obtain ⟨aO,aF,hM⟩:=M.e_bind hM;refine s_call cf19 [.agg #[ac,ae,ag]] rfl (zbo s_Sections s_Marks s_Reaches (ay.app _) az (aA.app _) aB (aC.app _) al aF _ (H.gt 2)) ?_
 rintro vq aP (⟨r1,aG,hvq,aa⟩ | ⟨aH,am,ao,aI,hvq,aa⟩)
 ·subst aG;subst vq;(try dsimp only at hM);replace H:=H.bk aa;clear aa;refine kg 14 ?_
  refine W.cond (r1 != 0) rfl (fun ai=>?_) (fun ai=>?_)
  ·replace hM:=M.e_t hM ai
   replace ai:=dI ai
   refine kg 6 ?_;replace H:=H.pk [];refine W.ret ?_
   have ah:=M.e_pure hM
   exact ⟨_,resE_tmp2 rfl,⟨0,r1,ah,rfl,H⟩⟩
  replace hM:=M.e_f hM ai
  exact (M.e_fail hM).elim
 subst aI;subst vq;(try dsimp only at hM);replace H:=H.bk aa;clear aa;refine kg 14 ?_
 refine W.cond (aH != 0) rfl (fun aj=>?_) (fun aj=>?_)
 ·replace hM:=M.e_t hM aj
  exact (M.e_fail hM).elim
 replace hM:=M.e_f hM aj
 replace aj:=dI aj
 have aQ:=(al).len_le
 refine kg 7 ?_;obtain ⟨aR,aJ,hM⟩:=M.e_bind hM;refine s_call cf20 [I reach,I 0,I ((s_Reaches.length:Int)-1)] rfl (zae reach 0 ((s_Reaches.length:Int)-1) aJ _ (H.gt 4)) ?_
 rintro vq aS ⟨r2,rfl,hvq,aa⟩
 subst vq;(try dsimp only at hM);replace H:=H.bk aa;clear aa;refine kg 3 ?_
 refine W.cond (!r2) rfl (fun ap=>?_) (fun ap=>?_)
 ·replace hM:=M.e_t hM ap;refine kg 5 ?_;replace H:=H.pk [];refine W.ret ?_
  have ah:=M.e_pure hM
  exact ⟨_,resE_tmp2 rfl,⟨0,2,ah,rfl,H⟩⟩
 replace hM:=M.e_f hM ap;refine W.seq ?_;refine W.draw (fun W=>St w W [cBlk am [ac,ae,ag,.map (some ao)] 117,cMemI encSpt ao (zaa s_Sections s_Marks s_Reaches),cBlk aE [I c.up,I c.down,I c.roughup,I c.roughdown] 43,cBlk aD [ac,ae,ag] 27] R) [(0,true),(1,true),(2,true),(3,true),(4,true),(5,true),(6,false),(7,true),(8,true)] mixed (by decide +kernel) rfl ?_;intro aT ak;replace H:=H.ext ak;clear ak
 refine ⟨(H.pk [0,1,2,3]),?_⟩
 obtain ⟨aU,hM⟩:=M.e_gd hM;refine kg 6 ?_;refine d_l rfl ?_;obtain ⟨aV,aK,hM⟩:=M.e_bind hM;refine s_call cf21 [.agg #[I c.up,I c.down,I c.roughup,I c.roughdown],.agg #[I ((s_Reaches.getD (Int.toNat reach) default).up),I ((s_Reaches.getD (Int.toNat reach) default).down),I ((s_Reaches.getD (Int.toNat reach) default).lo),I ((s_Reaches.getD (Int.toNat reach) default).hi),B ((s_Reaches.getD (Int.toNat reach) default).narrow)]] rfl (zes c (s_Reaches.getD (Int.toNat reach) default) aK _ (H.gt 4)) ?_
 rintro vq aW ⟨r3,rfl,hvq,aa⟩
 subst vq;(try dsimp only at hM);replace H:=H.bk aa;clear aa
 refine s_nil ⟨(H.pk [0,1,2,3]),?_⟩
 refine kg 3 ?_
 refine W.cond (!r3) rfl (fun aq=>?_) (fun aq=>?_)
 ·replace hM:=M.e_t hM aq;refine kg 5 ?_;replace H:=H.pk [];refine W.ret ?_
  have ah:=M.e_pure hM
  exact ⟨_,resE_tmp2 rfl,⟨0,4,ah,rfl,H⟩⟩
 replace hM:=M.e_f hM aq;refine kg 2 ?_;refine W.draw (fun W=>St w W [cBlk am [ac,ae,ag,.map (some ao)] 117,cBlk aE [I c.up,I c.down,I c.roughup,I c.roughdown] 43,cBlk aD [ac,ae,ag] 27] R) [(0,true),(1,true),(2,true),(3,true),(4,true),(5,true),(6,true),(7,false),(8,true),(9,true)] mixed (by decide +kernel) rfl ?_;intro aX ak;replace H:=H.ext ak;clear ak
 refine ⟨(H.pk [0,2,3]),?_⟩
 refine kg 7 ?_;refine d_l rfl ?_;obtain ⟨aY,aL,hM⟩:=M.e_bind hM;refine s_call cf22 [Pq am,.agg #[I ((s_Reaches.getD (Int.toNat reach) default).up),I ((s_Reaches.getD (Int.toNat reach) default).down),I ((s_Reaches.getD (Int.toNat reach) default).lo),I ((s_Reaches.getD (Int.toNat reach) default).hi),B ((s_Reaches.getD (Int.toNat reach) default).narrow)],.agg #[I c.up,I c.down,I c.roughup,I c.roughdown]] rfl (zdi s_Sections s_Marks s_Reaches (s_Reaches.getD (Int.toNat reach) default) c (ay.app _) az (aA.app _) aB (aC.app _) al (Has.here (k:=0) rfl) aL _ ((H.pk [1,0,2,3]).gt 3)) ?_
 rintro vq aZ ⟨r4,rfl,hvq,aa⟩
 subst vq;(try dsimp only at hM)
 replace H:=H.pk [1,0,2,3] |>.bk aa
 clear aa
 refine s_nil ⟨(H.pk [1,2,3]),?_⟩
 refine kg 3 ?_;replace H:=H.pk [];refine W.ret ?_
 have ah:=M.e_pure hM
 exact ⟨_,resE_tmp2 rfl,⟨r4,0,ah,rfl,H⟩⟩

def zdk (s_Sections:List Sect) (s_Marks:List Mrk) (s_Reaches:List Rch) (marks:List Int):(Nat × (List Span))->M ((Nat × (List Span)) ⊕ ((List Span) × (List Span))):=fun (s2,l) =>
  bif decide ((s2:Int)<(s_Sections.length:Int)) then (
  M.bind (zas s_Sections s_Marks s_Reaches marks (s2:Int)) fun (r0,aa) =>
  M.grd (decide ((l.length+([(⟨(r0:Int),(aa:Int)⟩:Span)]).length)*16<=140737488355328)) <|
  M.pure (.inl (s2+1,l++([(⟨(r0:Int),(aa:Int)⟩:Span)]))))
  else (
  M.pure (.inr (l,l)))
def zd1 (s_Sections:List Sect) (s_Marks:List Mrk) (s_Reaches:List Rch) (marks:List Int):M ((List Span) × Int) :=
  M.bind (za4 s_Sections s_Marks s_Reaches marks) fun x_=>match x_ with
  | (.inl r1)=>(
  bif r1 != 0 then (
  M.pure (([]),r1))
  else (
  M.fail))
  | (.inr aa)=>(
  bif aa != 0 then (
  M.fail)
  else (
  M.bind (zbf s_Sections s_Marks s_Reaches marks) fun r2 =>
  bif !r2 then (
  M.pure (([]),7))
  else (
  M.bind (M.iter (zdk s_Sections s_Marks s_Reaches marks) (0,[])) fun (l2,l3) =>
  M.pure (l3,0))))
theorem zfl {R:List Chunk} {aE:Cells} {ae:Value} {aF:Cells} {ag:Value} {aG:Cells} {ah:Value} {aH:Cells} {ai:Value} (s_Sections:List Sect) (s_Marks:List Mrk) (s_Reaches:List Rch) (marks:List Int) (au:Reads R aE) (ao:Sl aE ae s_Sections) (av:Reads R aF) (ax:Sl aF ag s_Marks) (ay:Reads R aG) (az:Sl aG ah s_Reaches) (aA:Reads R aH) (aB:Sl aH ai marks) {r:((List Span) × Int)} (hM:(zd1 s_Sections s_Marks s_Reaches marks).Ends r) (w:World) (H:St w w [] R):Ret Tryz.prog 31 #[.agg #[ae,ag,ah],ai] w fun v w'=>∃ (y0:List Span) (y1:Int) (u0:Value),(y0,y1)=r/\v = .tuple #[u0,I y1]/\St w w' [cOwn (α:=Span) 36 u0 y0] R:=by
 refine ret_of_W Tryz.func31 rfl rfl rfl ?_;refine kg 2 ?_;refine t_bx [ae,ag,ah] H rfl ?_;intro aL aZ H;refine kg 7 ?_;obtain ⟨a7,aM,hM⟩:=M.e_bind hM;refine s_call cf45 [.agg #[ae,ag,ah],ai] rfl (zdt s_Sections s_Marks s_Reaches marks (au.app _) ao (av.app _) ax (ay.app _) az (aA.app _) aB aM _ (H.gt 1)) ?_
 rintro vq a8 (⟨r1,aN,hvq,aa⟩ | ⟨aO,ap,aI,aP,hvq,aa⟩)
 ·subst aN;subst vq;(try dsimp only at hM);replace H:=H.bk aa;clear aa;refine kg 14 ?_
  refine W.cond (r1 != 0) rfl (fun ak=>?_) (fun ak=>?_)
  ·replace hM:=M.e_t hM ak
   replace ak:=dI ak
   refine kg 6 ?_;refine W.ret ?_
   have al:=M.e_pure hM
   replace H:=H.nilOwn (α:=Span) 36
   exact ⟨_,resE_tmp2 rfl,⟨([]),r1,(.slice none 0 0),al,rfl,(H.pk [0])⟩⟩
  replace hM:=M.e_f hM ak
  exact (M.e_fail hM).elim
 subst aP;subst vq;(try dsimp only at hM);replace H:=H.bk aa;clear aa;refine kg 14 ?_
 refine W.cond (aO != 0) rfl (fun am=>?_) (fun am=>?_)
 ·replace hM:=M.e_t hM am
  exact (M.e_fail hM).elim
 replace hM:=M.e_f hM am
 replace am:=dI am
 refine kg 4 ?_;obtain ⟨ba,aQ,hM⟩:=M.e_bind hM;refine s_call cf24 [Pq ap,ai] rfl (zdv s_Sections s_Marks s_Reaches marks (au.app _) ao (av.app _) ax (ay.app _) az (Has.here (k:=0) rfl) (aA.app _) aB aQ _ (H.gt 3)) ?_
 rintro vq bb ⟨r2,rfl,hvq,aa⟩
 subst vq;(try dsimp only at hM);replace H:=H.bk aa;clear aa;refine kg 3 ?_
 refine W.cond (!r2) rfl (fun aC=>?_) (fun aC=>?_)
 ·replace hM:=M.e_t hM aC;refine kg 5 ?_;replace H:=H.pk [];refine W.ret ?_
  have al:=M.e_pure hM
  replace H:=H.nilOwn (α:=Span) 36
  exact ⟨_,resE_tmp2 rfl,⟨([]),7,(.slice none 0 0),al,rfl,H⟩⟩
 replace hM:=M.e_f hM aC
 have bc:=(ao).len_le
 refine kg 14 ?_
 replace H:=H.nilOwn (α:=Span) 36
 obtain ⟨aR,aD,aS⟩:=M.e_bind hM
 obtain ⟨bf,aD⟩:=M.e_iter aD
 refine W.loop (fun m σ W=>∃ (s2:Nat) (l:List Span) (aq:Value) (ρ:Env),σ=upds ρ [(1,ai),(6,Pq ap),(8,aq),(27,I (s_Sections.length:Int)),(28,I (s2:Int))]/\M.iterN (zdk s_Sections s_Marks s_Reaches marks) m (s2,l)=some aR/\St w W [cOwn (α:=Span) 36 aq l,cBlk ap [ae,ag,ah,.map (some aI)] 117,cMemI encSpt aI (zaa s_Sections s_Marks s_Reaches),cBlk aL [ae,ag,ah] 27] R) ?_ ?_
 ·exact ⟨_,0,[],(.slice none 0 0),_,upds_of _ _ ⟨rfl,rfl,rfl,rfl,rfl,trivial⟩,aD,H⟩
 rintro bg σ bh ⟨s2,l,aq,ρ,rfl,aJ,H⟩
 obtain ⟨aT,aU,bi,hM,aK⟩:=M.e_iterN aJ
 simp only [zdk] at hM
 clear aJ;refine kg 5 ?_
 refine W.cond (decide ((s2:Int)<(s_Sections.length:Int))) rfl (fun ac=>?_) (fun ac=>?_)
 ·replace hM:=M.e_t hM ac
  replace ac:=dI ac
  refine kg 13 ?_;obtain ⟨bj,aV,hM⟩:=M.e_bind hM;refine s_call cf59 [Pq ap,ai,I (s2:Int)] rfl (zbB s_Sections s_Marks s_Reaches marks (s2:Int) (au.app _) ao (av.app _) ax (ay.app _) az (Has.here (k:=1) rfl) (aA.app _) aB aV _ (H.gt 4)) ?_
  rintro vq bm ⟨r0,aj,rfl,hvq,aa⟩
  subst vq;(try dsimp only at hM);replace H:=H.bk aa;clear aa;refine t_bs (α:=Span) T100 [.agg #[I r0,I aj]] [(⟨(r0:Int),(aj:Int)⟩:Span)] H rfl (.cons rfl (Flat.rep_enc _ (⟨(r0:Int),(aj:Int)⟩:Span))<|.nil) rfl rfl rfl ?_;intro aW bn H;obtain ⟨bo,hM⟩:=M.e_gd hM;refine t_app (α:=Span) (k:=1) (l:=l) (l2:=[(⟨(r0:Int),(aj:Int)⟩:Span)]) (l':=l++([(⟨(r0:Int),(aj:Int)⟩:Span)])) (vy:=aW) T100 rfl H rfl rfl rfl (H.os 0) (H.ol 0) (rfl) (by first | omega | (simp only [List.length_nil] at *; omega)) ?_;intro aX bp H;replace H:=H.nf;refine kg 6 ?_
  exact ⟨aT,aU,s2+1,l++([(⟨(r0:Int),(aj:Int)⟩:Span)]),aX,_,upds_of _ _ ⟨rfl,rfl,rfl,rfl,rfl,trivial⟩,M.e_inl hM aK,(H.pk [1,2,3,4])⟩
 replace hM:=M.e_f hM ac
 replace ac:=dI ac
 refine W.exit ?_
 have aY:=M.e_inr hM aK
 subst aY;replace hM:=aS;(try dsimp only at hM);replace H:=H.pk [0];refine kg 6 ?_;refine W.ret ?_
 have al:=M.e_pure hM
 exact ⟨_,resE_tmp2 rfl,⟨l,0,aq,al,rfl,H⟩⟩

end Go.Proofs.YtnncijcapdnlgaaGreat
end
section
set_option maxRecDepth 100000
set_option maxHeartbeats 16000000
namespace Go.Proofs.YtnncijcapdnlgaaGreat
open Go Go.Nm
attribute [local irreducible] gd execOp SL SLD SLT WR
def zdW (s_Sections:List Sect) (s_Marks:List Mrk) (s_Reaches:List Rch) (a b:Int):M (Bool × Int) :=
  M.bind (zar s_Sections s_Marks s_Reaches) fun x_=>match x_ with
  | (.inl r1)=>(
  bif r1 != 0 then (
  M.pure (false,r1))
  else (
  M.fail))
  | (.inr aa)=>(
  bif aa != 0 then (
  M.fail)
  else (
  M.bind (zab a 0 ((s_Marks.length:Int)-1)) fun r2 =>
  M.bind (M.opt (!(!r2)) (zab b 0 ((s_Marks.length:Int)-1)) false) fun r3 =>
  bif ((!r2)||(!r3)) then (
  M.pure (false,2))
  else (
  M.bind (zaj s_Sections s_Marks s_Reaches a b) fun r4 =>
  M.bind (M.opt (!r4) (zaj s_Sections s_Marks s_Reaches b a) false) fun r5 =>
  M.pure ((r4||r5),0))))
theorem zev {R:List Chunk} {ay:Cells} {ai:Value} {az:Cells} {aj:Value} {aA:Cells} {ak:Value} (s_Sections:List Sect) (s_Marks:List Mrk) (s_Reaches:List Rch) (a:Int) (b:Int) (al:Reads R ay) (am:Sl ay ai s_Sections) (ao:Reads R az) (ae:Sl az aj s_Marks) (ap:Reads R aA) (aq:Sl aA ak s_Reaches) {r:(Bool × Int)} (hM:(zdW s_Sections s_Marks s_Reaches a b).Ends r) (w:World) (H:St w w [] R):Ret Tryz.prog 28 #[.agg #[ai,aj,ak],I a,I b] w fun v w'=>∃ (y0:Bool) (y1:Int),(y0,y1)=r/\v = .tuple #[B y0,I y1]/\St w w' [] R:=by
 refine ret_of_W Tryz.func28 rfl rfl rfl ?_;refine kg 2 ?_;refine t_bx [ai,aj,ak] H rfl ?_;intro aJ aK H;refine kg 6 ?_;obtain ⟨aL,aB,hM⟩:=M.e_bind hM;refine s_call cf19 [.agg #[ai,aj,ak]] rfl (zbo s_Sections s_Marks s_Reaches (al.app _) am (ao.app _) ae (ap.app _) aq aB _ (H.gt 1)) ?_
 rintro vq aM (⟨r1,aC,hvq,aa⟩ | ⟨aD,au,aN,aE,hvq,aa⟩)
 ·subst aC;subst vq;(try dsimp only at hM);replace H:=H.bk aa;clear aa;refine kg 14 ?_
  refine W.cond (r1 != 0) rfl (fun ag=>?_) (fun ag=>?_)
  ·replace hM:=M.e_t hM ag
   replace ag:=dI ag
   refine kg 6 ?_;refine W.ret ?_
   have ac:=M.e_pure hM
   exact ⟨_,resE_tmp2 rfl,⟨false,r1,ac,rfl,(H.pk [])⟩⟩
  replace hM:=M.e_f hM ag
  exact (M.e_fail hM).elim
 subst aE;subst vq;(try dsimp only at hM);replace H:=H.bk aa;clear aa;refine kg 14 ?_
 refine W.cond (aD != 0) rfl (fun ah=>?_) (fun ah=>?_)
 ·replace hM:=M.e_t hM ah
  exact (M.e_fail hM).elim
 replace hM:=M.e_f hM ah
 replace ah:=dI ah
 have aO:=(ae).len_le
 refine kg 7 ?_;obtain ⟨aP,aF,hM⟩:=M.e_bind hM;refine s_call cf20 [I a,I 0,I ((s_Marks.length:Int)-1)] rfl (zae a 0 ((s_Marks.length:Int)-1) aF _ (H.gt 3)) ?_
 rintro vq aQ ⟨r2,rfl,hvq,aa⟩
 subst vq;(try dsimp only at hM);replace H:=H.bk aa;clear aa
 have aR:=(ae).len_le
 refine kg 7 ?_;obtain ⟨r3,aG,hM⟩:=M.e_bind hM;refine t_gcall (!(!r2)) (gy_f rfl) cf20 (B r3) (fun _=>[I b,I 0,I ((s_Marks.length:Int)-1)]) (fun hg=>lst3 (gd_of hg (I b)) rfl (gd_of hg (I ((s_Marks.length:Int)-1)))) H (fun hg=>(zae b 0 ((s_Marks.length:Int)-1) (M.e_opt aG hg) _ (H.give (A:=[]) rfl)).mono fun v_ w_ ⟨y_,ac,av,H_⟩=>by subst ac; exact ⟨av,H.via H_⟩) ?_;intro aS H;refine kg 1 ?_;refine s_val (x_por (b:=!r2) (r:=!r3) rfl rfl (fun hb=>gd_of (c:=!(!r2)) (by first | exact hb | (rw [hb]; rfl) | simp_all) (B (!r3))))<|zA (B ((!r2)||(!r3))) rfl<|s_nil ?_
 refine W.cond ((!r2)||(!r3)) rfl (fun ax=>?_) (fun ax=>?_)
 ·replace hM:=M.e_t hM ax;refine kg 5 ?_;replace H:=H.pk [];refine W.ret ?_
  have ac:=M.e_pure hM
  exact ⟨_,resE_tmp2 rfl,⟨false,2,ac,rfl,H⟩⟩
 replace hM:=M.e_f hM ax;refine kg 6 ?_;obtain ⟨aT,aH,hM⟩:=M.e_bind hM;refine s_call cf49 [Pq au,I a,I b] rfl (zax s_Sections s_Marks s_Reaches a b (al.app _) am (ao.app _) ae (ap.app _) aq (Has.here (k:=0) rfl) aH _ (H.gt 3)) ?_
 rintro vq aU ⟨r4,rfl,hvq,aa⟩
 subst vq;(try dsimp only at hM);replace H:=H.bk aa;clear aa;refine kg 4 ?_;obtain ⟨r5,aI,hM⟩:=M.e_bind hM;refine t_gcall (!r4) (gy_f rfl) cf49 (B r5) (fun _=>[Pq au,I b,I a]) (fun hg=>lst3 (gd_of hg (Pq au)) (gd_of hg (I b)) (gd_of hg (I a))) H (fun hg=>(zax s_Sections s_Marks s_Reaches b a (al.app _) am (ao.app _) ae (ap.app _) aq (Has.here (k:=0) rfl) (M.e_opt aI hg) _ (H.give (A:=[]) rfl)).mono fun v_ w_ ⟨y_,ac,av,H_⟩=>by subst ac; exact ⟨av,H.via H_⟩) ?_;intro aV H;refine s_val (x_por (b:=r4) (r:=r5) rfl rfl (fun hb=>gd_of (c:=!r4) (by first | exact hb | (rw [hb]; rfl) | simp_all) (B r5)))<|zA (B (r4||r5)) rfl ?_;refine kg 2 ?_;replace H:=H.pk [];refine W.ret ?_
 have ac:=M.e_pure hM
 exact ⟨_,resE_tmp2 rfl,⟨(r4||r5),0,ac,rfl,H⟩⟩

end Go.Proofs.YtnncijcapdnlgaaGreat
end
section
set_option maxRecDepth 100000
set_option maxHeartbeats 16000000
namespace Go.Proofs.YtnncijcapdnlgaaGreat
open Go Go.Nm
attribute [local irreducible] gd execOp SL SLD SLT WR
def zah (n aa greatest:Int):M Bool :=
  M.pure ((decide (aa<=n))&&(decide (n<=greatest)))
theorem zak {R:List Chunk}  (n:Int) (aa:Int) (greatest:Int)  {r:Bool} (hM:(zah n aa greatest).Ends r) (w:World) (H:St w w [] R):Ret Tryz.prog 33 #[I n,I aa,I greatest] w fun v w'=>∃ (y0:Bool),y0=r/\v=B y0/\St w w' [] R:=by
 refine ret_of_W Tryz.func33 rfl rfl rfl ?_;refine kg 13 ?_;refine s_val (x_pand (b:=decide (aa<=n)) (r:=decide (n<=greatest)) rfl (fun hb=>gd_of (c:=decide (aa<=n)) (by first | exact hb | (rw [hb]; rfl) | simp_all) (B (decide (n<=greatest)))) rfl) ?_;refine kg 2 ?_;refine W.ret ?_
 have ac:=M.e_pure hM
 exact ⟨_,resE_tmp rfl,⟨((decide (aa<=n))&&(decide (n<=greatest))),ac,rfl,H⟩⟩

def za1 (p:Pt):M Bool :=
  M.bind (zah p.stage 0 2000) fun r2 =>
  M.bind (M.opt r2 (zah p.flow 0 200000) false) fun r3 =>
  M.pure (r2&&r3)
theorem zdF {R:List Chunk}  (p:Pt)  {r:Bool} (hM:(za1 p).Ends r) (w:World) (H:St w w [] R):Ret Tryz.prog 60 #[.agg #[I p.stage,I p.flow]] w fun v w'=>∃ (y0:Bool),y0=r/\v=B y0/\St w w' [] R:=by
 refine ret_of_W Tryz.func60 rfl rfl rfl ?_;refine kg 2 ?_;refine t_bx [I p.stage,I p.flow] H rfl ?_;intro ai aj H;refine kg 6 ?_;obtain ⟨ak,ae,hM⟩:=M.e_bind hM;refine s_call cf33 [I p.stage,I 0,I 2000] rfl (zak p.stage 0 2000 ae _ (H.gt 1)) ?_
 rintro vq al ⟨r2,rfl,hvq,ac⟩
 subst vq;(try dsimp only at hM);replace H:=H.bk ac;clear ac;refine kg 3 ?_;obtain ⟨r3,ag,hM⟩:=M.e_bind hM;refine t_gcall r2 (gy_t rfl) cf33 (B r3) (fun _=>[I p.flow,I 0,I 200000]) (fun hg=>lst3 (gd_of hg (I p.flow)) rfl rfl) H (fun hg=>(zak p.flow 0 200000 (M.e_opt ag hg) _ (H.give (A:=[]) rfl)).mono fun v_ w_ ⟨y_,aa,ah,H_⟩=>by subst aa; exact ⟨ah,H.via H_⟩) ?_;intro am H;refine s_val (x_pand (b:=r2) (r:=r3) rfl (fun hb=>gd_of (c:=r2) (by first | exact hb | (rw [hb]; rfl) | simp_all) (B r3)) rfl) ?_;refine kg 2 ?_;refine W.ret ?_
 have aa:=M.e_pure hM
 exact ⟨_,resE_tmp rfl,⟨(r2&&r3),aa,rfl,(H.pk [])⟩⟩

def zao (x:RLn):M Bool :=
  M.bind (za1 (⟨(x.ast:Int),(x.afl:Int)⟩:Pt)) fun r2 =>
  M.bind (M.opt r2 (za1 (⟨(x.bst:Int),(x.bfl:Int)⟩:Pt)) false) fun r3 =>
  M.pure (((r2&&r3)&&(decide (x.ast<x.bst)))&&(decide (x.afl<=x.bfl)))
theorem zbO {R:List Chunk}  (x:RLn)  {r:Bool} (hM:(zao x).Ends r) (w:World) (H:St w w [] R):Ret Tryz.prog 32 #[.agg #[I x.ast,I x.afl,I x.bst,I x.bfl]] w fun v w'=>∃ (y0:Bool),y0=r/\v=B y0/\St w w' [] R:=by
 refine ret_of_W Tryz.func32 rfl rfl rfl ?_;refine kg 2 ?_;refine t_bx [I x.ast,I x.afl,I x.bst,I x.bfl] H rfl ?_;intro ai aj H;refine kg 6 ?_;obtain ⟨ak,ae,hM⟩:=M.e_bind hM;refine s_call cf60 [.agg #[I x.ast,I x.afl]] rfl (zdF (⟨(x.ast:Int),(x.afl:Int)⟩:Pt) ae _ (H.gt 1)) ?_
 rintro vq al ⟨r2,rfl,hvq,ac⟩
 subst vq;(try dsimp only at hM);replace H:=H.bk ac;clear ac;refine kg 3 ?_;obtain ⟨r3,ag,hM⟩:=M.e_bind hM;refine t_gcall r2 (gy_t rfl) cf60 (B r3) (fun _=>[.agg #[I x.bst,I x.bfl]]) (fun hg=>lst1 (gd_of hg (.agg #[I x.bst,I x.bfl]))) H (fun hg=>(zdF (⟨(x.bst:Int),(x.bfl:Int)⟩:Pt) (M.e_opt ag hg) _ (H.give (A:=[]) rfl)).mono fun v_ w_ ⟨y_,aa,ah,H_⟩=>by subst aa; exact ⟨ah,H.via H_⟩) ?_;intro am H;refine s_val (x_pand (b:=r2) (r:=r3) rfl (fun hb=>gd_of (c:=r2) (by first | exact hb | (rw [hb]; rfl) | simp_all) (B r3)) rfl) ?_;refine kg 8 ?_;refine s_val (x_pand (b:=(r2&&r3)) (r:=decide (x.ast<x.bst)) rfl (fun hb=>gd_of (c:=(r2&&r3)) (by first | exact hb | (rw [hb]; rfl) | simp_all) (B (decide (x.ast<x.bst)))) rfl) ?_;refine kg 8 ?_;refine s_val (x_pand (b:=((r2&&r3)&&(decide (x.ast<x.bst)))) (r:=decide (x.afl<=x.bfl)) rfl (fun hb=>gd_of (c:=((r2&&r3)&&(decide (x.ast<x.bst)))) (by first | exact hb | (rw [hb]; rfl) | simp_all) (B (decide (x.afl<=x.bfl)))) rfl) ?_;refine kg 2 ?_;refine W.ret ?_
 have aa:=M.e_pure hM
 exact ⟨_,resE_tmp rfl,⟨(((r2&&r3)&&(decide (x.ast<x.bst)))&&(decide (x.afl<=x.bfl))),aa,rfl,(H.pk [])⟩⟩

def zbl (l:List Int):(Int × Nat)->M ((Int × Nat) ⊕ Int):=fun (first2,s) =>
  bif decide ((s:Int)<(l.length:Int)) then (
  M.grd (decide ((s:Int)<(l.length:Int))) <|
  M.pure (.inl (max first2 (l.getD s 0),s+1)))
  else (
  M.pure (.inr first2))
def zbW (first:Int) (l:List Int):M Int :=
  M.bind (M.iter (zbl l) (first,0)) fun first3 =>
  M.pure first3
theorem zej {R:List Chunk} {ag:Cells} {ac:Value} (first:Int) (l:List Int) (au:Reads R ag) (aj:Sl ag ac l) {r:Int} (hM:(zbW first l).Ends r) (w:World) (H:St w w [] R):Ret Tryz.prog 95 #[I first,ac] w fun v w'=>∃ (y0:Int),y0=r/\v=I y0/\St w w' [] R:=by
 refine ret_of_W Tryz.func95 rfl rfl rfl ?_
 have av:=(aj).len_le
 refine kg 12 ?_;obtain ⟨ak,ae,al⟩:=M.e_bind hM
 obtain ⟨ax,ae⟩:=M.e_iter ae
 refine W.loop (fun m σ W=>∃ (first2:Int) (s:Nat) (ρ:Env),σ=upds ρ [(0,I first2),(7,ac),(8,I (l.length:Int)),(9,I (s:Int))]/\M.iterN (zbl l) m (first2,s)=some ak/\St w W [] R) ?_ ?_
 ·exact ⟨_,first,0,_,upds_of _ _ ⟨rfl,rfl,rfl,rfl,trivial⟩,ae,H⟩
 rintro ay σ az ⟨first2,s,ρ,rfl,ah,H⟩
 obtain ⟨am,ao,aA,hM,ai⟩:=M.e_iterN ah
 simp only [zbl] at hM
 clear ah;refine kg 5 ?_
 refine W.cond (decide ((s:Int)<(l.length:Int))) rfl (fun aa=>?_) (fun aa=>?_)
 ·replace hM:=M.e_t hM aa
  replace aa:=dI aa
  obtain ⟨aB,hM⟩:=M.e_gd hM;refine kg 19 ?_
  exact ⟨am,ao,max first2 (l.getD s 0),s+1,_,upds_of _ _ ⟨rfl,rfl,rfl,rfl,trivial⟩,M.e_inl hM ai,H⟩
 replace hM:=M.e_f hM aa
 replace aa:=dI aa
 refine W.exit ?_
 have ap:=M.e_inr hM ai
 subst ap;replace hM:=al;(try dsimp only at hM);refine kg 5 ?_;refine W.ret ?_
 have aq:=M.e_pure hM
 exact ⟨_,resE_tmp rfl,⟨first2,aq,rfl,H⟩⟩

def zaM  : (Int × Int)->M ((Int × Int) ⊕ Int):=fun (a,b) =>
  bif b != 0 then (
  M.grd (decide ((0:Int)<=a)&&decide ((0:Int)<b)) <|
  M.pure (.inl (b,a % b)))
  else (
  M.pure (.inr a))
def zb9 (n d:Int):M (Int × Int) :=
  M.grd (decide (-9223372036854775807<=n)&&decide (n<=9223372036854775807)) <|
  M.bind (zbW n ([(-n:Int)])) fun r2 =>
  M.bind (M.iter (zaM) (r2,d)) fun a2 =>
  M.grd (decide ((-9223372036854775808:Int)<=n)&&decide (n<=(9223372036854775807:Int))&&decide ((0:Int)<a2)&&decide (n % a2=0)) <|
  M.grd (decide ((-9223372036854775808:Int)<=d)&&decide (d<=(9223372036854775807:Int))&&decide ((0:Int)<a2)&&decide (d % a2=0)) <|
  M.pure ((n / a2),(d / a2))
theorem zeP {R:List Chunk}  (n:Int) (d:Int)  {r:(Int × Int)} (hM:(zb9 n d).Ends r) (w:World) (H:St w w [] R):Ret Tryz.prog 61 #[I n,I d] w fun v w'=>∃ (y0:Int) (y1:Int),(y0,y1)=r/\v = .agg #[I y0,I y1]/\St w w' [] R:=by
 refine ret_of_W Tryz.func61 rfl rfl rfl ?_;refine kg 2 ?_;refine t_alloc (cs:=[I 0,I 0]) H Al61 rfl ?_;intro ag ay H;obtain ⟨az,hM⟩:=M.e_gd hM;refine kg 5 ?_;refine s_val (x_neg (a:=n) rfl (by omega)) ?_;refine t_bs (α:=Int) T28 [I (-n)] [(-n:Int)] H rfl (.cons rfl (Flat.rep_enc _ (-n:Int))<|.nil) rfl rfl rfl ?_;intro ae aA H;obtain ⟨aB,al,hM⟩:=M.e_bind hM;refine s_call cf95 [I n,ae] rfl (zej n ([(-n:Int)]) (rdo 0) (H.os 0) al _ (H.gt 2)) ?_
 rintro vq aC ⟨r2,rfl,hvq,ai⟩
 subst vq;(try dsimp only at hM);replace H:=H.bk ai;clear ai;refine kg 6 ?_;obtain ⟨am,ah,ao⟩:=M.e_bind hM
 obtain ⟨aD,ah⟩:=M.e_iter ah
 refine W.loop (fun m σ W=>∃ (a:Int) (b:Int) (ρ:Env),σ=upds ρ [(0,I n),(1,I d),(4,Pq ag),(5,I a),(6,I b)]/\M.iterN (zaM) m (a,b)=some am/\St w W [cOwn (α:=Int) 3 ae ([(-n:Int)]),cBlk ag [I 0,I 0] 61] R) ?_ ?_
 ·exact ⟨_,r2,d,_,upds_of _ _ ⟨rfl,rfl,rfl,rfl,rfl,trivial⟩,ah,H⟩
 rintro aE σ aF ⟨a,b,ρ,rfl,aj,H⟩
 obtain ⟨ap,aq,aG,hM,ak⟩:=M.e_iterN aj
 simp only [zaM] at hM
 clear aj;refine kg 6 ?_
 refine W.cond (b != 0) rfl (fun aa=>?_) (fun aa=>?_)
 ·replace hM:=M.e_t hM aa
  replace aa:=dI aa
  refine kg 2 ?_;refine W.draw (fun W=>St w W [cOwn (α:=Int) 3 ae ([(-n:Int)]),cBlk ag [I 0,I 0] 61] R) [(0,true),(1,true),(2,true),(3,true),(4,true),(5,true)] mixed (by decide +kernel) rfl ?_;intro aH ac;replace H:=H.ext ac;clear ac
  refine ⟨(H.pk [0,1]),?_⟩
  obtain ⟨aI,hM⟩:=M.e_gd hM;refine kg 3 ?_;refine d_q rfl (fun w' H=>x_rem' (a:=a) (b:=b) rfl rfl (by omega)) ?_;refine kg 3 ?_
  exact ⟨ap,aq,b,a % b,_,upds_of _ _ ⟨rfl,rfl,rfl,rfl,rfl,trivial⟩,M.e_inl hM ak,H⟩
 replace hM:=M.e_f hM aa
 replace aa:=dI aa
 refine W.exit ?_
 have au:=M.e_inr hM ak
 subst au;replace hM:=ao;(try dsimp only at hM);refine W.seq ?_;refine W.draw (fun W=>St w W [cOwn (α:=Int) 3 ae ([(-n:Int)])] R) [(0,true),(1,true),(2,true),(3,true),(4,true),(5,true),(6,true),(7,false)] mixed (by decide +kernel) rfl ?_;intro aJ ac;replace H:=H.ext ac;clear ac
 refine ⟨(H.pk [0]),?_⟩
 obtain ⟨aK,hM⟩:=M.e_gd hM;refine kg 2 ?_;refine d_q rfl (fun w' H=>x_quoD (a:=n) (b:=a) rfl rfl (by omega)) ?_;obtain ⟨aL,hM⟩:=M.e_gd hM;refine kg 2 ?_;refine d_q rfl (fun w' H=>x_quoD (a:=d) (b:=a) rfl rfl (by omega))<|d_q rfl (fun w' H=>x_bld (ps:=[(0,I (n / a)),(1,I (d / a))]) (zs:=[I 0,I 0]) (L':=[I (n / a),I (d / a)]) rfl Tryz.underlying61 Al61 rfl (Bd61 Tryz.underlying61) (.cons (cs:=[I (n / a)]) rfl rfl rfl rfl rfl<|.cons (cs:=[I (d / a)]) rfl rfl rfl rfl rfl<|.nil))<|d_l rfl ?_;refine t_sw 1 0 [I (n / a),I (d / a)] (.agg #[I (n / a),I (d / a)]) H rfl rfl Sz61 rfl rfl rfl rfl ?_;intro aM H
 refine s_nil ⟨(H.pk [0]),?_⟩
 refine d_nil ?_;refine W.ret ?_
 have av:=(H.bl 1)
 have ax:=M.e_pure hM
 exact ⟨_,(resE_of1 (v:=.agg #[I (n / a),I (d / a)]) rfl (.cell (v:=.agg #[I (n / a),I (d / a)]) rfl (run_loadVar_ag (ds:=[I (n / a),I (d / a)]) Ag61 Sz61 av rfl rfl)<|.nil)),⟨(n / a),(d / a),ax,rfl,(H.pk [])⟩⟩

def zaJ (x:RLn) (stage:Int):M (Int × Int) :=
  M.grd (decide ((-9223372036854775808:Int)<=(x.bst-x.ast))&&decide ((x.bst-x.ast)<=(9223372036854775807:Int))) <|
  M.grd (decide ((-9223372036854775808:Int)<=(x.afl*(x.bst-x.ast)))&&decide ((x.afl*(x.bst-x.ast))<=(9223372036854775807:Int))) <|
  M.grd (decide ((-9223372036854775808:Int)<=(x.bfl-x.afl))&&decide ((x.bfl-x.afl)<=(9223372036854775807:Int))) <|
  M.grd (decide ((-9223372036854775808:Int)<=(stage-x.ast))&&decide ((stage-x.ast)<=(9223372036854775807:Int))) <|
  M.grd (decide ((-9223372036854775808:Int)<=((x.bfl-x.afl)*(stage-x.ast)))&&decide (((x.bfl-x.afl)*(stage-x.ast))<=(9223372036854775807:Int))) <|
  M.grd (decide ((-9223372036854775808:Int)<=((x.afl*(x.bst-x.ast))+((x.bfl-x.afl)*(stage-x.ast))))&&decide (((x.afl*(x.bst-x.ast))+((x.bfl-x.afl)*(stage-x.ast)))<=(9223372036854775807:Int))) <|
  M.bind (zb9 ((x.afl*(x.bst-x.ast))+((x.bfl-x.afl)*(stage-x.ast))) (x.bst-x.ast)) fun (r0,r1) =>
  M.pure (r0,r1)
theorem zcJ {R:List Chunk}  (x:RLn) (stage:Int)  {r:(Int × Int)} (hM:(zaJ x stage).Ends r) (w:World) (H:St w w [] R):Ret Tryz.prog 34 #[.agg #[I x.ast,I x.afl,I x.bst,I x.bfl],I stage] w fun v w'=>∃ (y0:Int) (y1:Int),(y0,y1)=r/\v = .agg #[I y0,I y1]/\St w w' [] R:=by
 refine ret_of_W Tryz.func34 rfl rfl rfl ?_;refine kg 2 ?_;refine t_bx [I x.ast,I x.afl,I x.bst,I x.bfl] H rfl ?_;intro ah ai H;refine t_alloc (cs:=[I 0,I 0]) H Al61 rfl ?_;intro aj ak H;obtain ⟨al,hM⟩:=M.e_gd hM;obtain ⟨am,hM⟩:=M.e_gd hM;obtain ⟨ao,hM⟩:=M.e_gd hM;obtain ⟨ap,hM⟩:=M.e_gd hM;obtain ⟨aq,hM⟩:=M.e_gd hM;obtain ⟨au,hM⟩:=M.e_gd hM;refine kg 34 ?_;obtain ⟨av,ac,hM⟩:=M.e_bind hM;refine s_call cf61 [I ((x.afl*(x.bst-x.ast))+((x.bfl-x.afl)*(stage-x.ast))),I (x.bst-x.ast)] rfl (zeP ((x.afl*(x.bst-x.ast))+((x.bfl-x.afl)*(stage-x.ast))) (x.bst-x.ast) ac _ (H.gt 2)) ?_
 rintro vq ax ⟨r0,r1,rfl,hvq,aa⟩
 subst vq;(try dsimp only at hM);replace H:=H.bk aa;clear aa;refine t_sw 0 0 [I r0,I r1] (.agg #[I r0,I r1]) H rfl rfl Sz61 rfl rfl rfl rfl ?_;intro ay H;refine s_nil ?_;refine W.ret ?_
 have ae:=(H.bl 0)
 have ag:=M.e_pure hM
 exact ⟨_,(resE_of1 (v:=.agg #[I r0,I r1]) rfl (.cell (v:=.agg #[I r0,I r1]) rfl (run_loadVar_ag (ds:=[I r0,I r1]) Ag61 Sz61 ae rfl rfl)<|.nil)),⟨r0,r1,ag,rfl,(H.pk [])⟩⟩

def zcc (x:RLn) (stage:Int):M (Int × Int × Int) :=
  M.bind (zao x) fun r2 =>
  bif !r2 then (
  M.pure (0,0,50))
  else (
  M.bind (zah stage 0 2000) fun r3 =>
  bif !r3 then (
  M.pure (0,0,4))
  else (
  M.bind (zaJ x stage) fun (r0,r1) =>
  M.pure (r0,r1,0)))
theorem zeR {R:List Chunk}  (x:RLn) (stage:Int)  {r:(Int × Int × Int)} (hM:(zcc x stage).Ends r) (w:World) (H:St w w [] R):Ret Tryz.prog 12 #[.agg #[I x.ast,I x.afl,I x.bst,I x.bfl],I stage] w fun v w'=>∃ (y0:Int) (y1:Int) (y2:Int),(y0,y1,y2)=r/\v = .tuple #[.agg #[I y0,I y1],I y2]/\St w w' [] R:=by
 refine ret_of_W Tryz.func12 rfl rfl rfl ?_;refine kg 2 ?_;refine t_bx [I x.ast,I x.afl,I x.bst,I x.bfl] H rfl ?_;intro ao ap H;refine t_alloc (cs:=[I 0,I 0]) H Al61 rfl ?_;intro aq au H;refine kg 7 ?_;obtain ⟨av,ah,hM⟩:=M.e_bind hM;refine s_call cf32 [.agg #[I x.ast,I x.afl,I x.bst,I x.bfl]] rfl (zbO x ah _ (H.gt 2)) ?_
 rintro vq ax ⟨r2,rfl,hvq,aa⟩
 subst vq;(try dsimp only at hM);replace H:=H.bk aa;clear aa;refine kg 3 ?_
 refine W.cond (!r2) rfl (fun ae=>?_) (fun ae=>?_)
 ·replace hM:=M.e_t hM ae;refine kg 2 ?_;refine s_val (x_bld (ps:=[]) (zs:=[I 0,I 0]) (L':=[I 0,I 0]) rfl Tryz.underlying61 Al61 rfl (Bd61 Tryz.underlying61) (.nil)) ?_;refine t_sw 0 0 [I 0,I 0] (.agg #[I 0,I 0]) H rfl rfl Sz61 rfl rfl rfl rfl ?_;intro ay H;refine kg 2 ?_;refine W.ret ?_
  have ai:=(H.bl 0)
  have ac:=M.e_pure hM
  exact ⟨_,(resE_ofn (vs:=[.agg #[I 0,I 0],I 50]) rfl rfl (.cell (v:=.agg #[I 0,I 0]) rfl (run_loadVar_ag (ds:=[I 0,I 0]) Ag61 Sz61 ai rfl rfl)<|.tmp (v:=I 50) rfl<|.nil)),⟨0,0,50,ac,rfl,(H.pk [])⟩⟩
 replace hM:=M.e_f hM ae;refine kg 3 ?_;obtain ⟨az,aj,hM⟩:=M.e_bind hM;refine s_call cf33 [I stage,I 0,I 2000] rfl (zak stage 0 2000 aj _ (H.gt 2)) ?_
 rintro vq aA ⟨r3,rfl,hvq,aa⟩
 subst vq;(try dsimp only at hM);replace H:=H.bk aa;clear aa;refine kg 3 ?_
 refine W.cond (!r3) rfl (fun ag=>?_) (fun ag=>?_)
 ·replace hM:=M.e_t hM ag;refine kg 2 ?_;refine s_val (x_bld (ps:=[]) (zs:=[I 0,I 0]) (L':=[I 0,I 0]) rfl Tryz.underlying61 Al61 rfl (Bd61 Tryz.underlying61) (.nil)) ?_;refine t_sw 0 0 [I 0,I 0] (.agg #[I 0,I 0]) H rfl rfl Sz61 rfl rfl rfl rfl ?_;intro aB H;refine kg 2 ?_;refine W.ret ?_
  have ak:=(H.bl 0)
  have ac:=M.e_pure hM
  exact ⟨_,(resE_ofn (vs:=[.agg #[I 0,I 0],I 4]) rfl rfl (.cell (v:=.agg #[I 0,I 0]) rfl (run_loadVar_ag (ds:=[I 0,I 0]) Ag61 Sz61 ak rfl rfl)<|.tmp (v:=I 4) rfl<|.nil)),⟨0,0,4,ac,rfl,(H.pk [])⟩⟩
 replace hM:=M.e_f hM ag;refine kg 5 ?_;obtain ⟨aC,al,hM⟩:=M.e_bind hM;refine s_call cf34 [.agg #[I x.ast,I x.afl,I x.bst,I x.bfl],I stage] rfl (zcJ x stage al _ (H.gt 2)) ?_
 rintro vq aD ⟨r0,r1,rfl,hvq,aa⟩
 subst vq;(try dsimp only at hM);replace H:=H.bk aa;clear aa;refine t_sw 0 0 [I r0,I r1] (.agg #[I r0,I r1]) H rfl rfl Sz61 rfl rfl rfl rfl ?_;intro aE H;refine kg 2 ?_;refine W.ret ?_
 have am:=(H.bl 0)
 have ac:=M.e_pure hM
 exact ⟨_,(resE_ofn (vs:=[.agg #[I r0,I r1],I 0]) rfl rfl (.cell (v:=.agg #[I r0,I r1]) rfl (run_loadVar_ag (ds:=[I r0,I r1]) Ag61 Sz61 am rfl rfl)<|.tmp (v:=I 0) rfl<|.nil)),⟨r0,r1,0,ac,rfl,(H.pk [])⟩⟩

def zbt (s:List Gg) (f:Gg->M Bool):Nat->M (Nat ⊕ (Int ⊕ Unit)):=fun s2 =>
  bif decide ((s2:Int)<(s.length:Int)) then (
  M.grd (decide ((s2:Int)<(s.length:Int))) <|
  M.bind (f (s.getD s2 default)) fun r2 =>
  bif r2 then (
  M.pure (.inr (.inl (s2:Int))))
  else (
  M.pure (.inl (s2+1))))
  else (
  M.pure (.inr (.inr ())))
def zcj (s:List Gg) (f:Gg->M Bool):M Int :=
  M.bind (M.iter (zbt s f) 0) fun x_=>match x_ with
  | (.inl s3)=>(
  M.pure s3)
  | (.inr (_:Unit))=>(
  M.pure (-1))
theorem zfp {R:List Chunk} {ak:Cells} {ac:Value} {ae:Value} (s:List Gg) (f:Gg->M Bool) (ap:Reads R ak) (al:Sl ak ac s) (aq:FnM Tryz.prog R ae f) {r:Int} (hM:(zcj s f).Ends r) (w:World) (H:St w w [] R):Ret Tryz.prog 128 #[ac,ae] w fun v w'=>∃ (y0:Int),y0=r/\v=I y0/\St w w' [] R:=by
 refine ret_of_W Tryz.func128 rfl rfl rfl ?_
 have aB:=(al).len_le
 refine kg 12 ?_;obtain ⟨au,ag,am⟩:=M.e_bind hM
 obtain ⟨aC,ag⟩:=M.e_iter ag
 refine W.loop (fun m σ W=>∃ (s2:Nat) (ρ:Env),σ=upds ρ [(0,ac),(1,ae),(7,I (s.length:Int)),(8,I (s2:Int))]/\M.iterN (zbt s f) m s2=some au/\St w W [] R) ?_ ?_
 ·exact ⟨_,0,_,upds_of _ _ ⟨rfl,rfl,rfl,rfl,trivial⟩,ag,H⟩
 rintro aD σ aE ⟨s2,ρ,rfl,ao,H⟩
 obtain ⟨av,ax,aF,hM,ah⟩:=M.e_iterN ao
 simp only [zbt] at hM
 clear ao;refine kg 5 ?_
 refine W.cond (decide ((s2:Int)<(s.length:Int))) rfl (fun aa=>?_) (fun aa=>?_)
 ·replace hM:=M.e_t hM aa
  replace aa:=dI aa
  obtain ⟨aG,hM⟩:=M.e_gd hM;refine kg 14 ?_;refine s_val (x_ld (v:=.agg #[I ((s.getD s2 default).stage),I ((s.getD s2 default).lo),I ((s.getD s2 default).hi)]) rfl (ld_ag Ag59 Sz59 (At.mono (Gg_atA al (i:=(s2:Int)) (by omega) (by omega)) (ap.at H)))) ?_;obtain ⟨r2,ay,hM⟩:=M.e_bind hM;refine t_callM H aq rfl rfl (s.getD s2 default) Reads.none ⟨_,rfl,rfl⟩ ay ?_;intro aH H;refine s_nil ?_
  refine W.cond r2 rfl (fun ai=>?_) (fun ai=>?_)
  ·replace hM:=M.e_t hM ai;refine kg 5 ?_;refine W.ret ?_
   have az:=M.e_inr hM ah
   subst az;replace hM:=am;(try dsimp only at hM)
   have aj:=M.e_pure hM
   exact ⟨_,resE_tmp rfl,⟨(s2:Int),aj,rfl,H⟩⟩
  replace hM:=M.e_f hM ai;refine kg 5 ?_
  exact ⟨av,ax,s2+1,_,upds_of _ _ ⟨rfl,rfl,rfl,rfl,trivial⟩,M.e_inl hM ah,H⟩
 replace hM:=M.e_f hM aa
 replace aa:=dI aa
 refine W.exit ?_
 have aA:=M.e_inr hM ah
 subst aA;replace hM:=am;(try dsimp only at hM);refine kg 4 ?_;refine W.ret ?_
 have aj:=M.e_pure hM
 exact ⟨_,resE_tmp rfl,⟨(-1),aj,rfl,H⟩⟩

def za6 (s:List Gg) (f:Gg->M Bool):M Bool :=
  M.bind (zcj s f) fun r2 =>
  M.pure (decide (0<=r2))
theorem zd6 {R:List Chunk} {ae:Cells} {aa:Value} {ac:Value} (s:List Gg) (f:Gg->M Bool) (ah:Reads R ae) (ai:Sl ae aa s) (aj:FnM Tryz.prog R ac f) {r:Bool} (hM:(za6 s f).Ends r) (w:World) (H:St w w [] R):Ret Tryz.prog 96 #[aa,ac] w fun v w'=>∃ (y0:Bool),y0=r/\v=B y0/\St w w' [] R:=by
 refine ret_of_W Tryz.func96 rfl rfl rfl ?_;refine kg 8 ?_;obtain ⟨am,ak,hM⟩:=M.e_bind hM;refine s_call cf128 [aa,ac] rfl (zfp s f (ah.app _) ai (aj.app _) ak _ (H.gt 0)) ?_
 rintro vq ao ⟨r2,rfl,hvq,ag⟩
 subst vq;(try dsimp only at hM);replace H:=H.bk ag;clear ag;refine kg 3 ?_;refine W.ret ?_
 have al:=M.e_pure hM
 exact ⟨_,resE_tmp rfl,⟨(decide (0<=r2)),al,rfl,H⟩⟩

def zcM (g:Gg):M Bool :=
  M.bind (zah g.stage 0 2000) fun r2 =>
  M.bind (M.opt r2 (zah g.lo 0 g.hi) false) fun r3 =>
  M.bind (M.opt (r2&&r3) (zah g.hi 0 200000) false) fun r4 =>
  M.pure ((r2&&r3)&&r4)
theorem zea {R:List Chunk}  (g:Gg)  {r:Bool} (hM:(zcM g).Ends r) (w:World) (H:St w w [] R):Ret Tryz.prog 63 #[.agg #[I g.stage,I g.lo,I g.hi]] w fun v w'=>∃ (y0:Bool),y0=r/\v=B y0/\St w w' [] R:=by
 refine ret_of_W Tryz.func63 rfl rfl rfl ?_;refine kg 2 ?_;refine t_bx [I g.stage,I g.lo,I g.hi] H rfl ?_;intro aj ak H;refine kg 6 ?_;obtain ⟨al,ag,hM⟩:=M.e_bind hM;refine s_call cf33 [I g.stage,I 0,I 2000] rfl (zak g.stage 0 2000 ag _ (H.gt 1)) ?_
 rintro vq am ⟨r2,rfl,hvq,ae⟩
 subst vq;(try dsimp only at hM);replace H:=H.bk ae;clear ae;refine kg 7 ?_;obtain ⟨r3,ah,hM⟩:=M.e_bind hM;refine t_gcall r2 (gy_t rfl) cf33 (B r3) (fun _=>[I g.lo,I 0,I g.hi]) (fun hg=>lst3 (gd_of hg (I g.lo)) rfl (gd_of hg (I g.hi))) H (fun hg=>(zak g.lo 0 g.hi (M.e_opt ah hg) _ (H.give (A:=[]) rfl)).mono fun v_ w_ ⟨y_,aa,ac,H_⟩=>by subst aa; exact ⟨ac,H.via H_⟩) ?_;intro ao H;refine s_val (x_pand (b:=r2) (r:=r3) rfl (fun hb=>gd_of (c:=r2) (by first | exact hb | (rw [hb]; rfl) | simp_all) (B r3)) rfl) ?_;refine kg 4 ?_;obtain ⟨r4,ai,hM⟩:=M.e_bind hM;refine t_gcall (r2&&r3) (gy_t rfl) cf33 (B r4) (fun _=>[I g.hi,I 0,I 200000]) (fun hg=>lst3 (gd_of hg (I g.hi)) rfl rfl) H (fun hg=>(zak g.hi 0 200000 (M.e_opt ai hg) _ (H.give (A:=[]) rfl)).mono fun v_ w_ ⟨y_,aa,ac,H_⟩=>by subst aa; exact ⟨ac,H.via H_⟩) ?_;intro ap H;refine s_val (x_pand (b:=(r2&&r3)) (r:=r4) rfl (fun hb=>gd_of (c:=(r2&&r3)) (by first | exact hb | (rw [hb]; rfl) | simp_all) (B r4)) rfl) ?_;refine kg 2 ?_;refine W.ret ?_
 have aa:=M.e_pure hM
 exact ⟨_,resE_tmp rfl,⟨((r2&&r3)&&r4),aa,rfl,(H.pk [])⟩⟩

def zcp (x:Gg):M Bool :=
  M.bind (zcM x) fun r2 =>
  M.pure (!r2)
theorem ze4 {R:List Chunk} {aa:Nat} (x:Gg) (ah:Has R (cBlk aa [.func (.func 63) #[] #[]] 107)) {r:Bool} (hM:(zcp x).Ends r) (w:World) (H:St w w [] R):Ret Tryz.prog 97 #[.agg #[I x.stage,I x.lo,I x.hi],Pq aa] w fun v w'=>∃ (y0:Bool),y0=r/\v=B y0/\St w w' [] R:=by
 refine ret_of_W Tryz.func97 rfl rfl rfl ?_;refine kg 2 ?_;refine t_bx [I x.stage,I x.lo,I x.hi] H rfl ?_;intro ai aj H;refine kg 6 ?_;obtain ⟨ak,ae,hM⟩:=M.e_bind hM;refine s_callv (f:=63) rfl cf63 [.agg #[I x.stage,I x.lo,I x.hi]] rfl (zea x ae _ (H.gt 1)) ?_
 rintro vq al ⟨r2,rfl,hvq,ac⟩
 subst vq;(try dsimp only at hM);replace H:=H.bk ac;clear ac;refine kg 3 ?_;refine W.ret ?_
 have ag:=M.e_pure hM
 exact ⟨_,resE_tmp rfl,⟨(!r2),ag,rfl,(H.pk [])⟩⟩

def zc2 (l:List Gg):M Bool :=
  M.bind (za6 l (fun aa=>zcp aa)) fun r2 =>
  M.pure (!r2)
theorem zek {R:List Chunk} {ag:Cells} {aa:Value} (l:List Gg) (aj:Reads R ag) (ak:Sl ag aa l) {r:Bool} (hM:(zc2 l).Ends r) (w:World) (H:St w w [] R):Ret Tryz.prog 62 #[aa,.func (.func 63) #[] #[]] w fun v w'=>∃ (y0:Bool),y0=r/\v=B y0/\St w w' [] R:=by
 refine ret_of_W Tryz.func62 rfl rfl rfl ?_;refine kg 2 ?_;refine t_b1 (.func (.func 63) #[] #[]) H rfl rfl ?_;intro ac az H;refine kg 5 ?_;refine s_val (x_mf (fs:=[]) (cs:=[Pq ac]) rfl rfl) ?_;obtain ⟨aA,al,hM⟩:=M.e_bind hM;refine s_call cf96 [aa,.func (.func 97) #[] #[Pq ac]] rfl (zd6 l (fun ae=>zcp ae) (aj.app _) ak ⟨97,[Pq ac],rfl,cf97,fun ah aB aC am ae aD ao aE ap aq=>by obtain rfl:=Gg_arg ap; exact (ze4 ae (Has.app (Has.here (k:=0) rfl) _) aq ah (St.refl ao)).mono fun am ah ⟨aF,au,av,ax⟩=>by subst au; exact ⟨av,ax⟩⟩ al _ (H.gt 1)) ?_
 rintro vq aG ⟨r2,rfl,hvq,ai⟩
 subst vq;(try dsimp only at hM);replace H:=H.bk ai;clear ai;refine kg 3 ?_;refine W.ret ?_
 have ay:=M.e_pure hM
 exact ⟨_,resE_tmp rfl,⟨(!r2),ay,rfl,(H.pk [])⟩⟩

def zby (l:List Gg):M Int :=
  M.bind (zah (l.length:Int) 1 24) fun r2 =>
  bif !r2 then (
  M.pure 3)
  else (
  M.bind (zc2 l) fun r3 =>
  bif !r3 then (
  M.pure 50)
  else (
  M.pure 0))
theorem zd2 {R:List Chunk} {ai:Cells} {ae:Value} (l:List Gg) (ak:Reads R ai) (aj:Sl ai ae l) {r:Int} (hM:(zby l).Ends r) (w:World) (H:St w w [] R):Ret Tryz.prog 35 #[ae] w fun v w'=>∃ (y0:Int),y0=r/\v=I y0/\St w w' [] R:=by
 refine ret_of_W Tryz.func35 rfl rfl rfl ?_
 have ao:=(aj).len_le
 refine kg 10 ?_;obtain ⟨ap,al,hM⟩:=M.e_bind hM;refine s_call cf33 [I (l.length:Int),I 1,I 24] rfl (zak (l.length:Int) 1 24 al _ (H.gt 0)) ?_
 rintro vq aq ⟨r2,rfl,hvq,aa⟩
 subst vq;(try dsimp only at hM);replace H:=H.bk aa;clear aa;refine kg 3 ?_
 refine W.cond (!r2) rfl (fun ag=>?_) (fun ag=>?_)
 ·replace hM:=M.e_t hM ag;refine kg 4 ?_;refine W.ret ?_
  have ac:=M.e_pure hM
  exact ⟨_,resE_tmp rfl,⟨3,ac,rfl,H⟩⟩
 replace hM:=M.e_f hM ag;refine kg 3 ?_;obtain ⟨au,am,hM⟩:=M.e_bind hM;refine s_call cf62 [ae,.func (.func 63) #[] #[]] rfl (zek l (ak.app _) aj am _ (H.gt 0)) ?_
 rintro vq av ⟨r3,rfl,hvq,aa⟩
 subst vq;(try dsimp only at hM);replace H:=H.bk aa;clear aa;refine kg 3 ?_
 refine W.cond (!r3) rfl (fun ah=>?_) (fun ah=>?_)
 ·replace hM:=M.e_t hM ah;refine kg 4 ?_;refine W.ret ?_
  have ac:=M.e_pure hM
  exact ⟨_,resE_tmp rfl,⟨50,ac,rfl,H⟩⟩
 replace hM:=M.e_f hM ah;refine kg 5 ?_;refine W.ret ?_
 have ac:=M.e_pure hM
 exact ⟨_,resE_tmp rfl,⟨0,ac,rfl,H⟩⟩

def zb4 (breaks:List Int):(Int × Nat)->M ((Int × Nat) ⊕ (Unit ⊕ Unit)):=fun (last,s) =>
  bif decide ((s:Int)<(breaks.length:Int)) then (
  M.grd (decide ((s:Int)<(breaks.length:Int))) <|
  M.grd (decide ((-9223372036854775808:Int)<=(last+1))&&decide ((last+1)<=(9223372036854775807:Int))) <|
  M.bind (zah (breaks.getD s 0) (last+1) 2000) fun r2 =>
  bif !r2 then (
  M.pure (.inr (.inl ())))
  else (
  M.pure (.inl (breaks.getD s 0,s+1))))
  else (
  M.pure (.inr (.inr ())))
def zbs (breaks:List Int):M Int :=
  bif decide (24<(breaks.length:Int)) then (
  M.pure 3)
  else (
  M.bind (M.iter (zb4 breaks) (0,0)) fun x_=>match x_ with
  | (.inl (_:Unit))=>(
  M.pure 2)
  | (.inr (_:Unit))=>(
  M.pure 0))
theorem zd3 {R:List Chunk} {ak:Cells} {ag:Value} (breaks:List Int) (aA:Reads R ak) (al:Sl ak ag breaks) {r:Int} (hM:(zbs breaks).Ends r) (w:World) (H:St w w [] R):Ret Tryz.prog 64 #[ag] w fun v w'=>∃ (y0:Int),y0=r/\v=I y0/\St w w' [] R:=by
 refine ret_of_W Tryz.func64 rfl rfl rfl ?_
 have aB:=(al).len_le
 refine kg 11 ?_
 refine W.cond (decide (24<(breaks.length:Int))) rfl (fun aa=>?_) (fun aa=>?_)
 ·replace hM:=M.e_t hM aa
  replace aa:=dI aa
  refine kg 4 ?_;refine W.ret ?_
  have ae:=M.e_pure hM
  exact ⟨_,resE_tmp rfl,⟨3,ae,rfl,H⟩⟩
 replace hM:=M.e_f hM aa
 replace aa:=dI aa
 have aC:=(al).len_le
 refine kg 13 ?_;obtain ⟨aq,ah,am⟩:=M.e_bind hM
 obtain ⟨aD,ah⟩:=M.e_iter ah
 refine W.loop (fun m σ W=>∃ (last:Int) (s:Nat) (ρ:Env),σ=upds ρ [(3,I last),(9,ag),(10,I (breaks.length:Int)),(11,I (s:Int))]/\M.iterN (zb4 breaks) m (last,s)=some aq/\St w W [] R) ?_ ?_
 ·exact ⟨_,0,0,_,upds_of _ _ ⟨rfl,rfl,rfl,rfl,trivial⟩,ah,H⟩
 rintro aE σ aF ⟨last,s,ρ,rfl,ao,H⟩
 obtain ⟨au,av,aG,hM,ai⟩:=M.e_iterN ao
 simp only [zb4] at hM
 clear ao;refine kg 5 ?_
 refine W.cond (decide ((s:Int)<(breaks.length:Int))) rfl (fun ac=>?_) (fun ac=>?_)
 ·replace hM:=M.e_t hM ac
  replace ac:=dI ac
  obtain ⟨aH,hM⟩:=M.e_gd hM;obtain ⟨aI,hM⟩:=M.e_gd hM;refine kg 15 ?_;obtain ⟨aJ,ax,hM⟩:=M.e_bind hM;refine s_call cf33 [I (breaks.getD s 0),I (last+1),I 2000] rfl (zak (breaks.getD s 0) (last+1) 2000 ax _ (H.gt 0)) ?_
  rintro vq aK ⟨r2,rfl,hvq,ap⟩
  subst vq;(try dsimp only at hM);replace H:=H.bk ap;clear ap;refine kg 2 ?_
  refine W.cond (!r2) rfl (fun aj=>?_) (fun aj=>?_)
  ·replace hM:=M.e_t hM aj;refine kg 4 ?_;refine W.ret ?_
   have ay:=M.e_inr hM ai
   subst ay;replace hM:=am;(try dsimp only at hM)
   have ae:=M.e_pure hM
   exact ⟨_,resE_tmp rfl,⟨2,ae,rfl,H⟩⟩
  replace hM:=M.e_f hM aj;refine kg 9 ?_
  exact ⟨au,av,breaks.getD s 0,s+1,_,upds_of _ _ ⟨rfl,rfl,rfl,rfl,trivial⟩,M.e_inl hM ai,H⟩
 replace hM:=M.e_f hM ac
 replace ac:=dI ac
 refine W.exit ?_
 have az:=M.e_inr hM ai
 subst az;replace hM:=am;(try dsimp only at hM);refine kg 4 ?_;refine W.ret ?_
 have ae:=M.e_pure hM
 exact ⟨_,resE_tmp rfl,⟨0,ae,rfl,H⟩⟩

def zbw (s:List RLn) (f:RLn->M Bool):Nat->M (Nat ⊕ (Int ⊕ Unit)):=fun s2 =>
  bif decide ((s2:Int)<(s.length:Int)) then (
  M.grd (decide ((s2:Int)<(s.length:Int))) <|
  M.bind (f (s.getD s2 default)) fun r2 =>
  bif r2 then (
  M.pure (.inr (.inl (s2:Int))))
  else (
  M.pure (.inl (s2+1))))
  else (
  M.pure (.inr (.inr ())))
def zcH (s:List RLn) (f:RLn->M Bool):M Int :=
  M.bind (M.iter (zbw s f) 0) fun x_=>match x_ with
  | (.inl s3)=>(
  M.pure s3)
  | (.inr (_:Unit))=>(
  M.pure (-1))
theorem zfs {R:List Chunk} {ak:Cells} {ac:Value} {ae:Value} (s:List RLn) (f:RLn->M Bool) (ap:Reads R ak) (al:Sl ak ac s) (aq:FnM Tryz.prog R ae f) {r:Int} (hM:(zcH s f).Ends r) (w:World) (H:St w w [] R):Ret Tryz.prog 129 #[ac,ae] w fun v w'=>∃ (y0:Int),y0=r/\v=I y0/\St w w' [] R:=by
 refine ret_of_W Tryz.func129 rfl rfl rfl ?_
 have aB:=(al).len_le
 refine kg 12 ?_;obtain ⟨au,ag,am⟩:=M.e_bind hM
 obtain ⟨aC,ag⟩:=M.e_iter ag
 refine W.loop (fun m σ W=>∃ (s2:Nat) (ρ:Env),σ=upds ρ [(0,ac),(1,ae),(7,I (s.length:Int)),(8,I (s2:Int))]/\M.iterN (zbw s f) m s2=some au/\St w W [] R) ?_ ?_
 ·exact ⟨_,0,_,upds_of _ _ ⟨rfl,rfl,rfl,rfl,trivial⟩,ag,H⟩
 rintro aD σ aE ⟨s2,ρ,rfl,ao,H⟩
 obtain ⟨av,ax,aF,hM,ah⟩:=M.e_iterN ao
 simp only [zbw] at hM
 clear ao;refine kg 5 ?_
 refine W.cond (decide ((s2:Int)<(s.length:Int))) rfl (fun aa=>?_) (fun aa=>?_)
 ·replace hM:=M.e_t hM aa
  replace aa:=dI aa
  obtain ⟨aG,hM⟩:=M.e_gd hM;refine kg 14 ?_;refine s_val (x_ld (v:=.agg #[I ((s.getD s2 default).ast),I ((s.getD s2 default).afl),I ((s.getD s2 default).bst),I ((s.getD s2 default).bfl)]) rfl (ld_ag Ag52 Sz52 (At.mono (RLn_atA al (i:=(s2:Int)) (by omega) (by omega)) (ap.at H)))) ?_;obtain ⟨r2,ay,hM⟩:=M.e_bind hM;refine t_callM H aq rfl rfl (s.getD s2 default) Reads.none ⟨_,rfl,rfl⟩ ay ?_;intro aH H;refine s_nil ?_
  refine W.cond r2 rfl (fun ai=>?_) (fun ai=>?_)
  ·replace hM:=M.e_t hM ai;refine kg 5 ?_;refine W.ret ?_
   have az:=M.e_inr hM ah
   subst az;replace hM:=am;(try dsimp only at hM)
   have aj:=M.e_pure hM
   exact ⟨_,resE_tmp rfl,⟨(s2:Int),aj,rfl,H⟩⟩
  replace hM:=M.e_f hM ai;refine kg 5 ?_
  exact ⟨av,ax,s2+1,_,upds_of _ _ ⟨rfl,rfl,rfl,rfl,trivial⟩,M.e_inl hM ah,H⟩
 replace hM:=M.e_f hM aa
 replace aa:=dI aa
 refine W.exit ?_
 have aA:=M.e_inr hM ah
 subst aA;replace hM:=am;(try dsimp only at hM);refine kg 4 ?_;refine W.ret ?_
 have aj:=M.e_pure hM
 exact ⟨_,resE_tmp rfl,⟨(-1),aj,rfl,H⟩⟩

def zcS (s:List RLn) (f:RLn->M Bool):M Bool :=
  M.bind (zcH s f) fun r2 =>
  M.pure (decide (0<=r2))
theorem zfq {R:List Chunk} {ae:Cells} {aa:Value} {ac:Value} (s:List RLn) (f:RLn->M Bool) (ah:Reads R ae) (ai:Sl ae aa s) (aj:FnM Tryz.prog R ac f) {r:Bool} (hM:(zcS s f).Ends r) (w:World) (H:St w w [] R):Ret Tryz.prog 98 #[aa,ac] w fun v w'=>∃ (y0:Bool),y0=r/\v=B y0/\St w w' [] R:=by
 refine ret_of_W Tryz.func98 rfl rfl rfl ?_;refine kg 8 ?_;obtain ⟨am,ak,hM⟩:=M.e_bind hM;refine s_call cf129 [aa,ac] rfl (zfs s f (ah.app _) ai (aj.app _) ak _ (H.gt 0)) ?_
 rintro vq ao ⟨r2,rfl,hvq,ag⟩
 subst vq;(try dsimp only at hM);replace H:=H.bk ag;clear ag;refine kg 3 ?_;refine W.ret ?_
 have al:=M.e_pure hM
 exact ⟨_,resE_tmp rfl,⟨(decide (0<=r2)),al,rfl,H⟩⟩

def zbR (x:RLn) (aa:RLn->M Bool):M Bool :=
  M.bind (aa x) fun r2 =>
  M.pure (!r2)
theorem zfi {R:List Chunk} {aa:Nat} {ac:Value} (x:RLn) (ae:RLn->M Bool) (ag:FnM Tryz.prog R ac ae) (aj:Has R (cBlk aa [ac] 146)) {r:Bool} (hM:(zbR x ae).Ends r) (w:World) (H:St w w [] R):Ret Tryz.prog 99 #[.agg #[I x.ast,I x.afl,I x.bst,I x.bfl],Pq aa] w fun v w'=>∃ (y0:Bool),y0=r/\v=B y0/\St w w' [] R:=by
 refine ret_of_W Tryz.func99 rfl rfl rfl ?_;refine kg 2 ?_;refine t_bx [I x.ast,I x.afl,I x.bst,I x.bfl] H rfl ?_;intro ak al H;refine kg 6 ?_;obtain ⟨r2,ah,hM⟩:=M.e_bind hM;refine t_callM H ag rfl rfl x Reads.none ⟨_,rfl,rfl⟩ ah ?_;intro am H;refine kg 3 ?_;refine W.ret ?_
 have ai:=M.e_pure hM
 exact ⟨_,resE_tmp rfl,⟨(!r2),ai,rfl,(H.pk [])⟩⟩

def zcW (l:List RLn) (so:RLn->M Bool):M Bool :=
  M.bind (zcS l (fun aa=>zbR aa so)) fun r2 =>
  M.pure (!r2)
theorem zeY {R:List Chunk} {ah:Cells} {ac:Value} {aa:Value} (l:List RLn) (so:RLn->M Bool) (al:Reads R ah) (am:Sl ah ac l) (ai:FnM Tryz.prog R aa so) {r:Bool} (hM:(zcW l so).Ends r) (w:World) (H:St w w [] R):Ret Tryz.prog 65 #[ac,aa] w fun v w'=>∃ (y0:Bool),y0=r/\v=B y0/\St w w' [] R:=by
 refine ret_of_W Tryz.func65 rfl rfl rfl ?_;refine kg 2 ?_;refine t_box (v:=aa) (cs:=[aa]) H rfl (FnM.cells ai) ?_;intro ae aB H;refine kg 5 ?_;refine s_val (x_mf (fs:=[]) (cs:=[Pq ae]) rfl rfl) ?_;obtain ⟨aC,ao,hM⟩:=M.e_bind hM;refine s_call cf98 [ac,.func (.func 99) #[] #[Pq ae]] rfl (zfq l (fun ag=>zbR ag so) (al.app _) am ⟨99,[Pq ae],rfl,cf99,fun aj aD aE ap ag aF aq aG au av=>by obtain rfl:=RLn_arg au; exact (zfi ag so (FnM.app (ai.app _) _) (Has.app (Has.here (k:=0) rfl) _) av aj (St.refl aq)).mono fun ap aj ⟨aH,ax,ay,az⟩=>by subst ax; exact ⟨ay,az⟩⟩ ao _ (H.gt 1)) ?_
 rintro vq aI ⟨r2,rfl,hvq,ak⟩
 subst vq;(try dsimp only at hM);replace H:=H.bk ak;clear ak;refine kg 3 ?_;refine W.ret ?_
 have aA:=M.e_pure hM
 exact ⟨_,resE_tmp rfl,⟨(!r2),aA,rfl,(H.pk [])⟩⟩

def zbj (aa:List Int) (ac:List RLn):M Int :=
  M.bind (zbs aa) fun r2 =>
  bif r2 != 0 then (
  M.pure r2)
  else (
  M.grd (decide ((-9223372036854775808:Int)<=((aa.length:Int)+1))&&decide (((aa.length:Int)+1)<=(9223372036854775807:Int))) <|
  bif (ac.length:Int) != ((aa.length:Int)+1) then (
  M.pure 2)
  else (
  M.bind (zcW ac (fun ae=>zao ae)) fun r3 =>
  bif !r3 then (
  M.pure 50)
  else (
  M.pure 0)))
theorem zd4 {R:List Chunk} {ao:Cells} {ah:Value} {ap:Cells} {ai:Value} (aj:List Int) (ak:List RLn) (ax:Reads R ao) (aq:Sl ao ah aj) (ay:Reads R ap) (au:Sl ap ai ak) {r:Int} (hM:(zbj aj ak).Ends r) (w:World) (H:St w w [] R):Ret Tryz.prog 36 #[.agg #[ah,ai]] w fun v w'=>∃ (y0:Int),y0=r/\v=I y0/\St w w' [] R:=by
 refine ret_of_W Tryz.func36 rfl rfl rfl ?_;refine kg 2 ?_;refine t_bx [ah,ai] H rfl ?_;intro aI aJ H;refine kg 6 ?_;obtain ⟨aK,az,hM⟩:=M.e_bind hM;refine s_call cf64 [ah] rfl (zd3 aj (ax.app _) aq az _ (H.gt 1)) ?_
 rintro vq aL ⟨r2,rfl,hvq,ag⟩
 subst vq;(try dsimp only at hM);replace H:=H.bk ag;clear ag;refine kg 10 ?_
 refine W.cond (r2 != 0) rfl (fun aa=>?_) (fun aa=>?_)
 ·replace hM:=M.e_t hM aa
  replace aa:=dI aa
  refine kg 5 ?_;refine W.ret ?_
  have ac:=M.e_pure hM
  exact ⟨_,resE_tmp rfl,⟨r2,ac,rfl,(H.pk [])⟩⟩
 replace hM:=M.e_f hM aa
 replace aa:=dI aa
 have aM:=(au).len_le
 have aN:=(aq).len_le
 obtain ⟨aO,hM⟩:=M.e_gd hM;refine kg 12 ?_
 refine W.cond ((ak.length:Int) != ((aj.length:Int)+1)) rfl (fun ae=>?_) (fun ae=>?_)
 ·replace hM:=M.e_t hM ae
  replace ae:=dI ae
  refine kg 4 ?_;refine W.ret ?_
  have ac:=M.e_pure hM
  exact ⟨_,resE_tmp rfl,⟨2,ac,rfl,(H.pk [])⟩⟩
 replace hM:=M.e_f hM ae
 replace ae:=dI ae
 refine kg 4 ?_;obtain ⟨aP,aA,hM⟩:=M.e_bind hM;refine s_call cf65 [ai,.func (.func 32) #[] #[]] rfl (zeY ak (fun al=>zao al) (ay.app _) au ⟨32,[],rfl,cf32,fun av aQ aR aB al aS aC aT aD aE=>by obtain rfl:=RLn_arg aD; exact (zbO al aE av (St.refl aC)).mono fun aB av ⟨aU,aF,aG,aH⟩=>by subst aF; exact ⟨aG,aH⟩⟩ aA _ (H.gt 1)) ?_
 rintro vq aV ⟨r3,rfl,hvq,ag⟩
 subst vq;(try dsimp only at hM);replace H:=H.bk ag;clear ag;refine kg 3 ?_
 refine W.cond (!r3) rfl (fun am=>?_) (fun am=>?_)
 ·replace hM:=M.e_t hM am;refine kg 4 ?_;refine W.ret ?_
  have ac:=M.e_pure hM
  exact ⟨_,resE_tmp rfl,⟨50,ac,rfl,(H.pk [])⟩⟩
 replace hM:=M.e_f hM am;refine kg 5 ?_;refine W.ret ?_
 have ac:=M.e_pure hM
 exact ⟨_,resE_tmp rfl,⟨0,ac,rfl,(H.pk [])⟩⟩

def m_cmp_Less_int (x y:Int):M Bool :=
  M.bind (m_cmp_isNaN_int x) fun r2 =>
  M.bind (M.opt r2 (m_cmp_isNaN_int y) false) fun r3 =>
  M.pure ((r2&&(!r3))||(decide (x<y)))
theorem cmp_Less_int_ok {R:List Chunk}  (x:Int) (y:Int)  {r:Bool} (hM:(m_cmp_Less_int x y).Ends r) (w:World) (H:St w w [] R):Ret Tryz.prog 100 #[I x,I y] w fun v w'=>∃ (y0:Bool),y0=r/\v=B y0/\St w w' [] R:=by
 refine ret_of_W Tryz.func100 rfl rfl rfl ?_;refine kg 7 ?_;obtain ⟨ai,ae,hM⟩:=M.e_bind hM;refine s_call cf113 [I x] rfl (cmp_isNaN_int_ok x ae _ (H.gt 0)) ?_
 rintro vq aj ⟨r2,rfl,hvq,ac⟩
 subst vq;(try dsimp only at hM);replace H:=H.bk ac;clear ac;refine kg 2 ?_;obtain ⟨r3,ag,hM⟩:=M.e_bind hM;refine t_gcall r2 (gy_t rfl) cf113 (B r3) (fun _=>[I y]) (fun hg=>lst1 (gd_of hg (I y))) H (fun hg=>(cmp_isNaN_int_ok y (M.e_opt ag hg) _ (H.give (A:=[]) rfl)).mono fun v_ w_ ⟨y_,aa,ah,H_⟩=>by subst aa; exact ⟨ah,H.via H_⟩) ?_;intro ak H;refine kg 1 ?_;refine s_val (x_pand (b:=r2) (r:=!r3) rfl (fun hb=>gd_of (c:=r2) (by first | exact hb | (rw [hb]; rfl) | simp_all) (B (!r3))) rfl) ?_;refine kg 4 ?_;refine s_val (x_por (b:=(r2&&(!r3))) (r:=decide (x<y)) rfl rfl (fun hb=>gd_of (c:=!(r2&&(!r3))) (by first | exact hb | (rw [hb]; rfl) | simp_all) (B (decide (x<y)))))<|zA (B ((r2&&(!r3))||(decide (x<y)))) rfl<|s_nil ?_;refine W.ret ?_
 have aa:=M.e_pure hM
 exact ⟨_,resE_tmp rfl,⟨((r2&&(!r3))||(decide (x<y))),aa,rfl,H⟩⟩

def zc6 (x:Int):M Bool :=
  M.pure (x != x)
theorem zdT {R:List Chunk}  (x:Int)  {r:Bool} (hM:(zc6 x).Ends r) (w:World) (H:St w w [] R):Ret Tryz.prog 101 #[I x] w fun v w'=>∃ (y0:Bool),y0=r/\v=B y0/\St w w' [] R:=by
 refine ret_of_W Tryz.func101 rfl rfl rfl ?_;refine kg 11 ?_;refine W.ret ?_
 have aa:=M.e_pure hM
 exact ⟨_,resE_tmp rfl,⟨(x != x),aa,rfl,H⟩⟩

def zcr (x:List Int) (target:Int):(Int × Int)->M ((Int × Int) ⊕ Int):=fun (i,j) =>
  bif decide (i<j) then (
  M.grd (decide ((-9223372036854775808:Int)<=(i+j))&&decide ((i+j)<=(9223372036854775807:Int))) <|
  M.grd (decide ((0:Int)<=(i+j))&&decide ((i+j)<=(9223372036854775807:Int))) <|
  M.grd (decide ((0:Int)<=((i+j) / 2))&&decide (((i+j) / 2)<=(9223372036854775807:Int))) <|
  M.grd (decide ((0:Int)<=((i+j) / 2))&&decide (((i+j) / 2)<(x.length:Int))) <|
  M.bind (m_cmp_Less_int (x.getD (Int.toNat ((i+j) / 2)) 0) target) fun r2 =>
  bif r2 then (
  M.pure (.inl (((i+j) / 2)+1,j)))
  else (
  M.pure (.inl (i,(i+j) / 2))))
  else (
  M.pure (.inr i))
def zdd (x:List Int) (target:Int):M (Int × Bool) :=
  M.bind (M.iter (zcr x target) (0,(x.length:Int))) fun i2 =>
  M.grd ((!(decide (i2<(x.length:Int)))||(decide ((0:Int)<=i2)&&decide (i2<(x.length:Int))))) <|
  M.grd ((!((decide (i2<(x.length:Int)))&&!((x.getD (Int.toNat i2) 0)==target))||(decide ((0:Int)<=i2)&&decide (i2<(x.length:Int))))) <|
  M.bind (M.opt ((decide (i2<(x.length:Int)))&&!((x.getD (Int.toNat i2) 0)==target)) (zc6 (x.getD (Int.toNat i2) 0)) false) fun r3 =>
  M.bind (M.opt (((decide (i2<(x.length:Int)))&&!((x.getD (Int.toNat i2) 0)==target))&&r3) (zc6 target) false) fun r4 =>
  M.pure (i2,((decide (i2<(x.length:Int)))&&(((x.getD (Int.toNat i2) 0)==target)||(r3&&r4))))
theorem zeS {R:List Chunk} {au:Cells} {aj:Value} (x:List Int) (target:Int) (aA:Reads R au) (al:Sl au aj x) {r:(Int × Bool)} (hM:(zdd x target).Ends r) (w:World) (H:St w w [] R):Ret Tryz.prog 66 #[aj,I target] w fun v w'=>∃ (y0:Int) (y1:Bool),(y0,y1)=r/\v = .tuple #[I y0,B y1]/\St w w' [] R:=by
 refine ret_of_W Tryz.func66 rfl rfl rfl ?_
 have aH:=(al).len_le
 refine kg 19 ?_;obtain ⟨aB,am,aC⟩:=M.e_bind hM
 obtain ⟨aI,am⟩:=M.e_iter am
 refine W.loop (fun m σ W=>∃ (i:Int) (j:Int) (ρ:Env),σ=upds ρ [(0,aj),(1,I target),(6,I (x.length:Int)),(7,I i),(8,I j)]/\M.iterN (zcr x target) m (i,j)=some aB/\St w W [] R) ?_ ?_
 ·exact ⟨_,0,(x.length:Int),_,upds_of _ _ ⟨rfl,rfl,rfl,rfl,rfl,trivial⟩,am,H⟩
 rintro aJ σ aK ⟨i,j,ρ,rfl,av,H⟩
 obtain ⟨ax,ay,aL,hM,ao⟩:=M.e_iterN av
 simp only [zcr] at hM
 clear av;refine kg 7 ?_
 refine W.cond (decide (i<j)) rfl (fun ae=>?_) (fun ae=>?_)
 ·replace hM:=M.e_t hM ae
  replace ae:=dI ae
  obtain ⟨aM,hM⟩:=M.e_gd hM;obtain ⟨aN,hM⟩:=M.e_gd hM;refine kg 7 ?_;refine s_val (x_convU (kd:=.i64) (a:=i+j) Tryz.underlying3 Tryz.underlying176 rfl (by omega))<|s_val (x_ushr1 (a:=i+j) rfl rfl) ?_;obtain ⟨aO,hM⟩:=M.e_gd hM;refine s_val (x_conv64 (kd:=.u64) (a:=(i+j) / 2) Tryz.underlying176 Tryz.underlying3 rfl (by omega)) ?_;obtain ⟨aP,hM⟩:=M.e_gd hM;refine kg 9 ?_;obtain ⟨aQ,aD,hM⟩:=M.e_bind hM;refine s_call cf100 [I (x.getD (Int.toNat ((i+j) / 2)) 0),I target] rfl (cmp_Less_int_ok (x.getD (Int.toNat ((i+j) / 2)) 0) target aD _ (H.gt 0)) ?_
  rintro vq aR ⟨r2,rfl,hvq,az⟩
  subst vq;(try dsimp only at hM);replace H:=H.bk az;clear az;refine s_nil ?_
  refine W.cond r2 rfl (fun ap=>?_) (fun ap=>?_)
  ·replace hM:=M.e_t hM ap;refine kg 5 ?_
   exact ⟨ax,ay,((i+j) / 2)+1,j,_,upds_of _ _ ⟨rfl,rfl,rfl,rfl,rfl,trivial⟩,M.e_inl hM ao,H⟩
  replace hM:=M.e_f hM ap;refine kg 4 ?_
  exact ⟨ax,ay,i,(i+j) / 2,_,upds_of _ _ ⟨rfl,rfl,rfl,rfl,rfl,trivial⟩,M.e_inl hM ao,H⟩
 replace hM:=M.e_f hM ae
 replace ae:=dI ae
 refine W.exit ?_
 have aE:=M.e_inr hM ao
 subst aE;replace hM:=aC;(try dsimp only at hM);obtain ⟨ag,hM⟩:=M.e_grd hM
 replace ag:=M.imp_of ag
 simp only [Bool.and_eq_true,decide_eq_true_eq] at ag
 obtain ⟨ah,hM⟩:=M.e_grd hM
 replace ah:=M.imp_of ah
 simp only [Bool.and_eq_true,decide_eq_true_eq] at ah
 refine kg 16 ?_;refine g_val ((decide (i<(x.length:Int)))&&!((x.getD (Int.toNat i) 0)==target)) (gy_gf rfl rfl) (fun hg=>x_ix (v:=vat aj 1 (Int.toNat i)) (gd_of hg (aj)) (gd_of hg (I i)) (Sl.ix (α:=Int) T28.und T28.size al (by have aa:=ah.resolve_left (by rw [hg]; decide); have ac:=ag.resolve_left (by rw [(Eq.mp (Bool.and_eq_true _ _) hg).1]; decide); first | exact aa | exact aa.1 | exact aa.2 | exact ac | exact ac.1 | exact ac.2 | omega | (have ai:=hg; simp at ai; omega)) (by have aa:=ah.resolve_left (by rw [hg]; decide); have ac:=ag.resolve_left (by rw [(Eq.mp (Bool.and_eq_true _ _) hg).1]; decide); first | exact aa | exact aa.1 | exact aa.2 | exact ac | exact ac.1 | exact ac.2 | omega | (have ai:=hg; simp at ai; omega))))<|g_val ((decide (i<(x.length:Int)))&&!((x.getD (Int.toNat i) 0)==target)) (gy_gf rfl rfl) (fun hg=>x_ld (v:=I (x.getD (Int.toNat i) 0)) (gd_of hg (vat aj 1 (Int.toNat i))) (ld_sc Sc3 (At.mono (Int_at al (i:=i) (by have aa:=ah.resolve_left (by rw [hg]; decide); have ac:=ag.resolve_left (by rw [(Eq.mp (Bool.and_eq_true _ _) hg).1]; decide); first | exact aa | exact aa.1 | exact aa.2 | exact ac | exact ac.1 | exact ac.2 | omega | (have ai:=hg; simp at ai; omega)) (by have aa:=ah.resolve_left (by rw [hg]; decide); have ac:=ag.resolve_left (by rw [(Eq.mp (Bool.and_eq_true _ _) hg).1]; decide); first | exact aa | exact aa.1 | exact aa.2 | exact ac | exact ac.1 | exact ac.2 | omega | (have ai:=hg; simp at ai; omega))) (aA.at H)))) ?_;obtain ⟨r3,aF,hM⟩:=M.e_bind hM;refine t_gcall ((decide (i<(x.length:Int)))&&!((x.getD (Int.toNat i) 0)==target)) (gy_gf rfl rfl) cf101 (B r3) (fun _=>[I (x.getD (Int.toNat i) 0)]) (fun hg=>lst1 (gd_of hg (I (x.getD (Int.toNat i) 0)))) H (fun hg=>(zdT (x.getD (Int.toNat i) 0) (M.e_opt aF hg) _ (H.give (A:=[]) rfl)).mono fun v_ w_ ⟨y_,ak,aq,H_⟩=>by subst ak; exact ⟨aq,H.via H_⟩) ?_;intro aS H;refine kg 2 ?_;obtain ⟨r4,aG,hM⟩:=M.e_bind hM;refine t_gcall (((decide (i<(x.length:Int)))&&!((x.getD (Int.toNat i) 0)==target))&&r3) (gy_gt rfl rfl) cf101 (B r4) (fun _=>[I target]) (fun hg=>lst1 (gd_of hg (I target))) H (fun hg=>(zdT target (M.e_opt aG hg) _ (H.give (A:=[]) rfl)).mono fun v_ w_ ⟨y_,ak,aq,H_⟩=>by subst ak; exact ⟨aq,H.via H_⟩) ?_;intro aT H;refine g_val ((decide (i<(x.length:Int)))&&!((x.getD (Int.toNat i) 0)==target)) (gy_gf rfl rfl) (fun hg=>x_pand (b:=r3) (r:=r4) (gd_of hg (B r3)) (fun hb=>gd_of (c:=(((decide (i<(x.length:Int)))&&!((x.getD (Int.toNat i) 0)==target))&&r3)) (by first | exact hb | (rw [hb]; rfl) | simp_all) (B r4)) rfl)<|g_val (decide (i<(x.length:Int))) (gy_t rfl) (fun hg=>x_por (b:=(x.getD (Int.toNat i) 0)==target) (r:=(r3&&r4)) (gd_of hg (B ((x.getD (Int.toNat i) 0)==target))) rfl (fun hb=>gd_of (c:=((decide (i<(x.length:Int)))&&!((x.getD (Int.toNat i) 0)==target))) (by first | exact hb | (rw [hb]; rfl) | simp_all) (B (r3&&r4))))<|s_val (x_pand (b:=decide (i<(x.length:Int))) (r:=(((x.getD (Int.toNat i) 0)==target)||(r3&&r4))) rfl (fun hb=>gd_of (c:=decide (i<(x.length:Int))) (by first | exact hb | (rw [hb]; rfl) | simp_all) (B (((x.getD (Int.toNat i) 0)==target)||(r3&&r4)))) rfl) ?_;refine kg 1 ?_;refine zA (B ((decide (i<(x.length:Int)))&&(((x.getD (Int.toNat i) 0)==target)||(r3&&r4)))) rfl<|s_nil ?_;refine W.ret ?_
 have ak:=M.e_pure hM
 exact ⟨_,resE_tmp2 rfl,⟨i,((decide (i<(x.length:Int)))&&(((x.getD (Int.toNat i) 0)==target)||(r3&&r4))),ak,rfl,H⟩⟩

def zaq (breaks:List Int) (stage:Int):M Int :=
  M.bind (zdd breaks stage) fun (r0,r1) =>
  bif r1 then (
  M.grd (decide ((-9223372036854775808:Int)<=(r0+1))&&decide ((r0+1)<=(9223372036854775807:Int))) <|
  M.pure (r0+1))
  else (
  M.pure r0)
theorem zaR {R:List Chunk} {ag:Cells} {aa:Value} (breaks:List Int) (stage:Int) (ai:Reads R ag) (aj:Sl ag aa breaks) {r:Int} (hM:(zaq breaks stage).Ends r) (w:World) (H:St w w [] R):Ret Tryz.prog 37 #[aa,I stage] w fun v w'=>∃ (y0:Int),y0=r/\v=I y0/\St w w' [] R:=by
 refine ret_of_W Tryz.func37 rfl rfl rfl ?_;refine kg 8 ?_;obtain ⟨al,ak,hM⟩:=M.e_bind hM;refine s_call cf66 [aa,I stage] rfl (zeS breaks stage (ai.app _) aj ak _ (H.gt 0)) ?_
 rintro vq am ⟨r0,r1,rfl,hvq,ah⟩
 subst vq;(try dsimp only at hM);replace H:=H.bk ah;clear ah;refine kg 11 ?_
 refine W.cond r1 rfl (fun ac=>?_) (fun ac=>?_)
 ·replace hM:=M.e_t hM ac;obtain ⟨ao,hM⟩:=M.e_gd hM;refine kg 10 ?_;refine W.ret ?_
  have ae:=M.e_pure hM
  exact ⟨_,resE_tmp rfl,⟨(r0+1),ae,rfl,H⟩⟩
 replace hM:=M.e_f hM ac;refine kg 6 ?_;refine W.ret ?_
 have ae:=M.e_pure hM
 exact ⟨_,resE_tmp rfl,⟨r0,ae,rfl,H⟩⟩

def zaY (x:RLn) (g:Gg):M Bool :=
  M.bind (zaJ x g.stage) fun (r0,r1) =>
  M.grd (decide ((-9223372036854775808:Int)<=(g.lo*r1))&&decide ((g.lo*r1)<=(9223372036854775807:Int))) <|
  M.grd ((!(decide ((g.lo*r1)<=r0))||(decide ((-9223372036854775808:Int)<=(g.hi*r1))&&decide ((g.hi*r1)<=(9223372036854775807:Int))))) <|
  M.pure ((decide ((g.lo*r1)<=r0))&&(decide (r0<=(g.hi*r1))))
theorem zdX {R:List Chunk}  (x:RLn) (g:Gg)  {r:Bool} (hM:(zaY x g).Ends r) (w:World) (H:St w w [] R):Ret Tryz.prog 38 #[.agg #[I x.ast,I x.afl,I x.bst,I x.bfl],.agg #[I g.stage,I g.lo,I g.hi]] w fun v w'=>∃ (y0:Bool),y0=r/\v=B y0/\St w w' [] R:=by
 refine ret_of_W Tryz.func38 rfl rfl rfl ?_;refine kg 2 ?_;refine t_bx [I x.ast,I x.afl,I x.bst,I x.bfl] H rfl ?_;intro ah ai H;refine t_bx [I g.stage,I g.lo,I g.hi] H rfl ?_;intro aj ak H;refine kg 7 ?_;obtain ⟨al,ae,hM⟩:=M.e_bind hM;refine s_call cf34 [.agg #[I x.ast,I x.afl,I x.bst,I x.bfl],I g.stage] rfl (zcJ x g.stage ae _ (H.gt 2)) ?_
 rintro vq am ⟨r0,r1,rfl,hvq,ac⟩
 subst vq;(try dsimp only at hM);replace H:=H.bk ac;clear ac;refine t_alloc (cs:=[I 0,I 0]) H Al61 rfl ?_;intro ao ap H;refine t_sw 0 0 [I r0,I r1] (.agg #[I r0,I r1]) H rfl rfl Sz61 rfl rfl rfl rfl ?_;intro aq H;obtain ⟨au,hM⟩:=M.e_gd hM;obtain ⟨aa,hM⟩:=M.e_grd hM
 replace aa:=M.imp_of aa
 simp only [Bool.and_eq_true,decide_eq_true_eq] at aa
 refine kg 22 ?_;refine s_val (x_pand (b:=decide ((g.lo*r1)<=r0)) (r:=decide (r0<=(g.hi*r1))) rfl (fun hb=>gd_of (c:=decide ((g.lo*r1)<=r0)) (by first | exact hb | (rw [hb]; rfl) | simp_all) (B (decide (r0<=(g.hi*r1))))) rfl) ?_;refine kg 2 ?_;replace H:=H.pk [];refine W.ret ?_
 have ag:=M.e_pure hM
 exact ⟨_,resE_tmp rfl,⟨((decide ((g.lo*r1)<=r0))&&(decide (r0<=(g.hi*r1)))),ag,rfl,H⟩⟩

def zbN (l:List Gg) (ac:List Int) (aa:List RLn):(Nat × (List Int))->M ((Nat × (List Int)) ⊕ ((List Int) × (List Int))):=fun (s,l2) =>
  bif decide ((s:Int)<(l.length:Int)) then (
  M.grd (decide ((s:Int)<(l.length:Int))) <|
  M.bind (zaq ac ((l.getD s default).stage)) fun r4 =>
  M.grd (decide ((0:Int)<=r4)&&decide (r4<(aa.length:Int))) <|
  M.bind (zaY (aa.getD (Int.toNat r4) default) (l.getD s default)) fun r5 =>
  bif !r5 then (
  M.grd (decide ((l2.length+([(s:Int)]).length)*8<=140737488355328)) <|
  M.pure (.inl (s+1,l2++([(s:Int)]))))
  else (
  M.pure (.inl (s+1,l2))))
  else (
  M.pure (.inr (l2,l2)))
def zbn (l:List Gg) (aa:List Int) (ac:List RLn) (e:Int):M ((List Int) × Int) :=
  bif e != 0 then (
  M.pure (([]),e))
  else (
  M.bind (M.iter (zbN l aa ac) (0,[])) fun (l3,l4) =>
  M.pure (l4,0))
def zbV (l:List Gg) (aa:List Int) (ac:List RLn):M ((List Int) × Int) :=
  M.bind (zby l) fun r2 =>
  bif r2==0 then (
  M.bind (zbj aa ac) fun r3 =>
  zbn l aa ac r3)
  else (
  zbn l aa ac r2)
theorem zfj {R:List Chunk} {ay:Cells} {am:Value} {az:Cells} {ae:Value} {aA:Cells} {ag:Value} (l:List Gg) (ak:List Int) (aa:List RLn) (aB:Reads R ay) (ap:Sl ay am l) (aC:Reads R az) (aD:Sl az ae ak) (aE:Reads R aA) (aF:Sl aA ag aa) {r:((List Int) × Int)} (hM:(zbV l ak aa).Ends r) (w:World) (H:St w w [] R):Ret Tryz.prog 14 #[am,.agg #[ae,ag]] w fun v w'=>∃ (y0:List Int) (y1:Int) (u0:Value),(y0,y1)=r/\v = .tuple #[u0,I y1]/\St w w' [cOwn (α:=Int) 3 u0 y0] R:=by
 refine ret_of_W Tryz.func14 rfl rfl rfl ?_;refine kg 2 ?_;refine t_bx [ae,ag] H rfl ?_;intro ao aU H;refine kg 6 ?_;obtain ⟨aV,aK,hM⟩:=M.e_bind hM;refine s_call cf35 [am] rfl (zd2 l (aB.app _) ap aK _ (H.gt 1)) ?_
 rintro vq aW ⟨r2,rfl,hvq,ac⟩
 subst vq;(try dsimp only at hM);replace H:=H.bk ac;clear ac;refine kg 2 ?_;refine W.seqJ (fun σ W=>∃ (e:Int) (ρ:Env),σ=upds ρ [(0,am),(3,Pq ao),(6,I e)]/\(zbn l ak aa e).Ends r/\St w W [cBlk ao [ae,ag] 55] R) ?_ ?_
 ·skip
  refine kg 5 ?_
  refine W.cond (r2==0) rfl (fun ah=>?_) (fun ah=>?_)
  ·replace hM:=M.e_t hM ah
   replace ah:=dI ah
   refine kg 2 ?_;obtain ⟨aX,aL,hM⟩:=M.e_bind hM;refine s_call cf36 [.agg #[ae,ag]] rfl (zd4 ak aa (aC.app _) aD (aE.app _) aF aL _ (H.gt 1)) ?_
   rintro vq aY ⟨r3,rfl,hvq,ac⟩
   subst vq;(try dsimp only at hM);replace H:=H.bk ac;clear ac;refine kg 2 ?_
   exact ⟨r3,_,upds_of _ _ ⟨rfl,rfl,rfl,trivial⟩,hM,H⟩
  replace hM:=M.e_f hM ah
  replace ah:=dI ah
  refine W.skip ?_
  exact ⟨r2,_,upds_of _ _ ⟨rfl,rfl,rfl,trivial⟩,hM,H⟩
 rintro _ aZ ⟨e,ρ,rfl,hM,H⟩
 unfold zbn at hM
 refine kg 6 ?_
 refine W.cond (e != 0) rfl (fun ai=>?_) (fun ai=>?_)
 ·replace hM:=M.e_t hM ai
  replace ai:=dI ai
  refine kg 6 ?_;refine W.ret ?_
  have aq:=M.e_pure hM
  replace H:=H.nilOwn (α:=Int) 3
  exact ⟨_,resE_tmp2 rfl,⟨([]),e,(.slice none 0 0),aq,rfl,(H.pk [0])⟩⟩
 replace hM:=M.e_f hM ai
 replace ai:=dI ai
 have a7:=(ap).len_le
 refine kg 13 ?_
 replace H:=H.nilOwn (α:=Int) 3
 obtain ⟨aM,au,aN⟩:=M.e_bind hM
 obtain ⟨a8,au⟩:=M.e_iter au
 refine W.loop (fun m σ W=>∃ (s:Nat) (l2:List Int) (al:Value) (ρ:Env),σ=upds ρ [(3,Pq ao),(7,al),(19,am),(20,I (l.length:Int)),(21,I (s:Int))]/\M.iterN (zbN l ak aa) m (s,l2)=some aM/\St w W [cOwn (α:=Int) 3 al l2,cBlk ao [ae,ag] 55] R) ?_ ?_
 ·exact ⟨_,0,[],(.slice none 0 0),_,upds_of _ _ ⟨rfl,rfl,rfl,rfl,rfl,trivial⟩,au,H⟩
 rintro ba σ bb ⟨s,l2,al,ρ,rfl,aG,H⟩
 obtain ⟨aH,aI,bc,hM,av⟩:=M.e_iterN aG
 simp only [zbN] at hM
 clear aG;refine kg 5 ?_
 refine W.cond (decide ((s:Int)<(l.length:Int))) rfl (fun aj=>?_) (fun aj=>?_)
 ·replace hM:=M.e_t hM aj
  replace aj:=dI aj
  obtain ⟨bf,hM⟩:=M.e_gd hM;refine kg 7 ?_;refine s_val (x_ld (v:=.agg #[I ((l.getD s default).stage),I ((l.getD s default).lo),I ((l.getD s default).hi)]) rfl (ld_ag Ag59 Sz59 (At.mono (Gg_atA ap (i:=(s:Int)) (by omega) (by omega)) (aB.at H)))) ?_;refine t_alloc (cs:=[I 0,I 0,I 0]) H Al59 rfl ?_;intro aO bg H;refine kg 1 ?_;refine t_sw 0 0 [I ((l.getD s default).stage),I ((l.getD s default).lo),I ((l.getD s default).hi)] (.agg #[I ((l.getD s default).stage),I ((l.getD s default).lo),I ((l.getD s default).hi)]) H rfl rfl Sz59 rfl rfl rfl rfl ?_;intro bh H;refine kg 2 ?_;refine W.draw (fun W=>St w W [cBlk aO [I ((l.getD s default).stage),I ((l.getD s default).lo),I ((l.getD s default).hi)] 59,cOwn (α:=Int) 3 al l2,cBlk ao [ae,ag] 55] R) [(0,true),(1,true),(2,true),(3,true),(4,true),(5,true),(9,true),(6,false),(7,true),(8,true),(10,false),(11,true)] mixed (by decide +kernel) rfl ?_;intro bi aJ;replace H:=H.ext aJ;clear aJ
  refine ⟨(H.pk [0,1,2]),?_⟩
  refine kg 7 ?_;refine d_l rfl ?_;obtain ⟨bj,aP,hM⟩:=M.e_bind hM;refine s_call cf37 [ae,I ((l.getD s default).stage)] rfl (zaR ak ((l.getD s default).stage) (aC.app _) aD aP _ (H.gt 3)) ?_
  rintro vq bm ⟨r4,rfl,hvq,ac⟩
  subst vq;(try dsimp only at hM);replace H:=H.bk ac;clear ac
  refine s_nil ⟨(H.pk [0,1,2]),?_⟩
  obtain ⟨bn,hM⟩:=M.e_gd hM;refine kg 1 ?_;refine d_q rfl (fun w' H=>x_ld (v:=.agg #[I ((aa.getD (Int.toNat r4) default).ast),I ((aa.getD (Int.toNat r4) default).afl),I ((aa.getD (Int.toNat r4) default).bst),I ((aa.getD (Int.toNat r4) default).bfl)]) rfl (ld_ag Ag52 Sz52 (At.mono (RLn_atA aF (i:=r4) (by omega) (by omega)) (aE.at H))))<|d_l rfl ?_;obtain ⟨bo,aQ,hM⟩:=M.e_bind hM;refine s_call cf38 [.agg #[I ((aa.getD (Int.toNat r4) default).ast),I ((aa.getD (Int.toNat r4) default).afl),I ((aa.getD (Int.toNat r4) default).bst),I ((aa.getD (Int.toNat r4) default).bfl)],.agg #[I ((l.getD s default).stage),I ((l.getD s default).lo),I ((l.getD s default).hi)]] rfl (zdX (aa.getD (Int.toNat r4) default) (l.getD s default) aQ _ (H.gt 3)) ?_
  rintro vq bp ⟨r5,rfl,hvq,ac⟩
  subst vq;(try dsimp only at hM);replace H:=H.bk ac;clear ac
  refine s_nil ⟨(H.pk [0,1,2]),?_⟩
  refine kg 2 ?_
  refine W.cond (!r5) rfl (fun ax=>?_) (fun ax=>?_)
  ·replace hM:=M.e_t hM ax;refine kg 3 ?_;refine t_bs (α:=Int) T28 [I (s:Int)] [(s:Int)] H rfl (.cons rfl (Flat.rep_enc _ (s:Int))<|.nil) rfl rfl rfl ?_;intro aR br H;obtain ⟨bt,hM⟩:=M.e_gd hM;refine t_app (α:=Int) (k:=2) (l:=l2) (l2:=[(s:Int)]) (l':=l2++([(s:Int)])) (vy:=aR) T28 rfl H rfl rfl rfl (H.os 0) (H.ol 0) (rfl) (by first | omega | (simp only [List.length_nil] at *; omega)) ?_;intro aS bu H;replace H:=H.nf;refine kg 2 ?_;replace H:=H.pk [2,3];refine kg 4 ?_
   exact ⟨aH,aI,s+1,l2++([(s:Int)]),aS,_,upds_of _ _ ⟨rfl,rfl,rfl,rfl,rfl,trivial⟩,M.e_inl hM av,H⟩
  replace hM:=M.e_f hM ax;refine kg 5 ?_
  exact ⟨aH,aI,s+1,l2,al,_,upds_of _ _ ⟨rfl,rfl,rfl,rfl,rfl,trivial⟩,M.e_inl hM av,(H.pk [1,2])⟩
 replace hM:=M.e_f hM aj
 replace aj:=dI aj
 refine W.exit ?_
 have aT:=M.e_inr hM av
 subst aT;replace hM:=aN;(try dsimp only at hM);refine kg 6 ?_;refine W.ret ?_
 have aq:=M.e_pure hM
 exact ⟨_,resE_tmp2 rfl,⟨l2,0,al,aq,rfl,(H.pk [0])⟩⟩

def zcx (r_:Rto):M (Int × Int) :=
  bif decide (r_.num<0) then (
  M.pure (0,1))
  else (
  M.grd (decide ((-9223372036854775808:Int)<=(200000*r_.den))&&decide ((200000*r_.den)<=(9223372036854775807:Int))) <|
  bif decide ((200000*r_.den)<r_.num) then (
  M.pure (200000,1))
  else (
  M.pure (r_.num,r_.den)))
theorem zfd {R:List Chunk}  (r_:Rto)  {r:(Int × Int)} (hM:(zcx r_).Ends r) (w:World) (H:St w w [] R):Ret Tryz.prog 164 #[.agg #[I r_.num,I r_.den]] w fun v w'=>∃ (y0:Int) (y1:Int),(y0,y1)=r/\v = .agg #[I y0,I y1]/\St w w' [] R:=by
 refine ret_of_W Tryz.func164 rfl rfl rfl ?_;refine kg 2 ?_;refine t_bx [I r_.num,I r_.den] H rfl ?_;intro aj ak H;refine t_alloc (cs:=[I 0,I 0]) H Al61 rfl ?_;intro al am H;refine kg 10 ?_
 refine W.cond (decide (r_.num<0)) rfl (fun aa=>?_) (fun aa=>?_)
 ·replace hM:=M.e_t hM aa
  replace aa:=dI aa
  refine kg 2 ?_;refine s_val (x_bld (ps:=[(1,I 1)]) (zs:=[I 0,I 0]) (L':=[I 0,I 1]) rfl Tryz.underlying61 Al61 rfl (Bd61 Tryz.underlying61) (.cons (cs:=[I 1]) rfl rfl rfl rfl rfl<|.nil)) ?_;refine t_sw 0 0 [I 0,I 1] (.agg #[I 0,I 1]) H rfl rfl Sz61 rfl rfl rfl rfl ?_;intro ao H;refine s_nil ?_;refine W.ret ?_
  have ag:=(H.bl 0)
  have ae:=M.e_pure hM
  exact ⟨_,(resE_of1 (v:=.agg #[I 0,I 1]) rfl (.cell (v:=.agg #[I 0,I 1]) rfl (run_loadVar_ag (ds:=[I 0,I 1]) Ag61 Sz61 ag rfl rfl)<|.nil)),⟨0,1,ae,rfl,(H.pk [])⟩⟩
 replace hM:=M.e_f hM aa
 replace aa:=dI aa
 obtain ⟨ap,hM⟩:=M.e_gd hM;refine kg 10 ?_
 refine W.cond (decide ((200000*r_.den)<r_.num)) rfl (fun ac=>?_) (fun ac=>?_)
 ·replace hM:=M.e_t hM ac
  replace ac:=dI ac
  refine kg 2 ?_;refine s_val (x_bld (ps:=[(0,I 200000),(1,I 1)]) (zs:=[I 0,I 0]) (L':=[I 200000,I 1]) rfl Tryz.underlying61 Al61 rfl (Bd61 Tryz.underlying61) (.cons (cs:=[I 200000]) rfl rfl rfl rfl rfl<|.cons (cs:=[I 1]) rfl rfl rfl rfl rfl<|.nil)) ?_;refine t_sw 0 0 [I 200000,I 1] (.agg #[I 200000,I 1]) H rfl rfl Sz61 rfl rfl rfl rfl ?_;intro aq H;refine s_nil ?_;refine W.ret ?_
  have ah:=(H.bl 0)
  have ae:=M.e_pure hM
  exact ⟨_,(resE_of1 (v:=.agg #[I 200000,I 1]) rfl (.cell (v:=.agg #[I 200000,I 1]) rfl (run_loadVar_ag (ds:=[I 200000,I 1]) Ag61 Sz61 ah rfl rfl)<|.nil)),⟨200000,1,ae,rfl,(H.pk [])⟩⟩
 replace hM:=M.e_f hM ac
 replace ac:=dI ac
 refine kg 4 ?_;refine t_sw 0 0 [I r_.num,I r_.den] (.agg #[I r_.num,I r_.den]) H rfl rfl Sz61 rfl rfl rfl rfl ?_;intro au H;refine s_nil ?_;refine W.ret ?_
 have ai:=(H.bl 0)
 have ae:=M.e_pure hM
 exact ⟨_,(resE_of1 (v:=.agg #[I r_.num,I r_.den]) rfl (.cell (v:=.agg #[I r_.num,I r_.den]) rfl (run_loadVar_ag (ds:=[I r_.num,I r_.den]) Ag61 Sz61 ai rfl rfl)<|.nil)),⟨r_.num,r_.den,ae,rfl,(H.pk [])⟩⟩

def zbM (x:RLn) (stage:Int):M (Int × Int) :=
  M.bind (zaJ x stage) fun (r0,r1) =>
  M.bind (zcx (⟨(r0:Int),(r1:Int)⟩:Rto)) fun (aa,ac) =>
  M.pure (aa,ac)
theorem zdN {R:List Chunk}  (x:RLn) (stage:Int)  {r:(Int × Int)} (hM:(zbM x stage).Ends r) (w:World) (H:St w w [] R):Ret Tryz.prog 163 #[.agg #[I x.ast,I x.afl,I x.bst,I x.bfl],I stage] w fun v w'=>∃ (y0:Int) (y1:Int),(y0,y1)=r/\v = .agg #[I y0,I y1]/\St w w' [] R:=by
 refine ret_of_W Tryz.func163 rfl rfl rfl ?_;refine kg 2 ?_;refine t_bx [I x.ast,I x.afl,I x.bst,I x.bfl] H rfl ?_;intro ak al H;refine t_alloc (cs:=[I 0,I 0]) H Al61 rfl ?_;intro am ao H;refine kg 5 ?_;obtain ⟨ap,ag,hM⟩:=M.e_bind hM;refine s_call cf34 [.agg #[I x.ast,I x.afl,I x.bst,I x.bfl],I stage] rfl (zcJ x stage ag _ (H.gt 2)) ?_
 rintro vq aq ⟨r0,r1,rfl,hvq,ae⟩
 subst vq;(try dsimp only at hM);replace H:=H.bk ae;clear ae;obtain ⟨au,ah,hM⟩:=M.e_bind hM;refine s_call cf164 [.agg #[I r0,I r1]] rfl (zfd (⟨(r0:Int),(r1:Int)⟩:Rto) ah _ (H.gt 2)) ?_
 rintro vq av ⟨aa,ac,rfl,hvq,ae⟩
 subst vq;(try dsimp only at hM);replace H:=H.bk ae;clear ae;refine t_sw 0 0 [I aa,I ac] (.agg #[I aa,I ac]) H rfl rfl Sz61 rfl rfl rfl rfl ?_;intro ax H;refine s_nil ?_;refine W.ret ?_
 have ai:=(H.bl 0)
 have aj:=M.e_pure hM
 exact ⟨_,(resE_of1 (v:=.agg #[I aa,I ac]) rfl (.cell (v:=.agg #[I aa,I ac]) rfl (run_loadVar_ag (ds:=[I aa,I ac]) Ag61 Sz61 ai rfl rfl)<|.nil)),⟨aa,ac,aj,rfl,(H.pk [])⟩⟩

def zcR (ac:List Int) (aa:List RLn) (stage:Int):M (Int × Int) :=
  M.bind (zaq ac stage) fun r2 =>
  M.grd (decide ((0:Int)<=r2)&&decide (r2<(aa.length:Int))) <|
  M.bind (zbM (aa.getD (Int.toNat r2) default) stage) fun (r0,r1) =>
  M.pure (r0,r1)
theorem ze8 {R:List Chunk} {ai:Cells} {ac:Value} {aj:Cells} {ag:Value} (ah:List Int) (aa:List RLn) (stage:Int) (al:Reads R ai) (am:Sl ai ac ah) (ao:Reads R aj) (ap:Sl aj ag aa) {r:(Int × Int)} (hM:(zcR ah aa stage).Ends r) (w:World) (H:St w w [] R):Ret Tryz.prog 165 #[.agg #[ac,ag],I stage] w fun v w'=>∃ (y0:Int) (y1:Int),(y0,y1)=r/\v = .agg #[I y0,I y1]/\St w w' [] R:=by
 refine ret_of_W Tryz.func165 rfl rfl rfl ?_;refine kg 2 ?_;refine t_bx [ac,ag] H rfl ?_;intro aq az H;refine t_alloc (cs:=[I 0,I 0]) H Al61 rfl ?_;intro aA aB H;refine kg 2 ?_;refine W.draw (fun W=>St w W [cBlk aq [ac,ag] 55] R) [(0,true),(1,true),(2,true),(3,true),(4,true),(8,true),(5,false),(6,true),(7,true),(9,false),(10,false)] mixed (by decide +kernel) rfl ?_;intro aC ak;replace H:=H.ext ak;clear ak
 refine ⟨(H.pk [1]),?_⟩
 refine kg 6 ?_;refine d_l rfl ?_;obtain ⟨aD,au,hM⟩:=M.e_bind hM;refine s_call cf37 [ac,I stage] rfl (zaR ah stage (al.app _) am au _ (H.gt 2)) ?_
 rintro vq aE ⟨r2,rfl,hvq,ae⟩
 subst vq;(try dsimp only at hM);replace H:=H.bk ae;clear ae
 refine s_nil ⟨(H.pk [1]),?_⟩
 obtain ⟨aF,hM⟩:=M.e_gd hM;refine kg 1 ?_;refine d_q rfl (fun w' H=>x_ld (v:=.agg #[I ((aa.getD (Int.toNat r2) default).ast),I ((aa.getD (Int.toNat r2) default).afl),I ((aa.getD (Int.toNat r2) default).bst),I ((aa.getD (Int.toNat r2) default).bfl)]) rfl (ld_ag Ag52 Sz52 (At.mono (RLn_atA ap (i:=r2) (by omega) (by omega)) (ao.at H))))<|d_l rfl ?_;obtain ⟨aG,av,hM⟩:=M.e_bind hM;refine s_call cf163 [.agg #[I ((aa.getD (Int.toNat r2) default).ast),I ((aa.getD (Int.toNat r2) default).afl),I ((aa.getD (Int.toNat r2) default).bst),I ((aa.getD (Int.toNat r2) default).bfl)],I stage] rfl (zdN (aa.getD (Int.toNat r2) default) stage av _ (H.gt 2)) ?_
 rintro vq aH ⟨r0,r1,rfl,hvq,ae⟩
 subst vq;(try dsimp only at hM);replace H:=H.bk ae;clear ae
 refine s_nil ⟨(H.pk [1]),?_⟩
 refine d_l rfl ?_;refine t_sw 0 0 [I r0,I r1] (.agg #[I r0,I r1]) H rfl rfl Sz61 rfl rfl rfl rfl ?_;intro aI H
 refine s_nil ⟨(H.pk [1]),?_⟩
 refine d_nil ?_;refine W.ret ?_
 have ax:=(H.bl 0)
 have ay:=M.e_pure hM
 exact ⟨_,(resE_of1 (v:=.agg #[I r0,I r1]) rfl (.cell (v:=.agg #[I r0,I r1]) rfl (run_loadVar_ag (ds:=[I r0,I r1]) Ag61 Sz61 ax rfl rfl)<|.nil)),⟨r0,r1,ay,rfl,(H.pk [])⟩⟩

def zc0 (x2_Breaks:List Int) (x2_Lines:List RLn) (stage:Int):M (Int × Int) :=
  M.bind (zcR x2_Breaks x2_Lines stage) fun (r0,r1) =>
  M.pure (r0,r1)
theorem zfm {R:List Chunk} {ae:Cells} {aa:Value} {ag:Cells} {ac:Value} (x2_Breaks:List Int) (x2_Lines:List RLn) (stage:Int) (ai:Reads R ae) (aj:Sl ae aa x2_Breaks) (ak:Reads R ag) (al:Sl ag ac x2_Lines) {r:(Int × Int)} (hM:(zc0 x2_Breaks x2_Lines stage).Ends r) (w:World) (H:St w w [] R):Ret Tryz.prog 41 #[.iface 55 (.agg #[aa,ac]),I stage] w fun v w'=>∃ (y0:Int) (y1:Int),(y0,y1)=r/\v = .agg #[I y0,I y1]/\St w w' [] R:=by
 refine ret_of_W Tryz.func41 rfl rfl rfl ?_;refine kg 2 ?_;refine t_alloc (cs:=[I 0,I 0]) H Al61 rfl ?_;intro aq au H;refine kg 5 ?_;obtain ⟨av,am,hM⟩:=M.e_bind hM;refine s_calli (t:=55) (v:=.agg #[aa,ac]) (f:=165) rfl Mi55_flow cf165 [I stage] rfl (ze8 x2_Breaks x2_Lines stage (ai.app _) aj (ak.app _) al am _ (H.gt 1)) ?_
 rintro vq ax ⟨r0,r1,rfl,hvq,ah⟩
 subst vq;(try dsimp only at hM);replace H:=H.bk ah;clear ah;refine t_sw 0 0 [I r0,I r1] (.agg #[I r0,I r1]) H rfl rfl Sz61 rfl rfl rfl rfl ?_;intro ay H;refine s_nil ?_;refine W.ret ?_
 have ao:=(H.bl 0)
 have ap:=M.e_pure hM
 exact ⟨_,(resE_of1 (v:=.agg #[I r0,I r1]) rfl (.cell (v:=.agg #[I r0,I r1]) rfl (run_loadVar_ag (ds:=[I r0,I r1]) Ag61 Sz61 ao rfl rfl)<|.nil)),⟨r0,r1,ap,rfl,(H.pk [])⟩⟩

def zb8 (aa:List Int) (ac:List RLn) (stage:Int):M (Int × Int × Int) :=
  M.bind (zbj aa ac) fun r2 =>
  bif r2 != 0 then (
  M.pure (0,0,r2))
  else (
  M.bind (zah stage 0 2000) fun r3 =>
  bif !r3 then (
  M.pure (0,0,4))
  else (
  M.bind (zc0 aa ac stage) fun (r0,r1) =>
  M.pure (r0,r1,0)))
theorem ze6 {R:List Chunk} {al:Cells} {ae:Value} {am:Cells} {ag:Value} (ai:List Int) (aj:List RLn) (stage:Int) (ao:Reads R al) (ap:Sl al ae ai) (aq:Reads R am) (au:Sl am ag aj) {r:(Int × Int × Int)} (hM:(zb8 ai aj stage).Ends r) (w:World) (H:St w w [] R):Ret Tryz.prog 17 #[.agg #[ae,ag],I stage] w fun v w'=>∃ (y0:Int) (y1:Int) (y2:Int),(y0,y1,y2)=r/\v = .tuple #[.agg #[I y0,I y1],I y2]/\St w w' [] R:=by
 refine ret_of_W Tryz.func17 rfl rfl rfl ?_;refine kg 2 ?_;refine t_bx [ae,ag] H rfl ?_;intro aC aD H;refine t_alloc (cs:=[I 0,I 0]) H Al61 rfl ?_;intro aE aF H;refine kg 6 ?_;obtain ⟨aG,av,hM⟩:=M.e_bind hM;refine s_call cf36 [.agg #[ae,ag]] rfl (zd4 ai aj (ao.app _) ap (aq.app _) au av _ (H.gt 2)) ?_
 rintro vq aH ⟨r2,rfl,hvq,aa⟩
 subst vq;(try dsimp only at hM);replace H:=H.bk aa;clear aa;refine kg 7 ?_
 refine W.cond (r2 != 0) rfl (fun ac=>?_) (fun ac=>?_)
 ·replace hM:=M.e_t hM ac
  replace ac:=dI ac
  refine kg 2 ?_;refine s_val (x_bld (ps:=[]) (zs:=[I 0,I 0]) (L':=[I 0,I 0]) rfl Tryz.underlying61 Al61 rfl (Bd61 Tryz.underlying61) (.nil)) ?_;refine kg 1 ?_;refine t_sw 0 0 [I 0,I 0] (.agg #[I 0,I 0]) H rfl rfl Sz61 rfl rfl rfl rfl ?_;intro aI H;refine kg 2 ?_;refine W.ret ?_
  have ax:=(H.bl 0)
  have ah:=M.e_pure hM
  exact ⟨_,(resE_ofn (vs:=[.agg #[I 0,I 0],I r2]) rfl rfl (.cell (v:=.agg #[I 0,I 0]) rfl (run_loadVar_ag (ds:=[I 0,I 0]) Ag61 Sz61 ax rfl rfl)<|.tmp (v:=I r2) rfl<|.nil)),⟨0,0,r2,ah,rfl,(H.pk [])⟩⟩
 replace hM:=M.e_f hM ac
 replace ac:=dI ac
 refine kg 5 ?_;obtain ⟨aJ,ay,hM⟩:=M.e_bind hM;refine s_call cf33 [I stage,I 0,I 2000] rfl (zak stage 0 2000 ay _ (H.gt 2)) ?_
 rintro vq aK ⟨r3,rfl,hvq,aa⟩
 subst vq;(try dsimp only at hM);replace H:=H.bk aa;clear aa;refine kg 2 ?_
 refine W.cond (!r3) rfl (fun ak=>?_) (fun ak=>?_)
 ·replace hM:=M.e_t hM ak;refine kg 2 ?_;refine s_val (x_bld (ps:=[]) (zs:=[I 0,I 0]) (L':=[I 0,I 0]) rfl Tryz.underlying61 Al61 rfl (Bd61 Tryz.underlying61) (.nil)) ?_;refine t_sw 0 0 [I 0,I 0] (.agg #[I 0,I 0]) H rfl rfl Sz61 rfl rfl rfl rfl ?_;intro aL H;refine kg 2 ?_;refine W.ret ?_
  have az:=(H.bl 0)
  have ah:=M.e_pure hM
  exact ⟨_,(resE_ofn (vs:=[.agg #[I 0,I 0],I 4]) rfl rfl (.cell (v:=.agg #[I 0,I 0]) rfl (run_loadVar_ag (ds:=[I 0,I 0]) Ag61 Sz61 az rfl rfl)<|.tmp (v:=I 4) rfl<|.nil)),⟨0,0,4,ah,rfl,(H.pk [])⟩⟩
 replace hM:=M.e_f hM ak;refine kg 4 ?_;refine s_val (x_mi (v:=.agg #[ae,ag]) Tryz.underlying55 (by intro m h_; cases h_) rfl) ?_;refine kg 1 ?_;obtain ⟨aM,aA,hM⟩:=M.e_bind hM;refine s_call cf41 [.iface 55 (.agg #[ae,ag]),I stage] rfl (zfm ai aj stage (ao.app _) ap (aq.app _) au aA _ (H.gt 2)) ?_
 rintro vq aN ⟨r0,r1,rfl,hvq,aa⟩
 subst vq;(try dsimp only at hM);replace H:=H.bk aa;clear aa;refine t_sw 0 0 [I r0,I r1] (.agg #[I r0,I r1]) H rfl rfl Sz61 rfl rfl rfl rfl ?_;intro aO H;refine kg 2 ?_;refine W.ret ?_
 have aB:=(H.bl 0)
 have ah:=M.e_pure hM
 exact ⟨_,(resE_ofn (vs:=[.agg #[I r0,I r1],I 0]) rfl rfl (.cell (v:=.agg #[I r0,I r1]) rfl (run_loadVar_ag (ds:=[I r0,I r1]) Ag61 Sz61 aB rfl rfl)<|.tmp (v:=I 0) rfl<|.nil)),⟨r0,r1,0,ah,rfl,(H.pk [])⟩⟩

def zd7  : M Unit :=
  M.pure ()
theorem zer {R:List Chunk}    {r:Unit} (hM:(zd7).Ends r) (w:World) (H:St w w [] R):Ret Tryz.prog 69 #[] w fun v w'=>()=r/\v = .agg #[.func (.func 103) #[] #[]]/\St w w' [] R:=by
 refine ret_of_W Tryz.func69 rfl rfl rfl ?_;refine kg 2 ?_;refine t_alloc (cs:=[.nilFunc]) H Al154 rfl ?_;intro ae ag H;refine kg 3 ?_;refine s_val (x_bld (ps:=[(0,.func (.func 103) #[] #[])]) (zs:=[.nilFunc]) (L':=[.func (.func 103) #[] #[]]) rfl Tryz.underlying154 Al154 rfl (Bd154 Tryz.underlying154) (.cons (cs:=[.func (.func 103) #[] #[]]) rfl rfl rfl rfl rfl<|.nil)) ?_;refine t_sw 0 0 [.func (.func 103) #[] #[]] (.agg #[.func (.func 103) #[] #[]]) H rfl rfl Sz154 rfl rfl rfl rfl ?_;intro ah H;refine s_nil ?_;refine W.ret ?_
 have aa:=(H.bl 0)
 have ac:=M.e_pure hM
 exact ⟨_,(resE_of1 (v:=.agg #[.func (.func 103) #[] #[]]) rfl (.cell (v:=.agg #[.func (.func 103) #[] #[]]) rfl (run_loadVar_ag (ds:=[.func (.func 103) #[] #[]]) Ag154 Sz154 aa rfl rfl)<|.nil)),⟨ac,rfl,(H.pk [])⟩⟩

def zbr (aa:List Gg) (ac:List Int) (at_:Int):((List Bool) × Nat)->M (((List Bool) × Nat) ⊕ (List Bool)):=fun (ar,s) =>
  bif decide ((s:Int)<(aa.length:Int)) then (
  M.grd (decide ((s:Int)<(aa.length:Int))) <|
  M.bind (zaq ac ((aa.getD s default).stage)) fun r2 =>
  M.grd (decide ((0:Int)<=(s:Int))&&decide ((s:Int)<(24:Int))) <|
  M.pure (.inl (ar.set s (r2==at_),s+1)))
  else (
  M.pure (.inr ar))
def zbE (aa:List Gg) (ac:List Bool):(Nat × (List Gg))->M ((Nat × (List Gg)) ⊕ ((List Gg) × (List Gg))):=fun (s2,l) =>
  bif decide ((s2:Int)<(aa.length:Int)) then (
  M.grd (decide ((s2:Int)<(aa.length:Int))) <|
  M.grd (decide ((0:Int)<=(s2:Int))&&decide ((s2:Int)<(24:Int))) <|
  bif ac.getD s2 false then (
  M.grd (decide ((l.length+([(aa.getD s2 default)]).length)*24<=140737488355328)) <|
  M.pure (.inl (s2+1,l++([(aa.getD s2 default)]))))
  else (
  M.pure (.inl (s2+1,l))))
  else (
  M.pure (.inr (l,l)))
def zbG (aa:List Gg) (ac:List Int) (at_:Int):M (List Gg) :=
  M.bind (M.iter (zbr aa ac at_) (List.replicate 24 false,0)) fun ae =>
  M.bind (M.iter (zbE aa ae) (0,[])) fun (l2,l3) =>
  M.pure l3
theorem zdE {R:List Chunk} {al:Nat} {ax:Cells} {ai:Value} {ay:Cells} {am:Value} {aI:Nat} (aa:List Gg) (aj:List Int) (at_:Int) (az:Reads R ax) (ak:Sl ax ai aa) (aJ:Reads R ay) (aK:Sl ay am aj) (a8:Has R (cBlk al [ai,am,.map (some aI)] 182)) {r:(List Gg)} (hM:(zbG aa aj at_).Ends r) (w:World) (H:St w w [] R):Ret Tryz.prog 130 #[Pq al,I at_] w fun v w'=>∃ (y0:List Gg) (u0:Value),y0=r/\v=u0/\St w w' [cOwn (α:=Gg) 59 u0 y0] R:=by
 refine ret_of_W Tryz.func130 rfl rfl rfl ?_;refine kg 6 ?_;refine t_alloc (cs:=encB (List.replicate 24 false)) H Al220 rfl ?_;intro ac ba H
 have aL:(List.replicate 24 false).length=24:=by simp
 have bb:=(ak).len_le
 refine kg 13 ?_;obtain ⟨aM,ao,aN⟩:=M.e_bind hM
 obtain ⟨aO,ao⟩:=M.e_iter ao
 refine W.loop (fun m σ W=>∃ (ar:List Bool) (s:Nat) (ρ:Env),σ=upds ρ [(0,Pq al),(1,I at_),(5,Pq ac),(15,ai),(16,I (aa.length:Int)),(17,I (s:Int))]/\M.iterN (zbr aa aj at_) m (ar,s)=some aM/\St w W [cBlk ac (encB ar) 220] R/\ar.length=24) ?_ ?_
 ·exact ⟨_,List.replicate 24 false,0,_,upds_of _ _ ⟨rfl,rfl,rfl,rfl,rfl,rfl,trivial⟩,ao,H,aL⟩
 rintro bc σ bf ⟨ar,s,ρ,rfl,aA,H,ap⟩
 obtain ⟨aP,aQ,bg,hM,aB⟩:=M.e_iterN aA
 simp only [zbr] at hM
 clear aA;refine kg 5 ?_
 refine W.cond (decide ((s:Int)<(aa.length:Int))) rfl (fun ae=>?_) (fun ae=>?_)
 ·replace hM:=M.e_t hM ae
  replace ae:=dI ae
  obtain ⟨bh,hM⟩:=M.e_gd hM;refine kg 7 ?_;refine s_val (x_ld (v:=.agg #[I ((aa.getD s default).stage),I ((aa.getD s default).lo),I ((aa.getD s default).hi)]) rfl (ld_ag Ag59 Sz59 (At.mono (Gg_atA ak (i:=(s:Int)) (by omega) (by omega)) (az.at H)))) ?_;refine t_alloc (cs:=[I 0,I 0,I 0]) H Al59 rfl ?_;intro aC bi H;refine kg 1 ?_;refine t_sw 0 0 [I ((aa.getD s default).stage),I ((aa.getD s default).lo),I ((aa.getD s default).hi)] (.agg #[I ((aa.getD s default).stage),I ((aa.getD s default).lo),I ((aa.getD s default).hi)]) H rfl rfl Sz59 rfl rfl rfl rfl ?_;intro bj H;refine s_nil ?_;refine W.draw (fun W=>St w W [cBlk aC [I ((aa.getD s default).stage),I ((aa.getD s default).lo),I ((aa.getD s default).hi)] 59] R) [(0,true),(1,true),(2,true),(3,true),(4,true),(5,true),(6,true),(7,true),(9,true),(8,false),(10,true),(11,true),(12,false)] mixed (by decide +kernel) rfl ?_;intro bm aD;replace H:=H.ext aD;clear aD
  refine ⟨(H.pk [0]),?_⟩
  refine kg 9 ?_;refine d_l rfl ?_;obtain ⟨bn,aR,hM⟩:=M.e_bind hM;refine s_call cf37 [am,I ((aa.getD s default).stage)] rfl (zaR aj ((aa.getD s default).stage) (aJ.app _) aK aR _ (H.gt 2)) ?_
  rintro vq bo ⟨r2,rfl,hvq,aE⟩
  subst vq;(try dsimp only at hM);replace H:=H.bk aE;clear aE
  refine s_nil ⟨(H.pk [0]),?_⟩
  obtain ⟨bp,hM⟩:=M.e_gd hM;refine kg 1 ?_;refine d_q rfl (fun w' H=>x_ix (v:=.pointer (some ⟨ac,0+Int.toNat (s:Int),none⟩)) rfl rfl (run_indexArr Tryz.underlying220 Sz4 (by omega) (by omega)))<|d_l rfl ?_;refine t_stArr (k:=1) (b:=ac) (l:=ar) (l':=ar.set s (r2==at_)) (i:=(s:Int)) (v:=r2==at_) (L':=[cBlk aC [I ((aa.getD s default).stage),I ((aa.getD s default).lo),I ((aa.getD s default).hi)] 59,cBlk ac (encB (ar.set s (r2==at_))) 220]) H rfl rfl rfl Sz4 (by omega) (by have aS:=ap; omega) rfl rfl ?_;intro br H
  have aT:(ar.set s (r2==at_)).length=24:=List.length_set.trans ap
  refine s_nil ⟨(H.pk [0]),?_⟩
  refine kg 5 ?_
  exact ⟨aP,aQ,ar.set s (r2==at_),s+1,_,upds_of _ _ ⟨rfl,rfl,rfl,rfl,rfl,rfl,trivial⟩,M.e_inl hM aB,(H.pk [1]),aT⟩
 replace hM:=M.e_f hM ae
 replace ae:=dI ae
 refine W.exit ?_
 have aU:=M.e_inr hM aB
 subst aU;replace hM:=aN;(try dsimp only at hM)
 have bt:=(ak).len_le
 refine kg 16 ?_
 replace H:=H.nilOwn (α:=Gg) 59
 obtain ⟨aV,aq,aW⟩:=M.e_bind hM
 obtain ⟨aO,aq⟩:=M.e_iter aq
 refine W.loop (fun m σ W=>∃ (s2:Nat) (l:List Gg) (ah:Value) (ρ:Env),σ=upds ρ [(5,Pq ac),(8,ah),(39,ai),(40,I (aa.length:Int)),(41,I (s2:Int))]/\M.iterN (zbE aa ar) m (s2,l)=some aV/\St w W [cOwn (α:=Gg) 59 ah l,cBlk ac (encB ar) 220] R) ?_ ?_
 ·exact ⟨_,0,[],(.slice none 0 0),_,upds_of _ _ ⟨rfl,rfl,rfl,rfl,rfl,trivial⟩,aq,H⟩
 rintro bu σ bv ⟨s2,l,ah,ρ,rfl,aF,H⟩
 obtain ⟨aG,aH,bw,hM,au⟩:=M.e_iterN aF
 simp only [zbE] at hM
 clear aF;refine kg 5 ?_
 refine W.cond (decide ((s2:Int)<(aa.length:Int))) rfl (fun ag=>?_) (fun ag=>?_)
 ·replace hM:=M.e_t hM ag
  replace ag:=dI ag
  obtain ⟨bx,hM⟩:=M.e_gd hM;refine kg 7 ?_;refine s_val (x_ld (v:=.agg #[I ((aa.getD s2 default).stage),I ((aa.getD s2 default).lo),I ((aa.getD s2 default).hi)]) rfl (ld_ag Ag59 Sz59 (At.mono (Gg_atA ak (i:=(s2:Int)) (by omega) (by omega)) (az.at H)))) ?_;refine t_alloc (cs:=[I 0,I 0,I 0]) H Al59 rfl ?_;intro bz bA H;refine kg 1 ?_;refine t_sw 0 0 [I ((aa.getD s2 default).stage),I ((aa.getD s2 default).lo),I ((aa.getD s2 default).hi)] (.agg #[I ((aa.getD s2 default).stage),I ((aa.getD s2 default).lo),I ((aa.getD s2 default).hi)]) H rfl rfl Sz59 rfl rfl rfl rfl ?_;intro bB H;obtain ⟨bC,hM⟩:=M.e_gd hM;refine kg 4 ?_;refine s_val (x_ix (v:=.pointer (some ⟨ac,0+Int.toNat (s2:Int),none⟩)) rfl rfl (run_indexArr Tryz.underlying220 Sz4 (by omega) (by omega)))<|s_val (x_ld (v:=B (ar.getD s2 false)) rfl (ldArr Sc4 (H.bl 2) (by omega) (by have aS:=ap; omega)))<|s_nil ?_
  refine W.cond (ar.getD s2 false) rfl (fun av=>?_) (fun av=>?_)
  ·replace hM:=M.e_t hM av;refine kg 3 ?_;refine t_bs (α:=Gg) T177 [.agg #[I ((aa.getD s2 default).stage),I ((aa.getD s2 default).lo),I ((aa.getD s2 default).hi)]] [(aa.getD s2 default)] H rfl (.cons rfl (Flat.rep_enc _ (aa.getD s2 default))<|.nil) rfl rfl rfl ?_;intro aX bD H;obtain ⟨bE,hM⟩:=M.e_gd hM;refine t_app (α:=Gg) (k:=2) (l:=l) (l2:=[(aa.getD s2 default)]) (l':=l++([(aa.getD s2 default)])) (vy:=aX) T177 rfl H rfl rfl rfl (H.os 0) (H.ol 0) (rfl) (by first | omega | (simp only [List.length_nil] at *; omega)) ?_;intro aY bF H;replace H:=H.nf;refine kg 2 ?_;replace H:=H.pk [2,3];refine kg 4 ?_
   exact ⟨aG,aH,s2+1,l++([(aa.getD s2 default)]),aY,_,upds_of _ _ ⟨rfl,rfl,rfl,rfl,rfl,trivial⟩,M.e_inl hM au,H⟩
  replace hM:=M.e_f hM av;refine kg 5 ?_
  exact ⟨aG,aH,s2+1,l,ah,_,upds_of _ _ ⟨rfl,rfl,rfl,rfl,rfl,trivial⟩,M.e_inl hM au,(H.pk [1,2])⟩
 replace hM:=M.e_f hM ag
 replace ag:=dI ag
 refine W.exit ?_
 have aZ:=M.e_inr hM au
 subst aZ;replace hM:=aW;(try dsimp only at hM);refine kg 5 ?_;refine W.ret ?_
 have a7:=M.e_pure hM
 exact ⟨_,resE_tmp rfl,⟨l,ah,a7,rfl,(H.pk [0])⟩⟩

def zch (s:List Gg):M Unit :=
  M.pure ()
theorem zd9 {R:List Chunk} {ac:Cells} {aa:Value} (s:List Gg) (aj:Reads R ac) (ah:Sl ac aa s) {r:Unit} (hM:(zch s).Ends r) (w:World) (H:St w w [] R):Ret Tryz.prog 131 #[aa] w fun v w'=>∃ (ae:Nat),()=r/\v = .func (.func 144) #[] #[Pq ae]/\St w w' [cBlk ae [aa] 177] R:=by
 refine ret_of_W Tryz.func131 rfl rfl rfl ?_;refine kg 2 ?_;refine t_box (v:=aa) (cs:=[aa]) H rfl (Sl.cells ah) ?_;intro ag ak H;refine kg 4 ?_;refine s_val (x_mf (fs:=[]) (cs:=[Pq ag]) rfl rfl) ?_;refine kg 2 ?_;refine W.ret ?_
 have ai:=M.e_pure hM
 exact ⟨_,resE_tmp rfl,⟨ag,ai,rfl,H⟩⟩

def zaW (s:List Pt) (v:Pt):Nat->M (Nat ⊕ (Int ⊕ Unit)):=fun s2 =>
  bif decide ((s2:Int)<(s.length:Int)) then (
  M.grd (decide ((s2:Int)<(s.length:Int))) <|
  bif decide (v=(s.getD s2 default)) then (
  M.pure (.inr (.inl (s2:Int))))
  else (
  M.pure (.inl (s2+1))))
  else (
  M.pure (.inr (.inr ())))
def zdb (s:List Pt) (v:Pt):M Int :=
  M.bind (M.iter (zaW s v) 0) fun x_=>match x_ with
  | (.inl s3)=>(
  M.pure s3)
  | (.inr (_:Unit))=>(
  M.pure (-1))
theorem zem {R:List Chunk} {ak:Cells} {ae:Value} (s:List Pt) (v:Pt) (aq:Reads R ak) (al:Sl ak ae s) {r:Int} (hM:(zdb s v).Ends r) (w:World) (H:St w w [] R):Ret Tryz.prog 147 #[ae,.agg #[I v.stage,I v.flow]] w fun v w'=>∃ (y0:Int),y0=r/\v=I y0/\St w w' [] R:=by
 refine ret_of_W Tryz.func147 rfl rfl rfl ?_;refine kg 2 ?_;refine t_bx [I v.stage,I v.flow] H rfl ?_;intro ag aA H
 have aB:=(al).len_le
 refine kg 10 ?_;obtain ⟨au,ah,am⟩:=M.e_bind hM
 obtain ⟨aC,ah⟩:=M.e_iter ah
 refine W.loop (fun m σ W=>∃ (s2:Nat) (ρ:Env),σ=upds ρ [(0,ae),(3,Pq ag),(7,I (s.length:Int)),(8,I (s2:Int))]/\M.iterN (zaW s v) m s2=some au/\St w W [cBlk ag [I v.stage,I v.flow] 50] R) ?_ ?_
 ·exact ⟨_,0,_,upds_of _ _ ⟨rfl,rfl,rfl,rfl,trivial⟩,ah,H⟩
 rintro aD σ aE ⟨s2,ρ,rfl,ao,H⟩
 obtain ⟨av,ax,aF,hM,ai⟩:=M.e_iterN ao
 simp only [zaW] at hM
 clear ao;refine kg 5 ?_
 refine W.cond (decide ((s2:Int)<(s.length:Int))) rfl (fun aa=>?_) (fun aa=>?_)
 ·replace hM:=M.e_t hM aa
  replace aa:=dI aa
  refine kg 9 ?_;refine W.draw (fun W=>St w W [cBlk ag [I v.stage,I v.flow] 50] R) [(0,true),(1,true),(2,true),(3,true),(4,true),(5,true)] mixed (by decide +kernel) rfl ?_;intro aG ap;replace H:=H.ext ap;clear ap
  refine ⟨(H.pk [0]),?_⟩
  obtain ⟨aH,hM⟩:=M.e_gd hM;refine kg 4 ?_;refine d_q rfl (fun w' H=>x_ld (v:=.agg #[I ((s.getD s2 default).stage),I ((s.getD s2 default).flow)]) rfl (ld_ag Ag50 Sz50 (At.mono (Pt_atA al (i:=(s2:Int)) (by omega) (by omega)) (aq.at H))))<|d_q rfl (fun w' H=>x_eqS (eqT50 v (s.getD s2 default) _) gdT50 rfl rfl) ?_;refine d_nil ?_
  refine W.cond (decide (v=(s.getD s2 default))) rfl (fun ac=>?_) (fun ac=>?_)
  ·replace hM:=M.e_t hM ac
   replace ac:=dI ac
   refine kg 5 ?_;refine W.ret ?_
   have ay:=M.e_inr hM ai
   subst ay;replace hM:=am;(try dsimp only at hM)
   have aj:=M.e_pure hM
   exact ⟨_,resE_tmp rfl,⟨(s2:Int),aj,rfl,(H.pk [])⟩⟩
  replace hM:=M.e_f hM ac
  replace ac:=dI ac
  refine kg 5 ?_
  exact ⟨av,ax,s2+1,_,upds_of _ _ ⟨rfl,rfl,rfl,rfl,trivial⟩,M.e_inl hM ai,H⟩
 replace hM:=M.e_f hM aa
 replace aa:=dI aa
 refine W.exit ?_
 have az:=M.e_inr hM ai
 subst az;replace hM:=am;(try dsimp only at hM);refine kg 4 ?_;refine W.ret ?_
 have aj:=M.e_pure hM
 exact ⟨_,resE_tmp rfl,⟨(-1),aj,rfl,(H.pk [])⟩⟩

def zcz (s:List Pt) (v:Pt):M Bool :=
  M.bind (zdb s v) fun r2 =>
  M.pure (decide (0<=r2))
theorem ze2 {R:List Chunk} {ac:Cells} {aa:Value} (s:List Pt) (v:Pt) (ag:Reads R ac) (ah:Sl ac aa s) {r:Bool} (hM:(zcz s v).Ends r) (w:World) (H:St w w [] R):Ret Tryz.prog 145 #[aa,.agg #[I v.stage,I v.flow]] w fun v w'=>∃ (y0:Bool),y0=r/\v=B y0/\St w w' [] R:=by
 refine ret_of_W Tryz.func145 rfl rfl rfl ?_;refine kg 2 ?_;refine t_bx [I v.stage,I v.flow] H rfl ?_;intro ak al H;refine kg 6 ?_;obtain ⟨am,ai,hM⟩:=M.e_bind hM;refine s_call cf147 [aa,.agg #[I v.stage,I v.flow]] rfl (zem s v (ag.app _) ah ai _ (H.gt 1)) ?_
 rintro vq ao ⟨r2,rfl,hvq,ae⟩
 subst vq;(try dsimp only at hM);replace H:=H.bk ae;clear ae;refine kg 3 ?_;refine W.ret ?_
 have aj:=M.e_pure hM
 exact ⟨_,resE_tmp rfl,⟨(decide (0<=r2)),aj,rfl,(H.pk [])⟩⟩

end Go.Proofs.YtnncijcapdnlgaaGreat
end
