/- Part 5 of the texts on which the proof rests. Conditions: none. -/
import Derived.KernelRfl
import Derived.Test.YtlfkkkbhejeplaaGreatZA4
set_option linter.unusedVariables false
set_option linter.unusedSimpArgs false
set_option linter.unusedSectionVars false
section
set_option maxRecDepth 100000
set_option maxHeartbeats 16000000
namespace Go.Proofs.YtlfkkkbhejeplaaGreat
open Go Go.Nm
attribute [local irreducible] gd execOp SL SLD SLT WR
def zcc (ac:List Int) (ae:List Span) (aa:List Int) (ab:List Town) (ag ah:Int) (ai:List Flood) (s2:Nat):(Nat × (List Dem))->M ((Nat × (List Dem)) ⊕ ((List Dem) × (List Dem))):=fun (s,l4) =>
  bif decide ((s:Int)<(ab.length:Int)) then (
  M.grd (decide ((s:Int)<(ab.length:Int))) <|
  M.bind (za7 ac ae aa ab ag ah ai (aa.getD s2 0) ((ab.getD s default).station)) fun (aj,ak,r1) =>
  bif r1 then (
  M.grd (decide ((l4.length+([(⟨(aa.getD s2 0:Int),(s:Int)⟩:Dem)]).length)*16<=140737488355328)) <|
  M.pure (.inl (s+1,l4++([(⟨(aa.getD s2 0:Int),(s:Int)⟩:Dem)]))))
  else (
  M.fail))
  else (
  M.pure (.inr (l4,l4)))
def zbO (ab:List Int) (ac:List Span) (aa:List Int) (ae:List Town) (ag ah:Int) (ai:List Flood):(Nat × (List Dem))->M ((Nat × (List Dem)) ⊕ ((List Dem) × (List Dem))):=fun (s2,l6) =>
  bif decide ((s2:Int)<(aa.length:Int)) then (
  M.grd (decide ((s2:Int)<(aa.length:Int))) <|
  M.bind (M.iter (zcc ab ac aa ae ag ah ai s2) (0,l6)) fun (l2,l5) =>
  M.pure (.inl (s2+1,l5)))
  else (
  M.pure (.inr (l6,l6)))
def zcL (aa:List Int) (ab:List Span) (ac:List Int) (ae:List Town) (ag ah:Int) (ai:List Flood):M (List Dem) :=
  M.bind (M.iter (zbO aa ab ac ae ag ah ai) (0,[])) fun (l7,l8) =>
  M.pure l8
theorem zc5 {R ac aq au av aw ax ae ay al az aA aD}(ag ah aa ab ai aj ak)(aS:Reads R aq)(aT:Sl aq au ag)(aU:Reads R av)(aV:Sl av aw ah)(aW:Reads R ax)(aE:Sl ax ae aa)(aX:Reads R ay)(aF:Sl ay al ab)(aY:Reads R az)(aZ:Sl az aA ak)(a7:Has R (cBlk ac [au,aw,ae,al,I ai,I aj,aA,.map (some aD)] 202)){r}(hM:(zcL ag ah aa ab ai aj ak).Ends r)(w)(H:St w w [] R):Ret Tryz.prog 102 #[Pq ac] w fun v w'=>∃ y0 u0,y0=r/\v=u0/\St w w' [cOwn (α:=Dem) 207 u0 y0] R:=by
 refine ret_of_W Tryz.func102 rfl rfl rfl ?_;have a8:=(aE).len_le;refine kg 20 ?_;replace H:=H.nilOwn (α:=Dem) 207;obtain ⟨aG,aB,aH⟩:=M.e_bind hM;obtain ⟨aI,aB⟩:=M.e_iter aB;refine W.loop (fun m σ W=>∃ (s2:Nat) (l6:List Dem) (ao:Value) (ρ:Env),σ=upds ρ [(0,Pq ac),(3,ao),(14,ae),(15,I (aa.length:Int)),(16,I (s2:Int))]/\M.iterN (zbO ag ah aa ab ai aj ak) m (s2,l6)=some aG/\St w W [cOwn (α:=Dem) 207 ao l6] R) ?_ ?_
 ·exact kY
 rintro bc σ bf ⟨s2,l6,ao,ρ,rfl,aJ,H⟩;obtain ⟨bh,bi,bj,hM,aK⟩:=M.e_iterN aJ;refine kI 5 ?_ ?_
 ·intro aL hM;obtain ⟨bm,hM⟩:=M.e_gq hM;have bn:=(aF).len_le;refine kg 20 ?_;obtain ⟨aM,aC,aN⟩:=M.e_bind hM;obtain ⟨aI,aC⟩:=M.e_iter aC;refine W.loop (fun m σ W=>∃ (s:Nat) (l4:List Dem) (ap:Value) (ρ:Env),σ=upds ρ [(0,Pq ac),(3,ap),(5,I (aa.getD s2 0)),(14,ae),(15,I (aa.length:Int)),(16,I (s2:Int)),(24,al),(25,I (ab.length:Int)),(26,I (s:Int))]/\M.iterN (zcc ag ah aa ab ai aj ak s2) m (s,l4)=some aM/\St w W [cOwn (α:=Dem) 207 ap l4] R) ?_ ?_
  ·exact kY
  rintro bo σ bp ⟨s,l4,ap,ρ,rfl,aO,H⟩;obtain ⟨br,bt,bu,hM,aP⟩:=M.e_iterN aO;refine kI 5 ?_ ?_
  ·intro aQ hM;obtain ⟨bv,hM⟩:=M.e_gq hM;refine kA 8 ?_;intro bw bA H;refine kS 1 ?_;intro bB H;refine kC 7 @zct ?_;intro bC bD bE r1 hM H;refine kA 3 ?_;intro bF bG H;refine ksw ?_;intro bH H;refine kg 2 ?_;replace H:=H.pk [2];refine kI 4 ?_ ?_
   ·intro aR hM;refine kL 5 (α:=Dem) [⟨aa.getD s2 0,s⟩] ?_;intro bI bJ H;obtain ⟨bK,hM⟩:=M.e_gq hM;refine kP 0 ?_;intro bL bM H;exact kXp 6 [1]
   intro aR hM;exact (M.e_fail hM).elim
  intro aQ hM;refine W.exit ?_;obtain rfl:=M.e_inr hM aP;replace hM:=aN;exact kX 4
 intro aL hM;refine W.exit ?_;obtain rfl:=M.e_inr hM aK;replace hM:=aH;refine kg 5 ?_;exact rt

def zco (d:Dem) (aa:List Int) (ab:List Span) (ac:List Int) (ae:List Town) (ag ah:Int) (ai:List Flood):M Bool :=
  M.bind (zaa aa ab ac ae ag ah ai d) fun r2 =>
  M.pure (decide (0<(r2.length:Int)))
theorem zdq {R al aj ao ap aq au av aw ax ay az aA ak B_b_k0207}(d aa ab ac ae ag ah ai)(aB:Reads R ao)(aC:Sl ao ap aa)(aD:Reads R aq)(aE:Sl aq au ab)(aF:Reads R av)(aG:Sl av aw ac)(aH:Reads R ax)(aI:Sl ax ay ae)(aJ:Reads R az)(aK:Sl az aA ai)(aL:Has R (cBlk aj [ap,au,aw,ay,I ag,I ah,aA,.map (some ak)] 202))(aQ:Has R (cBlk al [.func (.func 103) #[Pq aj] #[]] 204)){r}(hM:(zco d aa ab ac ae ag ah ai).Ends r)(w)(H:St w w [cMem encDm ak B_b_k0207 (zaa aa ab ac ae ag ah ai)] R):Ret Tryz.prog 105 #[.agg #[I d.spring,I d.town],Pq al] w fun v w'=>∃ y0 aM,y0=r/\v=B y0/\St w w' [cMem encDm ak aM (zaa aa ab ac ae ag ah ai)] R:=by
 refine ret_of_W Tryz.func105 rfl rfl rfl ?_;refine kB 2 ?_;intro aR aS H;refine kg 6 ?_;obtain ⟨aT,aN,hM⟩:=M.e_bind hM;refine s_callm (f:=103) (fs:=[Pq aj]) rfl cq [.agg #[I d.spring,I d.town]] rfl (zbk aa ab ac ae ag ah ai d (aB.app _) aC (aD.app _) aE (aF.app _) aG (aH.app _) aI (aJ.app _) aK (aL.app _) aN _ ((H.pk [1,0]).gt 1)) ?_;rintro vq aU ⟨r2,aV,aW,rfl,hvq,aO,aP⟩;subst vq;replace H:=H.pk [1,0] |>.bk aO
 have aX:=(aP).len_le;exact kR 4 [0]

def zb1 (x:Dem) (aa:List Int) (ab:List Span) (ac:List Int) (ae:List Town) (ag ah:Int) (ai:List Flood):M Bool :=
  M.bind (zco x aa ab ac ae ag ah ai) fun r2 =>
  M.pure (!r2)
theorem zdj {R ak al ao ap aq au av aw ax ay az aA aB aj B_b_k020207}(x aa ab ac ae ag ah ai)(aC:Reads R ap)(aD:Sl ap aq aa)(aE:Reads R au)(aF:Sl au av ab)(aG:Reads R aw)(aH:Sl aw ax ac)(aI:Reads R ay)(aJ:Sl ay az ae)(aK:Reads R aA)(aL:Sl aA aB ai)(aM:Has R (cBlk ao [aq,av,ax,az,I ag,I ah,aB,.map (some aj)] 202))(aN:Has R (cBlk al [.func (.func 103) #[Pq ao] #[]] 204))(aR:Has R (cBlk ak [.func (.func 105) #[] #[Pq al]] 208)){r}(hM:(zb1 x aa ab ac ae ag ah ai).Ends r)(w)(H:St w w [cMem encDm aj B_b_k020207 (zaa aa ab ac ae ag ah ai)] R):Ret Tryz.prog 148 #[.agg #[I x.spring,I x.town],Pq ak] w fun v w'=>∃ y0 aO,y0=r/\v=B y0/\St w w' [cMem encDm aj aO (zaa aa ab ac ae ag ah ai)] R:=by
 refine ret_of_W Tryz.func148 rfl rfl rfl ?_;refine kB 2 ?_;intro aS aT H;refine kg 6 ?_;obtain ⟨aU,aP,hM⟩:=M.e_bind hM;refine s_callv (f:=105) rfl cq [.agg #[I x.spring,I x.town]] rfl (zdq x aa ab ac ae ag ah ai (aC.app _) aD (aE.app _) aF (aG.app _) aH (aI.app _) aJ (aK.app _) aL (aM.app _) (aN.app _) aP _ ((H.pk [1,0]).gt 1)) ?_;rintro _ aV ⟨r2,aW,rfl,rfl,aQ⟩;replace H:=H.pk [1,0] |>.bk aQ
 exact kR 3 [0]

def zcF (s:List Dem) (aa:List Int) (ab:List Span) (ac:List Int) (ae:List Town) (ag ah:Int) (ai:List Flood):Nat->M (Nat ⊕ Unit):=fun s2 =>
  bif decide ((s2:Int)<(s.length:Int)) then (
  M.grd (decide ((s2:Int)<(s.length:Int))) <|
  M.bind (zb1 (s.getD s2 default) aa ab ac ae ag ah ai) fun r2 =>
  bif r2 then (
  M.fail)
  else (
  M.pure (.inl (s2+1))))
  else (
  M.pure (.inr ()))
def zbP (s:List Dem) (aa:List Int) (ab:List Span) (ac:List Int) (ae:List Town) (ag ah:Int) (ai:List Flood):M Int :=
  M.bind (M.iter (zcF s aa ab ac ae ag ah ai) 0) fun (_:Unit) =>
  M.pure (-1)
theorem zc9 {R ao ak al ap aq au av aw ax ay az aA aB aC aD aj B_b_f2020207}(s aa ab ac ae ag ah ai)(bc:Reads R ao)(aF:Sl ao ak s)(aG:Reads R au)(aH:Sl au av aa)(aI:Reads R aw)(aJ:Sl aw ax ab)(aK:Reads R ay)(aL:Sl ay az ac)(aM:Reads R aA)(aN:Sl aA aB ae)(aO:Reads R aC)(aP:Sl aC aD ai)(aQ:Has R (cBlk aq [av,ax,az,aB,I ag,I ah,aD,.map (some aj)] 202))(aR:Has R (cBlk ap [.func (.func 103) #[Pq aq] #[]] 204))(aS:Has R (cBlk al [.func (.func 105) #[] #[Pq ap]] 208)){r}(hM:(zbP s aa ab ac ae ag ah ai).Ends r)(w)(H:St w w [cMem encDm aj B_b_f2020207 (zaa aa ab ac ae ag ah ai)] R):Ret Tryz.prog 175 #[ak,.func (.func 148) #[] #[Pq al]] w fun v w'=>∃ y0 aT,y0=r/\v=I y0/\St w w' [cMem encDm aj aT (zaa aa ab ac ae ag ah ai)] R:=by
 refine ret_of_W Tryz.func175 rfl rfl rfl ?_;have bf:=(aF).len_le;refine kg 12 ?_;obtain ⟨aU,aE,aV⟩:=M.e_bind hM;obtain ⟨bh,aE⟩:=M.e_iter aE;refine W.loop (fun m σ W=>∃ (s2:Nat) (B_mem:Base) (ρ:Env),σ=upds ρ [(0,ak),(1,.func (.func 148) #[] #[Pq al]),(7,I (s.length:Int)),(8,I (s2:Int))]/\M.iterN (zcF s aa ab ac ae ag ah ai) m s2=some aU/\St w W [cMem encDm aj B_mem (zaa aa ab ac ae ag ah ai)] R) ?_ ?_
 ·exact kY
 rintro bi σ bj ⟨s2,B_mem,ρ,rfl,aW,H⟩;obtain ⟨bm,bn,bo,hM,aX⟩:=M.e_iterN aW;refine kI 5 ?_ ?_
 ·intro aY hM;obtain ⟨bp,hM⟩:=M.e_gq hM;refine kg 15 ?_;obtain ⟨br,aZ,hM⟩:=M.e_bind hM;refine s_callv (f:=148) rfl cq [.agg #[I ((s.getD s2 default).spring),I ((s.getD s2 default).town)]] rfl (zdj (s.getD s2 default) aa ab ac ae ag ah ai (aG.app _) aH (aI.app _) aJ (aK.app _) aL (aM.app _) aN (aO.app _) aP (aQ.app _) (aR.app _) (aS.app _) aZ _ (H.gt 0)) ?_;rintro _ bt ⟨r2,bu,rfl,rfl,a7⟩;replace H:=H.bk a7;refine kI 1 ?_ ?_
  ·intro a8 hM;exact (M.e_fail hM).elim
  intro a8 hM;exact kX 5
 intro aY hM;refine W.exit ?_;obtain rfl:=M.e_inr hM aX;replace hM:=aV;refine kg 4 ?_;exact rt

def zbR (s:List Dem) (aa:List Int) (ab:List Span) (ac:List Int) (ae:List Town) (ag ah:Int) (ai:List Flood):M Bool :=
  M.bind (zbP s aa ab ac ae ag ah ai) fun r2 =>
  M.pure (decide (0<=r2))
theorem zcU {R ak al ao ap aq au av aw ax ay az aA aB aC aD aj B_b_f2020207}(s aa ab ac ae ag ah ai)(aF:Reads R ak)(aG:Sl ak al s)(aH:Reads R au)(aI:Sl au av aa)(aJ:Reads R aw)(aK:Sl aw ax ab)(aL:Reads R ay)(aM:Sl ay az ac)(aN:Reads R aA)(aO:Sl aA aB ae)(aP:Reads R aC)(aQ:Sl aC aD ai)(aR:Has R (cBlk aq [av,ax,az,aB,I ag,I ah,aD,.map (some aj)] 202))(aS:Has R (cBlk ap [.func (.func 103) #[Pq aq] #[]] 204))(aT:Has R (cBlk ao [.func (.func 105) #[] #[Pq ap]] 208)){r}(hM:(zbR s aa ab ac ae ag ah ai).Ends r)(w)(H:St w w [cMem encDm aj B_b_f2020207 (zaa aa ab ac ae ag ah ai)] R):Ret Tryz.prog 147 #[al,.func (.func 148) #[] #[Pq ao]] w fun v w'=>∃ y0 aE,y0=r/\v=B y0/\St w w' [cMem encDm aj aE (zaa aa ab ac ae ag ah ai)] R:=by
 refine ret_of_W Tryz.func147 rfl rfl rfl ?_;refine kC 8 @zc9 ?_;intro aU r2 aV hM H;refine kg 3 ?_;exact rt

def zca (l:List Dem) (aa:List Int) (ab:List Span) (ac:List Int) (ae:List Town) (ag ah:Int) (ai:List Flood):M Bool :=
  M.bind (zbR l aa ab ac ae ag ah ai) fun r2 =>
  M.pure (!r2)
theorem zc3 {R al aj ao ap aq au av aw ax ay az aA aB aC ak B_b_so20207}(l aa ab ac ae ag ah ai)(aE:Reads R al)(aF:Sl al aj l)(aG:Reads R aq)(aH:Sl aq au aa)(aI:Reads R av)(aJ:Sl av aw ab)(aK:Reads R ax)(aL:Sl ax ay ac)(aM:Reads R az)(aN:Sl az aA ae)(aO:Reads R aB)(aP:Sl aB aC ai)(aQ:Has R (cBlk ap [au,aw,ay,aA,I ag,I ah,aC,.map (some ak)] 202))(aR:Has R (cBlk ao [.func (.func 103) #[Pq ap] #[]] 204)){r}(hM:(zca l aa ab ac ae ag ah ai).Ends r)(w)(H:St w w [cMem encDm ak B_b_so20207 (zaa aa ab ac ae ag ah ai)] R):Ret Tryz.prog 104 #[aj,.func (.func 105) #[] #[Pq ao]] w fun v w'=>∃ y0 aS,y0=r/\v=B y0/\St w w' [cMem encDm ak aS (zaa aa ab ac ae ag ah ai)] R:=by
 refine ret_of_W Tryz.func104 rfl rfl rfl ?_;refine kB 2 ?_;intro aD aV H;refine kg 5 ?_;refine s_val (x_mf (fs:=[]) (cs:=[Pq aD]) rfl rfl) ?_;obtain ⟨aW,aT,hM⟩:=M.e_bind hM;refine s_call cq [aj,.func (.func 148) #[] #[Pq aD]] rfl (zcU l aa ab ac ae ag ah ai (aE.app _) aF (aG.app _) aH (aI.app _) aJ (aK.app _) aL (aM.app _) aN (aO.app _) aP (aQ.app _) (aR.app _) (Has.here (k:=0) rfl) aT _ ((H.pk [1,0]).gt 1)) ?_;rintro _ aX ⟨r2,aY,rfl,rfl,aU⟩;replace H:=H.pk [1,0] |>.bk aU
 exact kR 3 [0]

def zax  : Int->(Int × Int)->M (Int ⊕ Unit):=fun s (x,x2) =>
  M.gi (s+1) <|
  M.pure (.inl (s+1))
def zaP (d:Dem) (ah:List Int) (ai:List Span) (aj:List Int) (ak:List Town) (al ao:Int) (ap:List Flood) (aa:List Int) (ab:List Span) (ac:List Int) (ae:List Town) (aq au:Int) (ag:List Flood):M Int :=
  M.bind (zaa ah ai aj ak al ao ap d) fun r2 =>
  M.grd (decide ((0:Int)<=((r2.length:Int)-1))&&decide (((r2.length:Int)-1)<(r2.length:Int))) <|
  M.bind (zaM aa ab ac ae aq au ag (r2.getD (Int.toNat ((r2.length:Int)-1)) 0)) fun (av,aw,ax) =>
  M.bind (zaH (M.yl zax) (.inl 0) av aa ab ac ae aw ax ag) fun x_=>match x_ with
  | (.inl s,q0)=>(
  M.pure s)
  | (.inr _,_)=>M.fail
theorem zcr {R bf aI bh bi bj bm bn bo bp br bt bu ak B_b_k0207 bv bw bA al bB ao bC ap bD aq bE au bT}(d ab ac ae ag ah ai aj aJ aK aL aM aC aD aN)(aO:Reads R bh)(bF:Sl bh bi ab)(aP:Reads R bj)(bG:Sl bj bm ac)(aQ:Reads R bn)(bH:Sl bn bo ae)(aR:Reads R bp)(bI:Sl bp br ag)(aS:Reads R bt)(bJ:Sl bt bu aj)(aT:Has R (cBlk aI [bi,bm,bo,br,I ah,I ai,bu,.map (some ak)] 202))(bK:Has R (cBlk bf [.func (.func 103) #[Pq aI] #[]] 204))(aU:Reads R bA)(bL:Sl bA al aJ)(aV:Reads R bB)(bM:Sl bB ao aK)(aW:Reads R bC)(bN:Sl bC ap aL)(aX:Reads R bD)(bO:Sl bD aq aM)(aY:Reads R bE)(bP:Sl bE au aN)(aZ:Has R (cBlk bw [al,ao,ap,aq,I aC,I aD,au,.map (some bT)] 202))(bQ:Has R (cBlk bv [Pq bw] 157)){r}(hM:(zaP d ab ac ae ag ah ai aj aJ aK aL aM aC aD aN).Ends r)(w)(H:St w w [cMem encDm ak B_b_k0207 (zaa ab ac ae ag ah ai aj)] R):Ret Tryz.prog 106 #[.agg #[I d.spring,I d.town],Pq bf,Pq bv] w fun v w'=>∃ y0 bU,y0=r/\v=I y0/\St w w' [cMem encDm ak bU (zaa ab ac ae ag ah ai aj)] R:=by
 refine ret_of_WD Tryz.func106 rfl rfl rfl ?_;replace H:St w w [cMk ([]),cMem encDm ak B_b_k0207 (zaa ab ac ae ag ah ai aj)] R:=H.mk0;have b8:=bF.len_le;have b9:=bG.len_le;have cb:=bH.len_le;have cc:=bI.len_le;have cd:=bJ.len_le;have ce:=bL.len_le;have cf:=bM.len_le;have cg:=bN.len_le;have ch:=bO.len_le;have cj:=bP.len_le;unfold zaP at hM;refine WD.seq<|WD.of ?_;refine kB 1 ?_;intro aA ck H;refine kg 2 ?_;refine WD.seq<|WD.of ?_;refine kg 3 ?_;obtain ⟨ct,bV,hM⟩:=M.e_bind hM;refine s_callm (f:=103) (fs:=[Pq aI]) rfl cq [.agg #[I d.spring,I d.town]] rfl (zbk ab ac ae ag ah ai aj d (aO.app _) bF (aP.app _) bG (aQ.app _) bH (aR.app _) bI (aS.app _) bJ (aT.app _) bV _ ((H.pk [2,0,1]).gt 2)) ?_
 rintro vq cu ⟨r2,cv,aw,rfl,hvq,aE,bR⟩;subst vq;replace H:=H.pk [2,0,1] |>.bk aE
 refine kg 2 ?_;refine WD.seq<|WD.of ?_;refine kA 1 ?_;intro av cw H;refine ksw ?_;intro cA H;refine s_nil<|WD.seq<|WD.seq<|WD.of ?_;refine kD 0 [0,1,2,3] [10] ?_;intro cB H;refine kg 3 ?_;refine d_q rfl (fun w' H=>x_ld (v:=.agg #[al,ao,ap,aq,I aC,I aD,au]) rfl (ldb_ag (ds:=[al,ao,ap,aq,I aC,I aD,au]) Ag105.h Sz105.h (aZ.blk H) rfl rfl)) ?_
 have cC:=(bR).len_le;obtain ⟨cD,hM⟩:=M.e_gq hM;refine kg 5 ?_;refine d_q rfl (fun w' H=>x_ld (v:=I (r2.getD (Int.toNat ((r2.length:Int)-1)) 0)) rfl (ld_sc Sc3.h (At.mono (Int_at bR (i:=(r2.length:Int)-1) (by omega) (by omega)) (memLe _ (H.get (k:=1) rfl))))) ?_;refine kC 1 @za8 ?_;intro cE aF ax ay aB az hM H;refine kN ?_;refine d_nil<|WD.block ?_;obtain ⟨cF,bW,hM⟩:=M.e_bind hM;refine WD.range (L:=[cBlk av [I 0] 3,cBlk az [al,ao,ap,aq,I ax,I ay,au] 105,cMem encDm ak aw (zaa ab ac ae ag ah ai aj),cBlk aA [I d.spring,I d.town] 207,cBlk aB [I aF] 3]) [Pq aB,Pq az] (H.pk [5,2,1,3,4,0]) rfl cq ?_;intro aG a7 a8 bX bc H
 have hYC:YieldC Tryz.prog ([cMk (a7 :: ([])),cBlk az [al,ao,ap,aq,I ax,I ay,au] 105,cMem encDm ak aw (zaa ab ac ae ag ah ai aj),cBlk aA [I d.spring,I d.town] 207]++R) arII (yJ aG a8 (fun s aH=>aH=[cBlk av [I s] 3]) (fun (_:Unit) _=>False) (fun _=>.ret)) (.func (.yield aG) #[] #[]) (M.yl zax):=by
  refine YieldC.mk bc (fun s aH=>aH=[cBlk av [I s] 3]) (fun (_:Unit) _=>False) (fun _=>.ret) zax (by rintro s _ h_; obtain ⟨rfl⟩:=h_; rfl) (fun _ _ h_=>h_.elim) rfl (arII_len rfl) ?_;intro C_ cG x_ W_ bY;obtain ⟨x,x2⟩:=x_;obtain rfl:=bY;refine W.skip ?_;refine ⟨rfl,rfl,?_⟩;intro w R aa aH s_ r bZ hM H
  skip
  obtain ⟨s,b5⟩:∃ y_,y_=s_:=⟨_,rfl⟩
  subst b5;obtain ⟨rfl⟩:=bZ;replace aO:=aO.sub aa;replace aP:=aP.sub aa;replace aQ:=aQ.sub aa;replace aR:=aR.sub aa;replace aS:=aS.sub aa;replace aT:=aT.sub aa;replace bK:=bK.sub aa;replace aU:=aU.sub aa;replace aV:=aV.sub aa;replace aW:=aW.sub aa;replace aX:=aX.sub aa;replace aY:=aY.sub aa;replace aZ:=aZ.sub aa;replace bQ:=bQ.sub aa;replace hM:(zax s (x,x2)).Ends r:=hM;simp only [zax] at hM;replace H:=H.pk [0,2,3,4,1];obtain ⟨cH,hM⟩:=M.e_gq hM;refine kS 4 ?_;intro cI H;refine s_nil ?_;exact ⟨s+1,[cBlk av [I (s+1)] 3],(M.e_pure hM).symm,rfl,H.pick [0,4,1,2,3] (by decide) rfl⟩
 replace H:St w bX (cAll (cObj aG (.loop a8) :: [cBlk av [I 0] 3]) :: [cBlk aB [I aF] 3,cMk (a7 :: ([])),cBlk az [al,ao,ap,aq,I ax,I ay,au] 105,cMem encDm ak aw (zaa ab ac ae ag ah ai aj),cBlk aA [I d.spring,I d.town] 207]) R:=St.bundleB (A:=cObj aG (.loop a8) :: [cBlk av [I 0] 3]) (T:=[cBlk aB [I aF] 3,cMk (a7 :: ([])),cBlk az [al,ao,ap,aq,I ax,I ay,au] 105,cMem encDm ak aw (zaa ab ac ae ag ah ai aj),cBlk aA [I d.spring,I d.town] 207]) rfl (H.pk [0,2,6,1,3,4,5]);refine (za4 (M.yl zax) (.inl 0) aF aJ aK aL aM ax ay aN hYC ⟨_,rfl,rfl⟩ (aU.app _) bL (aV.app _) bM (aW.app _) bN (aX.app _) bO (aY.app _) bP (Has.here (k:=1) rfl) bW _ (H.gt 4)).mono ?_;rintro vq cJ ⟨b6,q0,cK,rfl,hvq,aE,bS⟩;replace H:=H.back aE rfl;clear aE hYC;rcases b6 with s | _
 ·obtain ⟨_,rfl,rfl⟩:=bS;refine ⟨_,[cBlk av [I s] 3,cBlk az [al,ao,ap,aq,I ax,I ay,au] 105,cMem encDm ak aw (zaa ab ac ae ag ah ai aj),cBlk aA [I d.spring,I d.town] 207,cBlk aB [I q0] 3],H.unbundle.pick [0,3,1,4,5,6,2] (by decide) rfl,bc.nb,?_⟩;intro cL H;rw [bc.pd];replace H:=H.nf
  try simp only []
  replace H:=H.pk [0,1,3];refine WD.seq<|WD.of ?_;refine kg 4 ?_;refine WD.of ?_;refine W.ret ?_;refine bodyD_r (H.pk [0,1,2]) ?_;intro cM H;replace H:=H.nf
  have b7:=M.e_pure hM;exact ⟨_,resE_tmp rfl,⟨s,aw,b7,rfl,(H.pk [1])⟩⟩
 obtain ⟨_,_,h_⟩:=bS; exact h_.elim

def m_cmp_isNaN_int (x:Int):M Bool :=
  M.pure (x != x)
theorem cmp_isNaN_int_ok {R}(x){r}(hM:(m_cmp_isNaN_int x).Ends r)(w)(H:St w w [] R):Ret Tryz.prog 151 #[I x] w fun v w'=>∃ y0,y0=r/\v=B y0/\St w w' [] R:=by
 refine ret_of_W Tryz.func151 rfl rfl rfl ?_;refine kg 11 ?_;exact rt

def m_cmp_Compare_int (x y:Int):M Int :=
  M.bind (m_cmp_isNaN_int x) fun r2 =>
  M.bind (m_cmp_isNaN_int y) fun r3 =>
  bif r2 then (
  M.fail)
  else (
  bif r3 then (
  M.fail)
  else (
  bif decide (x<y) then (
  M.fail)
  else (
  bif decide (y<x) then (
  M.fail)
  else (
  M.pure 0))))
theorem cmp_Compare_int_ok {R}(x y){r}(hM:(m_cmp_Compare_int x y).Ends r)(w)(H:St w w [] R):Ret Tryz.prog 110 #[I x,I y] w fun v w'=>∃ y0,y0=r/\v=I y0/\St w w' [] R:=by
 refine ret_of_W Tryz.func110 rfl rfl rfl ?_;refine kC 7 @cmp_isNaN_int_ok ?_;intro ag r2 hM H;refine kC 5 @cmp_isNaN_int_ok ?_;intro ah r3 hM H;refine kI 7 ?_ ?_
 ·intro aa hM;exact (M.e_fail hM).elim
 intro aa hM;refine kI 6 ?_ ?_
 ·intro ab hM;exact (M.e_fail hM).elim
 intro ab hM;refine kI 8 ?_ ?_
 ·intro ac hM;exact (M.e_fail hM).elim
 intro ac hM;refine kI 8 ?_ ?_
 ·intro ae hM;exact (M.e_fail hM).elim
 intro ae hM;refine kg 5 ?_;exact rt

def zb0 (a b:Dem) (aa:List Int) (ab:List Span) (ac:List Int) (ae:List Town) (ag ah:Int) (ai:List Flood) (aj:List Int) (ak:List Span) (al:List Int) (ao:List Town) (ap aq:Int) (au:List Flood):M Int :=
  M.bind (zaP b aa ab ac ae ag ah ai aj ak al ao ap aq au) fun r2 =>
  M.bind (zaP a aa ab ac ae ag ah ai aj ak al ao ap aq au) fun r3 =>
  M.bind (m_cmp_Compare_int r2 r3) fun r4 =>
  M.pure r4
theorem zcZ {R ax ay az aA aB aC aD aE aF aG aH aI aJ av B_b_k020207 aK aL aM aN aO aP aQ aR aS aT aU aV bE}(a b aa ab ac ae ag ah ai aj ak al ao ap aq au)(aW:Reads R aA)(aX:Sl aA aB aa)(aY:Reads R aC)(aZ:Sl aC aD ab)(a7:Reads R aE)(a8:Sl aE aF ac)(bc:Reads R aG)(bf:Sl aG aH ae)(bh:Reads R aI)(bi:Sl aI aJ ai)(bj:Has R (cBlk az [aB,aD,aF,aH,I ag,I ah,aJ,.map (some av)] 202))(bm:Has R (cBlk ay [.func (.func 103) #[Pq az] #[]] 204))(bn:Reads R aM)(bo:Sl aM aN aj)(bp:Reads R aO)(br:Sl aO aP ak)(bt:Reads R aQ)(bu:Sl aQ aR al)(bv:Reads R aS)(bw:Sl aS aT ao)(bA:Reads R aU)(bB:Sl aU aV au)(bC:Has R (cBlk aL [aN,aP,aR,aT,I ap,I aq,aV,.map (some bE)] 202))(bD:Has R (cBlk aK [Pq aL] 157))(bI:Has R (cBlk ax [.func (.func 106) #[] #[Pq ay,Pq aK]] 210)){r}(hM:(zb0 a b aa ab ac ae ag ah ai aj ak al ao ap aq au).Ends r)(w)(H:St w w [cMem encDm av B_b_k020207 (zaa aa ab ac ae ag ah ai)] R):Ret Tryz.prog 109 #[.agg #[I a.spring,I a.town],.agg #[I b.spring,I b.town],Pq ax] w fun v w'=>∃ y0 bF,y0=r/\v=I y0/\St w w' [cMem encDm av bF (zaa aa ab ac ae ag ah ai)] R:=by
 refine ret_of_W Tryz.func109 rfl rfl rfl ?_;refine kB 2 ?_;intro bJ bK H;refine kbx ?_;intro bL bM H;refine kDo 3 [0,1] [(0,true),(1,true),(3,true),(4,true),(2,false),(5,false),(6,false),(7,true)] ?_;intro bN H;refine kG 5 ?_;obtain ⟨bO,bG,hM⟩:=M.e_bind hM;refine s_callv (f:=106) rfl cq [.agg #[I b.spring,I b.town]] rfl (zcr b aa ab ac ae ag ah ai aj ak al ao ap aq au (aW.app _) aX (aY.app _) aZ (a7.app _) a8 (bc.app _) bf (bh.app _) bi (bj.app _) (bm.app _) (bn.app _) bo (bp.app _) br (bt.app _) bu (bv.app _) bw (bA.app _) bB (bC.app _) (bD.app _) bG _ ((H.pk [2,0,1]).gt 2)) ?_;rintro _ bP ⟨r2,bQ,rfl,rfl,aw⟩;replace H:=H.pk [2,0,1] |>.bk aw
 refine kN ?_;refine d_l rfl ?_;obtain ⟨bR,bH,hM⟩:=M.e_bind hM;refine s_callv (f:=106) rfl cq [.agg #[I a.spring,I a.town]] rfl (zcr a aa ab ac ae ag ah ai aj ak al ao ap aq au (aW.app _) aX (aY.app _) aZ (a7.app _) a8 (bc.app _) bf (bh.app _) bi (bj.app _) (bm.app _) (bn.app _) bo (bp.app _) br (bt.app _) bu (bv.app _) bw (bA.app _) bB (bC.app _) (bD.app _) bH _ (H.gt 2)) ?_;rintro _ bS ⟨r3,bT,rfl,rfl,aw⟩;replace H:=H.bk aw;refine kN ?_;refine kC 1 @cmp_Compare_int_ok ?_;intro bU r4 hM H;refine kN ?_;refine kg 2 ?_;replace H:=H.pk [0];exact rt

def zbL (data:List Dem) (a:Int) (aa:List Int) (ab:List Span) (ac:List Int) (ae:List Town) (ag ah:Int) (ai:List Flood) (aj:List Int) (ak:List Span) (al:List Int) (ao:List Town) (ap aq:Int) (au:List Flood) (i:Int):Unit->M (Unit ⊕ Int):=fun (_:Unit) =>
  M.grd ((!(decide (a<i))||(decide ((0:Int)<=i)&&decide (i<(data.length:Int))))) <|
  M.grd ((!(decide (a<i))||(decide ((-9223372036854775808:Int)<=(i-1))&&decide ((i-1)<=(9223372036854775807:Int))))) <|
  M.grd ((!(decide (a<i))||(decide ((0:Int)<=(i-1))&&decide ((i-1)<(data.length:Int))))) <|
  bif decide (a<i) then (
  M.bind (zb0 (data.getD (Int.toNat i) default) (data.getD (Int.toNat (i-1)) default) aa ab ac ae ag ah ai aj ak al ao ap aq au) fun r2 =>
  bif ((decide (a<i))&&(decide (r2<0))) then (
  M.fail)
  else (
  M.pure (.inr r2)))
  else (
  M.fail)
def zbS (data:List Dem) (a b:Int) (aa:List Int) (ab:List Span) (ac:List Int) (ae:List Town) (ag ah:Int) (ai:List Flood) (aj:List Int) (ak:List Span) (al:List Int) (ao:List Town) (ap aq:Int) (au:List Flood):Int->M (Int ⊕ Unit):=fun i =>
  bif decide (i<b) then (
  M.bind (M.iter (zbL data a aa ab ac ae ag ah ai aj ak al ao ap aq au i) ()) fun s =>
  M.gi (i+1) <|
  M.pure (.inl (i+1)))
  else (
  M.pure (.inr ()))
def zbU (data:List Dem) (a b:Int) (aa:List Int) (ab:List Span) (ac:List Int) (ae:List Town) (ag ah:Int) (ai:List Flood) (aj:List Int) (ak:List Span) (al:List Int) (ao:List Town) (ap aq:Int) (au:List Flood):M Unit :=
  M.gi (a+1) <|
  M.bind (M.iter (zbS data a b aa ab ac ae ag ah ai aj ak al ao ap aq au) (a+1)) fun (_:Unit) =>
  M.pure ()
theorem zdE {R aC ay ak aD aE aF aG aH aI aJ aK aL aM aN aO al B_b_cmp2020207 aP aQ aR aS aT aU aV aW aX aY aZ a7 bf}(data a b aa ab ac ae ag ah ai ao ap aq au av aw ax)(b7:Reads R aC)(b8:Sl aC ay data)(bh:Reads R aF)(bi:Sl aF aG aa)(bj:Reads R aH)(bm:Sl aH aI ab)(bn:Reads R aJ)(bo:Sl aJ aK ac)(bp:Reads R aL)(br:Sl aL aM ae)(bt:Reads R aN)(bu:Sl aN aO ai)(bv:Has R (cBlk aE [aG,aI,aK,aM,I ag,I ah,aO,.map (some al)] 202))(bw:Has R (cBlk aD [.func (.func 103) #[Pq aE] #[]] 204))(bA:Reads R aR)(bB:Sl aR aS ao)(bC:Reads R aT)(bD:Sl aT aU ap)(bE:Reads R aV)(bF:Sl aV aW aq)(bG:Reads R aX)(bH:Sl aX aY au)(bI:Reads R aZ)(bJ:Sl aZ a7 ax)(bK:Has R (cBlk aQ [aS,aU,aW,aY,I av,I aw,a7,.map (some bf)] 202))(bL:Has R (cBlk aP [Pq aQ] 157))(bM:Has R (cBlk ak [.func (.func 106) #[] #[Pq aD,Pq aP]] 210)){r}(hM:(zbU data a b aa ab ac ae ag ah ai ao ap aq au av aw ax).Ends r)(w)(H:St w w [cMem encDm al B_b_cmp2020207 (zaa aa ab ac ae ag ah ai)] R):Ret Tryz.prog 176 #[ay,I a,I b,.func (.func 109) #[] #[Pq ak]] w fun v w'=>∃ bN,()=r/\v = .tuple #[]/\St w w' [cMem encDm al bN (zaa aa ab ac ae ag ah ai)] R:=by
 refine ret_of_W Tryz.func176 rfl rfl rfl ?_;obtain ⟨b9,hM⟩:=M.e_gq hM;refine kg 7 ?_;obtain ⟨bO,a8,bP⟩:=M.e_bind hM;obtain ⟨bQ,a8⟩:=M.e_iter a8;refine W.loop (fun m σ W=>∃ (i:Int) (B_mem:Base) (ρ:Env),σ=upds ρ [(0,ay),(1,I a),(2,I b),(3,.func (.func 109) #[] #[Pq ak]),(8,I i)]/\M.iterN (zbS data a b aa ab ac ae ag ah ai ao ap aq au av aw ax) m i=some bO/\St w W [cMem encDm al B_mem (zaa aa ab ac ae ag ah ai)] R) ?_ ?_
 ·exact kY
 rintro cb σ cc ⟨i,B_mem,ρ,rfl,bR,H⟩;obtain ⟨cd,ce,cf,hM,bS⟩:=M.e_iterN bR;refine kI 7 ?_ ?_
 ·intro bT hM;refine kg 9 ?_;obtain ⟨bU,bc,bV⟩:=M.e_bind hM;obtain ⟨bQ,bc⟩:=M.e_iter bc;refine W.loop (fun m σ W=>∃ (ρ:Env),σ=upds ρ [(0,ay),(1,I a),(2,I b),(3,.func (.func 109) #[] #[Pq ak]),(8,I i),(9,I i)]/\M.iterN (zbL data a aa ab ac ae ag ah ai ao ap aq au av aw ax i) m ()=some bU/\St w W [cMem encDm al B_mem (zaa aa ab ac ae ag ah ai)] R) ?_ ?_
  ·exact kY
  rintro cg σ ch ⟨ρ,rfl,bW,H⟩;obtain ⟨cj,ck,ct,hM,bX⟩:=M.e_iterN bW;refine kD 2 [] [14] ?_;intro cu H;obtain ⟨az,hM⟩:=M.e_grd hM;replace az:=M.imp_of az;simp only [Bool.and_eq_true,decide_eq_true_eq] at az;obtain ⟨aA,hM⟩:=M.e_grd hM;replace aA:=M.imp_of aA;simp only [Bool.and_eq_true,decide_eq_true_eq] at aA;obtain ⟨aB,hM⟩:=M.e_grd hM;replace aB:=M.imp_of aB;simp only [Bool.and_eq_true,decide_eq_true_eq] at aB;refine kG 15 ?_;refine g_splitV (decide (a<i)) (I 0) (gy_t rfl) (fun aj=>?_) (fun aj=>?_)
  ·replace hM:=M.e_t hM aj;obtain ⟨cv,bY,hM⟩:=M.e_bind hM;refine s_callv (f:=109) (by exact (gd_of (c:=decide (a<i)) aj (.func (.func 109) #[] #[Pq ak]))) cq [.agg #[I ((data.getD (Int.toNat i) default).spring),I ((data.getD (Int.toNat i) default).town)],.agg #[I ((data.getD (Int.toNat (i-1)) default).spring),I ((data.getD (Int.toNat (i-1)) default).town)]] (by exact (lst2 (gd_of (c:=decide (a<i)) aj (.agg #[I ((data.getD (Int.toNat i) default).spring),I ((data.getD (Int.toNat i) default).town)])) (gd_of (c:=decide (a<i)) aj (.agg #[I ((data.getD (Int.toNat (i-1)) default).spring),I ((data.getD (Int.toNat (i-1)) default).town)])))) (zcZ (data.getD (Int.toNat i) default) (data.getD (Int.toNat (i-1)) default) aa ab ac ae ag ah ai ao ap aq au av aw ax (bh.app _) bi (bj.app _) bm (bn.app _) bo (bp.app _) br (bt.app _) bu (bv.app _) (bw.app _) (bA.app _) bB (bC.app _) bD (bE.app _) bF (bG.app _) bH (bI.app _) bJ (bK.app _) (bL.app _) (bM.app _) bY _ (H.gt 0)) ?_;rintro _ cw ⟨r2,cA,rfl,rfl,bZ⟩;replace H:=H.bk bZ;refine kN ?_;refine kI 3 ?_ ?_
   ·intro b5 hM;exact (M.e_fail hM).elim
   intro b5 hM;refine W.exit ?_;obtain rfl:=M.e_inr hM bX;replace hM:=bV;obtain ⟨cB,hM⟩:=M.e_gq hM;exact kX 5
  replace hM:=M.e_f hM aj;exact (M.e_fail hM).elim
 intro bT hM;refine W.exit ?_;obtain rfl:=M.e_inr hM bS;replace hM:=bP;have b6:=M.e_pure hM;exact ⟨_,resE_tmp0 rfl,⟨B_mem,b6,rfl,H⟩⟩

def zbM (n:Int):Unit->M (Unit ⊕ Unit):=fun (_:Unit) =>
  bif decide (20<=n) then (
  M.fail)
  else (
  M.pure (.inr ()))
def zcl (n:Int):Unit->M (Unit ⊕ Unit):=fun (_:Unit) =>
  bif decide (20<n) then (
  M.fail)
  else (
  M.pure (.inr ()))
def zcN (data:List Dem) (n:Int) (aa:List Int) (ab:List Span) (ac:List Int) (ae:List Town) (ag ah:Int) (ai:List Flood) (aj:List Int) (ak:List Span) (al:List Int) (ao:List Town) (ap aq:Int) (au:List Flood):M Unit :=
  M.bind (M.iter (zbM n) ()) fun (_:Unit) =>
  M.bind (zbU data 0 n aa ab ac ae ag ah ai aj ak al ao ap aq au) fun (_:Unit) =>
  M.bind (M.iter (zcl n) ()) fun (_:Unit) =>
  M.pure ()
theorem zdk {R ao ak al ap aq au av aw ax ay az aA aB aC aD aj B_b_cmp2020207 aE aF aG aH aI aJ aK aL aM aN aO aP a7}(data n aa ab ac ae ag ah ai aQ aR aS aT aU aV aW)(bv:Reads R ao)(bw:Sl ao ak data)(bA:Reads R au)(bB:Sl au av aa)(bC:Reads R aw)(bD:Sl aw ax ab)(bE:Reads R ay)(bF:Sl ay az ac)(bG:Reads R aA)(bH:Sl aA aB ae)(bI:Reads R aC)(bJ:Sl aC aD ai)(bK:Has R (cBlk aq [av,ax,az,aB,I ag,I ah,aD,.map (some aj)] 202))(bL:Has R (cBlk ap [.func (.func 103) #[Pq aq] #[]] 204))(bM:Reads R aG)(bN:Sl aG aH aQ)(bO:Reads R aI)(bP:Sl aI aJ aR)(bQ:Reads R aK)(bR:Sl aK aL aS)(bS:Reads R aM)(bT:Sl aM aN aT)(bU:Reads R aO)(bV:Sl aO aP aW)(bW:Has R (cBlk aF [aH,aJ,aL,aN,I aU,I aV,aP,.map (some a7)] 202))(bX:Has R (cBlk aE [Pq aF] 157))(bY:Has R (cBlk al [.func (.func 106) #[] #[Pq ap,Pq aE]] 210)){r}(hM:(zcN data n aa ab ac ae ag ah ai aQ aR aS aT aU aV aW).Ends r)(w)(H:St w w [cMem encDm aj B_b_cmp2020207 (zaa aa ab ac ae ag ah ai)] R):Ret Tryz.prog 150 #[ak,I n,.func (.func 109) #[] #[Pq al]] w fun v w'=>∃ a8,()=r/\v = .tuple #[]/\St w w' [cMem encDm aj a8 (zaa aa ab ac ae ag ah ai)] R:=by
 refine ret_of_W Tryz.func150 rfl rfl rfl ?_;refine kg 12 ?_;obtain ⟨bc,aX,bf⟩:=M.e_bind hM;obtain ⟨bh,aX⟩:=M.e_iter aX;refine W.loop (fun m σ W=>∃ (ρ:Env),σ=upds ρ [(0,ak),(1,I n),(2,.func (.func 109) #[] #[Pq al]),(6,I 20),(7,I 0),(8,I 20)]/\M.iterN (zbM n) m ()=some bc/\St w W [cMem encDm aj B_b_cmp2020207 (zaa aa ab ac ae ag ah ai)] R) ?_ ?_
 ·exact kY
 rintro bZ σ b5 ⟨ρ,rfl,bi,H⟩;obtain ⟨b6,b7,b8,hM,bj⟩:=M.e_iterN bi;refine kI 7 ?_ ?_
 ·intro bm hM;exact (M.e_fail hM).elim
 intro bm hM;refine W.exit ?_;obtain rfl:=M.e_inr hM bj;replace hM:=bf;refine kC 6 @zdE ?_;intro b9 aY hM H;refine kg 2 ?_;obtain ⟨bn,aZ,bo⟩:=M.e_bind hM;obtain ⟨bh,aZ⟩:=M.e_iter aZ;refine W.loop (fun m σ W=>∃ (ρ:Env),σ=upds ρ [(0,ak),(1,I n),(2,.func (.func 109) #[] #[Pq al]),(6,I 20)]/\M.iterN (zcl n) m ()=some bn/\St w W [cMem encDm aj aY (zaa aa ab ac ae ag ah ai)] R) ?_ ?_
 ·exact kY
 rintro cb σ cc ⟨ρ,rfl,bp,H⟩;obtain ⟨cd,ce,cf,hM,br⟩:=M.e_iterN bp;refine kI 7 ?_ ?_
 ·intro bt hM;exact (M.e_fail hM).elim
 intro bt hM;refine W.exit ?_;obtain rfl:=M.e_inr hM br;replace hM:=bo;have bu:=M.e_pure hM;exact ⟨_,resE_tmp0 rfl,⟨aY,bu,rfl,H⟩⟩

def zcE (x:List Dem) (aa:List Int) (ab:List Span) (ac:List Int) (ae:List Town) (ag ah:Int) (ai:List Flood) (aj:List Int) (ak:List Span) (al:List Int) (ao:List Town) (ap aq:Int) (au:List Flood):M Unit :=
  M.bind (zcN x (x.length:Int) aa ab ac ae ag ah ai aj ak al ao ap aq au) fun (_:Unit) =>
  M.pure ()
theorem zc4 {R ak al ao ap aq au av aw ax ay az aA aB aC aD aj B_b_cmp2020207 aE aF aG aH aI aJ aK aL aM aN aO aP aX}(x aa ab ac ae ag ah ai aQ aR aS aT aU aV aW)(bc:Reads R ak)(aY:Sl ak al x)(bf:Reads R au)(bh:Sl au av aa)(bi:Reads R aw)(bj:Sl aw ax ab)(bm:Reads R ay)(bn:Sl ay az ac)(bo:Reads R aA)(bp:Sl aA aB ae)(br:Reads R aC)(bt:Sl aC aD ai)(bu:Has R (cBlk aq [av,ax,az,aB,I ag,I ah,aD,.map (some aj)] 202))(bv:Has R (cBlk ap [.func (.func 103) #[Pq aq] #[]] 204))(bw:Reads R aG)(bA:Sl aG aH aQ)(bB:Reads R aI)(bC:Sl aI aJ aR)(bD:Reads R aK)(bE:Sl aK aL aS)(bF:Reads R aM)(bG:Sl aM aN aT)(bH:Reads R aO)(bI:Sl aO aP aW)(bJ:Has R (cBlk aF [aH,aJ,aL,aN,I aU,I aV,aP,.map (some aX)] 202))(bK:Has R (cBlk aE [Pq aF] 157))(bL:Has R (cBlk ao [.func (.func 106) #[] #[Pq ap,Pq aE]] 210)){r}(hM:(zcE x aa ab ac ae ag ah ai aQ aR aS aT aU aV aW).Ends r)(w)(H:St w w [cMem encDm aj B_b_cmp2020207 (zaa aa ab ac ae ag ah ai)] R):Ret Tryz.prog 108 #[al,.func (.func 109) #[] #[Pq ao]] w fun v w'=>∃ aZ,()=r/\v = .tuple #[]/\St w w' [cMem encDm aj aZ (zaa aa ab ac ae ag ah ai)] R:=by
 refine ret_of_W Tryz.func108 rfl rfl rfl ?_;have bM:=(aY).len_le;refine kC 5 @zdk ?_;intro bN a7 hM H;refine s_nil ?_;have a8:=M.e_pure hM;exact ⟨_,resE_tmp0 rfl,⟨a7,a8,rfl,H⟩⟩

def zb7 (ar:List Bool) (r4:List Int):Nat->M (Nat ⊕ (Unit ⊕ Unit)):=fun s =>
  bif decide ((s:Int)<(r4.length:Int)) then (
  M.grd (decide ((s:Int)<(r4.length:Int))) <|
  M.grd (decide ((0:Int)<=(r4.getD s 0))&&decide ((r4.getD s 0)<(12:Int))) <|
  bif ar.getD (Int.toNat (r4.getD s 0)) false then (
  M.pure (.inr (.inl ())))
  else (
  M.pure (.inl (s+1))))
  else (
  M.pure (.inr (.inr ())))
def zbE (aa:List Int) (ab:List Span) (ac:List Int) (ae:List Town) (ag ah:Int) (ai:List Flood) (r2:List Dem):(Nat × (List Bool) × (List Int) × (List Dem))->M ((Nat × (List Bool) × (List Int) × (List Dem)) ⊕ ((List Int) × (List Dem) × (List Int) × (List Dem) × (List Bool))):=fun (s2,ar,l,l2) =>
  bif decide ((s2:Int)<(r2.length:Int)) then (
  M.grd (decide ((s2:Int)<(r2.length:Int))) <|
  M.bind (zaa aa ab ac ae ag ah ai (r2.getD s2 default)) fun r4 =>
  M.bind (M.iter (zb7 ar r4) 0) fun x_=>match x_ with
  | (.inl (_:Unit))=>(
  M.pure (.inl (s2+1,ar,l,l2)))
  | (.inr (_:Unit))=>(
  M.grd (decide ((0:Int)<=((r4.length:Int)-1))&&decide (((r4.length:Int)-1)<(r4.length:Int))) <|
  M.grd (decide ((0:Int)<=(r4.getD (Int.toNat ((r4.length:Int)-1)) 0))&&decide ((r4.getD (Int.toNat ((r4.length:Int)-1)) 0)<(12:Int))) <|
  M.grd (decide ((l.length+([(r4.getD (Int.toNat ((r4.length:Int)-1)) 0:Int)]).length)*8<=140737488355328)) <|
  M.grd (decide ((l2.length+([(r2.getD s2 default)]).length)*16<=140737488355328)) <|
  M.pure (.inl (s2+1,ar.set (Int.toNat (r4.getD (Int.toNat ((r4.length:Int)-1)) 0)) true,l++([(r4.getD (Int.toNat ((r4.length:Int)-1)) 0:Int)]),l2++([(r2.getD s2 default)])))))
  else (
  M.pure (.inr (l,l2,l,l2,ar)))
def zb5 (aa:List Int) (ab:List Span) (ac:List Int) (ae:List Town) (ag ah:Int) (ai:List Flood):M ((List Int) × (List Dem) × Bool) :=
  M.bind (zcL aa ab ac ae ag ah ai) fun r2 =>
  M.bind (zca r2 aa ab ac ae ag ah ai) fun r3 =>
  bif !r3 then (
  M.fail)
  else (
  M.bind (zcE r2 aa ab ac ae ag ah ai aa ab ac ae ag ah ai) fun (_:Unit) =>
  M.bind (M.iter (zbE aa ab ac ae ag ah ai r2) (0,List.replicate 12 false,[],[])) fun (l3,l4,l5,l6,aj) =>
  M.grd (decide (l5.length<=1000000)) <|
  M.pure ((isort l5),l6,true))
theorem zdv {R ap aQ aR aS aT aU aV aW aX aY aZ aq bn}(aa ab ac ae ag ah ai)(ay:Reads R aQ)(az:Sl aQ aR aa)(aA:Reads R aS)(aB:Sl aS aT ab)(aC:Reads R aU)(aD:Sl aU aV ac)(aE:Reads R aW)(aF:Sl aW aX ae)(aG:Reads R aY)(aH:Sl aY aZ ai)(aI:Has R (cBlk ap [aR,aT,aV,aX,I ag,I ah,aZ,.map (some aq)] 202)){r}(hM:(zb5 aa ab ac ae ag ah ai).Ends r)(w)(H:St w w [cMem encDm aq bn (zaa aa ab ac ae ag ah ai)] R):Ret Tryz.prog 66 #[Pq ap] w fun v w'=>∃ y0 y1 y2 u0 u1 bo,(y0,y1,y2)=r/\v = .tuple #[u0,u1,B y2]/\St w w' [cOwn (α:=Int) 3 u0 y0,cOwn (α:=Dem) 207 u1 y1,cMem encDm aq bo (zaa aa ab ac ae ag ah ai)] R:=by
 refine ret_of_W Tryz.func66 rfl rfl rfl ?_;refine kB 2 ?_;intro bp bS H;refine kg 4 ?_;refine W.scope ?_;refine kC 3 @zc5 ?_;intro bT r2 au hM H;refine kg 5 ?_;refine s_val (x_mf (fs:=[Pq ap]) (cs:=[]) rfl rfl) ?_;refine kal ?_;intro ak bU H;refine ksw ?_;intro bV H;refine kg 5 ?_;refine s_val (x_mf (fs:=[]) (cs:=[Pq ak]) rfl rfl) ?_;obtain ⟨bW,br,hM⟩:=M.e_bind hM;refine s_call cq [au,.func (.func 105) #[] #[Pq ak]] rfl (zc3 r2 aa ab ac ae ag ah ai (rdo 1) (H.os 1) (ay.app _) az (aA.app _) aB (aC.app _) aD (aE.app _) aF (aG.app _) aH (aI.app _) (Has.here (k:=0) rfl) br _ ((H.pk [3,0,1,2]).gt 3)) ?_;rintro _ bX ⟨r3,bY,rfl,rfl,aw⟩;replace H:=H.pk [3,0,1,2] |>.bk aw
 refine kI 2 ?_ ?_
 ·intro bt hM;exact (M.e_fail hM).elim
 intro bt hM;refine kg 3 ?_;refine s_val (x_mf (fs:=[]) (cs:=[Pq ak,Pq bp]) rfl rfl) ?_;refine kal ?_;intro a7 bZ H;refine ksw ?_;intro b5 H;refine kg 4 ?_;refine s_val (x_mf (fs:=[]) (cs:=[Pq a7]) rfl rfl) ?_;obtain ⟨b6,bu,hM⟩:=M.e_bind hM;refine s_call cq [au,.func (.func 109) #[] #[Pq a7]] rfl (zc4 r2 aa ab ac ae ag ah ai aa ab ac ae ag ah ai (rdo 2) (H.os 3) (ay.app _) az (aA.app _) aB (aC.app _) aD (aE.app _) aF (aG.app _) aH (aI.app _) (Has.here (k:=1) rfl) (ay.app _) az (aA.app _) aB (aC.app _) aD (aE.app _) aF (aG.app _) aH (aI.app _) (Has.here (k:=3) rfl) (Has.here (k:=0) rfl) bu _ ((H.pk [1,0,2,3,4]).gt 4)) ?_;rintro _ b7 ⟨bv,rfl,rfl,aw⟩;replace H:=H.pk [1,0,2,3,4] |>.bk aw
 refine s_nil ?_;replace H:=H.pk [0,2,3];refine kA 2 ?_;intro al b8 H;have bw:(List.replicate 12 false).length=12:=by simp
 refine kg 10 ?_;refine W.label ?_;have b9:=((H.os 3)).len_le;refine kg 8 ?_;replace H:=H.nilOwn (α:=Dem) 207;replace H:=H.nilOwn (α:=Int) 3;obtain ⟨bA,aN,bB⟩:=M.e_bind hM;obtain ⟨bC,aN⟩:=M.e_iter aN;refine W.loop (fun m σ W=>∃ (s2:Nat) (ar:List Bool) (l:List Int) (l2:List Dem) (aj:Value) (ao:Value) (B_mem:Base) (ρ:Env),σ=upds ρ [(6,Pq ak),(8,Pq al),(9,aj),(10,ao),(29,au),(30,I (r2.length:Int)),(31,I (s2:Int))]/\M.iterN (zbE aa ab ac ae ag ah ai r2) m (s2,ar,l,l2)=some bA/\St w W [cOwn (α:=Int) 3 aj l,cOwn (α:=Dem) 207 ao l2,cBlk al (encB ar) 214,cMem encDm aq B_mem (zaa aa ab ac ae ag ah ai),cBlk ak [.func (.func 103) #[Pq ap] #[]] 204,cOwn (α:=Dem) 207 au r2] R/\ar.length=12) ?_ ?_
 ·exact ⟨_,0,List.replicate 12 false,[],[],(.slice none 0 0),(.slice none 0 0),bv,_,jQ,aN,H,bw⟩
 rintro cb σ cc ⟨s2,ar,l,l2,aj,ao,B_mem,ρ,rfl,bD,H,aJ⟩;obtain ⟨aK,aL,cd,hM,ax⟩:=M.e_iterN bD;refine kI 5 ?_ ?_
 ·intro bE hM;obtain ⟨ce,hM⟩:=M.e_gq hM;refine kA 7 ?_;intro aO cf H;refine ksw ?_;intro cg H;refine kg 5 ?_;obtain ⟨ch,bF,hM⟩:=M.e_bind hM;refine s_callm (f:=103) (fs:=[Pq ap]) rfl cq [.agg #[I ((r2.getD s2 default).spring),I ((r2.getD s2 default).town)]] rfl (zbk aa ab ac ae ag ah ai (r2.getD s2 default) (ay.app _) az (aA.app _) aB (aC.app _) aD (aE.app _) aF (aG.app _) aH (aI.app _) bF _ ((H.pk [4,0,1,2,3,5,6]).gt 6)) ?_;rintro vq cj ⟨r4,a8,av,rfl,hvq,aw,aM⟩;subst vq;replace H:=H.pk [4,0,1,2,3,5,6] |>.bk aw
  have ck:=(aM).len_le;refine kg 10 ?_;obtain ⟨bG,bc,bf⟩:=M.e_bind hM;obtain ⟨bC,bc⟩:=M.e_iter bc;refine W.loop (fun m σ W=>∃ (s:Nat) (ρ:Env),σ=upds ρ [(6,Pq ak),(8,Pq al),(9,aj),(10,ao),(12,Pq aO),(13,a8),(29,au),(30,I (r2.length:Int)),(31,I (s2:Int)),(38,a8),(39,I (r4.length:Int)),(40,I (s:Int))]/\M.iterN (zb7 ar r4) m s=some bG/\St w W [cMem encDm aq av (zaa aa ab ac ae ag ah ai),cBlk aO [I ((r2.getD s2 default).spring),I ((r2.getD s2 default).town)] 207,cOwn (α:=Int) 3 aj l,cOwn (α:=Dem) 207 ao l2,cBlk al (encB ar) 214,cBlk ak [.func (.func 103) #[Pq ap] #[]] 204,cOwn (α:=Dem) 207 au r2] R) ?_ ?_
  ·exact kY
  rintro ct σ cu ⟨s,ρ,rfl,bH,H⟩;obtain ⟨cv,cw,cA,hM,bh⟩:=M.e_iterN bH;refine kI 5 ?_ ?_
  ·intro bI hM;obtain ⟨cB,hM⟩:=M.e_gq hM;refine kg 6 ?_;refine s_val (x_ld (v:=I (r4.getD s 0)) rfl (ld_sc Sc3.h (At.mono (Int_at aM (i:=(s:Int)) (by omega) (by omega)) (memLe _ (H.get (k:=0) rfl))))) ?_;obtain ⟨cC,hM⟩:=M.e_gq hM;refine kg 5 ?_;refine s_val (x_ix (v:=.pointer (some ⟨al,0+Int.toNat (r4.getD s 0),none⟩)) rfl rfl (run_indexArr Tryz.underlying214 Sz4.h (by omega) (by omega)))<|s_val (x_ld (v:=B (ar.getD (Int.toNat (r4.getD s 0)) false)) rfl (ldArr Sc4.h (H.bl 4) (by omega) (by have bJ:=aJ; omega))) ?_;refine kI 1 ?_ ?_
   ·intro bK hM;refine W.exit ?_;obtain rfl:=M.e_inr hM bh;replace hM:=bf;refine kg 4 ?_;exact ⟨aK,aL,s2+1,ar,l,l2,aj,ao,av,_,jQ,M.e_inl hM ax,(H.pk [2,3,4,0,5,6]),aJ⟩
   intro bK hM;exact kX 5
  intro bI hM;refine W.exit ?_;obtain rfl:=M.e_inr hM bh;replace hM:=bf;have cD:=(aM).len_le;obtain ⟨cE,hM⟩:=M.e_gq hM;refine kg 7 ?_;refine s_val (x_ld (v:=I (r4.getD (Int.toNat ((r4.length:Int)-1)) 0)) rfl (ld_sc Sc3.h (At.mono (Int_at aM (i:=(r4.length:Int)-1) (by omega) (by omega)) (memLe _ (H.get (k:=0) rfl))))) ?_;obtain ⟨cF,hM⟩:=M.e_gq hM;refine kg 5 ?_;refine s_val (x_ix (v:=.pointer (some ⟨al,0+Int.toNat (r4.getD (Int.toNat ((r4.length:Int)-1)) 0),none⟩)) rfl rfl (run_indexArr Tryz.underlying214 Sz4.h (by omega) (by omega))) ?_;refine t_stArr (k:=4) (b:=al) (l:=ar) (l':=ar.set (Int.toNat (r4.getD (Int.toNat ((r4.length:Int)-1)) 0)) true) (i:=r4.getD (Int.toNat ((r4.length:Int)-1)) 0) (v:=true) (L':=[cMem encDm aq av (zaa aa ab ac ae ag ah ai),cBlk aO [I ((r2.getD s2 default).spring),I ((r2.getD s2 default).town)] 207,cOwn (α:=Int) 3 aj l,cOwn (α:=Dem) 207 ao l2,cBlk al (encB (ar.set (Int.toNat (r4.getD (Int.toNat ((r4.length:Int)-1)) 0)) true)) 214,cBlk ak [.func (.func 103) #[Pq ap] #[]] 204,cOwn (α:=Dem) 207 au r2]) H rfl rfl rfl Sz4.h (by omega) (by have bJ:=aJ; omega) rfl rfl ?_;intro cG H;have aP:(ar.set (Int.toNat (r4.getD (Int.toNat ((r4.length:Int)-1)) 0)) true).length=12:=List.length_set.trans aJ;refine kDT 1 [0,1,4,5,6] (.q 0 (.q 1 (.q 4 (.q 5 (.l2 2 (.l2 3 (.l 6 (.l 7 (.q 8 (.q 9 .nil)))) 6 (.l 3 (.l 7 (.q 8 (.q 9 .nil))))) 6 (.l 2 (.l 3 (.l 7 (.q 8 (.q 9 .nil)))))))))) ?_;intro cH H;obtain ⟨cI,hM⟩:=M.e_gq hM;obtain ⟨cJ,hM⟩:=M.e_gq hM;refine kg 4 ?_;refine t_l2 rfl rfl ?_ ?_
  ·refine kL 0 (α:=Int) [r4.getD (Int.toNat ((r4.length:Int)-1)) 0] ?_;intro cK cL H;refine kN ?_;refine t_l2 rfl rfl ?_ ?_
   ·refine kP 0 ?_;intro bL cM H;refine kN ?_;refine kL 1 (α:=Dem) [(r2.getD s2 default)] ?_;intro cN cO H;refine kN ?_;refine kP 1 ?_;intro bM cP H;refine kN ?_;refine kg 3 ?_;replace H:=H.pk [2,4,5,6,7,8];refine kg 4 ?_;exact ⟨aK,aL,s2+1,ar.set (Int.toNat (r4.getD (Int.toNat ((r4.length:Int)-1)) 0)) true,l++([(r4.getD (Int.toNat ((r4.length:Int)-1)) 0:Int)]),l2++([(r2.getD s2 default)]),bL,bM,av,_,jQ,M.e_inl hM ax,(H.pk [1,2,3,0,4,5]),aP⟩
   refine kL 0 (α:=Dem) [(r2.getD s2 default)] ?_;intro cQ cR H;refine kN ?_;refine kP 1 ?_;intro bN cS H;refine kN ?_;refine kP 1 ?_;intro bO cT H;refine kN ?_;refine kg 3 ?_;replace H:=H.pk [2,4,5,6,7,8];refine kg 4 ?_;exact ⟨aK,aL,s2+1,ar.set (Int.toNat (r4.getD (Int.toNat ((r4.length:Int)-1)) 0)) true,l++([(r4.getD (Int.toNat ((r4.length:Int)-1)) 0:Int)]),l2++([(r2.getD s2 default)]),bN,bO,av,_,jQ,M.e_inl hM ax,(H.pk [1,2,3,0,4,5]),aP⟩
  refine kL 0 (α:=Dem) [(r2.getD s2 default)] ?_;intro cU cV H;refine kN ?_;refine kL 1 (α:=Int) [r4.getD (Int.toNat ((r4.length:Int)-1)) 0] ?_;intro cW cX H;refine kN ?_;refine kP 1 ?_;intro bP cY H;refine kN ?_;refine kP 1 ?_;intro bQ cZ H;refine kN ?_;refine kg 3 ?_;replace H:=H.pk [2,4,5,6,7,8];refine kg 4 ?_;exact ⟨aK,aL,s2+1,ar.set (Int.toNat (r4.getD (Int.toNat ((r4.length:Int)-1)) 0)) true,l++([(r4.getD (Int.toNat ((r4.length:Int)-1)) 0:Int)]),l2++([(r2.getD s2 default)]),bP,bQ,av,_,jQ,M.e_inl hM ax,(H.pk [1,2,3,0,4,5]),aP⟩
 intro bE hM;refine W.exit ?_;obtain rfl:=M.e_inr hM ax;replace hM:=bB;replace H:=H.pk [0,1,3];obtain ⟨c3,hM⟩:=M.e_gq hM;refine kg 3 ?_;refine s_call cq [aj] rfl (sort_any (H.get (k:=0) rfl) (by omega)) ?_;rintro _ bR ⟨rfl,bi,bj,bm⟩;replace H:St w bR [cOwn (α:=Int) 3 aj (isort l),cOwn (α:=Dem) 207 ao l2,cMem encDm aq B_mem (zaa aa ab ac ae ag ah ai)] R:=H.sorted (k:=0) rfl bi bj bm rfl;clear bi bj bm;refine kg 9 ?_;exact rt

def zch (aa:List Int) (ab:List Span) (ac:List Int) (ae:List Town) (ah ai:Int) (ag:List Flood):M ((List Int) × Int) :=
  M.bind (zcv aa ab ac ae ah ai ag) fun (aj,ak,r1) =>
  bif r1 != 0 then (
  M.fail)
  else (
  M.bind (zb5 aa ab ac ae aj ak ag) fun (r0,al,r2) =>
  bif !r2 then (
  M.fail)
  else (
  M.pure (r0,0)))
theorem zdx {R ah ai aj ak al ao ap aq au av}(aa ab ac ae aw ax ag)(ay:Reads R ah)(az:Sl ah ai aa)(aA:Reads R aj)(aB:Sl aj ak ab)(aC:Reads R al)(aD:Sl al ao ac)(aE:Reads R ap)(aF:Sl ap aq ae)(aG:Reads R au)(aH:Sl au av ag){r}(hM:(zch aa ab ac ae aw ax ag).Ends r)(w)(H:St w w [] R):Ret Tryz.prog 32 #[.agg #[ai,ak,ao,aq,I aw,I ax,av]] w fun v w'=>∃ y0 y1 u0,(y0,y1)=r/\v = .tuple #[u0,I y1]/\St w w' [cOwn (α:=Int) 3 u0 y0] R:=by
 refine ret_of_W Tryz.func32 rfl rfl rfl ?_;refine kB 2 ?_;intro aP aQ H;refine kC 6 @zdn ?_;intro aR aI aJ r1 aK aS aT hM H;refine kI 12 ?_ ?_
 ·intro aL hM;exact (M.e_fail hM).elim
 intro aL hM;refine kg 4 ?_;obtain ⟨aU,aM,hM⟩:=M.e_bind hM;refine s_call cq [Pq aK] rfl (zdv aa ab ac ae aI aJ ag (ay.app _) az (aA.app _) aB (aC.app _) aD (aE.app _) aF (aG.app _) aH (Has.here (k:=0) rfl) aM _ ((H.pk [1,0,2]).gt 2)) ?_;rintro _ aV ⟨r0,aW,r2,aX,aY,aZ,rfl,rfl,aN⟩;replace H:=H.pk [1,0,2] |>.bk aN
 refine kg 8 ?_;replace H:=H.pk [0];refine kI 6 ?_ ?_
 ·intro aO hM;exact (M.e_fail hM).elim
 intro aO hM;refine kg 7 ?_;exact rt

end Go.Proofs.YtlfkkkbhejeplaaGreat
end
section
set_option maxRecDepth 100000
set_option maxHeartbeats 16000000
namespace Go.Proofs.YtlfkkkbhejeplaaGreat
open Go Go.Nm
attribute [local irreducible] gd execOp SL SLD SLT WR
def zaX  : M Bool :=
  M.bind (zbG 58) fun (r0,r1,r2) =>
  M.bind (m_daily_Volume r0 r1 r2 0 3) fun (ab,ac,ae) =>
  M.bind (zb2 105 130) fun (ao,ap) =>
  M.bind (m_balance_Group ao ap ([(0:Int),(1:Int)])) fun (ag,ah,ai) =>
  M.bind (zbI) fun (aq,au) =>
  M.bind (m_share_Real aq au 120) fun (aa,aj) =>
  M.bind (zcO) fun (av,aw,ax,r3) =>
  M.bind (zbg av aw ax r3 1900 1909 500) fun (ay,az,ak) =>
  M.bind (zcq 1) fun (aA,aB,aC,aD,r4,r5,r6) =>
  M.bind (zch aA aB aC aD r4 r5 r6) fun (aE,al) =>
  M.grd ((!((((((((ae==0)&&(ai==0))&&(aj==0))&&(ak==0))&&(al==0))&&(decide ((⟨(ab:Int),(ac:Int)⟩:Span)=(⟨(172:Int),(180:Int)⟩:Span))))&&(decide ((⟨(ag:Int),(ah:Int)⟩:Span)=(⟨(105:Int),(125:Int)⟩:Span))))&&((aa.length:Int)==2))||(decide (0<(aa.length:Int))))) <|
  M.pure (((((((((((ae==0)&&(ai==0))&&(aj==0))&&(ak==0))&&(al==0))&&(decide ((⟨(ab:Int),(ac:Int)⟩:Span)=(⟨(172:Int),(180:Int)⟩:Span))))&&(decide ((⟨(ag:Int),(ah:Int)⟩:Span)=(⟨(105:Int),(125:Int)⟩:Span))))&&((aa.length:Int)==2))&&((aa.getD 0 0)==95))&&(decide ((⟨(ay:Int),(az:Int)⟩:Span)=(⟨(1:Int),(4:Int)⟩:Span))))&&((aE.length:Int)==1))
theorem zcb {R r}(hM:(zaX).Ends r)(w)(H:St w w [] R):Ret Tryz.prog 7 #[] w fun v w'=>∃ y0,y0=r/\v=B y0/\St w w' [] R:=by
 refine ret_of_W Tryz.func7 rfl rfl rfl ?_;refine kC 6 @zdy ?_;intro aP r0 r1 r2 aQ hM H;refine kC 0 @daily_Volume_ok ?_;intro aR ab ac ae hM H;refine kA 3 ?_;intro aS aT H;refine ksw ?_;intro aU H;refine kC 4 @zcX ?_;intro aV aW aX aY aZ hM H;refine kL 0 (α:=Int) [0,1] ?_;intro a7 a8 H;refine kC 0 @balance_Group_ok ?_;intro bc ak al ag hM H;refine kA 3 ?_;intro bf bh H;refine ksw ?_;intro bi H;refine kg 2 ?_;replace H:=H.pk [0,4];refine kC 2 @zc2 ?_;intro bj bm bn bo hM H;refine kC 0 @share_Real_ok ?_;intro bp ao ah br hM H;refine kg 8 ?_;obtain ⟨bt,aw,hM⟩:=M.e_bind hM;refine s_call cq [] rfl (zdc aw _ (H.gt 4)) ?_;rintro _ bu ⟨ax,ay,aq,r3,az,aA,bv,bw,rfl,rfl,aa,aB⟩;replace H:=H.bk aa;obtain ⟨bA,aC,hM⟩:=M.e_bind hM;refine s_call cq [.agg #[az,aA,I aq,I r3],I 1900,I 1909,I 500] rfl (zdl ax ay aq r3 1900 1909 500 (rdo 0) (H.os 0) (Reads.sup (rdo 1) (Reads.of (k:=2) rfl roLe)) (rowSl rfl (H.get (k:=1) rfl) (roLe _ (H.get (k:=2) rfl)) aB) aC _ (H.gt 7)) ?_;rintro _ bB ⟨au,av,ai,rfl,rfl,aa⟩;replace H:=H.bk aa;refine kA 3 ?_;intro bC bD H;refine ksw ?_;intro bE H;refine kg 2 ?_;replace H:=H.pk [0,4,6,7];refine kg 2 ?_;obtain ⟨bF,aD,hM⟩:=M.e_bind hM;refine s_call cq [I 1] rfl (zds 1 aD _ (H.gt 4)) ?_;rintro _ bG ⟨aE,aF,aG,aH,r4,r5,r6,aI,aJ,aK,aL,aM,bH,bI,rfl,rfl,aa,aN⟩;replace H:=H.bk aa;obtain ⟨bJ,aO,hM⟩:=M.e_bind hM;refine s_call cq [.agg #[aI,aJ,aK,aL,I r4,I r5,aM]] rfl (zdx aE aF aG aH r4 r5 r6 (rdo 0) (H.os 0) (rdo 1) (H.os 1) (rdo 2) (H.os 2) (rdo 3) (H.os 3) (Reads.sup (rdo 4) (Reads.of (k:=5) rfl roLe)) (rowSl rfl (H.get (k:=4) rfl) (roLe _ (H.get (k:=5) rfl)) aN) aO _ (H.gt 10)) ?_;rintro _ bK ⟨bL,aj,bM,rfl,rfl,aa⟩;replace H:=H.bk aa;refine kg 6 ?_;replace H:=H.pk [0,7,8,9,10];refine kg 22 ?_;refine g_val (((((ae==0)&&(ag==0))&&(ah==0))&&(ai==0))&&(aj==0)) (gy_t rfl) (fun hg=>y_bld [I 172,I 180] rfl rfl jF)<|g_val (((((ae==0)&&(ag==0))&&(ah==0))&&(ai==0))&&(aj==0)) (gy_t rfl) (fun hg=>x_eqS (eqT32 (⟨(ab:Int),(ac:Int)⟩:Span) (⟨(172:Int),(180:Int)⟩:Span) _) gdT32 (gd_of hg (.agg #[I ab,I ac])) (gd_of hg (.agg #[I 172,I 180]))) ?_;refine kg 3 ?_;refine g_val ((((((ae==0)&&(ag==0))&&(ah==0))&&(ai==0))&&(aj==0))&&(decide ((⟨(ab:Int),(ac:Int)⟩:Span)=(⟨(172:Int),(180:Int)⟩:Span)))) (gy_t rfl) (fun hg=>y_bld [I 105,I 125] rfl rfl jF)<|g_val ((((((ae==0)&&(ag==0))&&(ah==0))&&(ai==0))&&(aj==0))&&(decide ((⟨(ab:Int),(ac:Int)⟩:Span)=(⟨(172:Int),(180:Int)⟩:Span)))) (gy_t rfl) (fun hg=>x_eqS (eqT32 (⟨(ak:Int),(al:Int)⟩:Span) (⟨(105:Int),(125:Int)⟩:Span) _) gdT32 (gd_of hg (.agg #[I ak,I al])) (gd_of hg (.agg #[I 105,I 125]))) ?_;obtain ⟨ap,hM⟩:=M.e_grd hM
 replace ap:=M.imp_of ap;simp only [Bool.and_eq_true,decide_eq_true_eq] at ap;refine kg 14 ?_;refine g_val (((((((((ae==0)&&(ag==0))&&(ah==0))&&(ai==0))&&(aj==0))&&(decide ((⟨(ab:Int),(ac:Int)⟩:Span)=(⟨(172:Int),(180:Int)⟩:Span))))&&(decide ((⟨(ak:Int),(al:Int)⟩:Span)=(⟨(105:Int),(125:Int)⟩:Span))))&&((ao.length:Int)==2))&&((ao.getD 0 0)==95)) (gy_t rfl) (fun hg=>y_bld [I 1,I 4] rfl rfl jF)<|g_val (((((((((ae==0)&&(ag==0))&&(ah==0))&&(ai==0))&&(aj==0))&&(decide ((⟨(ab:Int),(ac:Int)⟩:Span)=(⟨(172:Int),(180:Int)⟩:Span))))&&(decide ((⟨(ak:Int),(al:Int)⟩:Span)=(⟨(105:Int),(125:Int)⟩:Span))))&&((ao.length:Int)==2))&&((ao.getD 0 0)==95)) (gy_t rfl) (fun hg=>x_eqS (eqT32 (⟨(au:Int),(av:Int)⟩:Span) (⟨(1:Int),(4:Int)⟩:Span) _) gdT32 (gd_of hg (.agg #[I au,I av])) (gd_of hg (.agg #[I 1,I 4]))) ?_;refine kg 8 ?_;replace H:=H.pk []
 exact rt

end Go.Proofs.YtlfkkkbhejeplaaGreat
end
section
set_option maxRecDepth 100000
set_option maxHeartbeats 16000000
namespace Go.Proofs.YtlfkkkbhejeplaaGreat
open Go Go.Nm
attribute [local irreducible] gd execOp SL SLD SLT WR
def zaF (aa ab:List Int):(Int × Int × Nat)->M ((Int × Int × Nat) ⊕ (Int × Int)):=fun (upper,lower,i) =>
  bif decide ((i:Int)<(min (aa.length:Int) (ab.length:Int))) then (
  M.grd (decide ((i:Int)<(aa.length:Int))) <|
  M.gi (upper+(aa.getD i 0)) <|
  M.grd (decide ((i:Int)<(ab.length:Int))) <|
  M.gi (lower+(ab.getD i 0)) <|
  M.pure (.inl (upper+(aa.getD i 0),lower+(ab.getD i 0),i+1)))
  else (
  M.pure (.inr (upper,lower)))
def zaN (aa:List Int) (ab:List Span):(Int × Nat)->M ((Int × Nat) ⊕ (Unit ⊕ Int)):=fun (sum,i2) =>
  bif decide ((i2:Int)<(aa.length:Int)) then (
  M.grd (decide ((i2:Int)<(aa.length:Int))) <|
  M.grd (decide ((i2:Int)<(ab.length:Int))) <|
  bif ((decide ((aa.getD i2 0)<((ab.getD i2 default).lo)))||(decide (((ab.getD i2 default).hi)<(aa.getD i2 0)))) then (
  M.pure (.inr (.inl ())))
  else (
  M.gi (sum+(aa.getD i2 0)) <|
  M.pure (.inl (sum+(aa.getD i2 0),i2+1))))
  else (
  M.pure (.inr (.inr sum)))
def zaI (aa:List Int) (ab:List Span):Nat->M (Nat ⊕ (Unit ⊕ Unit)):=fun i3 =>
  bif decide ((i3:Int)<(aa.length:Int)) then (
  M.grd (decide ((i3:Int)<(aa.length:Int))) <|
  M.grd (decide ((i3:Int)<(ab.length:Int))) <|
  bif ((decide ((aa.getD i3 0)<((ab.getD i3 default).lo)))||(decide (((ab.getD i3 default).hi)<(aa.getD i3 0)))) then (
  M.pure (.inr (.inl ())))
  else (
  M.pure (.inl (i3+1))))
  else (
  M.pure (.inr (.inr ())))
def za9  : (Nat × (List Int))->M ((Nat × (List Int)) ⊕ ((List Int) × (List Int))):=fun (i4,l) =>
  bif decide ((i4:Int)<40) then (
  M.grd (decide ((l.length+([(1000000000:Int)]).length)*8<=140737488355328)) <|
  M.pure (.inl (i4+1,l++([(1000000000:Int)]))))
  else (
  M.pure (.inr (l,l)))
def zao (aa:List Int):(Int × Nat)->M ((Int × Nat) ⊕ Int):=fun (worst,i5) =>
  bif decide ((i5:Int)<(aa.length:Int)) then (
  M.grd (decide ((i5:Int)<(aa.length:Int))) <|
  M.gi (worst-(aa.getD i5 0)) <|
  M.pure (.inl (worst-(aa.getD i5 0),i5+1)))
  else (
  M.pure (.inr worst))
def za0 (above below compacts borders:List UInt8) (wide part:Int):M Bool :=
  M.bind (zaq above) fun (r1,r2) =>
  M.bind (zaJ above r1 r2 12) fun (aD,aE,aF,ao,q1,q2) =>
  M.bind (zaq below) fun (aG,aH) =>
  M.bind (zaJ below aG aH 12) fun (aI,aJ,aK,ap,aX,aY) =>
  M.bind (m_daily_Volume aD aE aF 0 ((min (ao.length:Int) (ap.length:Int))-1)) fun (aq,aj,aL) =>
  M.bind (m_daily_Volume aI aJ aK 0 ((min (ao.length:Int) (ap.length:Int))-1)) fun (ai,ag,aM) =>
  bif ((aL != 0)||(aM != 0)) then (
  M.pure false)
  else (
  M.bind (M.iter (zaF ao ap) (0,0,0)) fun (upper2,lower2) =>
  bif ((((decide (upper2<aq))||(decide (aj<upper2)))||(decide (lower2<ai)))||(decide (ag<lower2))) then (
  M.pure false)
  else (
  bif ((decide (1000000<aj))||(decide (1000000<ag))) then (
  M.bind (zaX) fun r3 =>
  M.pure r3)
  else (
  M.bind (zaA wide 300) fun r4 =>
  M.gi (lower2-upper2) <|
  M.gi ((lower2-upper2)-r4) <|
  M.gi ((lower2-upper2)+r4) <|
  M.bind (m_balance_Spans ([(⟨(0:Int),(1000000:Int)⟩:Span),(⟨((lower2-upper2)-r4:Int),((lower2-upper2)+r4:Int)⟩:Span),(⟨(-1000000:Int),(0:Int)⟩:Span)]) ([(⟨(0:Int),(1:Int),(aq:Int),(aj:Int)⟩:BRch),(⟨(1:Int),(2:Int),(ai:Int),(ag:Int)⟩:BRch)])) fun (r0,aZ,ak) =>
  M.bind (m_balance_Group ([(⟨(0:Int),(1000000:Int)⟩:Span),(⟨((lower2-upper2)-r4:Int),((lower2-upper2)+r4:Int)⟩:Span),(⟨(-1000000:Int),(0:Int)⟩:Span)]) ([(⟨(0:Int),(1:Int),(aq:Int),(aj:Int)⟩:BRch),(⟨(1:Int),(2:Int),(ai:Int),(ag:Int)⟩:BRch)]) ([(0:Int),(1:Int)])) fun (ac,ae,al) =>
  M.grd ((!(!(((((ak != 0)||(al != 0))||((r0.length:Int) != 2))||(decide (lower2<ac)))||(decide (ae<lower2))))||(decide (1<(r0.length:Int))))) <|
  M.grd ((!(!((((((((ak != 0)||(al != 0))||((r0.length:Int) != 2))||(decide (lower2<ac)))||(decide (ae<lower2)))||(!(decide ((⟨(ac:Int),(ae:Int)⟩:Span)=(r0.getD 1 default)))))||(decide (ac<ai)))||(decide (ag<ae))))||(decide (0<(r0.length:Int))))) <|
  M.grd ((!(!(((((((((ak != 0)||(al != 0))||((r0.length:Int) != 2))||(decide (lower2<ac)))||(decide (ae<lower2)))||(!(decide ((⟨(ac:Int),(ae:Int)⟩:Span)=(r0.getD 1 default)))))||(decide (ac<ai)))||(decide (ag<ae)))||(decide (upper2<((r0.getD 0 default).lo)))))||(decide (0<(r0.length:Int))))) <|
  bif ((((((((((ak != 0)||(al != 0))||((r0.length:Int) != 2))||(decide (lower2<ac)))||(decide (ae<lower2)))||(!(decide ((⟨(ac:Int),(ae:Int)⟩:Span)=(r0.getD 1 default)))))||(decide (ac<ai)))||(decide (ag<ae)))||(decide (upper2<((r0.getD 0 default).lo))))||(decide (((r0.getD 0 default).hi)<upper2))) then (
  M.pure false)
  else (
  M.bind (zaq compacts) fun (aN,aO) =>
  M.bind (zaQ compacts aN aO) fun (au,aw,a7,a8) =>
  M.bind (m_share_Real au aw lower2) fun (av,aP) =>
  M.bind (m_share_Shares au aw (⟨(ac:Int),(ae:Int)⟩:Span)) fun (ax,aQ) =>
  bif ((((aP != 0)||(aQ != 0))||((av.length:Int) != au))||((ax.length:Int) != (av.length:Int))) then (
  M.pure false)
  else (
  M.bind (M.iter (zaN av ax) (0,0)) fun x_=>match x_ with
  | (.inl (_:Unit))=>(
  M.pure false)
  | (.inr sum2)=>(
  bif decide (lower2<sum2) then (
  M.pure false)
  else (
  M.bind (zaq borders) fun (aR,aS) =>
  M.bind (zaR borders aR aS 5) fun (ay,az,aA,aT,aa,ah,bc,bf) =>
  M.grd (decide ((0:Int)<=((aa.length:Int)-1))&&decide (((aa.length:Int)-1)<(aa.length:Int))) <|
  M.grd (decide ((0:Int)<=((ah.length:Int)-1))&&decide (((ah.length:Int)-1)<(ah.length:Int))) <|
  M.bind (m_share_Owed ay az aA (aa.set (Int.toNat ((aa.length:Int)-1)) ({ (aa.getD (Int.toNat ((aa.length:Int)-1)) default) with dlo:=ac,dhi:=ae })) (ah.set (Int.toNat ((ah.length:Int)-1)) ({ (ah.getD (Int.toNat ((ah.length:Int)-1)) default) with delivered:=lower2 }))) fun (aB,aU) =>
  M.bind (m_share_Debts ay az (⟨(aA:Int),(aT:Int)⟩:Span) (aa.set (Int.toNat ((aa.length:Int)-1)) ({ (aa.getD (Int.toNat ((aa.length:Int)-1)) default) with dlo:=ac,dhi:=ae }))) fun (ab,aV) =>
  bif ((((aU != 0)||(aV != 0))||((aB.length:Int) != ((aa.set (Int.toNat ((aa.length:Int)-1)) ({ (aa.getD (Int.toNat ((aa.length:Int)-1)) default) with dlo:=ac,dhi:=ae })).length:Int)))||((ab.length:Int) != ((aa.set (Int.toNat ((aa.length:Int)-1)) ({ (aa.getD (Int.toNat ((aa.length:Int)-1)) default) with dlo:=ac,dhi:=ae })).length:Int))) then (
  M.pure false)
  else (
  M.bind (M.iter (zaI aB ab) 0) fun x_=>match x_ with
  | (.inl (_:Unit))=>(
  M.pure false)
  | (.inr (_:Unit))=>(
  M.grd (decide ((0:Int)<=((ab.length:Int)-1))&&decide (((ab.length:Int)-1)<(ab.length:Int))) <|
  M.grd (decide (0<=(max 0 ((ab.getD (Int.toNat ((ab.length:Int)-1)) default).hi)))&&decide ((max 0 ((ab.getD (Int.toNat ((ab.length:Int)-1)) default).hi))<=(9223372036854775807:Int))&&decide ((0:Int)<20)) <|
  M.gi (1+((max 0 ((ab.getD (Int.toNat ((ab.length:Int)-1)) default).hi)) / 20)) <|
  M.bind (zaA part 100) fun r5 =>
  M.gi (1+r5) <|
  M.bind (M.iter (za9) (0,[])) fun (l2,l3) =>
  M.bind (m_share_Payback (max 0 ((ab.getD (Int.toNat ((ab.length:Int)-1)) default).hi)) (1+((max 0 ((ab.getD (Int.toNat ((ab.length:Int)-1)) default).hi)) / 20)) (1+r5) l3) fun (aW,aC) =>
  M.bind (M.iter (zao aW) (max 0 ((ab.getD (Int.toNat ((ab.length:Int)-1)) default).hi),0)) fun worst2 =>
  M.bind (M.opt ((aC==0)&&(worst2==0)) (zaX) false) fun r6 =>
  M.pure (((aC==0)&&(worst2==0))&&r6))))))))))
theorem zdG {R aw ax ay az aA aj aB ah}(above below compacts borders wide part)(bY:Reads R aw)(bZ:Sl aw ax above)(b5:Reads R ay)(b6:Sl ay az below)(b7:Reads R aA)(b8:Sl aA aj compacts)(b9:Reads R aB)(cb:Sl aB ah borders){r}(hM:(za0 above below compacts borders wide part).Ends r)(w)(H:St w w [] R):Ret Tryz.prog 3 #[ax,az,aj,ah,I wide,I part] w fun v w'=>∃ y0,y0=r/\v=B y0/\St w w' [] R:=by
 refine ret_of_W Tryz.func3 rfl rfl rfl ?_;refine kC 7 @za1 ?_;intro cc r1 r2 cd hM H;refine kC 0 @zcR ?_;intro ce cf cg ch ak q1 q2 cj aC hM H;refine kA 3 ?_;intro ck ct H;refine kS 0 ?_;intro cu H;refine kC 5 @za1 ?_;intro cv cw cA cB hM H;refine kC 0 @zcR ?_;intro cC cD cE cF al cG cH cI aD hM H;refine kA 3 ?_;intro cJ cK H;refine kS 0 ?_;intro cL H;refine kg 2 ?_;replace H:=H.pk [0,1,2,4,5,6];have cM:=((H.os 5)).len_le;have cN:=((H.os 2)).len_le;refine kC 14 @daily_Volume_ok ?_;intro cO aE aF cP hM H;refine kA 3 ?_;intro aG cQ H;refine ksw ?_;intro cR H;refine kg 2 ?_;replace H:=H.pk [0,1,2,3,6];refine kC 5 @daily_Volume_ok ?_;intro cS aH aI cT hM H;refine kA 3 ?_;intro aJ cU H;refine ksw ?_;intro cV H;refine kg 2 ?_;replace H:=H.pk [0,1,4,5];refine kI 10 ?_ ?_
 ·intro bh hM;refine kg 4 ?_;replace H:=H.pk [];exact rt
 intro bh hM;refine kg 12 ?_;obtain ⟨bi,aK,bj⟩:=M.e_bind hM;obtain ⟨ai,aK⟩:=M.e_iter aK;refine W.loop (fun m σ W=>∃ (upper:Int) (lower:Int) (i:Nat) (ρ:Env),σ=upds ρ [(2,aj),(3,ah),(4,I wide),(5,I part),(14,aC),(16,aD),(17,I (min (ak.length:Int) (al.length:Int))),(18,Pq aG),(20,Pq aJ),(22,I upper),(23,I lower),(24,I (i:Int))]/\M.iterN (zaF ak al) m (upper,lower,i)=some bi/\St w W [cBlk aJ [I aH,I aI] 32,cBlk aG [I aE,I aF] 32,cOwn (α:=Int) 3 aD al,cOwn (α:=Int) 3 aC ak] R) ?_ ?_
 ·exact kY
 rintro cW σ cX ⟨upper,lower,i,ρ,rfl,bm,H⟩;obtain ⟨cY,cZ,c3,hM,bn⟩:=M.e_iterN bm;refine kI 7 ?_ ?_
 ·intro bo hM;refine kD 3 [0,1,2,3] [] ?_;intro c4 H;obtain ⟨c6,hM⟩:=M.e_gq hM;obtain ⟨c7,hM⟩:=M.e_gq hM;obtain ⟨c8,hM⟩:=M.e_gq hM;obtain ⟨c9,hM⟩:=M.e_gq hM;exact kX 20
 intro bo hM;refine W.exit ?_;obtain rfl:=M.e_inr hM bn;replace hM:=bj;replace H:=H.pk [0,1];refine kI 26 ?_ ?_
 ·intro bp hM;refine kg 4 ?_;replace H:=H.pk [];exact rt
 intro bp hM;refine kI 13 ?_ ?_
 ·intro br hM;refine kC 2 @zcb ?_;intro da r3 hM H;refine kg 2 ?_;replace H:=H.pk [];exact rt
 intro br hM;refine kC 4 @zcw ?_;intro dc r4 hM H;refine kG 5 ?_;obtain ⟨dg,hM⟩:=M.e_gq hM;obtain ⟨dh,hM⟩:=M.e_gq hM;obtain ⟨di,hM⟩:=M.e_gq hM;refine kL 12 (α:=Span) [⟨0,1000000⟩,⟨(lower-upper)-r4,(lower-upper)+r4⟩,⟨-1000000,0⟩] ?_;intro dj dk H;refine kL 4 (α:=BRch) [⟨0,1,aE,aF⟩,⟨1,2,aH,aI⟩] ?_;intro dp dq H;refine kA 1 ?_;intro dr dt H;refine kS 0 ?_;intro dw H;refine kC 4 @balance_Spans_ok ?_;intro dz r0 dA bt dB dC hM H;refine kg 8 ?_;replace H:=H.pk [0,2,3,4,5];refine kL 3 (α:=Int) [0,1] ?_;intro dD dE H;refine kC 0 @balance_Group_ok ?_;intro dF ab ac bu hM H;refine kA 3 ?_;intro aL dG H;refine ksw ?_;intro dH H;refine kg 2 ?_;replace H:=H.pk [0,2,6];refine kD 2 [0,1,2] [] ?_;intro dJ H;obtain ⟨ao,hM⟩:=M.e_grd hM;replace ao:=M.imp_of ao;simp only [Bool.and_eq_true,decide_eq_true_eq] at ao;refine kg 28 ?_;refine d_qg (!(((((bt != 0)||(bu != 0))||((r0.length:Int) != 2))||(decide (lower<ab)))||(decide (ac<lower)))) rfl (gy_f rfl) (fun hg=>(fun w' H=>x_neS (eqT32 (⟨(ab:Int),(ac:Int)⟩:Span) (r0.getD 1 default) _) gdT32 (gd_of hg (.agg #[I ab,I ac])) (gd_of hg (.agg #[I ((r0.getD 1 default).lo),I ((r0.getD 1 default).hi)])))) ?_;obtain ⟨ap,hM⟩:=M.e_grd hM;replace ap:=M.imp_of ap;simp only [Bool.and_eq_true,decide_eq_true_eq] at ap;obtain ⟨aq,hM⟩:=M.e_grd hM;replace aq:=M.imp_of aq;simp only [Bool.and_eq_true,decide_eq_true_eq] at aq;refine kg 32 ?_;replace H:=H.pk [0];refine kI 0 ?_ ?_
 ·intro bv hM;refine kg 4 ?_;exact rt
 intro bv hM;refine kC 4 @za1 ?_;intro dK dL dM dN hM H;refine kC 0 @zde ?_;intro dO dP dQ dR dS dU hM H;refine kal ?_;intro dV dW H;refine kS 0 ?_;intro dX H;refine kC 5 @share_Real_ok ?_;intro dY aM dZ aN hM H;refine kC 10 @share_Shares_ok ?_;intro d6 aO d7 aP hM H;refine kg 30 ?_;replace H:=H.pk [0,1,5];refine kI 0 ?_ ?_
 ·intro bw hM;refine kg 4 ?_;replace H:=H.pk [];exact rt
 intro bw hM;refine kg 11 ?_;obtain ⟨bA,aQ,aR⟩:=M.e_bind hM;obtain ⟨ai,aQ⟩:=M.e_iter aQ;refine W.loop (fun m σ W=>∃ (sum:Int) (i2:Nat) (ρ:Env),σ=upds ρ [(3,ah),(5,I part),(23,I lower),(29,Pq aL),(31,aN),(32,aP),(33,I sum),(34,I (i2:Int))]/\M.iterN (zaN aM aO) m (sum,i2)=some bA/\St w W [cOwn (α:=Span) 32 aP aO,cOwn (α:=Int) 3 aN aM,cBlk aL [I ab,I ac] 32] R) ?_ ?_
 ·exact kY
 rintro d8 σ d9 ⟨sum,i2,ρ,rfl,bB,H⟩;obtain ⟨ea,ec,ee,hM,aS⟩:=M.e_iterN bB;have eg:=((H.os 1)).len_le;refine kI 8 ?_ ?_
 ·intro bC hM;refine kD 5 [0,1,2] [] ?_;intro eh H;obtain ⟨ei,hM⟩:=M.e_gq hM;obtain ⟨ej,hM⟩:=M.e_gq hM;refine kI 23 ?_ ?_
  ·intro bD hM;refine kg 4 ?_;obtain rfl:=M.e_inr hM aS;replace hM:=aR;exact rt
  intro bD hM;obtain ⟨em,hM⟩:=M.e_gq hM;exact kX 15
 intro bC hM;refine W.exit ?_;obtain rfl:=M.e_inr hM aS;replace hM:=aR;replace H:=H.pk [2];refine kI 7 ?_ ?_
 ·intro bE hM;refine kg 4 ?_;exact rt
 intro bE hM;refine kC 4 @za1 ?_;intro ep er eu eA hM H;refine kC 5 @zdr ?_;intro eB eC eD eE eF aa ae eG eH eI bF eJ hM H;refine kA 5 ?_;intro eK eL H;refine kal ?_;intro eM eN H;refine kS 0 ?_;intro eO H;refine ksw ?_;intro eP H;have eQ:=((H.os 3)).len_le;have eR:=((H.os 4)).len_le;obtain ⟨eS,hM⟩:=M.e_gq hM;refine kO 17 (α:=SYr) ({ (aa.getD (Int.toNat ((aa.length:Int)-1)) default) with dlo:=ab,dhi:=ac }) ?_;intro eT H;have eU:(aa.set (Int.toNat ((aa.length:Int)-1)) ({ (aa.getD (Int.toNat ((aa.length:Int)-1)) default) with dlo:=ab,dhi:=ac })).length=(aa).length:=List.length_set;obtain ⟨eV,hM⟩:=M.e_gq hM;refine kO 2 (α:=STr) ({ (ae.getD (Int.toNat ((ae.length:Int)-1)) default) with delivered:=lower }) ?_;intro eW H;have eX:(ae.set (Int.toNat ((ae.length:Int)-1)) ({ (ae.getD (Int.toNat ((ae.length:Int)-1)) default) with delivered:=lower })).length=(ae).length:=List.length_set;refine s_nil ?_;replace H:=H.pk [0,1,2,3,4];refine kC 7 @share_Owed_ok ?_;intro eY aT eZ aU hM H;refine kC 11 @share_Debts_ok ?_;intro e9 ag fa au hM H;refine kg 6 ?_;replace H:=H.pk [0,1,5];refine kI 24 ?_ ?_
 ·intro bG hM;refine kg 4 ?_;replace H:=H.pk [];exact rt
 intro bG hM;refine kg 7 ?_;obtain ⟨bH,aV,aW⟩:=M.e_bind hM;obtain ⟨ai,aV⟩:=M.e_iter aV;refine W.loop (fun m σ W=>∃ (i3:Nat) (ρ:Env),σ=upds ρ [(5,I part),(40,aU),(41,au),(42,I (i3:Int))]/\M.iterN (zaI aT ag) m i3=some bH/\St w W [cOwn (α:=Span) 32 au ag,cOwn (α:=Int) 3 aU aT,cOwn (α:=SYr) 63 bF (aa.set (Int.toNat ((aa.length:Int)-1)) ({ (aa.getD (Int.toNat ((aa.length:Int)-1)) default) with dlo:=ab,dhi:=ac }))] R) ?_ ?_
 ·exact kY
 rintro fb σ fd ⟨i3,ρ,rfl,bI,H⟩;obtain ⟨fe,ff,fg,hM,aX⟩:=M.e_iterN bI;have fh:=((H.os 1)).len_le;refine kI 8 ?_ ?_
 ·intro bJ hM;refine kD 4 [0,1,2] [] ?_;intro fo H;obtain ⟨fp,hM⟩:=M.e_gq hM;obtain ⟨fq,hM⟩:=M.e_gq hM;refine kI 23 ?_ ?_
  ·intro bK hM;refine kg 4 ?_;obtain rfl:=M.e_inr hM aX;replace hM:=aW;exact rt
  intro bK hM;exact kX 6
 intro bJ hM;refine W.exit ?_;obtain rfl:=M.e_inr hM aX;replace hM:=aW;replace H:=H.pk [0];have fu:=((H.os 0)).len_le;obtain ⟨fv,hM⟩:=M.e_gq hM;obtain ⟨fw,hM⟩:=M.e_gq hM;obtain ⟨fA,hM⟩:=M.e_gq hM;refine kC 18 @zcw ?_;intro fB r5 hM H;obtain ⟨fC,hM⟩:=M.e_gq hM;refine kA 2 ?_;intro aY fD H;refine ksw ?_;intro fE H;refine kg 7 ?_;replace H:=H.nilOwn (α:=Int) 3;obtain ⟨bL,aZ,bM⟩:=M.e_bind hM;obtain ⟨ai,aZ⟩:=M.e_iter aZ;refine W.loop (fun m σ W=>∃ (i4:Nat) (l:List Int) (av:Value) (ρ:Env),σ=upds ρ [(43,I (max 0 ((ag.getD (Int.toNat ((ag.length:Int)-1)) default).hi))),(44,Pq aY),(45,I (i4:Int))]/\M.iterN (za9) m (i4,l)=some bL/\St w W [cOwn (α:=Int) 3 av l,cBlk aY [I (1+((max 0 ((ag.getD (Int.toNat ((ag.length:Int)-1)) default).hi)) / 20)),I (1+r5),av] 69,cOwn (α:=Span) 32 au ag] R) ?_ ?_
 ·exact kY
 rintro fF σ fG ⟨i4,l,av,ρ,rfl,bN,H⟩;obtain ⟨fH,fI,fJ,hM,bO⟩:=M.e_iterN bN;refine kI 6 ?_ ?_
 ·intro bP hM;refine kL 6 (α:=Int) [1000000000] ?_;intro fK fL H;obtain ⟨fM,hM⟩:=M.e_gq hM;refine kP 0 ?_;intro fN fO H;refine kS 1 ?_;intro fP H;exact kXp 6 [1,2,3]
 intro bP hM;refine W.exit ?_;obtain rfl:=M.e_inr hM bO;replace hM:=bM;refine kC 4 @share_Payback_ok ?_;intro fQ a7 a8 bc hM H;refine kg 6 ?_;replace H:=H.pk [0];refine kg 6 ?_;obtain ⟨bQ,bf,bR⟩:=M.e_bind hM;obtain ⟨ai,bf⟩:=M.e_iter bf;refine W.loop (fun m σ W=>∃ (worst:Int) (i5:Nat) (ρ:Env),σ=upds ρ [(19,I a8),(43,I worst),(46,bc),(47,I (i5:Int))]/\M.iterN (zao a7) m (worst,i5)=some bQ/\St w W [cOwn (α:=Int) 3 bc a7] R) ?_ ?_
 ·exact kY
 rintro fR σ fS ⟨worst,i5,ρ,rfl,bS,H⟩;obtain ⟨fU,fV,fW,hM,bT⟩:=M.e_iterN bS;have fX:=((H.os 0)).len_le;refine kI 8 ?_ ?_
 ·intro bU hM;obtain ⟨fY,hM⟩:=M.e_gq hM;obtain ⟨fZ,hM⟩:=M.e_gq hM;exact kX 17
 intro bU hM;refine W.exit ?_;obtain rfl:=M.e_inr hM bT;replace hM:=bR;refine kg 9 ?_;obtain ⟨r6,bV,hM⟩:=M.e_bind hM;refine t_gcall ((a8==0)&&(worst==0)) (gy_t rfl) cq (B r6) (fun _=>[]) (fun _=>rfl) H (fun hg=>(zcb (M.e_opt bV hg) _ (H.give (A:=[]) rfl)).mono fun v_ w_ ⟨y_,bW,bX,H_⟩=>by subst bW; exact ⟨bX,H.via H_⟩) ?_;intro gc H;refine kg 3 ?_;exact rt

end Go.Proofs.YtlfkkkbhejeplaaGreat
end
namespace Go.Nm
theorem Bl.zs_bd {f:Nat->Int} {c:Int} {n:Nat} (h:∀ k,k<n->0<=f k/\f k<=c):0<=Bl.Zs f n/\Bl.Zs f n<=c*n:=by
  induction n with
  | zero=>simp [Bl.Zs]
  | succ n ih =>
    have a:=ih fun k hk=>h k (by omega);have b:=h n (by omega);have e:c*((n+1:Nat):Int)=c*(n:Int)+c:=by rw [Int.natCast_add,Int.mul_add]; simp
    rw [e];show 0<=Bl.Zs f n+f n/\Bl.Zs f n+f n<=_;omega
end Go.Nm
namespace Go.Proofs.YtlfkkkbhejeplaaGreat
open Go Go.Nm
variable {a0 a1 b0 b1 g0 g1 m0 m1 m2 m3 m4 U L:Int}
theorem aware12_ends:(zaX).Ends true:=⟨400,by kernel_rfl⟩
theorem fe_true (h:N3 a0 a1 b0 b1 g0 g1 U L):Bl.Fe (L3 a0 a1 b0 b1 g0 g1 m0 m1 m2 m3 m4) (L3 a0 a1 b0 b1 g0 g1 U L U (L-U) (-L)):=by
  obtain ⟨ha,hb,hg⟩:=h;exact fe_any (m0:=U) (m1:=L) (m2:=U) (m3:=L-U) (m4:=-L) ⟨Bl.Sm.refl _,bal5,all5 (Q:=fun w=>w.lo<=w.now/\w.now<=w.hi) (by dsimp only; omega) (by dsimp only; omega) (by dsimp only; omega) (by dsimp only; omega) (by dsimp only; omega)⟩
theorem sp3_in {lo hi:Int} (h:N3 a0 a1 b0 b1 g0 g1 U L) (s:Sp3 (L3 a0 a1 b0 b1 g0 g1 m0 m1 m2 m3 m4) 1 lo hi):b0<=lo/\lo<=L/\L<=hi/\hi<=b1:=by
  obtain ⟨⟨T,t1,t2⟩,⟨S,s1,s2⟩,h3⟩:=s;have q:lo<=L/\L<=hi:=h3 _ (fe_true h);have f1:=t1.fit 1 (by rw [t1.sm.len]; exact (by decide:1<5));have f2:=s1.fit 1 (by rw [s1.sm.len]; exact (by decide:1<5));have e1:(T.getD 1 default).lo=b0:=t1.sm.lo (k:=1) (show 1<5 by decide);have e2:(S.getD 1 default).hi=b1:=s1.sm.hi (k:=1) (show 1<5 by decide);omega
theorem td_b0 {x y:List Int} {n:Nat} (hn:min x.length y.length=n) (h12:n<=60) (hx:∀ k,k<n->0<=x.getD k 0/\x.getD k 0<=2000) (hy:∀ k,k<n->0<=y.getD k 0/\y.getD k 0<=2000) :
    (M.iter (zaF x y) (0,0,0)).Ends (Bl.Zs (fun k=>x.getD k 0) n,Bl.Zs (fun k=>y.getD k 0) n):=by
  refine M.i_for (fun i=>(Bl.Zs (fun k=>x.getD k 0) i,Bl.Zs (fun k=>y.getD k 0) i,i)) n (fun i hi=>?_) ?_
  · have a:=Bl.zs_bd (f:=fun k=>x.getD k 0) (c:=2000) (n:=i) fun k hk=>hx k (by omega);have b:=Bl.zs_bd (f:=fun k=>y.getD k 0) (c:=2000) (n:=i) fun k hk=>hy k (by omega);have c:=hx i hi;have d:=hy i hi;simp only [zaF];exact M.i_t (decide_eq_true (by omega)) (M.grdD (by omega) (M.i_grd (gA2 (by omega) (by omega)) (M.grdD (by omega) (M.i_grd (gA2 (by omega) (by omega)) M.i_pure))))
  · simp only [zaF];exact M.i_f (decide_eq_false (by omega)) M.i_pure
theorem td_b1 {g:List Int} {l:List Span} {n:Nat} (hg:g.length=n) (hl:l.length=n) (n12:n<=12) (h:∀ k,k<n->(l.getD k default).lo<=g.getD k 0/\g.getD k 0<=(l.getD k default).hi) (hb:∀ k,k<n->0<=g.getD k 0/\g.getD k 0<=100000000) :
    (M.iter (zaN g l) (0,0)).Ends (.inr (Bl.Zs (fun k=>g.getD k 0) n)):=by
  refine M.i_for (fun i=>(Bl.Zs (fun k=>g.getD k 0) i,i)) n (fun i hi=>?_) ?_
  · have a:=Bl.zs_bd (f:=fun k=>g.getD k 0) (c:=100000000) (n:=i) fun k hk=>hb k (by omega);have b:=hb i hi;have c:=h i hi;simp only [zaN];exact M.i_t (decide_eq_true (by omega)) (M.grdD (by omega) (M.grdD (by omega) (M.i_f (by rw [decide_eq_false (by omega),decide_eq_false (by omega)]; rfl) (M.i_grd (gA2 (by omega) (by omega)) M.i_pure))))
  · simp only [zaN];exact M.i_f (decide_eq_false (by omega)) M.i_pure
theorem td_b2 {g:List Int} {l:List Span} {n:Nat} (hg:g.length=n) (hl:l.length=n) (h:∀ k,k<n->(l.getD k default).lo<=g.getD k 0/\g.getD k 0<=(l.getD k default).hi) :
    (M.iter (zaI g l) 0).Ends (.inr ()):=by
  refine M.i_for (fun i=>i) n (fun i hi=>?_) ?_
  · have c:=h i hi;simp only [zaI];exact M.i_t (decide_eq_true (by omega)) (M.grdD (by omega) (M.grdD (by omega) (M.i_f (by rw [decide_eq_false (by omega),decide_eq_false (by omega)]; rfl) M.i_pure)))
  · simp only [zaI];exact M.i_f (decide_eq_false (by omega)) M.i_pure
theorem td_b3:(M.iter za9 (0,[])).Ends (List.replicate 40 1000000000,List.replicate 40 1000000000):=⟨60,by rfl⟩
theorem td_b4 {l:List Int} {w:Int} (hw:0<=w/\w<=1000000000) (hl:l.length<=40) (hb:∀ k,k<l.length->0<=l.getD k 0/\l.getD k 0<=1000000000) :
    (M.iter (zao l) (w,0)).Ends (w-Bl.Zs (fun k=>l.getD k 0) l.length):=by
  have:=M.i_for (body:=zao l) (r:=w-Bl.Zs (fun k=>l.getD k 0) l.length) (fun i=>(w-Bl.Zs (fun k=>l.getD k 0) i,i)) l.length (fun i hi=>?_) ?_
  · rw [show w=w-Bl.Zs (fun k=>l.getD k 0) 0 by simp [Bl.Zs]]
    simpa [Bl.Zs] using this
  · have a:=Bl.zs_bd (f:=fun k=>l.getD k 0) (c:=1000000000) (n:=i) fun k hk=>hb k (by omega);have b:=hb i hi;simp only [zao];refine M.i_t (decide_eq_true (by omega)) (M.grdD (by omega) (M.i_grd (gA2 (by omega) (by omega)) ?_));rw [show w-Bl.Zs (fun k=>l.getD k 0) (i+1)=w-Bl.Zs (fun k=>l.getD k 0) i-l.getD i 0 by show w-(Bl.Zs (fun k=>l.getD k 0) i+l.getD i 0)=_; omega];exact M.i_pure
  · simp only [zao];exact M.i_f (decide_eq_false (by omega)) M.i_pure
theorem set_yok {ys:List SYr} {ts:List STr} (hy:Sr.YOk ys ts) (h1:1<=ys.length) {lo hi f:Int} (h:0<=lo/\lo<=f/\f<=hi/\hi<=1000000) :
    Sr.YOk (ys.set (ys.length-1) { ys.getD (ys.length-1) default with dlo:=lo,dhi:=hi }) (ts.set (ys.length-1) { ts.getD (ys.length-1) default with delivered:=f }):=by
  have ln:=hy.len;refine ⟨by rw [List.length_set]; exact hy.n,by rw [List.length_set,List.length_set]; exact hy.len,fun k hk=>?_,fun k hk=>?_⟩
  · rw [List.length_set] at hk;rw [gset _ _ _ _ _ (by omega),gset _ _ _ _ _ (by omega)];by_cases c:k=ys.length-1
    · rw [if_pos c,if_pos c,← c]; exact hy.i k hk
    · rw [if_neg c,if_neg c]; exact hy.i k hk
  · rw [List.length_set] at hk;rw [gset _ _ _ _ _ (by omega),gset _ _ _ _ _ (by omega)];by_cases c:k=ys.length-1
    · rw [if_pos c,if_pos c]; exact h
    · rw [if_neg c,if_neg c]; exact hy.d k hk
theorem topDivided_ends (above below compacts borders:List UInt8) (wide part:Int):(za0 above below compacts borders wide part).Ends true:=by
  obtain ⟨r,hr,rfl⟩:(za0 above below compacts borders wide part).Out (fun r=>r=true):=by
    have hnew:∀ p,(zaq p).Ends (0,0):=fun p=>M.i_pure;unfold za0;refine M.o_bindE (hnew above) (M.o_bind made7_out ?_);rintro ⟨r00,r01,r02,x,q1,q2⟩ ⟨dx,dx2,dx3⟩;dsimp only at dx dx2 dx3 ⊢;refine M.o_bindE (hnew below) (M.o_bind made7_out ?_);rintro ⟨r002,r012,r022,y,q12,q22⟩ ⟨dy,dy2,dy3⟩;dsimp only at dy dy2 dy3 ⊢;have lx:=dx.len;have ly:=dy.len;have nx:=dx.n1;have ny:=dy.n1;obtain ⟨n,hn⟩:∃ n,n=min x.length y.length:=⟨_,rfl⟩
    rw [show (min (x.length:Int) (y.length:Int))-1=(n:Int)-1 by omega];have hx:∀ k,k<n->0<=x.getD k 0/\x.getD k 0<=2000:=fun k hk=>⟨(dx.t k (by omega)).1,dx3 k (by omega)⟩
    have hy:∀ k,k<n->0<=y.getD k 0/\y.getD k 0<=2000:=fun k hk=>⟨(dy.t k (by omega)).1,dy3 k (by omega)⟩
    refine M.o_bind (volume_out dx (n:=n) (by omega) (by omega)) ?_;rintro ⟨a0,a1,e⟩ ⟨rfl,va0,va1,va2,va3⟩;dsimp only at va0 va1 va2 va3 ⊢;refine M.o_bind (volume_out dy (n:=n) (by omega) (by omega)) ?_;rintro ⟨b0,b1,e⟩ ⟨rfl,vb0,vb1,vb2,vb3⟩;dsimp only at vb0 vb1 vb2 vb3 ⊢;have zx:=Bl.zs_bd hx;have zy:=Bl.zs_bd hy;refine M.o_f rfl (M.o_bindE (td_b0 hn.symm (by omega) hx hy) ?_);dsimp only;generalize Bl.Zs (fun k=>x.getD k 0) n=U at *;generalize Bl.Zs (fun k=>y.getD k 0) n=L at *;refine M.o_f (by rw [decide_eq_false (by omega),decide_eq_false (by omega),decide_eq_false (by omega),decide_eq_false (by omega)]; rfl) (M.o_if (fun _=>M.o_bindE aware12_ends (M.o_pure rfl)) (fun hb=>?_));rw [Bool.or_eq_false_iff] at hb;have ba:=of_decide_eq_false hb.1;have bb:=of_decide_eq_false hb.2;refine M.o_bind (pick_num (v:=wide) (n:=300) (by omega)) ?_;intro off ho;refine M.o_grd (gA2 (by omega) (by omega)) (M.o_grd (gA2 (by omega) (by omega)) (M.o_grd (gA2 (by omega) (by omega)) ?_));have N:N3 a0 a1 b0 b1 (L-U-off) (L-U+off) U L:=⟨by omega,by omega,by omega⟩
    refine M.o_bind (spans_out N) ?_;rintro ⟨fl,ga,e⟩ ⟨e0,m0,m1,m2,m3,m4,fx,fy,e1,_,sx,sy⟩;dsimp only at e0 e1;subst e0 e1;refine M.o_bind (group_out N) ?_;rintro ⟨lo,hi,e⟩ ⟨e0,n0,n1,n2,n3,n4,sg⟩;dsimp only at e0 sg;subst e0;obtain ⟨y1,y2⟩:=sp3_eq sg sy;have inn:=sp3_in N sg;have ux:fx.lo<=U/\U<=fx.hi:=sx.2.2 _ (fe_true N);have ey:fy=⟨lo,hi⟩:=by rw [y1,y2]
    subst ey;dsimp only;have t:(((((((((((0:Int) != 0)||((0:Int) != 0))||(([fx,(⟨lo,hi⟩:Span)].length:Int) != 2))||decide (L<lo))||decide (hi<L))||(!decide ((⟨lo,hi⟩:Span)=([fx,(⟨lo,hi⟩:Span)].getD 1 default))))||decide (lo<b0))||decide (b1<hi))||decide (U<([fx,(⟨lo,hi⟩:Span)].getD 0 default).lo))||decide (([fx,(⟨lo,hi⟩:Span)].getD 0 default).hi<U))=false:=by
      rw [show [fx,(⟨lo,hi⟩:Span)].getD 0 default=fx from rfl,decide_eq_false (show ¬ L<lo by omega),decide_eq_false (show ¬ hi<L by omega),decide_eq_false (show ¬ lo<b0 by omega),decide_eq_false (show ¬ b1<hi by omega),decide_eq_false (show ¬ U<fx.lo by omega),decide_eq_false (show ¬ fx.hi<U by omega),decide_eq_true (show (⟨lo,hi⟩:Span)=([fx,(⟨lo,hi⟩:Span)].getD 1 default) from rfl)];rfl
    refine M.o_grd (gOr (show (1:Int)<2 by decide)) (M.o_grd (gOr (show (0:Int)<2 by decide)) (M.o_grd (gOr (show (0:Int)<2 by decide)) (M.o_f t ?_)));refine M.o_bindE (hnew compacts) (M.o_bind made9_out ?_);rintro ⟨r03,rs,q13,q23⟩ ⟨S,e,R⟩;dsimp only at e R;subst e;have S2:=R.s2;dsimp only;refine M.o_bind (real_out R (f:=L) (by omega) (by omega)) ?_;rintro ⟨got,e⟩ ⟨e0,lg,vg⟩;dsimp only at e0 lg vg;subst e0;dsimp only;refine M.o_bind (shares_out R (f:=⟨lo,hi⟩) (by dsimp only; omega) (by dsimp only; omega) (by dsimp only; omega)) ?_;rintro ⟨sp,e⟩ ⟨e0,ls,vs⟩;dsimp only at e0 ls vs;subst e0;dsimp only;refine M.o_f (by rw [lg,ls]; simp) (M.o_bindE (td_b1 lg ls S2 (fun k hk=>?_) (fun k hk=>?_)) ?_)
    · rw [vg k hk,vs k hk];exact ⟨Sr.got_mono R (by omega) (by omega) k _ (Nat.le_refl _),Sr.got_mono R (by omega) (by omega) k _ (Nat.le_refl _)⟩
    · rw [vg k hk];have:=Sr.got_bd R (f:=L) (by omega) k _ (Nat.le_refl _);have:=R.n2;omega
    have sm:Bl.Zs (fun k=>got.getD k 0) S<=L:=by
      rw [Bl.Zs.ext (g:=fun s=>Sr.got rs L s rs.length) vg];have a:=Sr.got_sum R (f:=L) (by omega) _ (Nat.le_refl _);have b:=Sr.rem_bd R (f:=L) (by omega) _ (Nat.le_refl _);omega
    dsimp only;refine M.o_f (decide_eq_false (by omega)) (M.o_bindE (hnew borders) (M.o_bind bordered_out ?_));rintro ⟨tb,cr,slo,shi,ys,ts,q14,q24⟩ ⟨tok,hc,hs,hy0,y1'⟩;dsimp only at tok hc hs hy0 y1' ⊢;have lt:=hy0.len;rw [show Int.toNat ((ys.length:Int)-1)=ys.length-1 by omega,show Int.toNat ((ts.length:Int)-1)=ys.length-1 by omega];have hy':=set_yok hy0 y1' (lo:=lo) (hi:=hi) (f:=L) (by omega);have ln':(ys.set (ys.length-1) { ys.getD (ys.length-1) default with dlo:=lo,dhi:=hi }).length=ys.length:=List.length_set ..;generalize ys.set (ys.length-1) { ys.getD (ys.length-1) default with dlo:=lo,dhi:=hi }=ys' at *;generalize ts.set (ys.length-1) { ts.getD (ys.length-1) default with delivered:=L }=ts' at *;have n40:=hy'.n;refine M.o_grd (gA2 (by omega) (by omega)) (M.o_grd (gA2 (by omega) (by omega)) (M.o_bind (owed_out tok hc (st:=slo) (by omega) hy') ?_));rintro ⟨ow,e⟩ ⟨e0,lo1,o1⟩;dsimp only at e0 lo1 o1;subst e0;dsimp only;refine M.o_bind (debts_out tok hc (st:=⟨slo,shi⟩) hs hy') ?_;rintro ⟨db,e⟩ ⟨e0,ld,d1,d2,d3⟩;dsimp only at e0 ld d1 d2 d3;subst e0;dsimp only;refine M.o_f (by rw [lo1,ld]; simp) (M.o_bindE (td_b2 (n:=ys'.length) lo1 ld (fun k hk=>⟨?_,?_⟩)) ?_)
    · exact Sr.Ow.mono tok d1 o1 (Int.le_refl _) (fun k hk=>(hy'.i k hk).2.1) (fun k hk=>(hy'.d k hk).2.2.1) k hk
    · exact Sr.Ow.mono tok o1 d2 (by omega) (fun k hk=>(hy'.i k hk).2.2.1) (fun k hk=>(hy'.d k hk).2.1) k hk
    dsimp only;have hw:(db.getD (Int.toNat ((db.length:Int)-1)) default).hi<=41000000:=by
      obtain ⟨m,hm⟩:∃ m,ys'.length=m+1:=⟨ys'.length-1,by omega⟩
      rw [hm] at d3;rw [ld,hm,show Int.toNat (((m+1:Nat):Int)-1)=m by omega];exact d3
    generalize hW:max 0 (db.getD (Int.toNat ((db.length:Int)-1)) default).hi=w;have w0:0<=w/\w<=41000000:=by omega
    have q0:=Int.ediv_nonneg w0.1 (show (0:Int)<=20 by decide);refine M.o_grd (gA2 (by omega) (by omega)) (M.o_grd (gA3 (by omega) (by omega) (by omega)) (M.o_grd (gA2 (by omega) (by omega)) (M.o_bind (pick_num (v:=part) (n:=100) (by omega)) ?_)));intro r5 h5;refine M.o_grd (gA2 (by omega) (by omega)) (M.o_bindE td_b3 (M.o_bind (payback_out (w:=w) (p:=1+r5) (by omega) (by omega) List.length_replicate (fun k hk=>?_)) ?_))
    · rw [elG _ (by rw [List.length_replicate]; exact hk),List.getElem_replicate]
    rintro ⟨paid,e⟩ ⟨e0,lp,vp,zp⟩;dsimp only at e0 lp vp zp;subst e0;dsimp only;refine M.o_bindE (td_b4 (by omega) lp vp) ?_;rw [zp,show w-w=0 by omega];exact M.o_bindE (M.i_opt (fun _=>aware12_ends) (fun h=>by cases h)) (M.o_pure rfl)
  exact hr
end Go.Proofs.YtlfkkkbhejeplaaGreat
