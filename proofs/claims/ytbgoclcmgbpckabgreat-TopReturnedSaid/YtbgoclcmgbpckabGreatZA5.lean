/- Part 5 of the texts on which the proof rests. Conditions: none. -/
import Derived.Test.YtbgoclcmgbpckabGreatProg
import Derived.Ground.NamesProg
import Derived.Shelf.Bits.Mul64
import Derived.Test.YtbgoclcmgbpckabGreatZA4
set_option linter.unusedVariables false
set_option linter.unusedSimpArgs false
set_option linter.unusedSectionVars false
section
set_option maxRecDepth 100000
set_option maxHeartbeats 16000000
namespace Go.Proofs.YtbgoclcmgbpckabGreat
open Go Go.Nm
attribute [local irreducible] gd execOp SL SLD SLT WR
def zeE (ac:List Int) (ae:List Span) (aa:List Int) (ab:List Town) (ah ai:Int) (aj:List Flood) (s2:Nat):(Nat × (List Dem))->M ((Nat × (List Dem)) ⊕ ((List Dem) × (List Dem))):=fun (s,l4) =>
  bif decide ((s:Int)<(ab.length:Int)) then (
  M.grd (decide ((s:Int)<(ab.length:Int))) <|
  M.bind (zcg ac ae aa ab ah ai aj (aa.getD s2 0) ((ab.getD s default).station)) fun (ak,al,r1) =>
  bif r1 then (
  M.grd (decide ((l4.length+([(⟨(aa.getD s2 0:Int),(s:Int)⟩:Dem)]).length)*16<=140737488355328)) <|
  M.pure (.inl (s+1,l4++([(⟨(aa.getD s2 0:Int),(s:Int)⟩:Dem)]))))
  else (
  M.fail))
  else (
  M.pure (.inr (l4,l4)))
def zdU (ab:List Int) (ac:List Span) (aa:List Int) (ae:List Town) (ah ai:Int) (aj:List Flood):(Nat × (List Dem))->M ((Nat × (List Dem)) ⊕ ((List Dem) × (List Dem))):=fun (s2,l6) =>
  bif decide ((s2:Int)<(aa.length:Int)) then (
  M.grd (decide ((s2:Int)<(aa.length:Int))) <|
  M.bind (M.iter (zeE ab ac aa ae ah ai aj s2) (0,l6)) fun (l2,l5) =>
  M.pure (.inl (s2+1,l5)))
  else (
  M.pure (.inr (l6,l6)))
def zeT (aa:List Int) (ab:List Span) (ac:List Int) (ae:List Town) (ah ai:Int) (aj:List Flood):M (List Dem) :=
  M.bind (M.iter (zdU aa ab ac ae ah ai aj) (0,[])) fun (l7,l8) =>
  M.pure l8
theorem zf7 {R ac aq au av aw ax ae ay am az aA aD}(ah ai aa ab aj ak al)(aS:Reads R aq)(aT:Sl aq au ah)(aU:Reads R av)(aV:Sl av aw ai)(aW:Reads R ax)(aE:Sl ax ae aa)(aX:Reads R ay)(aF:Sl ay am ab)(aY:Reads R az)(aZ:Sl az aA al)(a6:Has R (cBlk ac [au,aw,ae,am,I aj,I ak,aA,.map (some aD)] 266)){r}(hM:(zeT ah ai aa ab aj ak al).Ends r)(w)(H:St w w [] R):Ret Tryz.prog 144 #[Pq ac] w fun v w'=>∃ y0 u0,y0=r/\v=u0/\St w w' [cOwn (α:=Dem) 271 u0 y0] R:=by
 refine ret_of_W Tryz.func144 rfl rfl rfl ?_;have a7:=(aE).len_le;refine kg 20 ?_;replace H:=H.nilOwn (α:=Dem) 271;obtain ⟨aG,aB,aH⟩:=M.e_bind hM;obtain ⟨aI,aB⟩:=M.e_iter aB;refine W.loop (fun m σ W=>∃ (s2:Nat) (l6:List Dem) (ao:Value) (ρ:Env),σ=upds ρ [(0,Pq ac),(3,ao),(14,ae),(15,I (aa.length:Int)),(16,I (s2:Int))]/\M.iterN (zdU ah ai aa ab aj ak al) m (s2,l6)=some aG/\St w W [cOwn (α:=Dem) 271 ao l6] R) ?_ ?_
 ·exact kY
 rintro a8 σ ba ⟨s2,l6,ao,ρ,rfl,aJ,H⟩;obtain ⟨bb,bc,bf,hM,aK⟩:=M.e_iterN aJ;refine kI 5 ?_ ?_
 ·intro aL hM;obtain ⟨bg,hM⟩:=M.e_gq hM;have bh:=(aF).len_le;refine kg 20 ?_;obtain ⟨aM,aC,aN⟩:=M.e_bind hM;obtain ⟨aI,aC⟩:=M.e_iter aC;refine W.loop (fun m σ W=>∃ (s:Nat) (l4:List Dem) (ap:Value) (ρ:Env),σ=upds ρ [(0,Pq ac),(3,ap),(5,I (aa.getD s2 0)),(14,ae),(15,I (aa.length:Int)),(16,I (s2:Int)),(24,am),(25,I (ab.length:Int)),(26,I (s:Int))]/\M.iterN (zeE ah ai aa ab aj ak al s2) m (s,l4)=some aM/\St w W [cOwn (α:=Dem) 271 ap l4] R) ?_ ?_
  ·exact kY
  rintro bi σ bj ⟨s,l4,ap,ρ,rfl,aO,H⟩;obtain ⟨bm,bn,bo,hM,aP⟩:=M.e_iterN aO;refine kI 5 ?_ ?_
  ·intro aQ hM;obtain ⟨bp,hM⟩:=M.e_gq hM;refine kA 8 ?_;intro br bt H;refine kS 1 ?_;intro bu H;refine kC 7 @zed ?_;intro bv bw bx r1 hM H;refine kA 3 ?_;intro bz bA H;refine ksw ?_;intro bB H;refine kg 2 ?_;replace H:=H.pk [2];refine kI 4 ?_ ?_
   ·intro aR hM;refine kL 5 (α:=Dem) [⟨aa.getD s2 0,s⟩] ?_;intro bC bD H;obtain ⟨bE,hM⟩:=M.e_gq hM;refine kP 0 ?_;intro bF bG H;exact kXp 6 [1]
   intro aR hM;exact (M.e_fail hM).elim
  intro aQ hM;refine W.exit ?_;obtain rfl:=M.e_inr hM aP;replace hM:=aN;exact kX 4
 intro aL hM;refine W.exit ?_;obtain rfl:=M.e_inr hM aK;replace hM:=aH;refine kg 5 ?_;exact rt

def zd9 (d:Dem) (aa:List Int) (ab:List Span) (ac:List Int) (ae:List Town) (ah ai:Int) (aj:List Flood):M Bool :=
  M.bind (zaa aa ab ac ae ah ai aj d) fun r2 =>
  M.pure (decide (0<(r2.length:Int)))
theorem zgu {R am ak ao ap aq au av aw ax ay az aA al B_b_k0207}(d aa ab ac ae ah ai aj)(aB:Reads R ao)(aC:Sl ao ap aa)(aD:Reads R aq)(aE:Sl aq au ab)(aF:Reads R av)(aG:Sl av aw ac)(aH:Reads R ax)(aI:Sl ax ay ae)(aJ:Reads R az)(aK:Sl az aA aj)(aL:Has R (cBlk ak [ap,au,aw,ay,I ah,I ai,aA,.map (some al)] 266))(aQ:Has R (cBlk am [.func (.func 145) #[Pq ak] #[]] 268)){r}(hM:(zd9 d aa ab ac ae ah ai aj).Ends r)(w)(H:St w w [cMem encDm al B_b_k0207 (zaa aa ab ac ae ah ai aj)] R):Ret Tryz.prog 147 #[.agg #[I d.spring,I d.town],Pq am] w fun v w'=>∃ y0 aM,y0=r/\v=B y0/\St w w' [cMem encDm al aM (zaa aa ab ac ae ah ai aj)] R:=by
 refine ret_of_W Tryz.func147 rfl rfl rfl ?_;refine kB 2 ?_;intro aR aS H;refine kg 6 ?_;obtain ⟨aT,aN,hM⟩:=M.e_bind hM;refine s_callm (f:=145) (fs:=[Pq ak]) rfl cq [.agg #[I d.spring,I d.town]] rfl (zdu aa ab ac ae ah ai aj d (aB.app _) aC (aD.app _) aE (aF.app _) aG (aH.app _) aI (aJ.app _) aK (aL.app _) aN _ ((H.pk [1,0]).gt 1)) ?_;rintro vq aU ⟨r2,aV,aW,rfl,hvq,aO,aP⟩;subst vq;replace H:=H.pk [1,0] |>.bk aO
 have aX:=(aP).len_le;exact kR 4 [0]

def zeR (x:Dem) (aa:List Int) (ab:List Span) (ac:List Int) (ae:List Town) (ah ai:Int) (aj:List Flood):M Bool :=
  M.bind (zd9 x aa ab ac ae ah ai aj) fun r2 =>
  M.pure (!r2)
theorem zfn {R al am ao ap aq au av aw ax ay az aA aB ak B_b_k020207}(x aa ab ac ae ah ai aj)(aC:Reads R ap)(aD:Sl ap aq aa)(aE:Reads R au)(aF:Sl au av ab)(aG:Reads R aw)(aH:Sl aw ax ac)(aI:Reads R ay)(aJ:Sl ay az ae)(aK:Reads R aA)(aL:Sl aA aB aj)(aM:Has R (cBlk ao [aq,av,ax,az,I ah,I ai,aB,.map (some ak)] 266))(aN:Has R (cBlk am [.func (.func 145) #[Pq ao] #[]] 268))(aR:Has R (cBlk al [.func (.func 147) #[] #[Pq am]] 272)){r}(hM:(zeR x aa ab ac ae ah ai aj).Ends r)(w)(H:St w w [cMem encDm ak B_b_k020207 (zaa aa ab ac ae ah ai aj)] R):Ret Tryz.prog 204 #[.agg #[I x.spring,I x.town],Pq al] w fun v w'=>∃ y0 aO,y0=r/\v=B y0/\St w w' [cMem encDm ak aO (zaa aa ab ac ae ah ai aj)] R:=by
 refine ret_of_W Tryz.func204 rfl rfl rfl ?_;refine kB 2 ?_;intro aS aT H;refine kg 6 ?_;obtain ⟨aU,aP,hM⟩:=M.e_bind hM;refine s_callv (f:=147) rfl cq [.agg #[I x.spring,I x.town]] rfl (zgu x aa ab ac ae ah ai aj (aC.app _) aD (aE.app _) aF (aG.app _) aH (aI.app _) aJ (aK.app _) aL (aM.app _) (aN.app _) aP _ ((H.pk [1,0]).gt 1)) ?_;rintro _ aV ⟨r2,aW,rfl,rfl,aQ⟩;replace H:=H.pk [1,0] |>.bk aQ
 exact kR 3 [0]

def zdQ (s:List Dem) (aa:List Int) (ab:List Span) (ac:List Int) (ae:List Town) (ah ai:Int) (aj:List Flood):Nat->M (Nat ⊕ Unit):=fun s2 =>
  bif decide ((s2:Int)<(s.length:Int)) then (
  M.grd (decide ((s2:Int)<(s.length:Int))) <|
  M.bind (zeR (s.getD s2 default) aa ab ac ae ah ai aj) fun r2 =>
  bif r2 then (
  M.fail)
  else (
  M.pure (.inl (s2+1))))
  else (
  M.pure (.inr ()))
def zeL (s:List Dem) (aa:List Int) (ab:List Span) (ac:List Int) (ae:List Town) (ah ai:Int) (aj:List Flood):M Int :=
  M.bind (M.iter (zdQ s aa ab ac ae ah ai aj) 0) fun (_:Unit) =>
  M.pure (-1)
theorem zfK {R ao al am ap aq au av aw ax ay az aA aB aC aD ak B_b_f2020207}(s aa ab ac ae ah ai aj)(a8:Reads R ao)(aF:Sl ao al s)(aG:Reads R au)(aH:Sl au av aa)(aI:Reads R aw)(aJ:Sl aw ax ab)(aK:Reads R ay)(aL:Sl ay az ac)(aM:Reads R aA)(aN:Sl aA aB ae)(aO:Reads R aC)(aP:Sl aC aD aj)(aQ:Has R (cBlk aq [av,ax,az,aB,I ah,I ai,aD,.map (some ak)] 266))(aR:Has R (cBlk ap [.func (.func 145) #[Pq aq] #[]] 268))(aS:Has R (cBlk am [.func (.func 147) #[] #[Pq ap]] 272)){r}(hM:(zeL s aa ab ac ae ah ai aj).Ends r)(w)(H:St w w [cMem encDm ak B_b_f2020207 (zaa aa ab ac ae ah ai aj)] R):Ret Tryz.prog 238 #[al,.func (.func 204) #[] #[Pq am]] w fun v w'=>∃ y0 aT,y0=r/\v=I y0/\St w w' [cMem encDm ak aT (zaa aa ab ac ae ah ai aj)] R:=by
 refine ret_of_W Tryz.func238 rfl rfl rfl ?_;have ba:=(aF).len_le;refine kg 12 ?_;obtain ⟨aU,aE,aV⟩:=M.e_bind hM;obtain ⟨bb,aE⟩:=M.e_iter aE;refine W.loop (fun m σ W=>∃ (s2:Nat) (B_mem:Base) (ρ:Env),σ=upds ρ [(0,al),(1,.func (.func 204) #[] #[Pq am]),(7,I (s.length:Int)),(8,I (s2:Int))]/\M.iterN (zdQ s aa ab ac ae ah ai aj) m s2=some aU/\St w W [cMem encDm ak B_mem (zaa aa ab ac ae ah ai aj)] R) ?_ ?_
 ·exact kY
 rintro bc σ bf ⟨s2,B_mem,ρ,rfl,aW,H⟩;obtain ⟨bg,bh,bi,hM,aX⟩:=M.e_iterN aW;refine kI 5 ?_ ?_
 ·intro aY hM;obtain ⟨bj,hM⟩:=M.e_gq hM;refine kg 15 ?_;obtain ⟨bm,aZ,hM⟩:=M.e_bind hM;refine s_callv (f:=204) rfl cq [.agg #[I ((s.getD s2 default).spring),I ((s.getD s2 default).town)]] rfl (zfn (s.getD s2 default) aa ab ac ae ah ai aj (aG.app _) aH (aI.app _) aJ (aK.app _) aL (aM.app _) aN (aO.app _) aP (aQ.app _) (aR.app _) (aS.app _) aZ _ (H.gt 0)) ?_;rintro _ bn ⟨r2,bo,rfl,rfl,a6⟩;replace H:=H.bk a6;refine kI 1 ?_ ?_
  ·intro a7 hM;exact (M.e_fail hM).elim
  intro a7 hM;exact kX 5
 intro aY hM;refine W.exit ?_;obtain rfl:=M.e_inr hM aX;replace hM:=aV;refine kg 4 ?_;exact rt

def zeg (s:List Dem) (aa:List Int) (ab:List Span) (ac:List Int) (ae:List Town) (ah ai:Int) (aj:List Flood):M Bool :=
  M.bind (zeL s aa ab ac ae ah ai aj) fun r2 =>
  M.pure (decide (0<=r2))
theorem zfr {R al am ao ap aq au av aw ax ay az aA aB aC aD ak B_b_f2020207}(s aa ab ac ae ah ai aj)(aF:Reads R al)(aG:Sl al am s)(aH:Reads R au)(aI:Sl au av aa)(aJ:Reads R aw)(aK:Sl aw ax ab)(aL:Reads R ay)(aM:Sl ay az ac)(aN:Reads R aA)(aO:Sl aA aB ae)(aP:Reads R aC)(aQ:Sl aC aD aj)(aR:Has R (cBlk aq [av,ax,az,aB,I ah,I ai,aD,.map (some ak)] 266))(aS:Has R (cBlk ap [.func (.func 145) #[Pq aq] #[]] 268))(aT:Has R (cBlk ao [.func (.func 147) #[] #[Pq ap]] 272)){r}(hM:(zeg s aa ab ac ae ah ai aj).Ends r)(w)(H:St w w [cMem encDm ak B_b_f2020207 (zaa aa ab ac ae ah ai aj)] R):Ret Tryz.prog 203 #[am,.func (.func 204) #[] #[Pq ao]] w fun v w'=>∃ y0 aE,y0=r/\v=B y0/\St w w' [cMem encDm ak aE (zaa aa ab ac ae ah ai aj)] R:=by
 refine ret_of_W Tryz.func203 rfl rfl rfl ?_;refine kC 8 @zfK ?_;intro aU r2 aV hM H;refine kg 3 ?_;exact rt

def zeO (l:List Dem) (aa:List Int) (ab:List Span) (ac:List Int) (ae:List Town) (ah ai:Int) (aj:List Flood):M Bool :=
  M.bind (zeg l aa ab ac ae ah ai aj) fun r2 =>
  M.pure (!r2)
theorem zfI {R am ak ao ap aq au av aw ax ay az aA aB aC al B_b_so20207}(l aa ab ac ae ah ai aj)(aE:Reads R am)(aF:Sl am ak l)(aG:Reads R aq)(aH:Sl aq au aa)(aI:Reads R av)(aJ:Sl av aw ab)(aK:Reads R ax)(aL:Sl ax ay ac)(aM:Reads R az)(aN:Sl az aA ae)(aO:Reads R aB)(aP:Sl aB aC aj)(aQ:Has R (cBlk ap [au,aw,ay,aA,I ah,I ai,aC,.map (some al)] 266))(aR:Has R (cBlk ao [.func (.func 145) #[Pq ap] #[]] 268)){r}(hM:(zeO l aa ab ac ae ah ai aj).Ends r)(w)(H:St w w [cMem encDm al B_b_so20207 (zaa aa ab ac ae ah ai aj)] R):Ret Tryz.prog 146 #[ak,.func (.func 147) #[] #[Pq ao]] w fun v w'=>∃ y0 aS,y0=r/\v=B y0/\St w w' [cMem encDm al aS (zaa aa ab ac ae ah ai aj)] R:=by
 refine ret_of_W Tryz.func146 rfl rfl rfl ?_;refine kB 2 ?_;intro aD aV H;refine kg 5 ?_;refine s_val (x_mf (fs:=[]) (cs:=[Pq aD]) rfl rfl) ?_;obtain ⟨aW,aT,hM⟩:=M.e_bind hM;refine s_call cq [ak,.func (.func 204) #[] #[Pq aD]] rfl (zfr l aa ab ac ae ah ai aj (aE.app _) aF (aG.app _) aH (aI.app _) aJ (aK.app _) aL (aM.app _) aN (aO.app _) aP (aQ.app _) (aR.app _) (Has.here (k:=0) rfl) aT _ ((H.pk [1,0]).gt 1)) ?_;rintro _ aX ⟨r2,aY,rfl,rfl,aU⟩;replace H:=H.pk [1,0] |>.bk aU
 exact kR 3 [0]

def zaM  : Int->(Int × Int)->M (Int ⊕ Unit):=fun s (x,x2) =>
  M.gi (s+1) <|
  M.pure (.inl (s+1))
def zcB (d:Dem) (ai:List Int) (aj:List Span) (ak:List Int) (al:List Town) (am ao:Int) (ap:List Flood) (aa:List Int) (ab:List Span) (ac:List Int) (ae:List Town) (aq au:Int) (ah:List Flood):M Int :=
  M.bind (zaa ai aj ak al am ao ap d) fun r2 =>
  M.grd (decide ((0:Int)<=((r2.length:Int)-1))&&decide (((r2.length:Int)-1)<(r2.length:Int))) <|
  M.bind (zbA aa ab ac ae aq au ah (r2.getD (Int.toNat ((r2.length:Int)-1)) 0)) fun (av,aw,ax) =>
  M.bind (za5 (M.yl zaM) (.inl 0) av aa ab ac ae aw ax ah) fun x_=>match x_ with
  | (.inl s,q0)=>(
  M.pure s)
  | (.inr _,_)=>M.fail
theorem zeJ {R ba aI bb bc bf bg bh bi bj bm bn bo al B_b_k0207 bp br bt am bu ao bv ap bw aq bx au bN}(d ab ac ae ah ai aj ak aJ aK aL aM aC aD aN)(aO:Reads R bb)(bz:Sl bb bc ab)(aP:Reads R bf)(bA:Sl bf bg ac)(aQ:Reads R bh)(bB:Sl bh bi ae)(aR:Reads R bj)(bC:Sl bj bm ah)(aS:Reads R bn)(bD:Sl bn bo ak)(aT:Has R (cBlk aI [bc,bg,bi,bm,I ai,I aj,bo,.map (some al)] 266))(bE:Has R (cBlk ba [.func (.func 145) #[Pq aI] #[]] 268))(aU:Reads R bt)(bF:Sl bt am aJ)(aV:Reads R bu)(bG:Sl bu ao aK)(aW:Reads R bv)(bH:Sl bv ap aL)(aX:Reads R bw)(bI:Sl bw aq aM)(aY:Reads R bx)(bJ:Sl bx au aN)(aZ:Has R (cBlk br [am,ao,ap,aq,I aC,I aD,au,.map (some bN)] 266))(bK:Has R (cBlk bp [Pq br] 212)){r}(hM:(zcB d ab ac ae ah ai aj ak aJ aK aL aM aC aD aN).Ends r)(w)(H:St w w [cMem encDm al B_b_k0207 (zaa ab ac ae ah ai aj ak)] R):Ret Tryz.prog 148 #[.agg #[I d.spring,I d.town],Pq ba,Pq bp] w fun v w'=>∃ y0 bO,y0=r/\v=I y0/\St w w' [cMem encDm al bO (zaa ab ac ae ah ai aj ak)] R:=by
 refine ret_of_WD Tryz.func148 rfl rfl rfl ?_;replace H:St w w [cMk ([]),cMem encDm al B_b_k0207 (zaa ab ac ae ah ai aj ak)] R:=H.mk0;have bX:=bz.len_le;have bY:=bA.len_le;have bZ:=bB.len_le;have b4:=bC.len_le;have b6:=bD.len_le;have b7:=bF.len_le;have b8:=bG.len_le;have b9:=bH.len_le;have cb:=bI.len_le;have cc:=bJ.len_le;unfold zcB at hM;refine WD.seq<|WD.of ?_;refine kB 1 ?_;intro aA cd H;refine kg 2 ?_;refine WD.seq<|WD.of ?_;refine kg 3 ?_;obtain ⟨ce,bP,hM⟩:=M.e_bind hM;refine s_callm (f:=145) (fs:=[Pq aI]) rfl cq [.agg #[I d.spring,I d.town]] rfl (zdu ab ac ae ah ai aj ak d (aO.app _) bz (aP.app _) bA (aQ.app _) bB (aR.app _) bC (aS.app _) bD (aT.app _) bP _ ((H.pk [2,0,1]).gt 2)) ?_
 rintro vq cf ⟨r2,cg,aw,rfl,hvq,aE,bL⟩;subst vq;replace H:=H.pk [2,0,1] |>.bk aE
 refine kg 2 ?_;refine WD.seq<|WD.of ?_;refine kA 1 ?_;intro av ch H;refine ksw ?_;intro cj H;refine s_nil<|WD.seq<|WD.seq<|WD.of ?_;refine kD 0 [0,1,2,3] [10] ?_;intro ck H;refine kg 3 ?_;refine d_q rfl (fun w' H=>x_ld (v:=.agg #[am,ao,ap,aq,I aC,I aD,au]) rfl (ldb_ag (ds:=[am,ao,ap,aq,I aC,I aD,au]) Ag146.h Sz146.h (aZ.blk H) rfl rfl)) ?_
 have cn:=(bL).len_le;obtain ⟨cp,hM⟩:=M.e_gq hM;refine kg 5 ?_;refine d_q rfl (fun w' H=>x_ld (v:=I (r2.getD (Int.toNat ((r2.length:Int)-1)) 0)) rfl (ld_sc Sc3.h (At.mono (Int_at bL (i:=(r2.length:Int)-1) (by omega) (by omega)) (memLe _ (H.get (k:=1) rfl))))) ?_;refine kC 1 @zch ?_;intro cr aF ax ay aB az hM H;refine kN ?_;refine d_nil<|WD.block ?_;obtain ⟨ct,bQ,hM⟩:=M.e_bind hM;refine WD.range (L:=[cBlk av [I 0] 3,cBlk az [am,ao,ap,aq,I ax,I ay,au] 146,cMem encDm al aw (zaa ab ac ae ah ai aj ak),cBlk aA [I d.spring,I d.town] 271,cBlk aB [I aF] 3]) [Pq aB,Pq az] (H.pk [5,2,1,3,4,0]) rfl cq ?_;intro aG a6 a7 bR a8 H
 have hYC:YieldC Tryz.prog ([cMk (a6 :: ([])),cBlk az [am,ao,ap,aq,I ax,I ay,au] 146,cMem encDm al aw (zaa ab ac ae ah ai aj ak),cBlk aA [I d.spring,I d.town] 271]++R) arII (yJ aG a7 (fun s aH=>aH=[cBlk av [I s] 3]) (fun (_:Unit) _=>False) (fun _=>.ret)) (.func (.yield aG) #[] #[]) (M.yl zaM):=by
  refine YieldC.mk a8 (fun s aH=>aH=[cBlk av [I s] 3]) (fun (_:Unit) _=>False) (fun _=>.ret) zaM (by rintro s _ h_; obtain ⟨rfl⟩:=h_; rfl) (fun _ _ h_=>h_.elim) rfl (arII_len rfl) ?_;intro C_ cu x_ W_ bS;obtain ⟨x,x2⟩:=x_;obtain rfl:=bS;refine W.skip ?_;refine ⟨rfl,rfl,?_⟩;intro w R aa aH s_ r bT hM H
  skip
  obtain ⟨s,bU⟩:∃ y_,y_=s_:=⟨_,rfl⟩
  subst bU;obtain ⟨rfl⟩:=bT;replace aO:=aO.sub aa;replace aP:=aP.sub aa;replace aQ:=aQ.sub aa;replace aR:=aR.sub aa;replace aS:=aS.sub aa;replace aT:=aT.sub aa;replace bE:=bE.sub aa;replace aU:=aU.sub aa;replace aV:=aV.sub aa;replace aW:=aW.sub aa;replace aX:=aX.sub aa;replace aY:=aY.sub aa;replace aZ:=aZ.sub aa;replace bK:=bK.sub aa;replace hM:(zaM s (x,x2)).Ends r:=hM;simp only [zaM] at hM;replace H:=H.pk [0,2,3,4,1];obtain ⟨cv,hM⟩:=M.e_gq hM;refine kS 4 ?_;intro cB H;refine s_nil ?_;exact ⟨s+1,[cBlk av [I (s+1)] 3],(M.e_pure hM).symm,rfl,H.pick [0,4,1,2,3] (by decide) rfl⟩
 replace H:St w bR (cAll (cObj aG (.loop a7) :: [cBlk av [I 0] 3]) :: [cBlk aB [I aF] 3,cMk (a6 :: ([])),cBlk az [am,ao,ap,aq,I ax,I ay,au] 146,cMem encDm al aw (zaa ab ac ae ah ai aj ak),cBlk aA [I d.spring,I d.town] 271]) R:=St.bundleB (A:=cObj aG (.loop a7) :: [cBlk av [I 0] 3]) (T:=[cBlk aB [I aF] 3,cMk (a6 :: ([])),cBlk az [am,ao,ap,aq,I ax,I ay,au] 146,cMem encDm al aw (zaa ab ac ae ah ai aj ak),cBlk aA [I d.spring,I d.town] 271]) rfl (H.pk [0,2,6,1,3,4,5]);refine (zc2 (M.yl zaM) (.inl 0) aF aJ aK aL aM ax ay aN hYC ⟨_,rfl,rfl⟩ (aU.app _) bF (aV.app _) bG (aW.app _) bH (aX.app _) bI (aY.app _) bJ (Has.here (k:=1) rfl) bQ _ (H.gt 4)).mono ?_;rintro vq cC ⟨bV,q0,cD,rfl,hvq,aE,bM⟩;replace H:=H.back aE rfl;clear aE hYC;rcases bV with s | _
 ·obtain ⟨_,rfl,rfl⟩:=bM;refine ⟨_,[cBlk av [I s] 3,cBlk az [am,ao,ap,aq,I ax,I ay,au] 146,cMem encDm al aw (zaa ab ac ae ah ai aj ak),cBlk aA [I d.spring,I d.town] 271,cBlk aB [I q0] 3],H.unbundle.pick [0,3,1,4,5,6,2] (by decide) rfl,a8.nb,?_⟩;intro cE H;rw [a8.pd];replace H:=H.nf
  try simp only []
  replace H:=H.pk [0,1,3];refine WD.seq<|WD.of ?_;refine kg 4 ?_;refine WD.of ?_;refine W.ret ?_;refine bodyD_r (H.pk [0,1,2]) ?_;intro cF H;replace H:=H.nf
  have bW:=M.e_pure hM;exact ⟨_,resE_tmp rfl,⟨s,aw,bW,rfl,(H.pk [1])⟩⟩
 obtain ⟨_,_,h_⟩:=bM; exact h_.elim

def m_cmp_isNaN_int (x:Int):M Bool :=
  M.pure (x != x)
theorem cmp_isNaN_int_ok {R}(x){r}(hM:(m_cmp_isNaN_int x).Ends r)(w)(H:St w w [] R):Ret Tryz.prog 173 #[I x] w fun v w'=>∃ y0,y0=r/\v=B y0/\St w w' [] R:=by
 refine ret_of_W Tryz.func173 rfl rfl rfl ?_;refine kg 11 ?_;exact rt

def m_cmp_Compare_int (x y:Int):M Int :=
  M.bind (m_cmp_isNaN_int x) fun r2 =>
  M.bind (m_cmp_isNaN_int y) fun r3 =>
  bif r2 then (
  M.fail)
  else (
  bif r3 then (
  M.fail)
  else (
  bif decide (x<y) then (
  M.fail)
  else (
  bif decide (y<x) then (
  M.fail)
  else (
  M.pure 0))))
theorem cmp_Compare_int_ok {R}(x y){r}(hM:(m_cmp_Compare_int x y).Ends r)(w)(H:St w w [] R):Ret Tryz.prog 152 #[I x,I y] w fun v w'=>∃ y0,y0=r/\v=I y0/\St w w' [] R:=by
 refine ret_of_W Tryz.func152 rfl rfl rfl ?_;refine kC 7 @cmp_isNaN_int_ok ?_;intro ah r2 hM H;refine kC 5 @cmp_isNaN_int_ok ?_;intro ai r3 hM H;refine kI 7 ?_ ?_
 ·intro aa hM;exact (M.e_fail hM).elim
 intro aa hM;refine kI 6 ?_ ?_
 ·intro ab hM;exact (M.e_fail hM).elim
 intro ab hM;refine kI 8 ?_ ?_
 ·intro ac hM;exact (M.e_fail hM).elim
 intro ac hM;refine kI 8 ?_ ?_
 ·intro ae hM;exact (M.e_fail hM).elim
 intro ae hM;refine kg 5 ?_;exact rt

def zev (a b:Dem) (aa:List Int) (ab:List Span) (ac:List Int) (ae:List Town) (ah ai:Int) (aj:List Flood) (ak:List Int) (al:List Span) (am:List Int) (ao:List Town) (ap aq:Int) (au:List Flood):M Int :=
  M.bind (zcB b aa ab ac ae ah ai aj ak al am ao ap aq au) fun r2 =>
  M.bind (zcB a aa ab ac ae ah ai aj ak al am ao ap aq au) fun r3 =>
  M.bind (m_cmp_Compare_int r2 r3) fun r4 =>
  M.pure r4
theorem zf0 {R ax ay az aA aB aC aD aE aF aG aH aI aJ av B_b_k020207 aK aL aM aN aO aP aQ aR aS aT aU aV bx}(a b aa ab ac ae ah ai aj ak al am ao ap aq au)(aW:Reads R aA)(aX:Sl aA aB aa)(aY:Reads R aC)(aZ:Sl aC aD ab)(a6:Reads R aE)(a7:Sl aE aF ac)(a8:Reads R aG)(ba:Sl aG aH ae)(bb:Reads R aI)(bc:Sl aI aJ aj)(bf:Has R (cBlk az [aB,aD,aF,aH,I ah,I ai,aJ,.map (some av)] 266))(bg:Has R (cBlk ay [.func (.func 145) #[Pq az] #[]] 268))(bh:Reads R aM)(bi:Sl aM aN ak)(bj:Reads R aO)(bm:Sl aO aP al)(bn:Reads R aQ)(bo:Sl aQ aR am)(bp:Reads R aS)(br:Sl aS aT ao)(bt:Reads R aU)(bu:Sl aU aV au)(bv:Has R (cBlk aL [aN,aP,aR,aT,I ap,I aq,aV,.map (some bx)] 266))(bw:Has R (cBlk aK [Pq aL] 212))(bC:Has R (cBlk ax [.func (.func 148) #[] #[Pq ay,Pq aK]] 276)){r}(hM:(zev a b aa ab ac ae ah ai aj ak al am ao ap aq au).Ends r)(w)(H:St w w [cMem encDm av B_b_k020207 (zaa aa ab ac ae ah ai aj)] R):Ret Tryz.prog 151 #[.agg #[I a.spring,I a.town],.agg #[I b.spring,I b.town],Pq ax] w fun v w'=>∃ y0 bz,y0=r/\v=I y0/\St w w' [cMem encDm av bz (zaa aa ab ac ae ah ai aj)] R:=by
 refine ret_of_W Tryz.func151 rfl rfl rfl ?_;refine kB 2 ?_;intro bD bE H;refine kbx ?_;intro bF bG H;refine kDo 3 [0,1] [(0,true),(1,true),(3,true),(4,true),(2,false),(5,false),(6,false),(7,true)] ?_;intro bH H;refine kG 5 ?_;obtain ⟨bI,bA,hM⟩:=M.e_bind hM;refine s_callv (f:=148) rfl cq [.agg #[I b.spring,I b.town]] rfl (zeJ b aa ab ac ae ah ai aj ak al am ao ap aq au (aW.app _) aX (aY.app _) aZ (a6.app _) a7 (a8.app _) ba (bb.app _) bc (bf.app _) (bg.app _) (bh.app _) bi (bj.app _) bm (bn.app _) bo (bp.app _) br (bt.app _) bu (bv.app _) (bw.app _) bA _ ((H.pk [2,0,1]).gt 2)) ?_;rintro _ bJ ⟨r2,bK,rfl,rfl,aw⟩;replace H:=H.pk [2,0,1] |>.bk aw
 refine kN ?_;refine d_l rfl ?_;obtain ⟨bL,bB,hM⟩:=M.e_bind hM;refine s_callv (f:=148) rfl cq [.agg #[I a.spring,I a.town]] rfl (zeJ a aa ab ac ae ah ai aj ak al am ao ap aq au (aW.app _) aX (aY.app _) aZ (a6.app _) a7 (a8.app _) ba (bb.app _) bc (bf.app _) (bg.app _) (bh.app _) bi (bj.app _) bm (bn.app _) bo (bp.app _) br (bt.app _) bu (bv.app _) (bw.app _) bB _ (H.gt 2)) ?_;rintro _ bM ⟨r3,bN,rfl,rfl,aw⟩;replace H:=H.bk aw;refine kN ?_;refine kC 1 @cmp_Compare_int_ok ?_;intro bO r4 hM H;refine kN ?_;refine kg 2 ?_;replace H:=H.pk [0];exact rt

def zeh (data:List Dem) (a:Int) (aa:List Int) (ab:List Span) (ac:List Int) (ae:List Town) (ah ai:Int) (aj:List Flood) (ak:List Int) (al:List Span) (am:List Int) (ao:List Town) (ap aq:Int) (au:List Flood) (i:Int):Unit->M (Unit ⊕ Int):=fun (_:Unit) =>
  M.grd ((!(decide (a<i))||(decide ((0:Int)<=i)&&decide (i<(data.length:Int))))) <|
  M.grd ((!(decide (a<i))||(decide ((-9223372036854775808:Int)<=(i-1))&&decide ((i-1)<=(9223372036854775807:Int))))) <|
  M.grd ((!(decide (a<i))||(decide ((0:Int)<=(i-1))&&decide ((i-1)<(data.length:Int))))) <|
  bif decide (a<i) then (
  M.bind (zev (data.getD (Int.toNat i) default) (data.getD (Int.toNat (i-1)) default) aa ab ac ae ah ai aj ak al am ao ap aq au) fun r2 =>
  bif ((decide (a<i))&&(decide (r2<0))) then (
  M.fail)
  else (
  M.pure (.inr r2)))
  else (
  M.fail)
def zep (data:List Dem) (a b:Int) (aa:List Int) (ab:List Span) (ac:List Int) (ae:List Town) (ah ai:Int) (aj:List Flood) (ak:List Int) (al:List Span) (am:List Int) (ao:List Town) (ap aq:Int) (au:List Flood):Int->M (Int ⊕ Unit):=fun i =>
  bif decide (i<b) then (
  M.bind (M.iter (zeh data a aa ab ac ae ah ai aj ak al am ao ap aq au i) ()) fun s =>
  M.gi (i+1) <|
  M.pure (.inl (i+1)))
  else (
  M.pure (.inr ()))
def zei (data:List Dem) (a b:Int) (aa:List Int) (ab:List Span) (ac:List Int) (ae:List Town) (ah ai:Int) (aj:List Flood) (ak:List Int) (al:List Span) (am:List Int) (ao:List Town) (ap aq:Int) (au:List Flood):M Unit :=
  M.gi (a+1) <|
  M.bind (M.iter (zep data a b aa ab ac ae ah ai aj ak al am ao ap aq au) (a+1)) fun (_:Unit) =>
  M.pure ()
theorem zfs {R aC ay al aD aE aF aG aH aI aJ aK aL aM aN aO am B_b_cmp2020207 aP aQ aR aS aT aU aV aW aX aY aZ a6 ba}(data a b aa ab ac ae ah ai aj ao ap aq au av aw ax)(bW:Reads R aC)(bX:Sl aC ay data)(bb:Reads R aF)(bc:Sl aF aG aa)(bf:Reads R aH)(bg:Sl aH aI ab)(bh:Reads R aJ)(bi:Sl aJ aK ac)(bj:Reads R aL)(bm:Sl aL aM ae)(bn:Reads R aN)(bo:Sl aN aO aj)(bp:Has R (cBlk aE [aG,aI,aK,aM,I ah,I ai,aO,.map (some am)] 266))(br:Has R (cBlk aD [.func (.func 145) #[Pq aE] #[]] 268))(bt:Reads R aR)(bu:Sl aR aS ao)(bv:Reads R aT)(bw:Sl aT aU ap)(bx:Reads R aV)(bz:Sl aV aW aq)(bA:Reads R aX)(bB:Sl aX aY au)(bC:Reads R aZ)(bD:Sl aZ a6 ax)(bE:Has R (cBlk aQ [aS,aU,aW,aY,I av,I aw,a6,.map (some ba)] 266))(bF:Has R (cBlk aP [Pq aQ] 212))(bG:Has R (cBlk al [.func (.func 148) #[] #[Pq aD,Pq aP]] 276)){r}(hM:(zei data a b aa ab ac ae ah ai aj ao ap aq au av aw ax).Ends r)(w)(H:St w w [cMem encDm am B_b_cmp2020207 (zaa aa ab ac ae ah ai aj)] R):Ret Tryz.prog 239 #[ay,I a,I b,.func (.func 151) #[] #[Pq al]] w fun v w'=>∃ bH,()=r/\v = .tuple #[]/\St w w' [cMem encDm am bH (zaa aa ab ac ae ah ai aj)] R:=by
 refine ret_of_W Tryz.func239 rfl rfl rfl ?_;obtain ⟨bY,hM⟩:=M.e_gq hM;refine kg 7 ?_;obtain ⟨bI,a7,bJ⟩:=M.e_bind hM;obtain ⟨bK,a7⟩:=M.e_iter a7;refine W.loop (fun m σ W=>∃ (i:Int) (B_mem:Base) (ρ:Env),σ=upds ρ [(0,ay),(1,I a),(2,I b),(3,.func (.func 151) #[] #[Pq al]),(8,I i)]/\M.iterN (zep data a b aa ab ac ae ah ai aj ao ap aq au av aw ax) m i=some bI/\St w W [cMem encDm am B_mem (zaa aa ab ac ae ah ai aj)] R) ?_ ?_
 ·exact kY
 rintro bZ σ b4 ⟨i,B_mem,ρ,rfl,bL,H⟩;obtain ⟨b6,b7,b8,hM,bM⟩:=M.e_iterN bL;refine kI 7 ?_ ?_
 ·intro bN hM;refine kg 9 ?_;obtain ⟨bO,a8,bP⟩:=M.e_bind hM;obtain ⟨bK,a8⟩:=M.e_iter a8;refine W.loop (fun m σ W=>∃ (ρ:Env),σ=upds ρ [(0,ay),(1,I a),(2,I b),(3,.func (.func 151) #[] #[Pq al]),(8,I i),(9,I i)]/\M.iterN (zeh data a aa ab ac ae ah ai aj ao ap aq au av aw ax i) m ()=some bO/\St w W [cMem encDm am B_mem (zaa aa ab ac ae ah ai aj)] R) ?_ ?_
  ·exact kY
  rintro b9 σ cb ⟨ρ,rfl,bQ,H⟩;obtain ⟨cc,cd,ce,hM,bR⟩:=M.e_iterN bQ;refine kD 2 [] [14] ?_;intro cf H;obtain ⟨az,hM⟩:=M.e_grd hM;replace az:=M.imp_of az;simp only [Bool.and_eq_true,decide_eq_true_eq] at az;obtain ⟨aA,hM⟩:=M.e_grd hM;replace aA:=M.imp_of aA;simp only [Bool.and_eq_true,decide_eq_true_eq] at aA;obtain ⟨aB,hM⟩:=M.e_grd hM;replace aB:=M.imp_of aB;simp only [Bool.and_eq_true,decide_eq_true_eq] at aB;refine kG 15 ?_;refine g_splitV (decide (a<i)) (I 0) (gy_t rfl) (fun ak=>?_) (fun ak=>?_)
  ·replace hM:=M.e_t hM ak;obtain ⟨cg,bS,hM⟩:=M.e_bind hM;refine s_callv (f:=151) (by exact (gd_of (c:=decide (a<i)) ak (.func (.func 151) #[] #[Pq al]))) cq [.agg #[I ((data.getD (Int.toNat i) default).spring),I ((data.getD (Int.toNat i) default).town)],.agg #[I ((data.getD (Int.toNat (i-1)) default).spring),I ((data.getD (Int.toNat (i-1)) default).town)]] (by exact (lst2 (gd_of (c:=decide (a<i)) ak (.agg #[I ((data.getD (Int.toNat i) default).spring),I ((data.getD (Int.toNat i) default).town)])) (gd_of (c:=decide (a<i)) ak (.agg #[I ((data.getD (Int.toNat (i-1)) default).spring),I ((data.getD (Int.toNat (i-1)) default).town)])))) (zf0 (data.getD (Int.toNat i) default) (data.getD (Int.toNat (i-1)) default) aa ab ac ae ah ai aj ao ap aq au av aw ax (bb.app _) bc (bf.app _) bg (bh.app _) bi (bj.app _) bm (bn.app _) bo (bp.app _) (br.app _) (bt.app _) bu (bv.app _) bw (bx.app _) bz (bA.app _) bB (bC.app _) bD (bE.app _) (bF.app _) (bG.app _) bS _ (H.gt 0)) ?_;rintro _ ch ⟨r2,cj,rfl,rfl,bT⟩;replace H:=H.bk bT;refine kN ?_;refine kI 3 ?_ ?_
   ·intro bU hM;exact (M.e_fail hM).elim
   intro bU hM;refine W.exit ?_;obtain rfl:=M.e_inr hM bR;replace hM:=bP;obtain ⟨ck,hM⟩:=M.e_gq hM;exact kX 5
  replace hM:=M.e_f hM ak;exact (M.e_fail hM).elim
 intro bN hM;refine W.exit ?_;obtain rfl:=M.e_inr hM bM;replace hM:=bJ;have bV:=M.e_pure hM;exact ⟨_,resE_tmp0 rfl,⟨B_mem,bV,rfl,H⟩⟩

def zd5 (n:Int):Unit->M (Unit ⊕ Unit):=fun (_:Unit) =>
  bif decide (20<=n) then (
  M.fail)
  else (
  M.pure (.inr ()))
def zdL (n:Int):Unit->M (Unit ⊕ Unit):=fun (_:Unit) =>
  bif decide (20<n) then (
  M.fail)
  else (
  M.pure (.inr ()))
def zeQ (data:List Dem) (n:Int) (aa:List Int) (ab:List Span) (ac:List Int) (ae:List Town) (ah ai:Int) (aj:List Flood) (ak:List Int) (al:List Span) (am:List Int) (ao:List Town) (ap aq:Int) (au:List Flood):M Unit :=
  M.bind (M.iter (zd5 n) ()) fun (_:Unit) =>
  M.bind (zei data 0 n aa ab ac ae ah ai aj ak al am ao ap aq au) fun (_:Unit) =>
  M.bind (M.iter (zdL n) ()) fun (_:Unit) =>
  M.pure ()
theorem zfl {R ao al am ap aq au av aw ax ay az aA aB aC aD ak B_b_cmp2020207 aE aF aG aH aI aJ aK aL aM aN aO aP a6}(data n aa ab ac ae ah ai aj aQ aR aS aT aU aV aW)(bp:Reads R ao)(br:Sl ao al data)(bt:Reads R au)(bu:Sl au av aa)(bv:Reads R aw)(bw:Sl aw ax ab)(bx:Reads R ay)(bz:Sl ay az ac)(bA:Reads R aA)(bB:Sl aA aB ae)(bC:Reads R aC)(bD:Sl aC aD aj)(bE:Has R (cBlk aq [av,ax,az,aB,I ah,I ai,aD,.map (some ak)] 266))(bF:Has R (cBlk ap [.func (.func 145) #[Pq aq] #[]] 268))(bG:Reads R aG)(bH:Sl aG aH aQ)(bI:Reads R aI)(bJ:Sl aI aJ aR)(bK:Reads R aK)(bL:Sl aK aL aS)(bM:Reads R aM)(bN:Sl aM aN aT)(bO:Reads R aO)(bP:Sl aO aP aW)(bQ:Has R (cBlk aF [aH,aJ,aL,aN,I aU,I aV,aP,.map (some a6)] 266))(bR:Has R (cBlk aE [Pq aF] 212))(bS:Has R (cBlk am [.func (.func 148) #[] #[Pq ap,Pq aE]] 276)){r}(hM:(zeQ data n aa ab ac ae ah ai aj aQ aR aS aT aU aV aW).Ends r)(w)(H:St w w [cMem encDm ak B_b_cmp2020207 (zaa aa ab ac ae ah ai aj)] R):Ret Tryz.prog 206 #[al,I n,.func (.func 151) #[] #[Pq am]] w fun v w'=>∃ a7,()=r/\v = .tuple #[]/\St w w' [cMem encDm ak a7 (zaa aa ab ac ae ah ai aj)] R:=by
 refine ret_of_W Tryz.func206 rfl rfl rfl ?_;refine kg 12 ?_;obtain ⟨a8,aX,ba⟩:=M.e_bind hM;obtain ⟨bb,aX⟩:=M.e_iter aX;refine W.loop (fun m σ W=>∃ (ρ:Env),σ=upds ρ [(0,al),(1,I n),(2,.func (.func 151) #[] #[Pq am]),(6,I 20),(7,I 0),(8,I 20)]/\M.iterN (zd5 n) m ()=some a8/\St w W [cMem encDm ak B_b_cmp2020207 (zaa aa ab ac ae ah ai aj)] R) ?_ ?_
 ·exact kY
 rintro bT σ bU ⟨ρ,rfl,bc,H⟩;obtain ⟨bV,bW,bX,hM,bf⟩:=M.e_iterN bc;refine kI 7 ?_ ?_
 ·intro bg hM;exact (M.e_fail hM).elim
 intro bg hM;refine W.exit ?_;obtain rfl:=M.e_inr hM bf;replace hM:=ba;refine kC 6 @zfs ?_;intro bY aY hM H;refine kg 2 ?_;obtain ⟨bh,aZ,bi⟩:=M.e_bind hM;obtain ⟨bb,aZ⟩:=M.e_iter aZ;refine W.loop (fun m σ W=>∃ (ρ:Env),σ=upds ρ [(0,al),(1,I n),(2,.func (.func 151) #[] #[Pq am]),(6,I 20)]/\M.iterN (zdL n) m ()=some bh/\St w W [cMem encDm ak aY (zaa aa ab ac ae ah ai aj)] R) ?_ ?_
 ·exact kY
 rintro bZ σ b4 ⟨ρ,rfl,bj,H⟩;obtain ⟨b6,b7,b8,hM,bm⟩:=M.e_iterN bj;refine kI 7 ?_ ?_
 ·intro bn hM;exact (M.e_fail hM).elim
 intro bn hM;refine W.exit ?_;obtain rfl:=M.e_inr hM bm;replace hM:=bi;have bo:=M.e_pure hM;exact ⟨_,resE_tmp0 rfl,⟨aY,bo,rfl,H⟩⟩

def zej (x:List Dem) (aa:List Int) (ab:List Span) (ac:List Int) (ae:List Town) (ah ai:Int) (aj:List Flood) (ak:List Int) (al:List Span) (am:List Int) (ao:List Town) (ap aq:Int) (au:List Flood):M Unit :=
  M.bind (zeQ x (x.length:Int) aa ab ac ae ah ai aj ak al am ao ap aq au) fun (_:Unit) =>
  M.pure ()
theorem zf5 {R al am ao ap aq au av aw ax ay az aA aB aC aD ak B_b_cmp2020207 aE aF aG aH aI aJ aK aL aM aN aO aP aX}(x aa ab ac ae ah ai aj aQ aR aS aT aU aV aW)(a8:Reads R al)(aY:Sl al am x)(ba:Reads R au)(bb:Sl au av aa)(bc:Reads R aw)(bf:Sl aw ax ab)(bg:Reads R ay)(bh:Sl ay az ac)(bi:Reads R aA)(bj:Sl aA aB ae)(bm:Reads R aC)(bn:Sl aC aD aj)(bo:Has R (cBlk aq [av,ax,az,aB,I ah,I ai,aD,.map (some ak)] 266))(bp:Has R (cBlk ap [.func (.func 145) #[Pq aq] #[]] 268))(br:Reads R aG)(bt:Sl aG aH aQ)(bu:Reads R aI)(bv:Sl aI aJ aR)(bw:Reads R aK)(bx:Sl aK aL aS)(bz:Reads R aM)(bA:Sl aM aN aT)(bB:Reads R aO)(bC:Sl aO aP aW)(bD:Has R (cBlk aF [aH,aJ,aL,aN,I aU,I aV,aP,.map (some aX)] 266))(bE:Has R (cBlk aE [Pq aF] 212))(bF:Has R (cBlk ao [.func (.func 148) #[] #[Pq ap,Pq aE]] 276)){r}(hM:(zej x aa ab ac ae ah ai aj aQ aR aS aT aU aV aW).Ends r)(w)(H:St w w [cMem encDm ak B_b_cmp2020207 (zaa aa ab ac ae ah ai aj)] R):Ret Tryz.prog 150 #[am,.func (.func 151) #[] #[Pq ao]] w fun v w'=>∃ aZ,()=r/\v = .tuple #[]/\St w w' [cMem encDm ak aZ (zaa aa ab ac ae ah ai aj)] R:=by
 refine ret_of_W Tryz.func150 rfl rfl rfl ?_;have bG:=(aY).len_le;refine kC 5 @zfl ?_;intro bH a6 hM H;refine s_nil ?_;have a7:=M.e_pure hM;exact ⟨_,resE_tmp0 rfl,⟨a6,a7,rfl,H⟩⟩

def zd4 (ar:List Bool) (r4:List Int):Nat->M (Nat ⊕ (Unit ⊕ Unit)):=fun s =>
  bif decide ((s:Int)<(r4.length:Int)) then (
  M.grd (decide ((s:Int)<(r4.length:Int))) <|
  M.grd (decide ((0:Int)<=(r4.getD s 0))&&decide ((r4.getD s 0)<(12:Int))) <|
  bif ar.getD (Int.toNat (r4.getD s 0)) false then (
  M.pure (.inr (.inl ())))
  else (
  M.pure (.inl (s+1))))
  else (
  M.pure (.inr (.inr ())))
def zdJ (aa:List Int) (ab:List Span) (ac:List Int) (ae:List Town) (ah ai:Int) (aj:List Flood) (r2:List Dem):(Nat × (List Bool) × (List Int) × (List Dem))->M ((Nat × (List Bool) × (List Int) × (List Dem)) ⊕ ((List Int) × (List Dem) × (List Int) × (List Dem) × (List Bool))):=fun (s2,ar,l,l2) =>
  bif decide ((s2:Int)<(r2.length:Int)) then (
  M.grd (decide ((s2:Int)<(r2.length:Int))) <|
  M.bind (zaa aa ab ac ae ah ai aj (r2.getD s2 default)) fun r4 =>
  M.bind (M.iter (zd4 ar r4) 0) fun x_=>match x_ with
  | (.inl (_:Unit))=>(
  M.pure (.inl (s2+1,ar,l,l2)))
  | (.inr (_:Unit))=>(
  M.grd (decide ((0:Int)<=((r4.length:Int)-1))&&decide (((r4.length:Int)-1)<(r4.length:Int))) <|
  M.grd (decide ((0:Int)<=(r4.getD (Int.toNat ((r4.length:Int)-1)) 0))&&decide ((r4.getD (Int.toNat ((r4.length:Int)-1)) 0)<(12:Int))) <|
  M.grd (decide ((l.length+([(r4.getD (Int.toNat ((r4.length:Int)-1)) 0:Int)]).length)*8<=140737488355328)) <|
  M.grd (decide ((l2.length+([(r2.getD s2 default)]).length)*16<=140737488355328)) <|
  M.pure (.inl (s2+1,ar.set (Int.toNat (r4.getD (Int.toNat ((r4.length:Int)-1)) 0)) true,l++([(r4.getD (Int.toNat ((r4.length:Int)-1)) 0:Int)]),l2++([(r2.getD s2 default)])))))
  else (
  M.pure (.inr (l,l2,l,l2,ar)))
def zd3 (aa:List Int) (ab:List Span) (ac:List Int) (ae:List Town) (ah ai:Int) (aj:List Flood):M ((List Int) × (List Dem) × Bool) :=
  M.bind (zeT aa ab ac ae ah ai aj) fun r2 =>
  M.bind (zeO r2 aa ab ac ae ah ai aj) fun r3 =>
  bif !r3 then (
  M.fail)
  else (
  M.bind (zej r2 aa ab ac ae ah ai aj aa ab ac ae ah ai aj) fun (_:Unit) =>
  M.bind (M.iter (zdJ aa ab ac ae ah ai aj r2) (0,List.replicate 12 false,[],[])) fun (l3,l4,l5,l6,ak) =>
  M.grd (decide (l5.length<=1000000)) <|
  M.pure ((isort l5),l6,true))
theorem zgw {R ap aQ aR aS aT aU aV aW aX aY aZ aq bh}(aa ab ac ae ah ai aj)(ay:Reads R aQ)(az:Sl aQ aR aa)(aA:Reads R aS)(aB:Sl aS aT ab)(aC:Reads R aU)(aD:Sl aU aV ac)(aE:Reads R aW)(aF:Sl aW aX ae)(aG:Reads R aY)(aH:Sl aY aZ aj)(aI:Has R (cBlk ap [aR,aT,aV,aX,I ah,I ai,aZ,.map (some aq)] 266)){r}(hM:(zd3 aa ab ac ae ah ai aj).Ends r)(w)(H:St w w [cMem encDm aq bh (zaa aa ab ac ae ah ai aj)] R):Ret Tryz.prog 96 #[Pq ap] w fun v w'=>∃ y0 y1 y2 u0 u1 bi,(y0,y1,y2)=r/\v = .tuple #[u0,u1,B y2]/\St w w' [cOwn (α:=Int) 3 u0 y0,cOwn (α:=Dem) 271 u1 y1,cMem encDm aq bi (zaa aa ab ac ae ah ai aj)] R:=by
 refine ret_of_W Tryz.func96 rfl rfl rfl ?_;refine kB 2 ?_;intro bj bM H;refine kg 4 ?_;refine W.scope ?_;refine kC 3 @zf7 ?_;intro bN r2 au hM H;refine kg 5 ?_;refine s_val (x_mf (fs:=[Pq ap]) (cs:=[]) rfl rfl) ?_;refine kal ?_;intro al bO H;refine ksw ?_;intro bP H;refine kg 5 ?_;refine s_val (x_mf (fs:=[]) (cs:=[Pq al]) rfl rfl) ?_;obtain ⟨bQ,bm,hM⟩:=M.e_bind hM;refine s_call cq [au,.func (.func 147) #[] #[Pq al]] rfl (zfI r2 aa ab ac ae ah ai aj (rdo 1) (H.os 1) (ay.app _) az (aA.app _) aB (aC.app _) aD (aE.app _) aF (aG.app _) aH (aI.app _) (Has.here (k:=0) rfl) bm _ ((H.pk [3,0,1,2]).gt 3)) ?_;rintro _ bR ⟨r3,bS,rfl,rfl,aw⟩;replace H:=H.pk [3,0,1,2] |>.bk aw
 refine kI 2 ?_ ?_
 ·intro bn hM;exact (M.e_fail hM).elim
 intro bn hM;refine kg 3 ?_;refine s_val (x_mf (fs:=[]) (cs:=[Pq al,Pq bj]) rfl rfl) ?_;refine kal ?_;intro a6 bT H;refine ksw ?_;intro bU H;refine kg 4 ?_;refine s_val (x_mf (fs:=[]) (cs:=[Pq a6]) rfl rfl) ?_;obtain ⟨bV,bo,hM⟩:=M.e_bind hM;refine s_call cq [au,.func (.func 151) #[] #[Pq a6]] rfl (zf5 r2 aa ab ac ae ah ai aj aa ab ac ae ah ai aj (rdo 2) (H.os 3) (ay.app _) az (aA.app _) aB (aC.app _) aD (aE.app _) aF (aG.app _) aH (aI.app _) (Has.here (k:=1) rfl) (ay.app _) az (aA.app _) aB (aC.app _) aD (aE.app _) aF (aG.app _) aH (aI.app _) (Has.here (k:=3) rfl) (Has.here (k:=0) rfl) bo _ ((H.pk [1,0,2,3,4]).gt 4)) ?_;rintro _ bW ⟨bp,rfl,rfl,aw⟩;replace H:=H.pk [1,0,2,3,4] |>.bk aw
 refine s_nil ?_;replace H:=H.pk [0,2,3];refine kA 2 ?_;intro am bX H;have br:(List.replicate 12 false).length=12:=by simp
 refine kg 10 ?_;refine W.label ?_;have bY:=((H.os 3)).len_le;refine kg 8 ?_;replace H:=H.nilOwn (α:=Dem) 271;replace H:=H.nilOwn (α:=Int) 3;obtain ⟨bt,aN,bu⟩:=M.e_bind hM;obtain ⟨bv,aN⟩:=M.e_iter aN;refine W.loop (fun m σ W=>∃ (s2:Nat) (ar:List Bool) (l:List Int) (l2:List Dem) (ak:Value) (ao:Value) (B_mem:Base) (ρ:Env),σ=upds ρ [(6,Pq al),(8,Pq am),(9,ak),(10,ao),(29,au),(30,I (r2.length:Int)),(31,I (s2:Int))]/\M.iterN (zdJ aa ab ac ae ah ai aj r2) m (s2,ar,l,l2)=some bt/\St w W [cOwn (α:=Int) 3 ak l,cOwn (α:=Dem) 271 ao l2,cBlk am (encB ar) 280,cMem encDm aq B_mem (zaa aa ab ac ae ah ai aj),cBlk al [.func (.func 145) #[Pq ap] #[]] 268,cOwn (α:=Dem) 271 au r2] R/\ar.length=12) ?_ ?_
 ·exact ⟨_,0,List.replicate 12 false,[],[],(.slice none 0 0),(.slice none 0 0),bp,_,jQ,aN,H,br⟩
 rintro bZ σ b4 ⟨s2,ar,l,l2,ak,ao,B_mem,ρ,rfl,bw,H,aJ⟩;obtain ⟨aK,aL,b6,hM,ax⟩:=M.e_iterN bw;refine kI 5 ?_ ?_
 ·intro bx hM;obtain ⟨b7,hM⟩:=M.e_gq hM;refine kA 7 ?_;intro aO b8 H;refine ksw ?_;intro b9 H;refine kg 5 ?_;obtain ⟨cb,bz,hM⟩:=M.e_bind hM;refine s_callm (f:=145) (fs:=[Pq ap]) rfl cq [.agg #[I ((r2.getD s2 default).spring),I ((r2.getD s2 default).town)]] rfl (zdu aa ab ac ae ah ai aj (r2.getD s2 default) (ay.app _) az (aA.app _) aB (aC.app _) aD (aE.app _) aF (aG.app _) aH (aI.app _) bz _ ((H.pk [4,0,1,2,3,5,6]).gt 6)) ?_;rintro vq cc ⟨r4,a7,av,rfl,hvq,aw,aM⟩;subst vq;replace H:=H.pk [4,0,1,2,3,5,6] |>.bk aw
  have cd:=(aM).len_le;refine kg 10 ?_;obtain ⟨bA,a8,ba⟩:=M.e_bind hM;obtain ⟨bv,a8⟩:=M.e_iter a8;refine W.loop (fun m σ W=>∃ (s:Nat) (ρ:Env),σ=upds ρ [(6,Pq al),(8,Pq am),(9,ak),(10,ao),(12,Pq aO),(13,a7),(29,au),(30,I (r2.length:Int)),(31,I (s2:Int)),(38,a7),(39,I (r4.length:Int)),(40,I (s:Int))]/\M.iterN (zd4 ar r4) m s=some bA/\St w W [cMem encDm aq av (zaa aa ab ac ae ah ai aj),cBlk aO [I ((r2.getD s2 default).spring),I ((r2.getD s2 default).town)] 271,cOwn (α:=Int) 3 ak l,cOwn (α:=Dem) 271 ao l2,cBlk am (encB ar) 280,cBlk al [.func (.func 145) #[Pq ap] #[]] 268,cOwn (α:=Dem) 271 au r2] R) ?_ ?_
  ·exact kY
  rintro ce σ cf ⟨s,ρ,rfl,bB,H⟩;obtain ⟨cg,ch,cj,hM,bb⟩:=M.e_iterN bB;refine kI 5 ?_ ?_
  ·intro bC hM;obtain ⟨ck,hM⟩:=M.e_gq hM;refine kg 6 ?_;refine s_val (x_ld (v:=I (r4.getD s 0)) rfl (ld_sc Sc3.h (At.mono (Int_at aM (i:=(s:Int)) (by omega) (by omega)) (memLe _ (H.get (k:=0) rfl))))) ?_;obtain ⟨cn,hM⟩:=M.e_gq hM;refine kg 5 ?_;refine s_val (x_ix (v:=.pointer (some ⟨am,0+Int.toNat (r4.getD s 0),none⟩)) rfl rfl (run_indexArr Tryz.underlying280 Sz4.h (by omega) (by omega)))<|s_val (x_ld (v:=B (ar.getD (Int.toNat (r4.getD s 0)) false)) rfl (ldArr Sc4.h (H.bl 4) (by omega) (by have bD:=aJ; omega))) ?_;refine kI 1 ?_ ?_
   ·intro bE hM;refine W.exit ?_;obtain rfl:=M.e_inr hM bb;replace hM:=ba;refine kg 4 ?_;exact ⟨aK,aL,s2+1,ar,l,l2,ak,ao,av,_,jQ,M.e_inl hM ax,(H.pk [2,3,4,0,5,6]),aJ⟩
   intro bE hM;exact kX 5
  intro bC hM;refine W.exit ?_;obtain rfl:=M.e_inr hM bb;replace hM:=ba;have cp:=(aM).len_le;obtain ⟨cr,hM⟩:=M.e_gq hM;refine kg 7 ?_;refine s_val (x_ld (v:=I (r4.getD (Int.toNat ((r4.length:Int)-1)) 0)) rfl (ld_sc Sc3.h (At.mono (Int_at aM (i:=(r4.length:Int)-1) (by omega) (by omega)) (memLe _ (H.get (k:=0) rfl))))) ?_;obtain ⟨ct,hM⟩:=M.e_gq hM;refine kg 5 ?_;refine s_val (x_ix (v:=.pointer (some ⟨am,0+Int.toNat (r4.getD (Int.toNat ((r4.length:Int)-1)) 0),none⟩)) rfl rfl (run_indexArr Tryz.underlying280 Sz4.h (by omega) (by omega))) ?_;refine t_stArr (k:=4) (b:=am) (l:=ar) (l':=ar.set (Int.toNat (r4.getD (Int.toNat ((r4.length:Int)-1)) 0)) true) (i:=r4.getD (Int.toNat ((r4.length:Int)-1)) 0) (v:=true) (L':=[cMem encDm aq av (zaa aa ab ac ae ah ai aj),cBlk aO [I ((r2.getD s2 default).spring),I ((r2.getD s2 default).town)] 271,cOwn (α:=Int) 3 ak l,cOwn (α:=Dem) 271 ao l2,cBlk am (encB (ar.set (Int.toNat (r4.getD (Int.toNat ((r4.length:Int)-1)) 0)) true)) 280,cBlk al [.func (.func 145) #[Pq ap] #[]] 268,cOwn (α:=Dem) 271 au r2]) H rfl rfl rfl Sz4.h (by omega) (by have bD:=aJ; omega) rfl rfl ?_;intro cu H;have aP:(ar.set (Int.toNat (r4.getD (Int.toNat ((r4.length:Int)-1)) 0)) true).length=12:=List.length_set.trans aJ;refine kDT 1 [0,1,4,5,6] (.q 0 (.q 1 (.q 4 (.q 5 (.l2 2 (.l2 3 (.l 6 (.l 7 (.q 8 (.q 9 .nil)))) 6 (.l 3 (.l 7 (.q 8 (.q 9 .nil))))) 6 (.l 2 (.l 3 (.l 7 (.q 8 (.q 9 .nil)))))))))) ?_;intro cv H;obtain ⟨cB,hM⟩:=M.e_gq hM;obtain ⟨cC,hM⟩:=M.e_gq hM;refine kg 4 ?_;refine t_l2 rfl rfl ?_ ?_
  ·refine kL 0 (α:=Int) [r4.getD (Int.toNat ((r4.length:Int)-1)) 0] ?_;intro cD cE H;refine kN ?_;refine t_l2 rfl rfl ?_ ?_
   ·refine kP 0 ?_;intro bF cF H;refine kN ?_;refine kL 1 (α:=Dem) [(r2.getD s2 default)] ?_;intro cG cH H;refine kN ?_;refine kP 1 ?_;intro bG cI H;refine kN ?_;refine kg 3 ?_;replace H:=H.pk [2,4,5,6,7,8];refine kg 4 ?_;exact ⟨aK,aL,s2+1,ar.set (Int.toNat (r4.getD (Int.toNat ((r4.length:Int)-1)) 0)) true,l++([(r4.getD (Int.toNat ((r4.length:Int)-1)) 0:Int)]),l2++([(r2.getD s2 default)]),bF,bG,av,_,jQ,M.e_inl hM ax,(H.pk [1,2,3,0,4,5]),aP⟩
   refine kL 0 (α:=Dem) [(r2.getD s2 default)] ?_;intro cJ cK H;refine kN ?_;refine kP 1 ?_;intro bH cL H;refine kN ?_;refine kP 1 ?_;intro bI cM H;refine kN ?_;refine kg 3 ?_;replace H:=H.pk [2,4,5,6,7,8];refine kg 4 ?_;exact ⟨aK,aL,s2+1,ar.set (Int.toNat (r4.getD (Int.toNat ((r4.length:Int)-1)) 0)) true,l++([(r4.getD (Int.toNat ((r4.length:Int)-1)) 0:Int)]),l2++([(r2.getD s2 default)]),bH,bI,av,_,jQ,M.e_inl hM ax,(H.pk [1,2,3,0,4,5]),aP⟩
  refine kL 0 (α:=Dem) [(r2.getD s2 default)] ?_;intro cN cO H;refine kN ?_;refine kL 1 (α:=Int) [r4.getD (Int.toNat ((r4.length:Int)-1)) 0] ?_;intro cP cQ H;refine kN ?_;refine kP 1 ?_;intro bJ cR H;refine kN ?_;refine kP 1 ?_;intro bK cS H;refine kN ?_;refine kg 3 ?_;replace H:=H.pk [2,4,5,6,7,8];refine kg 4 ?_;exact ⟨aK,aL,s2+1,ar.set (Int.toNat (r4.getD (Int.toNat ((r4.length:Int)-1)) 0)) true,l++([(r4.getD (Int.toNat ((r4.length:Int)-1)) 0:Int)]),l2++([(r2.getD s2 default)]),bJ,bK,av,_,jQ,M.e_inl hM ax,(H.pk [1,2,3,0,4,5]),aP⟩
 intro bx hM;refine W.exit ?_;obtain rfl:=M.e_inr hM ax;replace hM:=bu;replace H:=H.pk [0,1,3];obtain ⟨cT,hM⟩:=M.e_gq hM;refine kg 3 ?_;refine s_call cq [ak] rfl (sort_any (H.get (k:=0) rfl) (by omega)) ?_;rintro _ bL ⟨rfl,bc,bf,bg⟩;replace H:St w bL [cOwn (α:=Int) 3 ak (isort l),cOwn (α:=Dem) 271 ao l2,cMem encDm aq B_mem (zaa aa ab ac ae ah ai aj)] R:=H.sorted (k:=0) rfl bc bf bg rfl;clear bc bf bg;refine kg 9 ?_;exact rt

def zeF (aa:List Int) (ab:List Span) (ac:List Int) (ae:List Town) (ai aj:Int) (ah:List Flood):M ((List Int) × Int) :=
  M.bind (zee aa ab ac ae ai aj ah) fun (ak,al,r1) =>
  bif r1 != 0 then (
  M.fail)
  else (
  M.bind (zd3 aa ab ac ae ak al ah) fun (r0,am,r2) =>
  bif !r2 then (
  M.fail)
  else (
  M.pure (r0,0)))
theorem zfD {R ai aj ak al am ao ap aq au av}(aa ab ac ae aw ax ah)(ay:Reads R ai)(az:Sl ai aj aa)(aA:Reads R ak)(aB:Sl ak al ab)(aC:Reads R am)(aD:Sl am ao ac)(aE:Reads R ap)(aF:Sl ap aq ae)(aG:Reads R au)(aH:Sl au av ah){r}(hM:(zeF aa ab ac ae aw ax ah).Ends r)(w)(H:St w w [] R):Ret Tryz.prog 48 #[.agg #[aj,al,ao,aq,I aw,I ax,av]] w fun v w'=>∃ y0 y1 u0,(y0,y1)=r/\v = .tuple #[u0,I y1]/\St w w' [cOwn (α:=Int) 3 u0 y0] R:=by
 refine ret_of_W Tryz.func48 rfl rfl rfl ?_;refine kB 2 ?_;intro aP aQ H;refine kC 6 @zgt ?_;intro aR aI aJ r1 aK aS aT hM H;refine kI 12 ?_ ?_
 ·intro aL hM;exact (M.e_fail hM).elim
 intro aL hM;refine kg 4 ?_;obtain ⟨aU,aM,hM⟩:=M.e_bind hM;refine s_call cq [Pq aK] rfl (zgw aa ab ac ae aI aJ ah (ay.app _) az (aA.app _) aB (aC.app _) aD (aE.app _) aF (aG.app _) aH (Has.here (k:=0) rfl) aM _ ((H.pk [1,0,2]).gt 2)) ?_;rintro _ aV ⟨r0,aW,r2,aX,aY,aZ,rfl,rfl,aN⟩;replace H:=H.pk [1,0,2] |>.bk aN
 refine kg 8 ?_;replace H:=H.pk [0];refine kI 6 ?_ ?_
 ·intro aO hM;exact (M.e_fail hM).elim
 intro aO hM;refine kg 7 ?_;exact rt

end Go.Proofs.YtbgoclcmgbpckabGreat
end
section
set_option maxRecDepth 100000
set_option maxHeartbeats 16000000
namespace Go.Proofs.YtbgoclcmgbpckabGreat
open Go Go.Nm
attribute [local irreducible] gd execOp SL SLD SLT WR
def zaG (l:List Span):(Int × Int × Nat)->M ((Int × Int × Nat) ⊕ (Int × Int)):=fun (s,s2,s3) =>
  bif decide ((s3:Int)<(l.length:Int)) then (
  M.grd (decide ((s3:Int)<(l.length:Int))) <|
  M.pure (.inl (max s ((l.getD s3 default).lo),min s2 ((l.getD s3 default).hi),s3+1)))
  else (
  M.pure (.inr (s,s2)))
def zav (first:Span) (l:List Span):M (Int × Int) :=
  M.bind (M.iter (zaG l) (first.lo,first.hi,0)) fun (s4,s5) =>
  M.pure (s4,s5)
theorem zct {R ab aa}(first l)(ap:Reads R ab)(ai:Sl ab aa l){r}(hM:(zav first l).Ends r)(w)(H:St w w [] R):Ret Tryz.prog 56 #[.agg #[I first.lo,I first.hi],aa] w fun v w'=>∃ y0 y1,(y0,y1)=r/\v = .agg #[I y0,I y1]/\St w w' [] R:=by
 refine ret_of_W Tryz.func56 rfl rfl rfl ?_;refine kB 2 ?_;intro ac aq H;refine kal ?_;intro ae au H;have av:=(ai).len_le;refine kg 9 ?_;obtain ⟨aj,ah,ak⟩:=M.e_bind hM;obtain ⟨aw,ah⟩:=M.e_iter ah;refine W.loop (fun m σ W=>∃ (s:Int) (s2:Int) (s3:Nat) (ρ:Env),σ=upds ρ [(2,Pq ac),(4,Pq ae),(7,aa),(8,I (l.length:Int)),(9,I (s3:Int))]/\M.iterN (zaG l) m (s,s2,s3)=some aj/\St w W [cBlk ae [I 0,I 0] 27,cBlk ac [I s,I s2] 27] R) ?_ ?_
 ·exact kY
 rintro ax σ ay ⟨s,s2,s3,ρ,rfl,al,H⟩;obtain ⟨az,aA,aB,hM,am⟩:=M.e_iterN al;refine kI 5 ?_ ?_
 ·intro ao hM;obtain ⟨aC,hM⟩:=M.e_gq hM;refine kA 7 ?_;intro aD aE H;refine ksw ?_;intro aF H;refine kS 13 ?_;intro aG H;exact kXp 5 [1,2]
 intro ao hM;refine W.exit ?_;obtain rfl:=M.e_inr hM am;replace hM:=ak;refine kS 3 ?_;intro aH H;exact kR 1 []

def zcD (ai aj ac ab ae:Int) (aa:List CMk) (ak:List CNt) (ah:List (Int × CNt)) (mark:Int):M (Int × Int) :=
  M.grd (decide ((0:Int)<=mark)&&decide (mark<(aa.length:Int))) <|
  M.gi (ab*((aa.getD (Int.toNat mark) default).height)) <|
  M.gi (ac+(ab*((aa.getD (Int.toNat mark) default).height))) <|
  M.gi ((ac+(ab*((aa.getD (Int.toNat mark) default).height)))-ae) <|
  M.gi ((ac+(ab*((aa.getD (Int.toNat mark) default).height)))+ae) <|
  bif (lookM ah (mark:Int)).isSome then (
  M.bind (zav (⟨((ac+(ab*((aa.getD (Int.toNat mark) default).height)))-ae:Int),((ac+(ab*((aa.getD (Int.toNat mark) default).height)))+ae:Int)⟩:Span) ([(⟨(((lookM ah (mark:Int)).getD default).slo:Int),(((lookM ah (mark:Int)).getD default).shi:Int)⟩:Span)])) fun (r0,r1) =>
  M.pure (r0,r1))
  else (
  M.pure (((ac+(ab*((aa.getD (Int.toNat mark) default).height)))-ae),((ac+(ab*((aa.getD (Int.toNat mark) default).height)))+ae)))
theorem zeY {R ao ap ac aq aj ae}(ak al ah ai ab au av aa mark)(ay:Reads R ap)(az:Sl ap ac au)(aA:Reads R aq)(aB:Sl aq aj av)(aw:Has R (cMl I encCN ae aa))(am:Fld R ao [I ak,I al,I ah,I ai,I ab,ac,aj,.map (some ae)]){r}(hM:(zcD ak al ah ai ab au av aa mark).Ends r)(w)(H:St w w [] R):Ret Tryz.prog 101 #[Pq ao,I mark] w fun v w'=>∃ y0 y1,(y0,y1)=r/\v = .agg #[I y0,I y1]/\St w w' [] R:=by
 refine ret_of_W Tryz.func101 rfl rfl rfl ?_;refine kA 2 ?_;intro aC aD H;refine kD 2 [0] [] ?_;intro aE H;refine kg 4 ?_;refine d_q rfl (fun w' H=>x_ld (v:=I ah) rfl (fld_sc (pre:=[I ak,I al,I ah,I ai,I ab,ac,aj,.map (some ae)]) (i:=2) Sc3.h (am.at H) rfl)) ?_;refine kg 4 ?_;refine d_q rfl (fun w' H=>x_ld (v:=I ai) rfl (fld_sc (pre:=[I ak,I al,I ah,I ai,I ab,ac,aj,.map (some ae)]) (i:=3) Sc3.h (am.at H) rfl)) ?_;refine kg 4 ?_;refine d_q rfl (fun w' H=>x_ld (v:=ac) rfl (fld_sc (pre:=[I ak,I al,I ah,I ai,I ab,ac,aj,.map (some ae)]) (i:=5) Sc28.h (am.at H) rfl)) ?_;obtain ⟨aF,hM⟩:=M.e_gq hM;obtain ⟨aG,hM⟩:=M.e_gq hM;obtain ⟨aH,hM⟩:=M.e_gq hM;refine kD 9 [0] [15,16] ?_;intro aI H;refine kg 5 ?_;refine d_q rfl (fun w' H=>x_ld (v:=I ab) rfl (fld_sc (pre:=[I ak,I al,I ah,I ai,I ab,ac,aj,.map (some ae)]) (i:=4) Sc3.h (am.at H) rfl)) ?_;obtain ⟨aJ,hM⟩:=M.e_gq hM;refine kg 6 ?_;refine d_q rfl (fun w' H=>x_ld (v:=I ab) rfl (fld_sc (pre:=[I ak,I al,I ah,I ai,I ab,ac,aj,.map (some ae)]) (i:=4) Sc3.h (am.at H) rfl)) ?_;obtain ⟨aK,hM⟩:=M.e_gq hM;refine kA 3 ?_;intro aL aM H;refine kN ?_;refine kS 1 ?_;intro aN H;refine kN ?_;refine kg 7 ?_;refine s_val (x_ld (v:=.map (some ae)) rfl (fld_sc (pre:=[I ak,I al,I ah,I ai,I ab,ac,aj,.map (some ae)]) (i:=7) Sc224.h (am.at H) rfl)) ?_;refine kg 1 ?_;refine s_val (q_look (kenc:=I) (venc:=encCN) (f:=lookM aa) (k:=(mark:Int)) (v:=.tuple #[.agg #[I (((lookM aa (mark:Int)).getD default).mark),I (((lookM aa (mark:Int)).getD default).tlo),I (((lookM aa (mark:Int)).getD default).thi),I (((lookM aa (mark:Int)).getD default).slo),I (((lookM aa (mark:Int)).getD default).shi)],B ((lookM aa (mark:Int)).isSome)]) keyIntCN Tryz.underlying224 Al75.h rfl rfl (mlMap (aw.at H)) true (by rw [if_pos rfl,cnt_val])) ?_;refine kA 3 ?_;intro aO aP H;refine ksw ?_;intro aQ H;refine kI 6 ?_ ?_
 ·intro ax hM;refine kL 4 (α:=Span) [⟨((lookM aa (mark:Int)).getD default).slo,((lookM aa (mark:Int)).getD default).shi⟩] ?_;intro aR aS H;refine kC 0 @zct ?_;intro aT r0 r1 hM H;refine ksw ?_;intro aU H;refine s_nil ?_;replace H:=H.pk [2,3];refine kS 3 ?_;intro aV H;exact kR 1 []
 intro ax hM;refine kS 4 ?_;intro aW H;refine s_nil ?_;replace H:=H.pk [2];exact kR 0 []

def zbz (x:Span) (aa:Span->M Bool):M Bool :=
  M.bind (aa x) fun r2 =>
  M.pure (!r2)
theorem zgs {R aa ab}(x ac)(ae:FnM Tryz.prog R ab ac)(ai:Has R (cBlk aa [ab] 156)){r}(hM:(zbz x ac).Ends r)(w)(H:St w w [] R):Ret Tryz.prog 105 #[.agg #[I x.lo,I x.hi],Pq aa] w fun v w'=>∃ y0,y0=r/\v=B y0/\St w w' [] R:=by
 refine ret_of_W Tryz.func105 rfl rfl rfl ?_;refine kB 2 ?_;intro aj ak H;refine kg 6 ?_;obtain ⟨r2,ah,hM⟩:=M.e_bind hM;refine t_callM H ae rfl rfl x Reads.none ⟨_,rfl,rfl⟩ ah ?_;intro al H;refine kg 3 ?_;exact rt

def zau (l:List Span) (so:Span->M Bool):M Bool :=
  M.bind (zaI l (fun aa=>zbz aa so)) fun r2 =>
  M.pure (!r2)
theorem zeS {R ae aa ah}(l so)(aj:Reads R ae)(ak:Sl ae aa l)(al:FnM Tryz.prog R ah so){r}(hM:(zau l so).Ends r)(w)(H:St w w [] R):Ret Tryz.prog 57 #[aa,ah] w fun v w'=>∃ y0,y0=r/\v=B y0/\St w w' [] R:=by
 refine ret_of_W Tryz.func57 rfl rfl rfl ?_;refine kB 2 ?_;intro ab az H;refine kg 5 ?_;refine s_val (x_mf (fs:=[]) (cs:=[Pq ab]) rfl rfl) ?_;obtain ⟨aA,am,hM⟩:=M.e_bind hM;refine s_call cq [aa,.func (.func 105) #[] #[Pq ab]] rfl (zdi l (fun ac=>zbz ac so) (aj.app _) ak ⟨105,[Pq ab],rfl,cq,fun ai aB aC ao ac aD ap aE aq au=>by obtain rfl:=Span_arg aq; exact (zgs ac so (FnM.app (al.app _) _) (Has.app (Has.here (k:=0) rfl) _) au ai (St.refl ap)).mono fun ao ai ⟨aF,av,aw,ax⟩=>by subst av; exact ⟨aw,ax⟩⟩ am _ (H.gt 1)) ?_;rintro _ aG ⟨r2,rfl,rfl,ay⟩;replace H:=H.bk ay;refine kg 3 ?_;exact rt

def zcI (s:Span):M Bool :=
  M.pure (decide (s.lo<=s.hi))
theorem zfg {R}(s){r}(hM:(zcI s).Ends r)(w)(H:St w w [] R):Ret Tryz.prog 102 #[.agg #[I s.lo,I s.hi]] w fun v w'=>∃ y0,y0=r/\v=B y0/\St w w' [] R:=by
 refine ret_of_W Tryz.func102 rfl rfl rfl ?_;refine kB 2 ?_;intro aa ab H;refine kg 11 ?_;exact rt

def zb0 (ab ac ae ah ai:Int) (aa:List CMk) (aj:List CNt) (ak:List (Int × CNt)):(Nat × (List Span))->M ((Nat × (List Span)) ⊕ ((List Span) × (List Span))):=fun (s,l) =>
  bif decide ((s:Int)<(aa.length:Int)) then (
  M.bind (zcD ab ac ae ah ai aa aj ak (s:Int)) fun (r0,r1) =>
  M.grd (decide ((l.length+([(⟨(r0:Int),(r1:Int)⟩:Span)]).length)*16<=140737488355328)) <|
  M.pure (.inl (s+1,l++([(⟨(r0:Int),(r1:Int)⟩:Span)]))))
  else (
  M.pure (.inr (l,l)))
def zaU (aa ab ac ae ah:Int) (ai:List CMk) (aj:List CNt) (ak:List (Int × CNt)):M ((List Span) × Bool) :=
  M.bind (M.iter (zb0 aa ab ac ae ah ai aj ak) (0,[])) fun (l2,l3) =>
  M.bind (zau l3 (fun al=>zcI al)) fun r2 =>
  M.pure (l3,r2)
theorem zdY {R al av aa aw am ao}(ab ac ae ah ai aj ap aq)(aP:Reads R av)(az:Sl av aa aj)(aQ:Reads R aw)(aR:Sl aw am ap)(aS:Has R (cMl I encCN ao aq))(aA:Fld R al [I ab,I ac,I ae,I ah,I ai,aa,am,.map (some ao)]){r}(hM:(zaU ab ac ae ah ai aj ap aq).Ends r)(w)(H:St w w [] R):Ret Tryz.prog 52 #[Pq al] w fun v w'=>∃ y0 y1 u0,(y0,y1)=r/\v = .tuple #[u0,B y1]/\St w w' [cOwn (α:=Span) 27 u0 y0] R:=by
 refine ret_of_W Tryz.func52 rfl rfl rfl ?_;refine kg 16 ?_;refine s_val (x_ld (v:=aa) rfl (fld_sc (pre:=[I ab,I ac,I ae,I ah,I ai,aa,am,.map (some ao)]) (i:=5) Sc28.h (aA.at H) rfl)) ?_;have aT:=(az).len_le;refine kg 4 ?_;replace H:=H.nilOwn (α:=Span) 27;obtain ⟨aB,ax,aC⟩:=M.e_bind hM;obtain ⟨aU,ax⟩:=M.e_iter ax;refine W.loop (fun m σ W=>∃ (s:Nat) (l:List Span) (ak:Value) (ρ:Env),σ=upds ρ [(0,Pq al),(4,ak),(11,I (aj.length:Int)),(12,I (s:Int))]/\M.iterN (zb0 ab ac ae ah ai aj ap aq) m (s,l)=some aB/\St w W [cOwn (α:=Span) 27 ak l] R) ?_ ?_
 ·exact kY
 rintro aV σ aW ⟨s,l,ak,ρ,rfl,aD,H⟩;obtain ⟨aX,aY,aZ,hM,aE⟩:=M.e_iterN aD;refine kI 5 ?_ ?_
 ·intro aF hM;refine kC 12 @zeY ?_;intro a6 r0 r1 hM H;refine kL 0 (α:=Span) [⟨r0,r1⟩] ?_;intro a7 a8 H;obtain ⟨ba,hM⟩:=M.e_gq hM;refine kP 0 ?_;intro bb bc H;exact kXp 6 [1]
 intro aF hM;refine W.exit ?_;obtain rfl:=M.e_inr hM aE;replace hM:=aC;refine kg 4 ?_;obtain ⟨bf,aG,hM⟩:=M.e_bind hM;refine s_call cq [ak,.func (.func 102) #[] #[]] rfl (zeS l (fun au=>zcI au) (rdo 0) (H.os 0) ⟨102,[],rfl,cq,fun ay bg bh aH au bi aI bj aJ aK=>by obtain rfl:=Span_arg aJ; exact (zfg au aK ay (St.refl aI)).mono fun aH ay ⟨bm,aL,aM,aN⟩=>by subst aL; exact ⟨aM,aN⟩⟩ aG _ (H.gt 1)) ?_;rintro _ bn ⟨r2,rfl,rfl,aO⟩;replace H:=H.bk aO;refine kg 3 ?_;exact rt

def zdB (s:List Span):M (List Span) :=
  M.grd (decide (0<s.length)) <|
  M.grd (decide ((([]:List Span).length+s.length)*16<=140737488355328)) <|
  M.pure s
theorem zdR {R aa ab}(s)(ah:Reads R aa)(ae:Sl aa ab s){r}(hM:(zdB s).Ends r)(w)(H:St w w [] R):Ret Tryz.prog 53 #[ab] w fun v w'=>∃ y0 u0,y0=r/\v=u0/\St w w' [cOwn (α:=Span) 27 u0 y0] R:=by
 refine ret_of_W Tryz.func53 rfl rfl rfl ?_;obtain ⟨ai,hM⟩:=M.e_gq hM;refine kg 8 ?_;refine s_val (x_eqnilp (α:=Span) T23.h.und rfl rfl ae (by omega))<|s_nil ?_
 refine W.cond false rfl (fun ac=>?_) (fun ac=>?_)
 ·exact absurd ac (by decide)
 refine kg 3 ?_;refine t_bs0 (α:=Span) T23.h H ?_;intro aj ak H;obtain ⟨al,hM⟩:=M.e_gq hM;refine kP 1 ?_;intro am ao H;refine kg 2 ?_;exact rt

end Go.Proofs.YtbgoclcmgbpckabGreat
end
namespace Go.Proofs
open Go.Shelf
def Tryz.layMul_ren:Go.Shelf.Ren:=⟨fun | 212=>213 | 263=>243 | 264=>244 | n=>n,fun | 46=>175 | 51=>242 | 146=>353 | 53=>244 | 148=>355 | n=>n,fun | n=>n⟩
theorem Tryz.layMul:Go.Proofs.Lays.n212 Tryz.prog Tryz.layMul_ren:={
  mixed:=by kernel_rfl
  f212:=Tryz.func213.trans (congrArg some (by kernel_rfl))
  f263:=Tryz.func243.trans (congrArg some (by kernel_rfl))
  f264:=Tryz.func244.trans (congrArg some (by kernel_rfl))
  t46:=Tryz.underlying175
  a46:=Tryz.isAgg175
  z46:=Tryz.sizeOf175
  v46:=Tryz.zeroValue175
  t51:=Tryz.underlying242
  a51:=Tryz.isAgg242
  z51:=Tryz.sizeOf242
  v51:=Tryz.zeroValue242
  t53:=Tryz.underlying244
  a53:=Tryz.isAgg244
  z53:=Tryz.sizeOf244
  v53:=Tryz.zeroValue244
  t146:=Tryz.underlying353
  a146:=Tryz.isAgg353
  z146:=Tryz.sizeOf353
  v146:=Tryz.zeroValue353
  t148:=Tryz.underlying355
  a148:=Tryz.isAgg355
  z148:=Tryz.sizeOf355
  v148:=Tryz.zeroValue355 }
end Go.Proofs
namespace Go.Proofs.YtbgoclcmgbpckabGreat
open Go Go.Nm Go.Proofs
theorem mul_any {n:Int} (h0:0<=n) (h1:n<=9223372036854775807) (w:World):Ret Tryz.prog 213 #[.int .u64 1,.int .u64 n] w fun v w'=>v = .tuple #[.int .u64 0,.int .u64 n]/\Ext w w':=by
  have h:=Any.bits_Mul Tryz.layMul 1 n.toNat (by omega) (by omega) w;have e:((n.toNat:Nat):Int)=n:=Int.toNat_of_nonneg h0;rw [Nat.one_mul,Nat.div_eq_of_lt (by omega),Nat.mod_eq_of_lt (by omega),e] at h;refine Calls.mono h ?_;rintro _ w' ⟨rfl,rfl⟩;exact ⟨_,rfl,rfl,Ext.refl w'⟩
end Go.Proofs.YtbgoclcmgbpckabGreat
namespace Go.Nm
open Go
theorem fm_take {α:Type} [Flat α]:∀ (l:List α) (n:Nat),(l.flatMap Flat.enc:List Value).take (n*Elt.sz α)=(l.take n).flatMap Flat.enc
  | [],n=>by simp
  | x :: l,0=>by simp
  | x :: l,n+1=>by
    have hx:(Flat.enc x:List Value).length=Elt.sz α:=Flat.enc_len x;rw [List.flatMap_cons,List.take_append,List.take_of_length_le (by rw [hx,Nat.succ_mul]; omega),hx,show (n+1)*Elt.sz α-Elt.sz α=n*Elt.sz α by rw [Nat.succ_mul]; omega,fm_take l n];rfl
theorem fm_drop {α:Type} [Flat α]:∀ (l:List α) (n:Nat),(l.flatMap Flat.enc:List Value).drop (n*Elt.sz α)=(l.drop n).flatMap Flat.enc
  | [],n=>by simp
  | x :: l,0=>by simp
  | x :: l,n+1=>by
    have hx:(Flat.enc x:List Value).length=Elt.sz α:=Flat.enc_len x;rw [List.flatMap_cons,List.drop_append,List.drop_eq_nil_of_le (by rw [hx,Nat.succ_mul]; omega),hx,show (n+1)*Elt.sz α-Elt.sz α=n*Elt.sz α by rw [Nat.succ_mul]; omega,fm_drop l n];rfl
theorem run_copy_rowS {P:Program} (w:World) (dT sT ty elem:TypeId) (g o dLen dCap:Nat) (a:Addr) (sLen sCap:Nat) (cur:Array Value) (t:TypeId) (cs:List Value) (s:Nat)
    (hu:P.underlying dT=some (.slice elem)) (hs:(P.info? elem).map (·.size)=some s)
    (hg:w.heap[g]?=some (.cells cur t (0,0))) (hn:cs.length=Nat.min sLen dLen*s)
    (hsrc:∀ j v,cs[j]?=some v->w.cell? (a.add j)=some v) (hfit:o+cs.length<=cur.size) (h1:∀ v∈cs,v.oneCell'=true) :
    (Builtin.copy_ #[dT,sT] ty #[.slice (some ⟨g,o,none⟩) dLen dCap,.slice (some a) sLen sCap]).run P w =
      .ok (goInt (Nat.min sLen dLen)) (w.setRow g (cur.toList.take o++cs++cur.toList.drop (o+cs.length)).toArray):=by
  have hl:=run_loadCells_list (P:=P) w a cs hsrc;have hst:=run_storeCells_at P g o t cs 0 cur w hg (by simpa using hfit) h1;cases hq:P.info? elem with
  | none=>simp [hq] at hs
  | some i =>
    have hi:i.size=s:=by simpa [hq] using hs
    subst hi;rw [hn] at hl;simp [Builtin.copy_,run_underlying hu,Builtin.lenOf,Builtin.firstCells,sizeOf,typeInfo,hq,hl,hst]
section
variable {P:Program} {w:World} {α:Type} [Flat α]
theorem run_copyF {t ty e by':Nat} {z:Value} (T:SlT P t e (Elt.sz α) by' z) {B:Nat} {v vy:Value} {l l2:List α} (ho:OwnF B e w v l) {o:Nat} (h1:o<l.length) {C:Cells} (hs:Sl C vy l2) (hle:C.Le w.cell?) (h2:0<l2.length) :
    ∃ w',(Builtin.copy_ #[t,t] ty #[sufV (Elt.sz α) v o,vy]).run P w = .ok (I (min l2.length (l.length-o):Nat)) w'/\OwnF B e w' v (l.take o++l2.take (l.length-o)++l.drop (o+min l2.length (l.length-o)))/\Grow B v w w':=by
  obtain ⟨a,c,hvy,hc2,hm2,hh⟩:=hs.ex;obtain ⟨b,o2,cs0,ha,_,_⟩:=hh 0 l2[0] (by simp);subst ha;have ho':=ho;unfold OwnF World.ownsRow at ho;rcases ho.2 with ⟨_,hn⟩ | ⟨g,cap,cur,hv,hb,hg,hc,hm,hcs,htake⟩
  · omega
  · have hsz:(P.info? e).map (·.size)=some (Elt.sz α):=T.size;have hd:sufV (Elt.sz α) v o = .slice (some ⟨g,o*Elt.sz α,none⟩) (l.length-o) (cap-o):=by
      rw [hv];simp only [sufV];rw [if_neg (by omega)];simp [add_lit]
    have hlen2:((l2.take (l.length-o)).flatMap Flat.enc:List Value).length=Nat.min l2.length (l.length-o)*Elt.sz α:=by
      rw [flat_len,List.length_take,Nat.min_comm]
    have hcur:cur.toList.length=cap*Elt.sz α:=by rw [Array.length_toList,hcs]
    have hmin:Nat.min l2.length (l.length-o)<=l.length-o:=Nat.min_le_right _ _;have hAB:o*Elt.sz α+Nat.min l2.length (l.length-o)*Elt.sz α<=l.length*Elt.sz α:=by rw [← Nat.add_mul]; exact Nat.mul_le_mul_right _ (by omega)
    have hNc:l.length*Elt.sz α<=cap*Elt.sz α:=Nat.mul_le_mul_right _ hc;have hr:=run_copy_rowS (P:=P) w t t ty e g (o*Elt.sz α) (l.length-o) (cap-o) ⟨b,o2,none⟩ l2.length c cur e ((l2.take (l.length-o)).flatMap Flat.enc) (Elt.sz α) T.und hsz hg hlen2 (by
        intro j u hj;obtain ⟨k,x,j',hk,hj',rfl⟩:=flat_inv _ _ _ hj;rw [List.getElem?_take] at hk;split at hk
        · obtain ⟨b',o',cs,hab,hrep,hy⟩:=hh k x hk;simp only [Option.some.injEq,Addr.mk.injEq,and_true] at hab;obtain ⟨rfl,rfl⟩:=hab;have hcs:=Flat.rep_iff.1 hrep;subst hcs;rw [add_lit,← Nat.add_assoc];exact hle _ _ (hy j' u hj')
        · cases hk) (by rw [hlen2,← Array.length_toList,hcur]; omega) (flat_one _)
    rw [← hvy,← hd] at hr;refine ⟨_,hr,?_,?_⟩
    · have hlen:(l.take o++l2.take (l.length-o)++l.drop (o+min l2.length (l.length-o))).length=l.length:=by simp; omega
      unfold OwnF World.ownsRow;rw [hlen];have e1:cur.toList.take (o*Elt.sz α)=(l.take o).flatMap Flat.enc:=by
        rw [← fm_take,← htake,List.take_take,Nat.min_eq_left (by omega)]
      have e2:(cur.toList.drop (o*Elt.sz α+Nat.min l2.length (l.length-o)*Elt.sz α)).take (l.length*Elt.sz α-(o*Elt.sz α+Nat.min l2.length (l.length-o)*Elt.sz α))=(l.drop (o+min l2.length (l.length-o))).flatMap Flat.enc:=by
        rw [← List.drop_take,htake,← Nat.add_mul,fm_drop]
      refine ⟨by rw [flat_len,hlen],.inr ⟨g,cap,_,hv,hb,setRow_heap w g cur _ e (0,0) hg,hc,hm,?_,?_⟩⟩
      · simp only [List.size_toArray,List.length_append,List.length_take,List.length_drop,hlen2,hcur];omega
      · rw [List.flatMap_append,List.flatMap_append,← e1,← e2,hlen2];show List.take (l.length*Elt.sz α) (_++_++_)=_;rw [List.append_assoc,List.take_append,List.take_append,List.length_take,hcur,hlen2];rw [Nat.min_eq_left (show o*Elt.sz α<=cap*Elt.sz α by omega)];rw [List.take_take,Nat.min_eq_right (show o*Elt.sz α<=l.length*Elt.sz α by omega)];rw [List.take_of_length_le (l:=(l2.take (l.length-o)).flatMap Flat.enc) (by rw [hlen2]; omega)];rw [Nat.sub_sub,List.append_assoc]
    · refine ⟨rfl,rfl,by simp,fun k _ hk=>?_,fun g' hg'=>(ho'.lt g' hg').1,frozen_setRow _ _ _⟩;apply setRow_other;intro e';apply hk;rw [hv,e'];rfl
variable {all rest:List Oper} {Q:Post} {σ:Env} {d:Nat} {ty:TypeId} {pos:String} {af:Array Edge} {g:Option (Nat × Bool)}
theorem s_copyF {t e by':Nat} {z:Value} {x y:Operand} (T:SlT P t e (Elt.sz α) by' z) {B:Nat} {v vy:Value} {l l2:List α} {o:Nat} {C:Cells} (hx:ev σ x=sufV (Elt.sz α) v o) (hy:ev σ y=vy)
    (ho:OwnF B e w v l) (h1:o<l.length) (hs:Sl C vy l2) (hle:C.Le w.cell?) (h2:0<l2.length)
    (k:∀ w',OwnF B e w' v (l.take o++l2.take (l.length-o)++l.drop (o+min l2.length (l.length-o)))->Grow B v w w'->SL P all Q rest (upd σ d (I (min l2.length (l.length-o):Nat))) w') :
    SL P all Q (⟨some d,.call ⟨.builtin .copy,#[x,y],#[t,t]⟩,ty,pos,af,none⟩ :: rest) σ w:=by
  obtain ⟨w',hr,ho',hg⟩:=run_copyF (ty:=ty) T ho h1 hs hle h2;refine s_any (v:=I (min l2.length (l.length-o):Nat)) (w':=w') ?_ (k w' ho' hg);simp [execOp,resolve,invoke,builtin,hx,hy,hr]
end
end Go.Nm
namespace Go.Nm
open Go
theorem repS_step {l:List Span} {x:Span} {k z:Nat} (h:∀ y∈l.take k,y=x) (hk:k<=l.length) :
    ∀ y∈(l.take (Int.toNat k)++(l.take k).take (l.length-Int.toNat k)++l.drop z).take (k+min (l.take k).length (l.length-Int.toNat k)),y=x:=by
  intro y hy;rw [List.take_append_of_le_length (by simp; omega)] at hy;have hy:=List.mem_of_mem_take hy;rw [show Int.toNat (k:Int)=k from by omega] at hy;rcases List.mem_append.1 hy with h1 | h1
  · exact h y h1
  · exact h y (List.mem_of_mem_take h1)
theorem repS_done {l:List Span} {x:Span} {n k:Nat} (hl:l.length=n) (h:∀ y∈l.take k,y=x) (hk:n<=k):l=List.replicate n x:=by
  rw [List.take_of_length_le (by omega)] at h;exact List.eq_replicate_iff.2 ⟨hl,h⟩
theorem repS_init {n:Nat} (x:Span) (h:1<=n):(List.replicate n (⟨0,0⟩:Span)).take 0++[x].take ((List.replicate n (⟨0,0⟩:Span)).length-0)++(List.replicate n (⟨0,0⟩:Span)).drop (0+min [x].length ((List.replicate n (⟨0,0⟩:Span)).length-0))=[x]++List.replicate (n-1) (⟨0,0⟩:Span):=by
  obtain ⟨m,rfl⟩:∃ m,n=m+1:=⟨n-1,by omega⟩
  simp [show min 1 (m+1)=1 from by omega]
end Go.Nm
namespace Go.Proofs.YtbgoclcmgbpckabGreat
open Go Go.Nm
theorem cf213:CF Tryz.prog 213:=⟨_,Tryz.func213,rfl,by decide +kernel⟩
theorem cf155:CF Tryz.prog 155:=⟨_,Tryz.func155,rfl,by decide +kernel⟩
set_option maxRecDepth 100000 in
theorem repeat_span {vx:Value} {x:Span} {n:Int} (w:World) (hx:Sl w.cell? vx [x]) (h1:1<=n) (h2:n<=1000):Ret Tryz.prog 155 #[vx,I n] w fun v w'=>OwnF w.heap.size 27 w' v (List.replicate (Int.toNat n) x)/\Ext w w':=by
 refine ret_of_W Tryz.func155 rfl rfl rfl ?_;have E:=Ext.refl w;have K1:=KF.refl 0 w;have hl_hx:=hx.len_le;have hx:=hx.par;refine W.seq ?_;refine W.region rfl ?_;refine s_val (x_as (v:=.slice none 0 0) rfl) ?_;refine s_nil ?_;refine W.seq ?_;refine W.seq ?_;refine W.region rfl ?_;refine s_val (x_mv (v:=I n) rfl) ?_;refine s_val (x_cmp (kd:=.i64) (a:=n) (b:=0) (r:=decide ((n:Int)<0)) rfl rfl rfl) ?_;refine s_nil ?_;refine W.cond (decide ((n:Int)<0)) rfl (fun c2=>?_) (fun c2=>?_)
 ·simp only [decide_eq_true_eq,decide_eq_false_iff_not,beq_iff_eq,bne_iff_ne,beq_eq_false_iff_ne,bne_eq_false_iff_eq,ne_eq,Decidable.not_not] at c2;exfalso; omega
 ·simp only [decide_eq_true_eq,decide_eq_false_iff_not,beq_iff_eq,bne_iff_ne,beq_eq_false_iff_ne,bne_eq_false_iff_eq,ne_eq,Decidable.not_not] at c2;refine W.skip ?_;refine W.seq ?_;refine W.region rfl ?_;refine s_val (x_mv (v:=vx) rfl) ?_;refine s_val (x_lenS T23.h.und rfl (hx.to K1)) ?_;refine s_val (x_convU (kd:=.i64) (a:=([x]).length) Tryz.underlying3 Tryz.underlying175 rfl (by omega)) ?_;refine s_val (x_mv (v:=I n) rfl) ?_;refine s_val (x_convU (kd:=.i64) (a:=n) Tryz.underlying3 Tryz.underlying175 rfl (by omega)) ?_;refine s_call cf213 [.int .u64 (([x]).length),.int .u64 n] rfl (mul_any (by omega) (by omega) _) ?_;rintro _ w3 ⟨rfl,x4⟩;replace E:=E.trans x4;replace K1:=K1.ext x4;clear x4;refine s_val (x_mv (v:=.tuple #[.int .u64 0,.int .u64 n]) rfl) ?_;refine s_val (x_ext (vs:=[.int .u64 0,.int .u64 n]) (v:=.int .u64 0) rfl rfl) ?_;refine s_val (x_ext (vs:=[.int .u64 0,.int .u64 n]) (v:=.int .u64 n) rfl rfl) ?_;refine s_val (x_as (v:=.int .u64 0) rfl) ?_;refine s_val (x_as (v:=.int .u64 n) rfl) ?_;refine s_nil ?_;refine W.seq ?_;refine W.seq ?_;refine W.region rfl ?_;refine s_val (x_mv (v:=.int .u64 0) rfl) ?_;refine s_val (x_cmp (kd:=.u64) (a:=0) (b:=0) (r:=decide ((0:Int)<0)) rfl rfl rfl) ?_;refine s_val (x_mv (v:=B (decide ((0:Int)<0))) rfl) ?_;refine g_val (!(decide ((0:Int)<0))) (gy_f rfl) (fun hg=>x_mv (v:=.int .u64 n) rfl) ?_;refine g_val (!(decide ((0:Int)<0))) (gy_f rfl) (fun hg=>x_cmp (kd:=.u64) (a:=n) (b:=9223372036854775807) (r:=decide ((9223372036854775807:Int)<n)) (gd_of (c:=!(decide ((0:Int)<0))) hg (.int .u64 n)) rfl rfl) ?_;refine s_val (x_por (b:=decide ((0:Int)<0)) (r:=decide ((9223372036854775807:Int)<n)) rfl rfl (fun hb=>gd_of (c:=!(decide ((0:Int)<0))) (by simp_all) (B (decide ((9223372036854775807:Int)<n))))) ?_;refine s_nil ?_;refine W.cond (((decide ((0:Int)<0))||(decide ((9223372036854775807:Int)<n)))) rfl (fun c5=>?_) (fun c5=>?_)
  ·skip
   exfalso; simp at c5; omega
  ·skip
   refine W.skip ?_;refine W.seq ?_;refine W.region rfl ?_;refine s_val (x_mv (v:=.int .u64 n) rfl) ?_;refine s_val (x_conv64 (kd:=.u64) (a:=n) Tryz.underlying175 Tryz.underlying3 rfl (by omega)) ?_;refine s_mk (α:=Span) T23.h ⟨0,0⟩ rfl (n:=n) rfl rfl (by omega) (by omega) (by omega) ?_;intro v6 w7 ho8 x9;have z10:=Nat.le_refl w3.heap.size;have B_v6:=E.size;have B_v6_K1:=K1.size;replace E:=E.trans x9;replace z10:=Nat.le_trans z10 x9.size;replace K1:=K1.ext x9;refine s_val (x_as (v:=v6) rfl) ?_;refine s_nil ?_;refine W.seq ?_;refine W.region rfl ?_;refine s_val (x_mv (v:=v6) rfl) ?_;refine s_val (x_mv (v:=vx) rfl) ?_;refine s_copyF (v:=v6) (l:=List.replicate (Int.toNat n) (⟨0,0⟩:Span)) (l2:=[x]) (o:=0) (vy:=vx) T23.h ((sufV_zero ho8 2).symm) rfl ho8 (by first | omega | (simp; done) | (simp; omega)) (hx.to K1) (Cells.Le.refl _) (by first | omega | (simp; done) | (simp; omega)) ?_;intro w11 ho13 g12;replace E:=E.grow g12 (by omega);replace z10:=Nat.le_trans z10 g12.size;replace K1:=K1.grow g12 (by omega);replace ho8:=ho13;clear g12;refine s_val (x_as (v:=I ((min ([x]).length ((List.replicate (Int.toNat n) (⟨0,0⟩:Span)).length-0):Nat))) rfl) ?_;refine s_nil ?_;refine W.seq ?_;refine W.block ?_;refine W.loop (fun m σ W=>∃ (k:Nat) (l:List Span) (vo:Value) (ρ:Env),σ=upds ρ [(7,vo),(8,I k)]/\m=Int.toNat n-k/\Ext w W/\w3.heap.size<=W.heap.size/\OwnF w3.heap.size 27 W vo l/\l.length=Int.toNat n/\1<=k/\k<=Int.toNat n/\(∀ y∈l.take k,y=x)) ?_ ?_
   ·exact ⟨_,1,([x]++List.replicate (Int.toNat n-1) (⟨0,0⟩:Span)),v6,_,upds_of _ _ ⟨rfl,(eqI (by simp; omega)),trivial⟩,rfl,E,z10,(by have hq:=ho8; rw [repS_init (n:=Int.toNat n) x (by omega)] at hq; exact hq),(by simp; omega),(Nat.le_refl _),(by omega),(by simp)⟩
   ·rintro m σ w14 ⟨k,l,vo,ρ,rfl,rfl,E,z10,ho_vo,iv0_0,iv0_1,iv0_2,iv0_3⟩;refine W.seq ?_;refine W.seq ?_;refine W.region rfl ?_;refine s_val (x_mv (v:=I k) rfl) ?_;refine s_val (x_mv (v:=vo) rfl) ?_;refine s_val (x_lenS T23.h.und rfl (ho_vo.sl.mono (frm_le _ _))) ?_;refine s_val (x_cmp (kd:=.i64) (a:=k) (b:=l.length) (r:=decide ((k:Int)<l.length)) rfl rfl rfl) ?_;refine s_nil ?_;refine W.cond (decide ((k:Int)<l.length)) rfl (fun c15=>?_) (fun c15=>?_)
    ·simp only [decide_eq_true_eq,decide_eq_false_iff_not,beq_iff_eq,bne_iff_ne,beq_eq_false_iff_ne,bne_eq_false_iff_eq,ne_eq,Decidable.not_not] at c15;refine W.skip ?_;refine W.block ?_;refine W.draw (fun W=>Ext w W) [(0,true),(1,true),(2,true),(3,true),(4,true),(5,true),(6,true),(7,false),(8,true),(9,true)] mixed (by decide +kernel) rfl ?_;intro w16 x17;replace E:=E.trans x17;replace z10:=Nat.le_trans z10 x17.size;replace ho_vo:=ho_vo.ext x17;clear x17;refine ⟨E,?_⟩;refine d_q rfl (fun w' hC=>by have E:=hC; exact x_mv (v:=I k) rfl) ?_;refine d_q rfl (fun w' hC=>by have E:=hC; exact x_mv (v:=vo) rfl) ?_;refine d_q rfl (fun w' hC=>by have E:=hC; exact x_mv (v:=I k) rfl) ?_;refine d_q rfl (fun w' hC=>by have E:=hC; exact x_sl (v:=vo) (u:=sufV 2 vo (Int.toNat k)) (lo':=some (I k)) (hi':=none) (mx':=none) rfl rfl rfl rfl (OwnF.suf (i:=k) T23.h.und T23.h.size ho_vo (by omega) (by omega) _)) ?_;refine d_q rfl (fun w' hC=>by have E:=hC; exact x_mv (v:=vo) rfl) ?_;refine d_q rfl (fun w' hC=>by have E:=hC; exact x_mv (v:=I k) rfl) ?_;obtain ⟨u18,hr_u18,hs19⟩:=sl_hi T23.h.und T23.h.size ho_vo.sl (j:=k) (by omega) (by omega);replace hs19:=hs19.mono (frm_le _ _);replace hs19:Sl _ u18 (l.take k):=hs19;refine d_q rfl (fun w' hC=>by have E:=hC; exact x_sl (v:=vo) (u:=u18) (lo':=none) (hi':=some (I k)) (mx':=none) rfl rfl rfl rfl (hr_u18 _)) ?_;refine d_l rfl ?_;refine s_copyF (v:=vo) (l:=l) (l2:=l.take k) (o:=(Int.toNat k)) (vy:=u18) T23.h rfl rfl ho_vo (by first | omega | (simp; done) | (simp; omega)) hs19 (Cells.Le.refl _) (by first | omega | (simp; done) | (simp; omega)) ?_;intro w20 ho22 g21;replace E:=E.grow g21 (by omega);replace z10:=Nat.le_trans z10 g21.size;replace ho_vo:=ho22;clear g21;refine s_nil ⟨E,?_⟩;refine d_q rfl (fun w' hC=>by have E:=hC; exact x_ari (a:=k) (b:=(min (l.take k).length ((l).length-(Int.toNat k)):Nat)) (r:=k+((min (l.take k).length ((l).length-(Int.toNat k)):Nat))) rfl rfl rfl (by omega)) ?_;refine d_q rfl (fun w' hC=>by have E:=hC; exact x_as (v:=I (k+((min (l.take k).length ((l).length-(Int.toNat k)):Nat)))) rfl) ?_;refine d_nil ?_;have hmk:(l.take k).length=k:=by simp; omega
     exact ⟨_,(by omega),(k+min (l.take k).length (l.length-Int.toNat k)),_,vo,_,upds_of _ _ ⟨rfl,(eqI (by omega)),trivial⟩,rfl,E,z10,(by first | exact ho_vo | simpa using ho_vo),(by simp only [List.length_append,List.length_take,List.length_drop]; omega),(by omega),(by omega),(repS_step iv0_3 (by omega))⟩
    ·simp only [decide_eq_true_eq,decide_eq_false_iff_not,beq_iff_eq,bne_iff_ne,beq_eq_false_iff_ne,bne_eq_false_iff_eq,ne_eq,Decidable.not_not] at c15;refine W.exit ?_;refine W.seq ?_;refine W.region rfl ?_;refine s_val (x_mv (v:=vo) rfl) ?_;refine s_val (x_as (v:=vo) rfl) ?_;refine s_nil ?_;refine W.ret ?_;exact ⟨_,resE_tmp rfl,((repS_done iv0_0 iv0_3 (by omega)) ▸ ho_vo.dn (by omega)),E⟩

end Go.Proofs.YtbgoclcmgbpckabGreat
namespace Go.Nm
open Go
/-- The times that a note tells. -/
def CNt.time (n:CNt):Span:=⟨n.tlo,n.thi⟩
/-- The times of all marks, by notes. -/
def notedE (k:Nat) (m:List (Int × CNt)):List Span:=(List.range k).map fun i:Nat=>match lookM m (i:Int) with
  | some n=>n.time
  | none=>⟨-100000000,100000000⟩
theorem lookM_at {κ ν:Type} [DecidableEq κ]:∀ {m:List (κ × ν)} {q:Nat} {k:κ} {v:ν},(m.map Prod.fst).Nodup->m[q]?=some (k,v)->lookM m k=some v
  | [],q,k,v,_,h=>by simp at h
  | p :: m,q,k,v,hn,h=>by
    rw [List.map_cons,List.nodup_cons] at hn;unfold lookM;cases q with
    | zero =>
      simp only [List.getElem?_cons_zero,Option.some.injEq] at h;rw [if_pos (by rw [h]),h]
    | succ q =>
      simp only [List.getElem?_cons_succ] at h;rw [if_neg (fun e=>hn.1 (by rw [e]; exact List.mem_map.2 ⟨_,List.mem_of_getElem? h,rfl⟩))];exact lookM_at hn.2 h
theorem lookM_of {κ ν:Type} [DecidableEq κ]:∀ {m:List (κ × ν)} {k:κ} {v:ν},lookM m k=some v->∃ q:Nat,m[q]?=some (k,v)
  | [],k,v,h=>by simp [lookM] at h
  | p :: m,k,v,h=>by
    unfold lookM at h;split at h
    · rename_i e
      injection h with h
      exact ⟨0,by rw [← e,← h]; rfl⟩
    · obtain ⟨q,hq⟩:=lookM_of h;exact ⟨q+1,by simpa using hq⟩
/-- What has been told so far. -/
structure NtI (k:Nat) (m:List (Int × CNt)) (left:List Bool) (l:List Span):Prop where
  len:l.length=k
  lf:left.length=m.length
  told:∀ (q:Nat) key v,m[q]?=some (key,v)->left.getD q false=false->l.getD (Int.toNat key) default=v.time
  rest:∀ i,i<k->(∀ (q:Nat) v,m[q]?=some ((i:Int),v)->left.getD q false=true)->l.getD i default=⟨-100000000,100000000⟩
theorem NtI.zero (k:Nat) (m:List (Int × CNt)):NtI k m (List.replicate m.length true) (List.replicate k ⟨-100000000,100000000⟩):=by
  refine ⟨by simp,by simp,fun q key v hq hf=>?_,fun i hi _=>?_⟩
  · have hl:q<m.length:=(List.getElem?_eq_some_iff.1 hq).1;rw [List.getD_eq_getElem?_getD,List.getElem?_replicate,if_pos hl] at hf;simp at hf
  · rw [List.getD_eq_getElem?_getD,List.getElem?_replicate,if_pos hi];rfl
theorem NtI.step {k:Nat} {m:List (Int × CNt)} {left:List Bool} {l:List Span} (h:NtI k m left l) (hn:(m.map Prod.fst).Nodup) {j:Nat} {key:Int} {v:CNt} (hj:m[j]?=some (key,v)) (hr:∀ (q:Nat) key v,m[q]?=some (key,v)->0<=key/\key<(k:Int)) :
    NtI k m (left.set j false) (l.set (Int.toNat key) v.time):=by
  have hlen:=h.len;have hlf:=h.lf;have hjl:j<m.length:=(List.getElem?_eq_some_iff.1 hj).1;have rj:=hr _ _ _ hj;refine ⟨by simp [hlen],by simp [hlf],fun q key' v' hq hf=>?_,fun i hi hall=>?_⟩
  · by_cases e:j=q
    · subst e;rw [hj] at hq;injection hq with hq
      injection hq with e1 e2
      subst e1 e2;rw [List.getD_eq_getElem?_getD,List.getElem?_set_self (by omega)];rfl
    · rw [List.getD_eq_getElem?_getD,List.getElem?_set_ne e,← List.getD_eq_getElem?_getD] at hf;have hk:key ≠ key':=fun e2=>by
        subst e2;have a1:=idxM_at hn hj;have a2:=idxM_at hn hq;rw [a1] at a2;injection a2 with a2
        exact e a2
      have:=h.told q key' v' hq hf;have r1:=hr _ _ _ hj;have r2:=hr _ _ _ hq;have e3:Int.toNat key ≠ Int.toNat key':=fun e3=>hk (by omega);rw [List.getD_eq_getElem?_getD,List.getElem?_set_ne e3,← List.getD_eq_getElem?_getD];exact this
  · have r1:=hr _ _ _ hj;have hne:Int.toNat key ≠ i:=fun e=>by
      have:=hall j v (by rw [hj,show ((i:Nat):Int)=key by omega]);rw [List.getD_eq_getElem?_getD,List.getElem?_set_self (by omega)] at this;simp at this
    rw [List.getD_eq_getElem?_getD,List.getElem?_set_ne hne,← List.getD_eq_getElem?_getD];refine h.rest i hi fun q v' hq=>?_;have:=hall q v' hq;by_cases e:j=q
    · subst e;rw [List.getD_eq_getElem?_getD,List.getElem?_set_self (by omega)] at this;simp at this
    · rw [List.getD_eq_getElem?_getD,List.getElem?_set_ne e,← List.getD_eq_getElem?_getD] at this;exact this
theorem NtI.done {k:Nat} {m:List (Int × CNt)} {left:List Bool} {l:List Span} (h:NtI k m left l) (hn:(m.map Prod.fst).Nodup) (h0:∀ j,left.getD j false=false):l=notedE k m:=by
  apply List.ext_getElem?;intro i;by_cases hi:i<k
  · have hl:l[i]?=some (l.getD i default):=by rw [List.getD_eq_getElem?_getD,List.getElem?_eq_getElem (by rw [h.len]; exact hi)]; rfl
    rw [hl];unfold notedE;rw [List.getElem?_map,List.getElem?_range hi];simp only [Option.map_some]
    congr 1
    cases hm:lookM m (i:Int) with
    | none =>
      refine h.rest i hi fun q v hq=>?_;rw [lookM_at hn hq] at hm;cases hm
    | some v =>
      obtain ⟨q,hq⟩:=lookM_of hm;have:=h.told q i v hq (h0 q)
      simpa using this
  · rw [List.getElem?_eq_none (by rw [h.len]; omega),List.getElem?_eq_none (by unfold notedE; simp; omega)]
end Go.Nm
namespace Go.Nm
theorem cnt_set:∀ (l:List Bool) (j:Nat),l.getD j false=true->(l.set j false).countP id<l.countP id
  | [],j,h=>by simp at h
  | b :: l,0,h=>by
    have h:b=true:=by simpa using h
    subst h;simp
  | b :: l,j+1,h=>by
    have:=cnt_set l j (by simpa using h);simp only [List.set_cons_succ,List.countP_cons];omega
end Go.Nm
namespace Go.Proofs.YtbgoclcmgbpckabGreat
open Go Go.Nm
def zcL (w__Chart_Pace_Lo:Int) (w__Chart_Pace_Hi:Int) (w__Chart_Base:Int) (w__Chart_Scale:Int) (w__Chart_Off:Int) (w__Chart_Marks:List CMk) (w__Chart_Notes:List CNt) (w__notes:List (Int × CNt)):M (List Span) :=
  M.grd (decide (1<=(w__Chart_Marks.length:Int))&&decide ((w__Chart_Marks.length:Int)<=1000)) <|
  M.grd (w__notes.all fun p=>decide (0<=p.1)&&decide (p.1<(w__Chart_Marks.length:Int))) <|
  M.pure (notedE w__Chart_Marks.length w__notes)
set_option maxRecDepth 100000 in
theorem zgb {R b_w_ C_w__Chart_Marks v_w__Chart_Marks C_w__Chart_Notes v_w__Chart_Notes b_w__notes}(w__Chart_Pace_Lo w__Chart_Pace_Hi w__Chart_Base w__Chart_Scale w__Chart_Off w__Chart_Marks w__Chart_Notes w__notes)(hC_w__Chart_Marks:Reads R C_w__Chart_Marks)(hs_w__Chart_Marks:Sl C_w__Chart_Marks v_w__Chart_Marks w__Chart_Marks)(hC_w__Chart_Notes:Reads R C_w__Chart_Notes)(hs_w__Chart_Notes:Sl C_w__Chart_Notes v_w__Chart_Notes w__Chart_Notes)(h_b_w__notes:Has R (cMl I encCN b_w__notes w__notes))(h_b_w_:Fld R b_w_ [I w__Chart_Pace_Lo,I w__Chart_Pace_Hi,I w__Chart_Base,I w__Chart_Scale,I w__Chart_Off,v_w__Chart_Marks,v_w__Chart_Notes,.map (some b_w__notes)]){r}(hM:(zcL w__Chart_Pace_Lo w__Chart_Pace_Hi w__Chart_Base w__Chart_Scale w__Chart_Off w__Chart_Marks w__Chart_Notes w__notes).Ends r)(w)(H:St w w [] R):Ret Tryz.prog 100 #[.pointer (some ⟨b_w_,0,none⟩)] w fun v w'=>∃ y0 u0,y0=r/\v=u0/\St w w' [cOwn (α:=Span) 27 u0 y0] R:=by
 obtain ⟨sd1,hM⟩:=M.e_grd hM;obtain ⟨sd2,hM⟩:=M.e_grd hM;have hr_:=M.e_pure hM;simp only [Bool.and_eq_true,decide_eq_true_eq] at sd1;have hkr:∀ (q:Nat) key v,w__notes[q]?=some (key,v)->0<=key/\key<(w__Chart_Marks.length:Int):=fun q key v hq=>by
  have:=List.all_eq_true.1 sd2 _ (List.mem_of_getElem? hq)
  simpa using this
 obtain ⟨es,n,hmp,hnd,hE⟩:=h_b_w__notes.map H.sep;replace H:=H.pin;have hf:=h_b_w_.pin (w:=w);refine Ret.mono (R:=fun v w'=>∃ (y0:List Span) (u0:Value),y0=r/\v=u0/\St w w' [cOwn (α:=Span) 27 u0 y0] (R.map (pin w))) ?_ (fun v w' ⟨y,u,h1,h2,h3⟩=>⟨y,u,h1,h2,h3.unpin⟩);refine ret_of_W Tryz.func100 rfl rfl rfl ?_;refine W.seq ?_;refine W.region rfl ?_;refine s_val (x_as (v:=.slice none 0 0) rfl) ?_;refine s_nil ?_;refine W.seq ?_;refine W.region rfl ?_;refine s_val (x_bld (ps:=[(0,I (-100000000)),(1,I 100000000)]) (zs:=[I 0,I 0]) (L':=[I (-100000000),I 100000000]) rfl Tryz.underlying27 Al27.h rfl (Bd27 Tryz.underlying27) (.cons (cs:=[I (-100000000)]) rfl rfl rfl rfl rfl<|.cons (cs:=[I 100000000]) rfl rfl rfl rfl rfl<|.nil)) ?_;refine t_bs (α:=Span) T23.h [.agg #[I (-100000000),I 100000000]] [(⟨-100000000,100000000⟩:Span)] H rfl (.cons rfl (Flat.rep_enc _ (⟨-100000000,100000000⟩:Span))<|.nil) rfl rfl rfl ?_;intro v1 w1 H;refine s_val (x_mv (v:=.pointer (some ⟨b_w_,0,none⟩)) rfl) ?_;refine s_val (x_nc (a:=⟨b_w_,0,none⟩) rfl) ?_;refine s_val (x_fa (a:=.pointer (some ⟨b_w_,0,none⟩)) (v:=.pointer (some ⟨b_w_,0,none⟩)) rfl (fa_blk (o:=0) Fd227_0.h Sz31.h)) ?_;refine s_val (x_fa (a:=.pointer (some ⟨b_w_,0,none⟩)) (v:=.pointer (some ⟨b_w_,5,none⟩)) rfl (fa_blk (o:=0) Fd31_4.h Sz28.h)) ?_;refine s_val (x_ld (p:=.pointer (some ⟨b_w_,5,none⟩)) (v:=v_w__Chart_Marks) rfl (fld_sc (pre:=[I w__Chart_Pace_Lo,I w__Chart_Pace_Hi,I w__Chart_Base,I w__Chart_Scale,I w__Chart_Off,v_w__Chart_Marks,v_w__Chart_Notes,.map (some b_w__notes)]) (i:=5) Sc28.h (hf.at H) rfl)) ?_;refine s_val (x_lenS T28.h.und rfl hs_w__Chart_Marks) ?_;refine s_call cf155 [v1,I (w__Chart_Marks.length:Int)] rfl (repeat_span _ ((ownSl (H.get (k:=0) rfl)).mono (ownLe _ (H.get (k:=0) rfl))) (by omega) (by omega)) ?_;rintro v2 w2 ⟨ho_,hx_⟩;replace H:St w w2 [cOwn (α:=Span) 27 v2 (List.replicate (Int.toNat (w__Chart_Marks.length:Int)) (⟨-100000000,100000000⟩:Span)),cOwn (α:=Span) 27 v1 [(⟨-100000000,100000000⟩:Span)]] (R.map (pin w)):=H.ownOf hx_ ho_;rw [Int.toNat_natCast] at H;clear ho_ hx_;refine s_val (x_as (v:=v2) rfl) ?_;refine s_nil ?_;refine W.seq ?_;refine W.seq ?_;refine W.region rfl ?_;refine s_val (x_mv (v:=.pointer (some ⟨b_w_,0,none⟩)) rfl) ?_;refine s_val (x_nc (a:=⟨b_w_,0,none⟩) rfl) ?_;refine s_val (x_fa (a:=.pointer (some ⟨b_w_,0,none⟩)) (v:=.pointer (some ⟨b_w_,7,none⟩)) rfl (fa_blk (o:=0) Fd227_1.h Sz224.h)) ?_;refine s_val (x_ld (p:=.pointer (some ⟨b_w_,7,none⟩)) (v:=.map (some b_w__notes)) rfl (fld_sc (pre:=[I w__Chart_Pace_Lo,I w__Chart_Pace_Hi,I w__Chart_Base,I w__Chart_Scale,I w__Chart_Off,v_w__Chart_Marks,v_w__Chart_Notes,.map (some b_w__notes)]) (i:=7) Sc224.h (hf.at H) rfl)) ?_;refine t_rangeR (kt:=3) (et:=75) Tryz.underlying224 H (hE.at H) hmp rfl ?_;intro rq w3 H;refine s_nil ?_;refine W.block ?_;refine W.loop (fun m σ W=>∃ (left:List Bool) (last:Option Nat) (l:List Span) (ρ:Env),σ=upds ρ [(3,v2),(19,.pointer (some ⟨rq,0,none⟩))]/\m=left.countP id/\NtI w__Chart_Marks.length w__notes left l/\St w W [cIr b_w__notes rq es n left last,cOwn (α:=Span) 27 v2 l,cOwn (α:=Span) 27 v1 [(⟨-100000000,100000000⟩:Span)]] (R.map (pin w))) ?_ ?_
 ·exact ⟨_,_,_,_,_,upds_of _ _ ⟨rfl,rfl,trivial⟩,rfl,NtI.zero _ _,H⟩
 ·rintro m σ w4 ⟨left,last,l,ρ,rfl,rfl,hI,H⟩;refine W.seq ?_;refine W.region rfl ?_;refine t_nextR (i:=0) H (hE.at H) hmp rfl rfl ?_ ?_
  ·intro hall;refine s_val (x_ext (vs:=[.bool false]) (v:=B false) rfl rfl) ?_;refine s_nil ?_;refine W.seq ?_;refine W.cond false rfl (fun c=>absurd c (by decide)) (fun _=>?_);refine W.exit ?_;refine W.seq ?_;refine W.region rfl ?_;refine s_val (x_mv (v:=v2) rfl) ?_;refine s_val (x_as (v:=v2) rfl) ?_;refine s_nil ?_;refine W.ret ?_;exact ⟨_,resE_tmp rfl,⟨l,v2,(hI.done hnd hall).trans hr_,rfl,(H.pick [1] (by decide) rfl)⟩⟩
  ·intro j key v w5 hlj hmj H;have hkk:=hkr _ _ _ hmj;have hll:=hI.len;refine s_val (x_ext (vs:=[.bool true,I key,encCN v]) (v:=B true) rfl rfl) ?_;refine s_nil ?_;refine W.seq ?_;refine W.cond true rfl (fun _=>?_) (fun c=>absurd c (by decide));refine W.skip ?_;refine W.block ?_;refine W.seq ?_;refine W.region rfl ?_;refine s_val (x_entryR (H.get (k:=0) rfl) (hE.at H) hmp hmj rfl) ?_;refine s_val (x_ext (vs:=[I key,encCN v]) (v:=I key) rfl rfl) ?_;refine s_val (x_ext (vs:=[I key,encCN v]) (v:=encCN v) rfl rfl) ?_;refine t_alloc (cs:=[I 0,I 0,I 0,I 0,I 0]) H Al75.h rfl ?_;intro b5 w6 H;refine s_val (x_as (v:=I key) rfl) ?_;refine t_st (k:=0) (b:=b5) (off:=0) (cs:=[I 0,I 0,I 0,I 0,I 0]) (vs:=[I v.mark,I v.tlo,I v.thi,I v.slo,I v.shi]) (cs':=[I v.mark,I v.tlo,I v.thi,I v.slo,I v.shi]) (v:=encCN v) (L':=[cBlk b5 [I v.mark,I v.tlo,I v.thi,I v.slo,I v.shi] 75,cIr b_w__notes rq es n (left.set j false) (some j),cOwn (α:=Span) 27 v2 l,cOwn (α:=Span) 27 v1 [(⟨-100000000,100000000⟩:Span)]]) H rfl rfl rfl Sz75.h rfl rfl rfl rfl rfl rfl ?_;intro w7 H;refine s_nil ?_;refine W.region rfl ?_;refine s_val (x_mv (v:=v2) rfl) ?_;refine s_val (x_mv (v:=I key) rfl) ?_;refine s_val (x_fa (a:=.pointer (some ⟨b5,0,none⟩)) (v:=.pointer (some ⟨b5,1,none⟩)) rfl (fa_blk (o:=0) Fd75_1.h Sz27.h)) ?_;refine s_val (x_ld (p:=.pointer (some ⟨b5,1,none⟩)) (v:=.agg #[I v.tlo,I v.thi]) rfl (ldb_ag (ds:=[I v.tlo,I v.thi]) Ag27.h Sz27.h (H.blk (k:=0) rfl) rfl rfl)) ?_;refine s_val (x_ix (a:=v2) (b:=I key) (v:=vat v2 2 (Int.toNat key)) rfl rfl (Sl.ix (α:=Span) T23.h.und T23.h.size (ownSl (H.get (k:=2) rfl)) (by omega) (by omega))) ?_;refine t_ost (k:=2) (i:=key) (l:=l) (l':=l.set (Int.toNat key) v.time) (val:=.agg #[I v.tlo,I v.thi]) (L':=[cBlk b5 [I v.mark,I v.tlo,I v.thi,I v.slo,I v.shi] 75,cIr b_w__notes rq es n (left.set j false) (some j),cOwn (α:=Span) 27 v2 (l.set (Int.toNat key) v.time),cOwn (α:=Span) 27 v1 [(⟨-100000000,100000000⟩:Span)]]) H rfl Sz27.h (by omega) (by omega) v.time rfl rfl rfl rfl rfl ?_;intro w8 H;refine s_nil ?_;exact ⟨_,cnt_set left j hlj,left.set j false,some j,l.set (Int.toNat key) v.time,_,upds_of _ _ ⟨rfl,rfl,trivial⟩,rfl,hI.step hnd hmj hkr,(H.pick [1,2,3] (by decide) rfl)⟩
end Go.Proofs.YtbgoclcmgbpckabGreat
section
set_option maxRecDepth 100000
set_option maxHeartbeats 16000000
namespace Go.Proofs.YtbgoclcmgbpckabGreat
open Go Go.Nm
attribute [local irreducible] gd execOp SL SLD SLT WR
def zaj (n aa greatest:Int):M Bool :=
  M.pure ((decide (aa<=n))&&(decide (n<=greatest)))
theorem zal {R}(n aa greatest){r}(hM:(zaj n aa greatest).Ends r)(w)(H:St w w [] R):Ret Tryz.prog 154 #[I n,I aa,I greatest] w fun v w'=>∃ y0,y0=r/\v=B y0/\St w w' [] R:=by
 refine ret_of_W Tryz.func154 rfl rfl rfl ?_;refine kg 16 ?_;exact rt

def zaT (s:Span) (aa greatest:Int):M Bool :=
  M.bind (zaj s.lo aa greatest) fun r2 =>
  M.bind (M.opt r2 (zaj s.hi s.lo greatest) false) fun r3 =>
  M.pure (r2&&r3)
theorem zds {R}(s aa greatest){r}(hM:(zaT s aa greatest).Ends r)(w)(H:St w w [] R):Ret Tryz.prog 207 #[.agg #[I s.lo,I s.hi],I aa,I greatest] w fun v w'=>∃ y0,y0=r/\v=B y0/\St w w' [] R:=by
 refine ret_of_W Tryz.func207 rfl rfl rfl ?_;refine kB 2 ?_;intro ah ai H;refine kC 8 @zal ?_;intro aj r2 hM H;refine kg 6 ?_;obtain ⟨r3,ab,hM⟩:=M.e_bind hM;refine t_gcall r2 (gy_t rfl) cq (B r3) (fun _=>[I s.hi,I s.lo,I greatest]) (fun hg=>lst3 (gd_of hg (I s.hi)) (gd_of hg (I s.lo)) (gd_of hg (I greatest))) H (fun hg=>(zal s.hi s.lo greatest (M.e_opt ab hg) _ (H.give (A:=[]) rfl)).mono fun v_ w_ ⟨y_,ac,ae,H_⟩=>by subst ac; exact ⟨ae,H.via H_⟩) ?_;intro ak H;refine kg 3 ?_;exact rt

def zaS (s:List CNt) (f:CNt->M Bool):Nat->M (Nat ⊕ (Int ⊕ Unit)):=fun s2 =>
  bif decide ((s2:Int)<(s.length:Int)) then (
  M.grd (decide ((s2:Int)<(s.length:Int))) <|
  M.bind (f (s.getD s2 default)) fun r2 =>
  bif r2 then (
  M.pure (.inr (.inl (s2:Int))))
  else (
  M.pure (.inl (s2+1))))
  else (
  M.pure (.inr (.inr ())))
def zcr (s:List CNt) (f:CNt->M Bool):M Int :=
  M.bind (M.iter (zaS s f) 0) fun x_=>match x_ with
  | (.inl s3)=>(
  M.pure s3)
  | (.inr (_:Unit))=>(
  M.pure (-1))
theorem zgH {R ac aa ab}(s f)(au:Reads R ac)(aj:Sl ac aa s)(ak:FnM Tryz.prog R ab f){r}(hM:(zcr s f).Ends r)(w)(H:St w w [] R):Ret Tryz.prog 242 #[aa,ab] w fun v w'=>∃ y0,y0=r/\v=I y0/\St w w' [] R:=by
 refine ret_of_W Tryz.func242 rfl rfl rfl ?_;have av:=(aj).len_le;refine kg 12 ?_;obtain ⟨al,ae,ah⟩:=M.e_bind hM;obtain ⟨aw,ae⟩:=M.e_iter ae;refine W.loop (fun m σ W=>∃ (s2:Nat) (ρ:Env),σ=upds ρ [(0,aa),(1,ab),(7,I (s.length:Int)),(8,I (s2:Int))]/\M.iterN (zaS s f) m s2=some al/\St w W [] R) ?_ ?_
 ·exact kY
 rintro ax σ ay ⟨s2,ρ,rfl,am,H⟩;obtain ⟨az,aA,aB,hM,ai⟩:=M.e_iterN am;refine kI 5 ?_ ?_
 ·intro ao hM;obtain ⟨aC,hM⟩:=M.e_gq hM;refine kg 15 ?_;obtain ⟨r2,ap,hM⟩:=M.e_bind hM;refine t_callM H ak rfl rfl (s.getD s2 default) Reads.none ⟨_,rfl,rfl⟩ ap ?_;intro aD H;refine kI 1 ?_ ?_
  ·intro aq hM;refine kg 5 ?_;obtain rfl:=M.e_inr hM ai;replace hM:=ah;exact rt
  intro aq hM;exact kX 5
 intro ao hM;refine W.exit ?_;obtain rfl:=M.e_inr hM ai;replace hM:=ah;refine kg 4 ?_;exact rt

def zaN (s:List CNt) (f:CNt->M Bool):M Bool :=
  M.bind (zcr s f) fun r2 =>
  M.pure (decide (0<=r2))
theorem zex {R aa ab ac}(s f)(ae:Reads R aa)(ah:Sl aa ab s)(ai:FnM Tryz.prog R ac f){r}(hM:(zaN s f).Ends r)(w)(H:St w w [] R):Ret Tryz.prog 211 #[ab,ac] w fun v w'=>∃ y0,y0=r/\v=B y0/\St w w' [] R:=by
 refine ret_of_W Tryz.func211 rfl rfl rfl ?_;refine kC 8 @zgH ?_;intro aj r2 hM H;refine kg 3 ?_;exact rt

def zcE (x:CNt) (aa:CNt->M Bool):M Bool :=
  M.bind (aa x) fun r2 =>
  M.pure (!r2)
theorem ze6 {R aa ab}(x ac)(ae:FnM Tryz.prog R ab ac)(ai:Has R (cBlk aa [ab] 331)){r}(hM:(zcE x ac).Ends r)(w)(H:St w w [] R):Ret Tryz.prog 241 #[.agg #[I x.mark,I x.tlo,I x.thi,I x.slo,I x.shi],Pq aa] w fun v w'=>∃ y0,y0=r/\v=B y0/\St w w' [] R:=by
 refine ret_of_W Tryz.func241 rfl rfl rfl ?_;refine kB 2 ?_;intro aj ak H;refine kg 6 ?_;obtain ⟨r2,ah,hM⟩:=M.e_bind hM;refine t_callM H ae rfl rfl x Reads.none ⟨_,rfl,rfl⟩ ah ?_;intro al H;refine kg 3 ?_;exact rt

def zbK (l:List CNt) (so:CNt->M Bool):M Bool :=
  M.bind (zaN l (fun aa=>zcE aa so)) fun r2 =>
  M.pure (!r2)
theorem zfq {R ae aa ah}(l so)(aj:Reads R ae)(ak:Sl ae aa l)(al:FnM Tryz.prog R ah so){r}(hM:(zbK l so).Ends r)(w)(H:St w w [] R):Ret Tryz.prog 208 #[aa,ah] w fun v w'=>∃ y0,y0=r/\v=B y0/\St w w' [] R:=by
 refine ret_of_W Tryz.func208 rfl rfl rfl ?_;refine kB 2 ?_;intro ab az H;refine kg 5 ?_;refine s_val (x_mf (fs:=[]) (cs:=[Pq ab]) rfl rfl) ?_;obtain ⟨aA,am,hM⟩:=M.e_bind hM;refine s_call cq [aa,.func (.func 241) #[] #[Pq ab]] rfl (zex l (fun ac=>zcE ac so) (aj.app _) ak ⟨241,[Pq ab],rfl,cq,fun ai aB aC ao ac aD ap aE aq au=>by obtain rfl:=CNt_arg aq; exact (ze6 ac so (FnM.app (al.app _) _) (Has.app (Has.here (k:=0) rfl) _) au ai (St.refl ap)).mono fun ao ai ⟨aF,av,aw,ax⟩=>by subst av; exact ⟨aw,ax⟩⟩ am _ (H.gt 1)) ?_;rintro _ aG ⟨r2,rfl,rfl,ay⟩;replace H:=H.bk ay;refine kg 3 ?_;exact rt

def zdr (n:CNt) (marks:Int):M Bool :=
  M.gi (marks-1) <|
  M.bind (zaj n.mark 0 (marks-1)) fun r2 =>
  M.bind (M.opt r2 (zaT (⟨(n.tlo:Int),(n.thi:Int)⟩:Span) 0 10000000) false) fun r3 =>
  M.bind (M.opt (r2&&r3) (zaT (⟨(n.slo:Int),(n.shi:Int)⟩:Span) (-3000000) 3000000) false) fun r4 =>
  M.pure ((r2&&r3)&&r4)
theorem zgo {R}(n marks){r}(hM:(zdr n marks).Ends r)(w)(H:St w w [] R):Ret Tryz.prog 210 #[.agg #[I n.mark,I n.tlo,I n.thi,I n.slo,I n.shi],I marks] w fun v w'=>∃ y0,y0=r/\v=B y0/\St w w' [] R:=by
 refine ret_of_W Tryz.func210 rfl rfl rfl ?_;refine kB 2 ?_;intro ah ai H;obtain ⟨aj,hM⟩:=M.e_gq hM;refine kC 8 @zal ?_;intro ak r2 hM H;refine kg 3 ?_;obtain ⟨r3,ac,hM⟩:=M.e_bind hM;refine t_gcall r2 (gy_t rfl) cq (B r3) (fun _=>[.agg #[I n.tlo,I n.thi],I 0,I 10000000]) (fun hg=>lst3 (gd_of hg (.agg #[I n.tlo,I n.thi])) rfl rfl) H (fun hg=>(zds (⟨(n.tlo:Int),(n.thi:Int)⟩:Span) 0 10000000 (M.e_opt ac hg) _ (H.give (A:=[]) rfl)).mono fun v_ w_ ⟨y_,aa,ab,H_⟩=>by subst aa; exact ⟨ab,H.via H_⟩) ?_;intro al H;refine kg 4 ?_;obtain ⟨r4,ae,hM⟩:=M.e_bind hM;refine t_gcall (r2&&r3) (gy_t rfl) cq (B r4) (fun _=>[.agg #[I n.slo,I n.shi],I (-3000000),I 3000000]) (fun hg=>lst3 (gd_of hg (.agg #[I n.slo,I n.shi])) rfl rfl) H (fun hg=>(zds (⟨(n.slo:Int),(n.shi:Int)⟩:Span) (-3000000) 3000000 (M.e_opt ae hg) _ (H.give (A:=[]) rfl)).mono fun v_ w_ ⟨y_,aa,ab,H_⟩=>by subst aa; exact ⟨ab,H.via H_⟩) ?_;intro am H;refine kg 3 ?_;exact rt

def zcQ (n:CNt) (ab ac ae ah ai:Int) (aa:List CMk) (aj:List CNt):M Bool :=
  M.bind (zdr n (aa.length:Int)) fun r2 =>
  M.pure r2
theorem zgy {R aa ab ac ae ah}(n ai aj ak al am ao ap)(au:Reads R ab)(aq:Sl ab ac ao)(av:Reads R ae)(aw:Sl ae ah ap)(ax:Has R (cBlk aa [I ai,I aj,I ak,I al,I am,ac,ah] 31)){r}(hM:(zcQ n ai aj ak al am ao ap).Ends r)(w)(H:St w w [] R):Ret Tryz.prog 209 #[.agg #[I n.mark,I n.tlo,I n.thi,I n.slo,I n.shi],Pq aa] w fun v w'=>∃ y0,y0=r/\v=B y0/\St w w' [] R:=by
 refine ret_of_W Tryz.func209 rfl rfl rfl ?_;refine kB 2 ?_;intro ay az H;have aA:=(aq).len_le;refine kC 8 @zgo ?_;intro aB r2 hM H;refine kg 2 ?_;exact rt

def zbH (o:CNt) (aa ab ac ae ah:Int):M Bool :=
  M.pure (o.mark==aa)
theorem zfJ {R aa}(o ab ac ae ah ai)(aj:Has R (cBlk aa [I ab,I ac,I ae,I ah,I ai] 75)){r}(hM:(zbH o ab ac ae ah ai).Ends r)(w)(H:St w w [] R):Ret Tryz.prog 212 #[.agg #[I o.mark,I o.tlo,I o.thi,I o.slo,I o.shi],Pq aa] w fun v w'=>∃ y0,y0=r/\v=B y0/\St w w' [] R:=by
 refine ret_of_W Tryz.func212 rfl rfl rfl ?_;refine kB 2 ?_;intro ak al H;refine kg 11 ?_;exact rt

def zcG (c_Marks:List CMk):(Int × Nat)->M ((Int × Nat) ⊕ (Int ⊕ Unit)):=fun (last,s) =>
  bif decide ((s:Int)<(c_Marks.length:Int)) then (
  M.grd (decide ((s:Int)<(c_Marks.length:Int))) <|
  M.bind (zaj ((c_Marks.getD s default).place) 0 10000) fun r7 =>
  M.bind (M.opt (!(!r7)) (zaj ((c_Marks.getD s default).height) 0 1000) false) fun r8 =>
  bif ((!r7)||(!r8)) then (
  M.pure (.inr (.inl 30)))
  else (
  bif decide (((c_Marks.getD s default).place)<=last) then (
  M.pure (.inr (.inl 9)))
  else (
  M.pure (.inl ((c_Marks.getD s default).place,s+1)))))
  else (
  M.pure (.inr (.inr ())))
def zbT (c_Notes:List CNt):Nat->M (Nat ⊕ (Unit ⊕ Unit)):=fun s3 =>
  bif decide ((s3:Int)<(c_Notes.length:Int)) then (
  M.grd (decide ((s3:Int)<(c_Notes.length:Int))) <|
  M.bind (zaN (c_Notes.take s3) (fun aa=>zbH aa ((c_Notes.getD s3 default).mark) ((c_Notes.getD s3 default).tlo) ((c_Notes.getD s3 default).thi) ((c_Notes.getD s3 default).slo) ((c_Notes.getD s3 default).shi))) fun ab =>
  bif ab then (
  M.pure (.inr (.inl ())))
  else (
  M.pure (.inl (s3+1))))
  else (
  M.pure (.inr (.inr ())))
def zb4 (c_Pace_Lo c_Pace_Hi c_Base c_Scale c_Off:Int) (c_Marks:List CMk) (c_Notes:List CNt):M Int :=
  M.bind (zaj (c_Marks.length:Int) 1 40) fun r2 =>
  bif ((!r2)||(decide (20<(c_Notes.length:Int)))) then (
  M.pure 3)
  else (
  M.bind (zaT (⟨(c_Pace_Lo:Int),(c_Pace_Hi:Int)⟩:Span) 1 600) fun r3 =>
  M.bind (M.opt (!(!r3)) (zaj c_Base (-1000000) 1000000) false) fun r4 =>
  M.bind (M.opt (!((!r3)||(!r4))) (zaj c_Scale 0 1000) false) fun r5 =>
  M.bind (M.opt (!(((!r3)||(!r4))||(!r5))) (zaj c_Off 0 1000) false) fun r6 =>
  bif ((((!r3)||(!r4))||(!r5))||(!r6)) then (
  M.pure 30)
  else (
  M.bind (M.iter (zcG c_Marks) (-1,0)) fun x_=>match x_ with
  | (.inl s2)=>(
  M.pure s2)
  | (.inr (_:Unit))=>(
  M.bind (zbK c_Notes (fun aa=>zcQ aa c_Pace_Lo c_Pace_Hi c_Base c_Scale c_Off c_Marks c_Notes)) fun r9 =>
  bif !r9 then (
  M.pure 30)
  else (
  M.bind (M.iter (zbT c_Notes) 0) fun x_=>match x_ with
  | (.inl (_:Unit))=>(
  M.pure 10)
  | (.inr (_:Unit))=>(
  M.pure 0)))))
theorem zfx {R aE ai aF aa}(c_Pace_Lo c_Pace_Hi c_Base c_Scale c_Off c_Marks c_Notes)(aK:Reads R aE)(al:Sl aE ai c_Marks)(am:Reads R aF)(aj:Sl aF aa c_Notes){r}(hM:(zb4 c_Pace_Lo c_Pace_Hi c_Base c_Scale c_Off c_Marks c_Notes).Ends r)(w)(H:St w w [] R):Ret Tryz.prog 153 #[.agg #[I c_Pace_Lo,I c_Pace_Hi,I c_Base,I c_Scale,I c_Off,ai,aa]] w fun v w'=>∃ y0,y0=r/\v=I y0/\St w w' [] R:=by
 refine ret_of_W Tryz.func153 rfl rfl rfl ?_;refine kB 2 ?_;intro ab bj H;have bm:=(al).len_le;refine kC 9 @zal ?_;intro bn r2 hM H;have bo:=(aj).len_le;refine kI 9 ?_ ?_
 ·intro aL hM;refine kg 4 ?_;exact rt
 intro aL hM;refine kC 4 @zds ?_;intro bp r3 hM H;refine kg 4 ?_;obtain ⟨r4,aM,hM⟩:=M.e_bind hM;refine t_gcall (!(!r3)) (gy_f rfl) cq (B r4) (fun _=>[I c_Base,I (-1000000),I 1000000]) (fun hg=>lst3 (gd_of hg (I c_Base)) rfl rfl) H (fun hg=>(zal c_Base (-1000000) 1000000 (M.e_opt aM hg) _ (H.give (A:=[]) rfl)).mono fun v_ w_ ⟨y_,ac,ae,H_⟩=>by subst ac; exact ⟨ae,H.via H_⟩) ?_;intro br H;refine kg 5 ?_;obtain ⟨r5,aN,hM⟩:=M.e_bind hM;refine t_gcall (!((!r3)||(!r4))) (gy_f rfl) cq (B r5) (fun _=>[I c_Scale,I 0,I 1000]) (fun hg=>lst3 (gd_of hg (I c_Scale)) rfl rfl) H (fun hg=>(zal c_Scale 0 1000 (M.e_opt aN hg) _ (H.give (A:=[]) rfl)).mono fun v_ w_ ⟨y_,ac,ae,H_⟩=>by subst ac; exact ⟨ae,H.via H_⟩) ?_;intro bt H;refine kg 5 ?_;obtain ⟨r6,aO,hM⟩:=M.e_bind hM;refine t_gcall (!(((!r3)||(!r4))||(!r5))) (gy_f rfl) cq (B r6) (fun _=>[I c_Off,I 0,I 1000]) (fun hg=>lst3 (gd_of hg (I c_Off)) rfl rfl) H (fun hg=>(zal c_Off 0 1000 (M.e_opt aO hg) _ (H.give (A:=[]) rfl)).mono fun v_ w_ ⟨y_,ac,ae,H_⟩=>by subst ac; exact ⟨ae,H.via H_⟩) ?_;intro bu H;refine kI 4 ?_ ?_
 ·intro aP hM;refine kg 4 ?_;exact rt
 intro aP hM;have bv:=(al).len_le;refine kg 14 ?_;obtain ⟨aQ,aG,ao⟩:=M.e_bind hM;obtain ⟨aR,aG⟩:=M.e_iter aG;refine W.loop (fun m σ W=>∃ (last:Int) (s:Nat) (ρ:Env),σ=upds ρ [(1,Pq ab),(3,I last),(44,ai),(45,I (c_Marks.length:Int)),(46,I (s:Int))]/\M.iterN (zcG c_Marks) m (last,s)=some aQ/\St w W [cBlk ab [I c_Pace_Lo,I c_Pace_Hi,I c_Base,I c_Scale,I c_Off,ai,aa] 31] R) ?_ ?_
 ·exact kY
 rintro bw σ bx ⟨last,s,ρ,rfl,aS,H⟩;obtain ⟨bz,bA,bB,hM,ap⟩:=M.e_iterN aS;refine kI 5 ?_ ?_
 ·intro aT hM;obtain ⟨bC,hM⟩:=M.e_gq hM;refine kA 7 ?_;intro bD bE H;refine ksw ?_;intro bF H;refine kC 7 @zal ?_;intro bG r7 hM H;refine kg 4 ?_;obtain ⟨r8,aU,hM⟩:=M.e_bind hM;refine t_gcall (!(!r7)) (gy_f rfl) cq (B r8) (fun _=>[I ((c_Marks.getD s default).height),I 0,I 1000]) (fun hg=>lst3 (gd_of hg (I ((c_Marks.getD s default).height))) rfl rfl) H (fun hg=>(zal ((c_Marks.getD s default).height) 0 1000 (M.e_opt aU hg) _ (H.give (A:=[]) rfl)).mono fun v_ w_ ⟨y_,ac,ae,H_⟩=>by subst ac; exact ⟨ae,H.via H_⟩) ?_;intro bH H;refine kI 4 ?_ ?_
  ·intro aV hM;refine kg 4 ?_;obtain rfl:=M.e_inr hM ap;replace hM:=ao;exact rt
  intro aV hM;refine kI 8 ?_ ?_
  ·intro aW hM;refine kg 4 ?_;obtain rfl:=M.e_inr hM ap;replace hM:=ao;exact rt
  intro aW hM;exact kXp 10 [1]
 intro aT hM;refine W.exit ?_;obtain rfl:=M.e_inr hM ap;replace hM:=ao;refine kg 5 ?_;refine s_val (x_mf (fs:=[]) (cs:=[Pq ab]) rfl rfl) ?_;obtain ⟨bI,aX,hM⟩:=M.e_bind hM;refine s_call cq [aa,.func (.func 209) #[] #[Pq ab]] rfl (zfq c_Notes (fun ah=>zcQ ah c_Pace_Lo c_Pace_Hi c_Base c_Scale c_Off c_Marks c_Notes) (am.app _) aj ⟨209,[Pq ab],rfl,cq,fun ak aY aZ aq ah a6 au a7 av aw=>by obtain rfl:=CNt_arg av; exact (zgy ah c_Pace_Lo c_Pace_Hi c_Base c_Scale c_Off c_Marks c_Notes (Reads.app (aK.app _) _) al (Reads.app (am.app _) _) aj (Has.app (Has.here (k:=0) rfl) _) aw ak (St.refl au)).mono fun aq ak ⟨a8,ax,ay,az⟩=>by subst ax; exact ⟨ay,az⟩⟩ aX _ (H.gt 1)) ?_;rintro _ bJ ⟨r9,rfl,rfl,aA⟩;replace H:=H.bk aA;refine kI 2 ?_ ?_
 ·intro ba hM;refine kg 4 ?_;exact rt
 intro ba hM;have bK:=(aj).len_le;refine kg 10 ?_;obtain ⟨bb,aH,aI⟩:=M.e_bind hM;obtain ⟨aR,aH⟩:=M.e_iter aH;refine W.loop (fun m σ W=>∃ (s3:Nat) (ρ:Env),σ=upds ρ [(1,Pq ab),(75,aa),(76,I (c_Notes.length:Int)),(77,I (s3:Int))]/\M.iterN (zbT c_Notes) m s3=some bb/\St w W [cBlk ab [I c_Pace_Lo,I c_Pace_Hi,I c_Base,I c_Scale,I c_Off,ai,aa] 31] R) ?_ ?_
 ·exact kY
 rintro bL σ bM ⟨s3,ρ,rfl,bc,H⟩;obtain ⟨bN,bO,bP,hM,aJ⟩:=M.e_iterN bc;refine kI 5 ?_ ?_
 ·intro bf hM;obtain ⟨bQ,hM⟩:=M.e_gq hM;refine kA 8 ?_;intro aB bR H;refine kS 1 ?_;intro bS H;refine kg 6 ?_;obtain ⟨aC,bg,aD⟩:=sl_hi T29.h.und T29.h.size aj (j:=(s3:Int)) (by omega) (by omega);replace aD:Sl _ aC (c_Notes.take s3):=aD;refine s_val (x_sl (v:=aa) (u:=aC) (lo':=none) (hi':=some (I (s3:Int))) (mx':=none) rfl rfl rfl rfl (bg _))<|s_val (x_mf (fs:=[]) (cs:=[Pq aB]) rfl rfl) ?_;obtain ⟨bT,bh,hM⟩:=M.e_bind hM;refine s_call cq [aC,.func (.func 212) #[] #[Pq aB]] rfl (zex (c_Notes.take s3) (fun ah=>zbH ah ((c_Notes.getD s3 default).mark) ((c_Notes.getD s3 default).tlo) ((c_Notes.getD s3 default).thi) ((c_Notes.getD s3 default).slo) ((c_Notes.getD s3 default).shi)) (am.app _) aD ⟨212,[Pq aB],rfl,cq,fun ak aY aZ aq ah a6 au a7 av aw=>by obtain rfl:=CNt_arg av; exact (zfJ ah ((c_Notes.getD s3 default).mark) ((c_Notes.getD s3 default).tlo) ((c_Notes.getD s3 default).thi) ((c_Notes.getD s3 default).slo) ((c_Notes.getD s3 default).shi) (Has.app (Has.here (k:=0) rfl) _) aw ak (St.refl au)).mono fun aq ak ⟨a8,ax,ay,az⟩=>by subst ax; exact ⟨ay,az⟩⟩ bh _ (H.gt 2)) ?_
  rintro _ bU ⟨bV,rfl,rfl,aA⟩;replace H:=H.bk aA;refine kI 1 ?_ ?_
  ·intro bi hM;refine kg 4 ?_;obtain rfl:=M.e_inr hM aJ;replace hM:=aI;exact rt
  intro bi hM;exact kXp 5 [1]
 intro bf hM;refine W.exit ?_;obtain rfl:=M.e_inr hM aJ;replace hM:=aI;refine kg 4 ?_;exact rt

def zb9 (c_Notes:List CNt):((List (Int × CNt)) × Nat)->M (((List (Int × CNt)) × Nat) ⊕ (List (Int × CNt))):=fun (mp,s) =>
  bif decide ((s:Int)<(c_Notes.length:Int)) then (
  M.grd (decide ((s:Int)<(c_Notes.length:Int))) <|
  M.pure (.inl (setM mp ((c_Notes.getD s default).mark:Int) (c_Notes.getD s default),s+1)))
  else (
  M.pure (.inr mp))
def zbI (c_Pace_Lo c_Pace_Hi c_Base c_Scale c_Off:Int) (c_Marks:List CMk) (c_Notes:List CNt):M (Int ⊕ (Int × Int × Int × Int × Int × (List (Int × CNt)) × (List Bool) × Int)) :=
  M.bind (zb4 c_Pace_Lo c_Pace_Hi c_Base c_Scale c_Off c_Marks c_Notes) fun r2 =>
  bif r2 != 0 then (
  M.pure (.inl r2))
  else (
  M.bind (M.iter (zb9 c_Notes) (([]:List (Int × CNt)),0)) fun aa =>
  M.pure (.inr (c_Pace_Lo,c_Pace_Hi,c_Base,c_Scale,c_Off,aa,(List.replicate 40 false),0)))
theorem zfe {R ai ab aj aa}(c_Pace_Lo c_Pace_Hi c_Base c_Scale c_Off c_Marks c_Notes)(aA:Reads R ai)(aB:Sl ai ab c_Marks)(aC:Reads R aj)(ap:Sl aj aa c_Notes){r}(hM:(zbI c_Pace_Lo c_Pace_Hi c_Base c_Scale c_Off c_Marks c_Notes).Ends r)(w)(H:St w w [] R):Ret Tryz.prog 98 #[.agg #[I c_Pace_Lo,I c_Pace_Hi,I c_Base,I c_Scale,I c_Off,ab,aa]] w fun v w'=>(∃ (y0:Int),(.inl y0)=r/\v = .tuple #[.pointer none,I y0]/\St w w' [] R)∨(∃ (y0:Int) (y1:Int) (y2:Int) (y3:Int) (y4:Int) (y5:List (Int × CNt)) (y6:List Bool) (y7:Int) (ak:Nat) (al:Nat),(.inr (y0,y1,y2,y3,y4,y5,y6,y7))=r/\v = .tuple #[Pq ak,I y7]/\St w w' [cBlk ak (List.flatten [[I y0,I y1,I y2,I y3,I y4,ab,aa,.map (some al)],encF (α:=Bool) y6]) 227,cMl I encCN al y5] R/\y6.length=40):=by
 refine ret_of_W Tryz.func98 rfl rfl rfl ?_;refine kB 2 ?_;intro am aD H;refine kC 7 @zfx ?_;intro aE r2 hM H;refine kI 7 ?_ ?_
 ·intro aq hM;refine kg 6 ?_;refine W.ret ?_;have ah:=M.e_pure hM;exact ⟨_,resE_tmp2 rfl,.inl (⟨r2,ah,rfl,(H.pk [])⟩)⟩
 intro aq hM;refine kg 4 ?_;refine t_mkMl (κ:=Int) (ν:=CNt) I encCN H ?_;intro ac aF H;refine s_val (x_bld (ps:=[(0,.agg #[I c_Pace_Lo,I c_Pace_Hi,I c_Base,I c_Scale,I c_Off,ab,aa]),(1,.map (some ac))]) (zs:=(List.flatten [[I 0,I 0,I 0,I 0,I 0,.slice none 0 0,.slice none 0 0,.map none],encF (α:=Bool) (List.replicate 40 false)])) (L':=(List.flatten [[I c_Pace_Lo,I c_Pace_Hi,I c_Base,I c_Scale,I c_Off,ab,aa,.map (some ac)],encF (α:=Bool) (List.replicate 40 false)])) rfl Tryz.underlying227 Al227.h rfl (Bd227 Tryz.underlying227) (.cons (cs:=[I c_Pace_Lo,I c_Pace_Hi,I c_Base,I c_Scale,I c_Off,ab,aa]) rfl rfl rfl (by kernel_rfl) rfl<|.cons (cs:=[.map (some ac)]) rfl rfl rfl (by kernel_rfl) rfl<|.nil)) ?_;refine kB 0 ?_;intro ae aG H;have aH:=(ap).len_le;refine kg 11 ?_;obtain ⟨au,ao,av⟩:=M.e_bind hM;obtain ⟨aI,ao⟩:=M.e_iter ao;refine W.loop (fun m σ W=>∃ (mp:List (Int × CNt)) (s:Nat) (ρ:Env),σ=upds ρ [(5,Pq ae),(18,aa),(19,I (c_Notes.length:Int)),(20,I (s:Int))]/\M.iterN (zb9 c_Notes) m (mp,s)=some au/\St w W [cBlk ae (List.flatten [[I c_Pace_Lo,I c_Pace_Hi,I c_Base,I c_Scale,I c_Off,ab,aa,.map (some ac)],encF (α:=Bool) (List.replicate 40 false)]) 227,cMl I encCN ac mp,cBlk am [I c_Pace_Lo,I c_Pace_Hi,I c_Base,I c_Scale,I c_Off,ab,aa] 31] R) ?_ ?_
 ·exact kY
 rintro aJ σ aK ⟨mp,s,ρ,rfl,aw,H⟩;obtain ⟨aL,aM,aN,hM,ax⟩:=M.e_iterN aw;refine kI 5 ?_ ?_
 ·intro ay hM;obtain ⟨aO,hM⟩:=M.e_gq hM;refine kA 7 ?_;intro az aP H;refine ksw ?_;intro aQ H;refine kD 1 [0,1,3] [7] ?_;intro aR H;refine kG 8 ?_;refine t_putMl (i:=2) (kenc:=I) (venc:=encCN) (m:=mp) (k:=((c_Notes.getD s default).mark:Int)) (v:=(c_Notes.getD s default)) (L':=[cBlk az [I ((c_Notes.getD s default).mark),I ((c_Notes.getD s default).tlo),I ((c_Notes.getD s default).thi),I ((c_Notes.getD s default).slo),I ((c_Notes.getD s default).shi)] 75,cBlk ae (List.flatten [[I c_Pace_Lo,I c_Pace_Hi,I c_Base,I c_Scale,I c_Off,ab,aa,.map (some ac)],encF (α:=Bool) (List.replicate 40 false)]) 227,cMl I encCN ac (setM mp ((c_Notes.getD s default).mark:Int) (c_Notes.getD s default)),cBlk am [I c_Pace_Lo,I c_Pace_Hi,I c_Base,I c_Scale,I c_Off,ab,aa] 31]) keyIntCN Tryz.underlying224 H rfl rfl rfl rfl rfl ?_;intro aS H;refine kN ?_;exact kXp 5 [1,2,3]
 intro ay hM;refine W.exit ?_;obtain rfl:=M.e_inr hM ax;replace hM:=av;refine kg 6 ?_;refine W.ret ?_;have ah:=M.e_pure hM;exact ⟨_,resE_tmp2 rfl,.inr (⟨c_Pace_Lo,c_Pace_Hi,c_Base,c_Scale,c_Off,mp,(List.replicate 40 false),0,ae,ac,ah,rfl,(H.pk [0,1]),List.length_replicate⟩)⟩

def zcs (aa:List CMk) (stops:List Int):((List Bool) × Int × Nat)->M (((List Bool) × Int × Nat) ⊕ ((List Bool) ⊕ (List Bool))):=fun (s,last,s2) =>
  bif decide ((s2:Int)<(stops.length:Int)) then (
  M.grd (decide ((s2:Int)<(stops.length:Int))) <|
  M.gi (last+1) <|
  M.bind (zaj (stops.getD s2 0) (last+1) ((aa.length:Int)-2)) fun r2 =>
  bif !r2 then (
  M.pure (.inr (.inl s)))
  else (
  M.grd (decide ((0:Int)<=(stops.getD s2 0))&&decide ((stops.getD s2 0)<(40:Int))) <|
  M.pure (.inl (s.set (Int.toNat (stops.getD s2 0)) true,stops.getD s2 0,s2+1))))
  else (
  M.pure (.inr (.inr s)))
def zbU (ac ae ah ai aj:Int) (aa:List CMk) (ak:List CNt) (al:List (Int × CNt)) (ab:List Bool) (stops:List Int):M (Bool × (List Bool)) :=
  M.bind (M.iter (zcs aa stops) (ab,-1,0)) fun x_=>match x_ with
  | (.inl l)=>(
  M.pure (false,l))
  | (.inr l2)=>(
  M.pure (true,l2))
theorem zfX {R aa aw ab ax ac ae ay ao}(ah ai aj ak al ap az aA am stops)(aN:Reads R aw)(aC:Sl aw ab ap)(aO:Reads R ax)(aP:Sl ax ac az)(aQ:Has R (cMl I encCN ae aA))(aD:am.length=40)(aR:Reads R ay)(aE:Sl ay ao stops){r}(hM:(zbU ah ai aj ak al ap az aA am stops).Ends r)(w)(H:St w w [cBlk aa (List.flatten [[I ah,I ai,I aj,I ak,I al,ab,ac,.map (some ae)],encF (α:=Bool) am]) 227] R):Ret Tryz.prog 99 #[Pq aa,ao] w fun v w'=>∃ y0 y1,(y0,y1)=r/\v=B y0/\St w w' [cBlk aa (List.flatten [[I ah,I ai,I aj,I ak,I al,ab,ac,.map (some ae)],encF (α:=Bool) y1]) 227] R/\y1.length=40:=by
 refine ret_of_W Tryz.func99 rfl rfl rfl ?_;have aS:=(aE).len_le;refine kg 16 ?_;obtain ⟨aF,aq,aB⟩:=M.e_bind hM;obtain ⟨aT,aq⟩:=M.e_iter aq;refine W.loop (fun m σ W=>∃ (s:List Bool) (last:Int) (s2:Nat) (ρ:Env),σ=upds ρ [(0,Pq aa),(5,I last),(8,ao),(9,I (stops.length:Int)),(10,I (s2:Int))]/\M.iterN (zcs ap stops) m (s,last,s2)=some aF/\St w W [cBlk aa (List.flatten [[I ah,I ai,I aj,I ak,I al,ab,ac,.map (some ae)],encF (α:=Bool) s]) 227] R/\s.length=40) ?_ ?_
 ·exact ⟨_,am,-1,0,_,jQ,aq,H,aD⟩
 rintro aU σ aV ⟨s,last,s2,ρ,rfl,aG,H,au⟩;obtain ⟨aH,aI,aW,hM,av⟩:=M.e_iterN aG;refine kI 5 ?_ ?_
 ·intro aJ hM;obtain ⟨aX,hM⟩:=M.e_gq hM;obtain ⟨aY,hM⟩:=M.e_gq hM;have aZ:=(aC).len_le;refine kC 22 @zal ?_;intro a6 r2 hM H;refine kI 2 ?_ ?_
  ·intro aK hM;refine kg 4 ?_;refine W.ret ?_;obtain rfl:=M.e_inr hM av;replace hM:=aB;have aL:=M.e_pure hM;exact ⟨_,resE_tmp rfl,⟨false,s,aL,rfl,H,au⟩⟩
  intro aK hM;obtain ⟨a7,hM⟩:=M.e_gq hM;refine kg 11 ?_;refine s_val (x_ix (v:=.pointer (some ⟨aa,8+Int.toNat (stops.getD s2 0)*1,none⟩)) rfl rfl (run_indexS Tryz.underlying225 Sz4.h (by omega) (by omega))) ?_;refine t_stS (α:=Bool) (kc:=0) (b:=aa) (k:=1) (off:=8) (i:=(Int.toNat (stops.getD s2 0))) (f:=0) (sz:=1) (segs:=[[I ah,I ai,I aj,I ak,I al,ab,ac,.map (some ae)],encF (α:=Bool) s]) (segs':=[[I ah,I ai,I aj,I ak,I al,ab,ac,.map (some ae)],encF (α:=Bool) (s.set (Int.toNat (stops.getD s2 0)) true)]) (l:=s) (l':=s.set (Int.toNat (stops.getD s2 0)) true) (vs:=[B true]) (L':=[cBlk aa (List.flatten [[I ah,I ai,I aj,I ak,I al,ab,ac,.map (some ae)],encF (α:=Bool) (s.set (Int.toNat (stops.getD s2 0)) true)]) 227]) H rfl rfl rfl Sz4.h rfl rfl rfl rfl (sgo1 rfl) rfl rfl (by have a8:=au; omega) (by omega) false true rfl rfl rfl rfl ?_;intro ba H;have aM:(s.set (Int.toNat (stops.getD s2 0)) true).length=40:=List.length_set.trans au;refine kg 5 ?_;exact ⟨aH,aI,s.set (Int.toNat (stops.getD s2 0)) true,stops.getD s2 0,s2+1,_,jQ,M.e_inl hM av,H,aM⟩
 intro aJ hM;refine W.exit ?_;obtain rfl:=M.e_inr hM av;replace hM:=aB;exact kR0 4

def zcS (c_Pace_Lo c_Pace_Hi c_Base c_Scale c_Off:Int) (c_Marks:List CMk) (c_Notes:List CNt) (stops:List Int):M (Int × Int × Int × Int × Int × (List (Int × CNt)) × (List Bool) × Int) :=
  M.bind (zbI c_Pace_Lo c_Pace_Hi c_Base c_Scale c_Off c_Marks c_Notes) fun x_=>match x_ with
  | (.inl r1)=>(
  M.fail)
  | (.inr (aa,ab,ac,ae,ah,ai,ak,aj))=>(
  bif aj==0 then (
  M.bind (zbU aa ab ac ae ah c_Marks c_Notes ai ak stops) fun (r2,q8) =>
  bif ((aj==0)&&(!r2)) then (
  M.pure (aa,ab,ac,ae,ah,ai,q8,2))
  else (
  M.pure (aa,ab,ac,ae,ah,ai,q8,aj)))
  else (
  M.pure (aa,ab,ac,ae,ah,ai,ak,aj)))
theorem zf1 {R aj ae ak ah al ai}(c_Pace_Lo c_Pace_Hi c_Base c_Scale c_Off c_Marks c_Notes stops)(am:Reads R aj)(ao:Sl aj ae c_Marks)(ap:Reads R ak)(aq:Sl ak ah c_Notes)(ay:Reads R al)(az:Sl al ai stops){r}(hM:(zcS c_Pace_Lo c_Pace_Hi c_Base c_Scale c_Off c_Marks c_Notes stops).Ends r)(w)(H:St w w [] R):Ret Tryz.prog 50 #[.agg #[I c_Pace_Lo,I c_Pace_Hi,I c_Base,I c_Scale,I c_Off,ae,ah],ai] w fun v w'=>∃ y0 y1 y2 y3 y4 y5 y6 y7 au av,(y0,y1,y2,y3,y4,y5,y6,y7)=r/\v = .tuple #[Pq au,I y7]/\St w w' [cBlk au (List.flatten [[I y0,I y1,I y2,I y3,I y4,ae,ah,.map (some av)],encF (α:=Bool) y6]) 227,cMl I encCN av y5] R/\y6.length=40:=by
 refine ret_of_W Tryz.func50 rfl rfl rfl ?_;refine kB 2 ?_;intro aN aO H;refine kg 6 ?_;obtain ⟨aP,aA,hM⟩:=M.e_bind hM;refine s_call cq [.agg #[I c_Pace_Lo,I c_Pace_Hi,I c_Base,I c_Scale,I c_Off,ae,ah]] rfl (zfe c_Pace_Lo c_Pace_Hi c_Base c_Scale c_Off c_Marks c_Notes (am.app _) ao (ap.app _) aq aA _ (H.gt 1)) ?_;rintro vq aQ (⟨r1,aB,hvq,ac⟩ | ⟨aC,aD,aE,aF,aG,aH,aI,aa,aw,aR,aJ,hvq,ac,aK⟩)
 ·subst aB;subst vq;replace H:=H.bk ac;refine kg 14 ?_;exact (M.e_fail hM).elim
 subst aJ;subst vq;replace H:=H.bk ac;refine kg 14 ?_;refine g_splitV (aa==0) (B false) (gy_t rfl) (fun ab=>?_) (fun ab=>?_)
 ·replace hM:=M.e_t hM ab;obtain ⟨aS,aL,hM⟩:=M.e_bind hM;refine s_call cq [Pq aw,ai] (lst2 (gd_of (c:=aa==0) ab (Pq aw)) (gd_of (c:=aa==0) ab (ai))) (zfX aC aD aE aF aG c_Marks c_Notes aH aI stops (am.app _) ao (ap.app _) aq (Has.here (k:=0) rfl) aK (ay.app _) az aL _ (H.gt 2)) ?_;rintro _ aT ⟨r2,q8,rfl,rfl,ac,aU⟩;replace H:=H.bk ac;refine kI 3 ?_ ?_
  ·intro aM hM;exact kR 10 [0,1]
  intro aM hM;exact kR 8 [0,1]
 replace hM:=M.e_f hM ab;refine g_val (v:=B false) (aa==0) (gy_t rfl) (fun hg=>Bool.noConfusion (ab.symm.trans hg))<|s_val (x_pand0 (b:=aa==0) rfl (fun hb=>gd_of (c:=aa==0) (by first | exact hb | (rw [hb]; rfl) | simp_all) (B false)) rfl)<|s_nil ?_
 refine W.cond false rfl (fun ax=>?_) (fun ax=>?_)
 ·exact absurd ax (by decide)
 exact kR 8 [0,1]

def zdV (aa ab ac ae ah:Int) (ai:List CMk) (aj:List CNt) (ak:List (Int × CNt)):M Unit :=
  M.pure ()
theorem zga {R aa ab ac ae ah ai}(aj ak al am ao ap aq au)(ax:Reads R ab)(ay:Sl ab ac ap)(az:Reads R ae)(aA:Sl ae ah aq)(aB:Has R (cMl I encCN ai au))(aC:Fld R aa [I aj,I ak,I al,I am,I ao,ac,ah,.map (some ai)]){r}(hM:(zdV aj ak al am ao ap aq au).Ends r)(w)(H:St w w [] R):Ret Tryz.prog 54 #[Pq aa] w fun v w'=>∃ av,()=r/\v = .func (.func 103) #[] #[Pq av]/\St w w' [cBlk av [Pq aa] 78] R:=by
 refine ret_of_W Tryz.func54 rfl rfl rfl ?_;refine kB 2 ?_;intro aw aD H;refine kg 4 ?_;refine s_val (x_mf (fs:=[]) (cs:=[Pq aw]) rfl rfl) ?_;refine kg 2 ?_;exact rt

def zc6 {T_:Type} (ae:T_->(Int × Span)->M (Bool × T_)) (ab ac:Int) (aa:List CMk) (ah:List Bool):(Nat × T_)->M ((Nat × T_) ⊕ (T_ ⊕ T_)):=fun (s2,t2) =>
  bif decide ((s2:Int)<((aa.length:Int)-1)) then (
  M.gi ((s2:Int)+1) <|
  M.grd (decide ((0:Int)<=((s2:Int)+1))&&decide (((s2:Int)+1)<(aa.length:Int))) <|
  M.grd (decide ((s2:Int)<(aa.length:Int))) <|
  M.gi (((aa.getD (Int.toNat ((s2:Int)+1)) default).place)-((aa.getD s2 default).place)) <|
  M.gi (ab*(((aa.getD (Int.toNat ((s2:Int)+1)) default).place)-((aa.getD s2 default).place))) <|
  M.gi (ac*(((aa.getD (Int.toNat ((s2:Int)+1)) default).place)-((aa.getD s2 default).place))) <|
  M.grd (decide ((0:Int)<=(s2:Int))&&decide ((s2:Int)<(40:Int))) <|
  bif ah.getD s2 false then (
  M.bind (ae t2 ((s2:Int),(⟨(ab*(((aa.getD (Int.toNat ((s2:Int)+1)) default).place)-((aa.getD s2 default).place)):Int),(200000000:Int)⟩:Span))) fun (go,t) =>
  bif !go then (
  M.pure (.inr (.inl t)))
  else (
  M.pure (.inl (s2+1,t))))
  else (
  M.bind (ae t2 ((s2:Int),(⟨(ab*(((aa.getD (Int.toNat ((s2:Int)+1)) default).place)-((aa.getD s2 default).place)):Int),(ac*(((aa.getD (Int.toNat ((s2:Int)+1)) default).place)-((aa.getD s2 default).place)):Int)⟩:Span))) fun (go,t) =>
  bif !go then (
  M.pure (.inr (.inl t)))
  else (
  M.pure (.inl (s2+1,t)))))
  else (
  M.pure (.inr (.inr t2)))
def zbP {T_:Type} (aa:T_->(Int × Span)->M (Bool × T_)) (t_:T_) (ab ac ai aj ak:Int) (ae:List CMk) (al:List CNt) (am:List (Int × CNt)) (ah:List Bool):M T_ :=
  M.bind (M.iter (zc6 aa ab ac ae ah) (0,t_)) fun x_=>match x_ with
  | (.inl t3)=>(
  M.pure t3)
  | (.inr t4)=>(
  M.pure t4)
theorem zgk {R:List Chunk} {T_:Type} {Y_:T_->List Chunk->Prop} {aj:Value} {ak:List Chunk} {al:Nat} {am:Nat} {au:Cells} {av:Value} {aw:Cells} {ax:Value} {ay:Nat} (ao:T_->(Int × Span)->M (Bool × T_)) (t_:T_) (ab:Int) (ac:Int) (az:Int) (aA:Int) (aB:Int) (aa:List CMk) (aC:List CNt) (aD:List (Int × CNt)) (ae:List Bool) (aE:YieldC Tryz.prog R arISpan Y_ aj ao) (aM:Y_ t_ ak) (aY:Reads R au) (aN:Sl au av aa) (aZ:Reads R aw) (a6:Sl aw ax aC) (a7:Has R (cMl I encCN ay aD)) (aO:ae.length=40) (aP:Has R (cBlk am (List.flatten [[I ab,I ac,I az,I aA,I aB,av,ax,.map (some ay)],encF (α:=Bool) ae]) 227)) (a8:Has R (cBlk al [Pq am] 78)) {r:T_} (hM:(zbP ao t_ ab ac az aA aB aa aC aD ae).Ends r) (w:World) (H:St w w [cAll ak] R):Ret Tryz.prog 103 #[aj,Pq al] w fun v w'=>∃ (y0:T_) (Ls0:List Chunk),y0=r/\v = .tuple #[]/\St w w' [cAll Ls0] R/\Y_ y0 Ls0:=by
 refine ret_of_W Tryz.func103 rfl rfl rfl ?_;have ba:=(aN).len_le;refine kg 12 ?_;obtain ⟨aQ,ap,aq⟩:=M.e_bind hM;obtain ⟨bb,ap⟩:=M.e_iter ap;refine W.loop (fun m σ W=>∃ (s2:Nat) (t2:T_) (Ls_t2:List Chunk) (ρ:Env),σ=upds ρ [(0,aj),(1,Pq al),(12,I ((aa.length:Int)-1)),(13,I (s2:Int))]/\M.iterN (zc6 ao ab ac aa ae) m (s2,t2)=some aQ/\St w W [cAll Ls_t2] R/\Y_ t2 Ls_t2) ?_ ?_
 ·exact ⟨_,0,t_,ak,_,jQ,ap,H,aM⟩
 rintro bc σ bf ⟨s2,t2,Ls_t2,ρ,rfl,aR,H,hY_t2⟩;obtain ⟨aF,aG,bg,hM,ah⟩:=M.e_iterN aR;refine kI 5 ?_ ?_
 ·intro aS hM;refine kD 9 [0] [] ?_;intro bh H;obtain ⟨bi,hM⟩:=M.e_gq hM;obtain ⟨bj,hM⟩:=M.e_gq hM;obtain ⟨bm,hM⟩:=M.e_gq hM;obtain ⟨bn,hM⟩:=M.e_gq hM;refine kD 23 [0] [17,18] ?_;intro bo H;obtain ⟨bp,hM⟩:=M.e_gq hM;obtain ⟨br,hM⟩:=M.e_gq hM;refine kA 18 ?_;intro aH bt H;refine kN ?_;refine kS 1 ?_;intro bu H;refine kN ?_;obtain ⟨bv,hM⟩:=M.e_gq hM;refine kg 8 ?_;refine s_val (x_ix (v:=.pointer (some ⟨am,8+Int.toNat (s2:Int)*1,none⟩)) rfl rfl (run_indexS Tryz.underlying225 Sz4.h (by omega) (by omega)))<|s_val (x_ld (v:=B (ae.getD s2 false)) rfl (ldS (α:=Bool) (k:=1) (off:=8) (i:=s2) (f:=0) (sz:=1) false Sc4.h (aP.blk H) rfl (sgo1 rfl) rfl (by decide) (by have bw:=aO; omega) (by omega) rfl)) ?_;refine kI 1 ?_ ?_
  ·intro aT hM;refine kS 2 ?_;intro bx H;refine kg 6 ?_;obtain ⟨⟨go,t⟩,aU,hM⟩:=M.e_bind hM;refine t_yield (L:=[cBlk aH [I (ab*(((aa.getD (Int.toNat ((s2:Int)+1)) default).place)-((aa.getD s2 default).place))),I 200000000] 27]) (H.pk [1,0]) aE hY_t2 rfl [I (s2:Int),.agg #[I (ab*(((aa.getD (Int.toNat ((s2:Int)+1)) default).place)-((aa.getD s2 default).place))),I 200000000]] rfl ((s2:Int),(⟨(ab*(((aa.getD (Int.toNat ((s2:Int)+1)) default).place)-((aa.getD s2 default).place)):Int),(200000000:Int)⟩:Span)) Reads.none rfl aU ?_;intro aI bz aJ H;replace H:=H.nf;refine kI 2 ?_ ?_
   ·intro aV hM;refine W.ret ?_;obtain rfl:=M.e_inr hM ah;replace hM:=aq;have ai:=M.e_pure hM;exact ⟨_,resE_tmp0 rfl,⟨t,aI,ai,rfl,(H.pk [0]),aJ⟩⟩
   intro aV hM;refine kg 5 ?_;exact ⟨aF,aG,s2+1,t,aI,_,jQ,M.e_inl hM ah,(H.pk [0]),aJ⟩
  intro aT hM;refine kg 6 ?_;obtain ⟨⟨go,t⟩,aW,hM⟩:=M.e_bind hM;refine t_yield (L:=[cBlk aH [I (ab*(((aa.getD (Int.toNat ((s2:Int)+1)) default).place)-((aa.getD s2 default).place))),I (ac*(((aa.getD (Int.toNat ((s2:Int)+1)) default).place)-((aa.getD s2 default).place)))] 27]) (H.pk [1,0]) aE hY_t2 rfl [I (s2:Int),.agg #[I (ab*(((aa.getD (Int.toNat ((s2:Int)+1)) default).place)-((aa.getD s2 default).place))),I (ac*(((aa.getD (Int.toNat ((s2:Int)+1)) default).place)-((aa.getD s2 default).place)))]] rfl ((s2:Int),(⟨(ab*(((aa.getD (Int.toNat ((s2:Int)+1)) default).place)-((aa.getD s2 default).place)):Int),(ac*(((aa.getD (Int.toNat ((s2:Int)+1)) default).place)-((aa.getD s2 default).place)):Int)⟩:Span)) Reads.none rfl aW ?_;intro aK bA aL H;replace H:=H.nf;refine kI 2 ?_ ?_
  ·intro aX hM;refine W.ret ?_;obtain rfl:=M.e_inr hM ah;replace hM:=aq;have ai:=M.e_pure hM;exact ⟨_,resE_tmp0 rfl,⟨t,aK,ai,rfl,(H.pk [0]),aL⟩⟩
  intro aX hM;refine kg 5 ?_;exact ⟨aF,aG,s2+1,t,aK,_,jQ,M.e_inl hM ah,(H.pk [0]),aL⟩
 intro aS hM;refine W.exit ?_;obtain rfl:=M.e_inr hM ah;replace hM:=aq;have ai:=M.e_pure hM;exact ⟨_,resE_tmp0 rfl,⟨t2,Ls_t2,ai,rfl,H,hY_t2⟩⟩
def zat (mark:Int) (s:Span) (aa:List Span):M (List Span) :=
  M.grd (decide ((0:Int)<=mark)&&decide (mark<(aa.length:Int))) <|
  M.bind (zav (aa.getD (Int.toNat mark) default) ([s])) fun (r0,r1) =>
  M.pure (aa.set (Int.toNat mark) (⟨(r0:Int),(r1:Int)⟩:Span))
theorem zdI {R ae aa}(mark s ab){r}(hM:(zat mark s ab).Ends r)(w)(H:St w w [cOwn (α:=Span) 27 aa ab,cBlk ae [aa] 23] R):Ret Tryz.prog 55 #[I mark,.agg #[I s.lo,I s.hi],Pq ae] w fun v w'=>∃ y0 u0,y0=r/\v = .tuple #[]/\St w w' [cOwn (α:=Span) 27 u0 y0,cBlk ae [u0] 23] R:=by
 refine ret_of_W Tryz.func55 rfl rfl rfl ?_;refine kB 2 ?_;intro ah ai H;refine kDT 1 [0,2] (.q 0 (.q 1 (.q 2 (.q 3 (.q 6 (.l2 4 (.l2 5 (.l 7 (.l 8 (.l 9 (.l 10 .nil)))) 7 (.l 5 (.l 8 (.l 9 (.l 10 .nil))))) 7 (.l 4 (.l 5 (.l 8 (.l 9 (.l 10 .nil))))))))))) ?_;intro aj H;refine kg 5 ?_;refine t_l2 rfl rfl ?_ ?_
 ·obtain ⟨ak,hM⟩:=M.e_gq hM;refine kG 1 ?_;refine kN ?_;refine t_l2 rfl rfl ?_ ?_
  ·refine kG 1 ?_;refine kN ?_;refine kL 1 (α:=Span) [s] ?_;intro al am H;refine kN ?_;refine kC 1 @zct ?_;intro ao r0 r1 hM H;refine kN ?_;refine kG 2 ?_;refine kN ?_;refine kO 1 (⟨(r0:Int),(r1:Int)⟩:Span) ?_;intro ap H;refine kN ?_;refine t_nil ?_;have ac:=M.e_pure hM;exact ⟨_,resE_tmp0 rfl,⟨(ab.set (Int.toNat mark) (⟨(r0:Int),(r1:Int)⟩:Span)),aa,ac,rfl,(H.pk [2,3])⟩⟩
  refine kL 0 (α:=Span) [s] ?_;intro aq au H;refine kN ?_;refine kG 2 ?_;refine kN ?_;refine kC 1 @zct ?_;intro av r0 r1 hM H;refine kN ?_;refine kG 2 ?_;refine kN ?_;refine kO 1 (⟨(r0:Int),(r1:Int)⟩:Span) ?_;intro aw H;refine kN ?_;refine t_nil ?_;have ac:=M.e_pure hM;exact ⟨_,resE_tmp0 rfl,⟨(ab.set (Int.toNat mark) (⟨(r0:Int),(r1:Int)⟩:Span)),aa,ac,rfl,(H.pk [2,3])⟩⟩
 refine kL 0 (α:=Span) [s] ?_;intro ax ay H;refine kN ?_;refine t_l rfl ?_;obtain ⟨az,hM⟩:=M.e_gq hM;refine kG 1 ?_;refine kN ?_;refine kG 2 ?_;refine kN ?_;refine kC 1 @zct ?_;intro aA r0 r1 hM H;refine kN ?_;refine kG 2 ?_;refine kN ?_;refine kO 1 (⟨(r0:Int),(r1:Int)⟩:Span) ?_;intro aB H;refine kN ?_;refine t_nil ?_;have ac:=M.e_pure hM;exact ⟨_,resE_tmp0 rfl,⟨(ab.set (Int.toNat mark) (⟨(r0:Int),(r1:Int)⟩:Span)),aa,ac,rfl,(H.pk [2,3])⟩⟩

def zcy (s:Span):M Bool :=
  M.pure (decide (s.lo<=s.hi))
theorem ze7 {R}(s){r}(hM:(zcy s).Ends r)(w)(H:St w w [] R):Ret Tryz.prog 58 #[.agg #[I s.lo,I s.hi]] w fun v w'=>∃ y0,y0=r/\v=B y0/\St w w' [] R:=by
 refine ret_of_W Tryz.func58 rfl rfl rfl ?_;refine kB 2 ?_;intro aa ab H;refine kg 11 ?_;exact rt

def zar  : (List Span)->(Int × Span)->M ((List Span) ⊕ Unit):=fun l (x,x2) =>
  M.grd (decide ((l.length+([x2]).length)*16<=140737488355328)) <|
  M.pure (.inl (l++([x2])))
def zaH (l:List Span):((List Span) × Nat)->M (((List Span) × Nat) ⊕ ((List Span) × (List Span))):=fun (l2,s) =>
  bif decide ((s:Int)<(l.length:Int)) then (
  M.grd (decide ((s:Int)<(l.length:Int))) <|
  M.grd (decide ((s:Int)<(l2.length:Int))) <|
  M.gi (((l2.getD s default).lo)+((l.getD s default).lo)) <|
  M.gi (((l2.getD s default).hi)+((l.getD s default).hi)) <|
  M.bind (zat ((s:Int)+1) (⟨(((l2.getD s default).lo)+((l.getD s default).lo):Int),(((l2.getD s default).hi)+((l.getD s default).hi):Int)⟩:Span) l2) fun l_k02 =>
  M.pure (.inl (l_k02,s+1)))
  else (
  M.pure (.inr (l2,l2)))
def zaO (l:List Span):((List Span) × Int)->M (((List Span) × Int) ⊕ ((List Span) × (List Span))):=fun (l5,g) =>
  bif decide (0<=g) then (
  M.gi (g+1) <|
  M.grd (decide ((0:Int)<=(g+1))&&decide ((g+1)<(l5.length:Int))) <|
  M.grd (decide ((0:Int)<=g)&&decide (g<(l.length:Int))) <|
  M.gi (((l5.getD (Int.toNat (g+1)) default).lo)-((l.getD (Int.toNat g) default).hi)) <|
  M.gi (((l5.getD (Int.toNat (g+1)) default).hi)-((l.getD (Int.toNat g) default).lo)) <|
  M.bind (zat g (⟨(((l5.getD (Int.toNat (g+1)) default).lo)-((l.getD (Int.toNat g) default).hi):Int),(((l5.getD (Int.toNat (g+1)) default).hi)-((l.getD (Int.toNat g) default).lo):Int)⟩:Span) l5) fun l_k022 =>
  M.gi (g-1) <|
  M.pure (.inl (l_k022,g-1)))
  else (
  M.pure (.inr (l5,l5)))
def zan (aa ab ac ae ah:Int) (ai:List CMk) (aj:List CNt) (ak:List (Int × CNt)) (al:List Bool) (times:List Span):M ((List Span) × Bool) :=
  M.bind (zdB times) fun r2 =>
  M.bind (zdV aa ab ac ae ah ai aj ak) fun (_:Unit) =>
  M.bind (zbP (M.yl zar) (.inl ([])) aa ab ac ae ah ai aj ak al) fun x_=>match x_ with
  | .inl l=>(
  M.bind (M.iter (zaH l) (r2,0)) fun (l3,l4) =>
  M.bind (M.iter (zaO l) (l4,(l.length:Int)-1)) fun (l6,l7) =>
  M.bind (zau l7 (fun am=>zcy am)) fun r3 =>
  M.pure (l7,r3))
  | .inr _=>M.fail
theorem zd7 {R ae aP aQ aR aS aT aU aV}(ap aq au av aw ax ay az aA times)(aB:Reads R aP)(aH:Sl aP aQ ax)(aC:Reads R aR)(aI:Sl aR aS ay)(aD:Has R (cMl I encCN aT az))(ba:aA.length=40)(aE:Has R (cBlk ae (List.flatten [[I ap,I aq,I au,I av,I aw,aQ,aS,.map (some aT)],encF (α:=Bool) aA]) 227))(aW:Reads R aU)(bb:Sl aU aV times){r}(hM:(zan ap aq au av aw ax ay az aA times).Ends r)(w)(H:St w w [] R):Ret Tryz.prog 19 #[Pq ae,aV] w fun v w'=>∃ y0 y1 u0,(y0,y1)=r/\v = .tuple #[u0,B y1]/\St w w' [cOwn (α:=Span) 27 u0 y0] R:=by
 refine ret_of_WD Tryz.func19 rfl rfl rfl ?_;replace H:St w w [cMk ([])] R:=H.mk0;have bL:=aH.len_le;have bM:=aI.len_le;have bN:=bb.len_le;unfold zan at hM;refine WD.seq<|WD.of ?_;refine kg 4 ?_;refine WD.seq<|WD.of ?_;refine kC 2 @zdR ?_;intro bO r2 ah hM H;refine kal ?_;intro ab bP H;refine kS 0 ?_;intro bQ H;refine s_nil<|WD.seq<|WD.of ?_;refine kA 1 ?_;intro ac bR H;refine s_nil<|WD.seq<|WD.seq<|WD.of ?_;refine kg 2 ?_;obtain ⟨bS,bc,hM⟩:=M.e_bind hM;refine s_call cq [Pq ae] rfl (zga ap aq au av aw ax ay az (aB.app _) aH (aC.app _) aI (aD.app _) (Fld.of (aE.app _) rfl) bc _ (H.gt 4)) ?_
 rintro _ bT ⟨aj,rfl,rfl,ai⟩;replace H:=H.bk ai;refine s_nil<|WD.block ?_
 replace H:=H.nilOwn (α:=Span) 27;obtain ⟨bU,bf,hM⟩:=M.e_bind hM;refine WD.range (L:=[cOwn (α:=Span) 27 (.slice none 0 0) ([]),cBlk ac [(.slice none 0 0)] 23,cBlk aj [Pq ae] 78,cBlk ab [ah] 23,cOwn (α:=Span) 27 ah r2]) [Pq aj] (H.pk [5,0,2,1,3,4]) rfl cq ?_;intro aF aJ aK bg aL H;have hYC:YieldC Tryz.prog ([cMk (aJ :: ([])),cBlk aj [Pq ae] 78,cBlk ab [ah] 23,cOwn (α:=Span) 27 ah r2]++R) arISpan (yJ aF aK (fun l aG=>∃ (aa:Value),aG=[cOwn (α:=Span) 27 aa l,cBlk ac [aa] 23]) (fun (_:Unit) _=>False) (fun _=>.ret)) (.func (.yield aF) #[] #[]) (M.yl zar):=by
  refine YieldC.mk2 aL (fun l aG=>∃ (aa:Value),aG=[cOwn (α:=Span) 27 aa l,cBlk ac [aa] 23]) (fun (_:Unit) _=>False) (fun _=>.ret) zar (by rintro l _ h_; obtain ⟨_,rfl⟩:=h_; rfl) (fun _ _ h_=>h_.elim) rfl (arISpan_len rfl) ?_;intro C_ bV x_ bh;obtain ⟨x,x2⟩:=x_;obtain rfl:=bh;intro w R ak aG s_ r bi hM H
  skip
  obtain ⟨l,bj⟩:∃ y_,y_=s_:=⟨_,rfl⟩
  subst bj;obtain ⟨aa,rfl⟩:=bi;replace H:=H.nf;refine kA 1 ?_;intro bm bW H;refine ksw ?_;intro bX H;refine s_nil ?_;refine ⟨rfl,[cBlk bm [I x2.lo,I x2.hi] 27],H.pick [0,1,2,3,4,5,6] (by decide) rfl,?_⟩;clear H ak;intro w R ak H;replace aB:=aB.sub ak;replace aC:=aC.sub ak;replace aD:=aD.sub ak;replace aE:=aE.sub ak;replace aW:=aW.sub ak;replace hM:(zar l (x,x2)).Ends r:=hM;simp only [zar] at hM;replace H:=H.nf;refine kL 4 (α:=Span) [x2] ?_;intro bY bZ H;obtain ⟨b4,hM⟩:=M.e_gq hM;refine kP 0 ?_;intro aM b6 H;refine kS 0 ?_;intro b7 H;refine s_nil ?_;exact ⟨l++([x2]),[cOwn (α:=Span) 27 aM (l++([x2])),cBlk ac [aM] 23],(M.e_pure hM).symm,⟨aM,rfl⟩,H.pick [2,3,4,5,6,7] (by decide) rfl⟩
 replace H:St w bg (cAll (cObj aF (.loop aK) :: [cOwn (α:=Span) 27 (.slice none 0 0) ([]),cBlk ac [(.slice none 0 0)] 23]) :: [cMk (aJ :: ([])),cBlk aj [Pq ae] 78,cBlk ab [ah] 23,cOwn (α:=Span) 27 ah r2]) R:=St.bundleB (A:=cObj aF (.loop aK) :: [cOwn (α:=Span) 27 (.slice none 0 0) ([]),cBlk ac [(.slice none 0 0)] 23]) (T:=[cMk (aJ :: ([])),cBlk aj [Pq ae] 78,cBlk ab [ah] 23,cOwn (α:=Span) 27 ah r2]) rfl (H.pk [0,2,3,1,4,5,6]);refine (zgk (M.yl zar) (.inl ([])) ap aq au av aw ax ay az aA hYC ⟨_,rfl,⟨(.slice none 0 0),rfl⟩⟩ (aB.app _) aH (aC.app _) aI (aD.app _) ba (aE.app _) (Has.here (k:=1) rfl) bf _ (H.gt 4)).mono ?_;rintro vq b8 ⟨bn,b9,rfl,hvq,ai,aX⟩;replace H:=H.back ai rfl;clear ai hYC;rcases bn with l | _
 ·obtain ⟨_,rfl,aa,rfl⟩:=aX;refine ⟨_,[cOwn (α:=Span) 27 aa l,cBlk ac [aa] 23,cBlk aj [Pq ae] 78,cBlk ab [ah] 23,cOwn (α:=Span) 27 ah r2],H.unbundle.pick [0,3,1,2,4,5,6] (by decide) rfl,aL.nb,?_⟩;intro cb H;rw [aL.pd];replace H:=H.nf
  try simp only []
  refine WD.seq<|WD.of<|W.region rfl<|s_val (x_mf (fs:=[]) (cs:=[Pq ab]) rfl rfl) ?_;refine kg 2 ?_;refine WD.seq<|WD.seq<|WD.of ?_
  have cc:=((H.os 1)).len_le;refine kg 5 ?_;refine WD.block ?_;obtain ⟨bo,aY,bp⟩:=M.e_bind hM;obtain ⟨br,aY⟩:=M.e_iter aY;refine WD.loop (fun m aZ σ W=>∃ (l2:List Span) (s:Nat) (aN:Value) (ρ:Env),σ=upds ρ [(6,Pq ab),(7,Pq ac),(10,.func (.func 55) #[] #[Pq ab]),(25,aa),(26,I (l.length:Int)),(27,I (s:Int))]/\M.iterN (zaH l) m (l2,s)=some bo/\St w W [cMk aZ,cOwn (α:=Span) 27 aa l,cBlk ac [aa] 23,cBlk aj [Pq ae] 78,cBlk ab [aN] 23,cOwn (α:=Span) 27 aN l2] R) ?_ ?_
  ·exact kY
  rintro cd aZ σ ce ⟨l2,s,aN,ρ,rfl,bt,H⟩;obtain ⟨cf,cg,ch,hM,bu⟩:=M.e_iterN bt;refine WD.seq<|WD.of ?_;refine kg 3 ?_;refine WD.seq ?_
  refine WD.cond (decide ((s:Int)<(l.length:Int))) rfl (fun al=>?_) (fun al=>?_)
  ·replace hM:=M.e_t hM al;replace al:=dI al;refine WD.of<|W.skip<|WD.seq<|WD.block<|WD.seq<|WD.of ?_;obtain ⟨cj,hM⟩:=M.e_gq hM;refine kA 4 ?_;intro ck cn H;refine kS 1 ?_;intro cp H;refine s_nil<|WD.of ?_;refine kDS 0 [0,1,2,3,4,5,6] (.q 0 (.q 1 (.q 2 (.q 3 (.q 4 (.q 5 (.q 6 (.q 7 (.q 8 (.q 9 (.q 10 (.q 11 (.q 12 (.q 13 (.q 14 (.q 15 (.q 16 (.q 17 (.q 18 (.q 19 .nil)))))))))))))))))))) 20 [20] ?_;intro cr H;obtain ⟨ct,hM⟩:=M.e_gq hM;obtain ⟨cu,hM⟩:=M.e_gq hM;obtain ⟨cv,hM⟩:=M.e_gq hM;refine kG 22 ?_;obtain ⟨cB,bv,hM⟩:=M.e_bind hM;refine s_callv (f:=55) rfl cq [I ((s:Int)+1),.agg #[I (((l2.getD s default).lo)+((l.getD s default).lo)),I (((l2.getD s default).hi)+((l.getD s default).hi))]] rfl (zdI ((s:Int)+1) (⟨(((l2.getD s default).lo)+((l.getD s default).lo):Int),(((l2.getD s default).hi)+((l.getD s default).hi):Int)⟩:Span) l2 bv _ ((H.pk [6,5,0,1,2,3,4]).gt 5)) ?_
   rintro _ cC ⟨l_k02,cD,rfl,rfl,ai⟩;replace H:=H.pk [6,5,0,1,2,3,4] |>.bk ai
   refine s_nil ⟨trivial,?_⟩;refine sr_nil<|WD.of ?_
   exact kXp 4 [3,4,5,6,1,0]
  replace hM:=M.e_f hM al;replace al:=dI al;refine WD.of ?_;refine W.exit ?_;obtain rfl:=M.e_inr hM bu;replace hM:=bp;refine WD.seq<|WD.seq<|WD.of ?_
  have cE:=((H.os 1)).len_le;refine kg 6 ?_;refine WD.block ?_;obtain ⟨bw,a6,bx⟩:=M.e_bind hM;obtain ⟨br,a6⟩:=M.e_iter a6;refine WD.loop (fun m a7 σ W=>∃ (l5:List Span) (g:Int) (ao:Value) (ρ:Env),σ=upds ρ [(6,Pq ab),(7,Pq ac),(10,.func (.func 55) #[] #[Pq ab]),(13,I g)]/\M.iterN (zaO l) m (l5,g)=some bw/\St w W [cMk a7,cOwn (α:=Span) 27 aa l,cBlk ac [aa] 23,cBlk aj [Pq ae] 78,cBlk ab [ao] 23,cOwn (α:=Span) 27 ao l5] R) ?_ ?_
  ·exact kY
  rintro cF a7 σ cG ⟨l5,g,ao,ρ,rfl,bz,H⟩;obtain ⟨cH,cI,cJ,hM,bA⟩:=M.e_iterN bz;refine WD.seq<|WD.seq<|WD.of ?_;refine kg 4 ?_
  refine WD.cond (decide (0<=g)) rfl (fun am=>?_) (fun am=>?_)
  ·replace hM:=M.e_t hM am;replace am:=dI am;refine WD.of<|W.skip<|WD.seq<|WD.block<|WD.of ?_;refine kDS 0 [0,1,2,3,4,5] (.q 0 (.q 1 (.q 2 (.q 3 (.q 4 (.q 5 (.q 6 (.q 7 (.q 8 (.q 9 (.q 10 (.q 11 (.q 12 (.q 13 (.q 14 (.q 15 (.q 16 (.q 17 (.q 18 (.q 19 (.q 20 (.q 21 (.q 22 (.q 23 (.q 24 (.q 25 (.q 26 .nil))))))))))))))))))))))))))) 27 [27] ?_;intro cK H;obtain ⟨cL,hM⟩:=M.e_gq hM;obtain ⟨cM,hM⟩:=M.e_gq hM;obtain ⟨cN,hM⟩:=M.e_gq hM;obtain ⟨cO,hM⟩:=M.e_gq hM;obtain ⟨cP,hM⟩:=M.e_gq hM;refine kG 29 ?_;obtain ⟨cQ,bB,hM⟩:=M.e_bind hM;refine s_callv (f:=55) rfl cq [I g,.agg #[I (((l5.getD (Int.toNat (g+1)) default).lo)-((l.getD (Int.toNat g) default).hi)),I (((l5.getD (Int.toNat (g+1)) default).hi)-((l.getD (Int.toNat g) default).lo))]] rfl (zdI g (⟨(((l5.getD (Int.toNat (g+1)) default).lo)-((l.getD (Int.toNat g) default).hi):Int),(((l5.getD (Int.toNat (g+1)) default).hi)-((l.getD (Int.toNat g) default).lo):Int)⟩:Span) l5 bB _ ((H.pk [5,4,0,1,2,3]).gt 4)) ?_
   rintro _ cR ⟨l_k022,cS,rfl,rfl,ai⟩;replace H:=H.pk [5,4,0,1,2,3] |>.bk ai
   refine s_nil ⟨trivial,?_⟩;refine sr_nil<|WD.of ?_;obtain ⟨cT,hM⟩:=M.e_gq hM
   exact kXp 5 [2,3,4,5,1,0]
  replace hM:=M.e_f hM am;replace am:=dI am;refine WD.of ?_;refine W.exit ?_;obtain rfl:=M.e_inr hM bA;replace hM:=bx;replace H:=H.pk [0,4,5];refine WD.seq<|WD.of ?_;refine kD 0 [0,1,2] [2] ?_;intro cU H;refine kg 2 ?_;refine d_l rfl ?_;obtain ⟨cV,bC,hM⟩:=M.e_bind hM;refine s_call cq [ao,.func (.func 58) #[] #[]] rfl (zeS l5 (fun aO=>zcy aO) (rdo 2) (H.os 2) ⟨58,[],rfl,cq,fun a8 cW cX bD aO cY bE cZ bF bG=>by obtain rfl:=Span_arg bF; exact (ze7 aO bG a8 (St.refl bE)).mono fun bD a8 ⟨c4,bH,bI,bJ⟩=>by subst bH; exact ⟨bI,bJ⟩⟩ bC _ (H.gt 3)) ?_
  rintro _ c6 ⟨r3,rfl,rfl,ai⟩;replace H:=H.bk ai;refine kN ?_;refine kg 3 ?_;refine WD.of ?_;refine W.ret ?_;refine bodyD_r (H.pk [0,1,2]) ?_;intro c7 H;replace H:=H.nf;have bK:=M.e_pure hM;exact ⟨_,resE_tmp2 rfl,⟨l5,r3,ao,bK,rfl,(H.pk [1])⟩⟩
 obtain ⟨_,_,h_⟩:=aX; exact h_.elim

def zc3 (aa ab ac ae ah:Int) (ai:List CMk) (aj:List CNt) (ak:List (Int × CNt)) (al:List Bool):M ((List Span) × Bool) :=
  M.bind (zaU aa ab ac ae ah ai aj ak) fun (r0,r1) =>
  bif !r1 then (
  M.pure (([]),false))
  else (
  M.bind (zcL aa ab ac ae ah ai aj ak) fun r2 =>
  M.bind (zan aa ab ac ae ah ai aj ak al r2) fun (am,ao) =>
  M.pure (am,ao))
theorem zfO {R aa ap aq au av aw}(ab ac ae ah ai aj ak al am)(ax:Reads R ap)(ay:Sl ap aq aj)(az:Reads R au)(aA:Sl au av ak)(aB:Has R (cMl I encCN aw al))(aH:am.length=40)(aC:Has R (cBlk aa (List.flatten [[I ab,I ac,I ae,I ah,I ai,aq,av,.map (some aw)],encF (α:=Bool) am]) 227)){r}(hM:(zc3 ab ac ae ah ai aj ak al am).Ends r)(w)(H:St w w [] R):Ret Tryz.prog 51 #[Pq aa] w fun v w'=>∃ y0 y1 u0,(y0,y1)=r/\v = .tuple #[u0,B y1]/\St w w' [cOwn (α:=Span) 27 u0 y0] R:=by
 refine ret_of_W Tryz.func51 rfl rfl rfl ?_;refine kg 9 ?_;obtain ⟨aI,aD,hM⟩:=M.e_bind hM;refine s_call cq [Pq aa] rfl (zdY ab ac ae ah ai aj ak al (ax.app _) ay (az.app _) aA (aB.app _) (Fld.of (aC.app _) rfl) aD _ (H.gt 0)) ?_;rintro _ aJ ⟨r0,r1,aK,rfl,rfl,ao⟩;replace H:=H.bk ao;refine kI 11 ?_ ?_
 ·intro aE hM;refine kg 5 ?_;refine W.ret ?_;have aF:=M.e_pure hM;replace H:=H.nilOwn (α:=Span) 27;exact ⟨_,resE_tmp2 rfl,⟨([]),false,(.slice none 0 0),aF,rfl,(H.pk [0])⟩⟩
 intro aE hM;refine kg 5 ?_;obtain ⟨aL,aG,hM⟩:=M.e_bind hM;refine s_call cq [Pq aa] rfl (zgb ab ac ae ah ai aj ak al (ax.app _) ay (az.app _) aA (aB.app _) (Fld.of (aC.app _) rfl) aG _ (H.gt 1)) ?_;rintro vq aM ⟨r2,aN,rfl,hvq,ao⟩;subst vq;replace H:=H.bk ao;refine kC 0 @zd7 ?_;intro aO aP aQ aR hM H;refine kg 5 ?_;replace H:=H.pk [0];exact rt

def zcK (c_Pace_Lo c_Pace_Hi c_Base c_Scale c_Off:Int) (c_Marks:List CMk) (c_Notes:List CNt) (stops:List Int):M (Int ⊕ (Int × Int × Int × Int × Int × (List (Int × CNt)) × (List Bool) × (List Span) × (List Span) × Int)) :=
  M.bind (zcS c_Pace_Lo c_Pace_Hi c_Base c_Scale c_Off c_Marks c_Notes stops) fun (aa,ab,ac,ae,ah,ai,aj,r1) =>
  bif r1 != 0 then (
  M.pure (.inl r1))
  else (
  M.bind (zc3 aa ab ac ae ah c_Marks c_Notes ai aj) fun (r0,ak) =>
  bif !ak then (
  M.pure (.inl 6))
  else (
  M.bind (zaU aa ab ac ae ah c_Marks c_Notes ai) fun (al,am) =>
  M.pure (.inr (aa,ab,ac,ae,ah,ai,aj,r0,al,0))))
theorem zfa {R ae ab ah ac ai aj}(c_Pace_Lo c_Pace_Hi c_Base c_Scale c_Off c_Marks c_Notes stops)(aF:Reads R ae)(aG:Sl ae ab c_Marks)(aH:Reads R ah)(aI:Sl ah ac c_Notes)(aJ:Reads R ai)(aK:Sl ai aj stops){r}(hM:(zcK c_Pace_Lo c_Pace_Hi c_Base c_Scale c_Off c_Marks c_Notes stops).Ends r)(w)(H:St w w [] R):Ret Tryz.prog 18 #[.agg #[I c_Pace_Lo,I c_Pace_Hi,I c_Base,I c_Scale,I c_Off,ab,ac],aj] w fun v w'=>(∃ (y0:Int),(.inl y0)=r/\v = .tuple #[.pointer none,.slice none 0 0,.slice none 0 0,I y0]/\St w w' [] R)∨(∃ (y0:Int) (y1:Int) (y2:Int) (y3:Int) (y4:Int) (y5:List (Int × CNt)) (y6:List Bool) (y7:List Span) (y8:List Span) (y9:Int) (ak:Nat) (al:Nat) (u2:Value) (u3:Value),(.inr (y0,y1,y2,y3,y4,y5,y6,y7,y8,y9))=r/\v = .tuple #[Pq ak,u2,u3,I y9]/\St w w' [cBlk ak (List.flatten [[I y0,I y1,I y2,I y3,I y4,ab,ac,.map (some al)],encF (α:=Bool) y6]) 227,cMl I encCN al y5,cOwn (α:=Span) 27 u2 y7,cOwn (α:=Span) 27 u3 y8] R/\y6.length=40):=by
 refine ret_of_W Tryz.func18 rfl rfl rfl ?_;refine kB 2 ?_;intro aL aM H;refine kC 9 @zf1 ?_;intro aN am ao ap aq au av aw r1 ax ay az hM H;refine kI 12 ?_ ?_
 ·intro aA hM;refine kg 8 ?_;replace H:=H.pk [];refine W.ret ?_;have aa:=M.e_pure hM;exact ⟨_,resE_tmp4 rfl,.inl (⟨r1,aa,rfl,H⟩)⟩
 intro aA hM;refine kC 4 @zfO ?_;intro aO r0 aP aB hM H;refine kI 12 ?_ ?_
 ·intro aC hM;refine kg 7 ?_;replace H:=H.pk [];refine W.ret ?_;have aa:=M.e_pure hM;exact ⟨_,resE_tmp4 rfl,.inl (⟨6,aa,rfl,H⟩)⟩
 intro aC hM;refine kC 4 @zdY ?_;intro aQ aD aR aE hM H;refine kg 16 ?_;refine W.ret ?_;have aa:=M.e_pure hM;exact ⟨_,resE_tmp4 rfl,.inr (⟨am,ao,ap,aq,au,av,aw,r0,aD,0,ax,ay,aB,aE,aa,rfl,(H.pk [2,3,1,0]),az⟩)⟩

end Go.Proofs.YtbgoclcmgbpckabGreat
end
section
set_option maxRecDepth 100000
set_option maxHeartbeats 16000000
namespace Go.Proofs.YtbgoclcmgbpckabGreat
open Go Go.Nm
attribute [local irreducible] gd execOp SL SLD SLT WR
def za9 (aa ab ac ae ah:Int) (ai:List CMk) (aj:List CNt) (ak:List (Int × CNt)) (times:List Span) (mark ahead behind:Int):M (List Span) :=
  M.bind (zdB times) fun r2 =>
  bif decide (0<mark) then (
  M.gi (mark-1) <|
  M.grd (decide ((0:Int)<=(mark-1))&&decide ((mark-1)<(r2.length:Int))) <|
  bif decide (mark<((r2.set (Int.toNat (mark-1)) ({ (r2.getD (Int.toNat (mark-1)) default) with hi:=min ((r2.getD (Int.toNat (mark-1)) default).hi) ahead })).length:Int)) then (
  M.grd (decide ((0:Int)<=mark)&&decide (mark<((r2.set (Int.toNat (mark-1)) ({ (r2.getD (Int.toNat (mark-1)) default) with hi:=min ((r2.getD (Int.toNat (mark-1)) default).hi) ahead })).length:Int))) <|
  M.pure ((r2.set (Int.toNat (mark-1)) ({ (r2.getD (Int.toNat (mark-1)) default) with hi:=min ((r2.getD (Int.toNat (mark-1)) default).hi) ahead })).set (Int.toNat mark) ({ ((r2.set (Int.toNat (mark-1)) ({ (r2.getD (Int.toNat (mark-1)) default) with hi:=min ((r2.getD (Int.toNat (mark-1)) default).hi) ahead })).getD (Int.toNat mark) default) with lo:=max (((r2.set (Int.toNat (mark-1)) ({ (r2.getD (Int.toNat (mark-1)) default) with hi:=min ((r2.getD (Int.toNat (mark-1)) default).hi) ahead })).getD (Int.toNat mark) default).lo) behind })))
  else (
  M.pure (r2.set (Int.toNat (mark-1)) ({ (r2.getD (Int.toNat (mark-1)) default) with hi:=min ((r2.getD (Int.toNat (mark-1)) default).hi) ahead }))))
  else (
  bif decide (mark<(r2.length:Int)) then (
  M.grd (decide ((0:Int)<=mark)&&decide (mark<(r2.length:Int))) <|
  M.pure (r2.set (Int.toNat mark) ({ (r2.getD (Int.toNat mark) default) with lo:=max ((r2.getD (Int.toNat mark) default).lo) behind })))
  else (
  M.pure r2))
theorem zd1 {R ai aj ak al am ao ap ah}(aq au av aw ax ay az aA times mark ahead behind)(aF:Reads R aj)(aG:Sl aj ak ay)(aH:Reads R al)(aI:Sl al am az)(aJ:Has R (cMl I encCN ao aA))(aK:Fld R ai [I aq,I au,I av,I aw,I ax,ak,am,.map (some ao)])(aC:Reads R ap)(aD:Sl ap ah times){r}(hM:(za9 aq au av aw ax ay az aA times mark ahead behind).Ends r)(w)(H:St w w [] R):Ret Tryz.prog 59 #[Pq ai,ah,I mark,I ahead,I behind] w fun v w'=>∃ y0 u0,y0=r/\v=u0/\St w w' [cOwn (α:=Span) 27 u0 y0] R:=by
 refine ret_of_W Tryz.func59 rfl rfl rfl ?_;refine kG 2 ?_;refine zA (.slice none 0 0) rfl ?_;refine kG 3 ?_;refine zM ah rfl ?_;obtain ⟨aL,aE,hM⟩:=M.e_bind hM;refine s_call cq [ah] rfl (zdR times (aC.app _) aD aE _ (H.gt 0)) ?_;rintro vq aM ⟨r2,aa,rfl,hvq,aB⟩;subst vq;(try dsimp only at hM);replace H:=H.bk aB;clear aB;refine zA aa rfl ?_;refine kG 4 ?_;refine zM (I mark) rfl<|zC mark 0 (decide (0<mark)) rfl rfl rfl<|s_nil ?_
 refine W.cond (decide (0<mark)) rfl (fun ab=>?_) (fun ab=>?_)
 ·replace hM:=M.e_t hM ab;replace ab:=dI ab;refine W.region rfl<|zM aa rfl<|zM (I mark) rfl ?_;obtain ⟨aN,hM⟩:=M.e_gd hM;refine zR mark 1 (mark-1) rfl rfl rfl (by omega)<|zM aa rfl<|zM (I mark) rfl<|zR mark 1 (mark-1) rfl rfl rfl (by omega) ?_;obtain ⟨aO,hM⟩:=M.e_gd hM;refine s_val (x_ix (v:=vat aa 2 (Int.toNat (mark-1))) rfl rfl (Sl.ix (α:=Span) T23.h.und T23.h.size (H.os 0) (by omega) (by omega)))<|s_val (x_fa (v:=fat (vat aa 2 (Int.toNat (mark-1))) 1) rfl (fa_pl Fd27_1.h Sz3.h (Sl.pl (i:=mark-1) (H.os 0) (by omega) (by omega))))<|s_val (x_ld (v:=I ((r2.getD (Int.toNat (mark-1)) default).hi)) rfl (ld_sc Sc3.h (At.mono (Span_at1 (H.os 0) (i:=mark-1) (by omega) (by omega)) (H.ol 0))))<|zM (I ahead) rfl<|s_val (x_min (kd:=.i64) (a:=(r2.getD (Int.toNat (mark-1)) default).hi) (b:=ahead) rfl rfl)<|s_val (x_ix (v:=vat aa 2 (Int.toNat (mark-1))) rfl rfl (Sl.ix (α:=Span) T23.h.und T23.h.size (H.os 0) (by omega) (by omega)))<|s_val (x_fa (v:=fat (vat aa 2 (Int.toNat (mark-1))) 1) rfl (fa_pl Fd27_1.h Sz3.h (Sl.pl (i:=mark-1) (H.os 0) (by omega) (by omega)))) ?_;refine kO 0 (α:=Span) ({ (r2.getD (Int.toNat (mark-1)) default) with hi:=min ((r2.getD (Int.toNat (mark-1)) default).hi) ahead }) ?_;intro aP H
  have aQ:(r2.set (Int.toNat (mark-1)) ({ (r2.getD (Int.toNat (mark-1)) default) with hi:=min ((r2.getD (Int.toNat (mark-1)) default).hi) ahead })).length=(r2).length:=List.length_set;refine kG 4 ?_;refine zM (I mark) rfl<|zM aa rfl ?_
  have aR:=((H.os 0)).len_le;refine s_val (x_lenS T23.h.und rfl (H.os 0))<|zC mark ((r2.set (Int.toNat (mark-1)) ({ (r2.getD (Int.toNat (mark-1)) default) with hi:=min ((r2.getD (Int.toNat (mark-1)) default).hi) ahead })).length:Int) (decide (mark<((r2.set (Int.toNat (mark-1)) ({ (r2.getD (Int.toNat (mark-1)) default) with hi:=min ((r2.getD (Int.toNat (mark-1)) default).hi) ahead })).length:Int))) rfl rfl rfl<|s_nil ?_
  refine W.cond (decide (mark<((r2.set (Int.toNat (mark-1)) ({ (r2.getD (Int.toNat (mark-1)) default) with hi:=min ((r2.getD (Int.toNat (mark-1)) default).hi) ahead })).length:Int))) rfl (fun ac=>?_) (fun ac=>?_)
  ·replace hM:=M.e_t hM ac;replace ac:=dI ac;refine W.region rfl<|zM aa rfl<|zM (I mark) rfl<|zM aa rfl<|zM (I mark) rfl ?_;obtain ⟨aS,hM⟩:=M.e_gd hM;refine s_val (x_ix (v:=vat aa 2 (Int.toNat mark)) rfl rfl (Sl.ix (α:=Span) T23.h.und T23.h.size (H.os 0) (by omega) (by omega)))<|s_val (x_fa (v:=fat (vat aa 2 (Int.toNat mark)) 0) rfl (fa_pl Fd27_0.h Sz3.h (Sl.pl (i:=mark) (H.os 0) (by omega) (by omega))))<|s_val (x_ld (v:=I (((r2.set (Int.toNat (mark-1)) ({ (r2.getD (Int.toNat (mark-1)) default) with hi:=min ((r2.getD (Int.toNat (mark-1)) default).hi) ahead })).getD (Int.toNat mark) default).lo)) rfl (ld_sc Sc3.h (At.mono (Span_at0 (H.os 0) (i:=mark) (by omega) (by omega)) (H.ol 0))))<|zM (I behind) rfl<|s_val (x_max (kd:=.i64) (a:=((r2.set (Int.toNat (mark-1)) ({ (r2.getD (Int.toNat (mark-1)) default) with hi:=min ((r2.getD (Int.toNat (mark-1)) default).hi) ahead })).getD (Int.toNat mark) default).lo) (b:=behind) rfl rfl)<|s_val (x_ix (v:=vat aa 2 (Int.toNat mark)) rfl rfl (Sl.ix (α:=Span) T23.h.und T23.h.size (H.os 0) (by omega) (by omega)))<|s_val (x_fa (v:=fat (vat aa 2 (Int.toNat mark)) 0) rfl (fa_pl Fd27_0.h Sz3.h (Sl.pl (i:=mark) (H.os 0) (by omega) (by omega)))) ?_;refine t_fst (α:=Span) (k:=0) (i:=mark) (off:=0) (l:=r2.set (Int.toNat (mark-1)) ({ (r2.getD (Int.toNat (mark-1)) default) with hi:=min ((r2.getD (Int.toNat (mark-1)) default).hi) ahead })) (l':=(r2.set (Int.toNat (mark-1)) ({ (r2.getD (Int.toNat (mark-1)) default) with hi:=min ((r2.getD (Int.toNat (mark-1)) default).hi) ahead })).set (Int.toNat mark) ({ ((r2.set (Int.toNat (mark-1)) ({ (r2.getD (Int.toNat (mark-1)) default) with hi:=min ((r2.getD (Int.toNat (mark-1)) default).hi) ahead })).getD (Int.toNat mark) default) with lo:=max (((r2.set (Int.toNat (mark-1)) ({ (r2.getD (Int.toNat (mark-1)) default) with hi:=min ((r2.getD (Int.toNat (mark-1)) default).hi) ahead })).getD (Int.toNat mark) default).lo) behind })) (val:=I (max (((r2.set (Int.toNat (mark-1)) ({ (r2.getD (Int.toNat (mark-1)) default) with hi:=min ((r2.getD (Int.toNat (mark-1)) default).hi) ahead })).getD (Int.toNat mark) default).lo) behind)) (L':=[cOwn (α:=Span) 27 aa ((r2.set (Int.toNat (mark-1)) ({ (r2.getD (Int.toNat (mark-1)) default) with hi:=min ((r2.getD (Int.toNat (mark-1)) default).hi) ahead })).set (Int.toNat mark) ({ ((r2.set (Int.toNat (mark-1)) ({ (r2.getD (Int.toNat (mark-1)) default) with hi:=min ((r2.getD (Int.toNat (mark-1)) default).hi) ahead })).getD (Int.toNat mark) default) with lo:=max (((r2.set (Int.toNat (mark-1)) ({ (r2.getD (Int.toNat (mark-1)) default) with hi:=min ((r2.getD (Int.toNat (mark-1)) default).hi) ahead })).getD (Int.toNat mark) default).lo) behind }))]) H rfl Sz3.h (by omega) (by omega) ((r2.set (Int.toNat (mark-1)) ({ (r2.getD (Int.toNat (mark-1)) default) with hi:=min ((r2.getD (Int.toNat (mark-1)) default).hi) ahead })).getD (Int.toNat mark) default) ({ ((r2.set (Int.toNat (mark-1)) ({ (r2.getD (Int.toNat (mark-1)) default) with hi:=min ((r2.getD (Int.toNat (mark-1)) default).hi) ahead })).getD (Int.toNat mark) default) with lo:=max (((r2.set (Int.toNat (mark-1)) ({ (r2.getD (Int.toNat (mark-1)) default) with hi:=min ((r2.getD (Int.toNat (mark-1)) default).hi) ahead })).getD (Int.toNat mark) default).lo) behind }) (getD_some _ (by first | omega | (simp only [List.length_set] at *; omega)) _) rfl rfl [I (max (((r2.set (Int.toNat (mark-1)) ({ (r2.getD (Int.toNat (mark-1)) default) with hi:=min ((r2.getD (Int.toNat (mark-1)) default).hi) ahead })).getD (Int.toNat mark) default).lo) behind)] rfl rfl rfl rfl rfl rfl rfl ?_;intro aT H
   have aU:((r2.set (Int.toNat (mark-1)) ({ (r2.getD (Int.toNat (mark-1)) default) with hi:=min ((r2.getD (Int.toNat (mark-1)) default).hi) ahead })).set (Int.toNat mark) ({ ((r2.set (Int.toNat (mark-1)) ({ (r2.getD (Int.toNat (mark-1)) default) with hi:=min ((r2.getD (Int.toNat (mark-1)) default).hi) ahead })).getD (Int.toNat mark) default) with lo:=max (((r2.set (Int.toNat (mark-1)) ({ (r2.getD (Int.toNat (mark-1)) default) with hi:=min ((r2.getD (Int.toNat (mark-1)) default).hi) ahead })).getD (Int.toNat mark) default).lo) behind })).length=(r2.set (Int.toNat (mark-1)) ({ (r2.getD (Int.toNat (mark-1)) default) with hi:=min ((r2.getD (Int.toNat (mark-1)) default).hi) ahead })).length:=List.length_set;refine kG 3 ?_;refine zM aa rfl<|zA aa rfl ?_
   exact kR0 1
  replace hM:=M.e_f hM ac;replace ac:=dI ac;refine kG 3 ?_;refine zM aa rfl<|zA aa rfl ?_
  exact kR0 1
 replace hM:=M.e_f hM ab;replace ab:=dI ab;refine kG 4 ?_;refine zM (I mark) rfl<|zM aa rfl ?_
 have aV:=((H.os 0)).len_le;refine s_val (x_lenS T23.h.und rfl (H.os 0))<|zC mark (r2.length:Int) (decide (mark<(r2.length:Int))) rfl rfl rfl<|s_nil ?_
 refine W.cond (decide (mark<(r2.length:Int))) rfl (fun ae=>?_) (fun ae=>?_)
 ·replace hM:=M.e_t hM ae;replace ae:=dI ae;refine W.region rfl<|zM aa rfl<|zM (I mark) rfl<|zM aa rfl<|zM (I mark) rfl ?_;obtain ⟨aW,hM⟩:=M.e_gd hM;refine s_val (x_ix (v:=vat aa 2 (Int.toNat mark)) rfl rfl (Sl.ix (α:=Span) T23.h.und T23.h.size (H.os 0) (by omega) (by omega)))<|s_val (x_fa (v:=fat (vat aa 2 (Int.toNat mark)) 0) rfl (fa_pl Fd27_0.h Sz3.h (Sl.pl (i:=mark) (H.os 0) (by omega) (by omega))))<|s_val (x_ld (v:=I ((r2.getD (Int.toNat mark) default).lo)) rfl (ld_sc Sc3.h (At.mono (Span_at0 (H.os 0) (i:=mark) (by omega) (by omega)) (H.ol 0))))<|zM (I behind) rfl<|s_val (x_max (kd:=.i64) (a:=(r2.getD (Int.toNat mark) default).lo) (b:=behind) rfl rfl)<|s_val (x_ix (v:=vat aa 2 (Int.toNat mark)) rfl rfl (Sl.ix (α:=Span) T23.h.und T23.h.size (H.os 0) (by omega) (by omega)))<|s_val (x_fa (v:=fat (vat aa 2 (Int.toNat mark)) 0) rfl (fa_pl Fd27_0.h Sz3.h (Sl.pl (i:=mark) (H.os 0) (by omega) (by omega)))) ?_;refine kO 0 (α:=Span) ({ (r2.getD (Int.toNat mark) default) with lo:=max ((r2.getD (Int.toNat mark) default).lo) behind }) ?_;intro aX H
  have aY:(r2.set (Int.toNat mark) ({ (r2.getD (Int.toNat mark) default) with lo:=max ((r2.getD (Int.toNat mark) default).lo) behind })).length=(r2).length:=List.length_set;refine kG 3 ?_;refine zM aa rfl<|zA aa rfl ?_
  exact kR0 1
 replace hM:=M.e_f hM ae;replace ae:=dI ae;refine kG 3 ?_;refine zM aa rfl<|zA aa rfl ?_
 exact kR0 1

def zbV (ac ae ah ai aj:Int) (ak:List CMk) (al:List CNt) (am:List (Int × CNt)) (times:List Span) (a b aa ab:Int):M (List Span) :=
  M.gi (aa-1) <|
  M.bind (za9 ac ae ah ai aj ak al am times a (aa-1) aa) fun r2 =>
  M.gi (b+1) <|
  M.gi (ab+1) <|
  M.bind (za9 ac ae ah ai aj ak al am r2 (b+1) ab (ab+1)) fun r3 =>
  M.pure r3
theorem zf3 {R aa ab ac ae ah ai aj ak}(al am ao ap aq au av aw times a b ax ay)(az:Reads R ab)(aA:Sl ab ac au)(aB:Reads R ae)(aC:Sl ae ah av)(aD:Has R (cMl I encCN ai aw))(aE:Fld R aa [I al,I am,I ao,I ap,I aq,ac,ah,.map (some ai)])(aF:Reads R aj)(aG:Sl aj ak times){r}(hM:(zbV al am ao ap aq au av aw times a b ax ay).Ends r)(w)(H:St w w [] R):Ret Tryz.prog 20 #[Pq aa,ak,I a,I b,I ax,I ay] w fun v w'=>∃ y0 u0,y0=r/\v=u0/\St w w' [cOwn (α:=Span) 27 u0 y0] R:=by
 refine ret_of_W Tryz.func20 rfl rfl rfl ?_;obtain ⟨aH,hM⟩:=M.e_gq hM;refine kC 12 @zd1 ?_;intro aI r2 aJ hM H;obtain ⟨aK,hM⟩:=M.e_gq hM;obtain ⟨aL,hM⟩:=M.e_gq hM;refine kC 11 @zd1 ?_;intro aM r3 aN hM H;exact kR 2 [0]

def zey  : M Unit :=
  M.pure ()
theorem zfL {R r}(hM:(zey).Ends r)(w)(H:St w w [] R):Ret Tryz.prog 22 #[] w fun v w'=>()=r/\v = .agg #[.func (.func 60) #[] #[]]/\St w w' [] R:=by
 refine ret_of_W Tryz.func22 rfl rfl rfl ?_;refine kA 2 ?_;intro aa ab H;refine kS 4 ?_;intro ac H;exact kR 1 []

def zdq (s:Span):M Int :=
  M.pure s.lo
theorem zdT {R}(s){r}(hM:(zdq s).Ends r)(w)(H:St w w [] R):Ret Tryz.prog 60 #[.agg #[I s.lo,I s.hi]] w fun v w'=>∃ y0,y0=r/\v=I y0/\St w w' [] R:=by
 refine ret_of_W Tryz.func60 rfl rfl rfl ?_;refine kB 2 ?_;intro aa ab H;refine kg 8 ?_;exact rt

def zcO (l:List Span):(Int × Nat)->M ((Int × Nat) ⊕ Int):=fun (out,s) =>
  bif decide ((s:Int)<(l.length:Int)) then (
  M.grd (decide ((s:Int)<(l.length:Int))) <|
  M.bind (zdq (l.getD s default)) fun r3 =>
  M.pure (.inl (max out r3,s+1)))
  else (
  M.pure (.inr out))
def zcR (l:List Span):M Int :=
  M.grd (decide (0<(l.length:Int))) <|
  M.bind (zdq (l.getD 0 default)) fun r2 =>
  M.bind (M.iter (zcO l) (r2,0)) fun out2 =>
  M.pure out2
theorem zfo {R ac aa}(l)(au:Reads R ac)(ai:Sl ac aa l){r}(hM:(zcR l).Ends r)(w)(H:St w w [] R):Ret Tryz.prog 23 #[.agg #[.func (.func 60) #[] #[]],aa] w fun v w'=>∃ y0,y0=r/\v=I y0/\St w w' [] R:=by
 refine ret_of_W Tryz.func23 rfl rfl rfl ?_;refine kB 2 ?_;intro ae av H;refine kD 3 [0] [5] ?_;intro aw H;obtain ⟨ax,hM⟩:=M.e_gq hM;refine kG 6 ?_;obtain ⟨ay,aj,hM⟩:=M.e_bind hM;refine s_callv (f:=60) rfl cq [.agg #[I ((l.getD 0 default).lo),I ((l.getD 0 default).hi)]] rfl (zdT (l.getD 0 default) aj _ (H.gt 1)) ?_;rintro _ az ⟨r2,rfl,rfl,ab⟩;replace H:=H.bk ab;refine kN ?_;have aA:=(ai).len_le;refine kg 10 ?_;obtain ⟨ak,ah,al⟩:=M.e_bind hM;obtain ⟨aB,ah⟩:=M.e_iter ah;refine W.loop (fun m σ W=>∃ (out:Int) (s:Nat) (ρ:Env),σ=upds ρ [(2,Pq ae),(5,I out),(14,aa),(15,I (l.length:Int)),(16,I (s:Int))]/\M.iterN (zcO l) m (out,s)=some ak/\St w W [cBlk ae [.func (.func 60) #[] #[]] 89] R) ?_ ?_
 ·exact kY
 rintro aC σ aD ⟨out,s,ρ,rfl,am,H⟩;obtain ⟨aE,aF,aG,hM,ao⟩:=M.e_iterN am;refine kI 5 ?_ ?_
 ·intro ap hM;obtain ⟨aH,hM⟩:=M.e_gq hM;refine kA 7 ?_;intro aI aJ H;refine ksw ?_;intro aK H;refine kg 6 ?_;obtain ⟨aL,aq,hM⟩:=M.e_bind hM;refine s_callv (f:=60) rfl cq [.agg #[I ((l.getD s default).lo),I ((l.getD s default).hi)]] rfl (zdT (l.getD s default) aq _ (H.gt 2)) ?_;rintro _ aM ⟨r3,rfl,rfl,ab⟩;replace H:=H.bk ab;exact kXp 7 [1]
 intro ap hM;refine W.exit ?_;obtain rfl:=M.e_inr hM ao;replace hM:=al;refine kg 5 ?_;exact rt

def zdS  : M Unit :=
  M.pure ()
theorem zfj {R r}(hM:(zdS).Ends r)(w)(H:St w w [] R):Ret Tryz.prog 24 #[] w fun v w'=>()=r/\v = .agg #[.func (.func 61) #[] #[]]/\St w w' [] R:=by
 refine ret_of_W Tryz.func24 rfl rfl rfl ?_;refine kA 2 ?_;intro aa ab H;refine kS 4 ?_;intro ac H;exact kR 1 []

def zc8 (s:Span):M Int :=
  M.pure s.hi
theorem zeD {R}(s){r}(hM:(zc8 s).Ends r)(w)(H:St w w [] R):Ret Tryz.prog 61 #[.agg #[I s.lo,I s.hi]] w fun v w'=>∃ y0,y0=r/\v=I y0/\St w w' [] R:=by
 refine ret_of_W Tryz.func61 rfl rfl rfl ?_;refine kB 2 ?_;intro aa ab H;refine kg 8 ?_;exact rt

def zc0 (l:List Span):(Int × Nat)->M ((Int × Nat) ⊕ Int):=fun (out,s) =>
  bif decide ((s:Int)<(l.length:Int)) then (
  M.grd (decide ((s:Int)<(l.length:Int))) <|
  M.bind (zc8 (l.getD s default)) fun r3 =>
  M.pure (.inl (max out r3,s+1)))
  else (
  M.pure (.inr out))
def zb2 (l:List Span):M Int :=
  M.grd (decide (0<(l.length:Int))) <|
  M.bind (zc8 (l.getD 0 default)) fun r2 =>
  M.bind (M.iter (zc0 l) (r2,0)) fun out2 =>
  M.pure out2
theorem zfC {R ac aa}(l)(au:Reads R ac)(ai:Sl ac aa l){r}(hM:(zb2 l).Ends r)(w)(H:St w w [] R):Ret Tryz.prog 23 #[.agg #[.func (.func 61) #[] #[]],aa] w fun v w'=>∃ y0,y0=r/\v=I y0/\St w w' [] R:=by
 refine ret_of_W Tryz.func23 rfl rfl rfl ?_;refine kB 2 ?_;intro ae av H;refine kD 3 [0] [5] ?_;intro aw H;obtain ⟨ax,hM⟩:=M.e_gq hM;refine kG 6 ?_;obtain ⟨ay,aj,hM⟩:=M.e_bind hM;refine s_callv (f:=61) rfl cq [.agg #[I ((l.getD 0 default).lo),I ((l.getD 0 default).hi)]] rfl (zeD (l.getD 0 default) aj _ (H.gt 1)) ?_;rintro _ az ⟨r2,rfl,rfl,ab⟩;replace H:=H.bk ab;refine kN ?_;have aA:=(ai).len_le;refine kg 10 ?_;obtain ⟨ak,ah,al⟩:=M.e_bind hM;obtain ⟨aB,ah⟩:=M.e_iter ah;refine W.loop (fun m σ W=>∃ (out:Int) (s:Nat) (ρ:Env),σ=upds ρ [(2,Pq ae),(5,I out),(14,aa),(15,I (l.length:Int)),(16,I (s:Int))]/\M.iterN (zc0 l) m (out,s)=some ak/\St w W [cBlk ae [.func (.func 61) #[] #[]] 89] R) ?_ ?_
 ·exact kY
 rintro aC σ aD ⟨out,s,ρ,rfl,am,H⟩;obtain ⟨aE,aF,aG,hM,ao⟩:=M.e_iterN am;refine kI 5 ?_ ?_
 ·intro ap hM;obtain ⟨aH,hM⟩:=M.e_gq hM;refine kA 7 ?_;intro aI aJ H;refine ksw ?_;intro aK H;refine kg 6 ?_;obtain ⟨aL,aq,hM⟩:=M.e_bind hM;refine s_callv (f:=61) rfl cq [.agg #[I ((l.getD s default).lo),I ((l.getD s default).hi)]] rfl (zeD (l.getD s default) aq _ (H.gt 2)) ?_;rintro _ aM ⟨r3,rfl,rfl,ab⟩;replace H:=H.bk ab;exact kXp 7 [1]
 intro ap hM;refine W.exit ?_;obtain rfl:=M.e_inr hM ao;replace hM:=al;refine kg 5 ?_;exact rt

def zdf (h_Span_Lo h_Span_Hi:Int) (aa:Bool) (s:Span):M (Int × Int × Bool) :=
  bif aa then (
  M.pure ((min s.lo h_Span_Lo),(max s.hi h_Span_Hi),true))
  else (
  M.pure (s.lo,s.hi,true))
theorem zgi {R ab}(h_Span_Lo h_Span_Hi ac s){r}(hM:(zdf h_Span_Lo h_Span_Hi ac s).Ends r)(w)(H:St w w [cBlk ab [I h_Span_Lo,I h_Span_Hi,B ac] 82] R):Ret Tryz.prog 21 #[Pq ab,.agg #[I s.lo,I s.hi]] w fun v w'=>∃ y0 y1 y2,(y0,y1,y2)=r/\v = .tuple #[]/\St w w' [cBlk ab [I y0,I y1,B y2] 82] R:=by
 refine ret_of_W Tryz.func21 rfl rfl rfl ?_;refine kB 2 ?_;intro ah ai H;refine kI 9 ?_ ?_
 ·intro ae hM;refine kDT 0 [1] (.q 0 (.q 2 (.q 3 (.q 4 (.q 5 (.q 6 (.q 8 (.q 10 (.q 11 (.q 12 (.q 13 (.q 14 (.l2 1 (.q 7 (.l 9 (.q 15 (.q 16 (.l 17 .nil))))) 9 (.q 15 (.l 1 (.q 7 (.q 16 (.l 17 .nil)))))))))))))))))) ?_;intro aj H;refine kg 12 ?_;refine t_l2 rfl rfl ?_ ?_
  ·refine kG 1 ?_;refine kN ?_;refine kG 3 ?_;refine kN ?_;refine kS 3 ?_;intro ak H;refine kN ?_;refine kS 7 ?_;intro al H;refine kS 2 ?_;intro am H;refine s_nil ?_;have aa:=M.e_pure hM;exact ⟨_,resE_tmp0 rfl,⟨(min s.lo h_Span_Lo),(max s.hi h_Span_Hi),true,aa,rfl,(H.pk [1])⟩⟩
  refine kG 1 ?_;refine kN ?_;refine kG 3 ?_;refine kN ?_;refine kS 3 ?_;intro ao H;refine kN ?_;refine kS 7 ?_;intro ap H;refine kS 2 ?_;intro aq H;refine s_nil ?_;have aa:=M.e_pure hM;exact ⟨_,resE_tmp0 rfl,⟨(min s.lo h_Span_Lo),(max s.hi h_Span_Hi),true,aa,rfl,(H.pk [1])⟩⟩
 intro ae hM;refine kS 7 ?_;intro au H;refine kS 2 ?_;intro av H;refine s_nil ?_;have aa:=M.e_pure hM;exact ⟨_,resE_tmp0 rfl,⟨s.lo,s.hi,true,aa,rfl,(H.pk [1])⟩⟩

def zdH (h_Span_Lo h_Span_Hi:Int) (aa:Bool):M (Int × Int × Int) :=
  bif !aa then (
  M.pure (0,0,5))
  else (
  M.pure (h_Span_Lo,h_Span_Hi,0))
theorem zfk {R aa}(h_Span_Lo h_Span_Hi ab)(ac:Has R (cBlk aa [I h_Span_Lo,I h_Span_Hi,B ab] 82)){r}(hM:(zdH h_Span_Lo h_Span_Hi ab).Ends r)(w)(H:St w w [] R):Ret Tryz.prog 25 #[Pq aa] w fun v w'=>∃ y0 y1 y2,(y0,y1,y2)=r/\v = .tuple #[.agg #[I y0,I y1],I y2]/\St w w' [] R:=by
 refine ret_of_W Tryz.func25 rfl rfl rfl ?_;refine kA 2 ?_;intro ah ai H;refine kI 11 ?_ ?_
 ·intro ae hM;refine kS 3 ?_;intro aj H;exact kR 2 []
 intro ae hM;refine kg 6 ?_;refine s_val (x_ld (v:=.agg #[I h_Span_Lo,I h_Span_Hi]) rfl (ldb_ag (ds:=[I h_Span_Lo,I h_Span_Hi]) Ag27.h Sz27.h (ac.blk H) rfl rfl)) ?_;refine ksw ?_;intro ak H;exact kR 2 []

def zb3 (c_Marks:List CMk) (c_Notes:List CNt) (ab ac ae ah ai aj ak:Int) (al:List (Int × CNt)) (am:List Bool) (r1 r2:List Span) (aa:Nat):(Int × Int × Bool × Int)->M ((Int × Int × Bool × Int) ⊕ (Int × Int × Bool)):=fun (s,s2,s3,b) =>
  bif ((decide (b<(r1.length:Int)))&&(decide ((max ab (-100000001))<=(min ac 100000001)))) then (
  M.bind (zbV ae ah ai aj ak c_Marks c_Notes al r1 (aa:Int) b (max ab (-100000001)) (min ac 100000001)) fun r4 =>
  M.bind (zan ae ah ai aj ak c_Marks c_Notes al am r4) fun (r0,ao) =>
  bif ao then (
  M.gi (b+1) <|
  M.grd (decide ((0:Int)<=(aa:Int))&&decide ((aa:Int)<=(b+1))&&decide ((b+1)<=(r2.length:Int))) <|
  M.bind (zey) fun (_:Unit) =>
  M.bind (zcR ((r2.take (Int.toNat (b+1))).drop aa)) fun r5 =>
  M.bind (zdS) fun (_:Unit) =>
  M.bind (zb2 ((r2.take (Int.toNat (b+1))).drop aa)) fun r6 =>
  M.bind (zdf s s2 s3 (⟨(r5:Int),(r6:Int)⟩:Span)) fun (q0,q1,q2) =>
  M.gi (b+1) <|
  M.pure (.inl (q0,q1,q2,b+1)))
  else (
  M.gi (b+1) <|
  M.pure (.inl (s,s2,s3,b+1))))
  else (
  M.pure (.inr (s,s2,s3)))
def zbO (c_Marks:List CMk) (c_Notes:List CNt) (ab ac ae ah ai aj ak:Int) (al:List (Int × CNt)) (am:List Bool) (r1 r2:List Span):(Int × Int × Bool × Nat)->M ((Int × Int × Bool × Nat) ⊕ (Int × Int × Bool)):=fun (s7,s8,s9,aa) =>
  bif decide ((aa:Int)<(r1.length:Int)) then (
  M.bind (M.iter (zb3 c_Marks c_Notes ab ac ae ah ai aj ak al am r1 r2 aa) (s7,s8,s9,(aa:Int))) fun (s4,s5,s6) =>
  M.pure (.inl (s4,s5,s6,aa+1)))
  else (
  M.pure (.inr (s7,s8,s9)))
def zbX (c_Pace_Lo c_Pace_Hi c_Base c_Scale c_Off:Int) (c_Marks:List CMk) (c_Notes:List CNt) (stops:List Int) (aa ab:Int):M (Int × Int × Int) :=
  M.bind (zcK c_Pace_Lo c_Pace_Hi c_Base c_Scale c_Off c_Marks c_Notes stops) fun x_=>match x_ with
  | (.inl r3)=>(
  bif r3 != 0 then (
  M.pure (0,0,r3))
  else (
  M.fail))
  | (.inr (ac,ae,ah,ai,aj,ak,al,r1,r2,am))=>(
  bif am != 0 then (
  M.fail)
  else (
  bif decide (ab<aa) then (
  M.pure (0,0,4))
  else (
  M.bind (M.iter (zbO c_Marks c_Notes aa ab ac ae ah ai aj ak al r1 r2) (0,0,false,0)) fun (ao,ap,aq) =>
  M.bind (zdH ao ap aq) fun (au,av,aw) =>
  M.pure (au,av,aw))))
theorem ze4 {R aB ab aC ac aD az}(c_Pace_Lo c_Pace_Hi c_Base c_Scale c_Off c_Marks c_Notes stops ae ah)(aL:Reads R aB)(aM:Sl aB ab c_Marks)(aN:Reads R aC)(aO:Sl aC ac c_Notes)(aP:Reads R aD)(aQ:Sl aD az stops){r}(hM:(zbX c_Pace_Lo c_Pace_Hi c_Base c_Scale c_Off c_Marks c_Notes stops ae ah).Ends r)(w)(H:St w w [] R):Ret Tryz.prog 6 #[.agg #[I c_Pace_Lo,I c_Pace_Hi,I c_Base,I c_Scale,I c_Off,ab,ac],az,I ae,I ah] w fun v w'=>∃ y0 y1 y2,(y0,y1,y2)=r/\v = .tuple #[.agg #[I y0,I y1],I y2]/\St w w' [] R:=by
 refine ret_of_W Tryz.func6 rfl rfl rfl ?_;refine kB 2 ?_;intro aE bm H;refine kal ?_;intro aj bn H;refine kg 6 ?_;obtain ⟨bo,aR,hM⟩:=M.e_bind hM;refine s_call cq [.agg #[I c_Pace_Lo,I c_Pace_Hi,I c_Base,I c_Scale,I c_Off,ab,ac],az] rfl (zfa c_Pace_Lo c_Pace_Hi c_Base c_Scale c_Off c_Marks c_Notes stops (aL.app _) aM (aN.app _) aO (aP.app _) aQ aR _ (H.gt 2)) ?_;rintro vq bp (⟨r3,aS,hvq,aA⟩ | ⟨ak,al,am,ao,ap,aq,au,r1,r2,br,av,aw,ax,ai,aT,hvq,aA,bt⟩)
 ·subst aS;subst vq;replace H:=H.bk aA;refine kI 18 ?_ ?_
  ·intro aU hM;refine kS 4 ?_;intro bu H;exact kR 2 []
  intro aU hM;exact (M.e_fail hM).elim
 subst aT;subst vq;replace H:=H.bk aA;refine kI 18 ?_ ?_
 ·intro aV hM;exact (M.e_fail hM).elim
 intro aV hM;refine kI 7 ?_ ?_
 ·intro aW hM;refine kS 3 ?_;intro bv H;refine kg 2 ?_;replace H:=H.pk [4];exact kR 0 []
 intro aW hM;refine kA 12 ?_;intro ay bw H;have bx:=((H.os 3)).len_le;refine kg 9 ?_;obtain ⟨aX,aF,aY⟩:=M.e_bind hM;obtain ⟨aZ,aF⟩:=M.e_iter aF;refine W.loop (fun m σ W=>∃ (s7:Int) (s8:Int) (s9:Bool) (aa:Nat) (ρ:Env),σ=upds ρ [(2,I (max ae (-100000001))),(3,I (min ah 100000001)),(8,Pq aj),(10,Pq av),(11,ax),(12,ai),(14,Pq ay),(42,I (r1.length:Int)),(43,I (aa:Int))]/\M.iterN (zbO c_Marks c_Notes ae ah ak al am ao ap aq au r1 r2) m (s7,s8,s9,aa)=some aX/\St w W [cBlk ay [I s7,I s8,B s9] 82,cBlk av (List.flatten [[I ak,I al,I am,I ao,I ap,ab,ac,.map (some aw)],encF (α:=Bool) au]) 227,cMl I encCN aw aq,cOwn (α:=Span) 27 ax r1,cOwn (α:=Span) 27 ai r2,cBlk aj [I 0,I 0] 27,cBlk aE [I c_Pace_Lo,I c_Pace_Hi,I c_Base,I c_Scale,I c_Off,ab,ac] 31] R) ?_ ?_
 ·exact kY
 rintro bz σ bA ⟨s7,s8,s9,aa,ρ,rfl,a6,H⟩;obtain ⟨bB,bC,bD,hM,a7⟩:=M.e_iterN a6;refine kI 5 ?_ ?_
 ·intro a8 hM;refine kg 14 ?_;obtain ⟨ba,aG,bb⟩:=M.e_bind hM;obtain ⟨aZ,aG⟩:=M.e_iter aG;refine W.loop (fun m σ W=>∃ (s:Int) (s2:Int) (s3:Bool) (b:Int) (ρ:Env),σ=upds ρ [(2,I (max ae (-100000001))),(3,I (min ah 100000001)),(8,Pq aj),(10,Pq av),(11,ax),(12,ai),(14,Pq ay),(15,I (aa:Int)),(16,I b),(42,I (r1.length:Int)),(43,I (aa:Int))]/\M.iterN (zb3 c_Marks c_Notes ae ah ak al am ao ap aq au r1 r2 aa) m (s,s2,s3,b)=some ba/\St w W [cBlk ay [I s,I s2,B s3] 82,cBlk av (List.flatten [[I ak,I al,I am,I ao,I ap,ab,ac,.map (some aw)],encF (α:=Bool) au]) 227,cMl I encCN aw aq,cOwn (α:=Span) 27 ax r1,cOwn (α:=Span) 27 ai r2,cBlk aj [I 0,I 0] 27,cBlk aE [I c_Pace_Lo,I c_Pace_Hi,I c_Base,I c_Scale,I c_Off,ab,ac] 31] R) ?_ ?_
  ·exact kY
  rintro bE σ bF ⟨s,s2,s3,b,ρ,rfl,bc,H⟩;obtain ⟨bG,bH,bI,hM,bf⟩:=M.e_iterN bc;have bJ:=((H.os 3)).len_le;refine kI 13 ?_ ?_
  ·intro bg hM;refine kC 12 @zf3 ?_;intro bK r4 bL hM H;refine kC 0 @zd7 ?_;intro bM r0 bN bO hM H;refine kg 6 ?_;replace H:=H.pk [2,3,4,5,6,7,8];refine kI 4 ?_ ?_
   ·intro bh hM;refine kDo 0 [1,2,3,4,5,6] [(1,true),(2,true),(3,true),(4,true),(5,true),(8,true),(9,true),(10,true),(11,true),(12,true),(0,false),(6,false),(7,false),(13,false),(14,true),(15,false)] ?_;intro bP H;obtain ⟨bQ,hM⟩:=M.e_gq hM;obtain ⟨bR,hM⟩:=M.e_gq hM;refine kg 4 ?_;obtain ⟨aH,bi,aI⟩:=sl_lohi T23.h.und T23.h.size (H.os 4) (i:=(aa:Int)) (j:=b+1) (by omega) (by omega) (by omega);replace aI:Sl _ aH ((r2.take (Int.toNat (b+1))).drop aa):=aI;refine d_q rfl (fun w' H=>x_sl (v:=ai) (u:=aH) (lo':=some (I (aa:Int))) (hi':=some (I (b+1))) (mx':=none) rfl rfl rfl rfl (bi _)) ?_;refine kg 4 ?_;obtain ⟨aJ,bj,aK⟩:=sl_lohi T23.h.und T23.h.size (H.os 4) (i:=(aa:Int)) (j:=b+1) (by omega) (by omega) (by omega);replace aK:Sl _ aJ ((r2.take (Int.toNat (b+1))).drop aa):=aK;refine d_q rfl (fun w' H=>x_sl (v:=ai) (u:=aJ) (lo':=some (I (aa:Int))) (hi':=some (I (b+1))) (mx':=none) rfl rfl rfl rfl (bj _)) ?_;refine kC 1 @zfL ?_;intro bS hM H;refine kN ?_;refine kC 1 @zfo ?_;intro bT r5 hM H;refine kN ?_;refine kC 1 @zfj ?_;intro bU hM H;refine kN ?_;refine kC 1 @zfC ?_;intro bV r6 hM H;refine kN ?_;refine kC 2 @zgi ?_;intro bW q0 q1 q2 hM H;refine kN ?_;obtain ⟨bX,hM⟩:=M.e_gq hM;exact kX 6
   intro bh hM;obtain ⟨bY,hM⟩:=M.e_gq hM;exact kX 6
  intro bg hM;refine W.exit ?_;obtain rfl:=M.e_inr hM bf;replace hM:=bb;exact kX 4
 intro a8 hM;refine W.exit ?_;obtain rfl:=M.e_inr hM a7;replace hM:=aY;replace H:=H.pk [0,5];refine kC 2 @zfk ?_;intro bZ b4 b6 b7 hM H;refine kS 2 ?_;intro b8 H;exact kR 2 []

end Go.Proofs.YtbgoclcmgbpckabGreat
end
section
set_option maxRecDepth 100000
set_option maxHeartbeats 16000000
namespace Go.Proofs.YtbgoclcmgbpckabGreat
open Go Go.Nm
attribute [local irreducible] gd execOp SL SLD SLT WR
def zde  : M Bool :=
  M.bind (zdM 58) fun (r0,r1,r2) =>
  M.bind (m_daily_Volume r0 r1 r2 0 3) fun (ab,ac,ae) =>
  M.bind (zew 105 130) fun (ao,ap) =>
  M.bind (m_balance_Group ao ap ([(0:Int),(1:Int)])) fun (ah,ai,aj) =>
  M.bind (zdO) fun (aq,au) =>
  M.bind (m_share_Real aq au 120) fun (aa,ak) =>
  M.bind (zeU) fun (av,aw,ax,r3) =>
  M.bind (zap av aw ax r3 1900 1909 500) fun (ay,az,al) =>
  M.bind (zeb 1) fun (aA,aB,aC,aD,r4,r5,r6) =>
  M.bind (zeF aA aB aC aD r4 r5 r6) fun (aE,am) =>
  M.grd ((!((((((((ae==0)&&(aj==0))&&(ak==0))&&(al==0))&&(am==0))&&(decide ((⟨(ab:Int),(ac:Int)⟩:Span)=(⟨(172:Int),(180:Int)⟩:Span))))&&(decide ((⟨(ah:Int),(ai:Int)⟩:Span)=(⟨(105:Int),(125:Int)⟩:Span))))&&((aa.length:Int)==2))||(decide (0<(aa.length:Int))))) <|
  M.pure (((((((((((ae==0)&&(aj==0))&&(ak==0))&&(al==0))&&(am==0))&&(decide ((⟨(ab:Int),(ac:Int)⟩:Span)=(⟨(172:Int),(180:Int)⟩:Span))))&&(decide ((⟨(ah:Int),(ai:Int)⟩:Span)=(⟨(105:Int),(125:Int)⟩:Span))))&&((aa.length:Int)==2))&&((aa.getD 0 0)==95))&&(decide ((⟨(ay:Int),(az:Int)⟩:Span)=(⟨(1:Int),(4:Int)⟩:Span))))&&((aE.length:Int)==1))
theorem zfy {R r}(hM:(zde).Ends r)(w)(H:St w w [] R):Ret Tryz.prog 16 #[] w fun v w'=>∃ y0,y0=r/\v=B y0/\St w w' [] R:=by
 refine ret_of_W Tryz.func16 rfl rfl rfl ?_;refine kC 6 @zfF ?_;intro aP r0 r1 r2 aQ hM H;refine kC 0 @daily_Volume_ok ?_;intro aR ab ac ae hM H;refine kA 3 ?_;intro aS aT H;refine ksw ?_;intro aU H;refine kC 4 @zfY ?_;intro aV aW aX aY aZ hM H;refine kL 0 (α:=Int) [0,1] ?_;intro a6 a7 H;refine kC 0 @balance_Group_ok ?_;intro a8 al am ah hM H;refine kA 3 ?_;intro ba bb H;refine ksw ?_;intro bc H;refine kg 2 ?_;replace H:=H.pk [0,4];refine kC 2 @ze8 ?_;intro bf bg bh bi hM H;refine kC 0 @share_Real_ok ?_;intro bj ao ai bm hM H;refine kg 8 ?_;obtain ⟨bn,aw,hM⟩:=M.e_bind hM;refine s_call cq [] rfl (zfc aw _ (H.gt 4)) ?_;rintro _ bo ⟨ax,ay,aq,r3,az,aA,bp,br,rfl,rfl,aa,aB⟩;replace H:=H.bk aa;obtain ⟨bt,aC,hM⟩:=M.e_bind hM;refine s_call cq [.agg #[az,aA,I aq,I r3],I 1900,I 1909,I 500] rfl (zbQ ax ay aq r3 1900 1909 500 (rdo 0) (H.os 0) (Reads.sup (rdo 1) (Reads.of (k:=2) rfl roLe)) (rowSl rfl (H.get (k:=1) rfl) (roLe _ (H.get (k:=2) rfl)) aB) aC _ (H.gt 7)) ?_;rintro _ bu ⟨au,av,aj,rfl,rfl,aa⟩;replace H:=H.bk aa;refine kA 3 ?_;intro bv bw H;refine ksw ?_;intro bx H;refine kg 2 ?_;replace H:=H.pk [0,4,6,7];refine kg 2 ?_;obtain ⟨bz,aD,hM⟩:=M.e_bind hM;refine s_call cq [I 1] rfl (zfz 1 aD _ (H.gt 4)) ?_;rintro _ bA ⟨aE,aF,aG,aH,r4,r5,r6,aI,aJ,aK,aL,aM,bB,bC,rfl,rfl,aa,aN⟩;replace H:=H.bk aa;obtain ⟨bD,aO,hM⟩:=M.e_bind hM;refine s_call cq [.agg #[aI,aJ,aK,aL,I r4,I r5,aM]] rfl (zfD aE aF aG aH r4 r5 r6 (rdo 0) (H.os 0) (rdo 1) (H.os 1) (rdo 2) (H.os 2) (rdo 3) (H.os 3) (Reads.sup (rdo 4) (Reads.of (k:=5) rfl roLe)) (rowSl rfl (H.get (k:=4) rfl) (roLe _ (H.get (k:=5) rfl)) aN) aO _ (H.gt 10)) ?_;rintro _ bE ⟨bF,ak,bG,rfl,rfl,aa⟩;replace H:=H.bk aa;refine kg 6 ?_;replace H:=H.pk [0,7,8,9,10];refine kg 22 ?_;refine g_val (((((ae==0)&&(ah==0))&&(ai==0))&&(aj==0))&&(ak==0)) (gy_t rfl) (fun hg=>y_bld [I 172,I 180] rfl rfl jF)<|g_val (((((ae==0)&&(ah==0))&&(ai==0))&&(aj==0))&&(ak==0)) (gy_t rfl) (fun hg=>x_eqS (eqT27 (⟨(ab:Int),(ac:Int)⟩:Span) (⟨(172:Int),(180:Int)⟩:Span) _) gdT27 (gd_of hg (.agg #[I ab,I ac])) (gd_of hg (.agg #[I 172,I 180]))) ?_;refine kg 3 ?_;refine g_val ((((((ae==0)&&(ah==0))&&(ai==0))&&(aj==0))&&(ak==0))&&(decide ((⟨(ab:Int),(ac:Int)⟩:Span)=(⟨(172:Int),(180:Int)⟩:Span)))) (gy_t rfl) (fun hg=>y_bld [I 105,I 125] rfl rfl jF)<|g_val ((((((ae==0)&&(ah==0))&&(ai==0))&&(aj==0))&&(ak==0))&&(decide ((⟨(ab:Int),(ac:Int)⟩:Span)=(⟨(172:Int),(180:Int)⟩:Span)))) (gy_t rfl) (fun hg=>x_eqS (eqT27 (⟨(al:Int),(am:Int)⟩:Span) (⟨(105:Int),(125:Int)⟩:Span) _) gdT27 (gd_of hg (.agg #[I al,I am])) (gd_of hg (.agg #[I 105,I 125]))) ?_;obtain ⟨ap,hM⟩:=M.e_grd hM
 replace ap:=M.imp_of ap;simp only [Bool.and_eq_true,decide_eq_true_eq] at ap;refine kg 14 ?_;refine g_val (((((((((ae==0)&&(ah==0))&&(ai==0))&&(aj==0))&&(ak==0))&&(decide ((⟨(ab:Int),(ac:Int)⟩:Span)=(⟨(172:Int),(180:Int)⟩:Span))))&&(decide ((⟨(al:Int),(am:Int)⟩:Span)=(⟨(105:Int),(125:Int)⟩:Span))))&&((ao.length:Int)==2))&&((ao.getD 0 0)==95)) (gy_t rfl) (fun hg=>y_bld [I 1,I 4] rfl rfl jF)<|g_val (((((((((ae==0)&&(ah==0))&&(ai==0))&&(aj==0))&&(ak==0))&&(decide ((⟨(ab:Int),(ac:Int)⟩:Span)=(⟨(172:Int),(180:Int)⟩:Span))))&&(decide ((⟨(al:Int),(am:Int)⟩:Span)=(⟨(105:Int),(125:Int)⟩:Span))))&&((ao.length:Int)==2))&&((ao.getD 0 0)==95)) (gy_t rfl) (fun hg=>x_eqS (eqT27 (⟨(au:Int),(av:Int)⟩:Span) (⟨(1:Int),(4:Int)⟩:Span) _) gdT27 (gd_of hg (.agg #[I au,I av])) (gd_of hg (.agg #[I 1,I 4]))) ?_;refine kg 8 ?_;replace H:=H.pk []
 exact rt

end Go.Proofs.YtbgoclcmgbpckabGreat
end
section
set_option maxRecDepth 100000
set_option maxHeartbeats 16000000
namespace Go.Proofs.YtbgoclcmgbpckabGreat
open Go Go.Nm
attribute [local irreducible] gd execOp SL SLD SLT WR
def za6 (aa:List Int):(Int × Nat)->M ((Int × Nat) ⊕ Int):=fun (top,i) =>
  bif decide ((i:Int)<(aa.length:Int)) then (
  M.grd (decide ((i:Int)<(aa.length:Int))) <|
  M.pure (.inl (max top (aa.getD i 0),i+1)))
  else (
  M.pure (.inr top))
def zbv (one two:List UInt8):(Nat × (List Span) × (List Int))->M ((Nat × (List Span) × (List Int)) ⊕ (((List Int) × (List Span)) ⊕ ((List Span) × (List Int) × (List Int) × (List Span)))):=fun (s,l,l2) =>
  bif decide ((s:Int)<(([one,two]).length:Int)) then (
  M.grd (decide ((s:Int)<(([one,two]).length:Int))) <|
  M.bind (zbS (([one,two]).getD s ([]))) fun (r1,r2) =>
  M.bind (zb8 (([one,two]).getD s ([])) r1 r2 8 true) fun (ae,ah,ai,aj,ak,al,am,aq,ac,ao,q1,q2) =>
  M.bind (zbX ae ah ai aj ak al am ao (-100000000) 100000000) fun (ab,aa,ap) =>
  bif ((ap != 0)||((ac.length:Int)==0)) then (
  M.pure (.inr (.inl (l2,l))))
  else (
  M.grd (decide (0<(ac.length:Int))) <|
  M.bind (M.iter (za6 ac) (ac.getD 0 0,0)) fun top2 =>
  bif ((decide (top2<ab))||(decide (aa<top2))) then (
  M.pure (.inr (.inl (l2,l))))
  else (
  M.grd (decide (0<=(max 0 ab))&&decide ((max 0 ab)<=(9223372036854775807:Int))&&decide ((0:Int)<10)) <|
  M.gi ((max 0 aa)+9) <|
  M.grd (decide (0<=((max 0 aa)+9))&&decide (((max 0 aa)+9)<=(9223372036854775807:Int))&&decide ((0:Int)<10)) <|
  M.grd (decide ((l.length+([(⟨((max 0 ab) / 10:Int),(min 2000 (((max 0 aa)+9) / 10):Int)⟩:Span)]).length)*16<=140737488355328)) <|
  M.grd (decide (0<=(max 0 top2))&&decide ((max 0 top2)<=(9223372036854775807:Int))&&decide ((0:Int)<10)) <|
  M.grd (decide ((l2.length+([((max 0 top2) / 10:Int)]).length)*8<=140737488355328)) <|
  M.pure (.inl (s+1,l++([(⟨((max 0 ab) / 10:Int),(min 2000 (((max 0 aa)+9) / 10):Int)⟩:Span)]),l2++([((max 0 top2) / 10:Int)]))))))
  else (
  M.pure (.inr (.inr (l,l2,l2,l))))
def zbr (aa:List Mrk):(Nat × (List Int))->M ((Nat × (List Int)) ⊕ ((List Int) × (List Int))):=fun (i2,l9) =>
  bif decide ((i2:Int)<(aa.length:Int)) then (
  M.grd (decide ((l9.length+([(i2:Int)]).length)*8<=140737488355328)) <|
  M.pure (.inl (i2+1,l9++([(i2:Int)]))))
  else (
  M.pure (.inr (l9,l9)))
def zbl (years:List UInt8):(Int × Int × Int × (List Int))->M ((Int × Int × Int × (List Int)) ⊕ (Int × Int × (List Int) × (List Int))):=fun (s2,s3,k,aa) =>
  bif decide (0<k) then (
  M.bind (zab years s2 s3 300) fun (r4,ab,ac) =>
  M.grd (decide ((aa.length+([(r4:Int)]).length)*8<=140737488355328)) <|
  M.gi (k-1) <|
  M.pure (.inl (ab,ac,k-1,aa++([(r4:Int)]))))
  else (
  M.pure (.inr (s2,s3,aa,aa)))
def zbn (years:List UInt8) (l7:List Int) (l8:List Span) (ac:List Int) (r0:List Span):(Int × Int × Nat × (List Yr) × (List Int))->M ((Int × Int × Nat × (List Yr) × (List Int)) ⊕ (Int × Int × (List Yr) × (List Int) × (List Int) × (List Yr))):=fun (s6,s7,i3,ab,ae) =>
  bif decide ((i3:Int)<3) then (
  M.bind (zab years s6 s7 6) fun (r3,ah,ai) =>
  M.bind (M.iter (zbl years) (ah,ai,r3,ae)) fun (s4,s5,aj,aa) =>
  M.gi (1800+(aa.length:Int)) <|
  M.grd (decide ((i3:Int)<((l8++([(r0.getD 0 default)])).length:Int))) <|
  M.grd (decide ((ab.length+([(⟨1800+(aa.length:Int),(((l8++([(r0.getD 0 default)])).getD i3 default).lo:Int),(((l8++([(r0.getD 0 default)])).getD i3 default).hi:Int)⟩:Yr)]).length)*24<=140737488355328)) <|
  M.grd (decide ((i3:Int)<((l7++([(ac.getD 0 0:Int)])).length:Int))) <|
  M.grd (decide ((aa.length+([((l7++([(ac.getD 0 0:Int)])).getD i3 0:Int)]).length)*8<=140737488355328)) <|
  M.pure (.inl (s4,s5,i3+1,ab++([(⟨1800+(aa.length:Int),(((l8++([(r0.getD 0 default)])).getD i3 default).lo:Int),(((l8++([(r0.getD 0 default)])).getD i3 default).hi:Int)⟩:Yr)]),aa++([((l7++([(ac.getD 0 0:Int)])).getD i3 0:Int)]))))
  else (
  M.pure (.inr (s6,s7,ab,ae,ae,ab)))
def zbj (aa:List Int) (i4:Nat):(Nat × Nat)->M ((Nat × Nat) ⊕ Int):=fun (ab,k2) =>
  bif decide ((k2:Int)<(aa.length:Int)) then (
  M.grd (decide ((k2:Int)<(aa.length:Int))) <|
  M.grd (decide ((i4:Int)<(aa.length:Int))) <|
  bif decide ((aa.getD i4 0)<=(aa.getD k2 0)) then (
  M.gi ((ab:Int)+1) <|
  M.pure (.inl (ab+1,k2+1)))
  else (
  M.pure (.inl (ab,k2+1))))
  else (
  M.pure (.inr (ab:Int)))
def zbf (aa:List Int) (r5 r6:Int):(Nat × Int × Nat)->M ((Nat × Int × Nat) ⊕ (Int × Int)):=fun (n,high2,i4) =>
  bif decide ((i4:Int)<(aa.length:Int)) then (
  M.bind (M.iter (zbj aa i4) (0,0)) fun ab =>
  bif decide ((1+r6)<=ab) then (
  M.grd (decide ((i4:Int)<(aa.length:Int))) <|
  M.grd (decide ((i4:Int)<(aa.length:Int))) <|
  bif decide (r5<=(aa.getD i4 0)) then (
  M.gi ((n:Int)+1) <|
  M.pure (.inl (n+1,max high2 (aa.getD i4 0),i4+1)))
  else (
  M.pure (.inl (n,max high2 (aa.getD i4 0),i4+1))))
  else (
  M.grd (decide ((i4:Int)<(aa.length:Int))) <|
  bif decide (r5<=(aa.getD i4 0)) then (
  M.gi ((n:Int)+1) <|
  M.pure (.inl (n+1,high2,i4+1)))
  else (
  M.pure (.inl (n,high2,i4+1)))))
  else (
  M.pure (.inr ((n:Int),high2)))
def zaQ (ab:List Int) (ac ae n2 aa ah:Int):M Bool :=
  M.grd ((!((decide (aa<=n2))&&(decide (n2<=ah)))||(decide ((-9223372036854775808:Int)<=(aa*ae))&&decide ((aa*ae)<=(9223372036854775807:Int))))) <|
  M.grd ((!((decide (aa<=n2))&&(decide (n2<=ah)))||(decide ((-9223372036854775808:Int)<=(ac*(ab.length:Int)))&&decide ((ac*(ab.length:Int))<=(9223372036854775807:Int))))) <|
  M.bind (M.opt (((decide (aa<=n2))&&(decide (n2<=ah)))&&(decide ((aa*ae)<=(ac*(ab.length:Int))))) (zde) false) fun r7 =>
  M.pure ((((decide (aa<=n2))&&(decide (n2<=ah)))&&(decide ((aa*ae)<=(ac*(ab.length:Int)))))&&r7)
def zaW (years:List UInt8) (av times:Int) (l7:List Int) (l8:List Span) (aw:List Int) (r0:List Span):M Bool :=
  M.bind (zbS years) fun (ax,ay) =>
  M.bind (M.iter (zbn years l7 l8 aw r0) (ax,ay,0,[],[])) fun (s8,s9,aH,aI,aa,ab) =>
  M.gi (1800+(aa.length:Int)) <|
  M.bind (zcn years s8 s9 ab ([]:List Old10) 1800 ((1800+(aa.length:Int))-1) aa) fun (ah,ai,aj,ak,aJ,aK) =>
  M.bind (zaY av 450) fun r5 =>
  M.bind (zaF ab ([(⟨(ah:Int),(ai:Int),(aj:Int),ak⟩:Old10)]) 1800 ((1800+(aa.length:Int))-1) aa) fun (az,aA) =>
  M.bind (zby ab ([(⟨(ah:Int),(ai:Int),(aj:Int),ak⟩:Old10)]) 1800 ((1800+(aa.length:Int))-1) r5) fun (al,ac,am,ae,aB) =>
  M.bind (zaY times (aa.length:Int)) fun r6 =>
  M.gi (1+r6) <|
  M.bind (zaX ab ([(⟨(ah:Int),(ai:Int),(aj:Int),ak⟩:Old10)]) 1800 ((1800+(aa.length:Int))-1) 1800 ((1800+(aa.length:Int))-1) (1+r6)) fun (aC,aD,aE) =>
  bif ((((((aA != 0)||(aB != 0))||(aE != 0))||(!az))||(decide (ac<1)))||(decide (ae<1))) then (
  M.pure false)
  else (
  M.bind (M.iter (zbf aa r5 r6) (0,0,0)) fun (n2,high3) =>
  M.gi (al*(aa.length:Int)) <|
  M.gi (n2*ac) <|
  M.grd ((!(!(decide ((n2*ac)<(al*(aa.length:Int)))))||(decide ((-9223372036854775808:Int)<=(am*(aa.length:Int)))&&decide ((am*(aa.length:Int))<=(9223372036854775807:Int))))) <|
  M.grd ((!(!(decide ((n2*ac)<(al*(aa.length:Int)))))||(decide ((-9223372036854775808:Int)<=(n2*ae))&&decide ((n2*ae)<=(9223372036854775807:Int))))) <|
  bif ((((decide ((n2*ac)<(al*(aa.length:Int))))||(decide ((am*(aa.length:Int))<(n2*ae))))||(decide (high3<aC)))||(decide (aD<high3))) then (
  M.pure false)
  else (
  M.grd (decide (2<(ab.length:Int))) <|
  M.bind (zap ab ([(⟨(ah:Int),(ai:Int),(aj:Int),ak⟩:Old10)]) 1800 ((1800+(aa.length:Int))-1) 1800 ((ab.getD 2 default).year) r5) fun (ao,ap,aF) =>
  bif aF != 0 then (
  M.pure false)
  else (
  bif decide (((ab.getD 2 default).year)<((1800+(aa.length:Int))-1)) then (
  M.gi (((ab.getD 2 default).year)+1) <|
  M.bind (zap ab ([(⟨(ah:Int),(ai:Int),(aj:Int),ak⟩:Old10)]) 1800 ((1800+(aa.length:Int))-1) (((ab.getD 2 default).year)+1) ((1800+(aa.length:Int))-1) r5) fun (aq,au,aG) =>
  bif aG != 0 then (
  M.pure false)
  else (
  M.gi (ao+aq) <|
  M.gi (ap+au) <|
  zaQ aa am ae n2 (ao+aq) (ap+au)))
  else (
  zaQ aa am ae n2 ao ap))))
def zdF (one two sites years:List UInt8) (ac times:Int):M Bool :=
  M.bind (M.iter (zbv one two) (0,[],[])) fun x_=>match x_ with
  | (.inl (l3,l4))=>(
  M.pure false)
  | (.inr (l5,l6,l7,l8))=>(
  M.bind (zbS sites) fun (ae,ah) =>
  M.bind (zbR sites ae ah 8 false) fun (ai,ab,aj,aa,am,ao,ap) =>
  M.bind (M.iter (zbr ab) (0,[])) fun (aq,ak) =>
  M.bind (zca ai ab aj ak) fun (r0,al) =>
  bif ((al != 0)||((r0.length:Int) != (aa.length:Int))) then (
  M.pure false)
  else (
  M.grd (decide (0<(r0.length:Int))) <|
  M.grd (decide (0<(aa.length:Int))) <|
  M.grd (decide ((l8.length+([(r0.getD 0 default)]).length)*16<=140737488355328)) <|
  M.grd (decide ((l7.length+([(aa.getD 0 0:Int)]).length)*8<=140737488355328)) <|
  zaW years ac times l7 l8 aa r0))
theorem zfE {R bb aI bc aJ bC aK bD au}(one two sites years aj times)(ak:Reads R bb)(cf:Sl bb aI one)(al:Reads R bc)(cg:Sl bc aJ two)(ch:Reads R bC)(cj:Sl bC aK sites)(bE:Reads R bD)(bF:Sl bD au years){r}(hM:(zdF one two sites years aj times).Ends r)(w)(H:St w w [] R):Ret Tryz.prog 3 #[aI,aJ,aK,au,I aj,I times] w fun v w'=>∃ y0,y0=r/\v=B y0/\St w w' [] R:=by
 refine ret_of_W Tryz.func3 rfl rfl rfl ?_;refine kg 17 ?_;obtain ⟨aL,H⟩:=H.emptyE;have aw:=cf;replace aw:=aw.mono (Cells.sup_l _ aL.cells);have aM:=cg;replace aw:=aw.mono (Cells.sup_monoL (Cells.sup_l _ _) ((Reads.sup ak al).at H) (roLe _ (H.get (k:=0) rfl)));replace aM:=aM.mono ((Cells.sup_r (ak.at H) (al.at H)).trans (Cells.sup_l _ aL.cells));obtain ⟨aB,bG⟩:∃ r:Raw 0,r.cs=[aI]:=⟨Raw.of [aI] rfl (by simp only [List.all_cons,List.all_nil,Bool.true_and,Bool.and_true,Sl.oc aw]; try rfl),rfl⟩
 obtain ⟨aC,bH⟩:∃ r:Raw 0,r.cs=[aJ]:=⟨Raw.of [aJ] rfl (by simp only [List.all_cons,List.all_nil,Bool.true_and,Bool.and_true,Sl.oc aM]; try rfl),rfl⟩
 have aT:RepR (α:=List UInt8) (Cells.sup (Cells.sup bb bc) aL.cells) [aB,aC] [one,two]:=.cons (by rw [bG]; exact ⟨_,rfl,aw⟩)<|.cons (by rw [bH]; exact ⟨_,rfl,aM⟩)<|.nil
 refine t_bs (α:=Raw 0) T25.h [aI,aJ] [aB,aC] H rfl (.cons (by rw [show (Flat.enc aB:List Value)=aB.cs from rfl,bG]; exact Sl.cells aw) (Flat.rep_enc _ _)<|.cons (by rw [show (Flat.enc aC:List Value)=aC.cs from rfl,bH]; exact Sl.cells aM) (Flat.rep_enc _ _)<|.nil) rfl rfl rfl ?_;intro aN ed H;replace H:=H.nf;have ef:=((rowSl rfl (H.get (k:=0) rfl) (Cells.sup_le ((Reads.sup ak al).at H) (roLe _ (H.get (k:=1) rfl))) aT)).len_le;refine s_val (x_lenS T25.h.und rfl (rowSl rfl (H.get (k:=0) rfl) (Cells.sup_le ((Reads.sup ak al).at H) (roLe _ (H.get (k:=1) rfl))) aT)) ?_;refine kg 3 ?_;replace H:=H.nilOwn (α:=Span) 27;replace H:=H.nilOwn (α:=Int) 3;obtain ⟨ck,bI,bf⟩:=M.e_bind hM;obtain ⟨aD,bI⟩:=M.e_iter bI;refine W.loop (fun m σ W=>∃ (s:Nat) (l:List Span) (l2:List Int) (ax:Value) (ay:Value) (ρ:Env),σ=upds ρ [(2,aK),(3,au),(4,I aj),(5,I times),(13,ax),(14,ay),(53,aN),(54,I (([one,two]).length:Int)),(55,I (s:Int))]/\M.iterN (zbv one two) m (s,l,l2)=some ck/\St w W [cOwn (α:=Int) 3 ay l2,cOwn (α:=Span) 27 ax l,cOwn (α:=Raw 0) 22 aN ([aB,aC]),cRo aL] R) ?_ ?_
 ·exact kY
 rintro eg σ ei ⟨s,l,l2,ax,ay,ρ,rfl,cn,H⟩;obtain ⟨ej,em,eo,hM,bg⟩:=M.e_iterN cn;refine kI 5 ?_ ?_
 ·intro cp hM;obtain ⟨ep,hM⟩:=M.e_gq hM;refine kg 5 ?_;refine s_val (x_ix (v:=vat aN 1 (Int.toNat (s:Int))) rfl rfl (Sl.ix (α:=List UInt8) T25.h.und T25.h.size (rowSl rfl (H.get (k:=2) rfl) (Cells.sup_le ((Reads.sup ak al).at H) (roLe _ (H.get (k:=3) rfl))) aT) (by omega) (by omega))) ?_;obtain ⟨bh,cr,aO⟩:=List_at (rowSl rfl (H.get (k:=2) rfl) (Cells.sup_le ((Reads.sup ak al).at H) (roLe _ (H.get (k:=3) rfl))) aT) (i:=(s:Int)) (by omega) (by omega);replace aO:Sl _ bh (([one,two]).getD s ([])):=aO;have eq:=aO.len_le;refine s_val (x_ld (v:=bh) rfl (ld_sc Sc22.h (At.mono (cr) (Cells.sup_le (H.ol 2) (Cells.sup_le ((Reads.sup ak al).at H) (roLe _ (H.get (k:=3) rfl))))))) ?_;refine kg 5 ?_;obtain ⟨er,ct,hM⟩:=M.e_bind hM;refine s_call cq [bh] rfl (zdj (([one,two]).getD s ([])) (Reads.sup (rdo 2) (Reads.sup ((Reads.sup ak al).app _) (Reads.of (k:=3) rfl roLe))) aO ct _ (H.gt 4)) ?_;rintro _ eu ⟨r1,r2,cu,rfl,rfl,ab⟩;replace H:=H.bk ab;obtain ⟨ew,cv,hM⟩:=M.e_bind hM;refine s_call cq [Pq cu,I 8,B true] rfl (zfT (([one,two]).getD s ([])) r1 r2 8 true (Reads.sup (rdo 2) (Reads.sup ((Reads.sup ak al).app _) (Reads.of (k:=3) rfl roLe))) aO cv _ (H.gt 4)) ?_;rintro _ ey ⟨ez,eA,eB,eC,eD,eE,eF,cB,aU,cC,q1,q2,eG,eH,bJ,bi,bK,rfl,rfl,ab⟩;replace H:=H.bk ab;refine kA 3 ?_;intro eI eJ H;refine kal ?_;intro bj eK H;refine kS 0 ?_;intro eL H;refine kS 0 ?_;intro eM H;refine kC 6 @ze4 ?_;intro eN bL bM aV hM H;refine kA 3 ?_;intro bN eO H;refine ksw ?_;intro eP H;refine kg 2 ?_;replace H:=H.pk [0,1,5,6,7,9,10,11,12];refine kI 12 ?_ ?_
  ·intro cD hM;refine kg 4 ?_;replace H:=H.pk [5,6,7,8];obtain rfl:=M.e_inr hM bg;replace hM:=bf;exact rt
  intro cD hM;obtain ⟨eQ,hM⟩:=M.e_gq hM;refine kg 15 ?_;obtain ⟨cE,bO,cF⟩:=M.e_bind hM;obtain ⟨aD,bO⟩:=M.e_iter bO;refine W.loop (fun m σ W=>∃ (top:Int) (i:Nat) (ρ:Env),σ=upds ρ [(2,aK),(3,au),(4,I aj),(5,I times),(13,ax),(14,ay),(18,Pq bj),(19,Pq bN),(21,I top),(22,I (i:Int)),(53,aN),(54,I (([one,two]).length:Int)),(55,I (s:Int)),(75,gd (!(aV != 0)) (Oq bj 1)),(76,gd (!(aV != 0)) bi),(77,gd (!(aV != 0)) (I (aU.length:Int))),(78,gd (!(aV != 0)) (B ((aU.length:Int)==0)))]/\M.iterN (za6 aU) m (top,i)=some cE/\St w W [cBlk bN [I bL,I bM] 27,cBlk bj [bJ,bi,bK] 33,cOwn (α:=Int) 3 bJ cB,cOwn (α:=Int) 3 bi aU,cOwn (α:=Int) 3 bK cC,cOwn (α:=Int) 3 ay l2,cOwn (α:=Span) 27 ax l,cOwn (α:=Raw 0) 22 aN ([aB,aC]),cRo aL] R) ?_ ?_
  ·exact kY
  rintro eR σ eS ⟨top,i,ρ,rfl,cG,H⟩;obtain ⟨eT,eU,eV,hM,cH⟩:=M.e_iterN cG;have eW:=((H.os 3)).len_le;refine kI 9 ?_ ?_
  ·intro cI hM;obtain ⟨eX,hM⟩:=M.e_gq hM;exact kX 18
  intro cI hM;refine W.exit ?_;obtain rfl:=M.e_inr hM cH;replace hM:=cF;refine kI 14 ?_ ?_
  ·intro cJ hM;refine kg 4 ?_;replace H:=H.pk [5,6,7,8];obtain rfl:=M.e_inr hM bg;replace hM:=bf;exact rt
  intro cJ hM;obtain ⟨eY,hM⟩:=M.e_gq hM;obtain ⟨eZ,hM⟩:=M.e_gq hM;obtain ⟨e6,hM⟩:=M.e_gq hM;refine kL 14 (α:=Span) [⟨(max 0 bL) / 10,min 2000 (((max 0 bM)+9) / 10)⟩] ?_;intro e7 e8 H;obtain ⟨e9,hM⟩:=M.e_gq hM;refine kP 0 ?_;intro fa fb H;obtain ⟨fd,hM⟩:=M.e_gq hM;refine kL 4 (α:=Int) [(max 0 top) / 10] ?_;intro ff fg H;obtain ⟨fh,hM⟩:=M.e_gq hM;refine kP 0 ?_;intro fi fj H;refine kg 3 ?_;replace H:=H.pk [2,3,4,5,6,7,8,9,10];exact kXp 4 [5,6,7,8]
 intro cp hM;refine W.exit ?_;obtain rfl:=M.e_inr hM bg;replace hM:=bf;replace H:=H.pk [0,1];refine kC 3 @zdj ?_;intro fk cK cL bP hM H;obtain ⟨fm,cM,hM⟩:=M.e_bind hM;refine s_call cq [Pq bP,I 8,B false] rfl (zgn sites cK cL 8 false (ch.app _) cj cM _ (H.gt 2)) ?_;rintro _ fo ⟨cN,bm,bQ,ah,bR,cO,cP,bn,cQ,cR,bo,bp,aW,aX,rfl,rfl,ab,cS⟩;replace H:=H.bk ab;refine kA 3 ?_;intro bS fp H;refine kal ?_;intro br fq H;refine kS 0 ?_;intro fu H;refine kS 0 ?_;intro fv H;refine kg 11 ?_;replace H:=H.nilOwn (α:=Int) 3;obtain ⟨cT,bT,cU⟩:=M.e_bind hM;obtain ⟨aD,bT⟩:=M.e_iter bT;refine W.loop (fun m σ W=>∃ (i2:Nat) (l9:List Int) (aY:Value) (ρ:Env),σ=upds ρ [(3,au),(4,I aj),(5,I times),(13,ax),(14,ay),(23,Pq bS),(24,Pq br),(25,aY),(26,I (i2:Int))]/\M.iterN (zbr bm) m (i2,l9)=some cT/\St w W [cOwn (α:=Int) 3 aY l9,cBlk br [aW,aX] 47,cBlk bS [bn,bo,bp] 45,cOwn (α:=Raw 1) 95 bn cQ,cRo cR,cOwn (α:=Mrk) 99 bo bm,cOwn (α:=Rch) 101 bp bQ,cOwn (α:=Int) 3 aW ah,cOwn (α:=Int) 3 aX bR,cBlk bP [aK,I cO,I cP] 77,cOwn (α:=Int) 3 ay l2,cOwn (α:=Span) 27 ax l] R) ?_ ?_
 ·exact kY
 rintro fw σ fx ⟨i2,l9,aY,ρ,rfl,cV,H⟩;obtain ⟨fy,fA,fB,hM,cW⟩:=M.e_iterN cV;have fC:=((H.os 5)).len_le;refine kI 9 ?_ ?_
 ·intro cX hM;refine kL 6 (α:=Int) [i2] ?_;intro fD fE H;obtain ⟨fF,hM⟩:=M.e_gq hM;refine kP 0 ?_;intro fG fH H;exact kXp 7 [1,2,3,4,5,6,7,8,9,10,11,12]
 intro cX hM;refine W.exit ?_;obtain rfl:=M.e_inr hM cW;replace hM:=cU;refine kg 4 ?_;obtain ⟨fI,cY,hM⟩:=M.e_bind hM;refine s_call cq [.agg #[bn,bo,bp],aY] rfl (zgG cN bm bQ l9 (Reads.sup (rdo 3) (Reads.of (k:=4) rfl roLe)) (rowSl rfl (H.get (k:=3) rfl) (roLe _ (H.get (k:=4) rfl)) cS) (rdo 5) (H.os 5) (rdo 6) (H.os 6) (rdo 0) (H.os 0) cY _ (H.gt 12)) ?_;rintro _ fJ ⟨r0,fK,cZ,rfl,rfl,ab⟩;replace H:=H.bk ab;refine kg 6 ?_;replace H:=H.pk [0,2,8,9,11,12];refine kI 14 ?_ ?_
 ·intro c4 hM;refine kg 4 ?_;replace H:=H.pk [];exact rt
 intro c4 hM;refine W.skip ?_;refine W.seqJ (fun σ W=>∃ (az:Value) (aA:Value) (bU:Value) (bV:Value) (ρ:Env),σ=upds ρ [(3,au),(4,I aj),(5,I times),(13,az),(14,aA)]/\(zaW years aj times l2 l ah r0).Ends r/\St w W [cOwn (α:=Int) 3 bU ([(ah.getD 0 0:Int)]),cOwn (α:=Span) 27 bV ([(r0.getD 0 default)]),cOwn (α:=Span) 27 cZ r0,cBlk br [aW,aX] 47,cOwn (α:=Int) 3 aW ah,cOwn (α:=Int) 3 aX bR,cOwn (α:=Int) 3 aA (l2++([(ah.getD 0 0:Int)])),cOwn (α:=Span) 27 az (l++([(r0.getD 0 default)]))] R) ?_ ?_
 ·refine kDT 0 [0,1,2,3] (.q 0 (.q 1 (.q 2 (.q 3 (.q 6 (.q 7 (.q 8 (.q 9 (.q 10 (.l2 4 (.l2 5 (.l 11 (.l 12 (.q 13 (.q 14 .nil)))) 11 (.l 5 (.l 12 (.q 13 (.q 14 .nil))))) 11 (.l 4 (.l 5 (.l 12 (.q 13 (.q 14 .nil))))))))))))))) ?_;intro fL H;obtain ⟨fM,hM⟩:=M.e_gq hM;obtain ⟨fN,hM⟩:=M.e_gq hM;obtain ⟨fO,hM⟩:=M.e_gq hM;obtain ⟨fP,hM⟩:=M.e_gq hM;refine kg 9 ?_;refine t_l2 rfl rfl ?_ ?_
  ·refine kL 0 (α:=Span) [(r0.getD 0 default)] ?_;intro bW fQ H;refine kN ?_;refine t_l2 rfl rfl ?_ ?_
   ·refine kP 0 ?_;intro c6 fR H;refine kN ?_;refine kL 1 (α:=Int) [ah.getD 0 0] ?_;intro c7 fS H;refine kN ?_;refine kP 1 ?_;intro c8 fT H;refine kN ?_;refine kg 3 ?_;exact ⟨c6,c8,c7,bW,_,jQ,hM,H⟩
   refine kL 0 (α:=Int) [ah.getD 0 0] ?_;intro c9 fU H;refine kN ?_;refine kP 1 ?_;intro da fV H;refine kN ?_;refine kP 1 ?_;intro db fW H;refine kN ?_;refine kg 3 ?_;exact ⟨da,db,c9,bW,_,jQ,hM,H⟩
  refine kL 0 (α:=Int) [ah.getD 0 0] ?_;intro dc fX H;refine kN ?_;refine kL 1 (α:=Span) [(r0.getD 0 default)] ?_;intro dg fY H;refine kN ?_;refine kP 1 ?_;intro dh fZ H;refine kN ?_;refine kP 1 ?_;intro di f6 H;refine kN ?_;refine kg 3 ?_;exact ⟨dh,di,dc,dg,_,jQ,hM,(H.pk [1,0,2,3,4,5,6,7])⟩
 rintro _ f9 ⟨az,aA,bU,bV,ρ,rfl,hM,H⟩;unfold zaW at hM;refine kC 3 @zdj ?_;intro gc gf gg aE hM H;refine kg 2 ?_;replace H:=H.pk [0,7,8];refine kA 3 ?_;intro av gh H;refine ksw ?_;intro gi H;refine kg 11 ?_;replace H:=H.nilOwn (α:=Yr) 58;replace H:=H.nilOwn (α:=Int) 3;obtain ⟨dj,bX,dk⟩:=M.e_bind hM;obtain ⟨aD,bX⟩:=M.e_iter bX;refine W.loop (fun m σ W=>∃ (s6:Int) (s7:Int) (i3:Nat) (ac:List Yr) (aa:List Int) (ae:Value) (ai:Value) (ρ:Env),σ=upds ρ [(4,I aj),(5,I times),(13,az),(14,aA),(29,Pq aE),(30,Pq av),(31,ai),(32,I (i3:Int))]/\M.iterN (zbn years l2 l ah r0) m (s6,s7,i3,ac,aa)=some dj/\St w W [cOwn (α:=Int) 3 ai aa,cOwn (α:=Yr) 58 ae ac,cBlk av [ae,.slice none 0 0,I 1800,I 0] 55,cBlk aE [au,I s6,I s7] 77,cOwn (α:=Int) 3 aA (l2++([(ah.getD 0 0:Int)])),cOwn (α:=Span) 27 az (l++([(r0.getD 0 default)]))] R) ?_ ?_
 ·exact kY
 rintro gj σ gk ⟨s6,s7,i3,ac,aa,ae,ai,ρ,rfl,dm,H⟩;obtain ⟨gl,gm,gn,hM,dp⟩:=M.e_iterN dm;refine kI 6 ?_ ?_
 ·intro dq hM;refine kg 7 ?_;obtain ⟨gp,dr,hM⟩:=M.e_bind hM;refine s_call cq [Pq aE,I 6] rfl (zac years s6 s7 6 (bE.app _) bF dr _ ((H.pk [3,0,1,2,4,5]).gt 5)) ?_;rintro _ gq ⟨r3,gr,gw,rfl,rfl,ab⟩;replace H:=H.pk [3,0,1,2,4,5] |>.bk ab
  refine kg 3 ?_;obtain ⟨dt,bY,du⟩:=M.e_bind hM;obtain ⟨aD,bY⟩:=M.e_iter bY;refine W.loop (fun m σ W=>∃ (s2:Int) (s3:Int) (k:Int) (aZ:List Int) (bt:Value) (ρ:Env),σ=upds ρ [(4,I aj),(5,I times),(13,az),(14,aA),(29,Pq aE),(30,Pq av),(31,bt),(32,I (i3:Int)),(33,I k)]/\M.iterN (zbl years) m (s2,s3,k,aZ)=some dt/\St w W [cBlk aE [au,I s2,I s3] 77,cOwn (α:=Int) 3 bt aZ,cOwn (α:=Yr) 58 ae ac,cBlk av [ae,.slice none 0 0,I 1800,I 0] 55,cOwn (α:=Int) 3 aA (l2++([(ah.getD 0 0:Int)])),cOwn (α:=Span) 27 az (l++([(r0.getD 0 default)]))] R) ?_ ?_
  ·exact kY
  rintro gx σ gy ⟨s2,s3,k,aZ,bt,ρ,rfl,dv,H⟩;obtain ⟨gz,gA,gB,hM,dx⟩:=M.e_iterN dv;refine kI 6 ?_ ?_
  ·intro dy hM;refine kC 6 @zac ?_;intro gC r4 gD gE hM H;refine kL 0 (α:=Int) [r4] ?_;intro gF gG H;obtain ⟨gH,hM⟩:=M.e_gq hM;refine kP 0 ?_;intro gI gJ H;obtain ⟨gK,hM⟩:=M.e_gq hM;exact kXp 7 [1,2,3,4,5,6]
  intro dy hM;refine W.exit ?_;obtain rfl:=M.e_inr hM dx;replace hM:=du;refine kDS 1 [0,1,3,4,5] (.q 0 (.q 1 (.q 2 (.q 3 (.q 4 (.q 5 (.q 6 (.q 7 (.q 8 (.q 9 (.q 10 (.q 11 (.l 12 (.l 13 (.q 14 .nil))))))))))))))) 15 [15] ?_;intro gL H;have gM:=((H.os 1)).len_le;obtain ⟨gN,hM⟩:=M.e_gq hM;obtain ⟨gO,hM⟩:=M.e_gq hM;refine kL 13 (α:=Yr) [⟨1800+(aZ.length:Int),((l++([(r0.getD 0 default)])).getD i3 default).lo,((l++([(r0.getD 0 default)])).getD i3 default).hi⟩] ?_;intro gP gQ H;refine kN ?_;refine ts_l rfl ?_;obtain ⟨gS,hM⟩:=M.e_gq hM;refine kP 0 ?_;intro gT gU H;refine kN ?_;refine kS 3 ?_;intro gV H;refine s_nil ⟨trivial,?_⟩;refine sr_nil ?_;obtain ⟨gW,hM⟩:=M.e_gq hM;refine kL 6 (α:=Int) [(l2++([(ah.getD 0 0:Int)])).getD i3 0] ?_;intro gX gY H;obtain ⟨gZ,hM⟩:=M.e_gq hM;refine kP 0 ?_;intro g0 hZ H;refine kg 2 ?_;replace H:=H.pk [2,3,4,5,6,7];exact kXp 5 [1,2,3,0,4,5]
 intro dq hM;refine W.exit ?_;obtain rfl:=M.e_inr hM dp;replace hM:=dk;replace H:=H.pk [0,1,2,3];have ia:=((H.os 0)).len_le;obtain ⟨ib,hM⟩:=M.e_gq hM;refine kS 9 ?_;intro ic H;refine kg 6 ?_;obtain ⟨ie,dz,hM⟩:=M.e_bind hM;refine s_call cq [Pq aE,.agg #[ae,.slice none 0 0,I 1800,I ((1800+(aa.length:Int))-1)],ai] rfl (zfM years s6 s7 ac ([]:List Old10) 1800 ((1800+(aa.length:Int))-1) aa (bE.app _) bF (rdo 1) (H.os 1) Reads.none (Sl.nil (fun _=>none)) (rdo 0) (H.os 0) dz _ ((H.pk [3,0,1,2]).gt 3)) ?_;rintro _ ig ⟨am,ao,ap,aF,ii,ij,bu,rfl,rfl,ab⟩;replace H:=H.pk [3,0,1,2] |>.bk ab
 obtain ⟨ik,H⟩:=H.emptyE;obtain ⟨il,H,dA⟩:=H.freezeE (k:=1) rfl;replace H:=H.nf;have a6:=dA;obtain ⟨bv,H,im,dB⟩:=H.joinE (i:=0) (j:=1) rfl rfl;replace a6:=a6.mono dB;obtain ⟨aG,bZ⟩:∃ r:Raw 3,r.cs=[I am,I ao,I ap,bu]:=⟨Raw.of [I am,I ao,I ap,bu] rfl (by simp only [List.all_cons,List.all_nil,Bool.true_and,Bool.and_true,Sl.oc a6]; try rfl),rfl⟩
 have aP:RepR (α:=Old10) bv.cells [aG] [(⟨(am:Int),(ao:Int),(ap:Int),aF⟩:Old10)]:=.cons (by rw [bZ]; exact ⟨_,rfl,a6⟩)<|.nil
 refine t_bs (α:=Raw 3) T53.h [.agg #[I am,I ao,I ap,bu]] [aG] H rfl (.cons (by rw [show (Flat.enc aG:List Value)=aG.cs from rfl,bZ]; rfl) (Flat.rep_enc _ _)<|.nil) rfl rfl rfl ?_;intro aq io H;replace H:=H.nf;refine kS 1 ?_;intro iq H;refine s_nil ?_;replace H:=H.pk [0,1,5,6,7];refine kC 3 @zef ?_;intro ir r5 hM H;refine kg 6 ?_;obtain ⟨iw,dC,hM⟩:=M.e_bind hM;refine s_call cq [.agg #[ae,aq,I 1800,I ((1800+(aa.length:Int))-1)],ai] rfl (zfN ac ([(⟨(am:Int),(ao:Int),(ap:Int),aF⟩:Old10)]) 1800 ((1800+(aa.length:Int))-1) aa (rdo 3) (H.os 3) (Reads.sup (rdo 0) (Reads.of (k:=1) rfl roLe)) (rowSl rfl (H.get (k:=0) rfl) (roLe _ (H.get (k:=1) rfl)) aP) (rdo 2) (H.os 2) dC _ (H.gt 5)) ?_;rintro _ iy ⟨iz,iA,rfl,rfl,ab⟩;replace H:=H.bk ab;refine kg 10 ?_;obtain ⟨iB,dD,hM⟩:=M.e_bind hM;refine s_call cq [.agg #[ae,aq,I 1800,I ((1800+(aa.length:Int))-1)],I r5] rfl (zgr ac ([(⟨(am:Int),(ao:Int),(ap:Int),aF⟩:Old10)]) 1800 ((1800+(aa.length:Int))-1) r5 (rdo 3) (H.os 3) (Reads.sup (rdo 0) (Reads.of (k:=1) rfl roLe)) (rowSl rfl (H.get (k:=0) rfl) (roLe _ (H.get (k:=1) rfl)) aP) dD _ (H.gt 5)) ?_;rintro _ iC ⟨b4,b6,aQ,aR,iD,rfl,rfl,ab⟩;replace H:=H.bk ab;refine kA 4 ?_;intro a7 iE H;refine kal ?_;intro aH iF H;refine ksw ?_;intro iG H;refine ksw ?_;intro iH H;have iI:=((H.os 4)).len_le;refine kC 7 @zef ?_;intro iJ r6 hM H;obtain ⟨iK,hM⟩:=M.e_gq hM;refine kg 11 ?_;obtain ⟨iL,dE,hM⟩:=M.e_bind hM;refine s_call cq [.agg #[ae,aq,I 1800,I ((1800+(aa.length:Int))-1)],I 1800,I ((1800+(aa.length:Int))-1),I (1+r6)] rfl (zfS ac ([(⟨(am:Int),(ao:Int),(ap:Int),aF⟩:Old10)]) 1800 ((1800+(aa.length:Int))-1) 1800 ((1800+(aa.length:Int))-1) (1+r6) (rdo 5) (H.os 5) (Reads.sup (rdo 2) (Reads.of (k:=3) rfl roLe)) (rowSl rfl (H.get (k:=2) rfl) (roLe _ (H.get (k:=3) rfl)) aP) dE _ (H.gt 7)) ?_;rintro _ iM ⟨b7,b8,iN,rfl,rfl,ab⟩;replace H:=H.bk ab;refine kA 3 ?_;intro a8 iO H;refine ksw ?_;intro iP H;refine kI 30 ?_ ?_
 ·intro dF hM;refine kg 4 ?_;replace H:=H.pk [];exact rt
 intro dF hM;refine kg 12 ?_;obtain ⟨dG,b9,dH⟩:=M.e_bind hM;obtain ⟨aD,b9⟩:=M.e_iter b9;refine W.loop (fun m σ W=>∃ (n:Nat) (high2:Int) (i4:Nat) (ρ:Env),σ=upds ρ [(30,Pq av),(31,ai),(34,I r5),(36,Pq a7),(37,Pq aH),(39,I (1+r6)),(40,Pq a8),(42,I (n:Int)),(43,I high2),(44,I (i4:Int))]/\M.iterN (zbf aa r5 r6) m (n,high2,i4)=some dG/\St w W [cBlk a8 [I b7,I b8] 27,cBlk aH [I aQ,I aR] 66,cBlk a7 [I b4,I b6] 66,cOwn (α:=Raw 3) 60 aq ([aG]),cRo bv,cOwn (α:=Int) 3 ai aa,cOwn (α:=Yr) 58 ae ac,cBlk av [ae,aq,I 1800,I ((1800+(aa.length:Int))-1)] 55] R) ?_ ?_
 ·exact kY
 rintro iQ σ iR ⟨n,high2,i4,ρ,rfl,dJ,H⟩;obtain ⟨iS,iT,iU,hM,dK⟩:=M.e_iterN dJ;have iV:=((H.os 5)).len_le;refine kI 8 ?_ ?_
 ·intro dL hM;refine kg 13 ?_;obtain ⟨dM,cb,dN⟩:=M.e_bind hM;obtain ⟨aD,cb⟩:=M.e_iter cb;refine W.loop (fun m σ W=>∃ (bw:Nat) (k2:Nat) (ρ:Env),σ=upds ρ [(30,Pq av),(31,ai),(34,I r5),(36,Pq a7),(37,Pq aH),(39,I (1+r6)),(40,Pq a8),(42,I (n:Int)),(43,I high2),(44,I (i4:Int)),(45,I (bw:Int)),(46,I (k2:Int))]/\M.iterN (zbj aa i4) m (bw,k2)=some dM/\St w W [cBlk a8 [I b7,I b8] 27,cBlk aH [I aQ,I aR] 66,cBlk a7 [I b4,I b6] 66,cOwn (α:=Raw 3) 60 aq ([aG]),cRo bv,cOwn (α:=Int) 3 ai aa,cOwn (α:=Yr) 58 ae ac,cBlk av [ae,aq,I 1800,I ((1800+(aa.length:Int))-1)] 55] R) ?_ ?_
  ·exact kY
  rintro iW σ iX ⟨bw,k2,ρ,rfl,dO,H⟩;obtain ⟨iY,iZ,i0,hM,dP⟩:=M.e_iterN dO;have i6:=((H.os 5)).len_le;refine kI 8 ?_ ?_
  ·intro dQ hM;refine kD 4 [0,1,2,3,4,5,6,7] [] ?_;intro i7 H;obtain ⟨i8,hM⟩:=M.e_gq hM;obtain ⟨i9,hM⟩:=M.e_gq hM;refine kI 10 ?_ ?_
   ·intro dR hM;obtain ⟨ja,hM⟩:=M.e_gq hM;exact kX 10
   intro dR hM;exact kX 6
  intro dQ hM;refine W.exit ?_;obtain rfl:=M.e_inr hM dP;replace hM:=dN;refine kI 7 ?_ ?_
  ·intro dS hM;obtain ⟨jb,hM⟩:=M.e_gq hM;obtain ⟨jc,hM⟩:=M.e_gq hM;refine kI 18 ?_ ?_
   ·intro dU hM;obtain ⟨jd,hM⟩:=M.e_gq hM;exact kX 10
   intro dU hM;exact kX 6
  intro dS hM;obtain ⟨je,hM⟩:=M.e_gq hM;refine kI 10 ?_ ?_
  ·intro dV hM;obtain ⟨jf,hM⟩:=M.e_gq hM;exact kX 10
  intro dV hM;exact kX 6
 intro dL hM;refine W.exit ?_;obtain rfl:=M.e_inr hM dK;replace hM:=dH;have jg:=((H.os 5)).len_le;obtain ⟨jh,hM⟩:=M.e_gq hM;obtain ⟨ji,hM⟩:=M.e_gq hM;obtain ⟨bx,hM⟩:=M.e_grd hM;replace bx:=M.imp_of bx;simp only [Bool.and_eq_true,decide_eq_true_eq] at bx;obtain ⟨bz,hM⟩:=M.e_grd hM;replace bz:=M.imp_of bz;simp only [Bool.and_eq_true,decide_eq_true_eq] at bz;refine kg 38 ?_;replace H:=H.pk [1,3,4,5,6,7];refine kI 0 ?_ ?_
 ·intro dW hM;refine kg 4 ?_;replace H:=H.pk [];exact rt
 intro dW hM;obtain ⟨jj,hM⟩:=M.e_gq hM;refine kg 17 ?_;obtain ⟨jk,dX,hM⟩:=M.e_bind hM;refine s_call cq [.agg #[ae,aq,I 1800,I ((1800+(aa.length:Int))-1)],I 1800,I ((ac.getD 2 default).year),I r5] rfl (zbQ ac ([(⟨(am:Int),(ao:Int),(ap:Int),aF⟩:Old10)]) 1800 ((1800+(aa.length:Int))-1) 1800 ((ac.getD 2 default).year) r5 (rdo 4) (H.os 4) (Reads.sup (rdo 1) (Reads.of (k:=2) rfl roLe)) (rowSl rfl (H.get (k:=1) rfl) (roLe _ (H.get (k:=2) rfl)) aP) dX _ (H.gt 6)) ?_;rintro _ jl ⟨cc,cd,jm,rfl,rfl,ab⟩;replace H:=H.bk ab;refine kA 3 ?_;intro ce jn H;refine ksw ?_;intro jo H;refine kI 8 ?_ ?_
 ·intro dY hM;refine kg 4 ?_;replace H:=H.pk [];exact rt
 intro dY hM;refine W.skip ?_;refine W.seqJ (fun σ W=>∃ (aS:Int) (ba:Int) (ρ:Env),σ=upds ρ [(31,ai),(37,Pq aH),(42,I (n:Int)),(48,Pq ce)]/\(zaQ aa aQ aR (n:Int) aS ba).Ends r/\St w W [cBlk ce [I aS,I ba] 27,cBlk aH [I aQ,I aR] 66,cOwn (α:=Int) 3 ai aa] R) ?_ ?_
 ·refine kI 7 ?_ ?_
  ·intro dZ hM;obtain ⟨jp,hM⟩:=M.e_gq hM;refine kg 8 ?_;obtain ⟨jq,d6,hM⟩:=M.e_bind hM;refine s_call cq [.agg #[ae,aq,I 1800,I ((1800+(aa.length:Int))-1)],I (((ac.getD 2 default).year)+1),I ((1800+(aa.length:Int))-1),I r5] rfl (zbQ ac ([(⟨(am:Int),(ao:Int),(ap:Int),aF⟩:Old10)]) 1800 ((1800+(aa.length:Int))-1) (((ac.getD 2 default).year)+1) ((1800+(aa.length:Int))-1) r5 (rdo 5) (H.os 5) (Reads.sup (rdo 2) (Reads.of (k:=3) rfl roLe)) (rowSl rfl (H.get (k:=2) rfl) (roLe _ (H.get (k:=3) rfl)) aP) d6 _ (H.gt 7)) ?_;rintro _ jr ⟨d7,d8,js,rfl,rfl,ab⟩;replace H:=H.bk ab;refine kA 3 ?_;intro jt ju H;refine ksw ?_;intro jv H;refine kg 2 ?_;replace H:=H.pk [0,1,2,5];refine kI 6 ?_ ?_
   ·intro d9 hM;refine kg 4 ?_;replace H:=H.pk [];exact rt
   intro d9 hM;obtain ⟨jw,hM⟩:=M.e_gq hM;obtain ⟨jx,hM⟩:=M.e_gq hM;refine kS 13 ?_;intro jy H;refine s_nil ?_;exact ⟨cc+d7,cd+d8,_,jQ,hM,(H.pk [1,2,3])⟩
  intro dZ hM;refine W.skip ?_;exact ⟨cc,cd,_,jQ,hM,(H.pk [0,1,4])⟩
 rintro _ jz ⟨aS,ba,ρ,rfl,hM,H⟩;unfold zaQ at hM;obtain ⟨bA,hM⟩:=M.e_grd hM;replace bA:=M.imp_of bA;simp only [Bool.and_eq_true,decide_eq_true_eq] at bA;obtain ⟨bB,hM⟩:=M.e_grd hM;replace bB:=M.imp_of bB;simp only [Bool.and_eq_true,decide_eq_true_eq] at bB;refine kg 26 ?_;obtain ⟨r7,ea,hM⟩:=M.e_bind hM;refine t_gcall (((decide (aS<=(n:Int)))&&(decide ((n:Int)<=ba)))&&(decide ((aS*aR)<=(aQ*(aa.length:Int))))) (gy_t rfl) cq (B r7) (fun _=>[]) (fun _=>rfl) H (fun hg=>(zfy (M.e_opt ea hg) _ (H.give (A:=[]) rfl)).mono fun v_ w_ ⟨y_,eb,ec,H_⟩=>by subst eb; exact ⟨ec,H.via H_⟩) ?_;intro jD H;refine kg 3 ?_;replace H:=H.pk [];exact rt

end Go.Proofs.YtbgoclcmgbpckabGreat
end
