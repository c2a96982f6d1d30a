/- Part 4 of the texts on which the proof rests. Conditions: none. -/
import Derived.Test.YtbgoclcmgbpckaaGreatProg
import Derived.Shelf.SlIterI.Nil
import Derived.Shelf.SortM.Plain
import Derived.Shelf.SortM.SortNone
import Derived.Test.YtbgoclcmgbpckaaGreatZA3
set_option linter.unusedVariables false
set_option linter.unusedSimpArgs false
set_option linter.unusedSectionVars false
section
set_option maxRecDepth 100000
set_option maxHeartbeats 16000000
namespace Go.Proofs.YtbgoclcmgbpckaaGreat
open Go Go.Nm
attribute [local irreducible] gd execOp SL SLD SLT WR
def zd9 (ab:List Yr) (ac:List Old10) (aa ae al ah n first last:Int):M (Int × Int × (List (Int × Span)) × Int) :=
  M.bind (zen ab ac aa ae) fun (ai,aj,ak,r1) =>
  bif r1 != 0 then (
  M.fail)
  else (
  M.bind (zag al aa ah) fun r2 =>
  M.bind (M.opt (!(!r2)) (zag ah aa ae) false) fun r3 =>
  bif ((!r2)||(!r3)) then (
  M.fail)
  else (
  M.bind (zag n first last) fun r4 =>
  bif !r4 then (
  M.fail)
  else (
  M.bind (zcU ab ac ai aj ak) fun (r0,am) =>
  bif am then (
  M.fail)
  else (
  M.pure (ai,aj,ak,0)))))
theorem zeG {R ai ae aj ah}(ak al aa ab am ac n first last)(aB:Reads R ai)(aC:Sl ai ae ak)(aD:Reads R aj)(aE:Sl aj ah al){r}(hM:(zd9 ak al aa ab am ac n first last).Ends r)(w)(H:St w w [] R):Ret Tryz.prog 65 #[.agg #[ae,ah,I aa,I ab],I am,I ac,I n,I first,I last] w fun v w'=>∃ y0 y1 y2 y3 ao aq,(y0,y1,y2,y3)=r/\v = .tuple #[Pq ao,I y3]/\St w w' [cBlk ao [ae,ah,I y0,I y1,.map (some aq)] 218,cMl I encSp aq y2] R:=by
 refine ret_of_W Tryz.func65 rfl rfl rfl ?_;refine kB 2 ?_;intro aF aG H;refine kC 6 @zfg ?_;intro aH aI aJ aK r1 aL aM hM H;refine kI 14 ?_ ?_
 ·intro au hM;exact (M.e_fail hM).elim
 intro au hM;refine kC 6 @zaj ?_;intro aN r2 hM H;refine kg 7 ?_;obtain ⟨r3,av,hM⟩:=M.e_bind hM;refine t_gcall (!(!r2)) (gy_f rfl) cq (B r3) (fun _=>[I ac,I aa,I ab]) (fun hg=>lst3 (gd_of hg (I ac)) (gd_of hg (I aa)) (gd_of hg (I ab))) H (fun hg=>(zaj ac aa ab (M.e_opt av hg) _ (H.give (A:=[]) rfl)).mono fun v_ w_ ⟨y_,aw,ax,H_⟩=>by subst aw; exact ⟨ax,H.via H_⟩) ?_;intro aO H;refine kI 4 ?_ ?_
 ·intro ay hM;exact (M.e_fail hM).elim
 intro ay hM;refine kC 5 @zaj ?_;intro aP r4 hM H;refine kI 3 ?_ ?_
 ·intro az hM;exact (M.e_fail hM).elim
 intro az hM;refine kC 5 @zft ?_;intro aQ r0 aR hM H;refine kI 10 ?_ ?_
 ·intro aA hM;exact (M.e_fail hM).elim
 intro aA hM;exact kR 7 [0,1]

def zed  : M Unit :=
  M.pure ()
theorem zeV {R r}(hM:(zed).Ends r)(w)(H:St w w [] R):Ret Tryz.prog 68 #[] w fun v w'=>()=r/\v = .agg #[.func (.func 117) #[] #[]]/\St w w' [] R:=by
 refine ret_of_W Tryz.func68 rfl rfl rfl ?_;refine kA 2 ?_;intro aa ab H;refine kS 4 ?_;intro ac H;exact kR 1 []

def zdN (s:Span):M Int :=
  M.pure s.lo
theorem zeY {R}(s){r}(hM:(zdN s).Ends r)(w)(H:St w w [] R):Ret Tryz.prog 117 #[.agg #[I s.lo,I s.hi]] w fun v w'=>∃ y0,y0=r/\v=I y0/\St w w' [] R:=by
 refine ret_of_W Tryz.func117 rfl rfl rfl ?_;refine kB 2 ?_;intro aa ab H;refine kg 8 ?_;exact rt

def zcg (x_stage stage:Int):M Bool :=
  M.pure (decide (x_stage<=stage))
theorem zdq {R}(x_stage stage){r}(hM:(zcg x_stage stage).Ends r)(w)(H:St w w [] R):Ret Tryz.prog 66 #[.agg #[I x_stage],I stage] w fun v w'=>∃ y0,y0=r/\v=B y0/\St w w' [] R:=by
 refine ret_of_W Tryz.func66 rfl rfl rfl ?_;refine kB 2 ?_;intro aa ab H;refine kg 10 ?_;exact rt

def zdc  : M Unit :=
  M.pure ()
theorem zdJ {R r}(hM:(zdc).Ends r)(w)(H:St w w [] R):Ret Tryz.prog 69 #[] w fun v w'=>()=r/\v = .agg #[.func (.func 118) #[] #[]]/\St w w' [] R:=by
 refine ret_of_W Tryz.func69 rfl rfl rfl ?_;refine kA 2 ?_;intro aa ab H;refine kS 4 ?_;intro ac H;exact kR 1 []

def zcN (s:Span):M Int :=
  M.pure s.hi
theorem zdG {R}(s){r}(hM:(zcN s).Ends r)(w)(H:St w w [] R):Ret Tryz.prog 118 #[.agg #[I s.lo,I s.hi]] w fun v w'=>∃ y0,y0=r/\v=I y0/\St w w' [] R:=by
 refine ret_of_W Tryz.func118 rfl rfl rfl ?_;refine kB 2 ?_;intro aa ab H;refine kg 8 ?_;exact rt

def zaE (stage:Int):(Int × Int)->(Int × Span)->M ((Int × Int) ⊕ Unit):=fun (s2,s3) (x,x2) =>
  M.bind (zed) fun (_:Unit) =>
  M.bind (zdN x2) fun r2 =>
  M.bind (zcg stage r2) fun r3 =>
  bif r3 then (
  M.gi (s2+1) <|
  M.bind (zdc) fun (_:Unit) =>
  M.bind (zcN x2) fun r4 =>
  M.bind (zcg stage r4) fun r5 =>
  bif r5 then (
  M.gi (s3+1) <|
  M.pure (.inl (s2+1,s3+1)))
  else (
  M.pure (.inl (s2+1,s3))))
  else (
  M.bind (zdc) fun (_:Unit) =>
  M.bind (zcN x2) fun r4 =>
  M.bind (zcg stage r4) fun r5 =>
  bif r5 then (
  M.gi (s3+1) <|
  M.pure (.inl (s2,s3+1)))
  else (
  M.pure (.inl (s2,s3))))
def zcW (aa:List Yr) (ab:List Old10) (ak al ac ae stage:Int):M (Int × Int × Int) :=
  M.bind (zd9 aa ab ak al ac ae stage 0 2000) fun (ah,ai,aj,r1) =>
  bif r1 != 0 then (
  M.fail)
  else (
  M.bind (zdm aa ab ah ai aj ac ae) fun (am,ao) =>
  M.bind (zaH (M.yl (zaE stage)) (.inl (0,0)) am ao aa ab ah ai aj) fun x_=>match x_ with
  | .inl (s2,s3)=>(
  M.pure (s2,s3,0))
  | .inr _=>M.fail)
theorem ze7 {R aM ab aN ac}(aF aG aj ak aO aP stage)(aH:Reads R aM)(aQ:Sl aM ab aF)(aI:Reads R aN)(aR:Sl aN ac aG){r}(hM:(zcW aF aG aj ak aO aP stage).Ends r)(w)(H:St w w [] R):Ret Tryz.prog 28 #[.agg #[ab,ac,I aj,I ak],I aO,I aP,I stage] w fun v w'=>∃ y0 y1 y2,(y0,y1,y2)=r/\v = .tuple #[.agg #[I y0,I y1],I y2]/\St w w' [] R:=by
 refine ret_of_WD Tryz.func28 rfl rfl rfl ?_;replace H:St w w [cMk ([])] R:=H.mk0;have bm:=aQ.len_le;have bn:=aR.len_le;unfold zcW at hM;refine WD.seq<|WD.of ?_;refine kB 1 ?_;intro ay bo H;refine kal ?_;intro az bp H;refine kg 2 ?_;refine WD.seq<|WD.of ?_;refine kC 5 @zeG ?_;intro br al am ao r1 ae ah hM H;refine kg 6 ?_;refine WD.seq<|WD.seq<|WD.of ?_;refine kg 4 ?_
 refine WD.cond (r1 != 0) rfl (fun aA=>?_) (fun aA=>?_)
 ·replace hM:=M.e_t hM aA;exact (M.e_fail hM).elim
 replace hM:=M.e_f hM aA;replace aA:=dI aA;refine WD.of<|W.skip<|WD.seq<|WD.of ?_;refine kG 3 ?_;refine s_val (x_mf (fs:=[.agg #[I stage]]) (cs:=[]) rfl rfl) ?_;refine kal ?_;intro aB bt H;refine ksw ?_;intro bu H;refine s_nil<|WD.seq<|WD.of ?_;refine kA 1 ?_;intro ai bv H;refine s_nil<|WD.seq<|WD.seq<|WD.of ?_;refine kC 4 @zeb ?_;intro bw aq au av aw ax hM H;refine s_nil<|WD.block ?_;obtain ⟨bx,aT,hM⟩:=M.e_bind hM;refine WD.range (L:=[cBlk ai [I 0,I 0] 32,cBlk av [I aq] 3,cBlk aw [I au] 3,cBlk ax [Pq ae] 161,cBlk aB [.func (.func 66) #[.agg #[I stage]] #[]] 64,cBlk ae [ab,ac,I al,I am,.map (some ah)] 218,cMl I encSp ah ao,cBlk az [I 0,I 0] 32,cBlk ay [ab,ac,I aj,I ak] 90]) [Pq av,Pq aw,Pq ax] (H.pk [9,3,0,1,2,4,5,6,7,8]) rfl cq ?_;intro aC aJ aK aU aL H
 have hYC:YieldC Tryz.prog ([cMk (aJ :: ([])),cBlk av [I aq] 3,cBlk aw [I au] 3,cBlk ax [Pq ae] 161,cBlk aB [.func (.func 66) #[.agg #[I stage]] #[]] 64,cBlk ae [ab,ac,I al,I am,.map (some ah)] 218,cMl I encSp ah ao,cBlk az [I 0,I 0] 32,cBlk ay [ab,ac,I aj,I ak] 90]++R) arISpan (yJ aC aK (fun (s2,s3) aD=>aD=[cBlk ai [I s2,I s3] 32]) (fun (_:Unit) _=>False) (fun _=>.ret)) (.func (.yield aC) #[] #[]) (M.yl (zaE stage)):=by
  refine YieldC.mk2 aL (fun (s2,s3) aD=>aD=[cBlk ai [I s2,I s3] 32]) (fun (_:Unit) _=>False) (fun _=>.ret) (zaE stage) (by rintro ⟨s2,s3⟩ _ h_; obtain ⟨rfl⟩:=h_; rfl) (fun _ _ h_=>h_.elim) rfl (arISpan_len rfl) ?_;intro C_ bz x_ aV;obtain ⟨x,x2⟩:=x_;obtain rfl:=aV;intro w R aE aD s_ r aW hM H;obtain ⟨s2,s3⟩:=s_;obtain ⟨rfl⟩:=aW;replace H:=H.nf;refine kA 1 ?_;intro aX bA H;refine ksw ?_;intro bB H;refine s_nil ?_;refine ⟨rfl,[cBlk aX [I x2.lo,I x2.hi] 32],H.pick [0,1,2,3,4,5,6,7,8,9,10] (by decide) rfl,?_⟩;clear H aE;intro w R aE H;replace aH:=aH.sub aE;replace aI:=aI.sub aE;replace hM:(zaE stage (s2,s3) (x,x2)).Ends r:=hM;simp only [zaE] at hM;replace H:=H.nf;refine kDo 3 [0,1,2,3,4,5,6,7,8,9,10] [(0,true),(3,true),(1,false),(2,true),(4,false),(5,false)] ?_;intro bC H;refine kC 3 @zeV ?_;intro bD hM H;refine kN ?_;refine d_q rfl (fun w' H=>x_fd (cs:=[.func (.func 117) #[] #[]]) (v:=.func (.func 117) #[] #[]) Fd170_0.h Sc66.h rfl rfl)<|d_l rfl ?_;obtain ⟨bE,aY,hM⟩:=M.e_bind hM;refine s_callv (f:=117) rfl cq [.agg #[I x2.lo,I x2.hi]] rfl (zeY x2 aY _ (H.gt 11)) ?_
  rintro _ bF ⟨r2,rfl,rfl,aa⟩;replace H:=H.bk aa;refine kN ?_;refine d_l rfl ?_;obtain ⟨bG,aZ,hM⟩:=M.e_bind hM;refine s_callm (f:=66) (fs:=[.agg #[I stage]]) rfl cq [I r2] rfl (zdq stage r2 aZ _ (H.gt 11)) ?_;rintro _ bH ⟨r3,rfl,rfl,aa⟩;replace H:=H.bk aa;refine kN ?_;refine kI 1 ?_ ?_
  ·intro a7 hM;obtain ⟨bI,hM⟩:=M.e_gq hM;refine kS 5 ?_;intro bJ H;refine kDo 2 [0,1,2,3,4,5,6,7,8,9,10] [(0,true),(3,true),(1,false),(2,true),(4,false),(5,false)] ?_;intro bK H;refine kC 3 @zdJ ?_;intro bL hM H;refine kN ?_;refine d_q rfl (fun w' H=>x_fd (cs:=[.func (.func 118) #[] #[]]) (v:=.func (.func 118) #[] #[]) Fd170_0.h Sc66.h rfl rfl)<|d_l rfl ?_;obtain ⟨bM,a8,hM⟩:=M.e_bind hM;refine s_callv (f:=118) rfl cq [.agg #[I x2.lo,I x2.hi]] rfl (zdG x2 a8 _ (H.gt 11)) ?_
   rintro _ bN ⟨r4,rfl,rfl,aa⟩;replace H:=H.bk aa;refine kN ?_;refine d_l rfl ?_;obtain ⟨bO,ba,hM⟩:=M.e_bind hM;refine s_callm (f:=66) (fs:=[.agg #[I stage]]) rfl cq [I r4] rfl (zdq stage r4 ba _ (H.gt 11)) ?_;rintro _ bP ⟨r5,rfl,rfl,aa⟩;replace H:=H.bk aa;refine kN ?_;refine kI 1 ?_ ?_
   ·intro bb hM;obtain ⟨bQ,hM⟩:=M.e_gq hM;refine kS 5 ?_;intro bR H;refine s_nil ?_;exact ⟨(s2+1,s3+1),[cBlk ai [I (s2+1),I (s3+1)] 32],(M.e_pure hM).symm,rfl,H.pick [1,2,3,4,5,6,7,8,9,10] (by decide) rfl⟩
   intro bb hM;refine W.skip ?_;exact ⟨(s2+1,s3),[cBlk ai [I (s2+1),I s3] 32],(M.e_pure hM).symm,rfl,H.pick [1,2,3,4,5,6,7,8,9,10] (by decide) rfl⟩
  intro a7 hM;refine kDo 2 [0,1,2,3,4,5,6,7,8,9,10] [(0,true),(3,true),(1,false),(2,true),(4,false),(5,false)] ?_;intro bS H;refine kC 3 @zdJ ?_;intro bT hM H;refine kN ?_;refine d_q rfl (fun w' H=>x_fd (cs:=[.func (.func 118) #[] #[]]) (v:=.func (.func 118) #[] #[]) Fd170_0.h Sc66.h rfl rfl)<|d_l rfl ?_;obtain ⟨bU,bc,hM⟩:=M.e_bind hM;refine s_callv (f:=118) rfl cq [.agg #[I x2.lo,I x2.hi]] rfl (zdG x2 bc _ (H.gt 11)) ?_
  rintro _ bV ⟨r4,rfl,rfl,aa⟩;replace H:=H.bk aa;refine kN ?_;refine d_l rfl ?_;obtain ⟨bW,bf,hM⟩:=M.e_bind hM;refine s_callm (f:=66) (fs:=[.agg #[I stage]]) rfl cq [I r4] rfl (zdq stage r4 bf _ (H.gt 11)) ?_;rintro _ bX ⟨r5,rfl,rfl,aa⟩;replace H:=H.bk aa;refine kN ?_;refine kI 1 ?_ ?_
  ·intro bg hM;obtain ⟨bY,hM⟩:=M.e_gq hM;refine kS 5 ?_;intro bZ H;refine s_nil ?_;exact ⟨(s2,s3+1),[cBlk ai [I s2,I (s3+1)] 32],(M.e_pure hM).symm,rfl,H.pick [1,2,3,4,5,6,7,8,9,10] (by decide) rfl⟩
  intro bg hM;refine W.skip ?_;exact ⟨(s2,s3),[cBlk ai [I s2,I s3] 32],(M.e_pure hM).symm,rfl,H.pick [1,2,3,4,5,6,7,8,9,10] (by decide) rfl⟩
 replace H:St w aU (cAll (cObj aC (.loop aK) :: [cBlk ai [I 0,I 0] 32]) :: [cMk (aJ :: ([])),cBlk av [I aq] 3,cBlk aw [I au] 3,cBlk ax [Pq ae] 161,cBlk aB [.func (.func 66) #[.agg #[I stage]] #[]] 64,cBlk ae [ab,ac,I al,I am,.map (some ah)] 218,cMl I encSp ah ao,cBlk az [I 0,I 0] 32,cBlk ay [ab,ac,I aj,I ak] 90]) R:=St.bundleB (A:=cObj aC (.loop aK) :: [cBlk ai [I 0,I 0] 32]) (T:=[cMk (aJ :: ([])),cBlk av [I aq] 3,cBlk aw [I au] 3,cBlk ax [Pq ae] 161,cBlk aB [.func (.func 66) #[.agg #[I stage]] #[]] 64,cBlk ae [ab,ac,I al,I am,.map (some ah)] 218,cMl I encSp ah ao,cBlk az [I 0,I 0] 32,cBlk ay [ab,ac,I aj,I ak] 90]) rfl (H.pk [0,2,1,3,4,5,6,7,8,9,10]);refine (zec (M.yl (zaE stage)) (.inl (0,0)) aq au aF aG al am ao hYC ⟨_,rfl,rfl⟩ (Has.here (k:=1) rfl) (Has.here (k:=2) rfl) (aH.app _) aQ (aI.app _) aR (Has.here (k:=6) rfl) (Has.here (k:=5) rfl) (Has.here (k:=3) rfl) aT _ (H.gt 9)).mono ?_;rintro vq b4 ⟨bh,b5,rfl,hvq,aa,aS⟩;replace H:=H.back aa rfl;clear aa hYC;rcases bh with ⟨s2,s3⟩ | _
 ·obtain ⟨_,rfl,rfl⟩:=aS;refine ⟨_,[cBlk ai [I s2,I s3] 32,cBlk av [I aq] 3,cBlk aw [I au] 3,cBlk ax [Pq ae] 161,cBlk aB [.func (.func 66) #[.agg #[I stage]] #[]] 64,cBlk ae [ab,ac,I al,I am,.map (some ah)] 218,cMl I encSp ah ao,cBlk az [I 0,I 0] 32,cBlk ay [ab,ac,I aj,I ak] 90],H.unbundle.pick [0,2,1,3,4,5,6,7,8,9,10] (by decide) rfl,aL.nb,?_⟩;intro b6 H;rw [aL.pd];replace H:=H.nf
  try simp only []
  replace H:=H.pk [0,1,8];refine WD.seq<|WD.of ?_;refine kS 2 ?_;intro b7 H;refine kg 2 ?_;refine WD.of ?_;refine W.ret ?_;refine bodyD_r (H.pk [0,1,2]) ?_;intro b8 H;replace H:=H.nf
  have bi:=(H.bl 1)
  have bj:=M.e_pure hM;exact ⟨_,(resE_ofn (vs:=[.agg #[I s2,I s3],I 0]) rfl rfl (.cell (v:=.agg #[I s2,I s3]) rfl (run_loadVar_ag (ds:=[I s2,I s3]) Ag32.h Sz32.h bi rfl rfl)<|.tmp (v:=I 0) rfl<|.nil)),⟨s2,s3,0,bj,rfl,(H.pk [])⟩⟩
 obtain ⟨_,_,h_⟩:=aS; exact h_.elim

end Go.Proofs.YtbgoclcmgbpckaaGreat
end
namespace Go.Proofs
open Go.RowKit Go.Maps Go.Sort Go.Shelf
def Tryz.sortA_ren:Go.Shelf.Ren:=⟨fun | 5=>82 | 7=>132 | 8=>133 | 10=>170 | 11=>171 | 12=>172 | 13=>173 | 14=>174 | 15=>175 | 16=>176 | 17=>177 | 18=>178 | 19=>179 | 20=>180 | 30=>201 | 31=>202 | 32=>203 | 33=>204 | 34=>205 | 35=>131 | 40=>211 | n=>n,fun | 0=>0 | 3=>3 | 4=>4 | 5=>5 | 9=>9 | 22=>36 | 23=>36 | 25=>3 | 32=>226 | 35=>261 | 36=>262 | 41=>213 | 44=>268 | 46=>270 | 53=>288 | 57=>292 | 63=>296 | 64=>241 | n=>n,fun | n=>n⟩
theorem Tryz.sortA:Go.Proofs.SlLaysM.n5 Tryz.prog Tryz.sortA_ren:={
  mixed:=by kernel_rfl
  f5 := ⟨"slices.Sort[[]int,int]", by kernel_rfl, Tryz.func82.trans (congrArg some (by kernel_rfl))⟩
  f7 := ⟨"slices.pdqsortOrdered[int]", by kernel_rfl, Tryz.func132.trans (congrArg some (by kernel_rfl))⟩
  f8:=Tryz.func133.trans (congrArg some (by kernel_rfl))
  f10 := ⟨"slices.insertionSortOrdered[int]", by kernel_rfl, Tryz.func170.trans (congrArg some (by kernel_rfl))⟩
  f11 := ⟨"slices.heapSortOrdered[int]", by kernel_rfl, Tryz.func171.trans (congrArg some (by kernel_rfl))⟩
  f12 := ⟨"slices.breakPatternsOrdered[int]", by kernel_rfl, Tryz.func172.trans (congrArg some (by kernel_rfl))⟩
  f13 := ⟨"slices.choosePivotOrdered[int]", by kernel_rfl, Tryz.func173.trans (congrArg some (by kernel_rfl))⟩
  f14 := ⟨"slices.reverseRangeOrdered[int]", by kernel_rfl, Tryz.func174.trans (congrArg some (by kernel_rfl))⟩
  f15 := ⟨"slices.partialInsertionSortOrdered[int]", by kernel_rfl, Tryz.func175.trans (congrArg some (by kernel_rfl))⟩
  f16 := ⟨"cmp.Less[int]", by kernel_rfl, Tryz.func176.trans (congrArg some (by kernel_rfl))⟩
  f17 := ⟨"slices.partitionEqualOrdered[int]", by kernel_rfl, Tryz.func177.trans (congrArg some (by kernel_rfl))⟩
  f18 := ⟨"slices.partitionOrdered[int]", by kernel_rfl, Tryz.func178.trans (congrArg some (by kernel_rfl))⟩
  f19:=Tryz.func179.trans (congrArg some (by kernel_rfl))
  f20:=Tryz.func180.trans (congrArg some (by kernel_rfl))
  f30 := ⟨"slices.siftDownOrdered[int]", by kernel_rfl, Tryz.func201.trans (congrArg some (by kernel_rfl))⟩
  f31:=Tryz.func202.trans (congrArg some (by kernel_rfl))
  f32:=Tryz.func203.trans (congrArg some (by kernel_rfl))
  f33 := ⟨"slices.medianAdjacentOrdered[int]", by kernel_rfl, Tryz.func204.trans (congrArg some (by kernel_rfl))⟩
  f34 := ⟨"slices.medianOrdered[int]", by kernel_rfl, Tryz.func205.trans (congrArg some (by kernel_rfl))⟩
  f35 := ⟨"cmp.isNaN[int]", by kernel_rfl, Tryz.func131.trans (congrArg some (by kernel_rfl))⟩
  f40 := ⟨"slices.order2Ordered[int]", by kernel_rfl, Tryz.func211.trans (congrArg some (by kernel_rfl))⟩
  t0:=Tryz.underlying0
  a0:=Tryz.isAgg0
  z0:=Tryz.sizeOf0
  v0:=Tryz.zeroValue0
  t3:=Tryz.underlying3
  a3:=Tryz.isAgg3
  z3:=Tryz.sizeOf3
  v3:=Tryz.zeroValue3
  t4:=Tryz.underlying4
  a4:=Tryz.isAgg4
  z4:=Tryz.sizeOf4
  v4:=Tryz.zeroValue4
  t5:=Tryz.underlying5
  a5:=Tryz.isAgg5
  z5:=Tryz.sizeOf5
  v5:=Tryz.zeroValue5
  t9:=Tryz.underlying9
  a9:=Tryz.isAgg9
  z9:=Tryz.sizeOf9
  v9:=Tryz.zeroValue9
  t22:=Tryz.underlying36
  a22:=Tryz.isAgg36
  z22:=Tryz.sizeOf36
  v22:=Tryz.zeroValue36
  t23:=Tryz.underlying36
  a23:=Tryz.isAgg36
  z23:=Tryz.sizeOf36
  v23:=Tryz.zeroValue36
  t25:=Tryz.underlying3
  a25:=Tryz.isAgg3
  z25:=Tryz.sizeOf3
  v25:=Tryz.zeroValue3
  t32:=Tryz.underlying226
  a32:=Tryz.isAgg226
  z32:=Tryz.sizeOf226
  v32:=Tryz.zeroValue226
  t35:=Tryz.underlying261
  a35:=Tryz.isAgg261
  z35:=Tryz.sizeOf261
  v35:=Tryz.zeroValue261
  t36:=Tryz.underlying262
  a36:=Tryz.isAgg262
  z36:=Tryz.sizeOf262
  v36:=Tryz.zeroValue262
  t41:=Tryz.underlying213
  a41:=Tryz.isAgg213
  z41:=Tryz.sizeOf213
  v41:=Tryz.zeroValue213
  t44:=Tryz.underlying268
  a44:=Tryz.isAgg268
  z44:=Tryz.sizeOf268
  v44:=Tryz.zeroValue268
  t46:=Tryz.underlying270
  a46:=Tryz.isAgg270
  z46:=Tryz.sizeOf270
  v46:=Tryz.zeroValue270
  t53:=Tryz.underlying288
  a53:=Tryz.isAgg288
  z53:=Tryz.sizeOf288
  v53:=Tryz.zeroValue288
  t57:=Tryz.underlying292
  a57:=Tryz.isAgg292
  z57:=Tryz.sizeOf292
  v57:=Tryz.zeroValue292
  t63:=Tryz.underlying296
  a63:=Tryz.isAgg296
  z63:=Tryz.sizeOf296
  v63:=Tryz.zeroValue296
  t64:=Tryz.underlying241
  a64:=Tryz.isAgg241
  z64:=Tryz.sizeOf241
  v64:=Tryz.zeroValue241 }
end Go.Proofs
namespace Go.Nm
open Go
theorem OwnF.row {B:Nat} {e:TypeId} {w:World} {l:List Int} {g cap:Nat} {cur:Array Value} (ho:OwnF B e w (.slice (some ⟨g,0,none⟩) l.length cap) l) (hg:w.heap[g]?=some (.cells cur e (0,0)))
    (hcs:l.length<=cap) (hsz:cur.size=cap) (hb:B<=g) (hm:cap<=maxLen) (d:Array Int) (hl:d.size=l.length) (q:Nat) :
    OwnF B e (Sort.putRow (Value.int .i64) (Sort.ahead w q) g 0 d) (.slice (some ⟨g,0,none⟩) l.length cap) d.toList/\Grow B (.slice (some ⟨g,0,none⟩) l.length cap) w (Sort.putRow (Value.int .i64) (Sort.ahead w q) g 0 d):=by
  have hs1:Elt.sz Int=1:=rfl;have h1:(Sort.putRow (Value.int .i64) (Sort.ahead w q) g 0 d).heap[g]?=some (.cells (Sort.putCells (Value.int .i64) 0 d cur) e (0,0)):=by
    show (w.heap.modify g _)[g]?=_;rw [Array.getElem?_modify,if_pos rfl,hg];rfl
  have h2:∀ k,k ≠ g->(Sort.putRow (Value.int .i64) (Sort.ahead w q) g 0 d).heap[k]?=w.heap[k]?:=by
    intro k hk;show (w.heap.modify g _)[k]?=_;rw [Array.getElem?_modify,if_neg (fun h=>hk h.symm)]
  refine ⟨⟨by rw [enc_ints]; simp [hs1],.inr ⟨g,cap,_,by simp [hl],hb,h1,by simp [hl]; omega,hm,by simp [hs1,Sort.putCells]; omega,?_⟩⟩,⟨rfl,rfl,by simp [Sort.putRow,Sort.mapBlock,Sort.ahead],fun k _ hk=>?_,fun g' hg'=>(ho.lt g' hg').1,fun a=>by simp⟩⟩
  · rw [enc_ints,hs1];apply List.ext_getElem?;intro i;rw [List.getElem?_take,List.getElem?_map];by_cases hi:i<d.toList.length*1
    · rw [if_pos hi];have hi':i<d.size:=by simpa using hi
      have hc:i<cur.size:=by omega
      simp [Sort.putCells,hi',hc]
    · rw [if_neg hi,List.getElem?_eq_none (by simpa using hi)];rfl
  · refine h2 k (fun e'=>hk ?_);rw [e'];rfl
end Go.Nm
namespace Go.Proofs.YtbgoclcmgbpckaaGreat
open Go Go.Nm Go.Proofs
theorem sort_any {w:World} {v:Value} {l:List Int} (ho:OwnF 0 3 w v l) (hl:l.length<=1000000):Ret Tryz.prog 82 #[v] w fun u w'=>u = .tuple #[]/\OwnF 0 3 w' v (isort l)/\Keep w w'/\∀ b,b<w.heap.size->v.ownBlock ≠ some b->w'.heap[b]?=w.heap[b]?:=by
  have ho':=ho;rcases ho.2 with ⟨rfl,hn⟩ | ⟨g,cap,cur,rfl,hb,hg,hc,hm,hcs,htake⟩
  · obtain rfl:=List.length_eq_zero_iff.1 hn;have h:=AnyM.slices_Sort_int_none Tryz.sortA none 0 w;refine Calls.mono h ?_;rintro _ w' ⟨rfl,rfl⟩;exact ⟨_,rfl,rfl,ho,Keep.refl _,fun _ _ _=>rfl⟩
  · have hs1:Elt.sz Int=1:=rfl;rw [hs1] at hcs htake;rw [enc_ints] at htake;have hcell:∀ j,j<l.length->w.cell? ⟨g,0+j,none⟩=some (.int .i64 (l.getD j 0)):=by
      intro j hj;rw [Nat.zero_add,cell_of_row w g j cur 3 (0,0) hg];have h1:(cur.toList.take (l.length*1))[j]?=(l.map I)[j]?:=by rw [htake]
      rw [List.getElem?_take,if_pos (by omega),List.getElem?_map,getD_some l hj 0] at h1
      simpa using h1
    have hH:Sort.Holds (Value.int .i64) w g 0 l.toArray:=by
      intro j hj;have hj:j<l.length:=by simpa using hj
      refine ⟨?_,by simp [World.frozen?,hg]⟩;rw [hcell j hj];have:l.getD j 0=l.toArray[j]!:=by
        rw [List.getD_eq_getElem?_getD,List.getElem?_eq_getElem hj];simp [getElem!_pos,hj]
      rw [this]
    have h:=AnyM.slices_Sort_int Tryz.sortA g 0 cap l w hH (heap_lt hg) (by omega);refine Calls.mono h ?_;rintro _ w' ⟨rfl,q,os,rfl⟩;rw [merge_isort (List.Perm.refl l)];have hlen:(isort l).length=l.length:=(isort_perm l).length_eq;obtain ⟨h1,h2⟩:=OwnF.row ho hg hc (by omega) hb hm (isort l).toArray (by simp [hlen]) q;have hlt:g<(Sort.putRow (Value.int .i64) (Sort.ahead w q) g 0 (isort l).toArray).heap.size:=Nat.lt_of_lt_of_le (heap_lt hg) h2.size;refine ⟨_,rfl,rfl,?_,⟨h2.os,h2.out,by rw [Sort.size_grow]; exact Nat.le_trans h2.size (Nat.le_add_right _ _)⟩,fun b hb' hne=>?_⟩
    · rcases h1 with ⟨h3,h4 | ⟨g',cap',cur',h5,h6,h7,h8⟩⟩
      · exact absurd h4.1 (by simp)
      · simp only [Value.slice.injEq,Option.some.injEq,Addr.mk.injEq,and_true] at h5;obtain ⟨rfl,_,rfl⟩:=h5;refine ⟨h3,.inr ⟨g,cap,cur',by simp [hlen],h6,by rw [Sort.heap_grow_old _ _ hlt]; exact h7,h8⟩⟩
    · rw [Sort.heap_grow_old _ _ (Nat.lt_of_lt_of_le hb' h2.size)];exact h2.blk b hb' hne
end Go.Proofs.YtbgoclcmgbpckaaGreat
namespace Go.Nm
open Go
theorem St.sorted {w0 w w':World} {L L' R:List Chunk} {k:Nat} {v:Value} {l l':List Int} {e:TypeId} (H:St w0 w L R) (hk:L[k]?=some (cOwn (α:=Int) e v l)) (ho:OwnF 0 e w' v l') (kp:Keep w w') (hs:∀ b,b<w.heap.size->v.ownBlock ≠ some b->w'.heap[b]?=w.heap[b]?)
    (hl:L.set k (cOwn (α:=Int) e v l')=L'):St w0 w' L' R :=
  H.set (c':=cOwn (α:=Int) e v l') hk rfl kp hs (fun b hb=>.inl hb) ho hl
end Go.Nm
section
set_option maxRecDepth 100000
set_option maxHeartbeats 16000000
namespace Go.Proofs.YtbgoclcmgbpckaaGreat
open Go Go.Nm
attribute [local irreducible] gd execOp SL SLD SLT WR
def zai (ac:List Int) (ae:List Span) (ah:List Int) (ai:List Town) (aa ab:Int) (aj:List Flood) (station:Int):M (Int × Int × Int) :=
  M.pure (station,aa,ab)
theorem zaZ {R ai aa aj ab ak ac al ae am ah}(ao aq au av aw ax ay station)(aD:Reads R ai)(aE:Sl ai aa ao)(aF:Reads R aj)(aG:Sl aj ab aq)(aH:Reads R ak)(aI:Sl ak ac au)(aJ:Reads R al)(aK:Sl al ae av)(aL:Reads R am)(aM:Sl am ah ay){r}(hM:(zai ao aq au av aw ax ay station).Ends r)(w)(H:St w w [] R):Ret Tryz.prog 40 #[.agg #[aa,ab,ac,ae,I aw,I ax,ah],I station] w fun v w'=>∃ y0 y1 y2 az aA,(y0,y1,y2)=r/\v = .func (.func 86) #[] #[Pq az,Pq aA]/\St w w' [cBlk az [I y0] 3,cBlk aA [aa,ab,ac,ae,I y1,I y2,ah] 40] R:=by
 refine ret_of_W Tryz.func40 rfl rfl rfl ?_;refine kB 2 ?_;intro aB aN H;refine kbx ?_;intro aC aO H;refine kg 4 ?_;refine s_val (x_mf (fs:=[]) (cs:=[Pq aC,Pq aB]) rfl rfl) ?_;refine kg 2 ?_;exact rt

def zbt {T_:Type} (ab:T_->(Int × Int)->M (Bool × T_)) (aa:List Int):(Int × Nat × T_)->M ((Int × Nat × T_) ⊕ ((T_ × Int) ⊕ (T_ × Int))):=fun (s,s2,t2) =>
  bif ((s != (-1))&&(decide (s<(aa.length:Int)))) then (
  M.bind (ab t2 ((s2:Int),s)) fun (go,t) =>
  bif !go then (
  M.pure (.inr (.inl (t,s))))
  else (
  M.grd (decide ((0:Int)<=s)&&decide (s<(aa.length:Int))) <|
  M.gi ((s2:Int)+1) <|
  M.pure (.inl (aa.getD (Int.toNat s) 0,s2+1,t))))
  else (
  M.pure (.inr (.inr (t2,s))))
def zal {T_:Type} (aa:T_->(Int × Int)->M (Bool × T_)) (t_:T_) (ab:Int) (ac:List Int) (ae:List Span) (ah:List Int) (ai:List Town) (aj ak:Int) (al:List Flood):M (T_ × Int) :=
  M.bind (M.iter (zbt aa ac) (ab,0,t_)) fun x_=>match x_ with
  | (.inl (t3,s3))=>(
  M.pure (t3,s3))
  | (.inr (t4,s4))=>(
  M.pure (t4,s4))
theorem zaU {R:List Chunk} {T_:Type} {Y_:T_->List Chunk->Prop} {ac:Value} {ae:List Chunk} {aa:Nat} {ah:Nat} {ao:Cells} {aq:Value} {au:Cells} {av:Value} {aw:Cells} {ax:Value} {ay:Cells} {az:Value} {aA:Cells} {aB:Value} (ai:T_->(Int × Int)->M (Bool × T_)) (t_:T_) (aj:Int) (ab:List Int) (aC:List Span) (aD:List Int) (aE:List Town) (aF:Int) (aG:Int) (aH:List Flood) (aL:YieldC Tryz.prog R arII Y_ ac ai) (aM:Y_ t_ ae) (aV:Reads R ao) (aN:Sl ao aq ab) (aW:Reads R au) (aX:Sl au av aC) (aY:Reads R aw) (aZ:Sl aw ax aD) (a7:Reads R ay) (a8:Sl ay az aE) (ba:Reads R aA) (bb:Sl aA aB aH) (bc:Has R (cBlk ah [aq,av,ax,az,I aF,I aG,aB] 40)) {r:(T_ × Int)} (hM:(zal ai t_ aj ab aC aD aE aF aG aH).Ends r) (w:World) (H:St w w [cAll ae,cBlk aa [I aj] 3] R):Ret Tryz.prog 86 #[ac,Pq aa,Pq ah] w fun v w'=>∃ (y0:T_) (y1:Int) (Ls0:List Chunk),(y0,y1)=r/\v = .tuple #[]/\St w w' [cAll Ls0,cBlk aa [I y1] 3] R/\Y_ y0 Ls0:=by
 refine ret_of_W Tryz.func86 rfl rfl rfl ?_;refine kg 5 ?_;obtain ⟨aO,ak,aI⟩:=M.e_bind hM;obtain ⟨bf,ak⟩:=M.e_iter ak;refine W.loop (fun m σ W=>∃ (s:Int) (s2:Nat) (t2:T_) (Ls_t2:List Chunk) (ρ:Env),σ=upds ρ [(0,ac),(1,Pq aa),(2,Pq ah),(4,I (s2:Int))]/\M.iterN (zbt ai ab) m (s,s2,t2)=some aO/\St w W [cAll Ls_t2,cBlk aa [I s] 3] R/\Y_ t2 Ls_t2) ?_ ?_
 ·exact ⟨_,aj,0,t_,ae,_,jQ,ak,H,aM⟩
 rintro bg σ bh ⟨s,s2,t2,Ls_t2,ρ,rfl,aP,H,hY_t2⟩;obtain ⟨aQ,aR,bi,hM,al⟩:=M.e_iterN aP;have bj:=(aN).len_le;refine kI 13 ?_ ?_
 ·intro aS hM;refine kg 9 ?_;obtain ⟨⟨go,t⟩,aT,hM⟩:=M.e_bind hM;refine t_yield (L:=[cBlk aa [I s] 3]) H aL hY_t2 rfl [I (s2:Int),I s] rfl ((s2:Int),s) Reads.none rfl aT ?_;intro aJ bm aK H;replace H:=H.nf;refine kI 2 ?_ ?_
  ·intro aU hM;refine W.ret ?_;obtain rfl:=M.e_inr hM al;replace hM:=aI;have am:=M.e_pure hM;exact ⟨_,resE_tmp0 rfl,⟨t,s,aJ,am,rfl,H,aK⟩⟩
  intro aU hM;obtain ⟨bn,hM⟩:=M.e_gq hM;refine kS 7 ?_;intro bo H;obtain ⟨bp,hM⟩:=M.e_gq hM;refine kg 6 ?_;exact ⟨aQ,aR,ab.getD (Int.toNat s) 0,s2+1,t,aJ,_,jQ,M.e_inl hM al,H,aK⟩
 intro aS hM;refine W.exit ?_;obtain rfl:=M.e_inr hM al;replace hM:=aI;have am:=M.e_pure hM;exact ⟨_,resE_tmp0 rfl,⟨t2,s,Ls_t2,am,rfl,H,hY_t2⟩⟩
theorem zeB {T_:Type} {n_:Nat} {y y':T_->(Int × Int)->M (Bool × T_)} (h:∀ s a,M.LeN n_ (y s a) (y' s a)) (t_:T_) (aa:Int) (ab:List Int) (ac:List Span) (ae:List Int) (ah:List Town) (ai aj:Int) (ak:List Flood):M.LeN n_ (zal y t_ aa ab ac ae ah ai aj ak) (zal y' t_ aa ab ac ae ah ai aj ak):=by
  simp only [zal,zbt]
  repeat' (first | refine M.le_grd ?_ | refine M.le_if ?_ ?_ | refine M.le_bind ?_ (fun x=>?_) | refine M.le_opt ?_ | refine M.le_iter (fun x=>?_) _ | exact h _ _ | exact M.le_same _ _ | (rename_i x; cases x) | (rename_i x; obtain ⟨_,_⟩:=x))

def zbI (l:List Span):(Int × Int × Nat)->M ((Int × Int × Nat) ⊕ (Int × Int)):=fun (s,s2,s3) =>
  bif decide ((s3:Int)<(l.length:Int)) then (
  M.grd (decide ((s3:Int)<(l.length:Int))) <|
  M.gi (s+((l.getD s3 default).lo)) <|
  M.gi (s2+((l.getD s3 default).hi)) <|
  M.pure (.inl (s+((l.getD s3 default).lo),s2+((l.getD s3 default).hi),s3+1)))
  else (
  M.pure (.inr (s,s2)))
def zcH (l:List Span):M (Int × Int) :=
  M.bind (M.iter (zbI l) (0,0,0)) fun (s4,s5) =>
  M.pure (s4,s5)
theorem zeZ {R ab aa}(l)(aq:Reads R ab)(ai:Sl ab aa l){r}(hM:(zcH l).Ends r)(w)(H:St w w [] R):Ret Tryz.prog 162 #[aa] w fun v w'=>∃ y0 y1,(y0,y1)=r/\v = .agg #[I y0,I y1]/\St w w' [] R:=by
 refine ret_of_W Tryz.func162 rfl rfl rfl ?_;refine kA 2 ?_;intro ac au H;refine kA 3 ?_;intro ae av H;have aw:=(ai).len_le;refine kg 9 ?_;obtain ⟨aj,ah,ak⟩:=M.e_bind hM;obtain ⟨ax,ah⟩:=M.e_iter ah;refine W.loop (fun m σ W=>∃ (s:Int) (s2:Int) (s3:Nat) (ρ:Env),σ=upds ρ [(2,Pq ac),(3,Pq ae),(6,aa),(7,I (l.length:Int)),(8,I (s3:Int))]/\M.iterN (zbI l) m (s,s2,s3)=some aj/\St w W [cBlk ae [I s,I s2] 32,cBlk ac [I 0,I 0] 32] R) ?_ ?_
 ·exact kY
 rintro ay σ az ⟨s,s2,s3,ρ,rfl,al,H⟩;obtain ⟨aA,aB,aC,hM,am⟩:=M.e_iterN al;refine kI 5 ?_ ?_
 ·intro ao hM;obtain ⟨aD,hM⟩:=M.e_gq hM;refine kA 7 ?_;intro aE aF H;refine ksw ?_;intro aG H;obtain ⟨aH,hM⟩:=M.e_gq hM;obtain ⟨aI,hM⟩:=M.e_gq hM;refine kS 13 ?_;intro aJ H;exact kXp 5 [1,2]
 intro ao hM;refine W.exit ?_;obtain rfl:=M.e_inr hM am;replace hM:=ak;refine kS 3 ?_;intro aK H;exact kR 1 []

def zay (aa:List Span) (ab:Int):(List Span)->(Int × Int)->M ((List Span) ⊕ ((List Span) × (List Span) × Int × Int)):=fun l (x,x2) =>
  bif x2==ab then (
  M.bind (zcH l) fun (r0,r1) =>
  M.pure (.inr (l,l,r0,r1)))
  else (
  M.grd (decide ((0:Int)<=x2)&&decide (x2<(aa.length:Int))) <|
  M.grd (decide ((l.length+([(aa.getD (Int.toNat x2) default)]).length)*16<=140737488355328)) <|
  M.pure (.inl (l++([(aa.getD (Int.toNat x2) default)]))))
def zaY (ab:List Int) (aa:List Span) (ac:List Int) (ae:List Town) (ai aj:Int) (ah:List Flood) (ak al:Int):M (Int × Int × Bool) :=
  M.bind (zai ab aa ac ae ai aj ah ak) fun (am,ao,aq) =>
  M.bind (zal (M.yl (zay aa al)) (.inl ([])) am ab aa ac ae ao aq ah) fun x_=>match x_ with
  | (.inl l,q0)=>(
  M.pure (0,0,false))
  | (.inr (l2,l3,s,s2),q0)=>(
  M.pure (s,s2,true))
theorem zd8 {R aq aX aj aY ak aZ al a7 am a8 ao bm}(aH aa aI aJ aD aE aK ba ab)(aL:Reads R aX)(bb:Sl aX aj aH)(aM:Reads R aY)(bc:Sl aY ak aa)(aN:Reads R aZ)(bf:Sl aZ al aI)(aO:Reads R a7)(bg:Sl a7 am aJ)(aP:Reads R a8)(bh:Sl a8 ao aK)(aQ:Has R (cBlk aq [aj,ak,al,am,I aD,I aE,ao,.map (some bm)] 118)){r}(hM:(zaY aH aa aI aJ aD aE aK ba ab).Ends r)(w)(H:St w w [] R):Ret Tryz.prog 119 #[Pq aq,I ba,I ab] w fun v w'=>∃ y0 y1 y2,(y0,y1,y2)=r/\v = .tuple #[.agg #[I y0,I y1],B y2]/\St w w' [] R:=by
 refine ret_of_WD Tryz.func119 rfl rfl rfl ?_;replace H:St w w [cMk ([])] R:=H.mk0;have bC:=bb.len_le;have bD:=bc.len_le;have bE:=bf.len_le;have bF:=bg.len_le;have bG:=bh.len_le;unfold zaY at hM;refine WD.seq<|WD.of ?_;refine kB 1 ?_;intro az bH H;refine kbx ?_;intro aA bI H;refine kal ?_;intro ac bJ H;refine kal ?_;intro ae bK H;refine s_nil<|WD.seq<|WD.of ?_;refine kA 1 ?_;intro ah bL H;refine s_nil<|WD.seq<|WD.seq<|WD.of ?_;refine kg 4 ?_;refine s_val (x_ld (v:=.agg #[aj,ak,al,am,I aD,I aE,ao]) rfl (ldb_ag (ds:=[aj,ak,al,am,I aD,I aE,ao]) Ag40.h Sz40.h (aQ.blk H) rfl rfl)) ?_;refine kC 1 @zaZ ?_;intro bM aF aw ax aB ay hM H;refine s_nil<|WD.block ?_
 replace H:=H.nilOwn (α:=Span) 32;obtain ⟨bN,bn,hM⟩:=M.e_bind hM;refine WD.range (L:=[cOwn (α:=Span) 32 (.slice none 0 0) ([]),cBlk ah [(.slice none 0 0)] 27,cBlk ae [B false] 4,cBlk ac [I 0,I 0] 32,cBlk ay [aj,ak,al,am,I aw,I ax,ao] 40,cBlk aA [I ab] 3,cBlk az [Pq aq] 100,cBlk aB [I aF] 3]) [Pq aB,Pq ay] (H.pk [8,0,3,4,5,2,6,7,1]) rfl cq ?_;intro aG aR aS bo aT H;have hYC:YieldC Tryz.prog ([cMk (aR :: ([])),cBlk ay [aj,ak,al,am,I aw,I ax,ao] 40,cBlk aA [I ab] 3,cBlk az [Pq aq] 100]++R) arII (yJ aG aS (fun l au=>∃ (ai:Value),au=[cOwn (α:=Span) 32 ai l,cBlk ah [ai] 27,cBlk ae [B false] 4,cBlk ac [I 0,I 0] 32]) (fun (l2,l3,s,s2) au=>∃ (av:Value),au=[cOwn (α:=Span) 32 av l3,cBlk ah [av] 27,cBlk ae [B true] 4,cBlk ac [I s,I s2] 32]) (fun _=>.ret)) (.func (.yield aG) #[] #[]) (M.yl (zay aa ab)):=by
  refine YieldC.mk aT (fun l au=>∃ (ai:Value),au=[cOwn (α:=Span) 32 ai l,cBlk ah [ai] 27,cBlk ae [B false] 4,cBlk ac [I 0,I 0] 32]) (fun (l2,l3,s,s2) au=>∃ (av:Value),au=[cOwn (α:=Span) 32 av l3,cBlk ah [av] 27,cBlk ae [B true] 4,cBlk ac [I s,I s2] 32]) (fun _=>.ret) (zay aa ab) (by rintro l _ h_; obtain ⟨_,rfl⟩:=h_; rfl) (by rintro ⟨l2,l3,s,s2⟩ _ h_; (obtain ⟨_,rfl⟩:=h_; rfl)) rfl (arII_len rfl) ?_;intro C_ bO x_ W_ bp;obtain ⟨x,x2⟩:=x_;obtain rfl:=bp;refine kg 3 ?_;refine ⟨rfl,rfl,?_⟩;intro w R aC au s_ r br hM H
  skip
  obtain ⟨l,bt⟩:∃ y_,y_=s_:=⟨_,rfl⟩
  subst bt;obtain ⟨ai,rfl⟩:=br;replace aL:=aL.sub aC;replace aM:=aM.sub aC;replace aN:=aN.sub aC;replace aO:=aO.sub aC;replace aP:=aP.sub aC;replace aQ:=aQ.sub aC;replace hM:(zay aa ab l (x,x2)).Ends r:=hM;simp only [zay] at hM;replace H:=H.pk [0,1,2,3,5,6,7,4];refine kI 8 ?_ ?_
  ·intro bu hM;refine kC 3 @zeZ ?_;intro bP r0 r1 hM H;refine ksw ?_;intro bQ H;refine ksw ?_;intro bR H;refine s_nil ?_;refine W.ret ?_;exact ⟨(l,l,r0,r1),[cOwn (α:=Span) 32 ai l,cBlk ah [ai] 27,cBlk ae [B true] 4,cBlk ac [I r0,I r1] 32],(M.e_pure hM).symm,⟨ai,rfl⟩,H.pick [0,1,2,3,7,4,5,6] (by decide) rfl,rfl⟩
  intro bu hM;refine kDT 1 [2,3,4,5,6,7] (.q 1 (.q 2 (.q 3 (.q 4 (.q 5 (.q 6 (.q 7 (.q 8 (.l2 0 (.l 9 (.l 10 (.l 11 .nil))) 9 (.l 0 (.l 10 (.l 11 .nil)))))))))))) ?_;intro bS H;obtain ⟨bT,hM⟩:=M.e_gq hM;obtain ⟨bU,hM⟩:=M.e_gq hM;refine kg 8 ?_;refine t_l2 rfl rfl ?_ ?_
  ·refine kG 1 ?_;refine kN ?_;refine kL 1 (α:=Span) [(aa.getD (Int.toNat x2) default)] ?_;intro bV bW H;refine kN ?_;refine kP 1 ?_;intro aU bX H;refine kN ?_;refine kS 1 ?_;intro bY H;refine kN ?_;refine t_nil ?_;exact ⟨l++([(aa.getD (Int.toNat x2) default)]),[cOwn (α:=Span) 32 aU (l++([(aa.getD (Int.toNat x2) default)])),cBlk ah [aU] 27,cBlk ae [B false] 4,cBlk ac [I 0,I 0] 32],(M.e_pure hM).symm,⟨aU,rfl⟩,H.pick [1,2,3,4,8,5,6,7] (by decide) rfl⟩
  refine kL 0 (α:=Span) [(aa.getD (Int.toNat x2) default)] ?_;intro bZ b4 H;refine kN ?_;refine kG 2 ?_;refine kN ?_;refine kP 1 ?_;intro aV b5 H;refine kN ?_;refine kS 1 ?_;intro b6 H;refine kN ?_;refine t_nil ?_;exact ⟨l++([(aa.getD (Int.toNat x2) default)]),[cOwn (α:=Span) 32 aV (l++([(aa.getD (Int.toNat x2) default)])),cBlk ah [aV] 27,cBlk ae [B false] 4,cBlk ac [I 0,I 0] 32],(M.e_pure hM).symm,⟨aV,rfl⟩,H.pick [1,2,3,4,8,5,6,7] (by decide) rfl⟩
 replace H:St w bo (cAll (cObj aG (.loop aS) :: [cOwn (α:=Span) 32 (.slice none 0 0) ([]),cBlk ah [(.slice none 0 0)] 27,cBlk ae [B false] 4,cBlk ac [I 0,I 0] 32]) :: [cBlk aB [I aF] 3,cMk (aR :: ([])),cBlk ay [aj,ak,al,am,I aw,I ax,ao] 40,cBlk aA [I ab] 3,cBlk az [Pq aq] 100]) R:=St.bundleB (A:=cObj aG (.loop aS) :: [cOwn (α:=Span) 32 (.slice none 0 0) ([]),cBlk ah [(.slice none 0 0)] 27,cBlk ae [B false] 4,cBlk ac [I 0,I 0] 32]) (T:=[cBlk aB [I aF] 3,cMk (aR :: ([])),cBlk ay [aj,ak,al,am,I aw,I ax,ao] 40,cBlk aA [I ab] 3,cBlk az [Pq aq] 100]) rfl (H.pk [0,2,3,4,5,9,1,6,7,8]);refine (zaU (M.yl (zay aa ab)) (.inl ([])) aF aH aa aI aJ aw ax aK hYC ⟨_,rfl,⟨(.slice none 0 0),rfl⟩⟩ (aL.app _) bb (aM.app _) bc (aN.app _) bf (aO.app _) bg (aP.app _) bh (Has.here (k:=1) rfl) bn _ (H.gt 4)).mono ?_;rintro vq b7 ⟨bv,q0,b8,rfl,hvq,bi,bj⟩;replace H:=H.back bi rfl;clear bi hYC;rcases bv with l | ⟨l2,l3,s,s2⟩
 ·obtain ⟨_,rfl,ai,rfl⟩:=bj;refine ⟨_,[cOwn (α:=Span) 32 ai l,cBlk ah [ai] 27,cBlk ae [B false] 4,cBlk ac [I 0,I 0] 32,cBlk ay [aj,ak,al,am,I aw,I ax,ao] 40,cBlk aA [I ab] 3,cBlk az [Pq aq] 100,cBlk aB [I q0] 3],H.unbundle.pick [0,6,1,2,3,4,7,8,9,5] (by decide) rfl,aT.nb,?_⟩;intro bw H;rw [aT.pd];replace H:=H.nf
  try simp only []
  replace H:=H.pk [0,3,4];refine WD.seq<|WD.of ?_;refine kS 2 ?_;intro b9 H;refine ksw ?_;intro cb H;refine s_nil<|WD.of ?_;refine W.ret ?_;refine bodyD_r (H.pk [0,1,2]) ?_;intro cc H;replace H:=H.nf
  have bx:=(H.bl 1)
  have bz:=(H.bl 0)
  have aW:=M.e_pure hM;exact ⟨_,(resE_ofn (vs:=[.agg #[I 0,I 0],B false]) rfl rfl (.cell (v:=.agg #[I 0,I 0]) rfl (run_loadVar_ag (ds:=[I 0,I 0]) Ag32.h Sz32.h bx rfl rfl)<|.cell (v:=B false) rfl (run_loadVar_sc Sc4.h bz rfl)<|.nil)),⟨0,0,false,aW,rfl,(H.pk [])⟩⟩
 obtain ⟨_,rfl,av,rfl⟩:=bj;refine ⟨_,[cOwn (α:=Span) 32 av l3,cBlk ah [av] 27,cBlk ae [B true] 4,cBlk ac [I s,I s2] 32,cBlk ay [aj,ak,al,am,I aw,I ax,ao] 40,cBlk aA [I ab] 3,cBlk az [Pq aq] 100,cBlk aB [I q0] 3],H.unbundle.pick [0,6,1,2,3,4,7,8,9,5] (by decide) rfl,nofun,?_⟩;intro bw H;show WD _ _ _ (.ret) _ _ _;refine WD.of ?_;refine W.ret ?_;replace H:=H.nf;refine bodyD_r (H.pk [0,1,2,3,4,5,6,7,8]) ?_;intro cd H;replace H:=H.nf;have bA:=(H.bl 3)
 have bB:=(H.bl 2)
 have aW:=M.e_pure hM;exact ⟨_,(resE_ofn (vs:=[.agg #[I s,I s2],B true]) rfl rfl (.cell (v:=.agg #[I s,I s2]) rfl (run_loadVar_ag (ds:=[I s,I s2]) Ag32.h Sz32.h bA rfl rfl)<|.cell (v:=B true) rfl (run_loadVar_sc Sc4.h bB rfl)<|.nil)),⟨s,s2,true,aW,rfl,(H.pk [])⟩⟩

def zaz (ac:List Int) (ae:List Span) (ah:List Int) (aa:List Town) (ai ab:Int) (aj:List Flood) (d:Dem):(List Int)->(Int × Int)->M ((List Int) ⊕ Unit):=fun l (x,x2) =>
  M.bind (zaY ac ae ah aa ai ab aj x2 ((aa.getD (Int.toNat d.town) default).station)) fun (ak,al,r1) =>
  M.grd ((!r1||(decide ((-9223372036854775808:Int)<=(((aa.getD (Int.toNat d.town) default).lead)+ab))&&decide ((((aa.getD (Int.toNat d.town) default).lead)+ab)<=(9223372036854775807:Int))))) <|
  bif (r1&&(decide ((((aa.getD (Int.toNat d.town) default).lead)+ab)<=ak))) then (
  M.grd (decide ((l.length+([(x2:Int)]).length)*8<=140737488355328)) <|
  M.pure (.inl (l++([(x2:Int)]))))
  else (
  M.pure (.inl l))
def zaa (ab:List Int) (ac:List Span) (ae:List Int) (aa:List Town) (ai aj:Int) (ah:List Flood) (d:Dem):M (List Int) :=
  M.grd (decide ((0:Int)<=d.town)&&decide (d.town<(aa.length:Int))) <|
  M.bind (zai ab ac ae aa ai aj ah d.spring) fun (ak,al,am) =>
  M.bind (zal (M.yl (zaz ab ac ae aa ai aj ah d)) (.inl ([])) ak ab ac ae aa al am ah) fun x_=>match x_ with
  | (.inl l,q0)=>(
  M.pure l)
  | (.inr _,_)=>M.fail
theorem zb7 {R az a8 ao ba aq bb au bc av bf aw ah ax}(ai aj ak aa ac ae al d)(aM:Reads R a8)(bg:Sl a8 ao ai)(aN:Reads R ba)(bh:Sl ba aq aj)(aO:Reads R bb)(bi:Sl bb au ak)(aP:Reads R bc)(bj:Sl bc av aa)(aQ:Reads R bf)(bm:Sl bf aw al)(aR:Has R (cBlk az [ao,aq,au,av,I ac,I ae,aw,.map (some ah)] 118)){r}(hM:(zaa ai aj ak aa ac ae al d).Ends r)(w)(H:St w w [cMem encDm ah ax (zaa ai aj ak aa ac ae al)] R):Ret Tryz.prog 74 #[Pq az,.agg #[I d.spring,I d.town]] w fun v w'=>∃ y0 u0 bn,y0=r/\v=u0/\St w w' [cMem encDm ah bn (zaa ai aj ak aa ac ae al)] R/\Sl bn.cells u0 y0:=by
 refine ret_of_WD Tryz.func74 rfl rfl rfl ?_;replace H:St w w [cMk ([]),cMem encDm ah ax (zaa ai aj ak aa ac ae al)] R:=H.mk0;have bG:=bg.len_le;have bH:=bh.len_le;have bI:=bi.len_le;have bJ:=bj.len_le;have bK:=bm.len_le;unfold zaa at hM;have hM0:=hM;obtain ⟨am,H,aS⟩:=St.memOpen H (i:=1) rfl;replace H:=H.nf;cases aT:am d with
 | none =>
  refine WD.seq<|WD.of ?_;refine kB 1 ?_;intro aA bL H;refine kbx ?_;intro aB bM H;refine kg 2 ?_;refine WD.seq<|WD.seq<|WD.of ?_;refine kD 0 [0,1,3,4] [5] ?_;intro bN H;refine kG 6 ?_;refine s_val (q_look (kenc:=encDm) (venc:=id) (f:=am) (k:=d) (z:=.slice none 0 0) (v:=.tuple #[.slice none 0 0,B false]) keyDem Tryz.underlying116 (by kernel_rfl) rfl rfl (H.get (k:=2) rfl) true (by simp [aT])) ?_;refine kN ?_;refine kg 6 ?_;refine WD.seq<|WD.of ?_;refine kg 3 ?_
  refine WD.cond false rfl (fun bo=>?_) (fun bo=>?_)
  ·exact absurd bo (by decide)
  refine WD.of<|W.skip<|WD.seq<|WD.of ?_;refine kA 1 ?_;intro ay bO H;refine s_nil<|WD.seq<|WD.of ?_;refine kD 0 [0,1,2,3,4,5] [9,10] ?_;intro bP H;obtain ⟨bQ,hM⟩:=M.e_gq hM;refine kA 10 ?_;intro aG bR H;refine kN ?_;refine kS 1 ?_;intro bS H;refine kN ?_;refine d_nil<|WD.seq<|WD.seq<|WD.of ?_;refine kD 0 [0,1,2,3,4,5,6] [6] ?_;intro bT H;refine kg 3 ?_;refine d_q rfl (fun w' H=>x_ld (v:=.agg #[ao,aq,au,av,I ac,I ae,aw]) rfl (ldb_ag (ds:=[ao,aq,au,av,I ac,I ae,aw]) Ag40.h Sz40.h (aR.blk H) rfl rfl)) ?_;refine kC 3 @zaZ ?_;intro bU aI aC aD aH aE hM H;refine kN ?_;refine d_nil<|WD.block ?_
  replace H:=H.nilOwn (α:=Int) 3;obtain ⟨bV,bu,hM⟩:=M.e_bind hM;refine WD.range (L:=[cOwn (α:=Int) 3 (.slice none 0 0) ([]),cBlk ay [(.slice none 0 0)] 36,cBlk aE [ao,aq,au,av,I aC,I aD,aw] 40,cBlk aG [I ((aa.getD (Int.toNat d.town) default).station),I ((aa.getD (Int.toNat d.town) default).lead),I ((aa.getD (Int.toNat d.town) default).alarm)] 53,cBlk aB [I d.spring,I d.town] 98,cBlk aA [Pq az] 100,cMap encDm id ah am,cRx ax,cBlk aH [I aI] 3]) [Pq aH,Pq aE] (H.pk [9,0,4,2,3,5,6,7,8,1]) rfl cq ?_;intro aJ aK aU bv aV H;have hYC:YieldC Tryz.prog ([cMk (aK :: ([])),cBlk aE [ao,aq,au,av,I aC,I aD,aw] 40,cBlk aG [I ((aa.getD (Int.toNat d.town) default).station),I ((aa.getD (Int.toNat d.town) default).lead),I ((aa.getD (Int.toNat d.town) default).alarm)] 53,cBlk aB [I d.spring,I d.town] 98,cBlk aA [Pq az] 100,cMap encDm id ah am,cRx ax]++R) arII (yJ aJ aU (fun l aL=>∃ (ab:Value),aL=[cOwn (α:=Int) 3 ab l,cBlk ay [ab] 36]) (fun (_:Unit) _=>False) (fun _=>.ret)) (.func (.yield aJ) #[] #[]) (M.yl (zaz ai aj ak aa ac ae al d)):=by
   refine YieldC.mk aV (fun l aL=>∃ (ab:Value),aL=[cOwn (α:=Int) 3 ab l,cBlk ay [ab] 36]) (fun (_:Unit) _=>False) (fun _=>.ret) (zaz ai aj ak aa ac ae al d) (by rintro l _ h_; obtain ⟨_,rfl⟩:=h_; rfl) (fun _ _ h_=>h_.elim) rfl (arII_len rfl) ?_;intro C_ bW x_ W_ bw;obtain ⟨x,x2⟩:=x_;obtain rfl:=bw;refine kg 3 ?_;refine ⟨rfl,rfl,?_⟩;intro w R aF aL s_ r bx hM H
   skip
   obtain ⟨l,bz⟩:∃ y_,y_=s_:=⟨_,rfl⟩
   subst bz;obtain ⟨ab,rfl⟩:=bx;replace aM:=aM.sub aF;replace aN:=aN.sub aF;replace aO:=aO.sub aF;replace aP:=aP.sub aF;replace aQ:=aQ.sub aF;replace aR:=aR.sub aF;replace hM:(zaz ai aj ak aa ac ae al d l (x,x2)).Ends r:=hM;simp only [zaz] at hM;replace H:=H.pk [0,1,3,4,5,6,7,8,2];refine kC 7 @zd8 ?_;intro bX bY bZ r1 hM H;refine kA 3 ?_;intro b4 b5 H;refine ksw ?_;intro b6 H;refine kD 3 [0,1,2,3,4,5,6,7,8,9] [] ?_;intro b7 H;obtain ⟨aW,hM⟩:=M.e_grd hM;replace aW:=M.imp_of aW;simp only [Bool.and_eq_true,decide_eq_true_eq] at aW;refine kI 16 ?_ ?_
   ·intro bA hM;refine kL 3 (α:=Int) [x2] ?_;intro b8 b9 H;obtain ⟨cb,hM⟩:=M.e_gq hM;refine kP 0 ?_;intro aX cc H;refine kS 0 ?_;intro cd H;refine s_nil ?_;exact ⟨l++([(x2:Int)]),[cOwn (α:=Int) 3 aX (l++([(x2:Int)])),cBlk ay [aX] 36],(M.e_pure hM).symm,⟨aX,rfl⟩,H.pick [2,3,10,4,5,6,7,8,9] (by decide) rfl⟩
   intro bA hM;refine W.skip ?_;exact ⟨l,[cOwn (α:=Int) 3 ab l,cBlk ay [ab] 36],(M.e_pure hM).symm,⟨ab,rfl⟩,H.pick [1,2,9,3,4,5,6,7,8] (by decide) rfl⟩
  replace H:St w bv (cAll (cObj aJ (.loop aU) :: [cOwn (α:=Int) 3 (.slice none 0 0) ([]),cBlk ay [(.slice none 0 0)] 36]) :: [cBlk aH [I aI] 3,cMk (aK :: ([])),cBlk aE [ao,aq,au,av,I aC,I aD,aw] 40,cBlk aG [I ((aa.getD (Int.toNat d.town) default).station),I ((aa.getD (Int.toNat d.town) default).lead),I ((aa.getD (Int.toNat d.town) default).alarm)] 53,cBlk aB [I d.spring,I d.town] 98,cBlk aA [Pq az] 100,cMap encDm id ah am,cRx ax]) R:=St.bundleB (A:=cObj aJ (.loop aU) :: [cOwn (α:=Int) 3 (.slice none 0 0) ([]),cBlk ay [(.slice none 0 0)] 36]) (T:=[cBlk aH [I aI] 3,cMk (aK :: ([])),cBlk aE [ao,aq,au,av,I aC,I aD,aw] 40,cBlk aG [I ((aa.getD (Int.toNat d.town) default).station),I ((aa.getD (Int.toNat d.town) default).lead),I ((aa.getD (Int.toNat d.town) default).alarm)] 53,cBlk aB [I d.spring,I d.town] 98,cBlk aA [Pq az] 100,cMap encDm id ah am,cRx ax]) rfl (H.pk [0,2,3,10,1,4,5,6,7,8,9]);refine (zaU (M.yl (zaz ai aj ak aa ac ae al d)) (.inl ([])) aI ai aj ak aa aC aD al hYC ⟨_,rfl,⟨(.slice none 0 0),rfl⟩⟩ (aM.app _) bg (aN.app _) bh (aO.app _) bi (aP.app _) bj (aQ.app _) bm (Has.here (k:=1) rfl) bu _ (H.gt 7)).mono ?_;rintro vq ce ⟨bB,q0,cf,rfl,hvq,bp,br⟩;replace H:=H.back bp rfl;clear bp hYC;rcases bB with l | _
  ·obtain ⟨_,rfl,ab,rfl⟩:=br;refine ⟨_,[cOwn (α:=Int) 3 ab l,cBlk ay [ab] 36,cBlk aE [ao,aq,au,av,I aC,I aD,aw] 40,cBlk aG [I ((aa.getD (Int.toNat d.town) default).station),I ((aa.getD (Int.toNat d.town) default).lead),I ((aa.getD (Int.toNat d.town) default).alarm)] 53,cBlk aB [I d.spring,I d.town] 98,cBlk aA [Pq az] 100,cMap encDm id ah am,cRx ax,cBlk aH [I q0] 3],H.unbundle.pick [0,4,1,2,5,6,7,8,9,10,3] (by decide) rfl,aV.nb,?_⟩;intro cg H;rw [aV.pd];replace H:=H.nf
   try simp only []
   replace H:=H.pk [0,1,2,5,6,7,8];refine WD.seq<|WD.of ?_;refine kD 0 [0,1,2,3,4,6] [6] ?_;intro ch H;refine kG 7 ?_;refine t_mapu (i:=5) (kenc:=encDm) (venc:=id) (f:=am) (k:=d) (v:=ab) (L':=[cMk (aK :: ([])),cOwn (α:=Int) 3 ab l,cBlk ay [ab] 36,cBlk aB [I d.spring,I d.town] 98,cBlk aA [Pq az] 100,cMap encDm id ah (updF am d ab),cRx ax]) keyDem Tryz.underlying116 H rfl rfl rfl rfl rfl ?_;intro ck H;refine kN ?_;refine d_nil ?_;replace H:=H.pk [0,1,2,5,6];refine WD.seq<|WD.of ?_;refine kg 4 ?_;refine WD.of ?_;refine W.ret ?_;refine bodyD_r (H.pk [0,1,2,3,4]) ?_;intro cn H;replace H:=H.nf
   obtain ⟨bC,cp,bD,H⟩:=St.memShut1 (H.pk [2,3,0,1]) aS (by rw [M.e_pure hM]; exact hM0);replace H:=H.nf;have aY:=M.e_pure hM;exact ⟨_,resE_tmp rfl,⟨l,ab,bC,aY,rfl,(H.pk [0]),bD⟩⟩
  obtain ⟨_,_,h_⟩:=br; exact h_.elim
 | some aZ =>
  obtain ⟨a7,bE,bF⟩:=aS d aZ aT;obtain rfl:=M.Ends.det bE hM0;replace hM:(M.pure a7).Ends a7:=M.i_pure;refine WD.seq<|WD.of ?_;refine kB 1 ?_;intro aA ct H;refine kbx ?_;intro aB cu H;refine kg 2 ?_;refine WD.seq<|WD.seq<|WD.of ?_;refine kD 0 [0,1,3,4] [5] ?_;intro cw H;refine kG 6 ?_;refine s_val (q_look (kenc:=encDm) (venc:=id) (f:=am) (k:=d) (z:=.slice none 0 0) (v:=.tuple #[aZ,B true]) keyDem Tryz.underlying116 (by kernel_rfl) rfl rfl (H.get (k:=2) rfl) true (by simp [aT])) ?_;refine kN ?_;refine kg 6 ?_;refine WD.seq<|WD.of ?_;refine kg 3 ?_
  refine WD.cond true rfl (fun bt=>?_) (fun bt=>?_)
  ·refine WD.seq<|WD.of ?_;refine kg 4 ?_;replace H:=H.pk [2,3,4];refine WD.of ?_;refine W.ret ?_;refine bodyD_r (H.pk [2,0,1]) ?_;intro cA H;replace H:=H.nf
   replace H:=St.memShut (H.pk [0,1]) aS;replace H:=H.nf;have aY:=M.e_pure hM;exact ⟨_,resE_tmp rfl,⟨a7,aZ,ax,aY,rfl,H,bF⟩⟩
  exact absurd bt (by decide)

def zaf (n aa greatest:Int):M Bool :=
  M.pure ((decide (aa<=n))&&(decide (n<=greatest)))
theorem zak {R}(n aa greatest){r}(hM:(zaf n aa greatest).Ends r)(w)(H:St w w [] R):Ret Tryz.prog 37 #[I n,I aa,I greatest] w fun v w'=>∃ y0,y0=r/\v=B y0/\St w w' [] R:=by
 refine ret_of_W Tryz.func37 rfl rfl rfl ?_;refine kg 16 ?_;exact rt

def zbi (s:Span):M Bool :=
  M.bind (zaf s.lo 0 s.hi) fun r2 =>
  M.bind (M.opt r2 (zaf s.hi 0 1000) false) fun r3 =>
  M.pure (r2&&r3)
theorem zdv {R}(s){r}(hM:(zbi s).Ends r)(w)(H:St w w [] R):Ret Tryz.prog 122 #[.agg #[I s.lo,I s.hi]] w fun v w'=>∃ y0,y0=r/\v=B y0/\St w w' [] R:=by
 refine ret_of_W Tryz.func122 rfl rfl rfl ?_;refine kB 2 ?_;intro ae ah H;refine kC 8 @zak ?_;intro ai r2 hM H;refine kg 3 ?_;obtain ⟨r3,aa,hM⟩:=M.e_bind hM;refine t_gcall r2 (gy_t rfl) cq (B r3) (fun _=>[I s.hi,I 0,I 1000]) (fun hg=>lst3 (gd_of hg (I s.hi)) rfl rfl) H (fun hg=>(zak s.hi 0 1000 (M.e_opt aa hg) _ (H.give (A:=[]) rfl)).mono fun v_ w_ ⟨y_,ab,ac,H_⟩=>by subst ab; exact ⟨ac,H.via H_⟩) ?_;intro aj H;refine kg 3 ?_;exact rt

def zb9 (l:List Int) (aa:Int):(Int × Nat)->M ((Int × Nat) ⊕ (Unit ⊕ Unit)):=fun (last,s) =>
  bif decide ((s:Int)<(l.length:Int)) then (
  M.grd (decide ((s:Int)<(l.length:Int))) <|
  M.gi (last+1) <|
  M.gi (aa-1) <|
  M.bind (zaf (l.getD s 0) (last+1) (aa-1)) fun r2 =>
  bif !r2 then (
  M.pure (.inr (.inl ())))
  else (
  M.pure (.inl (l.getD s 0,s+1))))
  else (
  M.pure (.inr (.inr ())))
def zaO (l:List Int) (aa:Int):M Bool :=
  M.bind (M.iter (zb9 l aa) (-1,0)) fun x_=>match x_ with
  | (.inl (_:Unit))=>(
  M.pure false)
  | (.inr (_:Unit))=>(
  M.pure true)
theorem zcQ {R ac ab}(l aa)(aq:Reads R ac)(aj:Sl ac ab l){r}(hM:(zaO l aa).Ends r)(w)(H:St w w [] R):Ret Tryz.prog 83 #[ab,I aa] w fun v w'=>∃ y0,y0=r/\v=B y0/\St w w' [] R:=by
 refine ret_of_W Tryz.func83 rfl rfl rfl ?_;have au:=(aj).len_le;refine kg 16 ?_;obtain ⟨ak,ae,ah⟩:=M.e_bind hM;obtain ⟨av,ae⟩:=M.e_iter ae;refine W.loop (fun m σ W=>∃ (last:Int) (s:Nat) (ρ:Env),σ=upds ρ [(1,I aa),(5,I last),(8,ab),(9,I (l.length:Int)),(10,I (s:Int))]/\M.iterN (zb9 l aa) m (last,s)=some ak/\St w W [] R) ?_ ?_
 ·exact kY
 rintro aw σ ax ⟨last,s,ρ,rfl,al,H⟩;obtain ⟨ay,az,aA,hM,ai⟩:=M.e_iterN al;refine kI 5 ?_ ?_
 ·intro am hM;obtain ⟨aB,hM⟩:=M.e_gq hM;obtain ⟨aC,hM⟩:=M.e_gq hM;obtain ⟨aD,hM⟩:=M.e_gq hM;refine kC 17 @zak ?_;intro aE r2 hM H;refine kI 2 ?_ ?_
  ·intro ao hM;refine kg 4 ?_;obtain rfl:=M.e_inr hM ai;replace hM:=ah;exact rt
  intro ao hM;exact kX 9
 intro am hM;refine W.exit ?_;obtain rfl:=M.e_inr hM ai;replace hM:=ah;refine kg 4 ?_;exact rt

def zaS (s:List Town) (f:Town->M Bool):Nat->M (Nat ⊕ (Int ⊕ Unit)):=fun s2 =>
  bif decide ((s2:Int)<(s.length:Int)) then (
  M.grd (decide ((s2:Int)<(s.length:Int))) <|
  M.bind (f (s.getD s2 default)) fun r2 =>
  bif r2 then (
  M.pure (.inr (.inl (s2:Int))))
  else (
  M.pure (.inl (s2+1))))
  else (
  M.pure (.inr (.inr ())))
def zcw (s:List Town) (f:Town->M Bool):M Int :=
  M.bind (M.iter (zaS s f) 0) fun x_=>match x_ with
  | (.inl s3)=>(
  M.pure s3)
  | (.inr (_:Unit))=>(
  M.pure (-1))
theorem zeH {R ac aa ab}(s f)(av:Reads R ac)(aj:Sl ac aa s)(ak:FnM Tryz.prog R ab f){r}(hM:(zcw s f).Ends r)(w)(H:St w w [] R):Ret Tryz.prog 134 #[aa,ab] w fun v w'=>∃ y0,y0=r/\v=I y0/\St w w' [] R:=by
 refine ret_of_W Tryz.func134 rfl rfl rfl ?_;have aw:=(aj).len_le;refine kg 12 ?_;obtain ⟨al,ae,ah⟩:=M.e_bind hM;obtain ⟨ax,ae⟩:=M.e_iter ae;refine W.loop (fun m σ W=>∃ (s2:Nat) (ρ:Env),σ=upds ρ [(0,aa),(1,ab),(7,I (s.length:Int)),(8,I (s2:Int))]/\M.iterN (zaS s f) m s2=some al/\St w W [] R) ?_ ?_
 ·exact kY
 rintro ay σ az ⟨s2,ρ,rfl,am,H⟩;obtain ⟨aA,aB,aC,hM,ai⟩:=M.e_iterN am;refine kI 5 ?_ ?_
 ·intro ao hM;obtain ⟨aD,hM⟩:=M.e_gq hM;refine kg 15 ?_;obtain ⟨r2,aq,hM⟩:=M.e_bind hM;refine t_callM H ak rfl rfl (s.getD s2 default) Reads.none ⟨_,rfl,rfl⟩ aq ?_;intro aE H;refine kI 1 ?_ ?_
  ·intro au hM;refine kg 5 ?_;obtain rfl:=M.e_inr hM ai;replace hM:=ah;exact rt
  intro au hM;exact kX 5
 intro ao hM;refine W.exit ?_;obtain rfl:=M.e_inr hM ai;replace hM:=ah;refine kg 4 ?_;exact rt

def zar (s:List Town) (f:Town->M Bool):M Bool :=
  M.bind (zcw s f) fun r2 =>
  M.pure (decide (0<=r2))
theorem zc1 {R aa ab ac}(s f)(ae:Reads R aa)(ah:Sl aa ab s)(ai:FnM Tryz.prog R ac f){r}(hM:(zar s f).Ends r)(w)(H:St w w [] R):Ret Tryz.prog 84 #[ab,ac] w fun v w'=>∃ y0,y0=r/\v=B y0/\St w w' [] R:=by
 refine ret_of_W Tryz.func84 rfl rfl rfl ?_;refine kC 8 @zeH ?_;intro aj r2 hM H;refine kg 3 ?_;exact rt

def zcp (x:Town) (aa:Town->M Bool):M Bool :=
  M.bind (aa x) fun r2 =>
  M.pure (!r2)
theorem zfy {R aa ab}(x ac)(ae:FnM Tryz.prog R ab ac)(ai:Has R (cBlk aa [ab] 188)){r}(hM:(zcp x ac).Ends r)(w)(H:St w w [] R):Ret Tryz.prog 164 #[.agg #[I x.station,I x.lead,I x.alarm],Pq aa] w fun v w'=>∃ y0,y0=r/\v=B y0/\St w w' [] R:=by
 refine ret_of_W Tryz.func164 rfl rfl rfl ?_;refine kB 2 ?_;intro aj ak H;refine kg 6 ?_;obtain ⟨r2,ah,hM⟩:=M.e_bind hM;refine t_callM H ae rfl rfl x Reads.none ⟨_,rfl,rfl⟩ ah ?_;intro al H;refine kg 3 ?_;exact rt

def zbe (l:List Town) (so:Town->M Bool):M Bool :=
  M.bind (zar l (fun aa=>zcp aa so)) fun r2 =>
  M.pure (!r2)
theorem zdI {R ae aa ah}(l so)(aj:Reads R ae)(ak:Sl ae aa l)(al:FnM Tryz.prog R ah so){r}(hM:(zbe l so).Ends r)(w)(H:St w w [] R):Ret Tryz.prog 123 #[aa,ah] w fun v w'=>∃ y0,y0=r/\v=B y0/\St w w' [] R:=by
 refine ret_of_W Tryz.func123 rfl rfl rfl ?_;refine kB 2 ?_;intro ab aA H;refine kg 5 ?_;refine s_val (x_mf (fs:=[]) (cs:=[Pq ab]) rfl rfl) ?_;obtain ⟨aB,am,hM⟩:=M.e_bind hM;refine s_call cq [aa,.func (.func 164) #[] #[Pq ab]] rfl (zc1 l (fun ac=>zcp ac so) (aj.app _) ak ⟨164,[Pq ab],rfl,cq,fun ai aC aD ao ac aE aq aF au av=>by obtain rfl:=Town_arg au; exact (zfy ac so (FnM.app (al.app _) _) (Has.app (Has.here (k:=0) rfl) _) av ai (St.refl aq)).mono fun ao ai ⟨aG,aw,ax,ay⟩=>by subst aw; exact ⟨ax,ay⟩⟩ am _ (H.gt 1)) ?_;rintro _ aH ⟨r2,rfl,rfl,az⟩;replace H:=H.bk az;refine kg 3 ?_;exact rt

def zaI (n:Int):M Bool :=
  M.bind (zaf n 0 2000) fun r2 =>
  M.pure r2
theorem zd2 {R}(n){r}(hM:(zaI n).Ends r)(w)(H:St w w [] R):Ret Tryz.prog 128 #[I n] w fun v w'=>∃ y0,y0=r/\v=B y0/\St w w' [] R:=by
 refine ret_of_W Tryz.func128 rfl rfl rfl ?_;refine kC 7 @zak ?_;intro aa r2 hM H;refine kg 2 ?_;exact rt

def zci (t:Town):M Bool :=
  M.bind (zaf t.lead 0 1000) fun r2 =>
  M.bind (M.opt r2 (zaI t.alarm) false) fun r3 =>
  M.pure (r2&&r3)
theorem zfv {R}(t){r}(hM:(zci t).Ends r)(w)(H:St w w [] R):Ret Tryz.prog 124 #[.agg #[I t.station,I t.lead,I t.alarm]] w fun v w'=>∃ y0,y0=r/\v=B y0/\St w w' [] R:=by
 refine ret_of_W Tryz.func124 rfl rfl rfl ?_;refine kB 2 ?_;intro ae ah H;refine kC 6 @zak ?_;intro ai r2 hM H;refine kg 3 ?_;obtain ⟨r3,aa,hM⟩:=M.e_bind hM;refine t_gcall r2 (gy_t rfl) cq (B r3) (fun _=>[I t.alarm]) (fun hg=>lst1 (gd_of hg (I t.alarm))) H (fun hg=>(zd2 t.alarm (M.e_opt aa hg) _ (H.give (A:=[]) rfl)).mono fun v_ w_ ⟨y_,ab,ac,H_⟩=>by subst ab; exact ⟨ac,H.via H_⟩) ?_;intro aj H;refine kg 3 ?_;exact rt

def zcE (t:Town) (aa:Int):M Bool :=
  M.gi (aa-1) <|
  M.bind (zaf t.station 0 (aa-1)) fun r2 =>
  M.pure r2
theorem zet {R aa}(t ab)(ac:Has R (cBlk aa [I ab] 3)){r}(hM:(zcE t ab).Ends r)(w)(H:St w w [] R):Ret Tryz.prog 125 #[.agg #[I t.station,I t.lead,I t.alarm],Pq aa] w fun v w'=>∃ y0,y0=r/\v=B y0/\St w w' [] R:=by
 refine ret_of_W Tryz.func125 rfl rfl rfl ?_;refine kB 2 ?_;intro ae ah H;obtain ⟨ai,hM⟩:=M.e_gq hM;refine kC 8 @zak ?_;intro aj r2 hM H;refine kg 2 ?_;exact rt

def zcP (s:List Int) (f:Int->M Bool):M Bool :=
  M.bind (zck s f) fun r2 =>
  M.pure (decide (0<=r2))
theorem zfA {R aa ab ac}(s f)(ae:Reads R aa)(ah:Sl aa ab s)(ai:FnM Tryz.prog R ac f){r}(hM:(zcP s f).Ends r)(w)(H:St w w [] R):Ret Tryz.prog 166 #[ab,ac] w fun v w'=>∃ y0,y0=r/\v=B y0/\St w w' [] R:=by
 refine ret_of_W Tryz.func166 rfl rfl rfl ?_;refine kC 8 @zef ?_;intro aj r2 hM H;refine kg 3 ?_;exact rt

def zbY (x:Int) (aa:Int->M Bool):M Bool :=
  M.bind (aa x) fun r2 =>
  M.pure (!r2)
theorem zeR {R aa ab}(x ac)(ae:FnM Tryz.prog R ab ac)(ai:Has R (cBlk aa [ab] 64)){r}(hM:(zbY x ac).Ends r)(w)(H:St w w [] R):Ret Tryz.prog 167 #[I x,Pq aa] w fun v w'=>∃ y0,y0=r/\v=B y0/\St w w' [] R:=by
 refine ret_of_W Tryz.func167 rfl rfl rfl ?_;refine kg 8 ?_;obtain ⟨r2,ah,hM⟩:=M.e_bind hM;refine t_callM H ae rfl rfl x Reads.none (Arg.mkI (fun _=>none) _) ah ?_;intro aj H;refine kg 3 ?_;exact rt

def zbz (l:List Int) (so:Int->M Bool):M Bool :=
  M.bind (zcP l (fun aa=>zbY aa so)) fun r2 =>
  M.pure (!r2)
theorem zfI {R ae aa ah}(l so)(aj:Reads R ae)(ak:Sl ae aa l)(al:FnM Tryz.prog R ah so){r}(hM:(zbz l so).Ends r)(w)(H:St w w [] R):Ret Tryz.prog 127 #[aa,ah] w fun v w'=>∃ y0,y0=r/\v=B y0/\St w w' [] R:=by
 refine ret_of_W Tryz.func127 rfl rfl rfl ?_;refine kB 2 ?_;intro ab aA H;refine kg 5 ?_;refine s_val (x_mf (fs:=[]) (cs:=[Pq ab]) rfl rfl) ?_;obtain ⟨aB,am,hM⟩:=M.e_bind hM;refine s_call cq [aa,.func (.func 167) #[] #[Pq ab]] rfl (zfA l (fun ac=>zbY ac so) (aj.app _) ak ⟨167,[Pq ab],rfl,cq,fun ai aC aD ao ac aE aq aF au av=>by obtain rfl:=Arg.int au; exact (zeR ac so (FnM.app (al.app _) _) (Has.app (Has.here (k:=0) rfl) _) av ai (St.refl aq)).mono fun ao ai ⟨aG,aw,ax,ay⟩=>by subst aw; exact ⟨ax,ay⟩⟩ am _ (H.gt 1)) ?_;rintro _ aH ⟨r2,rfl,rfl,az⟩;replace H:=H.bk az;refine kg 3 ?_;exact rt

def zbE (aa:List Int) (ab:List Span):Nat->M (Nat ⊕ (Int ⊕ Unit)):=fun s =>
  bif decide ((s:Int)<(aa.length:Int)) then (
  M.grd (decide ((s:Int)<(aa.length:Int))) <|
  M.bind (M.opt ((aa.getD s 0) != (-1)) (zaf (aa.getD s 0) ((s:Int)+1) ((aa.length:Int)-1)) false) fun r4 =>
  bif (((aa.getD s 0) != (-1))&&(!r4)) then (
  M.pure (.inr (.inl 2)))
  else (
  M.grd (decide ((s:Int)<(ab.length:Int))) <|
  M.bind (zbi (ab.getD s default)) fun r5 =>
  bif !r5 then (
  M.pure (.inr (.inl 130)))
  else (
  M.pure (.inl (s+1)))))
  else (
  M.pure (.inr (.inr ())))
def zat  : Int->(Int × Int)->M (Int ⊕ Unit):=fun s3 (x,x2) =>
  M.gi (s3+1) <|
  M.pure (.inl (s3+1))
def zbZ (ac:List Int) (ae:List Span) (ab:List Int) (ah:List Town) (ai aj:Int) (aa:List Flood):Nat->M (Nat ⊕ (Int ⊕ Unit)):=fun s4 =>
  bif decide ((s4:Int)<(aa.length:Int)) then (
  M.grd (decide ((s4:Int)<(aa.length:Int))) <|
  M.bind (zai ac ae ab ah ai aj aa (max 0 ((aa.getD s4 default).spring))) fun (ak,al,am) =>
  M.bind (zal (M.yl zat) (.inl 0) ak ac ae ab ah al am aa) fun x_=>match x_ with
  | (.inl s3,q0)=>(
  M.bind (zbo ab ((aa.getD s4 default).spring)) fun ao =>
  bif ((!ao)||((((aa.getD s4 default).stages).length:Int) != s3)) then (
  M.pure (.inr (.inl 2)))
  else (
  M.bind (zbz ((aa.getD s4 default).stages) (fun aq=>zaI aq)) fun au =>
  bif !au then (
  M.pure (.inr (.inl 130)))
  else (
  M.pure (.inl (s4+1)))))
  | (.inr _,_)=>M.fail)
  else (
  M.pure (.inr (.inr ())))
def zbu (aa:List Int) (ab:List Span) (ae:List Int) (ac:List Town) (ai aj:Int) (ak:List Flood):M Int :=
  M.bind (zaf (aa.length:Int) 1 12) fun r2 =>
  M.bind (M.opt (!((!r2)||((ab.length:Int) != (aa.length:Int)))) (zaf (ae.length:Int) 1 8) false) fun r3 =>
  bif (((((!r2)||((ab.length:Int) != (aa.length:Int)))||(!r3))||(decide (8<(ac.length:Int))))||(decide (20<(ak.length:Int)))) then (
  M.pure 3)
  else (
  M.bind (M.iter (zbE aa ab) 0) fun x_=>match x_ with
  | (.inl s2)=>(
  M.pure s2)
  | (.inr (_:Unit))=>(
  M.bind (zaO ae (aa.length:Int)) fun r6 =>
  bif !r6 then (
  M.pure 9)
  else (
  M.bind (zbe ac (fun ah=>zci ah)) fun r7 =>
  M.bind (M.opt (!(!r7)) (zbe ac (fun ah=>zcE ah (aa.length:Int))) false) fun r8 =>
  M.bind (M.opt (!((!r7)||(!r8))) (zbi (⟨(ai:Int),(aj:Int)⟩:Span)) false) fun r9 =>
  bif (((!r7)||(!r8))||(!r9)) then (
  M.pure 130)
  else (
  M.bind (M.iter (zbZ aa ab ae ac ai aj ak) 0) fun x_=>match x_ with
  | (.inl s5)=>(
  M.pure s5)
  | (.inr (_:Unit))=>(
  M.pure 0)))))
theorem zfC {R bA ah bB aj bC ak bD ac bE ai}(aa ax ay az al am ae)(ba:Reads R bA)(aY:Sl bA ah aa)(bb:Reads R bB)(bc:Sl bB aj ax)(bf:Reads R bC)(bg:Sl bC ak ay)(aI:Reads R bD)(aJ:Sl bD ac az)(aK:Reads R bE)(aL:Sl bE ai ae){r}(hM:(zbu aa ax ay az al am ae).Ends r)(w)(H:St w w [] R):Ret Tryz.prog 75 #[.agg #[ah,aj,ak,ac,I al,I am,ai]] w fun v w'=>∃ y0,y0=r/\v=I y0/\St w w' [] R:=by
 refine ret_of_WD Tryz.func75 rfl rfl rfl ?_;replace H:St w w [cMk ([])] R:=H.mk0;have cd:=aY.len_le;have ce:=bc.len_le;have cf:=bg.len_le;have cg:=aJ.len_le;have ch:=aL.len_le;unfold zbu at hM;refine WD.seq<|WD.of ?_;refine kB 1 ?_;intro au ck H;refine kg 2 ?_;refine WD.seq<|WD.of ?_
 have cn:=(aY).len_le;refine kA 4 ?_;intro ao cp H;refine ksw ?_;intro ct H;refine s_nil<|WD.seq<|WD.seq<|WD.of ?_;refine kC 2 @zak ?_;intro cu r2 hM H
 have cw:=(bc).len_le;have cA:=(bg).len_le;refine kg 12 ?_;obtain ⟨r3,bO,hM⟩:=M.e_bind hM;refine t_gcall (!((!r2)||((ax.length:Int) != (aa.length:Int)))) (gy_f rfl) cq (B r3) (fun _=>[I (ay.length:Int),I 1,I 8]) (fun hg=>lst3 (gd_of hg (I (ay.length:Int))) rfl rfl) H (fun hg=>(zak (ay.length:Int) 1 8 (M.e_opt bO hg) _ (H.give (A:=[]) rfl)).mono fun v_ w_ ⟨y_,ab,aA,H_⟩=>by subst ab; exact ⟨aA,H.via H_⟩) ?_;intro cB H;have cC:=(aJ).len_le;have cD:=(aL).len_le;refine kg 15 ?_;refine WD.cond (((((!r2)||((ax.length:Int) != (aa.length:Int)))||(!r3))||(decide (8<(az.length:Int))))||(decide (20<(ae.length:Int)))) rfl (fun bh=>?_) (fun bh=>?_)
 ·replace hM:=M.e_t hM bh;refine WD.seq<|WD.of ?_;refine kg 3 ?_;replace H:=H.pk [2];refine WD.of ?_;refine W.ret ?_;refine bodyD_r (H.pk [0]) ?_;intro cE H;replace H:=H.nf
  have ab:=M.e_pure hM;exact ⟨_,resE_tmp rfl,⟨3,ab,rfl,H⟩⟩
 replace hM:=M.e_f hM bh;refine WD.of<|W.skip<|WD.seq<|WD.seq<|WD.of ?_
 have cF:=(aY).len_le;refine kg 6 ?_;refine WD.block ?_;obtain ⟨bP,bF,bi⟩:=M.e_bind hM;obtain ⟨bQ,bF⟩:=M.e_iter bF;refine WD.loop (fun m bG σ W=>∃ (s:Nat) (ρ:Env),σ=upds ρ [(1,Pq au),(3,Pq ao),(42,ah),(43,I (aa.length:Int)),(44,I (s:Int))]/\M.iterN (zbE aa ax) m s=some bP/\St w W [cBlk ao [I (aa.length:Int)] 3,cBlk au [ah,aj,ak,ac,I al,I am,ai] 40,cMk bG] R) ?_ ?_
 ·exact kY
 rintro cG bG σ cH ⟨s,ρ,rfl,bR,H⟩;obtain ⟨cI,cJ,cK,hM,bj⟩:=M.e_iterN bR;refine WD.seq<|WD.of ?_;refine kg 3 ?_;refine WD.seq ?_
 refine WD.cond (decide ((s:Int)<(aa.length:Int))) rfl (fun aB=>?_) (fun aB=>?_)
 ·replace hM:=M.e_t hM aB;replace aB:=dI aB;refine WD.of<|W.skip<|WD.seq<|WD.block<|WD.seq<|WD.of ?_;obtain ⟨cL,hM⟩:=M.e_gq hM;refine kg 7 ?_;refine WD.block<|WD.seq<|WD.of ?_;refine kg 9 ?_;obtain ⟨r4,bS,hM⟩:=M.e_bind hM;refine t_gcall ((aa.getD s 0) != (-1)) (gy_t rfl) cq (B r4) (fun _=>[I (aa.getD s 0),I ((s:Int)+1),I ((aa.length:Int)-1)]) (fun hg=>lst3 (gd_of hg (I (aa.getD s 0))) (gd_of hg (I ((s:Int)+1))) (gd_of hg (I ((aa.length:Int)-1)))) H (fun hg=>(zak (aa.getD s 0) ((s:Int)+1) ((aa.length:Int)-1) (M.e_opt bS hg) _ (H.give (A:=[]) rfl)).mono fun v_ w_ ⟨y_,ab,aA,H_⟩=>by subst ab; exact ⟨aA,H.via H_⟩) ?_;intro cM H;refine kg 4 ?_
  refine WD.cond (((aa.getD s 0) != (-1))&&(!r4)) rfl (fun bm=>?_) (fun bm=>?_)
  ·replace hM:=M.e_t hM bm;refine WD.seq<|WD.of ?_;refine kg 3 ?_;refine WD.of ?_;refine W.ret ?_
   obtain rfl:=M.e_inr hM bj;replace hM:=bi;refine bodyD_r (H.pk [2,0,1]) ?_;intro cN H;replace H:=H.nf;have ab:=M.e_pure hM;exact ⟨_,resE_tmp rfl,⟨2,ab,rfl,(H.pk [])⟩⟩
  replace hM:=M.e_f hM bm;refine WD.seq<|WD.of ?_;obtain ⟨cO,hM⟩:=M.e_gq hM;refine kC 6 @zdv ?_;intro cP r5 hM H;refine kg 3 ?_
  refine WD.cond (!r5) rfl (fun bn=>?_) (fun bn=>?_)
  ·replace hM:=M.e_t hM bn;refine WD.seq<|WD.of ?_;refine kg 3 ?_;refine WD.of ?_;refine W.ret ?_
   obtain rfl:=M.e_inr hM bj;replace hM:=bi;refine bodyD_r (H.pk [2,0,1]) ?_;intro cQ H;replace H:=H.nf;have ab:=M.e_pure hM;exact ⟨_,resE_tmp rfl,⟨130,ab,rfl,(H.pk [])⟩⟩
  replace hM:=M.e_f hM bn;refine WD.of<|W.skip<|WD.of ?_
  exact kX 4
 replace hM:=M.e_f hM aB;replace aB:=dI aB;refine WD.of ?_;refine W.exit ?_;obtain rfl:=M.e_inr hM bj;replace hM:=bi;refine WD.seq<|WD.block<|WD.seq<|WD.of ?_;refine kC 4 @zcQ ?_;intro cR r6 hM H;refine kg 3 ?_
 refine WD.cond (!r6) rfl (fun bo=>?_) (fun bo=>?_)
 ·replace hM:=M.e_t hM bo;refine WD.seq<|WD.of ?_;refine kg 3 ?_;replace H:=H.pk [2];refine WD.of ?_;refine W.ret ?_;refine bodyD_r (H.pk [0]) ?_;intro cS H;replace H:=H.nf
  have ab:=M.e_pure hM;exact ⟨_,resE_tmp rfl,⟨9,ab,rfl,H⟩⟩
 replace hM:=M.e_f hM bo;refine WD.seq<|WD.of ?_;refine kg 3 ?_;obtain ⟨cT,bT,hM⟩:=M.e_bind hM;refine s_call cq [ac,.func (.func 124) #[] #[]] rfl (zdI az (fun aq=>zci aq) (aI.app _) aJ ⟨124,[],rfl,cq,fun av bH bI aM aq bJ aN bK aO aP=>by obtain rfl:=Town_arg aO; exact (zfv aq aP av (St.refl aN)).mono fun aM av ⟨bL,aQ,aR,aS⟩=>by subst aQ; exact ⟨aR,aS⟩⟩ bT _ (H.gt 3)) ?_
 rintro _ cU ⟨r7,rfl,rfl,aE⟩;replace H:=H.bk aE;refine kg 4 ?_;refine g_val (!(!r7)) (gy_f rfl) (fun hg=>x_mf (fs:=[]) (cs:=[Pq ao]) rfl rfl) ?_;obtain ⟨r8,bU,hM⟩:=M.e_bind hM;refine t_gcall (!(!r7)) (gy_f rfl) cq (B r8) (fun _=>[ac,.func (.func 125) #[] #[Pq ao]]) (fun hg=>lst2 (gd_of hg (ac)) (gd_of hg (.func (.func 125) #[] #[Pq ao]))) H (fun hg=>(zdI az (fun aq=>zcE aq (aa.length:Int)) (aI.app _) aJ ⟨125,[Pq ao],rfl,cq,fun av bH bI aM aq bJ aN bK aO aP=>by obtain rfl:=Town_arg aO; exact (zet aq (aa.length:Int) (Has.app (Has.here (k:=0) rfl) _) aP av (St.refl aN)).mono fun aM av ⟨bL,aQ,aR,aS⟩=>by subst aQ; exact ⟨aR,aS⟩⟩ (M.e_opt bU hg) _ (H.give (A:=[]) rfl)).mono fun v_ w_ ⟨y_,ab,aA,H_⟩=>by subst ab; exact ⟨aA,H.via H_⟩) ?_;intro cV H;refine kg 5 ?_;obtain ⟨r9,bV,hM⟩:=M.e_bind hM;refine t_gcall (!((!r7)||(!r8))) (gy_f rfl) cq (B r9) (fun _=>[.agg #[I al,I am]]) (fun hg=>lst1 (gd_of hg (.agg #[I al,I am]))) H (fun hg=>(zdv (⟨(al:Int),(am:Int)⟩:Span) (M.e_opt bV hg) _ (H.give (A:=[]) rfl)).mono fun v_ w_ ⟨y_,ab,aA,H_⟩=>by subst ab; exact ⟨aA,H.via H_⟩) ?_;intro cW H;refine kg 4 ?_;refine WD.cond (((!r7)||(!r8))||(!r9)) rfl (fun bp=>?_) (fun bp=>?_)
 ·replace hM:=M.e_t hM bp;refine WD.seq<|WD.of ?_;refine kg 3 ?_;replace H:=H.pk [2];refine WD.of ?_;refine W.ret ?_;refine bodyD_r (H.pk [0]) ?_;intro cX H;replace H:=H.nf
  have ab:=M.e_pure hM;exact ⟨_,resE_tmp rfl,⟨130,ab,rfl,H⟩⟩
 replace hM:=M.e_f hM bp;refine WD.of<|W.skip<|WD.seq<|WD.seq<|WD.of ?_
 have cY:=(aL).len_le;refine kg 6 ?_;refine WD.block ?_;obtain ⟨bW,bM,br⟩:=M.e_bind hM;obtain ⟨bQ,bM⟩:=M.e_iter bM;refine WD.loop (fun m aT σ W=>∃ (s4:Nat) (ρ:Env),σ=upds ρ [(1,Pq au),(95,ai),(96,I (ae.length:Int)),(97,I (s4:Int))]/\M.iterN (zbZ aa ax ay az al am ae) m s4=some bW/\St w W [cBlk ao [I (aa.length:Int)] 3,cBlk au [ah,aj,ak,ac,I al,I am,ai] 40,cMk aT] R) ?_ ?_
 ·exact kY
 rintro cZ aT σ c6 ⟨s4,ρ,rfl,bX,H⟩;obtain ⟨c7,c8,c9,hM,bt⟩:=M.e_iterN bX;refine WD.seq<|WD.of ?_;refine kg 3 ?_;refine WD.seq ?_
 refine WD.cond (decide ((s4:Int)<(ae.length:Int))) rfl (fun aC=>?_) (fun aC=>?_)
 ·replace hM:=M.e_t hM aC;replace aC:=dI aC;refine WD.of<|W.skip<|WD.seq<|WD.block<|WD.seq<|WD.of ?_;obtain ⟨da,hM⟩:=M.e_gq hM;refine kg 2 ?_
  obtain ⟨aw,bY,aU⟩:=Flood_atA aL (i:=(s4:Int)) (by omega) (by omega);replace aU:Sl _ aw (ae.getD s4 default).stages:=aU;have db:=aU.len_le;refine s_val (x_ld (v:=.agg #[I ((ae.getD s4 default).spring),aw]) rfl (ld_ag Ag51.h Sz51.h (At.mono bY (aK.at H)))) ?_;refine kal ?_;intro aV dc H;refine kS 0 ?_;intro dg H;refine s_nil<|WD.seq<|WD.of ?_;refine kA 1 ?_;intro aD di H;refine ksw ?_;intro dk H;refine s_nil<|WD.seq<|WD.seq<|WD.of ?_;refine kC 5 @zaZ ?_;intro dm aZ aF aG aW aH hM H;refine s_nil<|WD.block ?_;obtain ⟨dq,bZ,hM⟩:=M.e_bind hM;refine WD.range (L:=[cBlk aD [I 0] 3,cBlk aH [ah,aj,ak,ac,I aF,I aG,ai] 40,cBlk aV [I ((ae.getD s4 default).spring),aw] 51,cBlk ao [I (aa.length:Int)] 3,cBlk au [ah,aj,ak,ac,I al,I am,ai] 40,cBlk aW [I aZ] 3]) [Pq aW,Pq aH] (H.pk [6,2,1,3,4,5,0]) rfl cq ?_;intro a7 bu bv b4 bw H
  have hYC:YieldC Tryz.prog ([cMk (bu :: aT),cBlk aH [ah,aj,ak,ac,I aF,I aG,ai] 40,cBlk aV [I ((ae.getD s4 default).spring),aw] 51,cBlk ao [I (aa.length:Int)] 3,cBlk au [ah,aj,ak,ac,I al,I am,ai] 40]++R) arII (yJ a7 bv (fun s3 a8=>a8=[cBlk aD [I s3] 3]) (fun (_:Unit) _=>False) (fun _=>.ret)) (.func (.yield a7) #[] #[]) (M.yl zat):=by
   refine YieldC.mk bw (fun s3 a8=>a8=[cBlk aD [I s3] 3]) (fun (_:Unit) _=>False) (fun _=>.ret) zat (by rintro s3 _ h_; obtain ⟨rfl⟩:=h_; rfl) (fun _ _ h_=>h_.elim) rfl (arII_len rfl) ?_;intro C_ dr x_ W_ b5;obtain ⟨x,x2⟩:=x_;obtain rfl:=b5;refine W.skip ?_;refine ⟨rfl,rfl,?_⟩;intro w R aX a8 s_ r b6 hM H
   skip
   obtain ⟨s3,b7⟩:∃ y_,y_=s_:=⟨_,rfl⟩
   subst b7;obtain ⟨rfl⟩:=b6;replace ba:=ba.sub aX;replace bb:=bb.sub aX;replace bf:=bf.sub aX;replace aI:=aI.sub aX;replace aK:=aK.sub aX;replace hM:(zat s3 (x,x2)).Ends r:=hM;simp only [zat] at hM;replace H:=H.pk [0,2,3,4,5,1];obtain ⟨dt,hM⟩:=M.e_gq hM;refine kS 4 ?_;intro du H;refine s_nil ?_;exact ⟨s3+1,[cBlk aD [I (s3+1)] 3],(M.e_pure hM).symm,rfl,H.pick [0,5,1,2,3,4] (by decide) rfl⟩
  replace H:St w b4 (cAll (cObj a7 (.loop bv) :: [cBlk aD [I 0] 3]) :: [cBlk aW [I aZ] 3,cMk (bu :: aT),cBlk aH [ah,aj,ak,ac,I aF,I aG,ai] 40,cBlk aV [I ((ae.getD s4 default).spring),aw] 51,cBlk ao [I (aa.length:Int)] 3,cBlk au [ah,aj,ak,ac,I al,I am,ai] 40]) R:=St.bundleB (A:=cObj a7 (.loop bv) :: [cBlk aD [I 0] 3]) (T:=[cBlk aW [I aZ] 3,cMk (bu :: aT),cBlk aH [ah,aj,ak,ac,I aF,I aG,ai] 40,cBlk aV [I ((ae.getD s4 default).spring),aw] 51,cBlk ao [I (aa.length:Int)] 3,cBlk au [ah,aj,ak,ac,I al,I am,ai] 40]) rfl (H.pk [0,2,7,1,3,4,5,6]);refine (zaU (M.yl zat) (.inl 0) aZ aa ax ay az aF aG ae hYC ⟨_,rfl,rfl⟩ (ba.app _) aY (bb.app _) bc (bf.app _) bg (aI.app _) aJ (aK.app _) aL (Has.here (k:=1) rfl) bZ _ (H.gt 5)).mono ?_;rintro vq dv ⟨b8,q0,dw,rfl,hvq,aE,bN⟩;replace H:=H.back aE rfl;clear aE hYC;rcases b8 with s3 | _
  ·obtain ⟨_,rfl,rfl⟩:=bN;refine ⟨_,[cBlk aD [I s3] 3,cBlk aH [ah,aj,ak,ac,I aF,I aG,ai] 40,cBlk aV [I ((ae.getD s4 default).spring),aw] 51,cBlk ao [I (aa.length:Int)] 3,cBlk au [ah,aj,ak,ac,I al,I am,ai] 40,cBlk aW [I q0] 3],H.unbundle.pick [0,3,1,4,5,6,7,2] (by decide) rfl,bw.nb,?_⟩;intro dx H;rw [bw.pd];replace H:=H.nf
   try simp only []
   replace H:=H.pk [0,1,3,4,5];refine WD.block<|WD.seq<|WD.of ?_;refine kC 5 @zeh ?_;intro dy b9 hM H
   have dz:=(aU).len_le;refine kg 10 ?_;refine WD.cond ((!b9)||((((ae.getD s4 default).stages).length:Int) != s3)) rfl (fun bx=>?_) (fun bx=>?_)
   ·replace hM:=M.e_t hM bx;refine WD.seq<|WD.of ?_;refine kg 3 ?_;replace H:=H.pk [0,3,4];refine WD.of ?_;refine W.ret ?_
    obtain rfl:=M.e_inr hM bt;replace hM:=br;refine bodyD_r (H.pk [0,1,2]) ?_;intro dA H;replace H:=H.nf;have ab:=M.e_pure hM;exact ⟨_,resE_tmp rfl,⟨2,ab,rfl,(H.pk [])⟩⟩
   replace hM:=M.e_f hM bx;refine WD.seq<|WD.of ?_;refine kg 3 ?_;obtain ⟨dB,cb,hM⟩:=M.e_bind hM;refine s_call cq [aw,.func (.func 128) #[] #[]] rfl (zfI ((ae.getD s4 default).stages) (fun aq=>zaI aq) (aK.app _) aU ⟨128,[],rfl,cq,fun av bH bI aM aq bJ aN bK aO aP=>by obtain rfl:=Arg.int aO; exact (zd2 aq aP av (St.refl aN)).mono fun aM av ⟨bL,aQ,aR,aS⟩=>by subst aQ; exact ⟨aR,aS⟩⟩ cb _ (H.gt 5)) ?_
   rintro _ dC ⟨cc,rfl,rfl,aE⟩;replace H:=H.bk aE;refine kg 3 ?_;refine WD.cond (!cc) rfl (fun bz=>?_) (fun bz=>?_)
   ·replace hM:=M.e_t hM bz;refine WD.seq<|WD.of ?_;refine kg 3 ?_;replace H:=H.pk [0,3,4];refine WD.of ?_;refine W.ret ?_
    obtain rfl:=M.e_inr hM bt;replace hM:=br;refine bodyD_r (H.pk [0,1,2]) ?_;intro dD H;replace H:=H.nf;have ab:=M.e_pure hM;exact ⟨_,resE_tmp rfl,⟨130,ab,rfl,(H.pk [])⟩⟩
   replace hM:=M.e_f hM bz;refine WD.of<|W.skip<|WD.of ?_
   exact kXp 4 [3,4,0]
  obtain ⟨_,_,h_⟩:=bN; exact h_.elim
 replace hM:=M.e_f hM aC;replace aC:=dI aC;refine WD.of ?_;refine W.exit ?_;obtain rfl:=M.e_inr hM bt;replace hM:=br;replace H:=H.pk [2];refine WD.seq<|WD.of ?_;refine kg 3 ?_;refine WD.of ?_;refine W.ret ?_;refine bodyD_r (H.pk [0]) ?_;intro dE H;replace H:=H.nf
 have ab:=M.e_pure hM;exact ⟨_,resE_tmp rfl,⟨0,ab,rfl,H⟩⟩

def zas (ac:List Int) (ae:List Span) (ah:List Int) (ai:List Town) (aa ab:Int) (aj:List Flood):M (Int ⊕ (Int × Int × Int)) :=
  M.bind (zbu ac ae ah ai aa ab aj) fun r2 =>
  bif r2 != 0 then (
  M.pure (.inl r2))
  else (
  M.pure (.inr (aa,ab,0)))
theorem zbk {R av ak aw al ax am ay ao az aq}(aa ab ac ae ah ai aj)(aH:Reads R av)(aI:Sl av ak aa)(aJ:Reads R aw)(aK:Sl aw al ab)(aL:Reads R ax)(aM:Sl ax am ac)(aN:Reads R ay)(aO:Sl ay ao ae)(aP:Reads R az)(aQ:Sl az aq aj){r}(hM:(zas aa ab ac ae ah ai aj).Ends r)(w)(H:St w w [] R):Ret Tryz.prog 34 #[.agg #[ak,al,am,ao,I ah,I ai,aq]] w fun v w'=>(∃ (y0:Int),(.inl y0)=r/\v = .tuple #[.pointer none,I y0]/\St w w' [] R)∨(∃ (y0:Int) (y1:Int) (y2:Int) (aA:Nat) (aB:Nat) (aC:Base),(.inr (y0,y1,y2))=r/\v = .tuple #[Pq aA,I y2]/\St w w' [cBlk aA [ak,al,am,ao,I y0,I y1,aq,.map (some aB)] 118,cMem encDm aB aC (zaa aa ab ac ae y0 y1 aj)] R):=by
 refine ret_of_W Tryz.func34 rfl rfl rfl ?_;refine kB 2 ?_;intro aR aS H;refine kC 7 @zfC ?_;intro aT r2 hM H;refine kI 7 ?_ ?_
 ·intro aD hM;refine kg 6 ?_;refine W.ret ?_;have au:=M.e_pure hM;exact ⟨_,resE_tmp2 rfl,.inl (⟨r2,au,rfl,(H.pk [])⟩)⟩
 intro aD hM;refine kg 4 ?_;refine t_mkmem encDm (zaa aa ab ac ae ah ai aj) H ?_;intro aE aF aU H;refine kB 1 ?_;intro aG aV H;refine kg 3 ?_;refine W.ret ?_;have au:=M.e_pure hM;exact ⟨_,resE_tmp2 rfl,.inr (⟨ah,ai,0,aG,aE,aF,au,rfl,(H.pk [0,1])⟩)⟩

end Go.Proofs.YtbgoclcmgbpckaaGreat
end
section
set_option maxRecDepth 100000
set_option maxHeartbeats 16000000
namespace Go.Proofs.YtbgoclcmgbpckaaGreat
open Go Go.Nm
attribute [local irreducible] gd execOp SL SLD SLT WR
def zct (ac:List Int) (ae:List Span) (aa:List Int) (ab:List Town) (ah ai:Int) (aj:List Flood) (s2:Nat):(Nat × (List Dem))->M ((Nat × (List Dem)) ⊕ ((List Dem) × (List Dem))):=fun (s,l4) =>
  bif decide ((s:Int)<(ab.length:Int)) then (
  M.grd (decide ((s:Int)<(ab.length:Int))) <|
  M.bind (zaY ac ae aa ab ah ai aj (aa.getD s2 0) ((ab.getD s default).station)) fun (ak,al,r1) =>
  bif r1 then (
  M.grd (decide ((l4.length+([(⟨(aa.getD s2 0:Int),(s:Int)⟩:Dem)]).length)*16<=140737488355328)) <|
  M.pure (.inl (s+1,l4++([(⟨(aa.getD s2 0:Int),(s:Int)⟩:Dem)]))))
  else (
  M.pure (.inl (s+1,l4))))
  else (
  M.pure (.inr (l4,l4)))
def zbU (ab:List Int) (ac:List Span) (aa:List Int) (ae:List Town) (ah ai:Int) (aj:List Flood):(Nat × (List Dem))->M ((Nat × (List Dem)) ⊕ ((List Dem) × (List Dem))):=fun (s2,l6) =>
  bif decide ((s2:Int)<(aa.length:Int)) then (
  M.grd (decide ((s2:Int)<(aa.length:Int))) <|
  M.bind (M.iter (zct ab ac aa ae ah ai aj s2) (0,l6)) fun (l2,l5) =>
  M.pure (.inl (s2+1,l5)))
  else (
  M.pure (.inr (l6,l6)))
def zam (aa:List Int) (ab:List Span) (ac:List Int) (ae:List Town) (ah ai:Int) (aj:List Flood):M (List Dem) :=
  M.bind (M.iter (zbU aa ab ac ae ah ai aj) (0,[])) fun (l7,l8) =>
  M.pure l8
theorem zc0 {R ac au av aw ax ay ae az am aA aB aE}(ah ai aa ab aj ak al)(aT:Reads R au)(aU:Sl au av ah)(aV:Reads R aw)(aW:Sl aw ax ai)(aX:Reads R ay)(aF:Sl ay ae aa)(aY:Reads R az)(aG:Sl az am ab)(aZ:Reads R aA)(a7:Sl aA aB al)(a8:Has R (cBlk ac [av,ax,ae,am,I aj,I ak,aB,.map (some aE)] 118)){r}(hM:(zam ah ai aa ab aj ak al).Ends r)(w)(H:St w w [] R):Ret Tryz.prog 71 #[Pq ac] w fun v w'=>∃ y0 u0,y0=r/\v=u0/\St w w' [cOwn (α:=Dem) 98 u0 y0] R:=by
 refine ret_of_W Tryz.func71 rfl rfl rfl ?_;have ba:=(aF).len_le;refine kg 20 ?_;replace H:=H.nilOwn (α:=Dem) 98;obtain ⟨aH,aC,aI⟩:=M.e_bind hM;obtain ⟨aJ,aC⟩:=M.e_iter aC;refine W.loop (fun m σ W=>∃ (s2:Nat) (l6:List Dem) (ao:Value) (ρ:Env),σ=upds ρ [(0,Pq ac),(3,ao),(14,ae),(15,I (aa.length:Int)),(16,I (s2:Int))]/\M.iterN (zbU ah ai aa ab aj ak al) m (s2,l6)=some aH/\St w W [cOwn (α:=Dem) 98 ao l6] R) ?_ ?_
 ·exact kY
 rintro bb σ bc ⟨s2,l6,ao,ρ,rfl,aK,H⟩;obtain ⟨bf,bg,bh,hM,aL⟩:=M.e_iterN aK;refine kI 5 ?_ ?_
 ·intro aM hM;obtain ⟨bi,hM⟩:=M.e_gq hM;have bj:=(aG).len_le;refine kg 20 ?_;obtain ⟨aN,aD,aO⟩:=M.e_bind hM;obtain ⟨aJ,aD⟩:=M.e_iter aD;refine W.loop (fun m σ W=>∃ (s:Nat) (l4:List Dem) (aq:Value) (ρ:Env),σ=upds ρ [(0,Pq ac),(3,aq),(5,I (aa.getD s2 0)),(14,ae),(15,I (aa.length:Int)),(16,I (s2:Int)),(24,am),(25,I (ab.length:Int)),(26,I (s:Int))]/\M.iterN (zct ah ai aa ab aj ak al s2) m (s,l4)=some aN/\St w W [cOwn (α:=Dem) 98 aq l4] R) ?_ ?_
  ·exact kY
  rintro bm σ bn ⟨s,l4,aq,ρ,rfl,aP,H⟩;obtain ⟨bo,bp,br,hM,aQ⟩:=M.e_iterN aP;refine kI 5 ?_ ?_
  ·intro aR hM;obtain ⟨bt,hM⟩:=M.e_gq hM;refine kA 8 ?_;intro bu bv H;refine kS 1 ?_;intro bw H;refine kC 7 @zd8 ?_;intro bx bz bA r1 hM H;refine kA 3 ?_;intro bB bC H;refine ksw ?_;intro bD H;refine kg 2 ?_;replace H:=H.pk [2];refine kI 4 ?_ ?_
   ·intro aS hM;refine kL 5 (α:=Dem) [⟨aa.getD s2 0,s⟩] ?_;intro bE bF H;obtain ⟨bG,hM⟩:=M.e_gq hM;refine kP 0 ?_;intro bH bI H;exact kXp 6 [1]
   intro aS hM;exact kX 5
  intro aR hM;refine W.exit ?_;obtain rfl:=M.e_inr hM aQ;replace hM:=aO;exact kX 4
 intro aM hM;refine W.exit ?_;obtain rfl:=M.e_inr hM aL;replace hM:=aI;refine kg 5 ?_;exact rt

def zby (s:List Dem) (f:Dem->M Bool):Nat->M (Nat ⊕ (Int ⊕ Unit)):=fun s2 =>
  bif decide ((s2:Int)<(s.length:Int)) then (
  M.grd (decide ((s2:Int)<(s.length:Int))) <|
  M.bind (f (s.getD s2 default)) fun r2 =>
  bif r2 then (
  M.pure (.inr (.inl (s2:Int))))
  else (
  M.pure (.inl (s2+1))))
  else (
  M.pure (.inr (.inr ())))
def zde (s:List Dem) (f:Dem->M Bool):M Int :=
  M.bind (M.iter (zby s f) 0) fun x_=>match x_ with
  | (.inl s3)=>(
  M.pure s3)
  | (.inr (_:Unit))=>(
  M.pure (-1))
theorem ze4 {R ac aa ab}(s f)(av:Reads R ac)(aj:Sl ac aa s)(ak:FnM Tryz.prog R ab f){r}(hM:(zde s f).Ends r)(w)(H:St w w [] R):Ret Tryz.prog 163 #[aa,ab] w fun v w'=>∃ y0,y0=r/\v=I y0/\St w w' [] R:=by
 refine ret_of_W Tryz.func163 rfl rfl rfl ?_;have aw:=(aj).len_le;refine kg 12 ?_;obtain ⟨al,ae,ah⟩:=M.e_bind hM;obtain ⟨ax,ae⟩:=M.e_iter ae;refine W.loop (fun m σ W=>∃ (s2:Nat) (ρ:Env),σ=upds ρ [(0,aa),(1,ab),(7,I (s.length:Int)),(8,I (s2:Int))]/\M.iterN (zby s f) m s2=some al/\St w W [] R) ?_ ?_
 ·exact kY
 rintro ay σ az ⟨s2,ρ,rfl,am,H⟩;obtain ⟨aA,aB,aC,hM,ai⟩:=M.e_iterN am;refine kI 5 ?_ ?_
 ·intro ao hM;obtain ⟨aD,hM⟩:=M.e_gq hM;refine kg 15 ?_;obtain ⟨r2,aq,hM⟩:=M.e_bind hM;refine t_callM H ak rfl rfl (s.getD s2 default) Reads.none ⟨_,rfl,rfl⟩ aq ?_;intro aE H;refine kI 1 ?_ ?_
  ·intro au hM;refine kg 5 ?_;obtain rfl:=M.e_inr hM ai;replace hM:=ah;exact rt
  intro au hM;exact kX 5
 intro ao hM;refine W.exit ?_;obtain rfl:=M.e_inr hM ai;replace hM:=ah;refine kg 4 ?_;exact rt

def zcG (s:List Dem) (f:Dem->M Bool):M Bool :=
  M.bind (zde s f) fun r2 =>
  M.pure (decide (0<=r2))
theorem zfE {R aa ab ac}(s f)(ae:Reads R aa)(ah:Sl aa ab s)(ai:FnM Tryz.prog R ac f){r}(hM:(zcG s f).Ends r)(w)(H:St w w [] R):Ret Tryz.prog 120 #[ab,ac] w fun v w'=>∃ y0,y0=r/\v=B y0/\St w w' [] R:=by
 refine ret_of_W Tryz.func120 rfl rfl rfl ?_;refine kC 8 @ze4 ?_;intro aj r2 hM H;refine kg 3 ?_;exact rt

def zdh (d:Dem) (aa:List Int) (ab:List Span) (ac:List Int) (ae:List Town) (ah ai:Int) (aj:List Flood):M Bool :=
  M.bind (zaa aa ab ac ae ah ai aj d) fun r2 =>
  M.pure (decide (0<(r2.length:Int)))
theorem zfl {R am ak ao aq au av aw ax ay az aA aB al B_b_k0207}(d aa ab ac ae ah ai aj)(aC:Reads R ao)(aD:Sl ao aq aa)(aE:Reads R au)(aF:Sl au av ab)(aG:Reads R aw)(aH:Sl aw ax ac)(aI:Reads R ay)(aJ:Sl ay az ae)(aK:Reads R aA)(aL:Sl aA aB aj)(aM:Has R (cBlk ak [aq,av,ax,az,I ah,I ai,aB,.map (some al)] 118))(aR:Has R (cBlk am [.func (.func 74) #[Pq ak] #[]] 179)){r}(hM:(zdh d aa ab ac ae ah ai aj).Ends r)(w)(H:St w w [cMem encDm al B_b_k0207 (zaa aa ab ac ae ah ai aj)] R):Ret Tryz.prog 77 #[.agg #[I d.spring,I d.town],Pq am] w fun v w'=>∃ y0 aN,y0=r/\v=B y0/\St w w' [cMem encDm al aN (zaa aa ab ac ae ah ai aj)] R:=by
 refine ret_of_W Tryz.func77 rfl rfl rfl ?_;refine kB 2 ?_;intro aS aT H;refine kg 6 ?_;obtain ⟨aU,aO,hM⟩:=M.e_bind hM;refine s_callm (f:=74) (fs:=[Pq ak]) rfl cq [.agg #[I d.spring,I d.town]] rfl (zb7 aa ab ac ae ah ai aj d (aC.app _) aD (aE.app _) aF (aG.app _) aH (aI.app _) aJ (aK.app _) aL (aM.app _) aO _ ((H.pk [1,0]).gt 1)) ?_;rintro vq aV ⟨r2,aW,aX,rfl,hvq,aP,aQ⟩;subst vq;replace H:=H.pk [1,0] |>.bk aP
 have aY:=(aQ).len_le;exact kR 4 [0]

def zcY (x:Dem) (aa:List Int) (ab:List Span) (ac:List Int) (ae:List Town) (ah ai:Int) (aj:List Flood):M Bool :=
  M.bind (zdh x aa ab ac ae ah ai aj) fun r2 =>
  M.pure (!r2)
theorem zeS {R al am ao aq au av aw ax ay az aA aB aC ak B_b_k020207}(x aa ab ac ae ah ai aj)(aD:Reads R aq)(aE:Sl aq au aa)(aF:Reads R av)(aG:Sl av aw ab)(aH:Reads R ax)(aI:Sl ax ay ac)(aJ:Reads R az)(aK:Sl az aA ae)(aL:Reads R aB)(aM:Sl aB aC aj)(aN:Has R (cBlk ao [au,aw,ay,aA,I ah,I ai,aC,.map (some ak)] 118))(aO:Has R (cBlk am [.func (.func 74) #[Pq ao] #[]] 179))(aS:Has R (cBlk al [.func (.func 77) #[] #[Pq am]] 177)){r}(hM:(zcY x aa ab ac ae ah ai aj).Ends r)(w)(H:St w w [cMem encDm ak B_b_k020207 (zaa aa ab ac ae ah ai aj)] R):Ret Tryz.prog 129 #[.agg #[I x.spring,I x.town],Pq al] w fun v w'=>∃ y0 aP,y0=r/\v=B y0/\St w w' [cMem encDm ak aP (zaa aa ab ac ae ah ai aj)] R:=by
 refine ret_of_W Tryz.func129 rfl rfl rfl ?_;refine kB 2 ?_;intro aT aU H;refine kg 6 ?_;obtain ⟨aV,aQ,hM⟩:=M.e_bind hM;refine s_callv (f:=77) rfl cq [.agg #[I x.spring,I x.town]] rfl (zfl x aa ab ac ae ah ai aj (aD.app _) aE (aF.app _) aG (aH.app _) aI (aJ.app _) aK (aL.app _) aM (aN.app _) (aO.app _) aQ _ ((H.pk [1,0]).gt 1)) ?_;rintro _ aW ⟨r2,aX,rfl,rfl,aR⟩;replace H:=H.pk [1,0] |>.bk aR
 exact kR 3 [0]

def zbT (s:List Dem) (aa:List Int) (ab:List Span) (ac:List Int) (ae:List Town) (ah ai:Int) (aj:List Flood):Nat->M (Nat ⊕ (Int ⊕ Unit)):=fun s2 =>
  bif decide ((s2:Int)<(s.length:Int)) then (
  M.grd (decide ((s2:Int)<(s.length:Int))) <|
  M.bind (zcY (s.getD s2 default) aa ab ac ae ah ai aj) fun r2 =>
  bif r2 then (
  M.pure (.inr (.inl (s2:Int))))
  else (
  M.pure (.inl (s2+1))))
  else (
  M.pure (.inr (.inr ())))
def zdo (s:List Dem) (aa:List Int) (ab:List Span) (ac:List Int) (ae:List Town) (ah ai:Int) (aj:List Flood):M Int :=
  M.bind (M.iter (zbT s aa ab ac ae ah ai aj) 0) fun x_=>match x_ with
  | (.inl s3)=>(
  M.pure s3)
  | (.inr (_:Unit))=>(
  M.pure (-1))
theorem zfb {R ao al am aq au av aw ax ay az aA aB aC aD aE ak B_b_f2020207}(s aa ab ac ae ah ai aj)(bb:Reads R ao)(aI:Sl ao al s)(aJ:Reads R av)(aK:Sl av aw aa)(aL:Reads R ax)(aM:Sl ax ay ab)(aN:Reads R az)(aO:Sl az aA ac)(aP:Reads R aB)(aQ:Sl aB aC ae)(aR:Reads R aD)(aS:Sl aD aE aj)(aT:Has R (cBlk au [aw,ay,aA,aC,I ah,I ai,aE,.map (some ak)] 118))(aU:Has R (cBlk aq [.func (.func 74) #[Pq au] #[]] 179))(aV:Has R (cBlk am [.func (.func 77) #[] #[Pq aq]] 177)){r}(hM:(zdo s aa ab ac ae ah ai aj).Ends r)(w)(H:St w w [cMem encDm ak B_b_f2020207 (zaa aa ab ac ae ah ai aj)] R):Ret Tryz.prog 163 #[al,.func (.func 129) #[] #[Pq am]] w fun v w'=>∃ y0 aW,y0=r/\v=I y0/\St w w' [cMem encDm ak aW (zaa aa ab ac ae ah ai aj)] R:=by
 refine ret_of_W Tryz.func163 rfl rfl rfl ?_;have bc:=(aI).len_le;refine kg 12 ?_;obtain ⟨aX,aF,aG⟩:=M.e_bind hM;obtain ⟨bf,aF⟩:=M.e_iter aF;refine W.loop (fun m σ W=>∃ (s2:Nat) (B_mem:Base) (ρ:Env),σ=upds ρ [(0,al),(1,.func (.func 129) #[] #[Pq am]),(7,I (s.length:Int)),(8,I (s2:Int))]/\M.iterN (zbT s aa ab ac ae ah ai aj) m s2=some aX/\St w W [cMem encDm ak B_mem (zaa aa ab ac ae ah ai aj)] R) ?_ ?_
 ·exact kY
 rintro bg σ bh ⟨s2,B_mem,ρ,rfl,aY,H⟩;obtain ⟨bi,bj,bm,hM,aH⟩:=M.e_iterN aY;refine kI 5 ?_ ?_
 ·intro aZ hM;obtain ⟨bn,hM⟩:=M.e_gq hM;refine kg 15 ?_;obtain ⟨bo,a7,hM⟩:=M.e_bind hM;refine s_callv (f:=129) rfl cq [.agg #[I ((s.getD s2 default).spring),I ((s.getD s2 default).town)]] rfl (zeS (s.getD s2 default) aa ab ac ae ah ai aj (aJ.app _) aK (aL.app _) aM (aN.app _) aO (aP.app _) aQ (aR.app _) aS (aT.app _) (aU.app _) (aV.app _) a7 _ (H.gt 0)) ?_;rintro _ bp ⟨r2,br,rfl,rfl,a8⟩;replace H:=H.bk a8;refine kI 1 ?_ ?_
  ·intro ba hM;refine kg 5 ?_;obtain rfl:=M.e_inr hM aH;replace hM:=aG;exact rt
  intro ba hM;exact kX 5
 intro aZ hM;refine W.exit ?_;obtain rfl:=M.e_inr hM aH;replace hM:=aG;refine kg 4 ?_;exact rt

def zcT (s:List Dem) (aa:List Int) (ab:List Span) (ac:List Int) (ae:List Town) (ah ai:Int) (aj:List Flood):M Bool :=
  M.bind (zdo s aa ab ac ae ah ai aj) fun r2 =>
  M.pure (decide (0<=r2))
theorem zfc {R al am ao aq au av aw ax ay az aA aB aC aD aE ak B_b_f2020207}(s aa ab ac ae ah ai aj)(aG:Reads R al)(aH:Sl al am s)(aI:Reads R av)(aJ:Sl av aw aa)(aK:Reads R ax)(aL:Sl ax ay ab)(aM:Reads R az)(aN:Sl az aA ac)(aO:Reads R aB)(aP:Sl aB aC ae)(aQ:Reads R aD)(aR:Sl aD aE aj)(aS:Has R (cBlk au [aw,ay,aA,aC,I ah,I ai,aE,.map (some ak)] 118))(aT:Has R (cBlk aq [.func (.func 74) #[Pq au] #[]] 179))(aU:Has R (cBlk ao [.func (.func 77) #[] #[Pq aq]] 177)){r}(hM:(zcT s aa ab ac ae ah ai aj).Ends r)(w)(H:St w w [cMem encDm ak B_b_f2020207 (zaa aa ab ac ae ah ai aj)] R):Ret Tryz.prog 120 #[am,.func (.func 129) #[] #[Pq ao]] w fun v w'=>∃ y0 aF,y0=r/\v=B y0/\St w w' [cMem encDm ak aF (zaa aa ab ac ae ah ai aj)] R:=by
 refine ret_of_W Tryz.func120 rfl rfl rfl ?_;refine kC 8 @zfb ?_;intro aV r2 aW hM H;refine kg 3 ?_;exact rt

def zbK (l:List Dem) (aa:List Int) (ab:List Span) (ac:List Int) (ae:List Town) (ah ai:Int) (aj:List Flood):M Bool :=
  M.bind (zcT l aa ab ac ae ah ai aj) fun r2 =>
  M.pure (!r2)
theorem zfh {R am ak ao aq au av aw ax ay az aA aB aC aD al B_b_so20207}(l aa ab ac ae ah ai aj)(aF:Reads R am)(aG:Sl am ak l)(aH:Reads R au)(aI:Sl au av aa)(aJ:Reads R aw)(aK:Sl aw ax ab)(aL:Reads R ay)(aM:Sl ay az ac)(aN:Reads R aA)(aO:Sl aA aB ae)(aP:Reads R aC)(aQ:Sl aC aD aj)(aR:Has R (cBlk aq [av,ax,az,aB,I ah,I ai,aD,.map (some al)] 118))(aS:Has R (cBlk ao [.func (.func 74) #[Pq aq] #[]] 179)){r}(hM:(zbK l aa ab ac ae ah ai aj).Ends r)(w)(H:St w w [cMem encDm al B_b_so20207 (zaa aa ab ac ae ah ai aj)] R):Ret Tryz.prog 76 #[ak,.func (.func 77) #[] #[Pq ao]] w fun v w'=>∃ y0 aT,y0=r/\v=B y0/\St w w' [cMem encDm al aT (zaa aa ab ac ae ah ai aj)] R:=by
 refine ret_of_W Tryz.func76 rfl rfl rfl ?_;refine kB 2 ?_;intro aE aW H;refine kg 5 ?_;refine s_val (x_mf (fs:=[]) (cs:=[Pq aE]) rfl rfl) ?_;obtain ⟨aX,aU,hM⟩:=M.e_bind hM;refine s_call cq [ak,.func (.func 129) #[] #[Pq aE]] rfl (zfc l aa ab ac ae ah ai aj (aF.app _) aG (aH.app _) aI (aJ.app _) aK (aL.app _) aM (aN.app _) aO (aP.app _) aQ (aR.app _) (aS.app _) (Has.here (k:=0) rfl) aU _ ((H.pk [1,0]).gt 1)) ?_;rintro _ aY ⟨r2,aZ,rfl,rfl,aV⟩;replace H:=H.pk [1,0] |>.bk aV
 exact kR 3 [0]

def zaA  : Int->(Int × Int)->M (Int ⊕ Unit):=fun s (x,x2) =>
  M.gi (s+1) <|
  M.pure (.inl (s+1))
def zaG (d:Dem) (ai:List Int) (aj:List Span) (ak:List Int) (al:List Town) (am ao:Int) (aq:List Flood) (aa:List Int) (ab:List Span) (ac:List Int) (ae:List Town) (au av:Int) (ah:List Flood):M Int :=
  M.bind (zaa ai aj ak al am ao aq d) fun r2 =>
  M.grd (decide ((0:Int)<=((r2.length:Int)-1))&&decide (((r2.length:Int)-1)<(r2.length:Int))) <|
  M.bind (zai aa ab ac ae au av ah (r2.getD (Int.toNat ((r2.length:Int)-1)) 0)) fun (aw,ax,ay) =>
  M.bind (zal (M.yl zaA) (.inl 0) aw aa ab ac ae ax ay ah) fun x_=>match x_ with
  | (.inl s,q0)=>(
  M.pure s)
  | (.inr _,_)=>M.fail
theorem zd7 {R bc aJ bf bg bh bi bj bm bn bo bp br al B_b_k0207 bt bu bv am bw ao bx aq bz au bA av bP}(d ab ac ae ah ai aj ak aK aL aM aN aD aE aO)(aP:Reads R bf)(bB:Sl bf bg ab)(aQ:Reads R bh)(bC:Sl bh bi ac)(aR:Reads R bj)(bD:Sl bj bm ae)(aS:Reads R bn)(bE:Sl bn bo ah)(aT:Reads R bp)(bF:Sl bp br ak)(aU:Has R (cBlk aJ [bg,bi,bm,bo,I ai,I aj,br,.map (some al)] 118))(bG:Has R (cBlk bc [.func (.func 74) #[Pq aJ] #[]] 179))(aV:Reads R bv)(bH:Sl bv am aK)(aW:Reads R bw)(bI:Sl bw ao aL)(aX:Reads R bx)(bJ:Sl bx aq aM)(aY:Reads R bz)(bK:Sl bz au aN)(aZ:Reads R bA)(bL:Sl bA av aO)(a7:Has R (cBlk bu [am,ao,aq,au,I aD,I aE,av,.map (some bP)] 118))(bM:Has R (cBlk bt [Pq bu] 100)){r}(hM:(zaG d ab ac ae ah ai aj ak aK aL aM aN aD aE aO).Ends r)(w)(H:St w w [cMem encDm al B_b_k0207 (zaa ab ac ae ah ai aj ak)] R):Ret Tryz.prog 78 #[.agg #[I d.spring,I d.town],Pq bc,Pq bt] w fun v w'=>∃ y0 bQ,y0=r/\v=I y0/\St w w' [cMem encDm al bQ (zaa ab ac ae ah ai aj ak)] R:=by
 refine ret_of_WD Tryz.func78 rfl rfl rfl ?_;replace H:St w w [cMk ([]),cMem encDm al B_b_k0207 (zaa ab ac ae ah ai aj ak)] R:=H.mk0;have bZ:=bB.len_le;have b4:=bC.len_le;have b5:=bD.len_le;have b6:=bE.len_le;have b7:=bF.len_le;have b8:=bH.len_le;have b9:=bI.len_le;have cb:=bJ.len_le;have cc:=bK.len_le;have cd:=bL.len_le;unfold zaG at hM;refine WD.seq<|WD.of ?_;refine kB 1 ?_;intro aB ce H;refine kg 2 ?_;refine WD.seq<|WD.of ?_;refine kg 3 ?_;obtain ⟨cf,bR,hM⟩:=M.e_bind hM;refine s_callm (f:=74) (fs:=[Pq aJ]) rfl cq [.agg #[I d.spring,I d.town]] rfl (zb7 ab ac ae ah ai aj ak d (aP.app _) bB (aQ.app _) bC (aR.app _) bD (aS.app _) bE (aT.app _) bF (aU.app _) bR _ ((H.pk [2,0,1]).gt 2)) ?_
 rintro vq cg ⟨r2,ch,ax,rfl,hvq,aF,bN⟩;subst vq;replace H:=H.pk [2,0,1] |>.bk aF
 refine kg 2 ?_;refine WD.seq<|WD.of ?_;refine kA 1 ?_;intro aw ck H;refine ksw ?_;intro cn H;refine s_nil<|WD.seq<|WD.seq<|WD.of ?_;refine kD 0 [0,1,2,3] [10] ?_;intro cp H;refine kg 3 ?_;refine d_q rfl (fun w' H=>x_ld (v:=.agg #[am,ao,aq,au,I aD,I aE,av]) rfl (ldb_ag (ds:=[am,ao,aq,au,I aD,I aE,av]) Ag40.h Sz40.h (a7.blk H) rfl rfl)) ?_
 have ct:=(bN).len_le;obtain ⟨cu,hM⟩:=M.e_gq hM;refine kg 5 ?_;refine d_q rfl (fun w' H=>x_ld (v:=I (r2.getD (Int.toNat ((r2.length:Int)-1)) 0)) rfl (ld_sc Sc3.h (At.mono (Int_at bN (i:=(r2.length:Int)-1) (by omega) (by omega)) (memLe _ (H.get (k:=1) rfl))))) ?_;refine kC 1 @zaZ ?_;intro cw aG ay az aC aA hM H;refine kN ?_;refine d_nil<|WD.block ?_;obtain ⟨cA,bS,hM⟩:=M.e_bind hM;refine WD.range (L:=[cBlk aw [I 0] 3,cBlk aA [am,ao,aq,au,I ay,I az,av] 40,cMem encDm al ax (zaa ab ac ae ah ai aj ak),cBlk aB [I d.spring,I d.town] 98,cBlk aC [I aG] 3]) [Pq aC,Pq aA] (H.pk [5,2,1,3,4,0]) rfl cq ?_;intro aH a8 ba bT bb H
 have hYC:YieldC Tryz.prog ([cMk (a8 :: ([])),cBlk aA [am,ao,aq,au,I ay,I az,av] 40,cMem encDm al ax (zaa ab ac ae ah ai aj ak),cBlk aB [I d.spring,I d.town] 98]++R) arII (yJ aH ba (fun s aI=>aI=[cBlk aw [I s] 3]) (fun (_:Unit) _=>False) (fun _=>.ret)) (.func (.yield aH) #[] #[]) (M.yl zaA):=by
  refine YieldC.mk bb (fun s aI=>aI=[cBlk aw [I s] 3]) (fun (_:Unit) _=>False) (fun _=>.ret) zaA (by rintro s _ h_; obtain ⟨rfl⟩:=h_; rfl) (fun _ _ h_=>h_.elim) rfl (arII_len rfl) ?_;intro C_ cB x_ W_ bU;obtain ⟨x,x2⟩:=x_;obtain rfl:=bU;refine W.skip ?_;refine ⟨rfl,rfl,?_⟩;intro w R aa aI s_ r bV hM H
  skip
  obtain ⟨s,bW⟩:∃ y_,y_=s_:=⟨_,rfl⟩
  subst bW;obtain ⟨rfl⟩:=bV;replace aP:=aP.sub aa;replace aQ:=aQ.sub aa;replace aR:=aR.sub aa;replace aS:=aS.sub aa;replace aT:=aT.sub aa;replace aU:=aU.sub aa;replace bG:=bG.sub aa;replace aV:=aV.sub aa;replace aW:=aW.sub aa;replace aX:=aX.sub aa;replace aY:=aY.sub aa;replace aZ:=aZ.sub aa;replace a7:=a7.sub aa;replace bM:=bM.sub aa;replace hM:(zaA s (x,x2)).Ends r:=hM;simp only [zaA] at hM;replace H:=H.pk [0,2,3,4,1];obtain ⟨cC,hM⟩:=M.e_gq hM;refine kS 4 ?_;intro cD H;refine s_nil ?_;exact ⟨s+1,[cBlk aw [I (s+1)] 3],(M.e_pure hM).symm,rfl,H.pick [0,4,1,2,3] (by decide) rfl⟩
 replace H:St w bT (cAll (cObj aH (.loop ba) :: [cBlk aw [I 0] 3]) :: [cBlk aC [I aG] 3,cMk (a8 :: ([])),cBlk aA [am,ao,aq,au,I ay,I az,av] 40,cMem encDm al ax (zaa ab ac ae ah ai aj ak),cBlk aB [I d.spring,I d.town] 98]) R:=St.bundleB (A:=cObj aH (.loop ba) :: [cBlk aw [I 0] 3]) (T:=[cBlk aC [I aG] 3,cMk (a8 :: ([])),cBlk aA [am,ao,aq,au,I ay,I az,av] 40,cMem encDm al ax (zaa ab ac ae ah ai aj ak),cBlk aB [I d.spring,I d.town] 98]) rfl (H.pk [0,2,6,1,3,4,5]);refine (zaU (M.yl zaA) (.inl 0) aG aK aL aM aN ay az aO hYC ⟨_,rfl,rfl⟩ (aV.app _) bH (aW.app _) bI (aX.app _) bJ (aY.app _) bK (aZ.app _) bL (Has.here (k:=1) rfl) bS _ (H.gt 4)).mono ?_;rintro vq cE ⟨bX,q0,cF,rfl,hvq,aF,bO⟩;replace H:=H.back aF rfl;clear aF hYC;rcases bX with s | _
 ·obtain ⟨_,rfl,rfl⟩:=bO;refine ⟨_,[cBlk aw [I s] 3,cBlk aA [am,ao,aq,au,I ay,I az,av] 40,cMem encDm al ax (zaa ab ac ae ah ai aj ak),cBlk aB [I d.spring,I d.town] 98,cBlk aC [I q0] 3],H.unbundle.pick [0,3,1,4,5,6,2] (by decide) rfl,bb.nb,?_⟩;intro cG H;rw [bb.pd];replace H:=H.nf
  try simp only []
  replace H:=H.pk [0,1,3];refine WD.seq<|WD.of ?_;refine kg 4 ?_;refine WD.of ?_;refine W.ret ?_;refine bodyD_r (H.pk [0,1,2]) ?_;intro cH H;replace H:=H.nf
  have bY:=M.e_pure hM;exact ⟨_,resE_tmp rfl,⟨s,ax,bY,rfl,(H.pk [1])⟩⟩
 obtain ⟨_,_,h_⟩:=bO; exact h_.elim

def m_cmp_isNaN_int (x:Int):M Bool :=
  M.pure (x != x)
theorem cmp_isNaN_int_ok {R}(x){r}(hM:(m_cmp_isNaN_int x).Ends r)(w)(H:St w w [] R):Ret Tryz.prog 131 #[I x] w fun v w'=>∃ y0,y0=r/\v=B y0/\St w w' [] R:=by
 refine ret_of_W Tryz.func131 rfl rfl rfl ?_;refine kg 11 ?_;exact rt

def m_cmp_Compare_int (x y:Int):M Int :=
  M.bind (m_cmp_isNaN_int x) fun r2 =>
  M.bind (m_cmp_isNaN_int y) fun r3 =>
  bif r2 then (
  bif r3 then (
  M.pure 0)
  else (
  M.pure (-1)))
  else (
  bif r3 then (
  M.pure 1)
  else (
  bif decide (x<y) then (
  M.pure (-1))
  else (
  bif decide (y<x) then (
  M.pure 1)
  else (
  M.pure 0))))
theorem cmp_Compare_int_ok {R}(x y){r}(hM:(m_cmp_Compare_int x y).Ends r)(w)(H:St w w [] R):Ret Tryz.prog 81 #[I x,I y] w fun v w'=>∃ y0,y0=r/\v=I y0/\St w w' [] R:=by
 refine ret_of_W Tryz.func81 rfl rfl rfl ?_;refine kC 7 @cmp_isNaN_int_ok ?_;intro ai r2 hM H;refine kC 5 @cmp_isNaN_int_ok ?_;intro aj r3 hM H;refine kI 7 ?_ ?_
 ·intro aa hM;refine kI 5 ?_ ?_
  ·intro ab hM;refine kg 4 ?_;exact rt
  intro ab hM;refine kg 5 ?_;exact rt
 intro aa hM;refine kI 6 ?_ ?_
 ·intro ac hM;refine kg 4 ?_;exact rt
 intro ac hM;refine kI 8 ?_ ?_
 ·intro ae hM;refine kg 4 ?_;exact rt
 intro ae hM;refine kI 8 ?_ ?_
 ·intro ah hM;refine kg 4 ?_;exact rt
 intro ah hM;refine kg 5 ?_;exact rt

def zap (a b:Dem) (aa:List Int) (ab:List Span) (ac:List Int) (ae:List Town) (ah ai:Int) (aj:List Flood) (ak:List Int) (al:List Span) (am:List Int) (ao:List Town) (aq au:Int) (av:List Flood):M Int :=
  M.bind (zaG b aa ab ac ae ah ai aj ak al am ao aq au av) fun r2 =>
  M.bind (zaG a aa ab ac ae ah ai aj ak al am ao aq au av) fun r3 =>
  M.bind (m_cmp_Compare_int r2 r3) fun r4 =>
  M.pure r4
theorem zbL {R ay az aA aB aC aD aE aF aG aH aI aJ aK aw B_b_k020207 aL aM aN aO aP aQ aR aS aT aU aV aW bA}(a b aa ab ac ae ah ai aj ak al am ao aq au av)(aX:Reads R aB)(aY:Sl aB aC aa)(aZ:Reads R aD)(a7:Sl aD aE ab)(a8:Reads R aF)(ba:Sl aF aG ac)(bb:Reads R aH)(bc:Sl aH aI ae)(bf:Reads R aJ)(bg:Sl aJ aK aj)(bh:Has R (cBlk aA [aC,aE,aG,aI,I ah,I ai,aK,.map (some aw)] 118))(bi:Has R (cBlk az [.func (.func 74) #[Pq aA] #[]] 179))(bj:Reads R aN)(bm:Sl aN aO ak)(bn:Reads R aP)(bo:Sl aP aQ al)(bp:Reads R aR)(br:Sl aR aS am)(bt:Reads R aT)(bu:Sl aT aU ao)(bv:Reads R aV)(bw:Sl aV aW av)(bx:Has R (cBlk aM [aO,aQ,aS,aU,I aq,I au,aW,.map (some bA)] 118))(bz:Has R (cBlk aL [Pq aM] 100))(bE:Has R (cBlk ay [.func (.func 78) #[] #[Pq az,Pq aL]] 182)){r}(hM:(zap a b aa ab ac ae ah ai aj ak al am ao aq au av).Ends r)(w)(H:St w w [cMem encDm aw B_b_k020207 (zaa aa ab ac ae ah ai aj)] R):Ret Tryz.prog 80 #[.agg #[I a.spring,I a.town],.agg #[I b.spring,I b.town],Pq ay] w fun v w'=>∃ y0 bB,y0=r/\v=I y0/\St w w' [cMem encDm aw bB (zaa aa ab ac ae ah ai aj)] R:=by
 refine ret_of_W Tryz.func80 rfl rfl rfl ?_;refine kB 2 ?_;intro bF bG H;refine kbx ?_;intro bH bI H;refine kDo 3 [0,1] [(0,true),(1,true),(3,true),(4,true),(2,false),(5,false),(6,false),(7,true)] ?_;intro bJ H;refine kG 5 ?_;obtain ⟨bK,bC,hM⟩:=M.e_bind hM;refine s_callv (f:=78) rfl cq [.agg #[I b.spring,I b.town]] rfl (zd7 b aa ab ac ae ah ai aj ak al am ao aq au av (aX.app _) aY (aZ.app _) a7 (a8.app _) ba (bb.app _) bc (bf.app _) bg (bh.app _) (bi.app _) (bj.app _) bm (bn.app _) bo (bp.app _) br (bt.app _) bu (bv.app _) bw (bx.app _) (bz.app _) bC _ ((H.pk [2,0,1]).gt 2)) ?_;rintro _ bL ⟨r2,bM,rfl,rfl,ax⟩;replace H:=H.pk [2,0,1] |>.bk ax
 refine kN ?_;refine d_l rfl ?_;obtain ⟨bN,bD,hM⟩:=M.e_bind hM;refine s_callv (f:=78) rfl cq [.agg #[I a.spring,I a.town]] rfl (zd7 a aa ab ac ae ah ai aj ak al am ao aq au av (aX.app _) aY (aZ.app _) a7 (a8.app _) ba (bb.app _) bc (bf.app _) bg (bh.app _) (bi.app _) (bj.app _) bm (bn.app _) bo (bp.app _) br (bt.app _) bu (bv.app _) bw (bx.app _) (bz.app _) bD _ (H.gt 2)) ?_;rintro _ bO ⟨r3,bP,rfl,rfl,ax⟩;replace H:=H.bk ax;refine kN ?_;refine kC 1 @cmp_Compare_int_ok ?_;intro bQ r4 hM H;refine kN ?_;refine kg 2 ?_;replace H:=H.pk [0];exact rt

def zcR (a:Int) (aa:List Int) (ab:List Span) (ac:List Int) (ae:List Town) (ah ai:Int) (aj:List Flood) (ak:List Int) (al:List Span) (am:List Int) (ao:List Town) (aq au:Int) (av:List Flood):((List Dem) × Int)->M (((List Dem) × Int) ⊕ ((List Dem) × (List Dem))):=fun (l,j) =>
  M.grd ((!(decide (a<j))||(decide ((0:Int)<=j)&&decide (j<(l.length:Int))))) <|
  M.grd ((!(decide (a<j))||(decide ((-9223372036854775808:Int)<=(j-1))&&decide ((j-1)<=(9223372036854775807:Int))))) <|
  M.grd ((!(decide (a<j))||(decide ((0:Int)<=(j-1))&&decide ((j-1)<(l.length:Int))))) <|
  bif decide (a<j) then (
  M.bind (zap (l.getD (Int.toNat j) default) (l.getD (Int.toNat (j-1)) default) aa ab ac ae ah ai aj ak al am ao aq au av) fun r2 =>
  bif ((decide (a<j))&&(decide (r2<0))) then (
  M.gi (j-1) <|
  M.grd (decide ((0:Int)<=(j-1))&&decide ((j-1)<(l.length:Int))) <|
  M.grd (decide ((0:Int)<=j)&&decide (j<(l.length:Int))) <|
  M.grd (decide ((0:Int)<=(j-1))&&decide ((j-1)<((l.set (Int.toNat j) (l.getD (Int.toNat (j-1)) default)).length:Int))) <|
  M.pure (.inl ((l.set (Int.toNat j) (l.getD (Int.toNat (j-1)) default)).set (Int.toNat (j-1)) (l.getD (Int.toNat j) default),j-1)))
  else (
  M.pure (.inr (l,l))))
  else (
  bif ((decide (a<j))&&(decide ((0:Int)<0))) then (
  M.gi (j-1) <|
  M.grd (decide ((0:Int)<=(j-1))&&decide ((j-1)<(l.length:Int))) <|
  M.grd (decide ((0:Int)<=j)&&decide (j<(l.length:Int))) <|
  M.grd (decide ((0:Int)<=(j-1))&&decide ((j-1)<((l.set (Int.toNat j) (l.getD (Int.toNat (j-1)) default)).length:Int))) <|
  M.pure (.inl ((l.set (Int.toNat j) (l.getD (Int.toNat (j-1)) default)).set (Int.toNat (j-1)) (l.getD (Int.toNat j) default),j-1)))
  else (
  M.pure (.inr (l,l))))
def za3 (a b:Int) (aa:List Int) (ab:List Span) (ac:List Int) (ae:List Town) (ah ai:Int) (aj:List Flood) (ak:List Int) (al:List Span) (am:List Int) (ao:List Town) (aq au:Int) (av:List Flood):((List Dem) × Int)->M (((List Dem) × Int) ⊕ (List Dem)):=fun (l4,i) =>
  bif decide (i<b) then (
  M.bind (M.iter (zcR a aa ab ac ae ah ai aj ak al am ao aq au av) (l4,i)) fun (l2,l3) =>
  M.gi (i+1) <|
  M.pure (.inl (l3,i+1)))
  else (
  M.pure (.inr l4))
def zbv (data:List Dem) (a b:Int) (aa:List Int) (ab:List Span) (ac:List Int) (ae:List Town) (ah ai:Int) (aj:List Flood) (ak:List Int) (al:List Span) (am:List Int) (ao:List Town) (aq au:Int) (av:List Flood):M (List Dem) :=
  M.gi (a+1) <|
  M.bind (M.iter (za3 a b aa ab ac ae ah ai aj ak al am ao aq au av) (data,a+1)) fun l5 =>
  M.pure l5
theorem zdw {R ak am aD aE aF aG aH aI aJ aK aL aM aN aO ao B_b_cmp2020207 aP aQ aR aS aT aU aV aW aX aY aZ a7 bf}(data a b aa ab ac ae ah ai aj aq au av aw ax ay az)(bg:Reads R aF)(bh:Sl aF aG aa)(bi:Reads R aH)(bj:Sl aH aI ab)(bm:Reads R aJ)(bn:Sl aJ aK ac)(bo:Reads R aL)(bp:Sl aL aM ae)(br:Reads R aN)(bt:Sl aN aO aj)(bu:Has R (cBlk aE [aG,aI,aK,aM,I ah,I ai,aO,.map (some ao)] 118))(bv:Has R (cBlk aD [.func (.func 74) #[Pq aE] #[]] 179))(bw:Reads R aR)(bx:Sl aR aS aq)(bz:Reads R aT)(bA:Sl aT aU au)(bB:Reads R aV)(bC:Sl aV aW av)(bD:Reads R aX)(bE:Sl aX aY aw)(bF:Reads R aZ)(bG:Sl aZ a7 az)(bH:Has R (cBlk aQ [aS,aU,aW,aY,I ax,I ay,a7,.map (some bf)] 118))(bI:Has R (cBlk aP [Pq aQ] 100))(bJ:Has R (cBlk am [.func (.func 78) #[] #[Pq aD,Pq aP]] 182)){r}(hM:(zbv data a b aa ab ac ae ah ai aj aq au av aw ax ay az).Ends r)(w)(H:St w w [cOwn (α:=Dem) 98 ak data,cMem encDm ao B_b_cmp2020207 (zaa aa ab ac ae ah ai aj)] R):Ret Tryz.prog 168 #[ak,I a,I b,.func (.func 80) #[] #[Pq am]] w fun v w'=>∃ y0 bK,y0=r/\v = .tuple #[]/\St w w' [cOwn (α:=Dem) 98 ak y0,cMem encDm ao bK (zaa aa ab ac ae ah ai aj)] R:=by
 refine ret_of_W Tryz.func168 rfl rfl rfl ?_;obtain ⟨bY,hM⟩:=M.e_gq hM;refine kg 7 ?_;obtain ⟨bL,a8,bM⟩:=M.e_bind hM;obtain ⟨bN,a8⟩:=M.e_iter a8;refine W.loop (fun m σ W=>∃ (l4:List Dem) (i:Int) (B_mem2:Base) (ρ:Env),σ=upds ρ [(0,ak),(1,I a),(2,I b),(3,.func (.func 80) #[] #[Pq am]),(8,I i)]/\M.iterN (za3 a b aa ab ac ae ah ai aj aq au av aw ax ay az) m (l4,i)=some bL/\St w W [cOwn (α:=Dem) 98 ak l4,cMem encDm ao B_mem2 (zaa aa ab ac ae ah ai aj)] R) ?_ ?_
 ·exact kY
 rintro bZ σ b4 ⟨l4,i,B_mem2,ρ,rfl,bO,H⟩;obtain ⟨b5,b6,b7,hM,bP⟩:=M.e_iterN bO;refine kI 7 ?_ ?_
 ·intro bQ hM;refine kg 9 ?_;obtain ⟨bR,ba,bb⟩:=M.e_bind hM;obtain ⟨bN,ba⟩:=M.e_iter ba;refine W.loop (fun m σ W=>∃ (l:List Dem) (j:Int) (B_mem:Base) (ρ:Env),σ=upds ρ [(0,ak),(1,I a),(2,I b),(3,.func (.func 80) #[] #[Pq am]),(8,I i),(9,I j)]/\M.iterN (zcR a aa ab ac ae ah ai aj aq au av aw ax ay az) m (l,j)=some bR/\St w W [cOwn (α:=Dem) 98 ak l,cMem encDm ao B_mem (zaa aa ab ac ae ah ai aj)] R) ?_ ?_
  ·exact kY
  rintro b8 σ b9 ⟨l,j,B_mem,ρ,rfl,bS,H⟩;obtain ⟨cb,cc,cd,hM,bc⟩:=M.e_iterN bS;refine kD 2 [0] [14] ?_;intro ce H;obtain ⟨aA,hM⟩:=M.e_grd hM;replace aA:=M.imp_of aA;simp only [Bool.and_eq_true,decide_eq_true_eq] at aA;obtain ⟨aB,hM⟩:=M.e_grd hM;replace aB:=M.imp_of aB;simp only [Bool.and_eq_true,decide_eq_true_eq] at aB;obtain ⟨aC,hM⟩:=M.e_grd hM;replace aC:=M.imp_of aC;simp only [Bool.and_eq_true,decide_eq_true_eq] at aC;refine kG 15 ?_;refine g_splitV (decide (a<j)) (I 0) (gy_t rfl) (fun al=>?_) (fun al=>?_)
  ·replace hM:=M.e_t hM al;obtain ⟨cf,bT,hM⟩:=M.e_bind hM;refine s_callv (f:=80) (by exact (gd_of (c:=decide (a<j)) al (.func (.func 80) #[] #[Pq am]))) cq [.agg #[I ((l.getD (Int.toNat j) default).spring),I ((l.getD (Int.toNat j) default).town)],.agg #[I ((l.getD (Int.toNat (j-1)) default).spring),I ((l.getD (Int.toNat (j-1)) default).town)]] (by exact (lst2 (gd_of (c:=decide (a<j)) al (.agg #[I ((l.getD (Int.toNat j) default).spring),I ((l.getD (Int.toNat j) default).town)])) (gd_of (c:=decide (a<j)) al (.agg #[I ((l.getD (Int.toNat (j-1)) default).spring),I ((l.getD (Int.toNat (j-1)) default).town)])))) (zbL (l.getD (Int.toNat j) default) (l.getD (Int.toNat (j-1)) default) aa ab ac ae ah ai aj aq au av aw ax ay az (bg.app _) bh (bi.app _) bj (bm.app _) bn (bo.app _) bp (br.app _) bt (bu.app _) (bv.app _) (bw.app _) bx (bz.app _) bA (bB.app _) bC (bD.app _) bE (bF.app _) bG (bH.app _) (bI.app _) (bJ.app _) bT _ ((H.pk [1,0]).gt 1)) ?_;rintro _ cg ⟨r2,ch,rfl,rfl,bU⟩;replace H:=H.pk [1,0] |>.bk bU
   refine kN ?_;refine kI 3 ?_ ?_
   ·intro bV hM;refine kDT 3 [0] (.q 0 (.q 1 (.q 2 (.q 3 (.q 4 (.q 5 (.q 6 (.q 7 (.q 10 (.q 11 (.l2 8 (.l2 9 (.l 12 (.l 13 (.l 14 (.l 15 (.l 16 (.l 17 .nil)))))) 12 (.l2 9 (.l 13 (.l 14 (.l 15 (.l 16 (.l 17 .nil))))) 13 (.l 9 (.l 14 (.l 15 (.l 16 (.l 17 .nil))))))) 12 (.l2 8 (.l2 9 (.l 13 (.l 14 (.l 15 (.l 16 (.l 17 .nil))))) 13 (.l 9 (.l 14 (.l 15 (.l 16 (.l 17 .nil)))))) 13 (.l 8 (.l 9 (.l 14 (.l 15 (.l 16 (.l 17 .nil)))))))))))))))))) ?_;intro ck H;obtain ⟨cn,hM⟩:=M.e_gq hM;obtain ⟨cp,hM⟩:=M.e_gq hM;obtain ⟨ct,hM⟩:=M.e_gq hM;obtain ⟨cu,hM⟩:=M.e_gq hM;refine kg 10 ?_;refine t_l2 rfl rfl ?_ ?_
    ·refine kG 1 ?_;refine kN ?_;refine t_l2 rfl rfl ?_ ?_
     ·refine kG 1 ?_;refine kN ?_;refine kG 2 ?_;refine kN ?_;refine kG 2 ?_;refine kN ?_;refine kG 2 ?_;refine kN ?_;refine kO 1 (l.getD (Int.toNat (j-1)) default) ?_;intro cw H;refine kN ?_;refine kG 2 ?_;refine kN ?_;refine kO 1 (l.getD (Int.toNat j) default) ?_;intro cA H;refine kN ?_;exact kXp 6 [1,0]
     refine kG 1 ?_;refine kN ?_;refine t_l2 rfl rfl ?_ ?_
     ·refine kG 1 ?_;refine kN ?_;refine kG 2 ?_;refine kN ?_;refine kG 2 ?_;refine kN ?_;refine kO 1 (l.getD (Int.toNat (j-1)) default) ?_;intro cB H;refine kN ?_;refine kG 2 ?_;refine kN ?_;refine kO 1 (l.getD (Int.toNat j) default) ?_;intro cC H;refine kN ?_;exact kXp 6 [1,0]
     refine kG 1 ?_;refine kN ?_;refine kG 2 ?_;refine kN ?_;refine kG 2 ?_;refine kN ?_;refine kO 1 (l.getD (Int.toNat (j-1)) default) ?_;intro cD H;refine kN ?_;refine kG 2 ?_;refine kN ?_;refine kO 1 (l.getD (Int.toNat j) default) ?_;intro cE H;refine kN ?_;exact kXp 6 [1,0]
    refine kG 1 ?_;refine kN ?_;refine t_l2 rfl rfl ?_ ?_
    ·refine kG 1 ?_;refine kN ?_;refine t_l2 rfl rfl ?_ ?_
     ·refine kG 1 ?_;refine kN ?_;refine kG 2 ?_;refine kN ?_;refine kG 2 ?_;refine kN ?_;refine kO 1 (l.getD (Int.toNat (j-1)) default) ?_;intro cF H;refine kN ?_;refine kG 2 ?_;refine kN ?_;refine kO 1 (l.getD (Int.toNat j) default) ?_;intro cG H;refine kN ?_;exact kXp 6 [1,0]
     refine kG 1 ?_;refine kN ?_;refine kG 2 ?_;refine kN ?_;refine kG 2 ?_;refine kN ?_;refine kO 1 (l.getD (Int.toNat (j-1)) default) ?_;intro cH H;refine kN ?_;refine kG 2 ?_;refine kN ?_;refine kO 1 (l.getD (Int.toNat j) default) ?_;intro cI H;refine kN ?_;exact kXp 6 [1,0]
    refine kG 1 ?_;refine kN ?_;refine kG 2 ?_;refine kN ?_;refine kG 2 ?_;refine kN ?_;refine kG 2 ?_;refine kN ?_;refine kO 1 (l.getD (Int.toNat (j-1)) default) ?_;intro cJ H;refine kN ?_;refine kG 2 ?_;refine kN ?_;refine kO 1 (l.getD (Int.toNat j) default) ?_;intro cK H;refine kN ?_;exact kXp 6 [1,0]
   intro bV hM;refine W.exit ?_;obtain rfl:=M.e_inr hM bc;replace hM:=bb;obtain ⟨cL,hM⟩:=M.e_gq hM;exact kXp 5 [1,0]
  replace hM:=M.e_f hM al;refine kN ?_;refine kI 3 ?_ ?_
  ·intro bW hM;refine kDT 3 [1] (.q 0 (.q 1 (.q 2 (.q 3 (.q 4 (.q 5 (.q 6 (.q 7 (.q 10 (.q 11 (.l2 8 (.l2 9 (.l 12 (.l 13 (.l 14 (.l 15 (.l 16 (.l 17 .nil)))))) 12 (.l2 9 (.l 13 (.l 14 (.l 15 (.l 16 (.l 17 .nil))))) 13 (.l 9 (.l 14 (.l 15 (.l 16 (.l 17 .nil))))))) 12 (.l2 8 (.l2 9 (.l 13 (.l 14 (.l 15 (.l 16 (.l 17 .nil))))) 13 (.l 9 (.l 14 (.l 15 (.l 16 (.l 17 .nil)))))) 13 (.l 8 (.l 9 (.l 14 (.l 15 (.l 16 (.l 17 .nil)))))))))))))))))) ?_;intro cM H;obtain ⟨cN,hM⟩:=M.e_gq hM;obtain ⟨cO,hM⟩:=M.e_gq hM;obtain ⟨cP,hM⟩:=M.e_gq hM;obtain ⟨cQ,hM⟩:=M.e_gq hM;refine kg 10 ?_;refine t_l2 rfl rfl ?_ ?_
   ·refine kG 1 ?_;refine kN ?_;refine t_l2 rfl rfl ?_ ?_
    ·refine kG 1 ?_;refine kN ?_;refine kG 2 ?_;refine kN ?_;refine kG 2 ?_;refine kN ?_;refine kG 2 ?_;refine kN ?_;refine kO 1 (l.getD (Int.toNat (j-1)) default) ?_;intro cR H;refine kN ?_;refine kG 2 ?_;refine kN ?_;refine kO 1 (l.getD (Int.toNat j) default) ?_;intro cS H;refine kN ?_;exact kX 6
    refine kG 1 ?_;refine kN ?_;refine t_l2 rfl rfl ?_ ?_
    ·refine kG 1 ?_;refine kN ?_;refine kG 2 ?_;refine kN ?_;refine kG 2 ?_;refine kN ?_;refine kO 1 (l.getD (Int.toNat (j-1)) default) ?_;intro cT H;refine kN ?_;refine kG 2 ?_;refine kN ?_;refine kO 1 (l.getD (Int.toNat j) default) ?_;intro cU H;refine kN ?_;exact kX 6
    refine kG 1 ?_;refine kN ?_;refine kG 2 ?_;refine kN ?_;refine kG 2 ?_;refine kN ?_;refine kO 1 (l.getD (Int.toNat (j-1)) default) ?_;intro cV H;refine kN ?_;refine kG 2 ?_;refine kN ?_;refine kO 1 (l.getD (Int.toNat j) default) ?_;intro cW H;refine kN ?_;exact kX 6
   refine kG 1 ?_;refine kN ?_;refine t_l2 rfl rfl ?_ ?_
   ·refine kG 1 ?_;refine kN ?_;refine t_l2 rfl rfl ?_ ?_
    ·refine kG 1 ?_;refine kN ?_;refine kG 2 ?_;refine kN ?_;refine kG 2 ?_;refine kN ?_;refine kO 1 (l.getD (Int.toNat (j-1)) default) ?_;intro cX H;refine kN ?_;refine kG 2 ?_;refine kN ?_;refine kO 1 (l.getD (Int.toNat j) default) ?_;intro cY H;refine kN ?_;exact kX 6
    refine kG 1 ?_;refine kN ?_;refine kG 2 ?_;refine kN ?_;refine kG 2 ?_;refine kN ?_;refine kO 1 (l.getD (Int.toNat (j-1)) default) ?_;intro cZ H;refine kN ?_;refine kG 2 ?_;refine kN ?_;refine kO 1 (l.getD (Int.toNat j) default) ?_;intro c6 H;refine kN ?_;exact kX 6
   refine kG 1 ?_;refine kN ?_;refine kG 2 ?_;refine kN ?_;refine kG 2 ?_;refine kN ?_;refine kG 2 ?_;refine kN ?_;refine kO 1 (l.getD (Int.toNat (j-1)) default) ?_;intro c7 H;refine kN ?_;refine kG 2 ?_;refine kN ?_;refine kO 1 (l.getD (Int.toNat j) default) ?_;intro c8 H;refine kN ?_;exact kX 6
  intro bW hM;refine W.exit ?_;obtain rfl:=M.e_inr hM bc;replace hM:=bb;obtain ⟨c9,hM⟩:=M.e_gq hM;exact kX 5
 intro bQ hM;refine W.exit ?_;obtain rfl:=M.e_inr hM bP;replace hM:=bM;have bX:=M.e_pure hM;exact ⟨_,resE_tmp0 rfl,⟨l4,B_mem2,bX,rfl,H⟩⟩

def zcu (a b n:Int):((List Dem) × Nat)->M (((List Dem) × Nat) ⊕ (List Dem)):=fun (l,i) =>
  bif decide ((i:Int)<n) then (
  M.gi (a+(i:Int)) <|
  M.gi (b+(i:Int)) <|
  M.grd (decide ((0:Int)<=(b+(i:Int)))&&decide ((b+(i:Int))<(l.length:Int))) <|
  M.grd (decide ((0:Int)<=(a+(i:Int)))&&decide ((a+(i:Int))<(l.length:Int))) <|
  M.grd (decide ((0:Int)<=(b+(i:Int)))&&decide ((b+(i:Int))<((l.set (Int.toNat (a+(i:Int))) (l.getD (Int.toNat (b+(i:Int))) default)).length:Int))) <|
  M.gi ((i:Int)+1) <|
  M.pure (.inl ((l.set (Int.toNat (a+(i:Int))) (l.getD (Int.toNat (b+(i:Int))) default)).set (Int.toNat (b+(i:Int))) (l.getD (Int.toNat (a+(i:Int))) default),i+1)))
  else (
  M.pure (.inr l))
def zaX (data:List Dem) (a b n:Int) (aa:List Int) (ab:List Span) (ac:List Int) (ae:List Town) (ah ai:Int) (aj:List Flood) (ak:List Int) (al:List Span) (am:List Int) (ao:List Town) (aq au:Int) (av:List Flood):M (List Dem) :=
  M.bind (M.iter (zcu a b n) (data,0)) fun l2 =>
  M.pure l2
theorem zcX {R aa ab ac ae ah ai aj ak al am ao aq au av aX aw ax ay az aA aB aC aD aE aF aG aH aY}(data a b n aI aJ aK aL aM aN aO aP aQ aR aS aT aU aV)(bf:Reads R ah)(bg:Sl ah ai aI)(bh:Reads R aj)(bi:Sl aj ak aJ)(bj:Reads R al)(bm:Sl al am aK)(bn:Reads R ao)(bo:Sl ao aq aL)(bp:Reads R au)(br:Sl au av aO)(bt:Has R (cBlk ae [ai,ak,am,aq,I aM,I aN,av,.map (some aX)] 118))(bu:Has R (cBlk ac [.func (.func 74) #[Pq ae] #[]] 179))(bv:Reads R ay)(bw:Sl ay az aP)(bx:Reads R aA)(bz:Sl aA aB aQ)(bA:Reads R aC)(bB:Sl aC aD aR)(bC:Reads R aE)(bD:Sl aE aF aS)(bE:Reads R aG)(bF:Sl aG aH aV)(bG:Has R (cBlk ax [az,aB,aD,aF,I aT,I aU,aH,.map (some aY)] 118))(bH:Has R (cBlk aw [Pq ax] 100))(bI:Has R (cBlk ab [.func (.func 78) #[] #[Pq ac,Pq aw]] 182)){r}(hM:(zaX data a b n aI aJ aK aL aM aN aO aP aQ aR aS aT aU aV).Ends r)(w)(H:St w w [cOwn (α:=Dem) 98 aa data] R):Ret Tryz.prog 210 #[aa,I a,I b,I n,.func (.func 80) #[] #[Pq ab]] w fun v w'=>∃ y0,y0=r/\v = .tuple #[]/\St w w' [cOwn (α:=Dem) 98 aa y0] R:=by
 refine ret_of_W Tryz.func210 rfl rfl rfl ?_;refine kg 5 ?_;obtain ⟨aZ,aW,a7⟩:=M.e_bind hM;obtain ⟨bJ,aW⟩:=M.e_iter aW;refine W.loop (fun m σ W=>∃ (l:List Dem) (i:Nat) (ρ:Env),σ=upds ρ [(0,aa),(1,I a),(2,I b),(3,I n),(10,I (i:Int))]/\M.iterN (zcu a b n) m (l,i)=some aZ/\St w W [cOwn (α:=Dem) 98 aa l] R) ?_ ?_
 ·exact kY
 rintro bK σ bL ⟨l,i,ρ,rfl,a8,H⟩;obtain ⟨bM,bN,bO,hM,ba⟩:=M.e_iterN a8;refine kI 7 ?_ ?_
 ·intro bb hM;refine kDT 3 [] (.q 0 (.q 1 (.q 2 (.q 3 (.q 4 (.q 5 (.q 6 (.q 7 (.q 8 (.q 9 (.q 10 (.q 11 (.q 14 (.q 15 (.q 16 (.q 17 (.l2 12 (.l2 13 (.l 18 (.l 19 (.l 20 (.l 21 (.l 22 (.l 23 .nil)))))) 18 (.l2 13 (.l 19 (.l 20 (.l 21 (.l 22 (.l 23 .nil))))) 19 (.l 13 (.l 20 (.l 21 (.l 22 (.l 23 .nil))))))) 18 (.l2 12 (.l2 13 (.l 19 (.l 20 (.l 21 (.l 22 (.l 23 .nil))))) 19 (.l 13 (.l 20 (.l 21 (.l 22 (.l 23 .nil)))))) 19 (.l 12 (.l 13 (.l 20 (.l 21 (.l 22 (.l 23 .nil)))))))))))))))))))))))) ?_;intro bP H;obtain ⟨bQ,hM⟩:=M.e_gq hM;obtain ⟨bR,hM⟩:=M.e_gq hM;obtain ⟨bS,hM⟩:=M.e_gq hM;obtain ⟨bT,hM⟩:=M.e_gq hM;obtain ⟨bU,hM⟩:=M.e_gq hM;refine kg 16 ?_;refine t_l2 rfl rfl ?_ ?_
  ·refine kG 1 ?_;refine kN ?_;refine t_l2 rfl rfl ?_ ?_
   ·refine kG 1 ?_;refine kN ?_;refine kG 2 ?_;refine kN ?_;refine kG 2 ?_;refine kN ?_;refine kG 2 ?_;refine kN ?_;refine kO 1 (l.getD (Int.toNat (b+(i:Int))) default) ?_;intro bV H;refine kN ?_;refine kG 2 ?_;refine kN ?_;refine kO 1 (l.getD (Int.toNat (a+(i:Int))) default) ?_;intro bW H;refine kN ?_;obtain ⟨bX,hM⟩:=M.e_gq hM;exact kX 6
   refine kG 1 ?_;refine kN ?_;refine t_l2 rfl rfl ?_ ?_
   ·refine kG 1 ?_;refine kN ?_;refine kG 2 ?_;refine kN ?_;refine kG 2 ?_;refine kN ?_;refine kO 1 (l.getD (Int.toNat (b+(i:Int))) default) ?_;intro bY H;refine kN ?_;refine kG 2 ?_;refine kN ?_;refine kO 1 (l.getD (Int.toNat (a+(i:Int))) default) ?_;intro bZ H;refine kN ?_;obtain ⟨b4,hM⟩:=M.e_gq hM;exact kX 6
   refine kG 1 ?_;refine kN ?_;refine kG 2 ?_;refine kN ?_;refine kG 2 ?_;refine kN ?_;refine kO 1 (l.getD (Int.toNat (b+(i:Int))) default) ?_;intro b5 H;refine kN ?_;refine kG 2 ?_;refine kN ?_;refine kO 1 (l.getD (Int.toNat (a+(i:Int))) default) ?_;intro b6 H;refine kN ?_;obtain ⟨b7,hM⟩:=M.e_gq hM;exact kX 6
  refine kG 1 ?_;refine kN ?_;refine t_l2 rfl rfl ?_ ?_
  ·refine kG 1 ?_;refine kN ?_;refine t_l2 rfl rfl ?_ ?_
   ·refine kG 1 ?_;refine kN ?_;refine kG 2 ?_;refine kN ?_;refine kG 2 ?_;refine kN ?_;refine kO 1 (l.getD (Int.toNat (b+(i:Int))) default) ?_;intro b8 H;refine kN ?_;refine kG 2 ?_;refine kN ?_;refine kO 1 (l.getD (Int.toNat (a+(i:Int))) default) ?_;intro b9 H;refine kN ?_;obtain ⟨cb,hM⟩:=M.e_gq hM;exact kX 6
   refine kG 1 ?_;refine kN ?_;refine kG 2 ?_;refine kN ?_;refine kG 2 ?_;refine kN ?_;refine kO 1 (l.getD (Int.toNat (b+(i:Int))) default) ?_;intro cc H;refine kN ?_;refine kG 2 ?_;refine kN ?_;refine kO 1 (l.getD (Int.toNat (a+(i:Int))) default) ?_;intro cd H;refine kN ?_;obtain ⟨ce,hM⟩:=M.e_gq hM;exact kX 6
  refine kG 1 ?_;refine kN ?_;refine kG 2 ?_;refine kN ?_;refine kG 2 ?_;refine kN ?_;refine kG 2 ?_;refine kN ?_;refine kO 1 (l.getD (Int.toNat (b+(i:Int))) default) ?_;intro cf H;refine kN ?_;refine kG 2 ?_;refine kN ?_;refine kO 1 (l.getD (Int.toNat (a+(i:Int))) default) ?_;intro cg H;refine kN ?_;obtain ⟨ch,hM⟩:=M.e_gq hM;exact kX 6
 intro bb hM;refine W.exit ?_;obtain rfl:=M.e_inr hM ba;replace hM:=a7;have bc:=M.e_pure hM;exact ⟨_,resE_tmp0 rfl,⟨l,bc,rfl,H⟩⟩

end Go.Proofs.YtbgoclcmgbpckaaGreat
end
section
set_option maxRecDepth 100000
set_option maxHeartbeats 16000000
namespace Go.Proofs.YtbgoclcmgbpckaaGreat
open Go Go.Nm
attribute [local irreducible] gd execOp SL SLD SLT WR
def zdr (m_:Int) (aa:List Int) (ab:List Span) (ac:List Int) (ae:List Town) (ah ai:Int) (aj:List Flood) (ak:List Int) (al:List Span) (am:List Int) (ao:List Town) (aq au:Int) (av:List Flood):((List Dem) × Int × Int)->M (((List Dem) × Int × Int) ⊕ ((List Dem) × Int × (List Dem))):=fun (l,i,j) =>
  bif i != j then (
  bif decide (j<i) then (
  M.gi (m_-i) <|
  M.bind (zaX l (m_-i) m_ j aa ab ac ae ah ai aj ak al am ao aq au av) fun l_data =>
  M.gi (i-j) <|
  M.pure (.inl (l_data,i-j,j)))
  else (
  M.gi (m_-i) <|
  M.gi (m_+j) <|
  M.gi ((m_+j)-i) <|
  M.bind (zaX l (m_-i) ((m_+j)-i) i aa ab ac ae ah ai aj ak al am ao aq au av) fun l_data2 =>
  M.gi (j-i) <|
  M.pure (.inl (l_data2,i,j-i))))
  else (
  M.pure (.inr (l,i,l)))
def zb5 (data:List Dem) (a m_ b:Int) (aa:List Int) (ab:List Span) (ac:List Int) (ae:List Town) (ah ai:Int) (aj:List Flood) (ak:List Int) (al:List Span) (am:List Int) (ao:List Town) (aq au:Int) (av:List Flood):M (List Dem) :=
  M.gi (m_-a) <|
  M.gi (b-m_) <|
  M.bind (M.iter (zdr m_ aa ab ac ae ah ai aj ak al am ao aq au av) (data,m_-a,b-m_)) fun (l2,i2,l3) =>
  M.gi (m_-i2) <|
  M.bind (zaX l3 (m_-i2) m_ i2 aa ab ac ae ah ai aj ak al am ao aq au av) fun l_data3 =>
  M.pure l_data3
theorem zeT {R aa ab ay az aA aB aC aD aE aF aG aH aI aJ aX aK aL aM aN aO aP aQ aR aS aT aU aV aY}(data a m_ b ac ae ah ai aj ak al am ao aq au av aw ax)(bg:Reads R aA)(bh:Sl aA aB ac)(bi:Reads R aC)(bj:Sl aC aD ae)(bm:Reads R aE)(bn:Sl aE aF ah)(bo:Reads R aG)(bp:Sl aG aH ai)(br:Reads R aI)(bt:Sl aI aJ al)(bu:Has R (cBlk az [aB,aD,aF,aH,I aj,I ak,aJ,.map (some aX)] 118))(bv:Has R (cBlk ay [.func (.func 74) #[Pq az] #[]] 179))(bw:Reads R aM)(bx:Sl aM aN am)(bz:Reads R aO)(bA:Sl aO aP ao)(bB:Reads R aQ)(bC:Sl aQ aR aq)(bD:Reads R aS)(bE:Sl aS aT au)(bF:Reads R aU)(bG:Sl aU aV ax)(bH:Has R (cBlk aL [aN,aP,aR,aT,I av,I aw,aV,.map (some aY)] 118))(bI:Has R (cBlk aK [Pq aL] 100))(bJ:Has R (cBlk ab [.func (.func 78) #[] #[Pq ay,Pq aK]] 182)){r}(hM:(zb5 data a m_ b ac ae ah ai aj ak al am ao aq au av aw ax).Ends r)(w)(H:St w w [cOwn (α:=Dem) 98 aa data] R):Ret Tryz.prog 200 #[aa,I a,I m_,I b,.func (.func 80) #[] #[Pq ab]] w fun v w'=>∃ y0,y0=r/\v = .tuple #[]/\St w w' [cOwn (α:=Dem) 98 aa y0] R:=by
 refine ret_of_W Tryz.func200 rfl rfl rfl ?_;obtain ⟨bK,hM⟩:=M.e_gq hM;obtain ⟨bL,hM⟩:=M.e_gq hM;refine kg 16 ?_;obtain ⟨aZ,aW,a7⟩:=M.e_bind hM;obtain ⟨bM,aW⟩:=M.e_iter aW;refine W.loop (fun m σ W=>∃ (l:List Dem) (i:Int) (j:Int) (ρ:Env),σ=upds ρ [(0,aa),(2,I m_),(4,.func (.func 80) #[] #[Pq ab]),(10,I i),(11,I j)]/\M.iterN (zdr m_ ac ae ah ai aj ak al am ao aq au av aw ax) m (l,i,j)=some aZ/\St w W [cOwn (α:=Dem) 98 aa l] R) ?_ ?_
 ·exact kY
 rintro bN σ bO ⟨l,i,j,ρ,rfl,a8,H⟩;obtain ⟨bP,bQ,bR,hM,ba⟩:=M.e_iterN a8;refine kI 7 ?_ ?_
 ·intro bb hM;refine kI 8 ?_ ?_
  ·intro bc hM;obtain ⟨bS,hM⟩:=M.e_gq hM;refine kC 9 @zcX ?_;intro bT l_data hM H;obtain ⟨bU,hM⟩:=M.e_gq hM;exact kX 7
  intro bc hM;obtain ⟨bV,hM⟩:=M.e_gq hM;obtain ⟨bW,hM⟩:=M.e_gq hM;obtain ⟨bX,hM⟩:=M.e_gq hM;refine kC 13 @zcX ?_;intro bY l_data2 hM H;obtain ⟨bZ,hM⟩:=M.e_gq hM;exact kX 7
 intro bb hM;refine W.exit ?_;obtain rfl:=M.e_inr hM ba;replace hM:=a7;obtain ⟨b4,hM⟩:=M.e_gq hM;refine kC 8 @zcX ?_;intro b5 l_data3 hM H;refine s_nil ?_;have bf:=M.e_pure hM;exact ⟨_,resE_tmp0 rfl,⟨l_data3,bf,rfl,H⟩⟩

def zbd (data:List Dem) (a:Int) (aa:List Int) (ab:List Span) (ac:List Int) (ae:List Town) (ah ai:Int) (aj:List Flood) (ak:List Int) (al:List Span) (am:List Int) (ao:List Town) (aq au:Int) (av:List Flood):(Int × Int)->M ((Int × Int) ⊕ Int):=fun (i,j) =>
  bif decide (i<j) then (
  M.gi (i+j) <|
  M.grd (decide ((0:Int)<=(i+j))&&decide ((i+j)<=(9223372036854775807:Int))) <|
  M.grd (decide ((0:Int)<=((i+j) / 2))&&decide (((i+j) / 2)<=(9223372036854775807:Int))) <|
  M.grd (decide ((0:Int)<=((i+j) / 2))&&decide (((i+j) / 2)<(data.length:Int))) <|
  M.grd (decide ((0:Int)<=a)&&decide (a<(data.length:Int))) <|
  M.bind (zap (data.getD (Int.toNat ((i+j) / 2)) default) (data.getD (Int.toNat a) default) aa ab ac ae ah ai aj ak al am ao aq au av) fun r2 =>
  bif decide (r2<0) then (
  M.pure (.inl (((i+j) / 2)+1,j)))
  else (
  M.pure (.inl (i,(i+j) / 2))))
  else (
  M.pure (.inr i))
def zaR (i2:Int):((List Dem) × Int)->M (((List Dem) × Int) ⊕ (List Dem)):=fun (l,k) =>
  M.gi (i2-1) <|
  bif decide (k<(i2-1)) then (
  M.gi (k+1) <|
  M.grd (decide ((0:Int)<=(k+1))&&decide ((k+1)<(l.length:Int))) <|
  M.grd (decide ((0:Int)<=k)&&decide (k<(l.length:Int))) <|
  M.grd (decide ((0:Int)<=(k+1))&&decide ((k+1)<((l.set (Int.toNat k) (l.getD (Int.toNat (k+1)) default)).length:Int))) <|
  M.pure (.inl ((l.set (Int.toNat k) (l.getD (Int.toNat (k+1)) default)).set (Int.toNat (k+1)) (l.getD (Int.toNat k) default),k+1)))
  else (
  M.pure (.inr l))
def zbq (data:List Dem) (m_:Int) (aa:List Int) (ab:List Span) (ac:List Int) (ae:List Town) (ah ai:Int) (aj:List Flood) (ak:List Int) (al:List Span) (am:List Int) (ao:List Town) (aq au:Int) (av:List Flood):(Int × Int)->M ((Int × Int) ⊕ Int):=fun (i3,j2) =>
  bif decide (i3<j2) then (
  M.gi (i3+j2) <|
  M.grd (decide ((0:Int)<=(i3+j2))&&decide ((i3+j2)<=(9223372036854775807:Int))) <|
  M.grd (decide ((0:Int)<=((i3+j2) / 2))&&decide (((i3+j2) / 2)<=(9223372036854775807:Int))) <|
  M.grd (decide ((0:Int)<=m_)&&decide (m_<(data.length:Int))) <|
  M.grd (decide ((0:Int)<=((i3+j2) / 2))&&decide (((i3+j2) / 2)<(data.length:Int))) <|
  M.bind (zap (data.getD (Int.toNat m_) default) (data.getD (Int.toNat ((i3+j2) / 2)) default) aa ab ac ae ah ai aj ak al am ao aq au av) fun r3 =>
  bif !(decide (r3<0)) then (
  M.pure (.inl (((i3+j2) / 2)+1,j2)))
  else (
  M.pure (.inl (i3,(i3+j2) / 2))))
  else (
  M.pure (.inr i3))
def zaK (i4:Int):((List Dem) × Int)->M (((List Dem) × Int) ⊕ (List Dem)):=fun (l3,k2) =>
  bif decide (i4<k2) then (
  M.gi (k2-1) <|
  M.grd (decide ((0:Int)<=(k2-1))&&decide ((k2-1)<(l3.length:Int))) <|
  M.grd (decide ((0:Int)<=k2)&&decide (k2<(l3.length:Int))) <|
  M.grd (decide ((0:Int)<=(k2-1))&&decide ((k2-1)<((l3.set (Int.toNat k2) (l3.getD (Int.toNat (k2-1)) default)).length:Int))) <|
  M.pure (.inl ((l3.set (Int.toNat k2) (l3.getD (Int.toNat (k2-1)) default)).set (Int.toNat (k2-1)) (l3.getD (Int.toNat k2) default),k2-1)))
  else (
  M.pure (.inr l3))
def za0 (data:List Dem) (a m_ b:Int) (aa:List Int) (ab:List Span) (ac:List Int) (ae:List Town) (ah ai:Int) (aj:List Flood) (ak:List Int) (al:List Span) (am:List Int) (ao:List Town) (aq au:Int) (av:List Flood):(Int × Int)->M ((Int × Int) ⊕ Int):=fun (start2,r6) =>
  bif decide (start2<r6) then (
  M.gi (start2+r6) <|
  M.grd (decide ((0:Int)<=(start2+r6))&&decide ((start2+r6)<=(9223372036854775807:Int))) <|
  M.grd (decide ((0:Int)<=((start2+r6) / 2))&&decide (((start2+r6) / 2)<=(9223372036854775807:Int))) <|
  M.gi (((((a+b) / 2)+m_)-1)-((start2+r6) / 2)) <|
  M.grd (decide ((0:Int)<=(((((a+b) / 2)+m_)-1)-((start2+r6) / 2)))&&decide ((((((a+b) / 2)+m_)-1)-((start2+r6) / 2))<(data.length:Int))) <|
  M.grd (decide ((0:Int)<=((start2+r6) / 2))&&decide (((start2+r6) / 2)<(data.length:Int))) <|
  M.bind (zap (data.getD (Int.toNat (((((a+b) / 2)+m_)-1)-((start2+r6) / 2))) default) (data.getD (Int.toNat ((start2+r6) / 2)) default) aa ab ac ae ah ai aj ak al am ao aq au av) fun r5 =>
  bif !(decide (r5<0)) then (
  M.pure (.inl (((start2+r6) / 2)+1,r6)))
  else (
  M.pure (.inl (start2,(start2+r6) / 2))))
  else (
  M.pure (.inr start2))
def zaw (a m_ b:Int) (aa:List Int) (ab:List Span) (ac:List Int) (ae:List Town) (ah ai:Int) (aj:List Flood) (ak:List Int) (al:List Span) (am:List Int) (ao:List Town) (aq au:Int) (av:List Flood) (aw:((List Dem) × Int × Int × Int × (List Int) × (List Span) × (List Int) × (List Town) × Int × Int × (List Flood) × (List Int) × (List Span) × (List Int) × (List Town) × Int × Int × (List Flood))->M (List Dem)) (start3:Int) (l6:List Dem):M (List Dem) :=
  bif ((decide (((a+b) / 2)<((((a+b) / 2)+m_)-start3)))&&(decide (((((a+b) / 2)+m_)-start3)<b))) then (
  M.bind (aw (l6,((a+b) / 2),((((a+b) / 2)+m_)-start3),b,aa,ab,ac,ae,ah,ai,aj,ak,al,am,ao,aq,au,av)) fun l_data3 =>
  M.pure l_data3)
  else (
  M.pure l6)
def zav (a m_ b:Int) (aa:List Int) (ab:List Span) (ac:List Int) (ae:List Town) (ah ai:Int) (aj:List Flood) (ak:List Int) (al:List Span) (am:List Int) (ao:List Town) (aq au:Int) (av:List Flood) (aw:((List Dem) × Int × Int × Int × (List Int) × (List Span) × (List Int) × (List Town) × Int × Int × (List Flood) × (List Int) × (List Span) × (List Int) × (List Town) × Int × Int × (List Flood))->M (List Dem)) (start3:Int) (l5:List Dem):M (List Dem) :=
  bif ((decide (a<start3))&&(decide (start3<((a+b) / 2)))) then (
  M.bind (aw (l5,a,start3,((a+b) / 2),aa,ab,ac,ae,ah,ai,aj,ak,al,am,ao,aq,au,av)) fun l_data2 =>
  zaw a m_ b aa ab ac ae ah ai aj ak al am ao aq au av aw start3 l_data2)
  else (
  zaw a m_ b aa ab ac ae ah ai aj ak al am ao aq au av aw start3 l5)
def zaB (data:List Dem) (a m_ b:Int) (aa:List Int) (ab:List Span) (ac:List Int) (ae:List Town) (ah ai:Int) (aj:List Flood) (ak:List Int) (al:List Span) (am:List Int) (ao:List Town) (aq au:Int) (av:List Flood) (aw:((List Dem) × Int × Int × Int × (List Int) × (List Span) × (List Int) × (List Town) × Int × Int × (List Flood) × (List Int) × (List Span) × (List Int) × (List Town) × Int × Int × (List Flood))->M (List Dem)) (start r4:Int):M (List Dem) :=
  M.gi ((((a+b) / 2)+m_)-1) <|
  M.bind (M.iter (za0 data a m_ b aa ab ac ae ah ai aj ak al am ao aq au av) (start,r4)) fun start3 =>
  M.gi ((((a+b) / 2)+m_)-start3) <|
  bif ((decide (start3<m_))&&(decide (m_<((((a+b) / 2)+m_)-start3)))) then (
  M.bind (zb5 data start3 m_ ((((a+b) / 2)+m_)-start3) aa ab ac ae ah ai aj ak al am ao aq au av) fun l_data =>
  zav a m_ b aa ab ac ae ah ai aj ak al am ao aq au av aw start3 l_data)
  else (
  zav a m_ b aa ab ac ae ah ai aj ak al am ao aq au av aw start3 data)
def zan (aw:((List Dem) × Int × Int × Int × (List Int) × (List Span) × (List Int) × (List Town) × Int × Int × (List Flood) × (List Int) × (List Span) × (List Int) × (List Town) × Int × Int × (List Flood))->M (List Dem)):((List Dem) × Int × Int × Int × (List Int) × (List Span) × (List Int) × (List Town) × Int × Int × (List Flood) × (List Int) × (List Span) × (List Int) × (List Town) × Int × Int × (List Flood))->M (List Dem):=fun (data,a,m_,b,aa,ab,ac,ae,ah,ai,aj,ak,al,am,ao,aq,au,av) =>
  M.gi (m_-a) <|
  bif (m_-a)==1 then (
  M.bind (M.iter (zbd data a aa ab ac ae ah ai aj ak al am ao aq au av) (m_,b)) fun i2 =>
  M.bind (M.iter (zaR i2) (data,a)) fun l2 =>
  M.pure l2)
  else (
  M.gi (b-m_) <|
  bif (b-m_)==1 then (
  M.bind (M.iter (zbq data m_ aa ab ac ae ah ai aj ak al am ao aq au av) (a,m_)) fun i4 =>
  M.bind (M.iter (zaK i4) (data,m_)) fun l4 =>
  M.pure l4)
  else (
  M.gi (a+b) <|
  M.grd (decide ((0:Int)<=(a+b))&&decide ((a+b)<=(9223372036854775807:Int))) <|
  M.grd (decide ((0:Int)<=((a+b) / 2))&&decide (((a+b) / 2)<=(9223372036854775807:Int))) <|
  M.gi (((a+b) / 2)+m_) <|
  bif decide (((a+b) / 2)<m_) then (
  M.gi ((((a+b) / 2)+m_)-b) <|
  zaB data a m_ b aa ab ac ae ah ai aj ak al am ao aq au av aw ((((a+b) / 2)+m_)-b) ((a+b) / 2))
  else (
  zaB data a m_ b aa ab ac ae ah ai aj ak al am ao aq au av aw a m_)))
theorem zcS  : M.Mon zan:=by
  intro n f g h a;obtain ⟨data,a,m_,b,aa,ab,ac,ae,ah,ai,aj,ak,al,am,ao,aq,au,av⟩:=a;simp only [zan,zbd,zaR,zbq,zaK,za0,zaw,zav,zaB]
  repeat' (first | exact M.le_same _ _ | exact h _ | refine M.le_grd ?_ | refine M.le_if ?_ ?_ | refine M.le_bind ?_ (fun x=>?_) | refine M.le_opt ?_ | refine M.le_iter (fun x=>?_) _ | refine m_daily_work_pairs_1_le (M.le_yl (fun s_ a_=>?_)) _ _ _ _ _ | refine m_share_office_taken_1_le (M.le_yl (fun s_ a_=>?_)) _ _ _ _ | refine m_balance_desk_steps_1_le (M.le_yl (fun s_ a_=>?_)) _ _ _ _ _ | refine zeP (M.le_yl (fun s_ a_=>?_)) _ _ _ _ _ _ _ _ | refine zeB (M.le_yl (fun s_ a_=>?_)) _ _ _ _ _ _ _ _ _ | (rename_i x; cases x) | (rename_i x; obtain ⟨_,_⟩:=x))
def za8 (data:List Dem) (a m_ b:Int) (aa:List Int) (ab:List Span) (ac:List Int) (ae:List Town) (ah ai:Int) (aj:List Flood) (ak:List Int) (al:List Span) (am:List Int) (ao:List Town) (aq au:Int) (av:List Flood):M (List Dem):=M.fix zan zcS (data,a,m_,b,aa,ab,ac,ae,ah,ai,aj,ak,al,am,ao,aq,au,av)
theorem zeA (n_:Nat):∀ {R:List Chunk} {ak:Value} {ay:Nat} {aZ:Nat} {a7:Nat} {a8:Cells} {ba:Value} {bb:Cells} {bc:Value} {bf:Cells} {bg:Value} {bh:Cells} {bi:Value} {bj:Cells} {bm:Value} {ax:Nat} {B_b_cmp2020207:Base} {bn:Nat} {bo:Nat} {bp:Cells} {br:Value} {bt:Cells} {bu:Value} {bv:Cells} {bw:Value} {bx:Cells} {bz:Value} {bA:Cells} {bB:Value} {bD:Nat} (data:List Dem) (a:Int) (m_:Int) (b:Int) (aa:List Int) (ab:List Span) (ac:List Int) (ae:List Town) (ah:Int) (ai:Int) (aj:List Flood) (al:List Int) (am:List Span) (ao:List Int) (aq:List Town) (au:Int) (av:Int) (aw:List Flood) (aA:Reads R a8) (aB:Sl a8 ba aa) (aC:Reads R bb) (aD:Sl bb bc ab) (aE:Reads R bf) (aF:Sl bf bg ac) (aG:Reads R bh) (aH:Sl bh bi ae) (aI:Reads R bj) (aJ:Sl bj bm aj) (aK:Has R (cBlk a7 [ba,bc,bg,bi,I ah,I ai,bm,.map (some ax)] 118)) (aL:Has R (cBlk aZ [.func (.func 74) #[Pq a7] #[]] 179)) (aM:Reads R bp) (aN:Sl bp br al) (aO:Reads R bt) (aP:Sl bt bu am) (aQ:Reads R bv) (aR:Sl bv bw ao) (aS:Reads R bx) (aT:Sl bx bz aq) (aU:Reads R bA) (aV:Sl bA bB aw) (aW:Has R (cBlk bo [br,bu,bw,bz,I au,I av,bB,.map (some bD)] 118)) (aX:Has R (cBlk bn [Pq bo] 100)) (aY:Has R (cBlk ay [.func (.func 78) #[] #[Pq aZ,Pq bn]] 182)) {r:(List Dem)} (hM:(M.fixN zan n_ (data,a,m_,b,aa,ab,ac,ae,ah,ai,aj,al,am,ao,aq,au,av,aw)).Ends r) (w:World) (H:St w w [cOwn (α:=Dem) 98 ak data,cMem encDm ax B_b_cmp2020207 (zaa aa ab ac ae ah ai aj)] R),Ret Tryz.prog 169 #[ak,I a,I m_,I b,.func (.func 80) #[] #[Pq ay]] w fun v w'=>∃ (y0:List Dem) (bK:Base),y0=r/\v = .tuple #[]/\St w w' [cOwn (α:=Dem) 98 ak y0,cMem encDm ax bK (zaa aa ab ac ae ah ai aj)] R:=by
  induction n_ with
  | zero=>intro R ak ay aZ a7 a8 ba bb bc bf bg bh bi bj bm ax B_b_cmp2020207 bn bo bp br bt bu bv bw bx bz bA bB bD data a m_ b aa ab ac ae ah ai aj al am ao aq au av aw aA aB aC aD aE aF aG aH aI aJ aK aL aM aN aO aP aQ aR aS aT aU aV aW aX aY r hM w H; exact (M.e_fail hM).elim
  | succ n_ ih =>
    intro R ak ay aZ a7 a8 ba bb bc bf bg bh bi bj bm ax B_b_cmp2020207 bn bo bp br bt bu bv bw bx bz bA bB bD data a m_ b aa ab ac ae ah ai aj al am ao aq au av aw aA aB aC aD aE aF aG aH aI aJ aK aL aM aN aO aP aQ aR aS aT aU aV aW aX aY r hM w H;refine ret_of_W Tryz.func169 rfl rfl rfl ?_;obtain ⟨cH,hM⟩:=M.e_gq hM;refine kI 8 ?_ ?_
    ·intro bL hM;refine kg 12 ?_;obtain ⟨bM,bF,bN⟩:=M.e_bind hM;obtain ⟨bC,bF⟩:=M.e_iter bF;refine W.loop (fun m σ W=>∃ (i:Int) (j:Int) (B_mem:Base) (ρ:Env),σ=upds ρ [(0,ak),(1,I a),(4,.func (.func 80) #[] #[Pq ay]),(10,I i),(11,I j)]/\M.iterN (zbd data a aa ab ac ae ah ai aj al am ao aq au av aw) m (i,j)=some bM/\St w W [cOwn (α:=Dem) 98 ak data,cMem encDm ax B_mem (zaa aa ab ac ae ah ai aj)] R) ?_ ?_
     ·exact kY
     rintro cI σ cJ ⟨i,j,B_mem,ρ,rfl,bO,H⟩;obtain ⟨cK,cL,cM,hM,bP⟩:=M.e_iterN bO;refine kI 7 ?_ ?_
     ·intro bQ hM;obtain ⟨cN,hM⟩:=M.e_gq hM;obtain ⟨cO,hM⟩:=M.e_gq hM;refine kg 7 ?_;refine s_val (x_convU (kd:=.i64) (a:=i+j) Tryz.underlying3 Tryz.underlying226 rfl (by omega))<|s_val (x_ushr1 (a:=i+j) rfl rfl) ?_;obtain ⟨cP,hM⟩:=M.e_gq hM;refine s_val (x_conv64 (kd:=.u64) (a:=(i+j) / 2) Tryz.underlying226 Tryz.underlying3 rfl (by omega)) ?_;refine kD 3 [0] [9] ?_;intro cQ H;obtain ⟨cR,hM⟩:=M.e_gq hM;obtain ⟨cS,hM⟩:=M.e_gq hM;refine kG 10 ?_;obtain ⟨cT,bR,hM⟩:=M.e_bind hM;refine s_callv (f:=80) rfl cq [.agg #[I ((data.getD (Int.toNat ((i+j) / 2)) default).spring),I ((data.getD (Int.toNat ((i+j) / 2)) default).town)],.agg #[I ((data.getD (Int.toNat a) default).spring),I ((data.getD (Int.toNat a) default).town)]] rfl (zbL (data.getD (Int.toNat ((i+j) / 2)) default) (data.getD (Int.toNat a) default) aa ab ac ae ah ai aj al am ao aq au av aw (aA.app _) aB (aC.app _) aD (aE.app _) aF (aG.app _) aH (aI.app _) aJ (aK.app _) (aL.app _) (aM.app _) aN (aO.app _) aP (aQ.app _) aR (aS.app _) aT (aU.app _) aV (aW.app _) (aX.app _) (aY.app _) bR _ ((H.pk [1,0]).gt 1)) ?_
      rintro _ cU ⟨r2,cV,rfl,rfl,az⟩;replace H:=H.pk [1,0] |>.bk az
      refine kN ?_;refine kI 2 ?_ ?_
      ·intro bS hM;exact kXp 5 [1,0]
      intro bS hM;exact kXp 4 [1,0]
     intro bQ hM;refine W.exit ?_;obtain rfl:=M.e_inr hM bP;replace hM:=bN;refine kg 7 ?_;obtain ⟨bT,bG,bU⟩:=M.e_bind hM;obtain ⟨bC,bG⟩:=M.e_iter bG;refine W.loop (fun m σ W=>∃ (l:List Dem) (k:Int) (ρ:Env),σ=upds ρ [(0,ak),(10,I i),(13,I k)]/\M.iterN (zaR i) m (l,k)=some bT/\St w W [cOwn (α:=Dem) 98 ak l,cMem encDm ax B_mem (zaa aa ab ac ae ah ai aj)] R) ?_ ?_
     ·exact kY
     rintro cW σ cX ⟨l,k,ρ,rfl,bV,H⟩;obtain ⟨cY,cZ,c6,hM,bW⟩:=M.e_iterN bV;obtain ⟨c7,hM⟩:=M.e_gq hM;refine kI 8 ?_ ?_
     ·intro bX hM;refine kDT 3 [1] (.q 0 (.q 1 (.q 2 (.q 3 (.q 4 (.q 5 (.q 6 (.q 7 (.q 10 (.q 11 (.l2 8 (.l2 9 (.l 12 (.l 13 (.l 14 (.l 15 (.l 16 (.l 17 .nil)))))) 12 (.l2 9 (.l 13 (.l 14 (.l 15 (.l 16 (.l 17 .nil))))) 13 (.l 9 (.l 14 (.l 15 (.l 16 (.l 17 .nil))))))) 12 (.l2 8 (.l2 9 (.l 13 (.l 14 (.l 15 (.l 16 (.l 17 .nil))))) 13 (.l 9 (.l 14 (.l 15 (.l 16 (.l 17 .nil)))))) 13 (.l 8 (.l 9 (.l 14 (.l 15 (.l 16 (.l 17 .nil)))))))))))))))))) ?_;intro c8 H;obtain ⟨c9,hM⟩:=M.e_gq hM;obtain ⟨da,hM⟩:=M.e_gq hM;obtain ⟨db,hM⟩:=M.e_gq hM;obtain ⟨dc,hM⟩:=M.e_gq hM;refine kg 10 ?_;refine t_l2 rfl rfl ?_ ?_
      ·refine kG 1 ?_;refine kN ?_;refine t_l2 rfl rfl ?_ ?_
       ·refine kG 1 ?_;refine kN ?_;refine kG 2 ?_;refine kN ?_;refine kG 2 ?_;refine kN ?_;refine kG 2 ?_;refine kN ?_;refine kO 1 (l.getD (Int.toNat (k+1)) default) ?_;intro dg H;refine kN ?_;refine kG 2 ?_;refine kN ?_;refine kO 1 (l.getD (Int.toNat k) default) ?_;intro di H;refine kN ?_;exact kX 6
       refine kG 1 ?_;refine kN ?_;refine t_l2 rfl rfl ?_ ?_
       ·refine kG 1 ?_;refine kN ?_;refine kG 2 ?_;refine kN ?_;refine kG 2 ?_;refine kN ?_;refine kO 1 (l.getD (Int.toNat (k+1)) default) ?_;intro dk H;refine kN ?_;refine kG 2 ?_;refine kN ?_;refine kO 1 (l.getD (Int.toNat k) default) ?_;intro dm H;refine kN ?_;exact kX 6
       refine kG 1 ?_;refine kN ?_;refine kG 2 ?_;refine kN ?_;refine kG 2 ?_;refine kN ?_;refine kO 1 (l.getD (Int.toNat (k+1)) default) ?_;intro dq H;refine kN ?_;refine kG 2 ?_;refine kN ?_;refine kO 1 (l.getD (Int.toNat k) default) ?_;intro dr H;refine kN ?_;exact kX 6
      refine kG 1 ?_;refine kN ?_;refine t_l2 rfl rfl ?_ ?_
      ·refine kG 1 ?_;refine kN ?_;refine t_l2 rfl rfl ?_ ?_
       ·refine kG 1 ?_;refine kN ?_;refine kG 2 ?_;refine kN ?_;refine kG 2 ?_;refine kN ?_;refine kO 1 (l.getD (Int.toNat (k+1)) default) ?_;intro dt H;refine kN ?_;refine kG 2 ?_;refine kN ?_;refine kO 1 (l.getD (Int.toNat k) default) ?_;intro du H;refine kN ?_;exact kX 6
       refine kG 1 ?_;refine kN ?_;refine kG 2 ?_;refine kN ?_;refine kG 2 ?_;refine kN ?_;refine kO 1 (l.getD (Int.toNat (k+1)) default) ?_;intro dv H;refine kN ?_;refine kG 2 ?_;refine kN ?_;refine kO 1 (l.getD (Int.toNat k) default) ?_;intro dw H;refine kN ?_;exact kX 6
      refine kG 1 ?_;refine kN ?_;refine kG 2 ?_;refine kN ?_;refine kG 2 ?_;refine kN ?_;refine kG 2 ?_;refine kN ?_;refine kO 1 (l.getD (Int.toNat (k+1)) default) ?_;intro dx H;refine kN ?_;refine kG 2 ?_;refine kN ?_;refine kO 1 (l.getD (Int.toNat k) default) ?_;intro dy H;refine kN ?_;exact kX 6
     intro bX hM;refine W.exit ?_;obtain rfl:=M.e_inr hM bW;replace hM:=bU;exact kR0 0
    intro bL hM;obtain ⟨dz,hM⟩:=M.e_gq hM;refine kI 9 ?_ ?_
    ·intro bY hM;refine kg 12 ?_;obtain ⟨bZ,bH,b4⟩:=M.e_bind hM;obtain ⟨bC,bH⟩:=M.e_iter bH;refine W.loop (fun m σ W=>∃ (i3:Int) (j2:Int) (B_mem2:Base) (ρ:Env),σ=upds ρ [(0,ak),(2,I m_),(4,.func (.func 80) #[] #[Pq ay]),(14,I i3),(15,I j2)]/\M.iterN (zbq data m_ aa ab ac ae ah ai aj al am ao aq au av aw) m (i3,j2)=some bZ/\St w W [cOwn (α:=Dem) 98 ak data,cMem encDm ax B_mem2 (zaa aa ab ac ae ah ai aj)] R) ?_ ?_
     ·exact kY
     rintro dA σ dB ⟨i3,j2,B_mem2,ρ,rfl,b5,H⟩;obtain ⟨dC,dD,dE,hM,b6⟩:=M.e_iterN b5;refine kI 7 ?_ ?_
     ·intro b7 hM;obtain ⟨dF,hM⟩:=M.e_gq hM;obtain ⟨dG,hM⟩:=M.e_gq hM;refine kg 7 ?_;refine s_val (x_convU (kd:=.i64) (a:=i3+j2) Tryz.underlying3 Tryz.underlying226 rfl (by omega))<|s_val (x_ushr1 (a:=i3+j2) rfl rfl) ?_;obtain ⟨dH,hM⟩:=M.e_gq hM;refine s_val (x_conv64 (kd:=.u64) (a:=(i3+j2) / 2) Tryz.underlying226 Tryz.underlying3 rfl (by omega)) ?_;refine kD 3 [0] [9] ?_;intro dJ H;obtain ⟨dK,hM⟩:=M.e_gq hM;obtain ⟨dL,hM⟩:=M.e_gq hM;refine kG 10 ?_;obtain ⟨dM,b8,hM⟩:=M.e_bind hM;refine s_callv (f:=80) rfl cq [.agg #[I ((data.getD (Int.toNat m_) default).spring),I ((data.getD (Int.toNat m_) default).town)],.agg #[I ((data.getD (Int.toNat ((i3+j2) / 2)) default).spring),I ((data.getD (Int.toNat ((i3+j2) / 2)) default).town)]] rfl (zbL (data.getD (Int.toNat m_) default) (data.getD (Int.toNat ((i3+j2) / 2)) default) aa ab ac ae ah ai aj al am ao aq au av aw (aA.app _) aB (aC.app _) aD (aE.app _) aF (aG.app _) aH (aI.app _) aJ (aK.app _) (aL.app _) (aM.app _) aN (aO.app _) aP (aQ.app _) aR (aS.app _) aT (aU.app _) aV (aW.app _) (aX.app _) (aY.app _) b8 _ ((H.pk [1,0]).gt 1)) ?_
      rintro _ dN ⟨r3,dO,rfl,rfl,az⟩;replace H:=H.pk [1,0] |>.bk az
      refine kN ?_;refine kI 3 ?_ ?_
      ·intro b9 hM;exact kXp 5 [1,0]
      intro b9 hM;exact kXp 4 [1,0]
     intro b7 hM;refine W.exit ?_;obtain rfl:=M.e_inr hM b6;replace hM:=b4;refine kg 7 ?_;obtain ⟨cb,bI,cc⟩:=M.e_bind hM;obtain ⟨bC,bI⟩:=M.e_iter bI;refine W.loop (fun m σ W=>∃ (l3:List Dem) (k2:Int) (ρ:Env),σ=upds ρ [(0,ak),(14,I i3),(17,I k2)]/\M.iterN (zaK i3) m (l3,k2)=some cb/\St w W [cOwn (α:=Dem) 98 ak l3,cMem encDm ax B_mem2 (zaa aa ab ac ae ah ai aj)] R) ?_ ?_
     ·exact kY
     rintro dP σ dQ ⟨l3,k2,ρ,rfl,cd,H⟩;obtain ⟨dR,dS,dU,hM,ce⟩:=M.e_iterN cd;refine kI 7 ?_ ?_
     ·intro cf hM;refine kDT 3 [1] (.q 0 (.q 1 (.q 2 (.q 3 (.q 4 (.q 5 (.q 6 (.q 7 (.q 10 (.q 11 (.l2 8 (.l2 9 (.l 12 (.l 13 (.l 14 (.l 15 (.l 16 (.l 17 .nil)))))) 12 (.l2 9 (.l 13 (.l 14 (.l 15 (.l 16 (.l 17 .nil))))) 13 (.l 9 (.l 14 (.l 15 (.l 16 (.l 17 .nil))))))) 12 (.l2 8 (.l2 9 (.l 13 (.l 14 (.l 15 (.l 16 (.l 17 .nil))))) 13 (.l 9 (.l 14 (.l 15 (.l 16 (.l 17 .nil)))))) 13 (.l 8 (.l 9 (.l 14 (.l 15 (.l 16 (.l 17 .nil)))))))))))))))))) ?_;intro dV H;obtain ⟨dW,hM⟩:=M.e_gq hM;obtain ⟨dX,hM⟩:=M.e_gq hM;obtain ⟨dY,hM⟩:=M.e_gq hM;obtain ⟨dZ,hM⟩:=M.e_gq hM;refine kg 10 ?_;refine t_l2 rfl rfl ?_ ?_
      ·refine kG 1 ?_;refine kN ?_;refine t_l2 rfl rfl ?_ ?_
       ·refine kG 1 ?_;refine kN ?_;refine kG 2 ?_;refine kN ?_;refine kG 2 ?_;refine kN ?_;refine kG 2 ?_;refine kN ?_;refine kO 1 (l3.getD (Int.toNat (k2-1)) default) ?_;intro d4 H;refine kN ?_;refine kG 2 ?_;refine kN ?_;refine kO 1 (l3.getD (Int.toNat k2) default) ?_;intro d5 H;refine kN ?_;exact kX 6
       refine kG 1 ?_;refine kN ?_;refine t_l2 rfl rfl ?_ ?_
       ·refine kG 1 ?_;refine kN ?_;refine kG 2 ?_;refine kN ?_;refine kG 2 ?_;refine kN ?_;refine kO 1 (l3.getD (Int.toNat (k2-1)) default) ?_;intro d6 H;refine kN ?_;refine kG 2 ?_;refine kN ?_;refine kO 1 (l3.getD (Int.toNat k2) default) ?_;intro d7 H;refine kN ?_;exact kX 6
       refine kG 1 ?_;refine kN ?_;refine kG 2 ?_;refine kN ?_;refine kG 2 ?_;refine kN ?_;refine kO 1 (l3.getD (Int.toNat (k2-1)) default) ?_;intro d8 H;refine kN ?_;refine kG 2 ?_;refine kN ?_;refine kO 1 (l3.getD (Int.toNat k2) default) ?_;intro d9 H;refine kN ?_;exact kX 6
      refine kG 1 ?_;refine kN ?_;refine t_l2 rfl rfl ?_ ?_
      ·refine kG 1 ?_;refine kN ?_;refine t_l2 rfl rfl ?_ ?_
       ·refine kG 1 ?_;refine kN ?_;refine kG 2 ?_;refine kN ?_;refine kG 2 ?_;refine kN ?_;refine kO 1 (l3.getD (Int.toNat (k2-1)) default) ?_;intro eb H;refine kN ?_;refine kG 2 ?_;refine kN ?_;refine kO 1 (l3.getD (Int.toNat k2) default) ?_;intro ec H;refine kN ?_;exact kX 6
       refine kG 1 ?_;refine kN ?_;refine kG 2 ?_;refine kN ?_;refine kG 2 ?_;refine kN ?_;refine kO 1 (l3.getD (Int.toNat (k2-1)) default) ?_;intro ed H;refine kN ?_;refine kG 2 ?_;refine kN ?_;refine kO 1 (l3.getD (Int.toNat k2) default) ?_;intro ee H;refine kN ?_;exact kX 6
      refine kG 1 ?_;refine kN ?_;refine kG 2 ?_;refine kN ?_;refine kG 2 ?_;refine kN ?_;refine kG 2 ?_;refine kN ?_;refine kO 1 (l3.getD (Int.toNat (k2-1)) default) ?_;intro ef H;refine kN ?_;refine kG 2 ?_;refine kN ?_;refine kO 1 (l3.getD (Int.toNat k2) default) ?_;intro eg H;refine kN ?_;exact kX 6
     intro cf hM;refine W.exit ?_;obtain rfl:=M.e_inr hM ce;replace hM:=cc;exact kR0 0
    intro bY hM;obtain ⟨eh,hM⟩:=M.e_gq hM;obtain ⟨ej,hM⟩:=M.e_gq hM;refine kg 6 ?_;refine s_val (x_convU (kd:=.i64) (a:=a+b) Tryz.underlying3 Tryz.underlying226 rfl (by omega))<|s_val (x_ushr1 (a:=a+b) rfl rfl) ?_;obtain ⟨em,hM⟩:=M.e_gq hM;refine s_val (x_conv64 (kd:=.u64) (a:=(a+b) / 2) Tryz.underlying226 Tryz.underlying3 rfl (by omega)) ?_;obtain ⟨ep,hM⟩:=M.e_gq hM;refine kg 14 ?_;refine W.seqJ (fun σ W=>∃ (start:Int) (r4:Int) (ρ:Env),σ=upds ρ [(0,ak),(1,I a),(2,I m_),(3,I b),(4,.func (.func 80) #[] #[Pq ay]),(18,I ((a+b) / 2)),(19,I (((a+b) / 2)+m_)),(20,I start),(21,I r4)]/\(zaB data a m_ b aa ab ac ae ah ai aj al am ao aq au av aw (M.fixN zan n_) start r4).Ends r/\St w W [cOwn (α:=Dem) 98 ak data,cMem encDm ax B_b_cmp2020207 (zaa aa ab ac ae ah ai aj)] R) ?_ ?_
    ·refine kI 6 ?_ ?_
     ·intro cg hM;obtain ⟨eq,hM⟩:=M.e_gq hM;refine kg 11 ?_;exact ⟨(((a+b) / 2)+m_)-b,(a+b) / 2,_,jQ,hM,H⟩
     intro cg hM;refine kg 9 ?_;exact ⟨a,m_,_,jQ,hM,H⟩
    rintro _ er ⟨start,r4,ρ,rfl,hM,H⟩;unfold zaB at hM;obtain ⟨eu,hM⟩:=M.e_gq hM;refine kg 8 ?_;obtain ⟨ch,bJ,ck⟩:=M.e_bind hM;obtain ⟨bC,bJ⟩:=M.e_iter bJ;refine W.loop (fun m σ W=>∃ (start2:Int) (r6:Int) (B_mem3:Base) (ρ:Env),σ=upds ρ [(0,ak),(1,I a),(2,I m_),(3,I b),(4,.func (.func 80) #[] #[Pq ay]),(18,I ((a+b) / 2)),(19,I (((a+b) / 2)+m_)),(20,I start2),(21,I r6),(22,I ((((a+b) / 2)+m_)-1))]/\M.iterN (za0 data a m_ b aa ab ac ae ah ai aj al am ao aq au av aw) m (start2,r6)=some ch/\St w W [cOwn (α:=Dem) 98 ak data,cMem encDm ax B_mem3 (zaa aa ab ac ae ah ai aj)] R) ?_ ?_
    ·exact kY
    rintro ew σ ez ⟨start2,r6,B_mem3,ρ,rfl,cn,H⟩;obtain ⟨eA,eB,eC,hM,cp⟩:=M.e_iterN cn;refine kI 7 ?_ ?_
    ·intro ct hM;obtain ⟨eD,hM⟩:=M.e_gq hM;obtain ⟨eE,hM⟩:=M.e_gq hM;refine kg 7 ?_;refine s_val (x_convU (kd:=.i64) (a:=start2+r6) Tryz.underlying3 Tryz.underlying226 rfl (by omega))<|s_val (x_ushr1 (a:=start2+r6) rfl rfl) ?_;obtain ⟨eF,hM⟩:=M.e_gq hM;refine s_val (x_conv64 (kd:=.u64) (a:=(start2+r6) / 2) Tryz.underlying226 Tryz.underlying3 rfl (by omega)) ?_;refine kD 3 [0] [11] ?_;intro eG H;obtain ⟨eH,hM⟩:=M.e_gq hM;obtain ⟨eI,hM⟩:=M.e_gq hM;obtain ⟨eJ,hM⟩:=M.e_gq hM;refine kG 12 ?_;obtain ⟨eK,cu,hM⟩:=M.e_bind hM;refine s_callv (f:=80) rfl cq [.agg #[I ((data.getD (Int.toNat (((((a+b) / 2)+m_)-1)-((start2+r6) / 2))) default).spring),I ((data.getD (Int.toNat (((((a+b) / 2)+m_)-1)-((start2+r6) / 2))) default).town)],.agg #[I ((data.getD (Int.toNat ((start2+r6) / 2)) default).spring),I ((data.getD (Int.toNat ((start2+r6) / 2)) default).town)]] rfl (zbL (data.getD (Int.toNat (((((a+b) / 2)+m_)-1)-((start2+r6) / 2))) default) (data.getD (Int.toNat ((start2+r6) / 2)) default) aa ab ac ae ah ai aj al am ao aq au av aw (aA.app _) aB (aC.app _) aD (aE.app _) aF (aG.app _) aH (aI.app _) aJ (aK.app _) (aL.app _) (aM.app _) aN (aO.app _) aP (aQ.app _) aR (aS.app _) aT (aU.app _) aV (aW.app _) (aX.app _) (aY.app _) cu _ ((H.pk [1,0]).gt 1)) ?_
     rintro _ eL ⟨r5,eM,rfl,rfl,az⟩;replace H:=H.pk [1,0] |>.bk az
     refine kN ?_;refine kI 3 ?_ ?_
     ·intro cw hM;exact kXp 5 [1,0]
     intro cw hM;exact kXp 4 [1,0]
    intro ct hM;refine W.exit ?_;obtain rfl:=M.e_inr hM cp;replace hM:=ck;obtain ⟨eO,hM⟩:=M.e_gq hM;refine kg 7 ?_;refine W.seqJ (fun σ W=>∃ (l5:List Dem) (ρ:Env),σ=upds ρ [(0,ak),(1,I a),(3,I b),(4,.func (.func 80) #[] #[Pq ay]),(18,I ((a+b) / 2)),(20,I start2),(24,I ((((a+b) / 2)+m_)-start2))]/\(zav a m_ b aa ab ac ae ah ai aj al am ao aq au av aw (M.fixN zan n_) start2 l5).Ends r/\St w W [cOwn (α:=Dem) 98 ak l5,cMem encDm ax B_mem3 (zaa aa ab ac ae ah ai aj)] R) ?_ ?_
    ·refine kI 11 ?_ ?_
     ·intro cA hM;refine kC 6 @zeT ?_;intro eP l_data hM H;refine s_nil ?_;exact ⟨l_data,_,jQ,hM,H⟩
     intro cA hM;refine W.skip ?_;exact ⟨data,_,jQ,hM,H⟩
    rintro _ eQ ⟨l5,ρ,rfl,hM,H⟩;unfold zav at hM;refine W.seqJ (fun σ W=>∃ (l6:List Dem) (B_mem4:Base) (ρ:Env),σ=upds ρ [(0,ak),(3,I b),(4,.func (.func 80) #[] #[Pq ay]),(18,I ((a+b) / 2)),(24,I ((((a+b) / 2)+m_)-start2))]/\(zaw a m_ b aa ab ac ae ah ai aj al am ao aq au av aw (M.fixN zan n_) start2 l6).Ends r/\St w W [cOwn (α:=Dem) 98 ak l6,cMem encDm ax B_mem4 (zaa aa ab ac ae ah ai aj)] R) ?_ ?_
    ·refine kI 11 ?_ ?_
     ·intro cB hM;refine kg 6 ?_;obtain ⟨eR,cC,hM⟩:=M.e_bind hM;refine s_call cq [ak,I a,I start2,I ((a+b) / 2),.func (.func 80) #[] #[Pq ay]] rfl (ih l5 a start2 ((a+b) / 2) aa ab ac ae ah ai aj al am ao aq au av aw (aA.app _) aB (aC.app _) aD (aE.app _) aF (aG.app _) aH (aI.app _) aJ (aK.app _) (aL.app _) (aM.app _) aN (aO.app _) aP (aQ.app _) aR (aS.app _) aT (aU.app _) aV (aW.app _) (aX.app _) (aY.app _) cC _ (H.gt 0)) ?_;rintro _ eS ⟨l_data2,cD,rfl,rfl,az⟩;replace H:=H.bk az;refine s_nil ?_;exact ⟨l_data2,cD,_,jQ,hM,H⟩
     intro cB hM;refine W.skip ?_;exact ⟨l5,B_mem3,_,jQ,hM,H⟩
    rintro _ eT ⟨l6,B_mem4,ρ,rfl,hM,H⟩;unfold zaw at hM;refine kI 11 ?_ ?_
    ·intro cE hM;refine kg 6 ?_;obtain ⟨eU,cF,hM⟩:=M.e_bind hM;refine s_call cq [ak,I ((a+b) / 2),I ((((a+b) / 2)+m_)-start2),I b,.func (.func 80) #[] #[Pq ay]] rfl (ih l6 ((a+b) / 2) ((((a+b) / 2)+m_)-start2) b aa ab ac ae ah ai aj al am ao aq au av aw (aA.app _) aB (aC.app _) aD (aE.app _) aF (aG.app _) aH (aI.app _) aJ (aK.app _) (aL.app _) (aM.app _) aN (aO.app _) aP (aQ.app _) aR (aS.app _) aT (aU.app _) aV (aW.app _) (aX.app _) (aY.app _) cF _ (H.gt 0)) ?_;rintro _ eV ⟨l_data3,cG,rfl,rfl,az⟩;replace H:=H.bk az;refine s_nil ?_;have bE:=M.e_pure hM;exact ⟨_,resE_tmp0 rfl,⟨l_data3,cG,bE,rfl,H⟩⟩
    intro cE hM;refine W.skip ?_;have bE:=M.e_pure hM;exact ⟨_,resE_tmp0 rfl,⟨l6,B_mem4,bE,rfl,H⟩⟩
theorem zdF {R ak ay az aA aB aC aD aE aF aG aH aI aJ aK al B_b_cmp2020207 aL aM aN aO aP aQ aR aS aT aU aV aW aX}(data a m_ b aa ab ac ae ah ai aj am ao aq au av aw ax)(aY:Reads R aB)(aZ:Sl aB aC aa)(a7:Reads R aD)(a8:Sl aD aE ab)(ba:Reads R aF)(bb:Sl aF aG ac)(bc:Reads R aH)(bf:Sl aH aI ae)(bg:Reads R aJ)(bh:Sl aJ aK aj)(bi:Has R (cBlk aA [aC,aE,aG,aI,I ah,I ai,aK,.map (some al)] 118))(bj:Has R (cBlk az [.func (.func 74) #[Pq aA] #[]] 179))(bm:Reads R aN)(bn:Sl aN aO am)(bo:Reads R aP)(bp:Sl aP aQ ao)(br:Reads R aR)(bt:Sl aR aS aq)(bu:Reads R aT)(bv:Sl aT aU au)(bw:Reads R aV)(bx:Sl aV aW ax)(bz:Has R (cBlk aM [aO,aQ,aS,aU,I av,I aw,aW,.map (some aX)] 118))(bA:Has R (cBlk aL [Pq aM] 100))(bB:Has R (cBlk ay [.func (.func 78) #[] #[Pq az,Pq aL]] 182)){r}(hM:(za8 data a m_ b aa ab ac ae ah ai aj am ao aq au av aw ax).Ends r)(w)(H:St w w [cOwn (α:=Dem) 98 ak data,cMem encDm al B_b_cmp2020207 (zaa aa ab ac ae ah ai aj)] R):Ret Tryz.prog 169 #[ak,I a,I m_,I b,.func (.func 80) #[] #[Pq ay]] w fun v w'=>∃ y0 bC,y0=r/\v = .tuple #[]/\St w w' [cOwn (α:=Dem) 98 ak y0,cMem encDm al bC (zaa aa ab ac ae ah ai aj)] R:=by
  obtain ⟨n_,hM⟩:=M.e_fix hM;exact zeA n_ data a m_ b aa ab ac ae ah ai aj am ao aq au av aw ax aY aZ a7 a8 ba bb bc bf bg bh bi bj bm bn bo bp br bt bu bv bw bx bz bA bB hM w H

def zcO (n:Int) (aa:List Int) (ab:List Span) (ac:List Int) (ae:List Town) (ah ai:Int) (aj:List Flood) (ak:List Int) (al:List Span) (am:List Int) (ao:List Town) (aq au:Int) (av:List Flood):((List Dem) × Int × Int)->M (((List Dem) × Int × Int) ⊕ ((List Dem) × Int × (List Dem))):=fun (l,a,b) =>
  bif decide (b<=n) then (
  M.bind (zbv l a b aa ab ac ae ah ai aj ak al am ao aq au av) fun l_data =>
  M.gi (b+20) <|
  M.pure (.inl (l_data,b,b+20)))
  else (
  M.pure (.inr (l,a,l)))
def zc8 (n:Int) (aa:List Int) (ab:List Span) (ac:List Int) (ae:List Town) (ah ai:Int) (aj:List Flood) (ak:List Int) (al:List Span) (am:List Int) (ao:List Town) (aq au:Int) (av:List Flood) (blockSize:Int):((List Dem) × Int × Int)->M (((List Dem) × Int × Int) ⊕ ((List Dem) × Int × (List Dem))):=fun (l4,a3,b2) =>
  bif decide (b2<=n) then (
  M.gi (a3+blockSize) <|
  M.bind (za8 l4 a3 (a3+blockSize) b2 aa ab ac ae ah ai aj ak al am ao aq au av) fun l_data3 =>
  M.gi (b2+(2*blockSize)) <|
  M.pure (.inl (l_data3,b2,b2+(2*blockSize))))
  else (
  M.pure (.inr (l4,a3,l4)))
def zc7 (n:Int) (aa:List Int) (ab:List Span) (ac:List Int) (ae:List Town) (ah ai:Int) (aj:List Flood) (ak:List Int) (al:List Span) (am:List Int) (ao:List Town) (aq au:Int) (av:List Flood):((List Dem) × Int)->M (((List Dem) × Int) ⊕ (List Dem)):=fun (l8,blockSize) =>
  bif decide (blockSize<n) then (
  M.gi (2*blockSize) <|
  M.bind (M.iter (zc8 n aa ab ac ae ah ai aj ak al am ao aq au av blockSize) (l8,0,2*blockSize)) fun (l5,a4,l6) =>
  M.gi (a4+blockSize) <|
  bif decide ((a4+blockSize)<n) then (
  M.bind (za8 l6 a4 (a4+blockSize) n aa ab ac ae ah ai aj ak al am ao aq au av) fun l_data4 =>
  M.gi (blockSize*2) <|
  M.pure (.inl (l_data4,blockSize*2)))
  else (
  M.gi (blockSize*2) <|
  M.pure (.inl (l6,blockSize*2))))
  else (
  M.pure (.inr l8))
def zcc (data:List Dem) (n:Int) (aa:List Int) (ab:List Span) (ac:List Int) (ae:List Town) (ah ai:Int) (aj:List Flood) (ak:List Int) (al:List Span) (am:List Int) (ao:List Town) (aq au:Int) (av:List Flood):M (List Dem) :=
  M.bind (M.iter (zcO n aa ab ac ae ah ai aj ak al am ao aq au av) (data,0,20)) fun (l2,a2,l3) =>
  M.bind (zbv l3 a2 n aa ab ac ae ah ai aj ak al am ao aq au av) fun l_data2 =>
  M.bind (M.iter (zc7 n aa ab ac ae ah ai aj ak al am ao aq au av) (l_data2,20)) fun l9 =>
  M.pure l9
theorem ze0 {R ak am az aA aB aC aD aE aF aG aH aI aJ aK al B_b_cmp2020207 aL aM aN aO aP aQ aR aS aT aU aV aW a8}(data n aa ab ac ae ah ai aj ao aq au av aw ax ay)(bz:Reads R aB)(bA:Sl aB aC aa)(bB:Reads R aD)(bC:Sl aD aE ab)(bD:Reads R aF)(bE:Sl aF aG ac)(bF:Reads R aH)(bG:Sl aH aI ae)(bH:Reads R aJ)(bI:Sl aJ aK aj)(bJ:Has R (cBlk aA [aC,aE,aG,aI,I ah,I ai,aK,.map (some al)] 118))(bK:Has R (cBlk az [.func (.func 74) #[Pq aA] #[]] 179))(bL:Reads R aN)(bM:Sl aN aO ao)(bN:Reads R aP)(bO:Sl aP aQ aq)(bP:Reads R aR)(bQ:Sl aR aS au)(bR:Reads R aT)(bS:Sl aT aU av)(bT:Reads R aV)(bU:Sl aV aW ay)(bV:Has R (cBlk aM [aO,aQ,aS,aU,I aw,I ax,aW,.map (some a8)] 118))(bW:Has R (cBlk aL [Pq aM] 100))(bX:Has R (cBlk am [.func (.func 78) #[] #[Pq az,Pq aL]] 182)){r}(hM:(zcc data n aa ab ac ae ah ai aj ao aq au av aw ax ay).Ends r)(w)(H:St w w [cOwn (α:=Dem) 98 ak data,cMem encDm al B_b_cmp2020207 (zaa aa ab ac ae ah ai aj)] R):Ret Tryz.prog 130 #[ak,I n,.func (.func 80) #[] #[Pq am]] w fun v w'=>∃ y0 ba,y0=r/\v = .tuple #[]/\St w w' [cOwn (α:=Dem) 98 ak y0,cMem encDm al ba (zaa aa ab ac ae ah ai aj)] R:=by
 refine ret_of_W Tryz.func130 rfl rfl rfl ?_;refine kg 12 ?_;obtain ⟨bb,aX,bc⟩:=M.e_bind hM;obtain ⟨aY,aX⟩:=M.e_iter aX;refine W.loop (fun m σ W=>∃ (l:List Dem) (a:Int) (b:Int) (B_mem:Base) (ρ:Env),σ=upds ρ [(0,ak),(1,I n),(2,.func (.func 80) #[] #[Pq am]),(6,I 20),(7,I a),(8,I b)]/\M.iterN (zcO n aa ab ac ae ah ai aj ao aq au av aw ax ay) m (l,a,b)=some bb/\St w W [cOwn (α:=Dem) 98 ak l,cMem encDm al B_mem (zaa aa ab ac ae ah ai aj)] R) ?_ ?_
 ·exact kY
 rintro bY σ bZ ⟨l,a,b,B_mem,ρ,rfl,bf,H⟩;obtain ⟨b4,b5,b6,hM,bg⟩:=M.e_iterN bf;refine kI 7 ?_ ?_
 ·intro bh hM;refine kC 8 @zdw ?_;intro b7 l_data b8 hM H;obtain ⟨b9,hM⟩:=M.e_gq hM;exact kX 12
 intro bh hM;refine W.exit ?_;obtain rfl:=M.e_inr hM bg;replace hM:=bc;refine kC 6 @zdw ?_;intro cb l_data2 cc hM H;refine kg 2 ?_;obtain ⟨bi,aZ,bj⟩:=M.e_bind hM;obtain ⟨aY,aZ⟩:=M.e_iter aZ;refine W.loop (fun m σ W=>∃ (l8:List Dem) (blockSize:Int) (B_mem4:Base) (ρ:Env),σ=upds ρ [(0,ak),(1,I n),(2,.func (.func 80) #[] #[Pq am]),(6,I blockSize)]/\M.iterN (zc7 n aa ab ac ae ah ai aj ao aq au av aw ax ay) m (l8,blockSize)=some bi/\St w W [cOwn (α:=Dem) 98 ak l8,cMem encDm al B_mem4 (zaa aa ab ac ae ah ai aj)] R) ?_ ?_
 ·exact kY
 rintro cd σ ce ⟨l8,blockSize,B_mem4,ρ,rfl,bm,H⟩;obtain ⟨cf,cg,ch,hM,bn⟩:=M.e_iterN bm;refine kI 7 ?_ ?_
 ·intro bo hM;obtain ⟨ck,hM⟩:=M.e_gq hM;refine kg 11 ?_;obtain ⟨bp,a7,br⟩:=M.e_bind hM;obtain ⟨aY,a7⟩:=M.e_iter a7;refine W.loop (fun m σ W=>∃ (l4:List Dem) (a3:Int) (b2:Int) (B_mem2:Base) (ρ:Env),σ=upds ρ [(0,ak),(1,I n),(2,.func (.func 80) #[] #[Pq am]),(6,I blockSize),(7,I a3),(8,I b2)]/\M.iterN (zc8 n aa ab ac ae ah ai aj ao aq au av aw ax ay blockSize) m (l4,a3,b2)=some bp/\St w W [cOwn (α:=Dem) 98 ak l4,cMem encDm al B_mem2 (zaa aa ab ac ae ah ai aj)] R) ?_ ?_
  ·exact kY
  rintro cn σ cp ⟨l4,a3,b2,B_mem2,ρ,rfl,bt,H⟩;obtain ⟨ct,cu,cw,hM,bu⟩:=M.e_iterN bt;refine kI 7 ?_ ?_
  ·intro bv hM;obtain ⟨cA,hM⟩:=M.e_gq hM;refine kC 11 @zdF ?_;intro cB l_data3 cC hM H;obtain ⟨cD,hM⟩:=M.e_gq hM;exact kX 13
  intro bv hM;refine W.exit ?_;obtain rfl:=M.e_inr hM bu;replace hM:=br;obtain ⟨cE,hM⟩:=M.e_gq hM;refine kI 14 ?_ ?_
  ·intro bw hM;refine kC 6 @zdF ?_;intro cF l_data4 cG hM H;obtain ⟨cH,hM⟩:=M.e_gq hM;exact kX 6
  intro bw hM;obtain ⟨cI,hM⟩:=M.e_gq hM;exact kX 6
 intro bo hM;refine W.exit ?_;obtain rfl:=M.e_inr hM bn;replace hM:=bj;have bx:=M.e_pure hM;exact ⟨_,resE_tmp0 rfl,⟨l8,B_mem4,bx,rfl,H⟩⟩

def zbS (x:List Dem) (aa:List Int) (ab:List Span) (ac:List Int) (ae:List Town) (ah ai:Int) (aj:List Flood) (ak:List Int) (al:List Span) (am:List Int) (ao:List Town) (aq au:Int) (av:List Flood):M (List Dem) :=
  M.bind (zcc x (x.length:Int) aa ab ac ae ah ai aj ak al am ao aq au av) fun l_data =>
  M.pure l_data
theorem zfD {R ak am ao aq au av aw ax ay az aA aB aC aD al B_b_cmp2020207 aE aF aG aH aI aJ aK aL aM aN aO aP aX}(x aa ab ac ae ah ai aj aQ aR aS aT aU aV aW)(a8:Reads R au)(ba:Sl au av aa)(bb:Reads R aw)(bc:Sl aw ax ab)(bf:Reads R ay)(bg:Sl ay az ac)(bh:Reads R aA)(bi:Sl aA aB ae)(bj:Reads R aC)(bm:Sl aC aD aj)(bn:Has R (cBlk aq [av,ax,az,aB,I ah,I ai,aD,.map (some al)] 118))(bo:Has R (cBlk ao [.func (.func 74) #[Pq aq] #[]] 179))(bp:Reads R aG)(br:Sl aG aH aQ)(bt:Reads R aI)(bu:Sl aI aJ aR)(bv:Reads R aK)(bw:Sl aK aL aS)(bx:Reads R aM)(bz:Sl aM aN aT)(bA:Reads R aO)(bB:Sl aO aP aW)(bC:Has R (cBlk aF [aH,aJ,aL,aN,I aU,I aV,aP,.map (some aX)] 118))(bD:Has R (cBlk aE [Pq aF] 100))(bE:Has R (cBlk am [.func (.func 78) #[] #[Pq ao,Pq aE]] 182)){r}(hM:(zbS x aa ab ac ae ah ai aj aQ aR aS aT aU aV aW).Ends r)(w)(H:St w w [cOwn (α:=Dem) 98 ak x,cMem encDm al B_b_cmp2020207 (zaa aa ab ac ae ah ai aj)] R):Ret Tryz.prog 79 #[ak,.func (.func 80) #[] #[Pq am]] w fun v w'=>∃ y0 aY,y0=r/\v = .tuple #[]/\St w w' [cOwn (α:=Dem) 98 ak y0,cMem encDm al aY (zaa aa ab ac ae ah ai aj)] R:=by
 refine ret_of_W Tryz.func79 rfl rfl rfl ?_;have bF:=((H.os 0)).len_le;refine kC 5 @ze0 ?_;intro bG l_data aZ hM H;refine s_nil ?_;have a7:=M.e_pure hM;exact ⟨_,resE_tmp0 rfl,⟨l_data,aZ,a7,rfl,H⟩⟩

end Go.Proofs.YtbgoclcmgbpckaaGreat
end
section
set_option maxRecDepth 100000
set_option maxHeartbeats 16000000
namespace Go.Proofs.YtbgoclcmgbpckaaGreat
open Go Go.Nm
attribute [local irreducible] gd execOp SL SLD SLT WR
def zbj (ar:List Bool) (r4:List Int):Nat->M (Nat ⊕ (Unit ⊕ Unit)):=fun s =>
  bif decide ((s:Int)<(r4.length:Int)) then (
  M.grd (decide ((s:Int)<(r4.length:Int))) <|
  M.grd (decide ((0:Int)<=(r4.getD s 0))&&decide ((r4.getD s 0)<(12:Int))) <|
  bif ar.getD (Int.toNat (r4.getD s 0)) false then (
  M.pure (.inr (.inl ())))
  else (
  M.pure (.inl (s+1))))
  else (
  M.pure (.inr (.inr ())))
def za5 (aa:List Int) (ab:List Span) (ac:List Int) (ae:List Town) (ah ai:Int) (aj:List Flood) (l_x:List Dem):(Nat × (List Bool) × (List Int) × (List Dem))->M ((Nat × (List Bool) × (List Int) × (List Dem)) ⊕ ((List Int) × (List Dem) × (List Int) × (List Dem) × (List Bool))):=fun (s2,ar,l,l2) =>
  bif decide ((s2:Int)<(l_x.length:Int)) then (
  M.grd (decide ((s2:Int)<(l_x.length:Int))) <|
  M.bind (zaa aa ab ac ae ah ai aj (l_x.getD s2 default)) fun r4 =>
  M.bind (M.iter (zbj ar r4) 0) fun x_=>match x_ with
  | (.inl (_:Unit))=>(
  M.pure (.inl (s2+1,ar,l,l2)))
  | (.inr (_:Unit))=>(
  M.grd (decide ((0:Int)<=((r4.length:Int)-1))&&decide (((r4.length:Int)-1)<(r4.length:Int))) <|
  M.grd (decide ((0:Int)<=(r4.getD (Int.toNat ((r4.length:Int)-1)) 0))&&decide ((r4.getD (Int.toNat ((r4.length:Int)-1)) 0)<(12:Int))) <|
  M.grd (decide ((l.length+([(r4.getD (Int.toNat ((r4.length:Int)-1)) 0:Int)]).length)*8<=140737488355328)) <|
  M.grd (decide ((l2.length+([(l_x.getD s2 default)]).length)*16<=140737488355328)) <|
  M.pure (.inl (s2+1,ar.set (Int.toNat (r4.getD (Int.toNat ((r4.length:Int)-1)) 0)) true,l++([(r4.getD (Int.toNat ((r4.length:Int)-1)) 0:Int)]),l2++([(l_x.getD s2 default)])))))
  else (
  M.pure (.inr (l,l2,l,l2,ar)))
def zaM (aa:List Int) (ab:List Span) (ac:List Int) (ae:List Town) (ah ai:Int) (aj:List Flood):M ((List Int) × (List Dem) × Bool) :=
  M.bind (zam aa ab ac ae ah ai aj) fun r2 =>
  M.bind (zbK r2 aa ab ac ae ah ai aj) fun r3 =>
  bif !r3 then (
  M.pure (([]),([]),false))
  else (
  M.bind (zbS r2 aa ab ac ae ah ai aj aa ab ac ae ah ai aj) fun l_x =>
  M.bind (M.iter (za5 aa ab ac ae ah ai aj l_x) (0,List.replicate 12 false,[],[])) fun (l3,l4,l5,l6,ak) =>
  M.grd (decide (l5.length<=1000000)) <|
  M.pure ((isort l5),l6,true))
theorem zfr {R aq aR aS aT aU aV aW aX aY aZ a7 au bj}(aa ab ac ae ah ai aj)(az:Reads R aR)(aA:Sl aR aS aa)(aB:Reads R aT)(aC:Sl aT aU ab)(aD:Reads R aV)(aE:Sl aV aW ac)(aF:Reads R aX)(aG:Sl aX aY ae)(aH:Reads R aZ)(aI:Sl aZ a7 aj)(aJ:Has R (cBlk aq [aS,aU,aW,aY,I ah,I ai,a7,.map (some au)] 118)){r}(hM:(zaM aa ab ac ae ah ai aj).Ends r)(w)(H:St w w [cMem encDm au bj (zaa aa ab ac ae ah ai aj)] R):Ret Tryz.prog 35 #[Pq aq] w fun v w'=>∃ y0 y1 y2 u0 u1 bm,(y0,y1,y2)=r/\v = .tuple #[u0,u1,B y2]/\St w w' [cOwn (α:=Int) 3 u0 y0,cOwn (α:=Dem) 98 u1 y1,cMem encDm au bm (zaa aa ab ac ae ah ai aj)] R:=by
 refine ret_of_W Tryz.func35 rfl rfl rfl ?_;refine kB 2 ?_;intro bn bQ H;refine kg 4 ?_;refine W.scope ?_;refine kC 3 @zc0 ?_;intro bR r2 av hM H;refine kg 5 ?_;refine s_val (x_mf (fs:=[Pq aq]) (cs:=[]) rfl rfl) ?_;refine kal ?_;intro al bS H;refine ksw ?_;intro bT H;refine kg 5 ?_;refine s_val (x_mf (fs:=[]) (cs:=[Pq al]) rfl rfl) ?_;obtain ⟨bU,bo,hM⟩:=M.e_bind hM;refine s_call cq [av,.func (.func 77) #[] #[Pq al]] rfl (zfh r2 aa ab ac ae ah ai aj (rdo 1) (H.os 1) (az.app _) aA (aB.app _) aC (aD.app _) aE (aF.app _) aG (aH.app _) aI (aJ.app _) (Has.here (k:=0) rfl) bo _ ((H.pk [3,0,1,2]).gt 3)) ?_;rintro _ bV ⟨r3,bp,rfl,rfl,ax⟩;replace H:=H.pk [3,0,1,2] |>.bk ax
 refine kI 2 ?_ ?_
 ·intro br hM;refine kg 6 ?_;replace H:=H.pk [0];refine W.ret ?_;have bt:=M.e_pure hM;replace H:=H.nilOwn (α:=Int) 3;replace H:=H.nilOwn (α:=Dem) 98;exact ⟨_,resE_tmp3 rfl,⟨([]),([]),false,(.slice none 0 0),(.slice none 0 0),bp,bt,rfl,(H.pk [1,0,2])⟩⟩
 intro br hM;refine kg 3 ?_;refine s_val (x_mf (fs:=[]) (cs:=[Pq al,Pq bn]) rfl rfl) ?_;refine kal ?_;intro a8 bW H;refine ksw ?_;intro bX H;refine kg 4 ?_;refine s_val (x_mf (fs:=[]) (cs:=[Pq a8]) rfl rfl) ?_;obtain ⟨bY,bu,hM⟩:=M.e_bind hM;refine s_call cq [av,.func (.func 80) #[] #[Pq a8]] rfl (zfD r2 aa ab ac ae ah ai aj aa ab ac ae ah ai aj (az.app _) aA (aB.app _) aC (aD.app _) aE (aF.app _) aG (aH.app _) aI (aJ.app _) (Has.here (k:=1) rfl) (az.app _) aA (aB.app _) aC (aD.app _) aE (aF.app _) aG (aH.app _) aI (aJ.app _) (Has.here (k:=2) rfl) (Has.here (k:=0) rfl) bu _ ((H.pk [3,1,0,2,4]).gt 3)) ?_;rintro _ bZ ⟨l_x,bv,rfl,rfl,ax⟩;replace H:=H.pk [3,1,0,2,4] |>.bk ax
 refine s_nil ?_;replace H:=H.pk [0,1,3];refine kA 2 ?_;intro am b4 H;have bw:(List.replicate 12 false).length=12:=by simp
 refine kg 10 ?_;refine W.label ?_;have b5:=((H.os 1)).len_le;refine kg 8 ?_;replace H:=H.nilOwn (α:=Dem) 98;replace H:=H.nilOwn (α:=Int) 3;obtain ⟨bx,aO,bz⟩:=M.e_bind hM;obtain ⟨bA,aO⟩:=M.e_iter aO;refine W.loop (fun m σ W=>∃ (s2:Nat) (ar:List Bool) (l:List Int) (l2:List Dem) (ak:Value) (ao:Value) (B_mem:Base) (ρ:Env),σ=upds ρ [(6,Pq al),(8,Pq am),(9,ak),(10,ao),(29,av),(30,I (l_x.length:Int)),(31,I (s2:Int))]/\M.iterN (za5 aa ab ac ae ah ai aj l_x) m (s2,ar,l,l2)=some bx/\St w W [cOwn (α:=Int) 3 ak l,cOwn (α:=Dem) 98 ao l2,cBlk am (encB ar) 106,cOwn (α:=Dem) 98 av l_x,cMem encDm au B_mem (zaa aa ab ac ae ah ai aj),cBlk al [.func (.func 74) #[Pq aq] #[]] 179] R/\ar.length=12) ?_ ?_
 ·exact ⟨_,0,List.replicate 12 false,[],[],(.slice none 0 0),(.slice none 0 0),bv,_,jQ,aO,H,bw⟩
 rintro b6 σ b7 ⟨s2,ar,l,l2,ak,ao,B_mem,ρ,rfl,bB,H,aK⟩;obtain ⟨aL,aM,b8,hM,ay⟩:=M.e_iterN bB;refine kI 5 ?_ ?_
 ·intro bC hM;obtain ⟨b9,hM⟩:=M.e_gq hM;refine kA 7 ?_;intro aP cb H;refine ksw ?_;intro cc H;refine kg 5 ?_;obtain ⟨cd,bD,hM⟩:=M.e_bind hM;refine s_callm (f:=74) (fs:=[Pq aq]) rfl cq [.agg #[I ((l_x.getD s2 default).spring),I ((l_x.getD s2 default).town)]] rfl (zb7 aa ab ac ae ah ai aj (l_x.getD s2 default) (az.app _) aA (aB.app _) aC (aD.app _) aE (aF.app _) aG (aH.app _) aI (aJ.app _) bD _ ((H.pk [5,0,1,2,3,4,6]).gt 6)) ?_;rintro vq ce ⟨r4,ba,aw,rfl,hvq,ax,aN⟩;subst vq;replace H:=H.pk [5,0,1,2,3,4,6] |>.bk ax
  have cf:=(aN).len_le;refine kg 10 ?_;obtain ⟨bE,bb,bc⟩:=M.e_bind hM;obtain ⟨bA,bb⟩:=M.e_iter bb;refine W.loop (fun m σ W=>∃ (s:Nat) (ρ:Env),σ=upds ρ [(6,Pq al),(8,Pq am),(9,ak),(10,ao),(12,Pq aP),(13,ba),(29,av),(30,I (l_x.length:Int)),(31,I (s2:Int)),(38,ba),(39,I (r4.length:Int)),(40,I (s:Int))]/\M.iterN (zbj ar r4) m s=some bE/\St w W [cMem encDm au aw (zaa aa ab ac ae ah ai aj),cBlk aP [I ((l_x.getD s2 default).spring),I ((l_x.getD s2 default).town)] 98,cOwn (α:=Int) 3 ak l,cOwn (α:=Dem) 98 ao l2,cBlk am (encB ar) 106,cOwn (α:=Dem) 98 av l_x,cBlk al [.func (.func 74) #[Pq aq] #[]] 179] R) ?_ ?_
  ·exact kY
  rintro cg σ ch ⟨s,ρ,rfl,bF,H⟩;obtain ⟨ck,cn,cp,hM,bf⟩:=M.e_iterN bF;refine kI 5 ?_ ?_
  ·intro bG hM;obtain ⟨ct,hM⟩:=M.e_gq hM;refine kg 6 ?_;refine s_val (x_ld (v:=I (r4.getD s 0)) rfl (ld_sc Sc3.h (At.mono (Int_at aN (i:=(s:Int)) (by omega) (by omega)) (memLe _ (H.get (k:=0) rfl))))) ?_;obtain ⟨cu,hM⟩:=M.e_gq hM;refine kg 5 ?_;refine s_val (x_ix (v:=.pointer (some ⟨am,0+Int.toNat (r4.getD s 0),none⟩)) rfl rfl (run_indexArr Tryz.underlying106 Sz4.h (by omega) (by omega)))<|s_val (x_ld (v:=B (ar.getD (Int.toNat (r4.getD s 0)) false)) rfl (ldArr Sc4.h (H.bl 4) (by omega) (by have bH:=aK; omega))) ?_;refine kI 1 ?_ ?_
   ·intro bI hM;refine W.exit ?_;obtain rfl:=M.e_inr hM bf;replace hM:=bc;refine kg 4 ?_;exact ⟨aL,aM,s2+1,ar,l,l2,ak,ao,aw,_,jQ,M.e_inl hM ay,(H.pk [2,3,4,5,0,6]),aK⟩
   intro bI hM;exact kX 5
  intro bG hM;refine W.exit ?_;obtain rfl:=M.e_inr hM bf;replace hM:=bc;have cw:=(aN).len_le;obtain ⟨cA,hM⟩:=M.e_gq hM;refine kg 7 ?_;refine s_val (x_ld (v:=I (r4.getD (Int.toNat ((r4.length:Int)-1)) 0)) rfl (ld_sc Sc3.h (At.mono (Int_at aN (i:=(r4.length:Int)-1) (by omega) (by omega)) (memLe _ (H.get (k:=0) rfl))))) ?_;obtain ⟨cB,hM⟩:=M.e_gq hM;refine kg 5 ?_;refine s_val (x_ix (v:=.pointer (some ⟨am,0+Int.toNat (r4.getD (Int.toNat ((r4.length:Int)-1)) 0),none⟩)) rfl rfl (run_indexArr Tryz.underlying106 Sz4.h (by omega) (by omega))) ?_;refine t_stArr (k:=4) (b:=am) (l:=ar) (l':=ar.set (Int.toNat (r4.getD (Int.toNat ((r4.length:Int)-1)) 0)) true) (i:=r4.getD (Int.toNat ((r4.length:Int)-1)) 0) (v:=true) (L':=[cMem encDm au aw (zaa aa ab ac ae ah ai aj),cBlk aP [I ((l_x.getD s2 default).spring),I ((l_x.getD s2 default).town)] 98,cOwn (α:=Int) 3 ak l,cOwn (α:=Dem) 98 ao l2,cBlk am (encB (ar.set (Int.toNat (r4.getD (Int.toNat ((r4.length:Int)-1)) 0)) true)) 106,cOwn (α:=Dem) 98 av l_x,cBlk al [.func (.func 74) #[Pq aq] #[]] 179]) H rfl rfl rfl Sz4.h (by omega) (by have bH:=aK; omega) rfl rfl ?_;intro cC H;have aQ:(ar.set (Int.toNat (r4.getD (Int.toNat ((r4.length:Int)-1)) 0)) true).length=12:=List.length_set.trans aK;refine kDT 1 [0,1,4,5,6] (.q 0 (.q 1 (.q 4 (.q 5 (.l2 2 (.l2 3 (.l 6 (.l 7 (.q 8 (.q 9 .nil)))) 6 (.l 3 (.l 7 (.q 8 (.q 9 .nil))))) 6 (.l 2 (.l 3 (.l 7 (.q 8 (.q 9 .nil)))))))))) ?_;intro cD H;obtain ⟨cE,hM⟩:=M.e_gq hM;obtain ⟨cF,hM⟩:=M.e_gq hM;refine kg 4 ?_;refine t_l2 rfl rfl ?_ ?_
  ·refine kL 0 (α:=Int) [r4.getD (Int.toNat ((r4.length:Int)-1)) 0] ?_;intro cG cH H;refine kN ?_;refine t_l2 rfl rfl ?_ ?_
   ·refine kP 0 ?_;intro bJ cI H;refine kN ?_;refine kL 1 (α:=Dem) [(l_x.getD s2 default)] ?_;intro cJ cK H;refine kN ?_;refine kP 1 ?_;intro bK cL H;refine kN ?_;refine kg 3 ?_;replace H:=H.pk [2,4,5,6,7,8];refine kg 4 ?_;exact ⟨aL,aM,s2+1,ar.set (Int.toNat (r4.getD (Int.toNat ((r4.length:Int)-1)) 0)) true,l++([(r4.getD (Int.toNat ((r4.length:Int)-1)) 0:Int)]),l2++([(l_x.getD s2 default)]),bJ,bK,aw,_,jQ,M.e_inl hM ay,(H.pk [1,2,3,4,0,5]),aQ⟩
   refine kL 0 (α:=Dem) [(l_x.getD s2 default)] ?_;intro cM cN H;refine kN ?_;refine kP 1 ?_;intro bL cO H;refine kN ?_;refine kP 1 ?_;intro bM cP H;refine kN ?_;refine kg 3 ?_;replace H:=H.pk [2,4,5,6,7,8];refine kg 4 ?_;exact ⟨aL,aM,s2+1,ar.set (Int.toNat (r4.getD (Int.toNat ((r4.length:Int)-1)) 0)) true,l++([(r4.getD (Int.toNat ((r4.length:Int)-1)) 0:Int)]),l2++([(l_x.getD s2 default)]),bL,bM,aw,_,jQ,M.e_inl hM ay,(H.pk [1,2,3,4,0,5]),aQ⟩
  refine kL 0 (α:=Dem) [(l_x.getD s2 default)] ?_;intro cQ cR H;refine kN ?_;refine kL 1 (α:=Int) [r4.getD (Int.toNat ((r4.length:Int)-1)) 0] ?_;intro cS cT H;refine kN ?_;refine kP 1 ?_;intro bN cU H;refine kN ?_;refine kP 1 ?_;intro bO cV H;refine kN ?_;refine kg 3 ?_;replace H:=H.pk [2,4,5,6,7,8];refine kg 4 ?_;exact ⟨aL,aM,s2+1,ar.set (Int.toNat (r4.getD (Int.toNat ((r4.length:Int)-1)) 0)) true,l++([(r4.getD (Int.toNat ((r4.length:Int)-1)) 0:Int)]),l2++([(l_x.getD s2 default)]),bN,bO,aw,_,jQ,M.e_inl hM ay,(H.pk [1,2,3,4,0,5]),aQ⟩
 intro bC hM;refine W.exit ?_;obtain rfl:=M.e_inr hM ay;replace hM:=bz;replace H:=H.pk [0,1,4];obtain ⟨cW,hM⟩:=M.e_gq hM;refine kg 3 ?_;refine s_call cq [ak] rfl (sort_any (H.get (k:=0) rfl) (by omega)) ?_;rintro _ bP ⟨rfl,bg,bh,bi⟩;replace H:St w bP [cOwn (α:=Int) 3 ak (isort l),cOwn (α:=Dem) 98 ao l2,cMem encDm au B_mem (zaa aa ab ac ae ah ai aj)] R:=H.sorted (k:=0) rfl bg bh bi rfl;clear bg bh bi;refine kg 9 ?_;exact rt

def zbp (aa:List Int) (ab:List Span) (ac:List Int) (ae:List Town) (ai aj:Int) (ah:List Flood):M ((List Int) × Int) :=
  M.bind (zas aa ab ac ae ai aj ah) fun x_=>match x_ with
  | (.inl r1)=>(
  bif r1 != 0 then (
  M.pure (([]),r1))
  else (
  M.fail))
  | (.inr (ak,al,am))=>(
  bif am != 0 then (
  M.fail)
  else (
  M.bind (zaM aa ab ac ae ak al ah) fun (r0,ao,r2) =>
  bif !r2 then (
  M.pure (([]),6))
  else (
  M.pure (r0,0))))
theorem zd3 {R aw al ax am ay ao az aq aA au}(ab ac ae ah ai aj ak)(aB:Reads R aw)(aC:Sl aw al ab)(aD:Reads R ax)(aE:Sl ax am ac)(aF:Reads R ay)(aG:Sl ay ao ae)(aH:Reads R az)(aI:Sl az aq ah)(aJ:Reads R aA)(aK:Sl aA au ak){r}(hM:(zbp ab ac ae ah ai aj ak).Ends r)(w)(H:St w w [] R):Ret Tryz.prog 11 #[.agg #[al,am,ao,aq,I ai,I aj,au]] w fun v w'=>∃ y0 y1 u0,(y0,y1)=r/\v = .tuple #[u0,I y1]/\St w w' [cOwn (α:=Int) 3 u0 y0] R:=by
 refine ret_of_W Tryz.func11 rfl rfl rfl ?_;refine kB 2 ?_;intro aV aW H;refine kg 6 ?_;obtain ⟨aX,aL,hM⟩:=M.e_bind hM;refine s_call cq [.agg #[al,am,ao,aq,I ai,I aj,au]] rfl (zbk ab ac ae ah ai aj ak (aB.app _) aC (aD.app _) aE (aF.app _) aG (aH.app _) aI (aJ.app _) aK aL _ (H.gt 1)) ?_;rintro vq aY (⟨r1,aM,hvq,aa⟩ | ⟨aN,aO,aZ,aP,a7,a8,aQ,hvq,aa⟩)
 ·subst aM;subst vq;replace H:=H.bk aa;refine kI 12 ?_ ?_
  ·intro aR hM;refine kg 6 ?_;refine W.ret ?_;have av:=M.e_pure hM;replace H:=H.nilOwn (α:=Int) 3;exact ⟨_,resE_tmp2 rfl,⟨([]),r1,(.slice none 0 0),av,rfl,(H.pk [0])⟩⟩
  intro aR hM;exact (M.e_fail hM).elim
 subst aQ;subst vq;replace H:=H.bk aa;refine kI 12 ?_ ?_
 ·intro aS hM;exact (M.e_fail hM).elim
 intro aS hM;refine kg 4 ?_;obtain ⟨ba,aT,hM⟩:=M.e_bind hM;refine s_call cq [Pq aP] rfl (zfr ab ac ae ah aN aO ak (aB.app _) aC (aD.app _) aE (aF.app _) aG (aH.app _) aI (aJ.app _) aK (Has.here (k:=0) rfl) aT _ ((H.pk [1,0,2]).gt 2)) ?_;rintro _ bb ⟨r0,bc,r2,bf,bg,bh,rfl,rfl,aa⟩;replace H:=H.pk [1,0,2] |>.bk aa
 refine kg 8 ?_;replace H:=H.pk [0];refine kI 6 ?_ ?_
 ·intro aU hM;refine kg 5 ?_;refine W.ret ?_;have av:=M.e_pure hM;replace H:=H.nilOwn (α:=Int) 3;exact ⟨_,resE_tmp2 rfl,⟨([]),6,(.slice none 0 0),av,rfl,(H.pk [0])⟩⟩
 intro aU hM;refine kg 7 ?_;exact rt

end Go.Proofs.YtbgoclcmgbpckaaGreat
end
section
set_option maxRecDepth 100000
set_option maxHeartbeats 16000000
namespace Go.Proofs.YtbgoclcmgbpckaaGreat
open Go Go.Nm
attribute [local irreducible] gd execOp SL SLD SLT WR
def zcy (s_bytes:List UInt8) (i:Nat) (l:List Int) (l2:List Span) (l3:List Int) (down r5 r6 aa ab:Int):M ((Int × Int × Nat × (List Int) × (List Span) × (List Int)) ⊕ (Int × Int × (List Int) × (List Span) × (List Int) × (List Int) × (List Span) × (List Int))) :=
  bif decide ((l3.length:Int)<8) then (
  M.bind (zad s_bytes aa ab 3) fun (r7,ac,ae) =>
  bif ((decide ((l3.length:Int)<8))&&(r7==0)) then (
  M.grd (decide ((l3.length+([(i:Int)]).length)*8<=140737488355328)) <|
  M.gi ((i:Int)+1) <|
  M.pure (.inl (ac,ae,i+1,l++([(down:Int)]),l2++([(⟨(r5:Int),(r5+r6:Int)⟩:Span)]),l3++([(i:Int)]))))
  else (
  M.gi ((i:Int)+1) <|
  M.pure (.inl (ac,ae,i+1,l++([(down:Int)]),l2++([(⟨(r5:Int),(r5+r6:Int)⟩:Span)]),l3))))
  else (
  M.gi ((i:Int)+1) <|
  M.pure (.inl (aa,ab,i+1,l++([(down:Int)]),l2++([(⟨(r5:Int),(r5+r6:Int)⟩:Span)]),l3)))
def zaq (s_bytes:List UInt8) (i:Nat) (l:List Int) (l2:List Span) (l3:List Int) (s2 s3 down:Int):M ((Int × Int × Nat × (List Int) × (List Span) × (List Int)) ⊕ (Int × Int × (List Int) × (List Span) × (List Int) × (List Int) × (List Span) × (List Int))) :=
  M.bind (zad s_bytes s2 s3 9) fun (r5,aa,ab) =>
  M.grd (decide ((l.length+([(down:Int)]).length)*8<=140737488355328)) <|
  M.bind (zad s_bytes aa ab 5) fun (r6,ac,ae) =>
  M.gi (r5+r6) <|
  M.grd (decide ((l2.length+([(⟨(r5:Int),(r5+r6:Int)⟩:Span)]).length)*16<=140737488355328)) <|
  zcy s_bytes i l l2 l3 down r5 r6 ac ae
def zbh (s_bytes:List UInt8) (r2:Int):(Int × Int × Nat × (List Int) × (List Span) × (List Int))->M ((Int × Int × Nat × (List Int) × (List Span) × (List Int)) ⊕ (Int × Int × (List Int) × (List Span) × (List Int) × (List Int) × (List Span) × (List Int))):=fun (s4,s5,i,l,l2,l3) =>
  bif decide ((i:Int)<r2) then (
  M.gi ((i:Int)+1) <|
  bif decide (((i:Int)+1)<r2) then (
  M.bind (zad s_bytes s4 s5 6) fun (r3,aa,ab) =>
  bif ((decide (((i:Int)+1)<r2))&&(decide (0<r3))) then (
  M.gi (r2-1) <|
  M.gi ((i:Int)+3) <|
  M.bind (zae s_bytes aa ab ((i:Int)+1) (min (r2-1) ((i:Int)+3))) fun (r4,ac,ae) =>
  zaq s_bytes i l l2 l3 ac ae r4)
  else (
  zaq s_bytes i l l2 l3 aa ab (-1)))
  else (
  zaq s_bytes i l l2 l3 s4 s5 (-1)))
  else (
  M.pure (.inr (s4,s5,l,l2,l3,l3,l2,l)))
def zbR (s_bytes:List UInt8) (r2:Int):(Int × Int × Int × (List Town))->M ((Int × Int × Int × (List Town)) ⊕ (Int × Int × (List Town) × (List Town))):=fun (s8,s9,k,aa) =>
  bif decide (0<k) then (
  M.bind (zad s_bytes s8 s9 r2) fun (r9,ae,ah) =>
  M.bind (zad s_bytes ae ah 8) fun (ab,ai,aj) =>
  M.bind (zae s_bytes ai aj 100 300) fun (ac,ak,al) =>
  M.grd (decide ((aa.length+([(⟨(r9:Int),(ab:Int),(ac:Int)⟩:Town)]).length)*24<=140737488355328)) <|
  M.gi (k-1) <|
  M.pure (.inl (ak,al,k-1,aa++([(⟨(r9:Int),(ab:Int),(ac:Int)⟩:Town)]))))
  else (
  M.pure (.inr (s8,s9,aa,aa)))
def zbb (s_bytes:List UInt8) (l9:List Int):(Int × Int × Int × (List Int))->M ((Int × Int × Int × (List Int)) ⊕ (Int × Int × (List Int) × (List Int))):=fun (ac,ae,aa,ab) =>
  bif aa != (-1) then (
  M.bind (zad s_bytes ac ae 400) fun (ah,ai,aj) =>
  M.grd (decide ((ab.length+([(ah:Int)]).length)*8<=140737488355328)) <|
  M.grd (decide ((0:Int)<=aa)&&decide (aa<(l9.length:Int))) <|
  M.pure (.inl (ai,aj,l9.getD (Int.toNat aa) 0,ab++([(ah:Int)]))))
  else (
  M.pure (.inr (ac,ae,ab,ab)))
def zcs (s_bytes:List UInt8) (l9 aa:List Int) (k2:Int) (ac:List Flood) (ab ah ai:Int):M ((Int × Int × Int × (List Flood)) ⊕ ((List Flood) × (List Flood) × Int × Int)) :=
  M.bind (M.iter (zbb s_bytes l9) (ah,ai,aa.getD (Int.toNat ab) 0,[])) fun (aj,ak,al,ae) =>
  M.grd (decide ((ac.length+([(⟨(aa.getD (Int.toNat ab) 0:Int),ae⟩:Flood)]).length)*32<=140737488355328)) <|
  M.gi (k2-1) <|
  M.pure (.inl (aj,ak,k2-1,ac++([(⟨(aa.getD (Int.toNat ab) 0:Int),ae⟩:Flood)])))
def zcJ (s_bytes:List UInt8) (l9 aa:List Int):(Int × Int × Int × (List Flood))->M ((Int × Int × Int × (List Flood)) ⊕ ((List Flood) × (List Flood) × Int × Int)):=fun (ae,ah,k2,ab) =>
  bif decide (0<k2) then (
  M.bind (zad s_bytes ae ah (aa.length:Int)) fun (ac,ai,aj) =>
  M.grd (decide ((0:Int)<=ac)&&decide (ac<(aa.length:Int))) <|
  zcs s_bytes l9 aa k2 ab ac ai aj)
  else (
  M.pure (.inr (ab,ab,ae,ah)))
def zbV (s_bytes:List UInt8) (l8:List Span) (l9 aa:List Int) (ac:List Town) (ab ae ah ai:Int):M ((List Int) × (List Span) × (List Int) × (List Town) × Int × Int × (List Flood) × Int × Int) :=
  M.bind (zad s_bytes ah ai 10) fun (aj,ak,al) =>
  M.bind (M.iter (zcJ s_bytes l9 aa) (ak,al,aj,[])) fun (au,am,ao,aq) =>
  M.pure (l9,l8,aa,ac,ab,(ab+ae),am,ao,aq)
def zaF (s_bytes:List UInt8) (r2 s6 s7:Int) (l8:List Span) (l9 ac:List Int):M ((List Int) × (List Span) × (List Int) × (List Town) × Int × Int × (List Flood) × Int × Int) :=
  M.bind (zad s_bytes s6 s7 8) fun (r8,ae,ah) =>
  M.bind (M.iter (zbR s_bytes r2) (ae,ah,r8,[])) fun (ai,aj,au,ak) =>
  M.bind (zad s_bytes ai aj 3) fun (aa,al,am) =>
  M.bind (zad s_bytes al am 3) fun (ab,ao,aq) =>
  M.gi (aa+ab) <|
  zbV s_bytes l8 l9 ac ak aa ab ao aq
def zcB (s_bytes:List UInt8) (s_used s_mix most:Int):M ((List Int) × (List Span) × (List Int) × (List Town) × Int × Int × (List Flood) × Int × Int) :=
  M.bind (zae s_bytes s_used s_mix 1 most) fun (r2,q1,q2) =>
  M.bind (M.iter (zbh s_bytes r2) (q1,q2,0,[],[],[])) fun (s6,s7,l4,l5,l6,l7,l8,l9) =>
  bif (l7.length:Int)==0 then (
  zaF s_bytes r2 s6 s7 l8 l9 ([(0:Int)]))
  else (
  zaF s_bytes r2 s6 s7 l8 l9 l7)
theorem zez {R aa bm av}(s_bytes s_used s_mix most)(ai:Reads R bm)(aj:Sl bm av s_bytes){r}(hM:(zcB s_bytes s_used s_mix most).Ends r)(w)(H:St w w [cBlk aa [av,I s_used,I s_mix] 61] R):Ret Tryz.prog 8 #[Pq aa,I most] w fun v w'=>∃ y0 y1 y2 y3 y4 y5 y6 y7 y8 u0 u1 u2 u3 u4 rr5 bn,(y0,y1,y2,y3,y4,y5,y6,y7,y8)=r/\v = .agg #[u0,u1,u2,u3,I y4,I y5,u4]/\St w w' [cOwn (α:=Int) 3 u0 y0,cOwn (α:=Span) 32 u1 y1,cOwn (α:=Int) 3 u2 y2,cOwn (α:=Town) 53 u3 y3,cOwn (α:=Raw 1) 51 u4 rr5,cRo bn,cBlk aa [av,I y7,I y8] 61] R/\RepR (α:=Flood) bn.cells rr5 y6:=by
 refine ret_of_W Tryz.func8 rfl rfl rfl ?_;refine kA 2 ?_;intro ak dQ H;refine kA 3 ?_;intro al dR H;refine kg 5 ?_;obtain ⟨dS,bE,hM⟩:=M.e_bind hM;refine s_call cq [Pq aa,I 1,I most] rfl (zac s_bytes s_used s_mix 1 most (ai.app _) aj bE _ ((H.pk [2,0,1]).gt 2)) ?_;rintro _ dU ⟨r2,q1,q2,rfl,rfl,ab⟩;replace H:=H.pk [2,0,1] |>.bk ab
 refine kg 8 ?_;replace H:=H.nilOwn (α:=Int) 3;replace H:=H.nilOwn (α:=Span) 32;replace H:=H.nilOwn (α:=Int) 3;obtain ⟨bF,bo,bG⟩:=M.e_bind hM;obtain ⟨a8,bo⟩:=M.e_iter bo;refine W.loop (fun m σ W=>∃ (s4:Int) (s5:Int) (i:Nat) (l:List Int) (l2:List Span) (l3:List Int) (am:Value) (ao:Value) (aD:Value) (ρ:Env),σ=upds ρ [(0,Pq aa),(4,Pq ak),(5,Pq al),(6,I r2),(7,I (i:Int))]/\M.iterN (zbh s_bytes r2) m (s4,s5,i,l,l2,l3)=some bF/\St w W [cOwn (α:=Int) 3 aD l3,cOwn (α:=Span) 32 ao l2,cOwn (α:=Int) 3 am l,cBlk aa [av,I s4,I s5] 61,cBlk al [am,ao,aD,.slice none 0 0,I 0,I 0,.slice none 0 0] 40,cBlk ak [.slice none 0 0,.slice none 0 0,.slice none 0 0,.slice none 0 0,I 0,I 0,.slice none 0 0] 40] R) ?_ ?_
 ·exact kY
 rintro dV σ dW ⟨s4,s5,i,l,l2,l3,am,ao,aD,ρ,rfl,bH,H⟩;obtain ⟨dX,dY,bp,hM,bI⟩:=M.e_iterN bH;refine kI 7 ?_ ?_
 ·intro bJ hM;refine kg 7 ?_;refine W.seqJ (fun σ W=>∃ (s2:Int) (s3:Int) (down:Int) (ρ:Env),σ=upds ρ [(0,Pq aa),(4,Pq ak),(5,Pq al),(6,I r2),(7,I (i:Int)),(8,I down)]/\(zaq s_bytes i l l2 l3 s2 s3 down).Ends bp/\St w W [cBlk aa [av,I s2,I s3] 61,cOwn (α:=Int) 3 aD l3,cOwn (α:=Span) 32 ao l2,cOwn (α:=Int) 3 am l,cBlk al [am,ao,aD,.slice none 0 0,I 0,I 0,.slice none 0 0] 40,cBlk ak [.slice none 0 0,.slice none 0 0,.slice none 0 0,.slice none 0 0,I 0,I 0,.slice none 0 0] 40] R) ?_ ?_
  ·obtain ⟨dZ,hM⟩:=M.e_gq hM;refine kg 8 ?_;refine g_splitV (decide (((i:Int)+1)<r2)) (I 0) (gy_t rfl) (fun aw=>?_) (fun aw=>?_)
   ·replace hM:=M.e_t hM aw;obtain ⟨d4,bK,hM⟩:=M.e_bind hM;refine s_call cq [Pq aa,I 6] (lst2 (gd_of (c:=decide (((i:Int)+1)<r2)) aw (Pq aa)) rfl) (zab s_bytes s4 s5 6 (ai.app _) aj bK _ ((H.pk [3,0,1,2,4,5]).gt 5)) ?_;rintro _ d5 ⟨r3,bL,bM,rfl,rfl,ab⟩;replace H:=H.pk [3,0,1,2,4,5] |>.bk ab
    refine kI 3 ?_ ?_
    ·intro bN hM;obtain ⟨d6,hM⟩:=M.e_gq hM;obtain ⟨d7,hM⟩:=M.e_gq hM;refine kC 9 @zac ?_;intro d8 r4 bO bP hM H;refine kg 2 ?_;exact ⟨bO,bP,r4,_,jQ,hM,H⟩
    intro bN hM;refine W.skip ?_;exact ⟨bL,bM,-1,_,jQ,hM,H⟩
   replace hM:=M.e_f hM aw;refine g_val (v:=B false) (decide (((i:Int)+1)<r2)) (gy_t rfl) (fun hg=>Bool.noConfusion (aw.symm.trans hg))<|s_val (x_pand0 (b:=decide (((i:Int)+1)<r2)) rfl (fun hb=>gd_of (c:=decide (((i:Int)+1)<r2)) (by first | exact hb | (rw [hb]; rfl) | simp_all) (B false)) rfl)<|s_nil ?_
   refine W.cond false rfl (fun br=>?_) (fun br=>?_)
   ·exact absurd br (by decide)
   refine W.skip ?_;exact ⟨s4,s5,-1,_,jQ,hM,(H.pk [3,0,1,2,4,5])⟩
  rintro _ d9 ⟨s2,s3,down,ρ,rfl,hM,H⟩;unfold zaq at hM;refine kC 3 @zab ?_;intro eb r5 ay az hM H;refine kg 2 ?_;refine W.seqJ (fun σ W=>∃ (r6:Int) (ac:Int) (ae:Int) (bt:Value) (bu:Value) (ba:Value) (bb:Value) (ρ:Env),σ=upds ρ [(0,Pq aa),(4,Pq ak),(5,Pq al),(6,I r2),(7,I (i:Int))]/\(zcy s_bytes i l l2 l3 down r5 r6 ac ae).Ends bp/\St w W [cOwn (α:=Span) 32 bt ([(⟨(r5:Int),(r5+r6:Int)⟩:Span)]),cBlk aa [av,I ac,I ae] 61,cOwn (α:=Int) 3 bu ([(down:Int)]),cOwn (α:=Int) 3 aD l3,cOwn (α:=Span) 32 ba (l2++([(⟨(r5:Int),(r5+r6:Int)⟩:Span)])),cOwn (α:=Int) 3 bb (l++([(down:Int)])),cBlk al [bb,ba,aD,.slice none 0 0,I 0,I 0,.slice none 0 0] 40,cBlk ak [.slice none 0 0,.slice none 0 0,.slice none 0 0,.slice none 0 0,I 0,I 0,.slice none 0 0] 40] R) ?_ ?_
  ·refine kDT 0 [1,5] (.q 0 (.q 2 (.q 5 (.q 7 (.q 8 (.q 9 (.l3 1 (.l2 3 (.l2 4 (.l2 6 (.q 15 (.l 10 (.q 11 (.q 12 (.l 13 (.l 14 (.l 16 (.q 17 (.l 18 .nil))))))))) 10 (.q 11 (.q 12 (.l2 6 (.q 15 (.l 13 (.l 14 (.l 16 (.q 17 (.l 18 .nil)))))) 13 (.l 6 (.q 15 (.l 14 (.l 16 (.q 17 (.l 18 .nil)))))))))) 6 (.l 4 (.q 15 (.l 10 (.q 11 (.q 12 (.l 13 (.l 14 (.l 16 (.q 17 (.l 18 .nil))))))))))) 6 (.l 3 (.l 4 (.q 15 (.l 10 (.q 11 (.q 12 (.l 13 (.l 14 (.l 16 (.q 17 (.l 18 .nil)))))))))))) 3 (.l2 1 (.l2 4 (.l2 6 (.q 15 (.l 10 (.q 11 (.q 12 (.l 13 (.l 14 (.l 16 (.q 17 (.l 18 .nil))))))))) 10 (.q 11 (.q 12 (.l2 6 (.q 15 (.l 13 (.l 14 (.l 16 (.q 17 (.l 18 .nil)))))) 13 (.l 6 (.q 15 (.l 14 (.l 16 (.q 17 (.l 18 .nil)))))))))) 6 (.l 4 (.q 15 (.l 10 (.q 11 (.q 12 (.l 13 (.l 14 (.l 16 (.q 17 (.l 18 .nil))))))))))) 6 (.l 1 (.l 4 (.q 15 (.l 10 (.q 11 (.q 12 (.l 13 (.l 14 (.l 16 (.q 17 (.l 18 .nil)))))))))))) 6 (.l2 1 (.l 3 (.l 4 (.q 15 (.l 10 (.q 11 (.q 12 (.l 13 (.l 14 (.l 16 (.q 17 (.l 18 .nil))))))))))) 3 (.l 1 (.l 4 (.q 15 (.l 10 (.q 11 (.q 12 (.l 13 (.l 14 (.l 16 (.q 17 (.l 18 .nil))))))))))))))))))) ?_;intro ec H;refine kg 6 ?_;refine t_l3 rfl rfl rfl ?_ ?_ ?_
   ·refine kG 1 ?_;refine kN ?_;refine t_l2 rfl rfl ?_ ?_
    ·refine kL 0 (α:=Int) [down] ?_;intro aW ed H;refine kN ?_;refine t_l2 rfl rfl ?_ ?_
     ·obtain ⟨ee,hM⟩:=M.e_gq hM;refine kP 0 ?_;intro bc ef H;refine kN ?_;refine t_l2 rfl rfl ?_ ?_
      ·refine kG 1 ?_;refine kN ?_;refine kG 2 ?_;obtain ⟨eg,bQ,hM⟩:=M.e_bind hM;refine s_call cq [Pq aa,I 5] rfl (zab s_bytes ay az 5 (ai.app _) aj bQ _ ((H.pk [1,0,2,3,4,5,6]).gt 6)) ?_;rintro _ eh ⟨r6,ac,ae,rfl,rfl,ab⟩;replace H:=H.pk [1,0,2,3,4,5,6] |>.bk ab
       refine kN ?_;obtain ⟨ej,hM⟩:=M.e_gq hM;refine kL 3 (α:=Span) [⟨r5,r5+r6⟩] ?_;intro bR em H;refine kN ?_;refine t_l rfl ?_;obtain ⟨ep,hM⟩:=M.e_gq hM;refine kP 0 ?_;intro bS eq H;refine kN ?_;refine kS 1 ?_;intro er H;refine kN ?_;refine kS 2 ?_;intro eu H;refine kN ?_;refine t_nil ?_;exact ⟨r6,ac,ae,bR,aW,bS,bc,_,jQ,hM,H⟩
      obtain ⟨ew,bT,hM⟩:=M.e_bind hM;refine s_call cq [Pq aa,I 5] rfl (zab s_bytes ay az 5 (ai.app _) aj bT _ ((H.pk [1,0,2,3,4,5,6]).gt 6)) ?_;rintro _ ez ⟨r6,ac,ae,rfl,rfl,ab⟩;replace H:=H.pk [1,0,2,3,4,5,6] |>.bk ab
      refine kN ?_;obtain ⟨eA,hM⟩:=M.e_gq hM;refine kG 2 ?_;obtain ⟨eB,hM⟩:=M.e_gq hM;refine t_l2 rfl rfl ?_ ?_
      ·refine kG 1 ?_;refine kN ?_;refine kL 2 (α:=Span) [⟨r5,r5+r6⟩] ?_;intro bU eC H;refine kN ?_;refine kP 1 ?_;intro bV eD H;refine kN ?_;refine kS 1 ?_;intro eE H;refine kN ?_;refine kS 2 ?_;intro eF H;refine kN ?_;refine t_nil ?_;exact ⟨r6,ac,ae,bU,aW,bV,bc,_,jQ,hM,H⟩
      refine kL 0 (α:=Span) [⟨r5,r5+r6⟩] ?_;intro bW eG H;refine kN ?_;refine kG 2 ?_;refine kN ?_;refine kP 2 ?_;intro bX eH H;refine kN ?_;refine kS 1 ?_;intro eI H;refine kN ?_;refine kS 2 ?_;intro eJ H;refine kN ?_;refine t_nil ?_;exact ⟨r6,ac,ae,bW,aW,bX,bc,_,jQ,hM,H⟩
     refine kG 1 ?_;refine kN ?_;refine t_l rfl ?_;obtain ⟨eK,hM⟩:=M.e_gq hM;refine kP 0 ?_;intro bY eL H;refine kN ?_;refine kG 2 ?_;obtain ⟨eM,bZ,hM⟩:=M.e_bind hM;refine s_call cq [Pq aa,I 5] rfl (zab s_bytes ay az 5 (ai.app _) aj bZ _ ((H.pk [1,0,2,3,4,5,6]).gt 6)) ?_;rintro _ eO ⟨r6,ac,ae,rfl,rfl,ab⟩;replace H:=H.pk [1,0,2,3,4,5,6] |>.bk ab
     refine kN ?_;obtain ⟨eP,hM⟩:=M.e_gq hM;refine kL 3 (α:=Span) [⟨r5,r5+r6⟩] ?_;intro b4 eQ H;refine kN ?_;refine t_l rfl ?_;obtain ⟨eR,hM⟩:=M.e_gq hM;refine kP 0 ?_;intro b5 eS H;refine kN ?_;refine kS 1 ?_;intro eT H;refine kN ?_;refine kS 2 ?_;intro eU H;refine kN ?_;refine t_nil ?_;exact ⟨r6,ac,ae,b4,aW,b5,bY,_,jQ,hM,H⟩
    refine kG 1 ?_;refine kN ?_;refine kL 1 (α:=Int) [down] ?_;intro b6 eV H;refine kN ?_;refine t_l rfl ?_;obtain ⟨eW,hM⟩:=M.e_gq hM;refine kP 0 ?_;intro b7 eX H;refine kN ?_;refine kG 2 ?_;obtain ⟨eY,b8,hM⟩:=M.e_bind hM;refine s_call cq [Pq aa,I 5] rfl (zab s_bytes ay az 5 (ai.app _) aj b8 _ ((H.pk [1,0,2,3,4,5,6]).gt 6)) ?_;rintro _ eZ ⟨r6,ac,ae,rfl,rfl,ab⟩;replace H:=H.pk [1,0,2,3,4,5,6] |>.bk ab
    refine kN ?_;obtain ⟨e7,hM⟩:=M.e_gq hM;refine kL 3 (α:=Span) [⟨r5,r5+r6⟩] ?_;intro b9 e9 H;refine kN ?_;refine t_l rfl ?_;obtain ⟨fa,hM⟩:=M.e_gq hM;refine kP 0 ?_;intro cb fb H;refine kN ?_;refine kS 1 ?_;intro fd H;refine kN ?_;refine kS 2 ?_;intro fe H;refine kN ?_;refine t_nil ?_;exact ⟨r6,ac,ae,b9,b6,cb,b7,_,jQ,hM,H⟩
   ·refine kL 0 (α:=Int) [down] ?_;intro aR ff H;refine kN ?_;refine t_l2 rfl rfl ?_ ?_
    ·refine kG 1 ?_;refine kN ?_;refine t_l2 rfl rfl ?_ ?_
     ·obtain ⟨fg,hM⟩:=M.e_gq hM;refine kP 0 ?_;intro bf fh H;refine kN ?_;refine t_l2 rfl rfl ?_ ?_
      ·refine kG 1 ?_;refine kN ?_;refine kG 2 ?_;obtain ⟨fi,cc,hM⟩:=M.e_bind hM;refine s_call cq [Pq aa,I 5] rfl (zab s_bytes ay az 5 (ai.app _) aj cc _ ((H.pk [1,0,2,3,4,5,6]).gt 6)) ?_;rintro _ fj ⟨r6,ac,ae,rfl,rfl,ab⟩;replace H:=H.pk [1,0,2,3,4,5,6] |>.bk ab
       refine kN ?_;obtain ⟨fk,hM⟩:=M.e_gq hM;refine kL 3 (α:=Span) [⟨r5,r5+r6⟩] ?_;intro cd fm H;refine kN ?_;refine t_l rfl ?_;obtain ⟨fo,hM⟩:=M.e_gq hM;refine kP 0 ?_;intro ce fp H;refine kN ?_;refine kS 1 ?_;intro fq H;refine kN ?_;refine kS 2 ?_;intro fu H;refine kN ?_;refine t_nil ?_;exact ⟨r6,ac,ae,cd,aR,ce,bf,_,jQ,hM,H⟩
      obtain ⟨fv,cf,hM⟩:=M.e_bind hM;refine s_call cq [Pq aa,I 5] rfl (zab s_bytes ay az 5 (ai.app _) aj cf _ ((H.pk [1,0,2,3,4,5,6]).gt 6)) ?_;rintro _ fw ⟨r6,ac,ae,rfl,rfl,ab⟩;replace H:=H.pk [1,0,2,3,4,5,6] |>.bk ab
      refine kN ?_;obtain ⟨fx,hM⟩:=M.e_gq hM;refine kG 2 ?_;obtain ⟨fy,hM⟩:=M.e_gq hM;refine t_l2 rfl rfl ?_ ?_
      ·refine kG 1 ?_;refine kN ?_;refine kL 2 (α:=Span) [⟨r5,r5+r6⟩] ?_;intro cg fA H;refine kN ?_;refine kP 1 ?_;intro ch fB H;refine kN ?_;refine kS 1 ?_;intro fC H;refine kN ?_;refine kS 2 ?_;intro fD H;refine kN ?_;refine t_nil ?_;exact ⟨r6,ac,ae,cg,aR,ch,bf,_,jQ,hM,H⟩
      refine kL 0 (α:=Span) [⟨r5,r5+r6⟩] ?_;intro ck fE H;refine kN ?_;refine kG 2 ?_;refine kN ?_;refine kP 2 ?_;intro cn fF H;refine kN ?_;refine kS 1 ?_;intro fG H;refine kN ?_;refine kS 2 ?_;intro fH H;refine kN ?_;refine t_nil ?_;exact ⟨r6,ac,ae,ck,aR,cn,bf,_,jQ,hM,H⟩
     refine kG 1 ?_;refine kN ?_;refine t_l rfl ?_;obtain ⟨fI,hM⟩:=M.e_gq hM;refine kP 0 ?_;intro cp fJ H;refine kN ?_;refine kG 2 ?_;obtain ⟨fK,ct,hM⟩:=M.e_bind hM;refine s_call cq [Pq aa,I 5] rfl (zab s_bytes ay az 5 (ai.app _) aj ct _ ((H.pk [1,0,2,3,4,5,6]).gt 6)) ?_;rintro _ fL ⟨r6,ac,ae,rfl,rfl,ab⟩;replace H:=H.pk [1,0,2,3,4,5,6] |>.bk ab
     refine kN ?_;obtain ⟨fM,hM⟩:=M.e_gq hM;refine kL 3 (α:=Span) [⟨r5,r5+r6⟩] ?_;intro cu fN H;refine kN ?_;refine t_l rfl ?_;obtain ⟨fO,hM⟩:=M.e_gq hM;refine kP 0 ?_;intro cw fP H;refine kN ?_;refine kS 1 ?_;intro fQ H;refine kN ?_;refine kS 2 ?_;intro fR H;refine kN ?_;refine t_nil ?_;exact ⟨r6,ac,ae,cu,aR,cw,cp,_,jQ,hM,H⟩
    refine kG 1 ?_;refine kN ?_;refine kG 2 ?_;refine kN ?_;refine t_l rfl ?_;obtain ⟨fS,hM⟩:=M.e_gq hM;refine kP 0 ?_;intro cA fT H;refine kN ?_;refine kG 2 ?_;obtain ⟨fU,cB,hM⟩:=M.e_bind hM;refine s_call cq [Pq aa,I 5] rfl (zab s_bytes ay az 5 (ai.app _) aj cB _ ((H.pk [1,0,2,3,4,5,6]).gt 6)) ?_;rintro _ fV ⟨r6,ac,ae,rfl,rfl,ab⟩;replace H:=H.pk [1,0,2,3,4,5,6] |>.bk ab
    refine kN ?_;obtain ⟨fW,hM⟩:=M.e_gq hM;refine kL 3 (α:=Span) [⟨r5,r5+r6⟩] ?_;intro cC fX H;refine kN ?_;refine t_l rfl ?_;obtain ⟨fY,hM⟩:=M.e_gq hM;refine kP 0 ?_;intro cD fZ H;refine kN ?_;refine kS 1 ?_;intro f0 H;refine kN ?_;refine kS 2 ?_;intro f4 H;refine kN ?_;refine t_nil ?_;exact ⟨r6,ac,ae,cC,aR,cD,cA,_,jQ,hM,H⟩
   refine kG 1 ?_;refine kN ?_;refine t_l2 rfl rfl ?_ ?_
   ·refine kG 1 ?_;refine kN ?_;refine kL 1 (α:=Int) [down] ?_;intro cE f6 H;refine kN ?_;refine t_l rfl ?_;obtain ⟨f9,hM⟩:=M.e_gq hM;refine kP 0 ?_;intro cF ga H;refine kN ?_;refine kG 2 ?_;obtain ⟨gc,cG,hM⟩:=M.e_bind hM;refine s_call cq [Pq aa,I 5] rfl (zab s_bytes ay az 5 (ai.app _) aj cG _ ((H.pk [1,0,2,3,4,5,6]).gt 6)) ?_;rintro _ gf ⟨r6,ac,ae,rfl,rfl,ab⟩;replace H:=H.pk [1,0,2,3,4,5,6] |>.bk ab
    refine kN ?_;obtain ⟨gg,hM⟩:=M.e_gq hM;refine kL 3 (α:=Span) [⟨r5,r5+r6⟩] ?_;intro cH gh H;refine kN ?_;refine t_l rfl ?_;obtain ⟨gi,hM⟩:=M.e_gq hM;refine kP 0 ?_;intro cI gj H;refine kN ?_;refine kS 1 ?_;intro gk H;refine kN ?_;refine kS 2 ?_;intro gl H;refine kN ?_;refine t_nil ?_;exact ⟨r6,ac,ae,cH,cE,cI,cF,_,jQ,hM,H⟩
   refine kL 0 (α:=Int) [down] ?_;intro cJ gm H;refine kN ?_;refine kG 2 ?_;refine kN ?_;refine t_l rfl ?_;obtain ⟨gn,hM⟩:=M.e_gq hM;refine kP 0 ?_;intro cK gp H;refine kN ?_;refine kG 2 ?_;obtain ⟨gq,cL,hM⟩:=M.e_bind hM;refine s_call cq [Pq aa,I 5] rfl (zab s_bytes ay az 5 (ai.app _) aj cL _ ((H.pk [1,0,2,3,4,5,6]).gt 6)) ?_;rintro _ gr ⟨r6,ac,ae,rfl,rfl,ab⟩;replace H:=H.pk [1,0,2,3,4,5,6] |>.bk ab
   refine kN ?_;obtain ⟨gu,hM⟩:=M.e_gq hM;refine kL 3 (α:=Span) [⟨r5,r5+r6⟩] ?_;intro cM gv H;refine kN ?_;refine t_l rfl ?_;obtain ⟨gw,hM⟩:=M.e_gq hM;refine kP 0 ?_;intro cN gx H;refine kN ?_;refine kS 1 ?_;intro gy H;refine kN ?_;refine kS 2 ?_;intro gz H;refine kN ?_;refine t_nil ?_;exact ⟨r6,ac,ae,cM,cJ,cN,cK,_,jQ,hM,H⟩
  rintro _ gA ⟨r6,ac,ae,bt,bu,ba,bb,ρ,rfl,hM,H⟩;unfold zcy at hM;have gB:=((H.os 3)).len_le;refine kg 8 ?_;refine g_splitV (decide ((l3.length:Int)<8)) (I 0) (gy_t rfl) (fun aw=>?_) (fun aw=>?_)
  ·replace hM:=M.e_t hM aw;obtain ⟨gC,cO,hM⟩:=M.e_bind hM;refine s_call cq [Pq aa,I 3] (lst2 (gd_of (c:=decide ((l3.length:Int)<8)) aw (Pq aa)) rfl) (zab s_bytes ac ae 3 (ai.app _) aj cO _ ((H.pk [1,0,2,3,4,5,6,7]).gt 7)) ?_;rintro _ gD ⟨r7,gE,gF,rfl,rfl,ab⟩;replace H:=H.pk [1,0,2,3,4,5,6,7] |>.bk ab
   refine kg 3 ?_;replace H:=H.pk [0,3,4,5,6,7];refine kI 0 ?_ ?_
   ·intro cP hM;refine kL 4 (α:=Int) [i] ?_;intro gG gH H;obtain ⟨gI,hM⟩:=M.e_gq hM;refine kP 0 ?_;intro gJ gK H;refine kS 1 ?_;intro gL H;obtain ⟨gM,hM⟩:=M.e_gq hM;exact kXp 6 [2,3,4,1,5,6]
   intro cP hM;obtain ⟨gN,hM⟩:=M.e_gq hM;exact kXp 6 [1,2,3,0,4,5]
  replace hM:=M.e_f hM aw;refine g_val (v:=B false) (decide ((l3.length:Int)<8)) (gy_t rfl) (fun hg=>Bool.noConfusion (aw.symm.trans hg))<|s_val (x_pand0 (b:=decide ((l3.length:Int)<8)) rfl (fun hb=>gd_of (c:=decide ((l3.length:Int)<8)) (by first | exact hb | (rw [hb]; rfl) | simp_all) (B false)) rfl)<|s_nil ?_;replace H:=H.pk [1,3,4,5,6,7]
  refine W.cond false rfl (fun bv=>?_) (fun bv=>?_)
  ·exact absurd bv (by decide)
  obtain ⟨gO,hM⟩:=M.e_gq hM;exact kXp 6 [1,2,3,0,4,5]
 intro bJ hM;refine W.exit ?_;obtain rfl:=M.e_inr hM bI;replace hM:=bG;refine W.seqJ (fun σ W=>∃ (ah:List Int) (aq:Value) (ρ:Env),σ=upds ρ [(0,Pq aa),(4,Pq ak),(5,Pq al),(6,I r2)]/\(zaF s_bytes r2 s4 s5 l2 l ah).Ends r/\St w W [cOwn (α:=Int) 3 aq ah,cOwn (α:=Span) 32 ao l2,cOwn (α:=Int) 3 am l,cBlk aa [av,I s4,I s5] 61,cBlk al [am,ao,aq,.slice none 0 0,I 0,I 0,.slice none 0 0] 40,cBlk ak [.slice none 0 0,.slice none 0 0,.slice none 0 0,.slice none 0 0,I 0,I 0,.slice none 0 0] 40] R) ?_ ?_
 ·have gP:=((H.os 0)).len_le;refine kI 7 ?_ ?_
  ·intro cQ hM;refine kL 1 (α:=Int) [0] ?_;intro cR gQ H;refine kS 1 ?_;intro gR H;refine s_nil ?_;exact ⟨[(0:Int)],cR,_,jQ,hM,(H.pk [0,2,3,4,5,6])⟩
  intro cQ hM;refine W.skip ?_;exact ⟨l3,aD,_,jQ,hM,H⟩
 rintro _ gS ⟨ah,aq,ρ,rfl,hM,H⟩;unfold zaF at hM;refine kg 4 ?_;obtain ⟨gT,cS,hM⟩:=M.e_bind hM;refine s_call cq [Pq aa,I 8] rfl (zab s_bytes s4 s5 8 (ai.app _) aj cS _ ((H.pk [3,0,1,2,4,5]).gt 5)) ?_;rintro _ gU ⟨r8,gV,gW,rfl,rfl,ab⟩;replace H:=H.pk [3,0,1,2,4,5] |>.bk ab
 refine kg 3 ?_;replace H:=H.nilOwn (α:=Town) 53;obtain ⟨cT,bw,cU⟩:=M.e_bind hM;obtain ⟨a8,bw⟩:=M.e_iter bw;refine W.loop (fun m σ W=>∃ (s8:Int) (s9:Int) (k:Int) (aE:List Town) (ax:Value) (ρ:Env),σ=upds ρ [(0,Pq aa),(4,Pq ak),(5,Pq al),(6,I r2),(10,I k)]/\M.iterN (zbR s_bytes r2) m (s8,s9,k,aE)=some cT/\St w W [cOwn (α:=Town) 53 ax aE,cBlk aa [av,I s8,I s9] 61,cOwn (α:=Int) 3 aq ah,cOwn (α:=Span) 32 ao l2,cOwn (α:=Int) 3 am l,cBlk al [am,ao,aq,ax,I 0,I 0,.slice none 0 0] 40,cBlk ak [.slice none 0 0,.slice none 0 0,.slice none 0 0,.slice none 0 0,I 0,I 0,.slice none 0 0] 40] R) ?_ ?_
 ·exact kY
 rintro gX σ gY ⟨s8,s9,k,aE,ax,ρ,rfl,cV,H⟩;obtain ⟨gZ,hG,hN,hM,cW⟩:=M.e_iterN cV;refine kI 6 ?_ ?_
 ·intro cX hM;refine kDT 3 [2,3,4,6] (.q 0 (.q 2 (.q 3 (.q 5 (.q 7 (.l2 1 (.l 4 (.l 6 (.l 8 (.q 9 (.l 10 (.l 11 (.q 12 (.l 13 .nil)))))))) 4 (.l2 1 (.l 6 (.l 8 (.q 9 (.l 10 (.l 11 (.q 12 (.l 13 .nil))))))) 6 (.l2 1 (.l 8 (.q 9 (.l 10 (.l 11 (.q 12 (.l 13 .nil)))))) 8 (.q 9 (.l2 1 (.l 10 (.l 11 (.q 12 (.l 13 .nil)))) 10 (.l 1 (.l 11 (.q 12 (.l 13 .nil)))))))))))))) ?_;intro hO H;refine kg 5 ?_;refine t_l2 rfl rfl ?_ ?_
  ·refine kG 1 ?_;refine kN ?_;refine t_l rfl ?_;obtain ⟨hZ,cY,hM⟩:=M.e_bind hM;refine s_call cq [Pq aa,I r2] rfl (zab s_bytes s8 s9 r2 (ai.app _) aj cY _ ((H.pk [1,0,2,3,4,5,6]).gt 6)) ?_;rintro _ h9 ⟨r9,cZ,c6,rfl,rfl,ab⟩;replace H:=H.pk [1,0,2,3,4,5,6] |>.bk ab
   refine kN ?_;refine kC 1 @zab ?_;intro ia aH bx bz hM H;refine kN ?_;refine kC 1 @zac ?_;intro ib aF bg bh hM H;refine kN ?_;refine kL 2 (α:=Town) [⟨r9,aH,aF⟩] ?_;intro ic ie H;refine kN ?_;refine t_l rfl ?_;obtain ⟨ig,hM⟩:=M.e_gq hM;refine kP 0 ?_;intro ii ij H;refine kN ?_;refine kS 2 ?_;intro ik H;refine kN ?_;obtain ⟨il,hM⟩:=M.e_gq hM;exact kXp 6 [2,1,3,4,5,6,7]
  obtain ⟨im,c7,hM⟩:=M.e_bind hM;refine s_call cq [Pq aa,I r2] rfl (zab s_bytes s8 s9 r2 (ai.app _) aj c7 _ ((H.pk [1,0,2,3,4,5,6]).gt 6)) ?_;rintro _ io ⟨r9,cZ,c6,rfl,rfl,ab⟩;replace H:=H.pk [1,0,2,3,4,5,6] |>.bk ab
  refine kN ?_;refine t_l2 rfl rfl ?_ ?_
  ·refine kG 1 ?_;refine kN ?_;refine kC 1 @zab ?_;intro ip aH bx bz hM H;refine kN ?_;refine kC 1 @zac ?_;intro iq aF bg bh hM H;refine kN ?_;refine kL 2 (α:=Town) [⟨r9,aH,aF⟩] ?_;intro ir iu H;refine kN ?_;refine t_l rfl ?_;obtain ⟨iw,hM⟩:=M.e_gq hM;refine kP 0 ?_;intro iy iz H;refine kN ?_;refine kS 2 ?_;intro iA H;refine kN ?_;obtain ⟨iB,hM⟩:=M.e_gq hM;exact kXp 6 [2,1,3,4,5,6,7]
  refine kC 0 @zab ?_;intro iC aH bx bz hM H;refine kN ?_;refine t_l2 rfl rfl ?_ ?_
  ·refine kG 1 ?_;refine kN ?_;refine kC 1 @zac ?_;intro iD aF bg bh hM H;refine kN ?_;refine kL 2 (α:=Town) [⟨r9,aH,aF⟩] ?_;intro iE iF H;refine kN ?_;refine t_l rfl ?_;obtain ⟨iG,hM⟩:=M.e_gq hM;refine kP 0 ?_;intro iH iI H;refine kN ?_;refine kS 2 ?_;intro iJ H;refine kN ?_;obtain ⟨iK,hM⟩:=M.e_gq hM;exact kXp 6 [2,1,3,4,5,6,7]
  refine kC 0 @zac ?_;intro iL aF bg bh hM H;refine kN ?_;refine kG 1 ?_;obtain ⟨iM,hM⟩:=M.e_gq hM;refine t_l2 rfl rfl ?_ ?_
  ·refine kG 1 ?_;refine kN ?_;refine kL 1 (α:=Town) [⟨r9,aH,aF⟩] ?_;intro iN iO H;refine kN ?_;refine kP 1 ?_;intro iP iQ H;refine kN ?_;refine kS 2 ?_;intro iR H;refine kN ?_;obtain ⟨iS,hM⟩:=M.e_gq hM;exact kXp 6 [2,1,3,4,5,6,7]
  refine kL 0 (α:=Town) [⟨r9,aH,aF⟩] ?_;intro iT iU H;refine kN ?_;refine kG 2 ?_;refine kN ?_;refine kP 1 ?_;intro iV iW H;refine kN ?_;refine kS 2 ?_;intro iX H;refine kN ?_;obtain ⟨iY,hM⟩:=M.e_gq hM;exact kXp 6 [2,1,3,4,5,6,7]
 intro cX hM;refine W.exit ?_;obtain rfl:=M.e_inr hM cW;replace hM:=cU;refine kg 3 ?_;obtain ⟨iZ,c8,hM⟩:=M.e_bind hM;refine s_call cq [Pq aa,I 3] rfl (zab s_bytes s8 s9 3 (ai.app _) aj c8 _ ((H.pk [1,0,2,3,4,5,6]).gt 6)) ?_;rintro _ i5 ⟨aB,i6,i7,rfl,rfl,ab⟩;replace H:=H.pk [1,0,2,3,4,5,6] |>.bk ab
 refine kS 2 ?_;intro i8 H;refine s_nil ?_;refine W.seqJ (fun σ W=>∃ (aA:Int) (aI:Int) (aJ:Int) (ρ:Env),σ=upds ρ [(0,Pq aa),(4,Pq ak),(5,Pq al)]/\(zbV s_bytes l2 l ah aE aB aA aI aJ).Ends r/\St w W [cBlk aa [av,I aI,I aJ] 61,cOwn (α:=Town) 53 ax aE,cOwn (α:=Int) 3 aq ah,cOwn (α:=Span) 32 ao l2,cOwn (α:=Int) 3 am l,cBlk al [am,ao,aq,ax,I aB,I (aB+aA),.slice none 0 0] 40,cBlk ak [.slice none 0 0,.slice none 0 0,.slice none 0 0,.slice none 0 0,I 0,I 0,.slice none 0 0] 40] R) ?_ ?_
 ·refine kDT 0 [1,2,3,4,6] (.q 0 (.q 1 (.q 3 (.l2 2 (.l 4 (.q 5 (.q 6 (.q 7 (.l 8 .nil))))) 4 (.l 2 (.q 5 (.q 6 (.q 7 (.l 8 .nil))))))))) ?_;intro i9 H;refine kg 3 ?_;refine t_l2 rfl rfl ?_ ?_
  ·refine kG 1 ?_;refine kN ?_;refine kC 1 @zab ?_;intro ja aA aI aJ hM H;refine kN ?_;obtain ⟨jb,hM⟩:=M.e_gq hM;refine kS 4 ?_;intro jc H;refine kN ?_;refine t_nil ?_;exact ⟨aA,aI,aJ,_,jQ,hM,H⟩
  refine kC 0 @zab ?_;intro jd aA aI aJ hM H;refine kN ?_;refine kG 2 ?_;refine kN ?_;obtain ⟨je,hM⟩:=M.e_gq hM;refine kS 4 ?_;intro jf H;refine kN ?_;refine t_nil ?_;exact ⟨aA,aI,aJ,_,jQ,hM,H⟩
 rintro _ jg ⟨aA,aI,aJ,ρ,rfl,hM,H⟩;unfold zbV at hM;refine kC 4 @zab ?_;intro jh c9 da db hM H;refine kg 3 ?_;obtain ⟨bA,H⟩:=H.emptyE;replace H:=H.nilOwn (α:=Raw 1) 51;have dc:RepR (α:=Flood) (n:=1) bA.cells [] []:=.nil;obtain ⟨dg,bi,di⟩:=M.e_bind hM;obtain ⟨a8,bi⟩:=M.e_iter bi;refine W.loop (fun m σ W=>∃ (aS:Int) (aT:Int) (k2:Int) (aU:List Flood) (aK:Value) (aG:List (Raw 1)) (B_l17:Base) (ρ:Env),σ=upds ρ [(0,Pq aa),(4,Pq ak),(5,Pq al),(11,I k2)]/\M.iterN (zcJ s_bytes l ah) m (aS,aT,k2,aU)=some dg/\St w W [cOwn (α:=Raw 1) 51 aK aG,cRo B_l17,cBlk aa [av,I aS,I aT] 61,cOwn (α:=Town) 53 ax aE,cOwn (α:=Int) 3 aq ah,cOwn (α:=Span) 32 ao l2,cOwn (α:=Int) 3 am l,cBlk al [am,ao,aq,ax,I aB,I (aB+aA),aK] 40,cBlk ak [.slice none 0 0,.slice none 0 0,.slice none 0 0,.slice none 0 0,I 0,I 0,.slice none 0 0] 40] R/\RepR (α:=Flood) B_l17.cells aG aU) ?_ ?_
 ·exact ⟨_,da,db,c9,[],(.slice none 0 0),[],bA,_,jQ,bi,H,dc⟩
 rintro ji σ jj ⟨aS,aT,k2,aU,aK,aG,B_l17,ρ,rfl,dk,H,aX⟩;obtain ⟨dm,dq,dr,hM,bB⟩:=M.e_iterN dk;refine kI 6 ?_ ?_
 ·intro dt hM;refine kg 3 ?_;refine W.seqJ (fun σ W=>∃ (aC:Nat) (au:Int) (aL:Int) (aM:Int) (ρ:Env),σ=upds ρ [(0,Pq aa),(4,Pq ak),(5,Pq al),(11,I k2),(12,Pq aC)]/\(zcs s_bytes l ah k2 aU au aL aM).Ends dr/\St w W [cBlk aC [I (ah.getD (Int.toNat au) 0),.slice none 0 0] 51,cBlk aa [av,I aL,I aM] 61,cOwn (α:=Raw 1) 51 aK aG,cRo B_l17,cOwn (α:=Town) 53 ax aE,cOwn (α:=Int) 3 aq ah,cOwn (α:=Span) 32 ao l2,cOwn (α:=Int) 3 am l,cBlk al [am,ao,aq,ax,I aB,I (aB+aA),aK] 40,cBlk ak [.slice none 0 0,.slice none 0 0,.slice none 0 0,.slice none 0 0,I 0,I 0,.slice none 0 0] 40] R) ?_ ?_
  ·refine kDT 0 [0,1,3,4,5,6,7,8] (.q 0 (.q 1 (.q 2 (.q 3 (.q 4 (.q 5 (.l2 6 (.q 7 (.q 8 (.q 9 (.l 10 (.l 11 .nil))))) 10 (.l 6 (.q 7 (.q 8 (.q 9 (.l 11 .nil)))))))))))) ?_;intro jk H;have jl:=((H.os 4)).len_le;refine kg 6 ?_;refine t_l2 rfl rfl ?_ ?_
   ·obtain ⟨jm,du,hM⟩:=M.e_bind hM;refine s_call cq [Pq aa,I (ah.length:Int)] rfl (zab s_bytes aS aT (ah.length:Int) (ai.app _) aj du _ ((H.pk [2,0,1,3,4,5,6,7,8]).gt 8)) ?_;rintro _ jn ⟨au,aL,aM,rfl,rfl,ab⟩;replace H:=H.pk [2,0,1,3,4,5,6,7,8] |>.bk ab
    refine kN ?_;obtain ⟨jo,hM⟩:=M.e_gq hM;refine kA 4 ?_;intro aC jp H;refine kN ?_;refine kS 1 ?_;intro jq H;refine kN ?_;refine t_nil ?_;exact ⟨aC,au,aL,aM,_,jQ,hM,H⟩
   refine kal ?_;intro aC jr H;refine kN ?_;refine t_l rfl ?_;obtain ⟨js,dv,hM⟩:=M.e_bind hM;refine s_call cq [Pq aa,I (ah.length:Int)] rfl (zab s_bytes aS aT (ah.length:Int) (ai.app _) aj dv _ ((H.pk [3,0,1,2,4,5,6,7,8,9]).gt 9)) ?_;rintro _ jt ⟨au,aL,aM,rfl,rfl,ab⟩;replace H:=H.pk [3,0,1,2,4,5,6,7,8,9] |>.bk ab
   refine kN ?_;obtain ⟨ju,hM⟩:=M.e_gq hM;refine kS 4 ?_;intro jv H;refine kN ?_;refine t_nil ?_;exact ⟨aC,au,aL,aM,_,jQ,hM,(H.pk [1,0,2,3,4,5,6,7,8,9])⟩
  rintro _ jw ⟨aC,au,aL,aM,ρ,rfl,hM,H⟩;unfold zcs at hM;refine kg 8 ?_;replace H:=H.nilOwn (α:=Int) 3;obtain ⟨dw,bC,dx⟩:=M.e_bind hM;obtain ⟨a8,bC⟩:=M.e_iter bC;refine W.loop (fun m σ W=>∃ (aO:Int) (aP:Int) (bj:Int) (aV:List Int) (aQ:Value) (ρ:Env),σ=upds ρ [(0,Pq aa),(4,Pq ak),(5,Pq al),(11,I k2),(12,Pq aC),(13,I bj)]/\M.iterN (zbb s_bytes l) m (aO,aP,bj,aV)=some dw/\St w W [cOwn (α:=Int) 3 aQ aV,cBlk aC [I (ah.getD (Int.toNat au) 0),aQ] 51,cBlk aa [av,I aO,I aP] 61,cOwn (α:=Raw 1) 51 aK aG,cRo B_l17,cOwn (α:=Town) 53 ax aE,cOwn (α:=Int) 3 aq ah,cOwn (α:=Span) 32 ao l2,cOwn (α:=Int) 3 am l,cBlk al [am,ao,aq,ax,I aB,I (aB+aA),aK] 40,cBlk ak [.slice none 0 0,.slice none 0 0,.slice none 0 0,.slice none 0 0,I 0,I 0,.slice none 0 0] 40] R) ?_ ?_
  ·exact kY
  rintro jx σ jy ⟨aO,aP,bj,aV,aQ,ρ,rfl,dy,H⟩;obtain ⟨jz,jD,jH,hM,dz⟩:=M.e_iterN dy;refine kI 6 ?_ ?_
  ·intro dA hM;refine kDT 3 [3,4,5,6,7,8,9,10] (.q 0 (.q 2 (.l2 1 (.l 3 (.l 4 (.l 5 (.q 6 (.l 7 .nil))))) 3 (.l2 1 (.l 4 (.l 5 (.q 6 (.l 7 .nil)))) 4 (.l 1 (.l 5 (.q 6 (.l 7 .nil)))))))) ?_;intro jI H;refine kg 2 ?_;refine t_l2 rfl rfl ?_ ?_
   ·refine kG 1 ?_;refine kN ?_;refine t_l rfl ?_;obtain ⟨jJ,dB,hM⟩:=M.e_bind hM;refine s_call cq [Pq aa,I 400] rfl (zab s_bytes aO aP 400 (ai.app _) aj dB _ ((H.pk [2,0,1,3,4,5,6,7,8,9,10]).gt 10)) ?_;rintro _ jM ⟨aY,dC,dD,rfl,rfl,ab⟩;replace H:=H.pk [2,0,1,3,4,5,6,7,8,9,10] |>.bk ab
    refine kN ?_;refine kL 1 (α:=Int) [aY] ?_;intro jN jP H;refine kN ?_;refine t_l rfl ?_;obtain ⟨jR,hM⟩:=M.e_gq hM;refine kP 0 ?_;intro jT jW H;refine kN ?_;refine kS 2 ?_;intro jY H;refine kN ?_;obtain ⟨jZ,hM⟩:=M.e_gq hM;exact kXp 9 [2,3,1,4,5,6,7,8,9,10,11]
   obtain ⟨ka,dE,hM⟩:=M.e_bind hM;refine s_call cq [Pq aa,I 400] rfl (zab s_bytes aO aP 400 (ai.app _) aj dE _ ((H.pk [2,0,1,3,4,5,6,7,8,9,10]).gt 10)) ?_;rintro _ kb ⟨aY,dC,dD,rfl,rfl,ab⟩;replace H:=H.pk [2,0,1,3,4,5,6,7,8,9,10] |>.bk ab
   refine kN ?_;obtain ⟨ke,hM⟩:=M.e_gq hM;refine t_l2 rfl rfl ?_ ?_
   ·refine kG 1 ?_;refine kN ?_;refine kL 1 (α:=Int) [aY] ?_;intro kh ki H;refine kN ?_;refine kP 1 ?_;intro kj ko H;refine kN ?_;refine kS 2 ?_;intro kq H;refine kN ?_;obtain ⟨kr,hM⟩:=M.e_gq hM;exact kXp 9 [2,3,1,4,5,6,7,8,9,10,11]
   refine kL 0 (α:=Int) [aY] ?_;intro ku kv H;refine kN ?_;refine kG 2 ?_;refine kN ?_;refine kP 1 ?_;intro kw kx H;refine kN ?_;refine kS 2 ?_;intro kz H;refine kN ?_;obtain ⟨kE,hM⟩:=M.e_gq hM;exact kXp 9 [2,3,1,4,5,6,7,8,9,10,11]
  intro dA hM;refine W.exit ?_;obtain rfl:=M.e_inr hM dz;replace hM:=dx;refine kg 4 ?_;obtain ⟨kF,H⟩:=H.emptyE;obtain ⟨kH,H,dF⟩:=H.freezeE (k:=1) rfl;replace H:=H.nf;have aZ:=dF;obtain ⟨dG,H,kJ,dH⟩:=H.joinE (i:=0) (j:=1) rfl rfl;replace aZ:=aZ.mono dH;obtain ⟨aN,bD⟩:∃ r:Raw 1,r.cs=[I (ah.getD (Int.toNat au) 0),aQ]:=⟨Raw.of [I (ah.getD (Int.toNat au) 0),aQ] rfl (by simp only [List.all_cons,List.all_nil,Bool.true_and,Bool.and_true,Sl.oc aZ]; try rfl),rfl⟩
  have dJ:RepR (α:=Flood) dG.cells [aN] [(⟨(ah.getD (Int.toNat au) 0:Int),aV⟩:Flood)]:=.cons (by rw [bD]; exact ⟨_,rfl,aZ⟩)<|.nil
  refine t_bs (α:=Raw 1) T38.h [.agg #[I (ah.getD (Int.toNat au) 0),aQ]] [aN] H rfl (.cons (by rw [show (Flat.enc aN:List Value)=aN.cs from rfl,bD]; rfl) (Flat.rep_enc _ _)<|.nil) rfl rfl rfl ?_;intro dK kK H;replace H:=H.nf;obtain ⟨kM,hM⟩:=M.e_gq hM;have a7:=dJ;obtain ⟨dL,H,dM,dN⟩:=H.joinE (i:=7) (j:=1) rfl rfl;replace aX:=aX.mono dM;replace a7:=a7.mono dN;have dO:=aX.app a7;refine t_app (α:=Raw 1) (k:=7) (l:=aG) (l2:=[aN]) (l':=aG++([aN])) (vy:=dK) T38.h rfl H rfl rfl rfl (H.os 1) (H.ol 1) (rfl) (by have a_:=aX.len; have b_:=a7.len; (try simp only [List.length_nil] at *); first | omega | (rw [a_,b_]; omega)) ?_;intro dP kT H;replace H:=H.nf;refine kS 1 ?_;intro kU H;refine s_nil ?_;replace H:=H.pk [0,6,7,8,9,10,11,12,13,14];obtain ⟨kV,hM⟩:=M.e_gq hM;refine kg 5 ?_;exact ⟨dm,dq,aO,aP,k2-1,aU++([(⟨(ah.getD (Int.toNat au) 0:Int),aV⟩:Flood)]),dP,aG++([aN]),dL,_,jQ,M.e_inl hM bB,(H.pk [2,0,1,4,5,6,7,8,9]),dO⟩
 intro dt hM;refine W.exit ?_;obtain rfl:=M.e_inr hM bB;replace hM:=di;refine kS 3 ?_;intro kW H;exact kR 1 [6,5,4,3,0,1,2]

end Go.Proofs.YtbgoclcmgbpckaaGreat
end
section
set_option maxRecDepth 100000
set_option maxHeartbeats 16000000
namespace Go.Proofs.YtbgoclcmgbpckaaGreat
open Go Go.Nm
attribute [local irreducible] gd execOp SL SLD SLT WR
def zbQ (aa:List Int) (ab:List Span) (ac:List Int) (ae:List Town) (ai aj:Int) (ah:List Flood):M ((List Dem) × Int) :=
  M.bind (zas aa ab ac ae ai aj ah) fun x_=>match x_ with
  | (.inl r1)=>(
  bif r1 != 0 then (
  M.pure (([]),r1))
  else (
  M.fail))
  | (.inr (ak,al,am))=>(
  bif am != 0 then (
  M.fail)
  else (
  M.bind (zam aa ab ac ae ak al ah) fun r2 =>
  M.pure (r2,0)))
theorem zeI {R av ac aw ae ax ah ay ai az aj}(ak al am ao aa ab aq)(aA:Reads R av)(aB:Sl av ac ak)(aC:Reads R aw)(aD:Sl aw ae al)(aE:Reads R ax)(aF:Sl ax ah am)(aG:Reads R ay)(aH:Sl ay ai ao)(aI:Reads R az)(aJ:Sl az aj aq){r}(hM:(zbQ ak al am ao aa ab aq).Ends r)(w)(H:St w w [] R):Ret Tryz.prog 31 #[.agg #[ac,ae,ah,ai,I aa,I ab,aj]] w fun v w'=>∃ y0 y1 u0,(y0,y1)=r/\v = .tuple #[u0,I y1]/\St w w' [cOwn (α:=Dem) 98 u0 y0] R:=by
 refine ret_of_W Tryz.func31 rfl rfl rfl ?_;refine kB 2 ?_;intro aQ aR H;refine kg 6 ?_;obtain ⟨aS,aK,hM⟩:=M.e_bind hM;refine s_call cq [.agg #[ac,ae,ah,ai,I aa,I ab,aj]] rfl (zbk ak al am ao aa ab aq (aA.app _) aB (aC.app _) aD (aE.app _) aF (aG.app _) aH (aI.app _) aJ aK _ (H.gt 1)) ?_;rintro vq aT (⟨r1,aL,hvq,au⟩ | ⟨aU,aV,aW,aX,aY,aZ,aM,hvq,au⟩)
 ·subst aL;subst vq;replace H:=H.bk au;refine kI 12 ?_ ?_
  ·intro aN hM;refine kg 6 ?_;refine W.ret ?_;have aO:=M.e_pure hM;replace H:=H.nilOwn (α:=Dem) 98;exact ⟨_,resE_tmp2 rfl,⟨([]),r1,(.slice none 0 0),aO,rfl,(H.pk [0])⟩⟩
  intro aN hM;exact (M.e_fail hM).elim
 subst aM;subst vq;replace H:=H.bk au;refine kI 12 ?_ ?_
 ·intro aP hM;exact (M.e_fail hM).elim
 intro aP hM;refine kC 4 @zc0 ?_;intro a7 r2 a8 hM H;refine kg 3 ?_;replace H:=H.pk [0];exact rt

def zcb (x:Dem) (aa ab:Int):M Bool :=
  M.pure (decide (x=(⟨(aa:Int),(ab:Int)⟩:Dem)))
theorem zeO {R ac}(x aa ab)(ae:Has R (cBlk ac [I aa,I ab] 98)){r}(hM:(zcb x aa ab).Ends r)(w)(H:St w w [] R):Ret Tryz.prog 121 #[.agg #[I x.spring,I x.town],Pq ac] w fun v w'=>∃ y0,y0=r/\v=B y0/\St w w' [] R:=by
 refine ret_of_W Tryz.func121 rfl rfl rfl ?_;refine kB 2 ?_;intro ah ai H;refine kg 5 ?_;refine s_val (x_ld (v:=.agg #[I aa,I ab]) rfl (ldb_ag (ds:=[I aa,I ab]) Ag98.h Sz98.h (ae.blk H) rfl rfl))<|s_val (x_eqS (eqT98 x (⟨(aa:Int),(ab:Int)⟩:Dem) _) gdT98 rfl rfl) ?_;refine kg 2 ?_
 exact rt

def zbB (aa:List Int) (ab:List Span) (ac:List Int) (ae:List Town) (ah ai:Int) (aj:List Flood) (d:Dem):M Bool :=
  M.bind (zam aa ab ac ae ah ai aj) fun r2 =>
  M.bind (zcG r2 (fun ak=>zcb ak d.spring d.town)) fun r3 =>
  M.pure r3
theorem zfi {R ac ae ah ai aj ak al am ao aq au aD}(av aw ax ay az aA aB d)(aO:Reads R ae)(aP:Sl ae ah av)(aQ:Reads R ai)(aR:Sl ai aj aw)(aS:Reads R ak)(aT:Sl ak al ax)(aU:Reads R am)(aV:Sl am ao ay)(aW:Reads R aq)(aX:Sl aq au aB)(aY:Has R (cBlk ac [ah,aj,al,ao,I az,I aA,au,.map (some aD)] 118)){r}(hM:(zbB av aw ax ay az aA aB d).Ends r)(w)(H:St w w [] R):Ret Tryz.prog 72 #[Pq ac,.agg #[I d.spring,I d.town]] w fun v w'=>∃ y0,y0=r/\v=B y0/\St w w' [] R:=by
 refine ret_of_W Tryz.func72 rfl rfl rfl ?_;refine kB 2 ?_;intro aa aZ H;refine kC 5 @zc0 ?_;intro a7 r2 aE hM H;refine s_val (x_mf (fs:=[]) (cs:=[Pq aa]) rfl rfl) ?_;obtain ⟨a8,aF,hM⟩:=M.e_bind hM;refine s_call cq [aE,.func (.func 121) #[] #[Pq aa]] rfl (zfE r2 (fun ab=>zcb ab d.spring d.town) (rdo 0) (H.os 0) ⟨121,[Pq aa],rfl,cq,fun aC ba bb aG ab bc aH bf aI aJ=>by obtain rfl:=Dem_arg aI; exact (zeO ab d.spring d.town (Has.app (Has.here (k:=1) rfl) _) aJ aC (St.refl aH)).mono fun aG aC ⟨bg,aK,aL,aM⟩=>by subst aK; exact ⟨aL,aM⟩⟩ aF _ (H.gt 2)) ?_;rintro _ bh ⟨r3,rfl,rfl,aN⟩;replace H:=H.bk aN;refine kg 2 ?_;replace H:=H.pk [];exact rt

def zb2 (aa:List Int) (ab:List Span) (ac:List Int) (ae:List Town) (ak al:Int) (ah:List Flood) (d:Dem):M ((List Int) × Int) :=
  M.bind (zas aa ab ac ae ak al ah) fun x_=>match x_ with
  | (.inl r1)=>(
  bif r1 != 0 then (
  M.pure (([]),r1))
  else (
  M.fail))
  | (.inr (ai,aj,am))=>(
  bif am != 0 then (
  M.fail)
  else (
  M.bind (zbB aa ab ac ae ai aj ah d) fun r2 =>
  bif !r2 then (
  M.pure (([]),2))
  else (
  M.bind (zaa aa ab ac ae ai aj ah d) fun r3 =>
  M.grd (decide (r3.length*8<=140737488355328)) <|
  M.pure (r3,0))))
theorem zew {R aw al ax am ay ao az aq aA au}(ab ac ae ah ai aj ak d)(aB:Reads R aw)(aC:Sl aw al ab)(aD:Reads R ax)(aE:Sl ax am ac)(aF:Reads R ay)(aG:Sl ay ao ae)(aH:Reads R az)(aI:Sl az aq ah)(aJ:Reads R aA)(aK:Sl aA au ak){r}(hM:(zb2 ab ac ae ah ai aj ak d).Ends r)(w)(H:St w w [] R):Ret Tryz.prog 32 #[.agg #[al,am,ao,aq,I ai,I aj,au],.agg #[I d.spring,I d.town]] w fun v w'=>∃ y0 y1 u0,(y0,y1)=r/\v = .tuple #[u0,I y1]/\St w w' [cOwn (α:=Int) 3 u0 y0] R:=by
 refine ret_of_W Tryz.func32 rfl rfl rfl ?_;refine kB 2 ?_;intro aX aY H;refine kbx ?_;intro aZ a7 H;refine kg 6 ?_;obtain ⟨a8,aL,hM⟩:=M.e_bind hM;refine s_call cq [.agg #[al,am,ao,aq,I ai,I aj,au]] rfl (zbk ab ac ae ah ai aj ak (aB.app _) aC (aD.app _) aE (aF.app _) aG (aH.app _) aI (aJ.app _) aK aL _ (H.gt 2)) ?_;rintro vq ba (⟨r1,aM,hvq,aa⟩ | ⟨aN,aO,bb,aP,bc,bf,aQ,hvq,aa⟩)
 ·subst aM;subst vq;replace H:=H.bk aa;refine kI 14 ?_ ?_
  ·intro aR hM;refine kg 6 ?_;replace H:=H.pk [];refine W.ret ?_;have av:=M.e_pure hM;replace H:=H.nilOwn (α:=Int) 3;exact ⟨_,resE_tmp2 rfl,⟨([]),r1,(.slice none 0 0),av,rfl,H⟩⟩
  intro aR hM;exact (M.e_fail hM).elim
 subst aQ;subst vq;replace H:=H.bk aa;refine kI 14 ?_ ?_
 ·intro aS hM;exact (M.e_fail hM).elim
 intro aS hM;refine kC 4 @zfi ?_;intro bg r2 hM H;refine kI 3 ?_ ?_
 ·intro aT hM;refine kg 5 ?_;replace H:=H.pk [];refine W.ret ?_;have av:=M.e_pure hM;replace H:=H.nilOwn (α:=Int) 3;exact ⟨_,resE_tmp2 rfl,⟨([]),2,(.slice none 0 0),av,rfl,H⟩⟩
 intro aT hM;refine kg 5 ?_;obtain ⟨bh,aU,hM⟩:=M.e_bind hM;refine s_call cq [Pq aP,.agg #[I d.spring,I d.town]] rfl (zb7 ab ac ae ah aN aO ak d (aB.app _) aC (aD.app _) aE (aF.app _) aG (aH.app _) aI (aJ.app _) aK (Has.here (k:=0) rfl) aU _ ((H.pk [1,0,2,3]).gt 3)) ?_;rintro vq bi ⟨r3,aV,bj,rfl,hvq,aa,aW⟩;subst vq;replace H:=H.pk [1,0,2,3] |>.bk aa
 obtain ⟨bm,hM⟩:=M.e_gq hM;refine s_call cq [aV] rfl (clone_any r3 (Reads.of (k:=0) rfl memLe) aW (by omega) _ H.sep) ?_;rintro bn bo aa;replace H:=H.bk aa;refine kg 3 ?_;replace H:=H.pk [0];exact rt

def zc6 (l:List Town):M (List Town) :=
  M.grd (decide ((([]:List Town).length+l.length)*24<=140737488355328)) <|
  M.pure l
theorem zc9 {R aa ab}(l)(ac:Reads R aa)(ae:Sl aa ab l){r}(hM:(zc6 l).Ends r)(w)(H:St w w [] R):Ret Tryz.prog 33 #[ab] w fun v w'=>∃ y0 u0,y0=r/\v=u0/\St w w' [cOwn (α:=Town) 53 u0 y0] R:=by
 refine ret_of_W Tryz.func33 rfl rfl rfl ?_;refine kg 12 ?_;replace H:=H.nilOwn (α:=Town) 53;obtain ⟨ah,hM⟩:=M.e_gq hM;refine kP 0 ?_;intro ai aj H;refine kg 2 ?_;exact rt

def zcd (aa:List Int) (ab:List Span) (ac:List Int) (ae ah:Int) (ai:List Flood) (r0:List Dem):((List Town) × Bool × Nat)->M (((List Town) × Bool × Nat) ⊕ (((List Town) × (List Town) × (List Town)) ⊕ ((List Town) × Bool × (List Town)))):=fun (l,again,i) =>
  bif ((decide ((i:Int)<(r0.length:Int)))&&(!again)) then (
  M.grd (decide ((i:Int)<(r0.length:Int))) <|
  M.bind (zb2 aa ab ac l ae ah ai (r0.getD i default)) fun (aj,ak) =>
  bif (((ak != 0)||(decide (((r0.getD i default).town)<0)))||(decide ((l.length:Int)<=((r0.getD i default).town)))) then (
  M.pure (.inr (.inl (l,l,l))))
  else (
  bif (aj.length:Int)==0 then (
  M.gi (((r0.getD i default).town)+1) <|
  M.bind (zc6 (l.take (Int.toNat ((r0.getD i default).town)))) fun r2 =>
  M.grd (decide ((r2.length+(l.drop (Int.toNat (((r0.getD i default).town)+1))).length)*24<=140737488355328)) <|
  M.pure (.inl (r2++(l.drop (Int.toNat (((r0.getD i default).town)+1))),true,i+1)))
  else (
  M.pure (.inl (l,again,i+1)))))
  else (
  M.pure (.inr (.inr (l,again,l))))
def zc5 (aa:List Int) (ab:List Span) (ac:List Int) (ae ah:Int) (ai:List Flood):((List Town) × Bool)->M (((List Town) × Bool) ⊕ (((List Town) × (List Town) × (List Town)) ⊕ ((List Town) × (List Town)))):=fun (l7,again3) =>
  bif again3 then (
  M.bind (zbQ aa ab ac l7 ae ah ai) fun (r0,r1) =>
  bif r1 != 0 then (
  M.pure (.inr (.inl (l7,l7,l7))))
  else (
  M.bind (M.iter (zcd aa ab ac ae ah ai r0) (l7,false,0)) fun x_=>match x_ with
  | (.inl (l2,l3,l4))=>(
  M.pure (.inr (.inl (l4,l4,l4))))
  | (.inr (l5,again2,l6))=>(
  M.pure (.inl (l6,again2)))))
  else (
  M.pure (.inr (.inr (l7,l7))))
def zbD (ac:List Int) (ae:List Span) (ah:List Int) (ai:List Town) (aa ab:Int) (aj:List Flood):M (Int × Int × Bool × (List Town)) :=
  M.bind (M.iter (zc5 ac ae ah aa ab aj) (ai,true)) fun x_=>match x_ with
  | (.inl (l8,l9,ak))=>(
  M.pure (aa,ab,false,ak))
  | (.inr (am,al))=>(
  M.pure (aa,ab,true,al))
theorem zev {R az ae aA ah aB ai aC aD aj}(al am ao aE aa ab aq)(bo:Reads R az)(bp:Sl az ae al)(br:Reads R aA)(bt:Sl aA ah am)(bu:Reads R aB)(bv:Sl aB ai ao)(bw:Reads R aD)(bx:Sl aD aj aq){r}(hM:(zbD al am ao aE aa ab aq).Ends r)(w)(H:St w w [cOwn (α:=Town) 53 aC aE] R):Ret Tryz.prog 10 #[.agg #[ae,ah,ai,aC,I aa,I ab,aj]] w fun v w'=>∃ y0 y1 y2 y3 u0,(y0,y1,y2,y3)=r/\v = .tuple #[.agg #[ae,ah,ai,u0,I y0,I y1,aj],B y2]/\St w w' [cOwn (α:=Town) 53 u0 y3] R:=by
 refine ret_of_W Tryz.func10 rfl rfl rfl ?_;refine kB 2 ?_;intro au bz H;refine kal ?_;intro av bA H;refine kg 8 ?_;obtain ⟨aW,aF,aw⟩:=M.e_bind hM;obtain ⟨aX,aF⟩:=M.e_iter aF;refine W.loop (fun m σ W=>∃ (l7:List Town) (again3:Bool) (ak:Value) (ρ:Env),σ=upds ρ [(1,Pq au),(2,Pq av),(4,B again3)]/\M.iterN (zc5 al am ao aa ab aq) m (l7,again3)=some aW/\St w W [cBlk av [.slice none 0 0,.slice none 0 0,.slice none 0 0,.slice none 0 0,I 0,I 0,.slice none 0 0] 40,cBlk au [ae,ah,ai,ak,I aa,I ab,aj] 40,cOwn (α:=Town) 53 ak l7] R) ?_ ?_
 ·exact kY
 rintro bB σ bC ⟨l7,again3,ak,ρ,rfl,aY,H⟩;obtain ⟨bD,bE,bF,hM,ax⟩:=M.e_iterN aY;refine kI 5 ?_ ?_
 ·intro aZ hM;refine kC 9 @zeI ?_;intro bG r0 r1 aG hM H;refine kI 12 ?_ ?_
  ·intro a7 hM;refine kS 3 ?_;intro bH H;refine kg 2 ?_;refine W.ret ?_;obtain rfl:=M.e_inr hM ax;replace hM:=aw;have a8:=(H.bl 1)
   have ay:=M.e_pure hM;exact ⟨_,(resE_ofn (vs:=[.agg #[ae,ah,ai,ak,I aa,I ab,aj],B false]) rfl rfl (.cell (v:=.agg #[ae,ah,ai,ak,I aa,I ab,aj]) rfl (run_loadVar_ag (ds:=[ae,ah,ai,ak,I aa,I ab,aj]) Ag40.h Sz40.h a8 rfl rfl)<|.tmp (v:=B false) rfl<|.nil)),⟨aa,ab,false,l7,ak,ay,rfl,(H.pk [3])⟩⟩
  intro a7 hM;refine kg 6 ?_;obtain ⟨ba,aH,aI⟩:=M.e_bind hM;obtain ⟨aX,aH⟩:=M.e_iter aH;refine W.loop (fun m σ W=>∃ (l:List Town) (again:Bool) (i:Nat) (ac:Value) (ρ:Env),σ=upds ρ [(1,Pq au),(2,Pq av),(4,B again),(5,aG),(7,I (i:Int))]/\M.iterN (zcd al am ao aa ab aq r0) m (l,again,i)=some ba/\St w W [cOwn (α:=Dem) 98 aG r0,cBlk av [.slice none 0 0,.slice none 0 0,.slice none 0 0,.slice none 0 0,I 0,I 0,.slice none 0 0] 40,cBlk au [ae,ah,ai,ac,I aa,I ab,aj] 40,cOwn (α:=Town) 53 ac l] R) ?_ ?_
  ·exact kY
  rintro bI σ bJ ⟨l,again,i,ac,ρ,rfl,bb,H⟩;obtain ⟨bK,bL,bM,hM,aJ⟩:=M.e_iterN bb;have bN:=((H.os 0)).len_le;refine kI 12 ?_ ?_
  ·intro bc hM;refine kD 4 [0,1,2,3] [5] ?_;intro bO H;obtain ⟨bP,hM⟩:=M.e_gq hM;refine kC 6 @zew ?_;intro bQ bR bS bT hM H;refine kN ?_;refine kD 8 [0,1,2,3,4] [] ?_;intro bU H;refine kI 22 ?_ ?_
   ·intro aK hM;refine kS 3 ?_;intro bV H;refine kg 2 ?_;refine W.ret ?_;obtain rfl:=M.e_inr hM aJ;replace hM:=aI;obtain rfl:=M.e_inr hM ax;replace hM:=aw;have bf:=(H.bl 2)
    have ay:=M.e_pure hM;exact ⟨_,(resE_ofn (vs:=[.agg #[ae,ah,ai,ac,I aa,I ab,aj],B false]) rfl rfl (.cell (v:=.agg #[ae,ah,ai,ac,I aa,I ab,aj]) rfl (run_loadVar_ag (ds:=[ae,ah,ai,ac,I aa,I ab,aj]) Ag40.h Sz40.h bf rfl rfl)<|.tmp (v:=B false) rfl<|.nil)),⟨aa,ab,false,l,ac,ay,rfl,(H.pk [4])⟩⟩
   intro aK hM;simp only [Bool.or_eq_false_iff,decide_eq_false_iff_not] at aK;have bW:=((H.os 0)).len_le;refine kI 7 ?_ ?_
   ·intro bg hM;refine kDT 1 [0,1,2,4] (.q 0 (.q 2 (.q 3 (.q 4 (.q 5 (.q 6 (.q 9 (.q 11 (.q 12 (.q 13 (.q 14 (.q 15 (.q 16 (.l2 1 (.q 7 (.l2 8 (.l 10 (.q 17 (.l 18 (.q 19 (.l 20 .nil))))) 10 (.q 17 (.l 8 (.l 18 (.q 19 (.l 20 .nil))))))) 10 (.q 17 (.l 1 (.q 7 (.l 8 (.l 18 (.q 19 (.l 20 .nil))))))))))))))))))))) ?_;intro bX H;obtain ⟨bY,hM⟩:=M.e_gq hM;refine kg 13 ?_;refine t_l2 rfl rfl ?_ ?_
    ·refine kG 1 ?_;refine kN ?_;obtain ⟨aL,bh,aM⟩:=sl_hi T37.h.und T37.h.size (H.os 4) (j:=(r0.getD i default).town) (by omega) (by omega);replace aM:Sl _ aL (l.take (Int.toNat ((r0.getD i default).town))):=aM;refine t_q rfl (fun w' H=>x_sl (v:=ac) (u:=aL) (lo':=none) (hi':=some (I ((r0.getD i default).town))) (mx':=none) rfl rfl rfl rfl (bh _)) ?_;refine t_l2 rfl rfl ?_ ?_
     ·refine kC 0 @zc9 ?_;intro bZ r2 aN hM H;refine kN ?_;refine kG 2 ?_;refine kN ?_;obtain ⟨aO,bi,aP⟩:=sl_lo T37.h.und T37.h.size (H.os 5) (i:=((r0.getD i default).town)+1) (by omega) (by omega);replace aP:Sl _ aO (l.drop (Int.toNat (((r0.getD i default).town)+1))):=aP;refine t_q rfl (fun w' H=>x_sl (v:=ac) (u:=aO) (lo':=some (I (((r0.getD i default).town)+1))) (hi':=none) (mx':=none) rfl rfl rfl rfl (bi _))<|t_l rfl ?_;obtain ⟨b4,hM⟩:=M.e_gq hM;refine kP 0 ?_;intro b5 b6 H;refine kN ?_;refine kS 2 ?_;intro b7 H;refine kN ?_
      exact kXp 9 [2,3,4,0]
     refine kG 1 ?_;refine kN ?_;obtain ⟨aQ,bj,aR⟩:=sl_lo T37.h.und T37.h.size (H.os 4) (i:=((r0.getD i default).town)+1) (by omega) (by omega);replace aR:Sl _ aQ (l.drop (Int.toNat (((r0.getD i default).town)+1))):=aR;refine t_q rfl (fun w' H=>x_sl (v:=ac) (u:=aQ) (lo':=some (I (((r0.getD i default).town)+1))) (hi':=none) (mx':=none) rfl rfl rfl rfl (bj _)) ?_;refine kC 1 @zc9 ?_;intro b8 r2 aN hM H;refine kN ?_;refine t_l rfl ?_;obtain ⟨b9,hM⟩:=M.e_gq hM;refine kP 0 ?_;intro cb cc H;refine kN ?_;refine kS 2 ?_;intro cd H;refine kN ?_;exact kXp 9 [2,3,4,0]
    refine kG 1 ?_;refine kN ?_;obtain ⟨aS,bm,aT⟩:=sl_lo T37.h.und T37.h.size (H.os 4) (i:=((r0.getD i default).town)+1) (by omega) (by omega);replace aT:Sl _ aS (l.drop (Int.toNat (((r0.getD i default).town)+1))):=aT;refine t_q rfl (fun w' H=>x_sl (v:=ac) (u:=aS) (lo':=some (I (((r0.getD i default).town)+1))) (hi':=none) (mx':=none) rfl rfl rfl rfl (bm _)) ?_;refine kG 2 ?_;refine kN ?_;obtain ⟨aU,bn,aV⟩:=sl_hi T37.h.und T37.h.size (H.os 4) (j:=(r0.getD i default).town) (by omega) (by omega);replace aV:Sl _ aU (l.take (Int.toNat ((r0.getD i default).town))):=aV;refine t_q rfl (fun w' H=>x_sl (v:=ac) (u:=aU) (lo':=none) (hi':=some (I ((r0.getD i default).town))) (mx':=none) rfl rfl rfl rfl (bn _)) ?_;refine kC 1 @zc9 ?_;intro ce r2 aN hM H;refine kN ?_;refine t_l rfl ?_;obtain ⟨cf,hM⟩:=M.e_gq hM;refine kP 0 ?_;intro cg ch H;refine kN ?_;refine kS 2 ?_;intro ck H;refine kN ?_;exact kXp 9 [2,3,4,0]
   intro bg hM;exact kXp 6 [1,2,3,4]
  intro bc hM;refine W.exit ?_;obtain rfl:=M.e_inr hM aJ;replace hM:=aI;exact kXp 0 [1,2,3]
 intro aZ hM;refine W.exit ?_;obtain rfl:=M.e_inr hM ax;replace hM:=aw;refine kS 3 ?_;intro cn H;exact kR 2 [2]

def zds (watches:List Int):((List Bool) × Nat)->M (((List Bool) × Nat) ⊕ (List Bool)):=fun (ar,s) =>
  bif decide ((s:Int)<(watches.length:Int)) then (
  M.grd (decide ((s:Int)<(watches.length:Int))) <|
  M.grd (decide ((0:Int)<=(watches.getD s 0))&&decide ((watches.getD s 0)<(12:Int))) <|
  M.pure (.inl (ar.set (Int.toNat (watches.getD s 0)) true,s+1)))
  else (
  M.pure (.inr ar))
def zcA (ab ac:Int) (watches:List Int) (e:Int):M (((List Bool) × Int) ⊕ (Int × Int × (List Bool) × Int)) :=
  bif e != 0 then (
  M.pure (.inl ((List.replicate 12 false),e)))
  else (
  M.bind (M.iter (zds watches) (List.replicate 12 false,0)) fun aa =>
  M.pure (.inl (aa,0)))
def zcj (watches:List Int):((List Bool) × Nat)->M (((List Bool) × Nat) ⊕ (List Bool)):=fun (ar,s) =>
  bif decide ((s:Int)<(watches.length:Int)) then (
  M.grd (decide ((s:Int)<(watches.length:Int))) <|
  M.grd (decide ((0:Int)<=(watches.getD s 0))&&decide ((watches.getD s 0)<(12:Int))) <|
  M.pure (.inl (ar.set (Int.toNat (watches.getD s 0)) true,s+1)))
  else (
  M.pure (.inr ar))
def za1 (ae:List Int) (ah:List Span) (ai:List Int) (aj:List Town) (ak al:Int) (am:List Flood) (watches:List Int) (aa ab e2:Int):M (((List Bool) × Int) ⊕ (Int × Int × (List Bool) × Int)) :=
  bif e2 != 0 then (
  M.pure (.inl ((List.replicate 12 false),e2)))
  else (
  M.bind (M.iter (zcj watches) (List.replicate 12 false,0)) fun ac =>
  M.pure (.inr (aa,ab,ac,0)))
def zb6 (aa:List Int) (ae:List Span) (ah:List Int) (ai:List Town) (ab ac:Int) (aj:List Flood) (watches:List Int):M (((List Bool) × Int) ⊕ (Int × Int × (List Bool) × Int)) :=
  M.bind (zas aa ae ah ai ab ac aj) fun x_=>match x_ with
  | (.inl r1)=>(
  M.bind (M.opt (r1==0) (zaO watches (aa.length:Int)) false) fun r2 =>
  bif ((r1==0)&&(!r2)) then (
  zcA ab ac watches 2)
  else (
  zcA ab ac watches r1))
  | (.inr (al,am,ak))=>(
  M.bind (M.opt (ak==0) (zaO watches (aa.length:Int)) false) fun r2 =>
  bif ((ak==0)&&(!r2)) then (
  za1 aa ae ah ai ab ac aj watches al am 2)
  else (
  za1 aa ae ah ai ab ac aj watches al am ak))
theorem zex {R aN aa aO ab aP ac aQ ae aR ah aS ax}(ak ay az aA al am aB watches)(aZ:Reads R aN)(aI:Sl aN aa ak)(a7:Reads R aO)(a8:Sl aO ab ay)(ba:Reads R aP)(bb:Sl aP ac az)(bc:Reads R aQ)(bf:Sl aQ ae aA)(bg:Reads R aR)(bh:Sl aR ah aB)(aT:Reads R aS)(aG:Sl aS ax watches){r}(hM:(zb6 ak ay az aA al am aB watches).Ends r)(w)(H:St w w [] R):Ret Tryz.prog 36 #[.agg #[aa,ab,ac,ae,I al,I am,ah],ax] w fun v w'=>(∃ (y0:List Bool) (y1:Int),(.inl (y0,y1))=r/\v = .tuple #[.pointer none,.agg (encB y0).toArray,I y1]/\St w w' [] R/\y0.length=12)∨(∃ (y0:Int) (y1:Int) (y2:List Bool) (y3:Int) (aU:Nat) (aV:Nat) (bi:Base),(.inr (y0,y1,y2,y3))=r/\v = .tuple #[Pq aU,.agg (encB y2).toArray,I y3]/\St w w' [cBlk aU [aa,ab,ac,ae,I y0,I y1,ah,.map (some aV)] 118,cMem encDm aV bi (zaa ak ay az aA y0 y1 aB)] R/\y2.length=12):=by
 refine ret_of_W Tryz.func36 rfl rfl rfl ?_;refine kB 2 ?_;intro aC bR H;refine kA 1 ?_;intro ai bS H;have aH:(List.replicate 12 false).length=12:=by simp
 refine kA 4 ?_;intro aj bT H;have aD:(List.replicate 12 false).length=12:=by simp
 refine kg 4 ?_;obtain ⟨bU,bj,hM⟩:=M.e_bind hM;refine s_call cq [.agg #[aa,ab,ac,ae,I al,I am,ah]] rfl (zbk ak ay az aA al am aB (aZ.app _) aI (a7.app _) a8 (ba.app _) bb (bc.app _) bf (bg.app _) bh bj _ (H.gt 3)) ?_;rintro vq bV (⟨r1,bm,hvq,aJ⟩ | ⟨aq,au,aW,aE,av,aF,bn,hvq,aJ⟩)
 ·subst bm;subst vq;replace H:=H.bk aJ;refine kg 6 ?_;refine W.seqJ (fun σ W=>∃ (e:Int) (ρ:Env),σ=upds ρ [(1,ax),(5,Pq ai),(7,Pq aj),(8,.pointer none),(9,I e)]/\(zcA al am watches e).Ends r/\St w W [cBlk aj (encB (List.replicate 12 false)) 106,cBlk ai (encB (List.replicate 12 false)) 106,cBlk aC [aa,ab,ac,ae,I al,I am,ah] 40] R) ?_ ?_
  ·have bW:=(aI).len_le;refine kg 9 ?_;obtain ⟨r2,bo,hM⟩:=M.e_bind hM;refine t_gcall (r1==0) (gy_t rfl) cq (B r2) (fun _=>[ax,I (ak.length:Int)]) (fun hg=>lst2 (gd_of hg (ax)) (gd_of hg (I (ak.length:Int)))) H (fun hg=>(zcQ watches (ak.length:Int) (aT.app _) aG (M.e_opt bo hg) _ (H.give (A:=[]) rfl)).mono fun v_ w_ ⟨y_,aw,aK,H_⟩=>by subst aw; exact ⟨aK,H.via H_⟩) ?_;intro bX H;refine kI 3 ?_ ?_
   ·intro bp hM;refine kg 3 ?_;exact ⟨2,_,jQ,hM,H⟩
   intro bp hM;refine W.skip ?_;exact ⟨r1,_,jQ,hM,H⟩
  rintro _ bY ⟨e,ρ,rfl,hM,H⟩;unfold zcA at hM;refine kI 6 ?_ ?_
  ·intro br hM;refine kD 1 [0,2] [3] ?_;intro bZ H;refine d_q rfl (fun w' H=>x_ld (v:=.agg (encB (List.replicate 12 false)).toArray) rfl (ldArrA Ag106.h Sz106.h aD (H.bl 0))) ?_;refine kG 3 ?_;refine t_stArrA (k:=1) (b:=ai) (l:=List.replicate 12 false) (l':=List.replicate 12 false) (L':=[cBlk aj (encB (List.replicate 12 false)) 106,cBlk ai (encB (List.replicate 12 false)) 106,cBlk aC [aa,ab,ac,ae,I al,I am,ah] 40]) H rfl rfl rfl Sz106.h aH aD rfl ?_;intro b4 H;refine kN ?_;refine kg 2 ?_;replace H:=H.pk [1];refine W.ret ?_;have bt:=(H.bl 0)
   have aw:=M.e_pure hM;exact ⟨_,(resE_ofn (vs:=[.pointer none,.agg (encB (List.replicate 12 false)).toArray,I e]) rfl rfl (.tmp (v:=.pointer none) rfl<|.cell (v:=.agg (encB (List.replicate 12 false)).toArray) rfl (run_loadVar_arr Ag106.h Sz106.h aD bt)<|.tmp (v:=I e) rfl<|.nil)),.inl (⟨(List.replicate 12 false),e,aw,rfl,(H.pk []),aD⟩)⟩
  intro br hM;have b5:=(aG).len_le;refine kg 9 ?_;obtain ⟨bu,aL,bv⟩:=M.e_bind hM;obtain ⟨bw,aL⟩:=M.e_iter aL;refine W.loop (fun m σ W=>∃ (ar:List Bool) (s:Nat) (ρ:Env),σ=upds ρ [(5,Pq ai),(7,Pq aj),(8,.pointer none),(31,ax),(32,I (watches.length:Int)),(33,I (s:Int))]/\M.iterN (zds watches) m (ar,s)=some bu/\St w W [cBlk aj (encB ar) 106,cBlk ai (encB (List.replicate 12 false)) 106,cBlk aC [aa,ab,ac,ae,I al,I am,ah] 40] R/\ar.length=12) ?_ ?_
  ·exact ⟨_,List.replicate 12 false,0,_,jQ,aL,H,aD⟩
  rintro b6 σ b7 ⟨ar,s,ρ,rfl,bx,H,ao⟩;obtain ⟨bz,bA,b8,hM,aX⟩:=M.e_iterN bx;refine kI 5 ?_ ?_
  ·intro bB hM;obtain ⟨b9,hM⟩:=M.e_gq hM;obtain ⟨cb,hM⟩:=M.e_gq hM;refine kg 11 ?_;refine s_val (x_ix (v:=.pointer (some ⟨aj,0+Int.toNat (watches.getD s 0),none⟩)) rfl rfl (run_indexArr Tryz.underlying106 Sz4.h (by omega) (by omega))) ?_;refine t_stArr (k:=0) (b:=aj) (l:=ar) (l':=ar.set (Int.toNat (watches.getD s 0)) true) (i:=watches.getD s 0) (v:=true) (L':=[cBlk aj (encB (ar.set (Int.toNat (watches.getD s 0)) true)) 106,cBlk ai (encB (List.replicate 12 false)) 106,cBlk aC [aa,ab,ac,ae,I al,I am,ah] 40]) H rfl rfl rfl Sz4.h (by omega) (by have bC:=ao; omega) rfl rfl ?_;intro cc H;have bD:(ar.set (Int.toNat (watches.getD s 0)) true).length=12:=List.length_set.trans ao;refine kg 5 ?_;exact ⟨bz,bA,ar.set (Int.toNat (watches.getD s 0)) true,s+1,_,jQ,M.e_inl hM aX,H,bD⟩
  intro bB hM;refine W.exit ?_;obtain rfl:=M.e_inr hM aX;replace hM:=bv;refine kD 1 [0,2] [3] ?_;intro cd H;refine kg 1 ?_;refine d_q rfl (fun w' H=>x_ld (v:=.agg (encB ar).toArray) rfl (ldArrA Ag106.h Sz106.h ao (H.bl 0))) ?_;refine kG 2 ?_;refine t_stArrA (k:=1) (b:=ai) (l:=List.replicate 12 false) (l':=ar) (L':=[cBlk aj (encB ar) 106,cBlk ai (encB ar) 106,cBlk aC [aa,ab,ac,ae,I al,I am,ah] 40]) H rfl rfl rfl Sz106.h aH ao rfl ?_;intro ce H;refine kN ?_;refine kg 2 ?_;replace H:=H.pk [1];refine W.ret ?_;have bE:=(H.bl 0)
  have aw:=M.e_pure hM;exact ⟨_,(resE_ofn (vs:=[.pointer none,.agg (encB ar).toArray,I 0]) rfl rfl (.tmp (v:=.pointer none) rfl<|.cell (v:=.agg (encB ar).toArray) rfl (run_loadVar_arr Ag106.h Sz106.h ao bE)<|.tmp (v:=I 0) rfl<|.nil)),.inl (⟨ar,0,aw,rfl,(H.pk []),ao⟩)⟩
 subst bn;subst vq;replace H:=H.bk aJ;refine kg 6 ?_;refine W.seqJ (fun σ W=>∃ (e2:Int) (ρ:Env),σ=upds ρ [(1,ax),(5,Pq ai),(7,Pq aj),(8,Pq aE),(9,I e2)]/\(za1 ak ay az aA al am aB watches aq au e2).Ends r/\St w W [cBlk aE [aa,ab,ac,ae,I aq,I au,ah,.map (some av)] 118,cMem encDm av aF (zaa ak ay az aA aq au aB),cBlk aj (encB (List.replicate 12 false)) 106,cBlk ai (encB (List.replicate 12 false)) 106,cBlk aC [aa,ab,ac,ae,I al,I am,ah] 40] R) ?_ ?_
 ·have cf:=(aI).len_le;refine kg 9 ?_;obtain ⟨r2,bF,hM⟩:=M.e_bind hM;refine t_gcall (aW==0) (gy_t rfl) cq (B r2) (fun _=>[ax,I (ak.length:Int)]) (fun hg=>lst2 (gd_of hg (ax)) (gd_of hg (I (ak.length:Int)))) H (fun hg=>(zcQ watches (ak.length:Int) (aT.app _) aG (M.e_opt bF hg) _ (H.give (A:=[]) rfl)).mono fun v_ w_ ⟨y_,aw,aK,H_⟩=>by subst aw; exact ⟨aK,H.via H_⟩) ?_;intro cg H;refine kI 3 ?_ ?_
  ·intro bG hM;refine kg 3 ?_;exact ⟨2,_,jQ,hM,H⟩
  intro bG hM;refine W.skip ?_;exact ⟨aW,_,jQ,hM,H⟩
 rintro _ ch ⟨e2,ρ,rfl,hM,H⟩;unfold za1 at hM;refine kI 6 ?_ ?_
 ·intro bH hM;refine kD 1 [0,1,2,4] [3] ?_;intro ck H;refine d_q rfl (fun w' H=>x_ld (v:=.agg (encB (List.replicate 12 false)).toArray) rfl (ldArrA Ag106.h Sz106.h aD (H.bl 2))) ?_;refine kG 3 ?_;refine t_stArrA (k:=3) (b:=ai) (l:=List.replicate 12 false) (l':=List.replicate 12 false) (L':=[cBlk aE [aa,ab,ac,ae,I aq,I au,ah,.map (some av)] 118,cMem encDm av aF (zaa ak ay az aA aq au aB),cBlk aj (encB (List.replicate 12 false)) 106,cBlk ai (encB (List.replicate 12 false)) 106,cBlk aC [aa,ab,ac,ae,I al,I am,ah] 40]) H rfl rfl rfl Sz106.h aH aD rfl ?_;intro cn H;refine kN ?_;refine kg 2 ?_;replace H:=H.pk [3];refine W.ret ?_;have bI:=(H.bl 0)
  have aw:=M.e_pure hM;exact ⟨_,(resE_ofn (vs:=[.pointer none,.agg (encB (List.replicate 12 false)).toArray,I e2]) rfl rfl (.tmp (v:=.pointer none) rfl<|.cell (v:=.agg (encB (List.replicate 12 false)).toArray) rfl (run_loadVar_arr Ag106.h Sz106.h aD bI)<|.tmp (v:=I e2) rfl<|.nil)),.inl (⟨(List.replicate 12 false),e2,aw,rfl,(H.pk []),aD⟩)⟩
 intro bH hM;have cp:=(aG).len_le;refine kg 9 ?_;obtain ⟨bJ,aM,bK⟩:=M.e_bind hM;obtain ⟨bw,aM⟩:=M.e_iter aM;refine W.loop (fun m σ W=>∃ (ar:List Bool) (s:Nat) (ρ:Env),σ=upds ρ [(5,Pq ai),(7,Pq aj),(8,Pq aE),(31,ax),(32,I (watches.length:Int)),(33,I (s:Int))]/\M.iterN (zcj watches) m (ar,s)=some bJ/\St w W [cBlk aE [aa,ab,ac,ae,I aq,I au,ah,.map (some av)] 118,cMem encDm av aF (zaa ak ay az aA aq au aB),cBlk aj (encB ar) 106,cBlk ai (encB (List.replicate 12 false)) 106,cBlk aC [aa,ab,ac,ae,I al,I am,ah] 40] R/\ar.length=12) ?_ ?_
 ·exact ⟨_,List.replicate 12 false,0,_,jQ,aM,H,aD⟩
 rintro ct σ cu ⟨ar,s,ρ,rfl,bL,H,ao⟩;obtain ⟨bM,bN,cw,hM,aY⟩:=M.e_iterN bL;refine kI 5 ?_ ?_
 ·intro bO hM;obtain ⟨cA,hM⟩:=M.e_gq hM;obtain ⟨cB,hM⟩:=M.e_gq hM;refine kg 11 ?_;refine s_val (x_ix (v:=.pointer (some ⟨aj,0+Int.toNat (watches.getD s 0),none⟩)) rfl rfl (run_indexArr Tryz.underlying106 Sz4.h (by omega) (by omega))) ?_;refine t_stArr (k:=2) (b:=aj) (l:=ar) (l':=ar.set (Int.toNat (watches.getD s 0)) true) (i:=watches.getD s 0) (v:=true) (L':=[cBlk aE [aa,ab,ac,ae,I aq,I au,ah,.map (some av)] 118,cMem encDm av aF (zaa ak ay az aA aq au aB),cBlk aj (encB (ar.set (Int.toNat (watches.getD s 0)) true)) 106,cBlk ai (encB (List.replicate 12 false)) 106,cBlk aC [aa,ab,ac,ae,I al,I am,ah] 40]) H rfl rfl rfl Sz4.h (by omega) (by have bC:=ao; omega) rfl rfl ?_;intro cC H;have bP:(ar.set (Int.toNat (watches.getD s 0)) true).length=12:=List.length_set.trans ao;refine kg 5 ?_;exact ⟨bM,bN,ar.set (Int.toNat (watches.getD s 0)) true,s+1,_,jQ,M.e_inl hM aY,H,bP⟩
 intro bO hM;refine W.exit ?_;obtain rfl:=M.e_inr hM aY;replace hM:=bK;refine kD 1 [0,1,2,4] [3] ?_;intro cD H;refine kg 1 ?_;refine d_q rfl (fun w' H=>x_ld (v:=.agg (encB ar).toArray) rfl (ldArrA Ag106.h Sz106.h ao (H.bl 2))) ?_;refine kG 2 ?_;refine t_stArrA (k:=3) (b:=ai) (l:=List.replicate 12 false) (l':=ar) (L':=[cBlk aE [aa,ab,ac,ae,I aq,I au,ah,.map (some av)] 118,cMem encDm av aF (zaa ak ay az aA aq au aB),cBlk aj (encB ar) 106,cBlk ai (encB ar) 106,cBlk aC [aa,ab,ac,ae,I al,I am,ah] 40]) H rfl rfl rfl Sz106.h aH ao rfl ?_;intro cE H;refine kN ?_;refine kg 2 ?_;replace H:=H.pk [0,1,3];refine W.ret ?_;have bQ:=(H.bl 2)
 have aw:=M.e_pure hM;exact ⟨_,(resE_ofn (vs:=[Pq aE,.agg (encB ar).toArray,I 0]) rfl rfl (.tmp (v:=Pq aE) rfl<|.cell (v:=.agg (encB ar).toArray) rfl (run_loadVar_arr Ag106.h Sz106.h ao bQ)<|.tmp (v:=I 0) rfl<|.nil)),.inr (⟨aq,au,ar,0,aE,av,aF,aw,rfl,(H.pk [0,1]),ao⟩)⟩

def zax (t:Town) (ab ae:Int) (ac:List Int) (aa:Int):M Bool :=
  M.grd ((!(t.station==ab)||(decide ((0:Int)<=aa)&&decide (aa<(ac.length:Int))))) <|
  M.pure ((t.station==ab)&&(decide (t.alarm<=(ac.getD (Int.toNat aa) 0))))
theorem zdR {R ab ac ae ah ai}(t aj ak al am)(ao:Has R (cBlk ab [I aj] 3))(aq:Reads R ae)(au:Sl ae ah al)(av:Has R (cBlk ac [I ak,ah] 51))(aw:Has R (cBlk ai [I am] 3)){r}(hM:(zax t aj ak al am).Ends r)(w)(H:St w w [] R):Ret Tryz.prog 85 #[.agg #[I t.station,I t.lead,I t.alarm],Pq ab,Pq ac,Pq ai] w fun v w'=>∃ y0,y0=r/\v=B y0/\St w w' [] R:=by
 refine ret_of_W Tryz.func85 rfl rfl rfl ?_;refine kB 2 ?_;intro ax ay H;refine kD 3 [0] [] ?_;intro az H;obtain ⟨aa,hM⟩:=M.e_grd hM;replace aa:=M.imp_of aa;simp only [Bool.and_eq_true,decide_eq_true_eq] at aa;refine kg 16 ?_;exact rt

def zau (ab:List Town) (f:Flood) (p:List Bool):(Int × Int × Bool)->(Int × Int)->M ((Int × Int × Bool) ⊕ Unit):=fun (s3,s4,s5) (x,x2) =>
  M.grd (decide ((0:Int)<=x2)&&decide (x2<(12:Int))) <|
  bif ((p.getD (Int.toNat x2) false)&&(s3==(-1))) then (
  M.grd (decide ((0:Int)<=x)&&decide (x<(f.stages.length:Int))) <|
  M.bind (zar ab (fun aa=>zax aa x2 f.spring f.stages x)) fun r2 =>
  bif r2 then (
  M.pure (.inl (x2,f.stages.getD (Int.toNat x) 0,true)))
  else (
  M.pure (.inl (x2,f.stages.getD (Int.toNat x) 0,s5))))
  else (
  M.bind (zar ab (fun aa=>zax aa x2 f.spring f.stages x)) fun r2 =>
  bif r2 then (
  M.pure (.inl (s3,s4,true)))
  else (
  M.pure (.inl (s3,s4,s5))))
def zbf (ab:List Int) (ac:List Span) (ae:List Int) (aa:List Town) (ai aj:Int) (ah:List Flood) (f:Flood) (p:List Bool):M (Int × Int × Bool) :=
  M.bind (zai ab ac ae aa ai aj ah f.spring) fun (ak,al,am) =>
  M.bind (zal (M.yl (zau aa f p)) (.inl (-1,0,false)) ak ab ac ae aa al am ah) fun x_=>match x_ with
  | (.inl (s3,s4,s5),q0)=>(
  M.pure (s3,s4,s5))
  | (.inr _,_)=>M.fail
theorem zdO {R am bh ae bi ah bj ai bm aa bn aj bw bo ao}(aN aO aP ak aG aH aQ f p)(aR:Reads R bh)(bp:Sl bh ae aN)(aS:Reads R bi)(br:Sl bi ah aO)(aT:Reads R bj)(bt:Sl bj ai aP)(aB:Reads R bm)(aI:Sl bm aa ak)(aU:Reads R bn)(bu:Sl bn aj aQ)(aV:Has R (cBlk am [ae,ah,ai,aa,I aG,I aH,aj,.map (some bw)] 118))(aJ:Reads R bo)(aW:Sl bo ao f.stages)(bx:p.length=12){r}(hM:(zbf aN aO aP ak aG aH aQ f p).Ends r)(w)(H:St w w [] R):Ret Tryz.prog 38 #[Pq am,.agg #[I f.spring,ao],.agg (encB p).toArray] w fun v w'=>∃ y0 y1 y2,(y0,y1,y2)=r/\v = .agg #[I y0,I y1,B y2]/\St w w' [] R:=by
 refine ret_of_WD Tryz.func38 rfl rfl rfl ?_;replace H:St w w [cMk ([])] R:=H.mk0;have bQ:=bp.len_le;have bR:=br.len_le;have bS:=bt.len_le;have bT:=aI.len_le;have bU:=bu.len_le;have bV:=aW.len_le;unfold zbf at hM;refine WD.seq<|WD.of ?_;refine kB 1 ?_;intro aC bW H;refine kbx ?_;intro ab bX H;refine kbx ?_;intro aw bY H;refine kal ?_;intro aD bZ H;refine s_nil<|WD.seq<|WD.of ?_;refine kA 2 ?_;intro ac b4 H;refine ksw ?_;intro b5 H;refine s_nil<|WD.seq<|WD.seq<|WD.of ?_;refine kD 0 [0,1,2,3,4,5] [6] ?_;intro b6 H;refine kg 3 ?_;refine d_q rfl (fun w' H=>x_ld (v:=.agg #[ae,ah,ai,aa,I aG,I aH,aj]) rfl (ldb_ag (ds:=[ae,ah,ai,aa,I aG,I aH,aj]) Ag40.h Sz40.h (aV.blk H) rfl rfl)) ?_;refine kC 3 @zaZ ?_;intro b7 aK ax ay aE az hM H;refine kN ?_;refine d_nil<|WD.block ?_;obtain ⟨b8,bz,hM⟩:=M.e_bind hM;refine WD.range (L:=[cBlk ac [I (-1),I 0,B false] 111,cBlk az [ae,ah,ai,aa,I ax,I ay,aj] 40,cBlk aD [I 0,I 0,B false] 111,cBlk aw (encB p) 106,cBlk ab [I f.spring,ao] 51,cBlk aC [Pq am] 100,cBlk aE [I aK] 3]) [Pq aE,Pq az] (H.pk [7,2,1,3,4,5,6,0]) rfl cq ?_;intro aL aX aY bA aZ H
 have hYC:YieldC Tryz.prog ([cMk (aX :: ([])),cBlk az [ae,ah,ai,aa,I ax,I ay,aj] 40,cBlk aD [I 0,I 0,B false] 111,cBlk aw (encB p) 106,cBlk ab [I f.spring,ao] 51,cBlk aC [Pq am] 100]++R) arII (yJ aL aY (fun (s3,s4,s5) aM=>aM=[cBlk ac [I s3,I s4,B s5] 111]) (fun (_:Unit) _=>False) (fun _=>.ret)) (.func (.yield aL) #[] #[]) (M.yl (zau ak f p)):=by
  refine YieldC.mk2 aZ (fun (s3,s4,s5) aM=>aM=[cBlk ac [I s3,I s4,B s5] 111]) (fun (_:Unit) _=>False) (fun _=>.ret) (zau ak f p) (by rintro ⟨s3,s4,s5⟩ _ h_; obtain ⟨rfl⟩:=h_; rfl) (fun _ _ h_=>h_.elim) rfl (arII_len rfl) ?_;intro C_ b9 x_ bB;obtain ⟨x,x2⟩:=x_;obtain rfl:=bB;intro w R al aM s_ r bC hM H;obtain ⟨s3,s4,s5⟩:=s_;obtain ⟨rfl⟩:=bC;replace H:=H.nf;refine kA 2 ?_;intro aq cb H;refine ksw ?_;intro cc H;refine kA 2 ?_;intro au cd H;refine ksw ?_;intro ce H;refine s_nil ?_;refine ⟨rfl,[cBlk au [I x2] 3,cBlk aq [I x] 3],H.pick [0,1,2,3,4,5,6,7,8] (by decide) rfl,?_⟩;clear H al;intro w R al H;replace aR:=aR.sub al;replace aS:=aS.sub al;replace aT:=aT.sub al;replace aB:=aB.sub al;replace aU:=aU.sub al;replace aV:=aV.sub al;replace aJ:=aJ.sub al;replace hM:(zau ak f p (s3,s4,s5) (x,x2)).Ends r:=hM;simp only [zau] at hM;replace H:=H.nf;obtain ⟨cf,hM⟩:=M.e_gq hM;refine kg 5 ?_;refine s_val (x_ix (v:=.pointer (some ⟨aw,0+Int.toNat x2,none⟩)) rfl rfl (run_indexArr Tryz.underlying106 Sz4.h (by omega) (by omega)))<|s_val (x_ld (v:=B (p.getD (Int.toNat x2) false)) rfl (ldArr Sc4.h (H.bl 6) (by omega) (by have cg:=bx; omega))) ?_;refine kI 6 ?_ ?_
  ·intro bD hM;refine kD 0 [0,1,3,4,5,6,7,8] [7,9] ?_;intro ch H;obtain ⟨ck,hM⟩:=M.e_gq hM;refine kS 8 ?_;intro cn H;refine kN ?_;refine kS 2 ?_;intro cp H;refine kN ?_;refine kg 8 ?_;refine s_val (x_mf (fs:=[]) (cs:=[Pq au,Pq ab,Pq aq]) rfl rfl) ?_;obtain ⟨ct,bE,hM⟩:=M.e_bind hM;refine s_call cq [aa,.func (.func 85) #[] #[Pq au,Pq ab,Pq aq]] rfl (zc1 ak (fun av=>zax av x2 f.spring f.stages x) (aB.app _) aI ⟨85,[Pq au,Pq ab,Pq aq],rfl,cq,fun aF bF bG a7 av bH a8 bI ba bb=>by obtain rfl:=Town_arg ba; exact (zdR av x2 f.spring f.stages x (Has.app (Has.here (k:=0) rfl) _) (Reads.app (aJ.app _) _) aW (Has.app (Has.here (k:=7) rfl) _) (Has.app (Has.here (k:=1) rfl) _) bb aF (St.refl a8)).mono fun a7 aF ⟨bJ,bc,bf,bg⟩=>by subst bc; exact ⟨bf,bg⟩⟩ bE _ (H.gt 9)) ?_;rintro _ cu ⟨r2,rfl,rfl,aA⟩;replace H:=H.bk aA;refine kI 1 ?_ ?_
   ·intro bK hM;refine kS 2 ?_;intro cw H;refine s_nil ?_;exact ⟨(x2,f.stages.getD (Int.toNat x) 0,true),[cBlk ac [I x2,I (f.stages.getD (Int.toNat x) 0),B true] 111],(M.e_pure hM).symm,rfl,H.pick [2,3,4,5,6,7,8] (by decide) rfl⟩
   intro bK hM;refine W.skip ?_;exact ⟨(x2,f.stages.getD (Int.toNat x) 0,s5),[cBlk ac [I x2,I (f.stages.getD (Int.toNat x) 0),B s5] 111],(M.e_pure hM).symm,rfl,H.pick [2,3,4,5,6,7,8] (by decide) rfl⟩
  intro bD hM;refine kg 8 ?_;refine s_val (x_mf (fs:=[]) (cs:=[Pq au,Pq ab,Pq aq]) rfl rfl) ?_;obtain ⟨cA,bL,hM⟩:=M.e_bind hM;refine s_call cq [aa,.func (.func 85) #[] #[Pq au,Pq ab,Pq aq]] rfl (zc1 ak (fun av=>zax av x2 f.spring f.stages x) (aB.app _) aI ⟨85,[Pq au,Pq ab,Pq aq],rfl,cq,fun aF bF bG a7 av bH a8 bI ba bb=>by obtain rfl:=Town_arg ba; exact (zdR av x2 f.spring f.stages x (Has.app (Has.here (k:=0) rfl) _) (Reads.app (aJ.app _) _) aW (Has.app (Has.here (k:=7) rfl) _) (Has.app (Has.here (k:=1) rfl) _) bb aF (St.refl a8)).mono fun a7 aF ⟨bJ,bc,bf,bg⟩=>by subst bc; exact ⟨bf,bg⟩⟩ bL _ (H.gt 9)) ?_;rintro _ cB ⟨r2,rfl,rfl,aA⟩;replace H:=H.bk aA;refine kI 1 ?_ ?_
  ·intro bM hM;refine kS 2 ?_;intro cC H;refine s_nil ?_;exact ⟨(s3,s4,true),[cBlk ac [I s3,I s4,B true] 111],(M.e_pure hM).symm,rfl,H.pick [2,3,4,5,6,7,8] (by decide) rfl⟩
  intro bM hM;refine W.skip ?_;exact ⟨(s3,s4,s5),[cBlk ac [I s3,I s4,B s5] 111],(M.e_pure hM).symm,rfl,H.pick [2,3,4,5,6,7,8] (by decide) rfl⟩
 replace H:St w bA (cAll (cObj aL (.loop aY) :: [cBlk ac [I (-1),I 0,B false] 111]) :: [cBlk aE [I aK] 3,cMk (aX :: ([])),cBlk az [ae,ah,ai,aa,I ax,I ay,aj] 40,cBlk aD [I 0,I 0,B false] 111,cBlk aw (encB p) 106,cBlk ab [I f.spring,ao] 51,cBlk aC [Pq am] 100]) R:=St.bundleB (A:=cObj aL (.loop aY) :: [cBlk ac [I (-1),I 0,B false] 111]) (T:=[cBlk aE [I aK] 3,cMk (aX :: ([])),cBlk az [ae,ah,ai,aa,I ax,I ay,aj] 40,cBlk aD [I 0,I 0,B false] 111,cBlk aw (encB p) 106,cBlk ab [I f.spring,ao] 51,cBlk aC [Pq am] 100]) rfl (H.pk [0,2,8,1,3,4,5,6,7]);refine (zaU (M.yl (zau ak f p)) (.inl (-1,0,false)) aK aN aO aP ak ax ay aQ hYC ⟨_,rfl,rfl⟩ (aR.app _) bp (aS.app _) br (aT.app _) bt (aB.app _) aI (aU.app _) bu (Has.here (k:=1) rfl) bz _ (H.gt 6)).mono ?_;rintro vq cD ⟨bN,q0,cE,rfl,hvq,aA,bv⟩;replace H:=H.back aA rfl;clear aA hYC;rcases bN with ⟨s3,s4,s5⟩ | _
 ·obtain ⟨_,rfl,rfl⟩:=bv;refine ⟨_,[cBlk ac [I s3,I s4,B s5] 111,cBlk az [ae,ah,ai,aa,I ax,I ay,aj] 40,cBlk aD [I 0,I 0,B false] 111,cBlk aw (encB p) 106,cBlk ab [I f.spring,ao] 51,cBlk aC [Pq am] 100,cBlk aE [I q0] 3],H.unbundle.pick [0,3,1,4,5,6,7,8,2] (by decide) rfl,aZ.nb,?_⟩;intro cF H;rw [aZ.pd];replace H:=H.nf
  try simp only []
  replace H:=H.pk [0,1,3];refine WD.seq<|WD.of ?_;refine kS 2 ?_;intro cG H;refine s_nil<|WD.of ?_;refine W.ret ?_;refine bodyD_r (H.pk [0,1,2]) ?_;intro cH H;replace H:=H.nf
  have bO:=(H.bl 1)
  have bP:=M.e_pure hM;exact ⟨_,(resE_of1 (v:=.agg #[I s3,I s4,B s5]) rfl (.cell (v:=.agg #[I s3,I s4,B s5]) rfl (run_loadVar_ag (ds:=[I s3,I s4,B s5]) Ag111.h Sz111.h bO rfl rfl)<|.nil)),⟨s3,s4,s5,bP,rfl,(H.pk [])⟩⟩
 obtain ⟨_,_,h_⟩:=bv; exact h_.elim

def zcK (ac:List Int) (ae:List Span) (ah:List Int) (ai:List Town) (aj ak:Int) (aa:List Flood) (watches:List Int) (flood:Int):M (Int × Bool × Int) :=
  M.bind (zb6 ac ae ah ai aj ak aa watches) fun x_=>match x_ with
  | (.inl (r1,r2))=>(
  M.bind (M.opt (r2==0) (zaf flood 0 ((aa.length:Int)-1)) false) fun r3 =>
  bif ((r2==0)&&(!r3)) then (
  M.pure (0,false,2))
  else (
  bif r2 != 0 then (
  M.pure (0,false,r2))
  else (
  M.fail)))
  | (.inr (al,am,ao,ab))=>(
  M.bind (M.opt (ab==0) (zaf flood 0 ((aa.length:Int)-1)) false) fun r3 =>
  bif ((ab==0)&&(!r3)) then (
  M.pure (0,false,2))
  else (
  bif ab != 0 then (
  M.fail)
  else (
  M.grd (decide ((0:Int)<=flood)&&decide (flood<(aa.length:Int))) <|
  M.bind (zbf ac ae ah ai al am aa (aa.getD (Int.toNat flood) default) ao) fun (r0,au,aq) =>
  M.pure (r0,aq,0))))
theorem zeD {R aD ab aE ac aF ae aG ah aH ai aI aw}(am ao aq au aj ak aa watches flood)(aS:Reads R aD)(aT:Sl aD ab am)(aU:Reads R aE)(aV:Sl aE ac ao)(aW:Reads R aF)(aX:Sl aF ae aq)(aY:Reads R aG)(aZ:Sl aG ah au)(aJ:Reads R aH)(av:Sl aH ai aa)(a7:Reads R aI)(a8:Sl aI aw watches){r}(hM:(zcK am ao aq au aj ak aa watches flood).Ends r)(w)(H:St w w [] R):Ret Tryz.prog 12 #[.agg #[ab,ac,ae,ah,I aj,I ak,ai],aw,I flood] w fun v w'=>∃ y0 y1 y2,(y0,y1,y2)=r/\v = .tuple #[I y0,B y1,I y2]/\St w w' [] R:=by
 refine ret_of_W Tryz.func12 rfl rfl rfl ?_;refine kB 2 ?_;intro aK bx H;refine kg 8 ?_;obtain ⟨bz,ba,hM⟩:=M.e_bind hM;refine s_call cq [.agg #[ab,ac,ae,ah,I aj,I ak,ai],aw] rfl (zex am ao aq au aj ak aa watches (aS.app _) aT (aU.app _) aV (aW.app _) aX (aY.app _) aZ (aJ.app _) av (a7.app _) a8 ba _ (H.gt 1)) ?_;rintro vq bA (⟨r1,r2,bb,hvq,ax,bc⟩ | ⟨aL,aM,ay,bf,bg,aN,bh,bi,hvq,ax,aO⟩)
 ·subst bb;subst vq;replace H:=H.bk ax;refine kA 4 ?_;intro al bB H;have az:(List.replicate 12 false).length=12:=by simp
  refine kg 1 ?_;refine t_stArrA (k:=0) (b:=al) (l:=List.replicate 12 false) (l':=r1) (L':=[cBlk al (encB r1) 106,cBlk aK [ab,ac,ae,ah,I aj,I ak,ai] 40]) H rfl rfl rfl Sz106.h az bc rfl ?_;intro bC H;have bD:=(av).len_le;refine kg 13 ?_;obtain ⟨r3,bj,hM⟩:=M.e_bind hM;refine t_gcall (r2==0) (gy_t rfl) cq (B r3) (fun _=>[I flood,I 0,I ((aa.length:Int)-1)]) (fun hg=>lst3 (gd_of hg (I flood)) rfl (gd_of hg (I ((aa.length:Int)-1)))) H (fun hg=>(zak flood 0 ((aa.length:Int)-1) (M.e_opt bj hg) _ (H.give (A:=[]) rfl)).mono fun v_ w_ ⟨y_,aA,aB,H_⟩=>by subst aA; exact ⟨aB,H.via H_⟩) ?_;intro bE H;refine kI 3 ?_ ?_
  ·intro bm hM;refine kg 9 ?_;refine W.cond ((2:Int) != 0) rfl (fun aP=>?_) (fun aP=>?_)
   ·refine kg 7 ?_;replace H:=H.pk [];exact rt
   exact absurd aP (by decide)
  intro bm hM;refine kI 7 ?_ ?_
  ·intro bn hM;refine kg 7 ?_;replace H:=H.pk [];exact rt
  intro bn hM;exact (M.e_fail hM).elim
 subst bi;subst vq;replace H:=H.bk ax;refine kA 4 ?_;intro al bF H;have az:(List.replicate 12 false).length=12:=by simp
 refine kg 1 ?_;refine t_stArrA (k:=0) (b:=al) (l:=List.replicate 12 false) (l':=ay) (L':=[cBlk al (encB ay) 106,cBlk bg [ab,ac,ae,ah,I aL,I aM,ai,.map (some aN)] 118,cMem encDm aN bh (zaa am ao aq au aL aM aa),cBlk aK [ab,ac,ae,ah,I aj,I ak,ai] 40]) H rfl rfl rfl Sz106.h az aO rfl ?_;intro bG H;have bH:=(av).len_le;refine kg 13 ?_;obtain ⟨r3,bo,hM⟩:=M.e_bind hM;refine t_gcall (bf==0) (gy_t rfl) cq (B r3) (fun _=>[I flood,I 0,I ((aa.length:Int)-1)]) (fun hg=>lst3 (gd_of hg (I flood)) rfl (gd_of hg (I ((aa.length:Int)-1)))) H (fun hg=>(zak flood 0 ((aa.length:Int)-1) (M.e_opt bo hg) _ (H.give (A:=[]) rfl)).mono fun v_ w_ ⟨y_,aA,aB,H_⟩=>by subst aA; exact ⟨aB,H.via H_⟩) ?_;intro bI H;refine kI 3 ?_ ?_
 ·intro bp hM;refine kg 9 ?_;refine W.cond ((2:Int) != 0) rfl (fun aQ=>?_) (fun aQ=>?_)
  ·refine kg 7 ?_;replace H:=H.pk [];exact rt
  exact absurd aQ (by decide)
 intro bp hM;refine kI 7 ?_ ?_
 ·intro br hM;exact (M.e_fail hM).elim
 intro br hM;refine kDT 2 [0,1,2,3] (.q 0 (.q 1 (.q 2 (.q 3 (.q 4 (.q 5 (.q 6 (.l2 7 (.l 8 (.l 9 .nil)) 8 (.l 7 (.l 9 .nil)))))))))) ?_;intro bJ H;obtain ⟨bK,hM⟩:=M.e_gq hM;refine kg 5 ?_;obtain ⟨aR,bt,aC⟩:=Flood_atA av (i:=flood) (by omega) (by omega);replace aC:Sl _ aR (aa.getD (Int.toNat flood) default).stages:=aC;have bL:=aC.len_le;refine t_q rfl (fun w' H=>x_ld (v:=.agg #[I ((aa.getD (Int.toNat flood) default).spring),aR]) rfl (ld_ag Ag51.h Sz51.h (At.mono bt (aJ.at H))))<|t_q rfl (fun w' H=>x_ld (v:=.agg (encB ay).toArray) rfl (ldArrA Ag106.h Sz106.h aO (H.bl 0))) ?_;refine t_l2 rfl rfl ?_ ?_
 ·refine kC 0 @zdO ?_;intro bM r0 bu bv hM H;refine kN ?_;refine kA 1 ?_;intro bw bN H;refine kN ?_;refine kS 1 ?_;intro bO H;refine kN ?_;refine t_nil ?_;replace H:=H.pk [0];refine kD 1 [0] [] ?_;intro bP H;refine kg 8 ?_;exact rt
 refine kal ?_;intro bw bQ H;refine kN ?_;refine kC 1 @zdO ?_;intro bR r0 bu bv hM H;refine kN ?_;refine kS 1 ?_;intro bS H;refine kN ?_;refine t_nil ?_;replace H:=H.pk [0];refine kD 1 [0] [] ?_;intro bT H;refine kg 8 ?_;exact rt

def zcI (aa:List Int) (ab:List Span) (ac:List Int) (ae:List Town) (ah ai:Int) (aj:List Flood) (n:Int):M Bool :=
  M.bind (zaf n 0 ((aa.length:Int)-1)) fun r2 =>
  M.pure r2
theorem zeF {R aa ab ac ae ah ai aj ak al am ao aA}(aq au av aw ax ay az n)(aC:Reads R ab)(aB:Sl ab ac aq)(aD:Reads R ae)(aE:Sl ae ah au)(aF:Reads R ai)(aG:Sl ai aj av)(aH:Reads R ak)(aI:Sl ak al aw)(aJ:Reads R am)(aK:Sl am ao az)(aL:Has R (cBlk aa [ac,ah,aj,al,I ax,I ay,ao,.map (some aA)] 118)){r}(hM:(zcI aq au av aw ax ay az n).Ends r)(w)(H:St w w [] R):Ret Tryz.prog 39 #[Pq aa,I n] w fun v w'=>∃ y0,y0=r/\v=B y0/\St w w' [] R:=by
 refine ret_of_W Tryz.func39 rfl rfl rfl ?_;have aM:=(aB).len_le;refine kC 14 @zak ?_;intro aN r2 hM H;refine kg 2 ?_;exact rt

end Go.Proofs.YtbgoclcmgbpckaaGreat
end
section
set_option maxRecDepth 100000
set_option maxHeartbeats 16000000
namespace Go.Proofs.YtbgoclcmgbpckaaGreat
open Go Go.Nm
attribute [local irreducible] gd execOp SL SLD SLT WR
def zaC  : (List Int)->(Int × Int)->M ((List Int) ⊕ Unit):=fun l (x,x2) =>
  M.grd (decide ((l.length+([(x2:Int)]).length)*8<=140737488355328)) <|
  M.pure (.inl (l++([(x2:Int)])))
def za4 (aa:List Int) (ab:List Span) (ac:List Int) (ae:List Town) (ak al:Int) (ah:List Flood) (station:Int):M ((List Int) × Int) :=
  M.bind (zas aa ab ac ae ak al ah) fun x_=>match x_ with
  | (.inl r1)=>(
  bif r1 != 0 then (
  M.pure (([]),r1))
  else (
  M.fail))
  | (.inr (ai,aj,am))=>(
  bif am != 0 then (
  M.fail)
  else (
  M.bind (zcI aa ab ac ae ai aj ah station) fun r2 =>
  bif !r2 then (
  M.pure (([]),2))
  else (
  M.bind (zai aa ab ac ae ai aj ah station) fun (ao,aq,au) =>
  M.bind (zal (M.yl zaC) (.inl ([])) ao aa ab ac ae aq au ah) fun x_=>match x_ with
  | (.inl l,q0)=>(
  M.pure (l,0))
  | (.inr _,_)=>M.fail)))
theorem ze5 {R aX ab aY ac aZ ae a7 ah a8 ai}(ay az aA aB aC aD aE station)(aF:Reads R aX)(aN:Sl aX ab ay)(aG:Reads R aY)(aO:Sl aY ac az)(aH:Reads R aZ)(aP:Sl aZ ae aA)(aI:Reads R a7)(aQ:Sl a7 ah aB)(aJ:Reads R a8)(aR:Sl a8 ai aE){r}(hM:(za4 ay az aA aB aC aD aE station).Ends r)(w)(H:St w w [] R):Ret Tryz.prog 13 #[.agg #[ab,ac,ae,ah,I aC,I aD,ai],I station] w fun v w'=>∃ y0 y1 u0,(y0,y1)=r/\v = .tuple #[u0,I y1]/\St w w' [cOwn (α:=Int) 3 u0 y0] R:=by
 refine ret_of_WD Tryz.func13 rfl rfl rfl ?_;replace H:St w w [cMk ([])] R:=H.mk0;have bp:=aN.len_le;have br:=aO.len_le;have bt:=aP.len_le;have bu:=aQ.len_le;have bv:=aR.len_le;unfold za4 at hM;refine WD.seq<|WD.of ?_;refine kB 1 ?_;intro bw bx H;refine kg 3 ?_;refine WD.seq<|WD.of ?_;refine kg 2 ?_;obtain ⟨bz,bb,hM⟩:=M.e_bind hM;refine s_call cq [.agg #[ab,ac,ae,ah,I aC,I aD,ai]] rfl (zbk ay az aA aB aC aD aE (aF.app _) aN (aG.app _) aO (aH.app _) aP (aI.app _) aQ (aJ.app _) aR bb _ (H.gt 2)) ?_
 rintro vq bA (⟨r1,bc,hvq,ak⟩ | ⟨bB,bC,bf,bD,bE,bF,bg,hvq,ak⟩)
 ·subst bc;subst vq;replace H:=H.bk ak;refine kg 6 ?_;refine WD.seq<|WD.block<|WD.seq<|WD.of ?_;refine kg 5 ?_
  refine WD.cond (r1 != 0) rfl (fun aq=>?_) (fun aq=>?_)
  ·replace hM:=M.e_t hM aq;replace aq:=dI aq;refine WD.seq<|WD.of ?_;refine kg 5 ?_;refine WD.of ?_;refine W.ret ?_;refine bodyD_r (H.pk [1,0]) ?_;intro bG H;replace H:=H.nf
   have au:=M.e_pure hM;replace H:=H.nilOwn (α:=Int) 3;exact ⟨_,resE_tmp2 rfl,⟨([]),r1,(.slice none 0 0),au,rfl,(H.pk [0])⟩⟩
  replace hM:=M.e_f hM aq;exact (M.e_fail hM).elim
 subst bg;subst vq;replace H:=H.bk ak;refine kg 6 ?_;refine WD.seq<|WD.block<|WD.seq<|WD.of ?_;refine kg 5 ?_
 refine WD.cond (bf != 0) rfl (fun av=>?_) (fun av=>?_)
 ·replace hM:=M.e_t hM av;exact (M.e_fail hM).elim
 replace hM:=M.e_f hM av;replace av:=dI av;refine WD.seq<|WD.of ?_;refine kC 3 @zeF ?_;intro bH r2 hM H;refine kg 3 ?_
 refine WD.cond (!r2) rfl (fun aS=>?_) (fun aS=>?_)
 ·replace hM:=M.e_t hM aS;refine WD.seq<|WD.of ?_;refine kg 4 ?_;replace H:=H.pk [3];refine WD.of ?_;refine W.ret ?_;refine bodyD_r (H.pk [0]) ?_;intro bI H;replace H:=H.nf
  have au:=M.e_pure hM;replace H:=H.nilOwn (α:=Int) 3;exact ⟨_,resE_tmp2 rfl,⟨([]),2,(.slice none 0 0),au,rfl,H⟩⟩
 replace hM:=M.e_f hM aS;refine WD.of<|W.skip<|WD.seq<|WD.of ?_;refine kA 1 ?_;intro aj bJ H;refine s_nil<|WD.seq<|WD.seq<|WD.of ?_;refine kC 6 @zaZ ?_;intro bK aK al am aw ao hM H;refine s_nil ?_;replace H:=H.pk [0,1,2,6];refine WD.block ?_
 replace H:=H.nilOwn (α:=Int) 3;obtain ⟨bL,bh,hM⟩:=M.e_bind hM;refine WD.range (L:=[cOwn (α:=Int) 3 (.slice none 0 0) ([]),cBlk aj [(.slice none 0 0)] 36,cBlk ao [ab,ac,ae,ah,I al,I am,ai] 40,cBlk aw [I aK] 3]) [Pq aw,Pq ao] (H.pk [4,0,3,2,1]) rfl cq ?_;intro aL aT aU bi aV H;have hYC:YieldC Tryz.prog ([cMk (aT :: ([])),cBlk ao [ab,ac,ae,ah,I al,I am,ai] 40]++R) arII (yJ aL aU (fun l aM=>∃ (aa:Value),aM=[cOwn (α:=Int) 3 aa l,cBlk aj [aa] 36]) (fun (_:Unit) _=>False) (fun _=>.ret)) (.func (.yield aL) #[] #[]) (M.yl zaC):=by
  refine YieldC.mk aV (fun l aM=>∃ (aa:Value),aM=[cOwn (α:=Int) 3 aa l,cBlk aj [aa] 36]) (fun (_:Unit) _=>False) (fun _=>.ret) zaC (by rintro l _ h_; obtain ⟨_,rfl⟩:=h_; rfl) (fun _ _ h_=>h_.elim) rfl (arII_len rfl) ?_;intro C_ bM x_ W_ bj;obtain ⟨x,x2⟩:=x_;obtain rfl:=bj;refine kg 3 ?_;refine ⟨rfl,rfl,?_⟩;intro w R ax aM s_ r bm hM H
  skip
  obtain ⟨l,bn⟩:∃ y_,y_=s_:=⟨_,rfl⟩
  subst bn;obtain ⟨aa,rfl⟩:=bm;replace aF:=aF.sub ax;replace aG:=aG.sub ax;replace aH:=aH.sub ax;replace aI:=aI.sub ax;replace aJ:=aJ.sub ax;replace hM:(zaC l (x,x2)).Ends r:=hM;simp only [zaC] at hM;replace H:=H.pk [0,1,3,2];refine kL 4 (α:=Int) [x2] ?_;intro bN bO H;obtain ⟨bP,hM⟩:=M.e_gq hM;refine kP 0 ?_;intro aW bQ H;refine kS 0 ?_;intro bR H;refine s_nil ?_;exact ⟨l++([(x2:Int)]),[cOwn (α:=Int) 3 aW (l++([(x2:Int)])),cBlk aj [aW] 36],(M.e_pure hM).symm,⟨aW,rfl⟩,H.pick [1,2,4,3] (by decide) rfl⟩
 replace H:St w bi (cAll (cObj aL (.loop aU) :: [cOwn (α:=Int) 3 (.slice none 0 0) ([]),cBlk aj [(.slice none 0 0)] 36]) :: [cBlk aw [I aK] 3,cMk (aT :: ([])),cBlk ao [ab,ac,ae,ah,I al,I am,ai] 40]) R:=St.bundleB (A:=cObj aL (.loop aU) :: [cOwn (α:=Int) 3 (.slice none 0 0) ([]),cBlk aj [(.slice none 0 0)] 36]) (T:=[cBlk aw [I aK] 3,cMk (aT :: ([])),cBlk ao [ab,ac,ae,ah,I al,I am,ai] 40]) rfl (H.pk [0,2,3,5,1,4]);refine (zaU (M.yl zaC) (.inl ([])) aK ay az aA aB al am aE hYC ⟨_,rfl,⟨(.slice none 0 0),rfl⟩⟩ (aF.app _) aN (aG.app _) aO (aH.app _) aP (aI.app _) aQ (aJ.app _) aR (Has.here (k:=1) rfl) bh _ (H.gt 2)).mono ?_;rintro vq bS ⟨bo,q0,bT,rfl,hvq,ak,ba⟩;replace H:=H.back ak rfl;clear ak hYC;rcases bo with l | _
 ·obtain ⟨_,rfl,aa,rfl⟩:=ba;refine ⟨_,[cOwn (α:=Int) 3 aa l,cBlk aj [aa] 36,cBlk ao [ab,ac,ae,ah,I al,I am,ai] 40,cBlk aw [I q0] 3],H.unbundle.pick [0,4,1,2,5,3] (by decide) rfl,aV.nb,?_⟩;intro bU H;rw [aV.pd];replace H:=H.nf
  try simp only []
  replace H:=H.pk [0,1,2];refine WD.seq<|WD.of ?_;refine kg 5 ?_;refine WD.of ?_;refine W.ret ?_;refine bodyD_r (H.pk [0,1,2]) ?_;intro bV H;replace H:=H.nf
  have au:=M.e_pure hM;exact ⟨_,resE_tmp2 rfl,⟨l,0,aa,au,rfl,(H.pk [0])⟩⟩
 obtain ⟨_,_,h_⟩:=ba; exact h_.elim

end Go.Proofs.YtbgoclcmgbpckaaGreat
end
section
set_option maxRecDepth 100000
set_option maxHeartbeats 16000000
namespace Go.Proofs.YtbgoclcmgbpckaaGreat
open Go Go.Nm
attribute [local irreducible] gd execOp SL SLD SLT WR
def zco  : M Bool :=
  M.bind (zdD 58) fun (r0,r1,r2) =>
  M.bind (m_daily_Volume r0 r1 r2 0 3) fun (ab,ac,ae) =>
  M.bind (zdL 105 130) fun (ao,aq) =>
  M.bind (m_balance_Group ao aq ([(0:Int),(1:Int)])) fun (ah,ai,aj) =>
  M.bind (zdx) fun (au,av) =>
  M.bind (m_share_Real au av 120) fun (aa,ak) =>
  M.bind (zem) fun (aw,ax,ay,r3) =>
  M.bind (zcW aw ax ay r3 1900 1909 500) fun (az,aA,al) =>
  M.bind (zd6 1) fun (aB,aC,aD,aE,r4,r5,r6) =>
  M.bind (zbp aB aC aD aE r4 r5 r6) fun (aF,am) =>
  M.grd ((!((((((((ae==0)&&(aj==0))&&(ak==0))&&(al==0))&&(am==0))&&(decide ((⟨(ab:Int),(ac:Int)⟩:Span)=(⟨(172:Int),(180:Int)⟩:Span))))&&(decide ((⟨(ah:Int),(ai:Int)⟩:Span)=(⟨(105:Int),(125:Int)⟩:Span))))&&((aa.length:Int)==2))||(decide (0<(aa.length:Int))))) <|
  M.pure (((((((((((ae==0)&&(aj==0))&&(ak==0))&&(al==0))&&(am==0))&&(decide ((⟨(ab:Int),(ac:Int)⟩:Span)=(⟨(172:Int),(180:Int)⟩:Span))))&&(decide ((⟨(ah:Int),(ai:Int)⟩:Span)=(⟨(105:Int),(125:Int)⟩:Span))))&&((aa.length:Int)==2))&&((aa.getD 0 0)==95))&&(decide ((⟨(az:Int),(aA:Int)⟩:Span)=(⟨(1:Int),(4:Int)⟩:Span))))&&((aF.length:Int)==1))
theorem zdW {R r}(hM:(zco).Ends r)(w)(H:St w w [] R):Ret Tryz.prog 9 #[] w fun v w'=>∃ y0,y0=r/\v=B y0/\St w w' [] R:=by
 refine ret_of_W Tryz.func9 rfl rfl rfl ?_;refine kC 6 @zfs ?_;intro aQ r0 r1 r2 aR hM H;refine kC 0 @daily_Volume_ok ?_;intro aS ab ac ae hM H;refine kA 3 ?_;intro aT aU H;refine ksw ?_;intro aV H;refine kC 4 @zey ?_;intro aW aX aY aZ a7 hM H;refine kL 0 (α:=Int) [0,1] ?_;intro a8 ba H;refine kC 0 @balance_Group_ok ?_;intro bb al am ah hM H;refine kA 3 ?_;intro bc bf H;refine ksw ?_;intro bg H;refine kg 2 ?_;replace H:=H.pk [0,4];refine kC 2 @zeL ?_;intro bh bi bj bm hM H;refine kC 0 @share_Real_ok ?_;intro bn ao ai bo hM H;refine kg 8 ?_;obtain ⟨bp,ax,hM⟩:=M.e_bind hM;refine s_call cq [] rfl (zeW ax _ (H.gt 4)) ?_;rintro _ br ⟨ay,az,au,r3,aA,aB,bt,bu,rfl,rfl,aa,aC⟩;replace H:=H.bk aa;obtain ⟨bv,aD,hM⟩:=M.e_bind hM;refine s_call cq [.agg #[aA,aB,I au,I r3],I 1900,I 1909,I 500] rfl (ze7 ay az au r3 1900 1909 500 (rdo 0) (H.os 0) (Reads.sup (rdo 1) (Reads.of (k:=2) rfl roLe)) (rowSl rfl (H.get (k:=1) rfl) (roLe _ (H.get (k:=2) rfl)) aC) aD _ (H.gt 7)) ?_;rintro _ bw ⟨av,aw,aj,rfl,rfl,aa⟩;replace H:=H.bk aa;refine kA 3 ?_;intro bx bz H;refine ksw ?_;intro bA H;refine kg 2 ?_;replace H:=H.pk [0,4,6,7];refine kg 2 ?_;obtain ⟨bB,aE,hM⟩:=M.e_bind hM;refine s_call cq [I 1] rfl (zfn 1 aE _ (H.gt 4)) ?_;rintro _ bC ⟨aF,aG,aH,aI,r4,r5,r6,aJ,aK,aL,aM,aN,bD,bE,rfl,rfl,aa,aO⟩;replace H:=H.bk aa;obtain ⟨bF,aP,hM⟩:=M.e_bind hM;refine s_call cq [.agg #[aJ,aK,aL,aM,I r4,I r5,aN]] rfl (zd3 aF aG aH aI r4 r5 r6 (rdo 0) (H.os 0) (rdo 1) (H.os 1) (rdo 2) (H.os 2) (rdo 3) (H.os 3) (Reads.sup (rdo 4) (Reads.of (k:=5) rfl roLe)) (rowSl rfl (H.get (k:=4) rfl) (roLe _ (H.get (k:=5) rfl)) aO) aP _ (H.gt 10)) ?_;rintro _ bG ⟨bH,ak,bI,rfl,rfl,aa⟩;replace H:=H.bk aa;refine kg 6 ?_;replace H:=H.pk [0,7,8,9,10];refine kg 22 ?_;refine g_val (((((ae==0)&&(ah==0))&&(ai==0))&&(aj==0))&&(ak==0)) (gy_t rfl) (fun hg=>y_bld [I 172,I 180] rfl rfl jF)<|g_val (((((ae==0)&&(ah==0))&&(ai==0))&&(aj==0))&&(ak==0)) (gy_t rfl) (fun hg=>x_eqS (eqT32 (⟨(ab:Int),(ac:Int)⟩:Span) (⟨(172:Int),(180:Int)⟩:Span) _) gdT32 (gd_of hg (.agg #[I ab,I ac])) (gd_of hg (.agg #[I 172,I 180]))) ?_;refine kg 3 ?_;refine g_val ((((((ae==0)&&(ah==0))&&(ai==0))&&(aj==0))&&(ak==0))&&(decide ((⟨(ab:Int),(ac:Int)⟩:Span)=(⟨(172:Int),(180:Int)⟩:Span)))) (gy_t rfl) (fun hg=>y_bld [I 105,I 125] rfl rfl jF)<|g_val ((((((ae==0)&&(ah==0))&&(ai==0))&&(aj==0))&&(ak==0))&&(decide ((⟨(ab:Int),(ac:Int)⟩:Span)=(⟨(172:Int),(180:Int)⟩:Span)))) (gy_t rfl) (fun hg=>x_eqS (eqT32 (⟨(al:Int),(am:Int)⟩:Span) (⟨(105:Int),(125:Int)⟩:Span) _) gdT32 (gd_of hg (.agg #[I al,I am])) (gd_of hg (.agg #[I 105,I 125]))) ?_;obtain ⟨aq,hM⟩:=M.e_grd hM
 replace aq:=M.imp_of aq;simp only [Bool.and_eq_true,decide_eq_true_eq] at aq;refine kg 14 ?_;refine g_val (((((((((ae==0)&&(ah==0))&&(ai==0))&&(aj==0))&&(ak==0))&&(decide ((⟨(ab:Int),(ac:Int)⟩:Span)=(⟨(172:Int),(180:Int)⟩:Span))))&&(decide ((⟨(al:Int),(am:Int)⟩:Span)=(⟨(105:Int),(125:Int)⟩:Span))))&&((ao.length:Int)==2))&&((ao.getD 0 0)==95)) (gy_t rfl) (fun hg=>y_bld [I 1,I 4] rfl rfl jF)<|g_val (((((((((ae==0)&&(ah==0))&&(ai==0))&&(aj==0))&&(ak==0))&&(decide ((⟨(ab:Int),(ac:Int)⟩:Span)=(⟨(172:Int),(180:Int)⟩:Span))))&&(decide ((⟨(al:Int),(am:Int)⟩:Span)=(⟨(105:Int),(125:Int)⟩:Span))))&&((ao.length:Int)==2))&&((ao.getD 0 0)==95)) (gy_t rfl) (fun hg=>x_eqS (eqT32 (⟨(av:Int),(aw:Int)⟩:Span) (⟨(1:Int),(4:Int)⟩:Span) _) gdT32 (gd_of hg (.agg #[I av,I aw])) (gd_of hg (.agg #[I 1,I 4]))) ?_;refine kg 8 ?_;replace H:=H.pk []
 exact rt

end Go.Proofs.YtbgoclcmgbpckaaGreat
end
