/- Part 4 of the texts on which the proof rests. Conditions: none. -/
import Derived.Test.YtbldmjejckjflabGreatZA3
set_option linter.unusedVariables false
set_option linter.unusedSimpArgs false
set_option linter.unusedSectionVars false
section
set_option maxRecDepth 100000
set_option maxHeartbeats 16000000
namespace Go.Proofs.YtbldmjejckjflabGreat
open Go Go.Nm
attribute [local irreducible] gd execOp SL SLD SLT WR
def zaM  : (List Int)->(Int × Int)->M ((List Int) ⊕ Unit):=fun l (x,x2) =>
  M.grd (decide ((l.length+([(x2:Int)]).length)*8<=140737488355328)) <|
  M.pure (.inl (l++([(x2:Int)])))
def zct (aa:List Int) (ab:List Span) (ac:List Int) (ae:List Town) (aj ak:Int) (ag:List Flood) (station:Int):M ((List Int) × Int) :=
  M.bind (zat aa ab ac ae aj ak ag) fun x_=>match x_ with
  | (.inl r1)=>(
  bif r1 != 0 then (
  M.pure (([]),r1))
  else (
  M.fail))
  | (.inr (ah,ai,al))=>(
  bif al != 0 then (
  M.fail)
  else (
  M.bind (za0 aa ab ac ae ah ai ag station) fun r2 =>
  bif !r2 then (
  M.pure (([]),2))
  else (
  M.bind (zaE aa ab ac ae ah ai ag station) fun (am,ao,ap) =>
  M.bind (zaG (M.yl zaM) (.inl ([])) am aa ab ac ae ao ap ag) fun x_=>match x_ with
  | (.inl l,q0)=>(
  M.pure (l,0))
  | (.inr _,_)=>M.fail)))
theorem zfa {R:List Chunk} {aX:Cells} {ab:Value} {aY:Cells} {ac:Value} {aZ:Cells} {ae:Value} {a6:Cells} {ag:Value} {a7:Cells} {ah:Value} (ak:List Int) (al:List Span) (am:List Int) (ao:List Town) (aB:Int) (aC:Int) (ap:List Flood) (station:Int) (aq:Reads R aX) (aD:Sl aX ab ak) (au:Reads R aY) (aE:Sl aY ac al) (av:Reads R aZ) (aF:Sl aZ ae am) (aw:Reads R a6) (aG:Sl a6 ag ao) (ax:Reads R a7) (aH:Sl a7 ah ap) {r:((List Int) × Int)} (hM:(zct ak al am ao aB aC ap station).Ends r) (w:World) (H:St w w [] R):Ret Tryz.prog 15 #[.agg #[ab,ac,ae,ag,I aB,I aC,ah],I station] w fun v w'=>∃ (y0:List Int) (y1:Int) (u0:Value),(y0,y1)=r/\v = .tuple #[u0,I y1]/\St w w' [cOwn (α:=Int) 3 u0 y0] R:=by
 refine ret_of_WD Tryz.func15 rfl rfl rfl ?_
 replace H:St w w [cMk ([])] R:=H.mk0
 have bu:=aD.len_le
 have bv:=aE.len_le
 have bw:=aF.len_le
 have bx:=aG.len_le
 have bz:=aH.len_le
 unfold zct at hM
 refine WD.seq<|WD.of<|W.region rfl ?_;refine t_bx [ab,ac,ae,ag,I aB,I aC,ah] H rfl ?_;intro bA bB H;refine kg 3 ?_;refine WD.seq<|WD.of ?_;refine kg 2 ?_;obtain ⟨bC,ba,hM⟩:=M.e_bind hM;refine s_call cf61 [.agg #[ab,ac,ae,ag,I aB,I aC,ah]] rfl (zaw ak al am ao aB aC ap (aq.app _) aD (au.app _) aE (av.app _) aF (aw.app _) aG (ax.app _) aH ba _ (H.gt 2)) ?_
 rintro vq bD (⟨r1,bb,hvq,aa⟩ | ⟨aR,aS,bc,bf,bE,bF,bg,hvq,aa⟩)
 ·subst bb;subst vq;(try dsimp only at hM);replace H:=H.bk aa;clear aa;refine kg 6 ?_;refine WD.seq<|WD.block<|WD.seq<|WD.of ?_;refine kg 5 ?_
  refine WD.cond (r1 != 0) rfl (fun aI=>?_) (fun aI=>?_)
  ·replace hM:=M.e_t hM aI
   replace aI:=dI aI
   refine WD.seq<|WD.of ?_;refine kg 5 ?_;refine WD.of ?_;refine W.ret ?_;refine bodyD_r (H.pk [1,0]) ?_;intro bG H;replace H:=H.nf
   have aJ:=M.e_pure hM
   replace H:=H.nilOwn (α:=Int) 3
   exact ⟨_,resE_tmp2 rfl,⟨([]),r1,(.slice none 0 0),aJ,rfl,(H.pk [0])⟩⟩
  replace hM:=M.e_f hM aI
  exact (M.e_fail hM).elim
 subst bg;subst vq;(try dsimp only at hM);replace H:=H.bk aa;clear aa;refine kg 6 ?_;refine WD.seq<|WD.block<|WD.seq<|WD.of ?_;refine kg 5 ?_
 refine WD.cond (bc != 0) rfl (fun aK=>?_) (fun aK=>?_)
 ·replace hM:=M.e_t hM aK
  exact (M.e_fail hM).elim
 replace hM:=M.e_f hM aK
 replace aK:=dI aK
 refine WD.seq<|WD.of ?_;refine kg 3 ?_;obtain ⟨bH,bh,hM⟩:=M.e_bind hM;refine s_call cf62 [Pq bf,I station] rfl (zbi ak al am ao aR aS ap station (aq.app _) aD (au.app _) aE (av.app _) aF (aw.app _) aG (ax.app _) aH (Has.here (k:=0) rfl) bh _ (H.gt 4)) ?_
 rintro vq bI ⟨r2,rfl,hvq,aa⟩
 subst vq;(try dsimp only at hM);replace H:=H.bk aa;clear aa;refine kg 3 ?_
 refine WD.cond (!r2) rfl (fun aT=>?_) (fun aT=>?_)
 ·replace hM:=M.e_t hM aT;refine WD.seq<|WD.of ?_;refine kg 4 ?_;replace H:=H.pk [3];refine WD.of ?_;refine W.ret ?_;refine bodyD_r (H.pk [0]) ?_;intro bJ H;replace H:=H.nf
  have aJ:=M.e_pure hM
  replace H:=H.nilOwn (α:=Int) 3
  exact ⟨_,resE_tmp2 rfl,⟨([]),2,(.slice none 0 0),aJ,rfl,H⟩⟩
 replace hM:=M.e_f hM aT;refine WD.of<|W.skip<|WD.seq<|WD.of<|W.region rfl ?_;refine t_alloc (cs:=[.slice none 0 0]) H Al22 rfl ?_;intro aj bK H;refine s_nil<|WD.seq<|WD.seq<|WD.of ?_;refine kg 6 ?_;obtain ⟨bL,bi,hM⟩:=M.e_bind hM;refine s_call cf51 [.agg #[ab,ac,ae,ag,I aR,I aS,ah],I station] rfl (zaV ak al am ao aR aS ap station (aq.app _) aD (au.app _) aE (av.app _) aF (aw.app _) aG (ax.app _) aH bi _ (H.gt 5)) ?_
 rintro vq bM ⟨aO,ay,az,aL,aA,rfl,hvq,aa⟩
 subst vq;(try dsimp only at hM);replace H:=H.bk aa;clear aa;refine s_nil ?_;replace H:=H.pk [0,1,2,6];refine WD.block ?_
 replace H:=H.nilOwn (α:=Int) 3
 obtain ⟨bN,bj,hM⟩:=M.e_bind hM;refine WD.range (L:=[cOwn (α:=Int) 3 (.slice none 0 0) ([]),cBlk aj [(.slice none 0 0)] 22,cBlk aA [ab,ac,ae,ag,I ay,I az,ah] 29,cBlk aL [I aO] 3]) [Pq aL,Pq aA] (H.pk [4,0,3,2,1]) rfl cf95 ?_;intro aP aU aV bm aW H
 have hYC:YieldC Tryz.prog ([cMk (aU :: ([])),cBlk aA [ab,ac,ae,ag,I ay,I az,ah] 29]++R) arII (yJ aP aV (fun l aQ=>∃ (ai:Value),aQ=[cOwn (α:=Int) 3 ai l,cBlk aj [ai] 22]) (fun (_:Unit) _=>False) (fun _=>.ret)) (.func (.yield aP) #[] #[]) (M.yl zaM):=by
  refine YieldC.mk aW (fun l aQ=>∃ (ai:Value),aQ=[cOwn (α:=Int) 3 ai l,cBlk aj [ai] 22]) (fun (_:Unit) _=>False) (fun _=>.ret) zaM (by rintro l _ h_; obtain ⟨_,rfl⟩:=h_; rfl) (fun _ _ h_=>h_.elim) rfl (arII_len rfl) ?_;intro C_ bO x_ W_ bn
  obtain ⟨x,x2⟩:=x_
  obtain rfl:=bn
  refine kg 3 ?_
  refine ⟨rfl,rfl,?_⟩
  intro w R aM aQ s_ r bo hM H
  skip
  obtain ⟨l,bp⟩:∃ y_,y_=s_:=⟨_,rfl⟩
  subst bp
  obtain ⟨ai,rfl⟩:=bo
  replace aq:=aq.sub aM
  replace au:=au.sub aM
  replace av:=av.sub aM
  replace aw:=aw.sub aM
  replace ax:=ax.sub aM
  replace hM:(zaM l (x,x2)).Ends r:=hM
  simp only [zaM] at hM
  replace H:=H.pk [0,1,3,2];refine kg 4 ?_;refine t_bs (α:=Int) T22 [I x2] [(x2:Int)] H rfl (.cons rfl (Flat.rep_enc _ (x2:Int))<|.nil) rfl rfl rfl ?_;intro br bP H;obtain ⟨bQ,hM⟩:=M.e_gd hM;refine t_app (α:=Int) (k:=1) (l:=l) (l2:=[(x2:Int)]) (l':=l++([(x2:Int)])) (vy:=br) T22 rfl H rfl rfl rfl (H.os 0) (H.ol 0) (rfl) (by first | omega | (simp only [List.length_nil] at *; omega)) ?_;intro aN bR H;replace H:=H.nf;refine t_sw 2 0 [aN] aN H rfl rfl Sz22 (Sl.cells (H.os 1)) rfl rfl (by simp only [List.all_cons,List.all_nil,Bool.true_and,Bool.and_true,Sl.oc (H.os 1)]; try rfl) ?_;intro bS H;refine s_nil ?_
  exact ⟨l++([(x2:Int)]),[cOwn (α:=Int) 3 aN (l++([(x2:Int)])),cBlk aj [aN] 22],(M.e_pure hM).symm,⟨aN,rfl⟩,H.pick [1,2,4,3] (by decide) rfl⟩
 replace H:St w bm (cAll (cObj aP (.loop aV) :: [cOwn (α:=Int) 3 (.slice none 0 0) ([]),cBlk aj [(.slice none 0 0)] 22]) :: [cBlk aL [I aO] 3,cMk (aU :: ([])),cBlk aA [ab,ac,ae,ag,I ay,I az,ah] 29]) R:=St.bundleB (A:=cObj aP (.loop aV) :: [cOwn (α:=Int) 3 (.slice none 0 0) ([]),cBlk aj [(.slice none 0 0)] 22]) (T:=[cBlk aL [I aO] 3,cMk (aU :: ([])),cBlk aA [ab,ac,ae,ag,I ay,I az,ah] 29]) rfl (H.pk [0,2,3,5,1,4])
 refine (zaS (M.yl zaM) (.inl ([])) aO ak al am ao ay az ap hYC ⟨_,rfl,⟨(.slice none 0 0),rfl⟩⟩ (aq.app _) aD (au.app _) aE (av.app _) aF (aw.app _) aG (ax.app _) aH (Has.here (k:=1) rfl) bj _ (H.gt 2)).mono ?_
 rintro vq bT ⟨bt,q0,bU,rfl,hvq,aa,a8⟩
 replace H:=H.back aa rfl
 clear aa hYC
 rcases bt with l | _
 ·(try dsimp only at hM)
  obtain ⟨_,rfl,ai,rfl⟩:=a8
  refine ⟨_,[cOwn (α:=Int) 3 ai l,cBlk aj [ai] 22,cBlk aA [ab,ac,ae,ag,I ay,I az,ah] 29,cBlk aL [I q0] 3],H.unbundle.pick [0,4,1,2,5,3] (by decide) rfl,aW.nb,?_⟩
  intro bV H
  rw [aW.pd]
  replace H:=H.nf
  try simp only []
  replace H:=H.pk [0,1,2];refine WD.seq<|WD.of ?_;refine kg 5 ?_;refine WD.of ?_;refine W.ret ?_;refine bodyD_r (H.pk [0,1,2]) ?_;intro bW H;replace H:=H.nf
  have aJ:=M.e_pure hM
  exact ⟨_,resE_tmp2 rfl,⟨l,0,ai,aJ,rfl,(H.pk [0])⟩⟩
 obtain ⟨_,_,h_⟩:=a8; exact h_.elim

def zes (aa:List Int) (ab:List Span) (ac:List Int) (ae:List Town) (ag ah:Int) (ai:List Flood) (station:Int):M ((List Int) × Int) :=
  M.bind (zas aa ab ac ae ag ah ai) fun r2 =>
  bif r2 != 0 then (
  M.pure (([]),r2))
  else (
  M.bind (zaj station 0 ((aa.length:Int)-1)) fun r3 =>
  bif r3 then (
  M.pure (([]),2))
  else (
  M.bind (zbb aa ab ac ae ag ah ai station) fun r4 =>
  M.pure (r4,0)))
theorem ze2 {R:List Chunk} {ax:Cells} {ah:Value} {ay:Cells} {ai:Value} {az:Cells} {aj:Value} {aA:Cells} {ak:Value} {aB:Cells} {al:Value} (ag:List Int) (ao:List Span) (ap:List Int) (aq:List Town) (ab:Int) (ac:Int) (au:List Flood) (station:Int) (aC:Reads R ax) (av:Sl ax ah ag) (aD:Reads R ay) (aE:Sl ay ai ao) (aF:Reads R az) (aG:Sl az aj ap) (aH:Reads R aA) (aI:Sl aA ak aq) (aJ:Reads R aB) (aK:Sl aB al au) {r:((List Int) × Int)} (hM:(zes ag ao ap aq ab ac au station).Ends r) (w:World) (H:St w w [] R):Ret Tryz.prog 16 #[.agg #[ah,ai,aj,ak,I ab,I ac,al],I station] w fun v w'=>∃ (y0:List Int) (y1:Int) (u0:Value),(y0,y1)=r/\v = .tuple #[u0,I y1]/\St w w' [cOwn (α:=Int) 3 u0 y0] R:=by
 refine ret_of_W Tryz.func16 rfl rfl rfl ?_;refine kg 2 ?_;refine t_bx [ah,ai,aj,ak,I ab,I ac,al] H rfl ?_;intro aP aQ H;refine kg 7 ?_;obtain ⟨aR,aL,hM⟩:=M.e_bind hM;refine s_call cf14 [.agg #[ah,ai,aj,ak,I ab,I ac,al]] rfl (zav ag ao ap aq ab ac au (aC.app _) av (aD.app _) aE (aF.app _) aG (aH.app _) aI (aJ.app _) aK aL _ (H.gt 1)) ?_
 rintro vq aS ⟨r2,rfl,hvq,aa⟩
 subst vq;(try dsimp only at hM);replace H:=H.bk aa;clear aa;refine kg 7 ?_
 refine W.cond (r2 != 0) rfl (fun ae=>?_) (fun ae=>?_)
 ·replace hM:=M.e_t hM ae
  replace ae:=dI ae
  refine kg 6 ?_;refine W.ret ?_
  have am:=M.e_pure hM
  replace H:=H.nilOwn (α:=Int) 3
  exact ⟨_,resE_tmp2 rfl,⟨([]),r2,(.slice none 0 0),am,rfl,(H.pk [0])⟩⟩
 replace hM:=M.e_f hM ae
 replace ae:=dI ae
 have aT:=(av).len_le
 refine kg 9 ?_;obtain ⟨aU,aM,hM⟩:=M.e_bind hM;refine s_call cf57 [I station,I 0,I ((ag.length:Int)-1)] rfl (zal station 0 ((ag.length:Int)-1) aM _ (H.gt 1)) ?_
 rintro vq aV ⟨r3,rfl,hvq,aa⟩
 subst vq;(try dsimp only at hM);replace H:=H.bk aa;clear aa;refine s_nil ?_
 refine W.cond r3 rfl (fun aw=>?_) (fun aw=>?_)
 ·replace hM:=M.e_t hM aw;refine kg 5 ?_;refine W.ret ?_
  have am:=M.e_pure hM
  replace H:=H.nilOwn (α:=Int) 3
  exact ⟨_,resE_tmp2 rfl,⟨([]),2,(.slice none 0 0),am,rfl,(H.pk [0])⟩⟩
 replace hM:=M.e_f hM aw;refine kg 5 ?_;obtain ⟨aW,aN,hM⟩:=M.e_bind hM;refine s_call cf60 [.agg #[ah,ai,aj,ak,I ab,I ac,al],I station] rfl (zcc ag ao ap aq ab ac au station (aC.app _) av (aD.app _) aE (aF.app _) aG (aH.app _) aI (aJ.app _) aK aN _ (H.gt 1)) ?_
 rintro vq aX ⟨r4,aO,rfl,hvq,aa⟩
 subst vq;(try dsimp only at hM);replace H:=H.bk aa;clear aa;refine kg 3 ?_;refine W.ret ?_
 have am:=M.e_pure hM
 exact ⟨_,resE_tmp2 rfl,⟨r4,0,aO,am,rfl,(H.pk [0])⟩⟩

def zd0 (aa:List Int) (ab:List Span) (ac:List Int) (ae:List Town) (al am:Int) (ag:List Flood) (aj ak:Int):M (Int × Int × Int) :=
  M.bind (zat aa ab ac ae al am ag) fun x_=>match x_ with
  | (.inl r1)=>(
  bif r1 != 0 then (
  M.pure (0,0,r1))
  else (
  M.fail))
  | (.inr (ah,ai,ao))=>(
  bif ao != 0 then (
  M.fail)
  else (
  M.bind (za0 aa ab ac ae ah ai ag aj) fun r2 =>
  M.bind (M.opt (!(!r2)) (za0 aa ab ac ae ah ai ag ak) false) fun r3 =>
  bif ((!r2)||(!r3)) then (
  M.pure (0,0,2))
  else (
  M.bind (zaR aa ab ac ae ah ai ag aj ak) fun (ap,aq,au) =>
  bif !au then (
  M.pure (0,0,5))
  else (
  M.pure (ap,aq,0)))))
theorem zeG {R:List Chunk} {aP:Cells} {av:Value} {aQ:Cells} {aw:Value} {aR:Cells} {ax:Value} {aS:Cells} {ay:Value} {aT:Cells} {az:Value} (ah:List Int) (ai:List Span) (aj:List Int) (ak:List Town) (ao:Int) (ap:Int) (al:List Flood) (am:Int) (ag:Int) (aA:Reads R aP) (aB:Sl aP av ah) (aC:Reads R aQ) (aD:Sl aQ aw ai) (aE:Reads R aR) (aF:Sl aR ax aj) (aG:Reads R aS) (aH:Sl aS ay ak) (aI:Reads R aT) (aJ:Sl aT az al) {r:(Int × Int × Int)} (hM:(zd0 ah ai aj ak ao ap al am ag).Ends r) (w:World) (H:St w w [] R):Ret Tryz.prog 18 #[.agg #[av,aw,ax,ay,I ao,I ap,az],I am,I ag] w fun v w'=>∃ (y0:Int) (y1:Int) (y2:Int),(y0,y1,y2)=r/\v = .tuple #[.agg #[I y0,I y1],I y2]/\St w w' [] R:=by
 refine ret_of_W Tryz.func18 rfl rfl rfl ?_;refine kg 2 ?_;refine t_bx [av,aw,ax,ay,I ao,I ap,az] H rfl ?_;intro bg bh H;refine t_alloc (cs:=[I 0,I 0]) H Al26 rfl ?_;intro bi bj H;refine kg 5 ?_;obtain ⟨bm,aU,hM⟩:=M.e_bind hM;refine s_call cf61 [.agg #[av,aw,ax,ay,I ao,I ap,az]] rfl (zaw ah ai aj ak ao ap al (aA.app _) aB (aC.app _) aD (aE.app _) aF (aG.app _) aH (aI.app _) aJ aU _ (H.gt 2)) ?_
 rintro vq bn (⟨r1,aV,hvq,aa⟩ | ⟨aL,aM,aW,aK,bo,bp,aX,hvq,aa⟩)
 ·subst aV;subst vq;(try dsimp only at hM);replace H:=H.bk aa;clear aa;refine kg 14 ?_
  refine W.cond (r1 != 0) rfl (fun aq=>?_) (fun aq=>?_)
  ·replace hM:=M.e_t hM aq
   replace aq:=dI aq
   refine kg 2 ?_;refine s_val (x_bld (ps:=[]) (zs:=[I 0,I 0]) (L':=[I 0,I 0]) rfl Tryz.underlying26 Al26 rfl (Bd26 Tryz.underlying26) (.nil)) ?_;refine kg 1 ?_;refine t_sw 0 0 [I 0,I 0] (.agg #[I 0,I 0]) H rfl rfl Sz26 rfl rfl rfl rfl ?_;intro br H;refine kg 2 ?_;refine W.ret ?_
   have aY:=(H.bl 0)
   have ab:=M.e_pure hM
   exact ⟨_,(resE_ofn (vs:=[.agg #[I 0,I 0],I r1]) rfl rfl (.cell (v:=.agg #[I 0,I 0]) rfl (run_loadVar_ag (ds:=[I 0,I 0]) Ag26 Sz26 aY rfl rfl)<|.tmp (v:=I r1) rfl<|.nil)),⟨0,0,r1,ab,rfl,(H.pk [])⟩⟩
  replace hM:=M.e_f hM aq
  exact (M.e_fail hM).elim
 subst aX;subst vq;(try dsimp only at hM);replace H:=H.bk aa;clear aa;refine kg 14 ?_
 refine W.cond (aW != 0) rfl (fun au=>?_) (fun au=>?_)
 ·replace hM:=M.e_t hM au
  exact (M.e_fail hM).elim
 replace hM:=M.e_f hM au
 replace au:=dI au
 refine kg 4 ?_;obtain ⟨bt,aZ,hM⟩:=M.e_bind hM;refine s_call cf62 [Pq aK,I am] rfl (zbi ah ai aj ak aL aM al am (aA.app _) aB (aC.app _) aD (aE.app _) aF (aG.app _) aH (aI.app _) aJ (Has.here (k:=0) rfl) aZ _ (H.gt 4)) ?_
 rintro vq bu ⟨r2,rfl,hvq,aa⟩
 subst vq;(try dsimp only at hM);replace H:=H.bk aa;clear aa;refine kg 4 ?_;obtain ⟨r3,a6,hM⟩:=M.e_bind hM;refine t_gcall (!(!r2)) (gy_f rfl) cf62 (B r3) (fun _=>[Pq aK,I ag]) (fun hg=>lst2 (gd_of hg (Pq aK)) (gd_of hg (I ag))) H (fun hg=>(zbi ah ai aj ak aL aM al ag (aA.app _) aB (aC.app _) aD (aE.app _) aF (aG.app _) aH (aI.app _) aJ (Has.here (k:=0) rfl) (M.e_opt a6 hg) _ (H.give (A:=[]) rfl)).mono fun v_ w_ ⟨y_,ab,a7,H_⟩=>by subst ab; exact ⟨a7,H.via H_⟩) ?_;intro bv H;refine kg 1 ?_;refine s_val (x_por (b:=!r2) (r:=!r3) rfl rfl (fun hb=>gd_of (c:=!(!r2)) (by first | exact hb | (rw [hb]; rfl) | simp_all) (B (!r3))))<|zA (B ((!r2)||(!r3))) rfl<|s_nil ?_
 refine W.cond ((!r2)||(!r3)) rfl (fun aN=>?_) (fun aN=>?_)
 ·replace hM:=M.e_t hM aN;refine kg 2 ?_;refine s_val (x_bld (ps:=[]) (zs:=[I 0,I 0]) (L':=[I 0,I 0]) rfl Tryz.underlying26 Al26 rfl (Bd26 Tryz.underlying26) (.nil)) ?_;refine t_sw 2 0 [I 0,I 0] (.agg #[I 0,I 0]) H rfl rfl Sz26 rfl rfl rfl rfl ?_;intro bw H;refine kg 2 ?_;replace H:=H.pk [2];refine W.ret ?_
  have a8:=(H.bl 0)
  have ab:=M.e_pure hM
  exact ⟨_,(resE_ofn (vs:=[.agg #[I 0,I 0],I 2]) rfl rfl (.cell (v:=.agg #[I 0,I 0]) rfl (run_loadVar_ag (ds:=[I 0,I 0]) Ag26 Sz26 a8 rfl rfl)<|.tmp (v:=I 2) rfl<|.nil)),⟨0,0,2,ab,rfl,(H.pk [])⟩⟩
 replace hM:=M.e_f hM aN;refine kg 6 ?_;obtain ⟨bx,ba,hM⟩:=M.e_bind hM;refine s_call cf63 [Pq aK,I am,I ag] rfl (zbt ah ai aj ak aL aM al am ag (aA.app _) aB (aC.app _) aD (aE.app _) aF (aG.app _) aH (aI.app _) aJ (Has.here (k:=0) rfl) ba _ (H.gt 4)) ?_
 rintro vq bz ⟨ac,ae,bb,rfl,hvq,aa⟩
 subst vq;(try dsimp only at hM);replace H:=H.bk aa;clear aa;refine kg 3 ?_;refine t_alloc (cs:=[I 0,I 0]) H Al26 rfl ?_;intro bA bB H;refine t_sw 0 0 [I ac,I ae] (.agg #[I ac,I ae]) H rfl rfl Sz26 rfl rfl rfl rfl ?_;intro bC H;refine kg 2 ?_;replace H:=H.pk [0,3];refine kg 6 ?_
 refine W.cond (!bb) rfl (fun aO=>?_) (fun aO=>?_)
 ·replace hM:=M.e_t hM aO;refine kg 2 ?_;refine s_val (x_bld (ps:=[]) (zs:=[I 0,I 0]) (L':=[I 0,I 0]) rfl Tryz.underlying26 Al26 rfl (Bd26 Tryz.underlying26) (.nil)) ?_;refine t_sw 1 0 [I 0,I 0] (.agg #[I 0,I 0]) H rfl rfl Sz26 rfl rfl rfl rfl ?_;intro bD H;refine kg 2 ?_;refine W.ret ?_
  have bc:=(H.bl 1)
  have ab:=M.e_pure hM
  exact ⟨_,(resE_ofn (vs:=[.agg #[I 0,I 0],I 5]) rfl rfl (.cell (v:=.agg #[I 0,I 0]) rfl (run_loadVar_ag (ds:=[I 0,I 0]) Ag26 Sz26 bc rfl rfl)<|.tmp (v:=I 5) rfl<|.nil)),⟨0,0,5,ab,rfl,(H.pk [])⟩⟩
 replace hM:=M.e_f hM aO;refine kg 4 ?_;refine t_sw 1 0 [I ac,I ae] (.agg #[I ac,I ae]) H rfl rfl Sz26 rfl rfl rfl rfl ?_;intro bE H;refine kg 2 ?_;refine W.ret ?_
 have bf:=(H.bl 1)
 have ab:=M.e_pure hM
 exact ⟨_,(resE_ofn (vs:=[.agg #[I ac,I ae],I 0]) rfl rfl (.cell (v:=.agg #[I ac,I ae]) rfl (run_loadVar_ag (ds:=[I ac,I ae]) Ag26 Sz26 bf rfl rfl)<|.tmp (v:=I 0) rfl<|.nil)),⟨ac,ae,0,ab,rfl,(H.pk [])⟩⟩

def zeg (aa:List Int) (ab:List Span) (ac:List Int) (ae:List Town) (ag ah:Int) (ai:List Flood) (aj ak:Int):M (Int × Int × Int) :=
  M.bind (zas aa ab ac ae ag ah ai) fun r2 =>
  bif r2 != 0 then (
  M.pure (0,0,r2))
  else (
  M.bind (zaj aj 0 ((aa.length:Int)-1)) fun r3 =>
  M.bind (M.opt (!r3) (zaj ak 0 ((aa.length:Int)-1)) false) fun r4 =>
  bif (r3||r4) then (
  M.pure (0,0,2))
  else (
  M.bind (zaP aa ab ac ae ag ah ai aj ak) fun (al,am,r1) =>
  bif !r1 then (
  M.pure (0,0,5))
  else (
  M.pure (al,am,0))))
theorem zfp {R:List Chunk} {aC:Cells} {am:Value} {aD:Cells} {ao:Value} {aE:Cells} {ap:Value} {aF:Cells} {aq:Value} {aG:Cells} {au:Value} (aa:List Int) (av:List Span) (aw:List Int) (ax:List Town) (ah:Int) (ai:Int) (ay:List Flood) (al:Int) (aj:Int) (aH:Reads R aC) (az:Sl aC am aa) (aI:Reads R aD) (aJ:Sl aD ao av) (aK:Reads R aE) (aL:Sl aE ap aw) (aM:Reads R aF) (aN:Sl aF aq ax) (aO:Reads R aG) (aP:Sl aG au ay) {r:(Int × Int × Int)} (hM:(zeg aa av aw ax ah ai ay al aj).Ends r) (w:World) (H:St w w [] R):Ret Tryz.prog 19 #[.agg #[am,ao,ap,aq,I ah,I ai,au],I al,I aj] w fun v w'=>∃ (y0:Int) (y1:Int) (y2:Int),(y0,y1,y2)=r/\v = .tuple #[.agg #[I y0,I y1],I y2]/\St w w' [] R:=by
 refine ret_of_W Tryz.func19 rfl rfl rfl ?_;refine kg 2 ?_;refine t_bx [am,ao,ap,aq,I ah,I ai,au] H rfl ?_;intro aZ a6 H;refine t_alloc (cs:=[I 0,I 0]) H Al26 rfl ?_;intro a7 a8 H;refine kg 6 ?_;obtain ⟨ba,aQ,hM⟩:=M.e_bind hM;refine s_call cf14 [.agg #[am,ao,ap,aq,I ah,I ai,au]] rfl (zav aa av aw ax ah ai ay (aH.app _) az (aI.app _) aJ (aK.app _) aL (aM.app _) aN (aO.app _) aP aQ _ (H.gt 2)) ?_
 rintro vq bb ⟨r2,rfl,hvq,ac⟩
 subst vq;(try dsimp only at hM);replace H:=H.bk ac;clear ac;refine kg 7 ?_
 refine W.cond (r2 != 0) rfl (fun ak=>?_) (fun ak=>?_)
 ·replace hM:=M.e_t hM ak
  replace ak:=dI ak
  refine kg 2 ?_;refine s_val (x_bld (ps:=[]) (zs:=[I 0,I 0]) (L':=[I 0,I 0]) rfl Tryz.underlying26 Al26 rfl (Bd26 Tryz.underlying26) (.nil)) ?_;refine kg 1 ?_;refine t_sw 0 0 [I 0,I 0] (.agg #[I 0,I 0]) H rfl rfl Sz26 rfl rfl rfl rfl ?_;intro bc H;refine kg 2 ?_;refine W.ret ?_
  have aR:=(H.bl 0)
  have ab:=M.e_pure hM
  exact ⟨_,(resE_ofn (vs:=[.agg #[I 0,I 0],I r2]) rfl rfl (.cell (v:=.agg #[I 0,I 0]) rfl (run_loadVar_ag (ds:=[I 0,I 0]) Ag26 Sz26 aR rfl rfl)<|.tmp (v:=I r2) rfl<|.nil)),⟨0,0,r2,ab,rfl,(H.pk [])⟩⟩
 replace hM:=M.e_f hM ak
 replace ak:=dI ak
 have bf:=(az).len_le
 refine kg 9 ?_;obtain ⟨bg,aS,hM⟩:=M.e_bind hM;refine s_call cf57 [I al,I 0,I ((aa.length:Int)-1)] rfl (zal al 0 ((aa.length:Int)-1) aS _ (H.gt 2)) ?_
 rintro vq bh ⟨r3,rfl,hvq,ac⟩
 subst vq;(try dsimp only at hM);replace H:=H.bk ac;clear ac
 have bi:=(az).len_le
 refine kg 6 ?_;obtain ⟨r4,aT,hM⟩:=M.e_bind hM;refine t_gcall (!r3) (gy_f rfl) cf57 (B r4) (fun _=>[I aj,I 0,I ((aa.length:Int)-1)]) (fun hg=>lst3 (gd_of hg (I aj)) rfl (gd_of hg (I ((aa.length:Int)-1)))) H (fun hg=>(zal aj 0 ((aa.length:Int)-1) (M.e_opt aT hg) _ (H.give (A:=[]) rfl)).mono fun v_ w_ ⟨y_,ab,aU,H_⟩=>by subst ab; exact ⟨aU,H.via H_⟩) ?_;intro bj H;refine s_val (x_por (b:=r3) (r:=r4) rfl rfl (fun hb=>gd_of (c:=!r3) (by first | exact hb | (rw [hb]; rfl) | simp_all) (B r4)))<|s_nil ?_
 refine W.cond (r3||r4) rfl (fun aA=>?_) (fun aA=>?_)
 ·replace hM:=M.e_t hM aA;refine kg 2 ?_;refine s_val (x_bld (ps:=[]) (zs:=[I 0,I 0]) (L':=[I 0,I 0]) rfl Tryz.underlying26 Al26 rfl (Bd26 Tryz.underlying26) (.nil)) ?_;refine t_sw 0 0 [I 0,I 0] (.agg #[I 0,I 0]) H rfl rfl Sz26 rfl rfl rfl rfl ?_;intro bm H;refine kg 2 ?_;refine W.ret ?_
  have aV:=(H.bl 0)
  have ab:=M.e_pure hM
  exact ⟨_,(resE_ofn (vs:=[.agg #[I 0,I 0],I 2]) rfl rfl (.cell (v:=.agg #[I 0,I 0]) rfl (run_loadVar_ag (ds:=[I 0,I 0]) Ag26 Sz26 aV rfl rfl)<|.tmp (v:=I 2) rfl<|.nil)),⟨0,0,2,ab,rfl,(H.pk [])⟩⟩
 replace hM:=M.e_f hM aA;refine kg 6 ?_;obtain ⟨bn,aW,hM⟩:=M.e_bind hM;refine s_call cf64 [.agg #[am,ao,ap,aq,I ah,I ai,au],I al,I aj] rfl (zaz aa av aw ax ah ai ay al aj (aH.app _) az (aI.app _) aJ (aK.app _) aL (aM.app _) aN (aO.app _) aP aW _ (H.gt 2)) ?_
 rintro vq bo ⟨ae,ag,r1,rfl,hvq,ac⟩
 subst vq;(try dsimp only at hM);replace H:=H.bk ac;clear ac;refine kg 3 ?_;refine t_alloc (cs:=[I 0,I 0]) H Al26 rfl ?_;intro bp br H;refine t_sw 0 0 [I ae,I ag] (.agg #[I ae,I ag]) H rfl rfl Sz26 rfl rfl rfl rfl ?_;intro bt H;refine kg 8 ?_
 refine W.cond (!r1) rfl (fun aB=>?_) (fun aB=>?_)
 ·replace hM:=M.e_t hM aB;refine kg 2 ?_;refine s_val (x_bld (ps:=[]) (zs:=[I 0,I 0]) (L':=[I 0,I 0]) rfl Tryz.underlying26 Al26 rfl (Bd26 Tryz.underlying26) (.nil)) ?_;refine t_sw 1 0 [I 0,I 0] (.agg #[I 0,I 0]) H rfl rfl Sz26 rfl rfl rfl rfl ?_;intro bu H;refine kg 2 ?_;replace H:=H.pk [1];refine W.ret ?_
  have aX:=(H.bl 0)
  have ab:=M.e_pure hM
  exact ⟨_,(resE_ofn (vs:=[.agg #[I 0,I 0],I 5]) rfl rfl (.cell (v:=.agg #[I 0,I 0]) rfl (run_loadVar_ag (ds:=[I 0,I 0]) Ag26 Sz26 aX rfl rfl)<|.tmp (v:=I 5) rfl<|.nil)),⟨0,0,5,ab,rfl,(H.pk [])⟩⟩
 replace hM:=M.e_f hM aB;refine kg 4 ?_;refine t_sw 1 0 [I ae,I ag] (.agg #[I ae,I ag]) H rfl rfl Sz26 rfl rfl rfl rfl ?_;intro bv H;refine kg 2 ?_;replace H:=H.pk [1];refine W.ret ?_
 have aY:=(H.bl 0)
 have ab:=M.e_pure hM
 exact ⟨_,(resE_ofn (vs:=[.agg #[I ae,I ag],I 0]) rfl rfl (.cell (v:=.agg #[I ae,I ag]) rfl (run_loadVar_ag (ds:=[I ae,I ag]) Ag26 Sz26 aY rfl rfl)<|.tmp (v:=I 0) rfl<|.nil)),⟨ae,ag,0,ab,rfl,(H.pk [])⟩⟩

def zdS (ae:List Int) (ai:List Span) (aj:List Int) (aa:List Town) (ab ac:Int) (ak:List Flood) (watch town:Int):M (Int × Int × Int) :=
  M.bind (zas ae ai aj aa ab ac ak) fun r2 =>
  bif r2 != 0 then (
  M.pure (0,0,r2))
  else (
  M.bind (zaj watch 0 ((ae.length:Int)-1)) fun r3 =>
  M.bind (M.opt (!r3) (zaj town 0 ((aa.length:Int)-1)) false) fun r4 =>
  bif (r3||r4) then (
  M.pure (0,0,2))
  else (
  M.grd (decide ((0:Int)<=town)&&decide (town<(aa.length:Int))) <|
  M.bind (zaP ae ai aj aa ab ac ak watch ((aa.getD (Int.toNat town) default).station)) fun (ag,ah,r1) =>
  bif !r1 then (
  M.pure (0,0,5))
  else (
  M.grd (decide ((-9223372036854775808:Int)<=(ag-ac))&&decide ((ag-ac)<=(9223372036854775807:Int))) <|
  M.grd (decide ((-9223372036854775808:Int)<=(ah-ab))&&decide ((ah-ab)<=(9223372036854775807:Int))) <|
  M.pure ((ag-ac),(ah-ab),0))))
theorem ze9 {R:List Chunk} {aK:Cells} {aj:Value} {aL:Cells} {ak:Value} {aM:Cells} {al:Value} {aN:Cells} {am:Value} {aO:Cells} {ao:Value} (ap:List Int) (au:List Span) (av:List Int) (ag:List Town) (aa:Int) (ab:Int) (aw:List Flood) (watch:Int) (town:Int) (aA:Reads R aK) (ay:Sl aK aj ap) (aB:Reads R aL) (aC:Sl aL ak au) (aD:Reads R aM) (aE:Sl aM al av) (az:Reads R aN) (ax:Sl aN am ag) (aF:Reads R aO) (aG:Sl aO ao aw) {r:(Int × Int × Int)} (hM:(zdS ap au av ag aa ab aw watch town).Ends r) (w:World) (H:St w w [] R):Ret Tryz.prog 21 #[.agg #[aj,ak,al,am,I aa,I ab,ao],I watch,I town] w fun v w'=>∃ (y0:Int) (y1:Int) (y2:Int),(y0,y1,y2)=r/\v = .tuple #[.agg #[I y0,I y1],I y2]/\St w w' [] R:=by
 refine ret_of_W Tryz.func21 rfl rfl rfl ?_;refine kg 2 ?_;refine t_bx [aj,ak,al,am,I aa,I ab,ao] H rfl ?_;intro aQ bc H;refine t_alloc (cs:=[I 0,I 0]) H Al26 rfl ?_;intro aR bf H;refine kg 6 ?_;obtain ⟨bg,aS,hM⟩:=M.e_bind hM;refine s_call cf14 [.agg #[aj,ak,al,am,I aa,I ab,ao]] rfl (zav ap au av ag aa ab aw (aA.app _) ay (aB.app _) aC (aD.app _) aE (az.app _) ax (aF.app _) aG aS _ (H.gt 2)) ?_
 rintro vq bh ⟨r2,rfl,hvq,ai⟩
 subst vq;(try dsimp only at hM);replace H:=H.bk ai;clear ai;refine kg 7 ?_
 refine W.cond (r2 != 0) rfl (fun aq=>?_) (fun aq=>?_)
 ·replace hM:=M.e_t hM aq
  replace aq:=dI aq
  refine kg 2 ?_;refine s_val (x_bld (ps:=[]) (zs:=[I 0,I 0]) (L':=[I 0,I 0]) rfl Tryz.underlying26 Al26 rfl (Bd26 Tryz.underlying26) (.nil)) ?_;refine kg 1 ?_;refine t_sw 0 0 [I 0,I 0] (.agg #[I 0,I 0]) H rfl rfl Sz26 rfl rfl rfl rfl ?_;intro bi H;refine kg 2 ?_;refine W.ret ?_
  have aT:=(H.bl 0)
  have ah:=M.e_pure hM
  exact ⟨_,(resE_ofn (vs:=[.agg #[I 0,I 0],I r2]) rfl rfl (.cell (v:=.agg #[I 0,I 0]) rfl (run_loadVar_ag (ds:=[I 0,I 0]) Ag26 Sz26 aT rfl rfl)<|.tmp (v:=I r2) rfl<|.nil)),⟨0,0,r2,ah,rfl,(H.pk [])⟩⟩
 replace hM:=M.e_f hM aq
 replace aq:=dI aq
 have bj:=(ay).len_le
 refine kg 9 ?_;obtain ⟨bm,aU,hM⟩:=M.e_bind hM;refine s_call cf57 [I watch,I 0,I ((ap.length:Int)-1)] rfl (zal watch 0 ((ap.length:Int)-1) aU _ (H.gt 2)) ?_
 rintro vq bn ⟨r3,rfl,hvq,ai⟩
 subst vq;(try dsimp only at hM);replace H:=H.bk ai;clear ai
 have bo:=(ax).len_le
 refine kg 6 ?_;obtain ⟨r4,aV,hM⟩:=M.e_bind hM;refine t_gcall (!r3) (gy_f rfl) cf57 (B r4) (fun _=>[I town,I 0,I ((ag.length:Int)-1)]) (fun hg=>lst3 (gd_of hg (I town)) rfl (gd_of hg (I ((ag.length:Int)-1)))) H (fun hg=>(zal town 0 ((ag.length:Int)-1) (M.e_opt aV hg) _ (H.give (A:=[]) rfl)).mono fun v_ w_ ⟨y_,ah,aW,H_⟩=>by subst ah; exact ⟨aW,H.via H_⟩) ?_;intro bp H;refine s_val (x_por (b:=r3) (r:=r4) rfl rfl (fun hb=>gd_of (c:=!r3) (by first | exact hb | (rw [hb]; rfl) | simp_all) (B r4)))<|s_nil ?_
 refine W.cond (r3||r4) rfl (fun aH=>?_) (fun aH=>?_)
 ·replace hM:=M.e_t hM aH;refine kg 2 ?_;refine s_val (x_bld (ps:=[]) (zs:=[I 0,I 0]) (L':=[I 0,I 0]) rfl Tryz.underlying26 Al26 rfl (Bd26 Tryz.underlying26) (.nil)) ?_;refine t_sw 0 0 [I 0,I 0] (.agg #[I 0,I 0]) H rfl rfl Sz26 rfl rfl rfl rfl ?_;intro br H;refine kg 2 ?_;refine W.ret ?_
  have aX:=(H.bl 0)
  have ah:=M.e_pure hM
  exact ⟨_,(resE_ofn (vs:=[.agg #[I 0,I 0],I 2]) rfl rfl (.cell (v:=.agg #[I 0,I 0]) rfl (run_loadVar_ag (ds:=[I 0,I 0]) Ag26 Sz26 aX rfl rfl)<|.tmp (v:=I 2) rfl<|.nil)),⟨0,0,2,ah,rfl,(H.pk [])⟩⟩
 replace hM:=M.e_f hM aH;refine kg 2 ?_;refine W.drawT (fun W=>St w W [cBlk aR [I 0,I 0] 26,cBlk aQ [aj,ak,al,am,I aa,I ab,ao] 53] R) (.q 0 (.q 1 (.q 2 (.q 3 (.q 4 (.q 5 (.q 6 (.q 7 (.l2 8 (.q 9 (.q 10 (.q 11 (.l 12 (.l 13 (.q 14 .nil)))))) 12 (.l 8 (.q 9 (.q 10 (.q 11 (.l 13 (.q 14 .nil))))))))))))))) mixed (by decide +kernel) rfl ?_;intro bt aP;replace H:=H.ext aP;clear aP
 refine ⟨(H.pk [0,1]),?_⟩
 obtain ⟨bu,hM⟩:=M.e_gd hM;refine kg 7 ?_;refine t_q rfl (fun w' H=>x_ld (v:=I ((ag.getD (Int.toNat town) default).station)) rfl (ld_sc Sc3 (At.mono (Town_at0 ax (i:=town) (by omega) (by omega)) (az.at H)))) ?_;refine t_l2 rfl rfl ?_ ?_
 ·skip
  obtain ⟨bv,aY,hM⟩:=M.e_bind hM;refine s_call cf64 [.agg #[aj,ak,al,am,I aa,I ab,ao],I watch,I ((ag.getD (Int.toNat town) default).station)] rfl (zaz ap au av ag aa ab aw watch ((ag.getD (Int.toNat town) default).station) (aA.app _) ay (aB.app _) aC (aD.app _) aE (az.app _) ax (aF.app _) aG aY _ (H.gt 2)) ?_
  rintro vq bw ⟨ac,ae,r1,rfl,hvq,ai⟩
  subst vq;(try dsimp only at hM);replace H:=H.bk ai;clear ai
  refine s_nil ⟨(H.pk [0,1]),?_⟩
  refine kg 3 ?_;refine t_l rfl ?_;refine t_alloc (cs:=[I 0,I 0]) H Al26 rfl ?_;intro aZ bx H
  refine s_nil ⟨(H.pk [1,2]),?_⟩
  refine t_l rfl ?_;refine t_sw 0 0 [I ac,I ae] (.agg #[I ac,I ae]) H rfl rfl Sz26 rfl rfl rfl rfl ?_;intro bz H
  refine s_nil ⟨(H.pk [1,2]),?_⟩
  refine kg 8 ?_
  refine W.cond (!r1) rfl (fun aI=>?_) (fun aI=>?_)
  ·replace hM:=M.e_t hM aI;refine kg 2 ?_;refine s_val (x_bld (ps:=[]) (zs:=[I 0,I 0]) (L':=[I 0,I 0]) rfl Tryz.underlying26 Al26 rfl (Bd26 Tryz.underlying26) (.nil)) ?_;refine t_sw 1 0 [I 0,I 0] (.agg #[I 0,I 0]) H rfl rfl Sz26 rfl rfl rfl rfl ?_;intro bA H;refine kg 2 ?_;replace H:=H.pk [1];refine W.ret ?_
   have a6:=(H.bl 0)
   have ah:=M.e_pure hM
   exact ⟨_,(resE_ofn (vs:=[.agg #[I 0,I 0],I 5]) rfl rfl (.cell (v:=.agg #[I 0,I 0]) rfl (run_loadVar_ag (ds:=[I 0,I 0]) Ag26 Sz26 a6 rfl rfl)<|.tmp (v:=I 5) rfl<|.nil)),⟨0,0,5,ah,rfl,(H.pk [])⟩⟩
  replace hM:=M.e_f hM aI;obtain ⟨bB,hM⟩:=M.e_gd hM;obtain ⟨bC,hM⟩:=M.e_gd hM;refine kg 15 ?_;refine s_val (x_bld (ps:=[(0,I (ac-ab)),(1,I (ae-aa))]) (zs:=[I 0,I 0]) (L':=[I (ac-ab),I (ae-aa)]) rfl Tryz.underlying26 Al26 rfl (Bd26 Tryz.underlying26) (.cons (cs:=[I (ac-ab)]) rfl rfl rfl rfl rfl<|.cons (cs:=[I (ae-aa)]) rfl rfl rfl rfl rfl<|.nil)) ?_;refine t_sw 1 0 [I (ac-ab),I (ae-aa)] (.agg #[I (ac-ab),I (ae-aa)]) H rfl rfl Sz26 rfl rfl rfl rfl ?_;intro bD H;refine kg 2 ?_;replace H:=H.pk [1];refine W.ret ?_
  have a7:=(H.bl 0)
  have ah:=M.e_pure hM
  exact ⟨_,(resE_ofn (vs:=[.agg #[I (ac-ab),I (ae-aa)],I 0]) rfl rfl (.cell (v:=.agg #[I (ac-ab),I (ae-aa)]) rfl (run_loadVar_ag (ds:=[I (ac-ab),I (ae-aa)]) Ag26 Sz26 a7 rfl rfl)<|.tmp (v:=I 0) rfl<|.nil)),⟨(ac-ab),(ae-aa),0,ah,rfl,(H.pk [])⟩⟩
 skip
 refine t_alloc (cs:=[I 0,I 0]) H Al26 rfl ?_;intro aZ bE H
 refine s_nil ⟨(H.pk [1,2]),?_⟩
 refine t_l rfl ?_;obtain ⟨bF,a8,hM⟩:=M.e_bind hM;refine s_call cf64 [.agg #[aj,ak,al,am,I aa,I ab,ao],I watch,I ((ag.getD (Int.toNat town) default).station)] rfl (zaz ap au av ag aa ab aw watch ((ag.getD (Int.toNat town) default).station) (aA.app _) ay (aB.app _) aC (aD.app _) aE (az.app _) ax (aF.app _) aG a8 _ (H.gt 3)) ?_
 rintro vq bG ⟨ac,ae,r1,rfl,hvq,ai⟩
 subst vq;(try dsimp only at hM);replace H:=H.bk ai;clear ai
 refine s_nil ⟨(H.pk [1,2]),?_⟩
 refine kg 3 ?_;refine t_l rfl ?_;refine t_sw 0 0 [I ac,I ae] (.agg #[I ac,I ae]) H rfl rfl Sz26 rfl rfl rfl rfl ?_;intro bH H
 refine s_nil ⟨(H.pk [1,2]),?_⟩
 refine kg 8 ?_
 refine W.cond (!r1) rfl (fun aJ=>?_) (fun aJ=>?_)
 ·replace hM:=M.e_t hM aJ;refine kg 2 ?_;refine s_val (x_bld (ps:=[]) (zs:=[I 0,I 0]) (L':=[I 0,I 0]) rfl Tryz.underlying26 Al26 rfl (Bd26 Tryz.underlying26) (.nil)) ?_;refine t_sw 1 0 [I 0,I 0] (.agg #[I 0,I 0]) H rfl rfl Sz26 rfl rfl rfl rfl ?_;intro bI H;refine kg 2 ?_;replace H:=H.pk [1];refine W.ret ?_
  have ba:=(H.bl 0)
  have ah:=M.e_pure hM
  exact ⟨_,(resE_ofn (vs:=[.agg #[I 0,I 0],I 5]) rfl rfl (.cell (v:=.agg #[I 0,I 0]) rfl (run_loadVar_ag (ds:=[I 0,I 0]) Ag26 Sz26 ba rfl rfl)<|.tmp (v:=I 5) rfl<|.nil)),⟨0,0,5,ah,rfl,(H.pk [])⟩⟩
 replace hM:=M.e_f hM aJ;obtain ⟨bJ,hM⟩:=M.e_gd hM;obtain ⟨bK,hM⟩:=M.e_gd hM;refine kg 15 ?_;refine s_val (x_bld (ps:=[(0,I (ac-ab)),(1,I (ae-aa))]) (zs:=[I 0,I 0]) (L':=[I (ac-ab),I (ae-aa)]) rfl Tryz.underlying26 Al26 rfl (Bd26 Tryz.underlying26) (.cons (cs:=[I (ac-ab)]) rfl rfl rfl rfl rfl<|.cons (cs:=[I (ae-aa)]) rfl rfl rfl rfl rfl<|.nil)) ?_;refine t_sw 1 0 [I (ac-ab),I (ae-aa)] (.agg #[I (ac-ab),I (ae-aa)]) H rfl rfl Sz26 rfl rfl rfl rfl ?_;intro bL H;refine kg 2 ?_;replace H:=H.pk [1];refine W.ret ?_
 have bb:=(H.bl 0)
 have ah:=M.e_pure hM
 exact ⟨_,(resE_ofn (vs:=[.agg #[I (ac-ab),I (ae-aa)],I 0]) rfl rfl (.cell (v:=.agg #[I (ac-ab),I (ae-aa)]) rfl (run_loadVar_ag (ds:=[I (ac-ab),I (ae-aa)]) Ag26 Sz26 bb rfl rfl)<|.tmp (v:=I 0) rfl<|.nil)),⟨(ac-ab),(ae-aa),0,ah,rfl,(H.pk [])⟩⟩

end Go.Proofs.YtbldmjejckjflabGreat
end
section
set_option maxRecDepth 100000
set_option maxHeartbeats 16000000
namespace Go.Proofs.YtbldmjejckjflabGreat
open Go Go.Nm
attribute [local irreducible] gd execOp SL SLD SLT WR
def zcl (aA:List Int) (aB:List Span) (aC:List Int) (aD:List Town) (aE aF:Int) (aG:List Flood) (aa aw town:Int) (r0:List Int) (r1:List Span) (ab:List Int) (ac:List Town) (r4 r5:Int) (r6:List Flood) (ae:List Int) (ag:List Span) (ah:List Int) (ai:List Town) (aj ak:Int) (al:List Flood):M Bool :=
  M.bind (zaA r0 r1 ab ac r4 r5 r6) fun r7 =>
  M.bind (zas ae ag ah ai aj ak al) fun r8 =>
  bif r7 != r8 then (
  M.pure false)
  else (
  M.bind (zct r0 r1 ab ac r4 r5 r6 aa) fun (aH,ax) =>
  M.bind (zes ae ag ah ai aj ak al aa) fun (aI,ay) =>
  M.bind (M.opt (!(ax != ay)) (zad aH aI) false) fun r9 =>
  bif ((ax != ay)||(!r9)) then (
  M.pure false)
  else (
  M.bind (zd0 r0 r1 ab ac r4 r5 r6 aa aw) fun (aJ,aK,aL) =>
  M.bind (zeg ae ag ah ai aj ak al aa aw) fun (aM,aN,aO) =>
  bif ((aL != aO)||(!(decide ((⟨(aJ:Int),(aK:Int)⟩:Span)=(⟨(aM:Int),(aN:Int)⟩:Span))))) then (
  M.pure false)
  else (
  M.bind (zc4 r0 r1 ab ac r4 r5 r6 aa town) fun (am,ao,ap) =>
  M.bind (zdS ae ag ah ai aj ak al aa town) fun (aq,au,av) =>
  M.bind (M.opt ((ap==av)&&(decide ((⟨(am:Int),(ao:Int)⟩:Span)=(⟨(aq:Int),(au:Int)⟩:Span)))) (zba r0 r1 ab ac r4 r5 r6 aA aB aC aD aE aF aG) false) fun az =>
  M.bind (M.opt (((ap==av)&&(decide ((⟨(am:Int),(ao:Int)⟩:Span)=(⟨(aq:Int),(au:Int)⟩:Span))))&&az) (zax) false) fun aP =>
  M.pure ((((ap==av)&&(decide ((⟨(am:Int),(ao:Int)⟩:Span)=(⟨(aq:Int),(au:Int)⟩:Span))))&&az)&&aP))))
def zaX (aa:List Int) (ab:List Span) (ac:List Int) (ae:List Town) (ag ah:Int) (ai:List Flood) (aj ak town:Int):M Bool :=
  M.bind (zbu aa ab ac ae ag ah ai) fun r2 =>
  bif r2 then (
  M.bind (zax) fun r3 =>
  M.pure r3)
  else (
  M.bind (zbp aa ab ac ae ag ah ai) fun (r0,r1,al,am,r4,r5,r6) =>
  M.bind (zbj aa ab ac ae ag ah ai) fun (ao,ap,aq,au,av,aw,ax) =>
  zcl aa ab ac ae ag ah ai aj ak town r0 r1 al am r4 r5 r6 ao ap aq au av aw ax)
theorem zaq {R:List Chunk} {bN:Cells} {aF:Value} {bO:Cells} {aG:Value} {bP:Cells} {aH:Value} {bQ:Cells} {aI:Value} {bJ:Cells} {aJ:Value} (aM:List Int) (aN:List Span) (aO:List Int) (aP:List Town) (aq:Int) (au:Int) (aQ:List Flood) (a8:Int) (bm:Int) (town:Int) (aT:Reads R bN) (aU:Sl bN aF aM) (aV:Reads R bO) (aW:Sl bO aG aN) (aX:Reads R bP) (aY:Sl bP aH aO) (aZ:Reads R bQ) (a6:Sl bQ aI aP) (av:Reads R bJ) (a7:Sl bJ aJ aQ) {r:Bool} (hM:(zaX aM aN aO aP aq au aQ a8 bm town).Ends r) (w:World) (H:St w w [] R):Ret Tryz.prog 5 #[.agg #[aF,aG,aH,aI,I aq,I au,aJ],I a8,I bm,I town] w fun v w'=>∃ (y0:Bool),y0=r/\v=B y0/\St w w' [] R:=by
 refine ret_of_W Tryz.func5 rfl rfl rfl ?_;refine kg 2 ?_;refine t_bx [aF,aG,aH,aI,I aq,I au,aJ] H rfl ?_;intro bz cD H;refine kg 6 ?_;obtain ⟨cE,b5,hM⟩:=M.e_bind hM;refine s_call cf11 [.agg #[aF,aG,aH,aI,I aq,I au,aJ]] rfl (zdl aM aN aO aP aq au aQ (aT.app _) aU (aV.app _) aW (aX.app _) aY (aZ.app _) a6 (av.app _) a7 b5 _ (H.gt 1)) ?_
 rintro vq cF ⟨r2,rfl,hvq,aa⟩
 subst vq;(try dsimp only at hM);replace H:=H.bk aa;clear aa;refine s_nil ?_
 refine W.cond r2 rfl (fun bK=>?_) (fun bK=>?_)
 ·replace hM:=M.e_t hM bK;refine kg 2 ?_;obtain ⟨cG,b6,hM⟩:=M.e_bind hM;refine s_call cf10 [] rfl (zao b6 _ (H.gt 1)) ?_
  rintro vq cH ⟨r3,rfl,hvq,aa⟩
  subst vq;(try dsimp only at hM);replace H:=H.bk aa;clear aa;refine kg 2 ?_;refine W.ret ?_
  have ba:=M.e_pure hM
  exact ⟨_,resE_tmp rfl,⟨r3,ba,rfl,(H.pk [])⟩⟩
 replace hM:=M.e_f hM bK;refine W.skip ?_;refine W.seqJ (fun σ W=>∃ (aK:Nat) (aL:Nat) (r0:List Int) (r1:List Span) (aD:List Int) (aE:List Town) (r4:Int) (r5:Int) (r6:List Flood) (aw:List Int) (ax:List Span) (ay:List Int) (az:List Town) (ab:Int) (ac:Int) (aA:List Flood) (ae:Value) (ag:Value) (ah:Value) (ai:Value) (aj:Value) (ak:Value) (al:Value) (am:Value) (ao:Value) (ap:Value) (aB:List (Raw 1)) (aC:Base) (aR:List (Raw 1)) (aS:Base) (ρ:Env),σ=upds ρ [(1,I a8),(2,I bm),(3,I town),(4,Pq bz),(9,Pq aK),(10,Pq aL)]/\(zcl aM aN aO aP aq au aQ a8 bm town r0 r1 aD aE r4 r5 r6 aw ax ay az ab ac aA).Ends r/\St w W [cBlk aL [ae,ag,ah,ai,I ab,I ac,aj] 53,cBlk aK [ak,al,am,ao,I r4,I r5,ap] 29,cOwn (α:=Int) 3 ae aw,cOwn (α:=Span) 26 ag ax,cOwn (α:=Int) 3 ah ay,cOwn (α:=Town) 105 ai az,cOwn (α:=Raw 1) 106 aj aB,cRo aC,cOwn (α:=Int) 3 ak r0,cOwn (α:=Span) 26 al r1,cOwn (α:=Int) 3 am aD,cOwn (α:=Town) 36 ao aE,cOwn (α:=Raw 1) 38 ap aR,cRo aS,cBlk bz [aF,aG,aH,aI,I aq,I au,aJ] 29] R/\RepR (α:=Flood) (Cells.sup bJ aC.cells) aB aA/\RepR (α:=Flood) aS.cells aR r6) ?_ ?_
 ·skip
  refine W.drawT (fun W=>St w W [cBlk bz [aF,aG,aH,aI,I aq,I au,aJ] 29] R) (.q 0 (.q 2 (.l3 1 (.l3 3 (.l2 4 (.l 5 (.l 6 (.l 7 .nil))) 5 (.l 4 (.l 6 (.l 7 .nil)))) 4 (.l2 3 (.l 5 (.l 6 (.l 7 .nil))) 5 (.l 3 (.l 6 (.l 7 .nil)))) 5 (.l2 3 (.l 4 (.l 6 (.l 7 .nil))) 4 (.l 3 (.l 6 (.l 7 .nil))))) 4 (.l2 1 (.l2 3 (.l 5 (.l 6 (.l 7 .nil))) 5 (.l 3 (.l 6 (.l 7 .nil)))) 5 (.l 1 (.l 3 (.l 6 (.l 7 .nil))))) 5 (.l2 1 (.l2 3 (.l 4 (.l 6 (.l 7 .nil))) 4 (.l 3 (.l 6 (.l 7 .nil)))) 4 (.l 1 (.l 3 (.l 6 (.l 7 .nil)))))))) mixed (by decide +kernel) rfl ?_;intro cI bv;replace H:=H.ext bv;clear bv
  refine ⟨(H.pk [0]),?_⟩
  refine kg 2 ?_;refine t_l3 rfl rfl rfl ?_ ?_ ?_
  ·skip
   obtain ⟨cJ,b7,hM⟩:=M.e_bind hM;refine s_call cf12 [.agg #[aF,aG,aH,aI,I aq,I au,aJ]] rfl (zaF aM aN aO aP aq au aQ (aT.app _) aU (aV.app _) aW (aX.app _) aY (aZ.app _) a6 (av.app _) a7 b7 _ (H.gt 1)) ?_
   rintro vq cK ⟨r0,r1,aD,aE,r4,r5,r6,ak,al,am,ao,ap,aR,aS,rfl,hvq,aa,bh⟩
   subst vq;(try dsimp only at hM);replace H:=H.bk aa;clear aa
   have cL:=Sl.cells (H.os 0)
   have cM:=Sl.oc (H.os 0)
   have cN:=Sl.cells (H.os 1)
   have cO:=Sl.oc (H.os 1)
   have cP:=Sl.cells (H.os 2)
   have cQ:=Sl.oc (H.os 2)
   have cR:=Sl.cells (H.os 3)
   have cS:=Sl.oc (H.os 3)
   have cT:=Sl.cells (H.os 4)
   have cU:=Sl.oc (H.os 4)
   refine s_nil ⟨(H.pk [6]),?_⟩
   refine t_l3 rfl rfl rfl ?_ ?_ ?_
   ·skip
    obtain ⟨cV,b8,hM⟩:=M.e_bind hM;refine s_call cf13 [.agg #[aF,aG,aH,aI,I aq,I au,aJ]] rfl (zap aM aN aO aP aq au aQ (aT.app _) aU (aV.app _) aW (aX.app _) aY (aZ.app _) a6 (av.app _) a7 b8 _ (H.gt 7)) ?_
    rintro vq cW ⟨aw,ax,ay,az,ab,ac,aA,ae,ag,ah,ai,aj,aB,aC,rfl,hvq,aa,bA⟩
    subst vq;(try dsimp only at hM);replace H:=H.bk aa;clear aa
    have cX:=Sl.cells (H.os 0)
    have cY:=Sl.oc (H.os 0)
    have cZ:=Sl.cells (H.os 1)
    have c0:=Sl.oc (H.os 1)
    have c5:=Sl.cells (H.os 2)
    have c6:=Sl.oc (H.os 2)
    have c7:=Sl.cells (H.os 3)
    have c8:=Sl.oc (H.os 3)
    have c9:=Sl.cells (H.os 4)
    have da:=Sl.oc (H.os 4)
    refine s_nil ⟨(H.pk [12]),?_⟩
    refine t_l2 rfl rfl ?_ ?_
    ·skip
     refine t_alloc (cs:=[.slice none 0 0,.slice none 0 0,.slice none 0 0,.slice none 0 0,I 0,I 0,.slice none 0 0]) H Al29 rfl ?_;intro aK db H
     refine s_nil ⟨(H.pk [13]),?_⟩
     refine t_l rfl ?_;refine t_alloc (cs:=[.slice none 0 0,.slice none 0 0,.slice none 0 0,.slice none 0 0,I 0,I 0,.slice none 0 0]) H Al53 rfl ?_;intro aL dc H
     refine s_nil ⟨(H.pk [14]),?_⟩
     refine t_l rfl ?_;refine t_sw 1 0 [ak,al,am,ao,I r4,I r5,ap] (.agg #[ak,al,am,ao,I r4,I r5,ap]) H rfl rfl Sz29 rfl rfl rfl (by simp only [List.all_cons,List.all_nil,Bool.true_and,Bool.and_true,Sl.oc (H.os 8),Sl.oc (H.os 9),Sl.oc (H.os 10),Sl.oc (H.os 11),Sl.oc (rowSl rfl (H.get (k:=12) rfl) (roLe _ (H.get (k:=13) rfl)) bh)]; try rfl) ?_;intro dd H
     refine s_nil ⟨(H.pk [14]),?_⟩
     refine t_l rfl ?_;refine t_sw 0 0 [ae,ag,ah,ai,I ab,I ac,aj] (.agg #[ae,ag,ah,ai,I ab,I ac,aj]) H rfl rfl Sz53 rfl rfl rfl (by simp only [List.all_cons,List.all_nil,Bool.true_and,Bool.and_true,Sl.oc (H.os 2),Sl.oc (H.os 3),Sl.oc (H.os 4),Sl.oc (H.os 5),Sl.oc (rowSl rfl (H.get (k:=6) rfl) (Cells.sup_le (av.at H) (roLe _ (H.get (k:=7) rfl))) bA)]; try rfl) ?_;intro dg H
     refine s_nil ⟨(H.pk [14]),?_⟩
     refine t_nil ?_
     exact ⟨aK,aL,r0,r1,aD,aE,r4,r5,r6,aw,ax,ay,az,ab,ac,aA,ae,ag,ah,ai,aj,ak,al,am,ao,ap,aB,aC,aR,aS,_,upds_of _ _ ⟨rfl,rfl,rfl,rfl,rfl,rfl,trivial⟩,hM,H,bA,bh⟩
    skip
    refine t_alloc (cs:=[.slice none 0 0,.slice none 0 0,.slice none 0 0,.slice none 0 0,I 0,I 0,.slice none 0 0]) H Al53 rfl ?_;intro aL dh H
    refine s_nil ⟨(H.pk [13]),?_⟩
    refine t_l rfl ?_;refine t_alloc (cs:=[.slice none 0 0,.slice none 0 0,.slice none 0 0,.slice none 0 0,I 0,I 0,.slice none 0 0]) H Al29 rfl ?_;intro aK di H
    refine s_nil ⟨(H.pk [14]),?_⟩
    refine t_l rfl ?_;refine t_sw 0 0 [ak,al,am,ao,I r4,I r5,ap] (.agg #[ak,al,am,ao,I r4,I r5,ap]) H rfl rfl Sz29 rfl rfl rfl (by simp only [List.all_cons,List.all_nil,Bool.true_and,Bool.and_true,Sl.oc (H.os 8),Sl.oc (H.os 9),Sl.oc (H.os 10),Sl.oc (H.os 11),Sl.oc (rowSl rfl (H.get (k:=12) rfl) (roLe _ (H.get (k:=13) rfl)) bh)]; try rfl) ?_;intro dj H
    refine s_nil ⟨(H.pk [14]),?_⟩
    refine t_l rfl ?_;refine t_sw 1 0 [ae,ag,ah,ai,I ab,I ac,aj] (.agg #[ae,ag,ah,ai,I ab,I ac,aj]) H rfl rfl Sz53 rfl rfl rfl (by simp only [List.all_cons,List.all_nil,Bool.true_and,Bool.and_true,Sl.oc (H.os 2),Sl.oc (H.os 3),Sl.oc (H.os 4),Sl.oc (H.os 5),Sl.oc (rowSl rfl (H.get (k:=6) rfl) (Cells.sup_le (av.at H) (roLe _ (H.get (k:=7) rfl))) bA)]; try rfl) ?_;intro dk H
    refine s_nil ⟨(H.pk [14]),?_⟩
    refine t_nil ?_
    exact ⟨aK,aL,r0,r1,aD,aE,r4,r5,r6,aw,ax,ay,az,ab,ac,aA,ae,ag,ah,ai,aj,ak,al,am,ao,ap,aB,aC,aR,aS,_,upds_of _ _ ⟨rfl,rfl,rfl,rfl,rfl,rfl,trivial⟩,hM,(H.pk [1,0,2,3,4,5,6,7,8,9,10,11,12,13,14]),bA,bh⟩
   ·skip
    refine t_alloc (cs:=[.slice none 0 0,.slice none 0 0,.slice none 0 0,.slice none 0 0,I 0,I 0,.slice none 0 0]) H Al29 rfl ?_;intro aK dl H
    refine s_nil ⟨(H.pk [7]),?_⟩
    refine t_l2 rfl rfl ?_ ?_
    ·skip
     obtain ⟨dm,b9,hM⟩:=M.e_bind hM;refine s_call cf13 [.agg #[aF,aG,aH,aI,I aq,I au,aJ]] rfl (zap aM aN aO aP aq au aQ (aT.app _) aU (aV.app _) aW (aX.app _) aY (aZ.app _) a6 (av.app _) a7 b9 _ (H.gt 8)) ?_
     rintro vq dq ⟨aw,ax,ay,az,ab,ac,aA,ae,ag,ah,ai,aj,aB,aC,rfl,hvq,aa,bR⟩
     subst vq;(try dsimp only at hM);replace H:=H.bk aa;clear aa
     have dr:=Sl.cells (H.os 0)
     have dt:=Sl.oc (H.os 0)
     have du:=Sl.cells (H.os 1)
     have dv:=Sl.oc (H.os 1)
     have dw:=Sl.cells (H.os 2)
     have dx:=Sl.oc (H.os 2)
     have dy:=Sl.cells (H.os 3)
     have dz:=Sl.oc (H.os 3)
     have dA:=Sl.cells (H.os 4)
     have dB:=Sl.oc (H.os 4)
     refine s_nil ⟨(H.pk [13]),?_⟩
     refine t_l rfl ?_;refine t_alloc (cs:=[.slice none 0 0,.slice none 0 0,.slice none 0 0,.slice none 0 0,I 0,I 0,.slice none 0 0]) H Al53 rfl ?_;intro aL dC H
     refine s_nil ⟨(H.pk [14]),?_⟩
     refine t_l rfl ?_;refine t_sw 7 0 [ak,al,am,ao,I r4,I r5,ap] (.agg #[ak,al,am,ao,I r4,I r5,ap]) H rfl rfl Sz29 rfl rfl rfl (by simp only [List.all_cons,List.all_nil,Bool.true_and,Bool.and_true,Sl.oc (H.os 8),Sl.oc (H.os 9),Sl.oc (H.os 10),Sl.oc (H.os 11),Sl.oc (rowSl rfl (H.get (k:=12) rfl) (roLe _ (H.get (k:=13) rfl)) bh)]; try rfl) ?_;intro dD H
     refine s_nil ⟨(H.pk [14]),?_⟩
     refine t_l rfl ?_;refine t_sw 0 0 [ae,ag,ah,ai,I ab,I ac,aj] (.agg #[ae,ag,ah,ai,I ab,I ac,aj]) H rfl rfl Sz53 rfl rfl rfl (by simp only [List.all_cons,List.all_nil,Bool.true_and,Bool.and_true,Sl.oc (H.os 1),Sl.oc (H.os 2),Sl.oc (H.os 3),Sl.oc (H.os 4),Sl.oc (rowSl rfl (H.get (k:=5) rfl) (Cells.sup_le (av.at H) (roLe _ (H.get (k:=6) rfl))) bR)]; try rfl) ?_;intro dE H
     refine s_nil ⟨(H.pk [14]),?_⟩
     refine t_nil ?_
     exact ⟨aK,aL,r0,r1,aD,aE,r4,r5,r6,aw,ax,ay,az,ab,ac,aA,ae,ag,ah,ai,aj,ak,al,am,ao,ap,aB,aC,aR,aS,_,upds_of _ _ ⟨rfl,rfl,rfl,rfl,rfl,rfl,trivial⟩,hM,(H.pk [0,7,1,2,3,4,5,6,8,9,10,11,12,13,14]),bR,bh⟩
    skip
    refine t_alloc (cs:=[.slice none 0 0,.slice none 0 0,.slice none 0 0,.slice none 0 0,I 0,I 0,.slice none 0 0]) H Al53 rfl ?_;intro aL dF H
    refine s_nil ⟨(H.pk [8]),?_⟩
    refine t_l rfl ?_;obtain ⟨dG,ca,hM⟩:=M.e_bind hM;refine s_call cf13 [.agg #[aF,aG,aH,aI,I aq,I au,aJ]] rfl (zap aM aN aO aP aq au aQ (aT.app _) aU (aV.app _) aW (aX.app _) aY (aZ.app _) a6 (av.app _) a7 ca _ (H.gt 9)) ?_
    rintro vq dH ⟨aw,ax,ay,az,ab,ac,aA,ae,ag,ah,ai,aj,aB,aC,rfl,hvq,aa,bS⟩
    subst vq;(try dsimp only at hM);replace H:=H.bk aa;clear aa
    have dJ:=Sl.cells (H.os 0)
    have dK:=Sl.oc (H.os 0)
    have dL:=Sl.cells (H.os 1)
    have dM:=Sl.oc (H.os 1)
    have dN:=Sl.cells (H.os 2)
    have dO:=Sl.oc (H.os 2)
    have dP:=Sl.cells (H.os 3)
    have dQ:=Sl.oc (H.os 3)
    have dR:=Sl.cells (H.os 4)
    have dS:=Sl.oc (H.os 4)
    refine s_nil ⟨(H.pk [14]),?_⟩
    refine t_l rfl ?_;refine t_sw 7 0 [ak,al,am,ao,I r4,I r5,ap] (.agg #[ak,al,am,ao,I r4,I r5,ap]) H rfl rfl Sz29 rfl rfl rfl (by simp only [List.all_cons,List.all_nil,Bool.true_and,Bool.and_true,Sl.oc (H.os 8),Sl.oc (H.os 9),Sl.oc (H.os 10),Sl.oc (H.os 11),Sl.oc (rowSl rfl (H.get (k:=12) rfl) (roLe _ (H.get (k:=13) rfl)) bh)]; try rfl) ?_;intro dT H
    refine s_nil ⟨(H.pk [14]),?_⟩
    refine t_l rfl ?_;refine t_sw 6 0 [ae,ag,ah,ai,I ab,I ac,aj] (.agg #[ae,ag,ah,ai,I ab,I ac,aj]) H rfl rfl Sz53 rfl rfl rfl (by simp only [List.all_cons,List.all_nil,Bool.true_and,Bool.and_true,Sl.oc (H.os 0),Sl.oc (H.os 1),Sl.oc (H.os 2),Sl.oc (H.os 3),Sl.oc (rowSl rfl (H.get (k:=4) rfl) (Cells.sup_le (av.at H) (roLe _ (H.get (k:=5) rfl))) bS)]; try rfl) ?_;intro dU H
    refine s_nil ⟨(H.pk [14]),?_⟩
    refine t_nil ?_
    exact ⟨aK,aL,r0,r1,aD,aE,r4,r5,r6,aw,ax,ay,az,ab,ac,aA,ae,ag,ah,ai,aj,ak,al,am,ao,ap,aB,aC,aR,aS,_,upds_of _ _ ⟨rfl,rfl,rfl,rfl,rfl,rfl,trivial⟩,hM,(H.pk [6,7,0,1,2,3,4,5,8,9,10,11,12,13,14]),bS,bh⟩
   skip
   refine t_alloc (cs:=[.slice none 0 0,.slice none 0 0,.slice none 0 0,.slice none 0 0,I 0,I 0,.slice none 0 0]) H Al53 rfl ?_;intro aL dV H
   refine s_nil ⟨(H.pk [7]),?_⟩
   refine t_l2 rfl rfl ?_ ?_
   ·skip
    obtain ⟨dW,cb,hM⟩:=M.e_bind hM;refine s_call cf13 [.agg #[aF,aG,aH,aI,I aq,I au,aJ]] rfl (zap aM aN aO aP aq au aQ (aT.app _) aU (aV.app _) aW (aX.app _) aY (aZ.app _) a6 (av.app _) a7 cb _ (H.gt 8)) ?_
    rintro vq dX ⟨aw,ax,ay,az,ab,ac,aA,ae,ag,ah,ai,aj,aB,aC,rfl,hvq,aa,bT⟩
    subst vq;(try dsimp only at hM);replace H:=H.bk aa;clear aa
    have dY:=Sl.cells (H.os 0)
    have dZ:=Sl.oc (H.os 0)
    have d0:=Sl.cells (H.os 1)
    have d1:=Sl.oc (H.os 1)
    have d2:=Sl.cells (H.os 2)
    have d3:=Sl.oc (H.os 2)
    have d4:=Sl.cells (H.os 3)
    have d5:=Sl.oc (H.os 3)
    have d6:=Sl.cells (H.os 4)
    have d7:=Sl.oc (H.os 4)
    refine s_nil ⟨(H.pk [13]),?_⟩
    refine t_l rfl ?_;refine t_alloc (cs:=[.slice none 0 0,.slice none 0 0,.slice none 0 0,.slice none 0 0,I 0,I 0,.slice none 0 0]) H Al29 rfl ?_;intro aK d8 H
    refine s_nil ⟨(H.pk [14]),?_⟩
    refine t_l rfl ?_;refine t_sw 0 0 [ak,al,am,ao,I r4,I r5,ap] (.agg #[ak,al,am,ao,I r4,I r5,ap]) H rfl rfl Sz29 rfl rfl rfl (by simp only [List.all_cons,List.all_nil,Bool.true_and,Bool.and_true,Sl.oc (H.os 8),Sl.oc (H.os 9),Sl.oc (H.os 10),Sl.oc (H.os 11),Sl.oc (rowSl rfl (H.get (k:=12) rfl) (roLe _ (H.get (k:=13) rfl)) bh)]; try rfl) ?_;intro d9 H
    refine s_nil ⟨(H.pk [14]),?_⟩
    refine t_l rfl ?_;refine t_sw 7 0 [ae,ag,ah,ai,I ab,I ac,aj] (.agg #[ae,ag,ah,ai,I ab,I ac,aj]) H rfl rfl Sz53 rfl rfl rfl (by simp only [List.all_cons,List.all_nil,Bool.true_and,Bool.and_true,Sl.oc (H.os 1),Sl.oc (H.os 2),Sl.oc (H.os 3),Sl.oc (H.os 4),Sl.oc (rowSl rfl (H.get (k:=5) rfl) (Cells.sup_le (av.at H) (roLe _ (H.get (k:=6) rfl))) bT)]; try rfl) ?_;intro ea H
    refine s_nil ⟨(H.pk [14]),?_⟩
    refine t_nil ?_
    exact ⟨aK,aL,r0,r1,aD,aE,r4,r5,r6,aw,ax,ay,az,ab,ac,aA,ae,ag,ah,ai,aj,ak,al,am,ao,ap,aB,aC,aR,aS,_,upds_of _ _ ⟨rfl,rfl,rfl,rfl,rfl,rfl,trivial⟩,hM,(H.pk [7,0,1,2,3,4,5,6,8,9,10,11,12,13,14]),bT,bh⟩
   skip
   refine t_alloc (cs:=[.slice none 0 0,.slice none 0 0,.slice none 0 0,.slice none 0 0,I 0,I 0,.slice none 0 0]) H Al29 rfl ?_;intro aK eb H
   refine s_nil ⟨(H.pk [8]),?_⟩
   refine t_l rfl ?_;obtain ⟨ec,cc,hM⟩:=M.e_bind hM;refine s_call cf13 [.agg #[aF,aG,aH,aI,I aq,I au,aJ]] rfl (zap aM aN aO aP aq au aQ (aT.app _) aU (aV.app _) aW (aX.app _) aY (aZ.app _) a6 (av.app _) a7 cc _ (H.gt 9)) ?_
   rintro vq ed ⟨aw,ax,ay,az,ab,ac,aA,ae,ag,ah,ai,aj,aB,aC,rfl,hvq,aa,bU⟩
   subst vq;(try dsimp only at hM);replace H:=H.bk aa;clear aa
   have ee:=Sl.cells (H.os 0)
   have ef:=Sl.oc (H.os 0)
   have eg:=Sl.cells (H.os 1)
   have eh:=Sl.oc (H.os 1)
   have ei:=Sl.cells (H.os 2)
   have ej:=Sl.oc (H.os 2)
   have el:=Sl.cells (H.os 3)
   have em:=Sl.oc (H.os 3)
   have eo:=Sl.cells (H.os 4)
   have ep:=Sl.oc (H.os 4)
   refine s_nil ⟨(H.pk [14]),?_⟩
   refine t_l rfl ?_;refine t_sw 6 0 [ak,al,am,ao,I r4,I r5,ap] (.agg #[ak,al,am,ao,I r4,I r5,ap]) H rfl rfl Sz29 rfl rfl rfl (by simp only [List.all_cons,List.all_nil,Bool.true_and,Bool.and_true,Sl.oc (H.os 8),Sl.oc (H.os 9),Sl.oc (H.os 10),Sl.oc (H.os 11),Sl.oc (rowSl rfl (H.get (k:=12) rfl) (roLe _ (H.get (k:=13) rfl)) bh)]; try rfl) ?_;intro eq H
   refine s_nil ⟨(H.pk [14]),?_⟩
   refine t_l rfl ?_;refine t_sw 7 0 [ae,ag,ah,ai,I ab,I ac,aj] (.agg #[ae,ag,ah,ai,I ab,I ac,aj]) H rfl rfl Sz53 rfl rfl rfl (by simp only [List.all_cons,List.all_nil,Bool.true_and,Bool.and_true,Sl.oc (H.os 0),Sl.oc (H.os 1),Sl.oc (H.os 2),Sl.oc (H.os 3),Sl.oc (rowSl rfl (H.get (k:=4) rfl) (Cells.sup_le (av.at H) (roLe _ (H.get (k:=5) rfl))) bU)]; try rfl) ?_;intro eu H
   refine s_nil ⟨(H.pk [14]),?_⟩
   refine t_nil ?_
   exact ⟨aK,aL,r0,r1,aD,aE,r4,r5,r6,aw,ax,ay,az,ab,ac,aA,ae,ag,ah,ai,aj,ak,al,am,ao,ap,aB,aC,aR,aS,_,upds_of _ _ ⟨rfl,rfl,rfl,rfl,rfl,rfl,trivial⟩,hM,(H.pk [7,6,0,1,2,3,4,5,8,9,10,11,12,13,14]),bU,bh⟩
  ·skip
   refine t_alloc (cs:=[.slice none 0 0,.slice none 0 0,.slice none 0 0,.slice none 0 0,I 0,I 0,.slice none 0 0]) H Al29 rfl ?_;intro aK ew H
   refine s_nil ⟨(H.pk [1]),?_⟩
   refine t_l2 rfl rfl ?_ ?_
   ·skip
    obtain ⟨ey,cd,hM⟩:=M.e_bind hM;refine s_call cf12 [.agg #[aF,aG,aH,aI,I aq,I au,aJ]] rfl (zaF aM aN aO aP aq au aQ (aT.app _) aU (aV.app _) aW (aX.app _) aY (aZ.app _) a6 (av.app _) a7 cd _ (H.gt 2)) ?_
    rintro vq ez ⟨r0,r1,aD,aE,r4,r5,r6,ak,al,am,ao,ap,aR,aS,rfl,hvq,aa,bB⟩
    subst vq;(try dsimp only at hM);replace H:=H.bk aa;clear aa
    have eA:=Sl.cells (H.os 0)
    have eB:=Sl.oc (H.os 0)
    have eC:=Sl.cells (H.os 1)
    have eD:=Sl.oc (H.os 1)
    have eE:=Sl.cells (H.os 2)
    have eF:=Sl.oc (H.os 2)
    have eG:=Sl.cells (H.os 3)
    have eH:=Sl.oc (H.os 3)
    have eI:=Sl.cells (H.os 4)
    have eJ:=Sl.oc (H.os 4)
    refine s_nil ⟨(H.pk [7]),?_⟩
    refine t_l2 rfl rfl ?_ ?_
    ·skip
     obtain ⟨eK,ce,hM⟩:=M.e_bind hM;refine s_call cf13 [.agg #[aF,aG,aH,aI,I aq,I au,aJ]] rfl (zap aM aN aO aP aq au aQ (aT.app _) aU (aV.app _) aW (aX.app _) aY (aZ.app _) a6 (av.app _) a7 ce _ (H.gt 8)) ?_
     rintro vq eL ⟨aw,ax,ay,az,ab,ac,aA,ae,ag,ah,ai,aj,aB,aC,rfl,hvq,aa,bV⟩
     subst vq;(try dsimp only at hM);replace H:=H.bk aa;clear aa
     have eM:=Sl.cells (H.os 0)
     have eN:=Sl.oc (H.os 0)
     have eO:=Sl.cells (H.os 1)
     have eP:=Sl.oc (H.os 1)
     have eQ:=Sl.cells (H.os 2)
     have eR:=Sl.oc (H.os 2)
     have eS:=Sl.cells (H.os 3)
     have eT:=Sl.oc (H.os 3)
     have eU:=Sl.cells (H.os 4)
     have eV:=Sl.oc (H.os 4)
     refine s_nil ⟨(H.pk [13]),?_⟩
     refine t_l rfl ?_;refine t_alloc (cs:=[.slice none 0 0,.slice none 0 0,.slice none 0 0,.slice none 0 0,I 0,I 0,.slice none 0 0]) H Al53 rfl ?_;intro aL eW H
     refine s_nil ⟨(H.pk [14]),?_⟩
     refine t_l rfl ?_;refine t_sw 13 0 [ak,al,am,ao,I r4,I r5,ap] (.agg #[ak,al,am,ao,I r4,I r5,ap]) H rfl rfl Sz29 rfl rfl rfl (by simp only [List.all_cons,List.all_nil,Bool.true_and,Bool.and_true,Sl.oc (H.os 7),Sl.oc (H.os 8),Sl.oc (H.os 9),Sl.oc (H.os 10),Sl.oc (rowSl rfl (H.get (k:=11) rfl) (roLe _ (H.get (k:=12) rfl)) bB)]; try rfl) ?_;intro eX H
     refine s_nil ⟨(H.pk [14]),?_⟩
     refine t_l rfl ?_;refine t_sw 0 0 [ae,ag,ah,ai,I ab,I ac,aj] (.agg #[ae,ag,ah,ai,I ab,I ac,aj]) H rfl rfl Sz53 rfl rfl rfl (by simp only [List.all_cons,List.all_nil,Bool.true_and,Bool.and_true,Sl.oc (H.os 1),Sl.oc (H.os 2),Sl.oc (H.os 3),Sl.oc (H.os 4),Sl.oc (rowSl rfl (H.get (k:=5) rfl) (Cells.sup_le (av.at H) (roLe _ (H.get (k:=6) rfl))) bV)]; try rfl) ?_;intro eY H
     refine s_nil ⟨(H.pk [14]),?_⟩
     refine t_nil ?_
     exact ⟨aK,aL,r0,r1,aD,aE,r4,r5,r6,aw,ax,ay,az,ab,ac,aA,ae,ag,ah,ai,aj,ak,al,am,ao,ap,aB,aC,aR,aS,_,upds_of _ _ ⟨rfl,rfl,rfl,rfl,rfl,rfl,trivial⟩,hM,(H.pk [0,13,1,2,3,4,5,6,7,8,9,10,11,12,14]),bV,bB⟩
    skip
    refine t_alloc (cs:=[.slice none 0 0,.slice none 0 0,.slice none 0 0,.slice none 0 0,I 0,I 0,.slice none 0 0]) H Al53 rfl ?_;intro aL eZ H
    refine s_nil ⟨(H.pk [8]),?_⟩
    refine t_l rfl ?_;obtain ⟨e0,cf,hM⟩:=M.e_bind hM;refine s_call cf13 [.agg #[aF,aG,aH,aI,I aq,I au,aJ]] rfl (zap aM aN aO aP aq au aQ (aT.app _) aU (aV.app _) aW (aX.app _) aY (aZ.app _) a6 (av.app _) a7 cf _ (H.gt 9)) ?_
    rintro vq e4 ⟨aw,ax,ay,az,ab,ac,aA,ae,ag,ah,ai,aj,aB,aC,rfl,hvq,aa,bW⟩
    subst vq;(try dsimp only at hM);replace H:=H.bk aa;clear aa
    have e6:=Sl.cells (H.os 0)
    have e7:=Sl.oc (H.os 0)
    have e8:=Sl.cells (H.os 1)
    have e9:=Sl.oc (H.os 1)
    have fa:=Sl.cells (H.os 2)
    have fb:=Sl.oc (H.os 2)
    have fd:=Sl.cells (H.os 3)
    have fe:=Sl.oc (H.os 3)
    have ff:=Sl.cells (H.os 4)
    have fg:=Sl.oc (H.os 4)
    refine s_nil ⟨(H.pk [14]),?_⟩
    refine t_l rfl ?_;refine t_sw 13 0 [ak,al,am,ao,I r4,I r5,ap] (.agg #[ak,al,am,ao,I r4,I r5,ap]) H rfl rfl Sz29 rfl rfl rfl (by simp only [List.all_cons,List.all_nil,Bool.true_and,Bool.and_true,Sl.oc (H.os 7),Sl.oc (H.os 8),Sl.oc (H.os 9),Sl.oc (H.os 10),Sl.oc (rowSl rfl (H.get (k:=11) rfl) (roLe _ (H.get (k:=12) rfl)) bB)]; try rfl) ?_;intro fh H
    refine s_nil ⟨(H.pk [14]),?_⟩
    refine t_l rfl ?_;refine t_sw 6 0 [ae,ag,ah,ai,I ab,I ac,aj] (.agg #[ae,ag,ah,ai,I ab,I ac,aj]) H rfl rfl Sz53 rfl rfl rfl (by simp only [List.all_cons,List.all_nil,Bool.true_and,Bool.and_true,Sl.oc (H.os 0),Sl.oc (H.os 1),Sl.oc (H.os 2),Sl.oc (H.os 3),Sl.oc (rowSl rfl (H.get (k:=4) rfl) (Cells.sup_le (av.at H) (roLe _ (H.get (k:=5) rfl))) bW)]; try rfl) ?_;intro fi H
    refine s_nil ⟨(H.pk [14]),?_⟩
    refine t_nil ?_
    exact ⟨aK,aL,r0,r1,aD,aE,r4,r5,r6,aw,ax,ay,az,ab,ac,aA,ae,ag,ah,ai,aj,ak,al,am,ao,ap,aB,aC,aR,aS,_,upds_of _ _ ⟨rfl,rfl,rfl,rfl,rfl,rfl,trivial⟩,hM,(H.pk [6,13,0,1,2,3,4,5,7,8,9,10,11,12,14]),bW,bB⟩
   skip
   refine t_alloc (cs:=[.slice none 0 0,.slice none 0 0,.slice none 0 0,.slice none 0 0,I 0,I 0,.slice none 0 0]) H Al53 rfl ?_;intro aL fj H
   refine s_nil ⟨(H.pk [2]),?_⟩
   refine t_l rfl ?_;obtain ⟨fk,cg,hM⟩:=M.e_bind hM;refine s_call cf12 [.agg #[aF,aG,aH,aI,I aq,I au,aJ]] rfl (zaF aM aN aO aP aq au aQ (aT.app _) aU (aV.app _) aW (aX.app _) aY (aZ.app _) a6 (av.app _) a7 cg _ (H.gt 3)) ?_
   rintro vq fl ⟨r0,r1,aD,aE,r4,r5,r6,ak,al,am,ao,ap,aR,aS,rfl,hvq,aa,bX⟩
   subst vq;(try dsimp only at hM);replace H:=H.bk aa;clear aa
   have fm:=Sl.cells (H.os 0)
   have fo:=Sl.oc (H.os 0)
   have fp:=Sl.cells (H.os 1)
   have fq:=Sl.oc (H.os 1)
   have fu:=Sl.cells (H.os 2)
   have fv:=Sl.oc (H.os 2)
   have fw:=Sl.cells (H.os 3)
   have fx:=Sl.oc (H.os 3)
   have fy:=Sl.cells (H.os 4)
   have fA:=Sl.oc (H.os 4)
   refine s_nil ⟨(H.pk [8]),?_⟩
   refine t_l rfl ?_;obtain ⟨fB,ci,hM⟩:=M.e_bind hM;refine s_call cf13 [.agg #[aF,aG,aH,aI,I aq,I au,aJ]] rfl (zap aM aN aO aP aq au aQ (aT.app _) aU (aV.app _) aW (aX.app _) aY (aZ.app _) a6 (av.app _) a7 ci _ (H.gt 9)) ?_
   rintro vq fC ⟨aw,ax,ay,az,ab,ac,aA,ae,ag,ah,ai,aj,aB,aC,rfl,hvq,aa,bY⟩
   subst vq;(try dsimp only at hM);replace H:=H.bk aa;clear aa
   have fD:=Sl.cells (H.os 0)
   have fE:=Sl.oc (H.os 0)
   have fG:=Sl.cells (H.os 1)
   have fH:=Sl.oc (H.os 1)
   have fI:=Sl.cells (H.os 2)
   have fJ:=Sl.oc (H.os 2)
   have fK:=Sl.cells (H.os 3)
   have fL:=Sl.oc (H.os 3)
   have fM:=Sl.cells (H.os 4)
   have fN:=Sl.oc (H.os 4)
   refine s_nil ⟨(H.pk [14]),?_⟩
   refine t_l rfl ?_;refine t_sw 13 0 [ak,al,am,ao,I r4,I r5,ap] (.agg #[ak,al,am,ao,I r4,I r5,ap]) H rfl rfl Sz29 rfl rfl rfl (by simp only [List.all_cons,List.all_nil,Bool.true_and,Bool.and_true,Sl.oc (H.os 6),Sl.oc (H.os 7),Sl.oc (H.os 8),Sl.oc (H.os 9),Sl.oc (rowSl rfl (H.get (k:=10) rfl) (roLe _ (H.get (k:=11) rfl)) bX)]; try rfl) ?_;intro fO H
   refine s_nil ⟨(H.pk [14]),?_⟩
   refine t_l rfl ?_;refine t_sw 12 0 [ae,ag,ah,ai,I ab,I ac,aj] (.agg #[ae,ag,ah,ai,I ab,I ac,aj]) H rfl rfl Sz53 rfl rfl rfl (by simp only [List.all_cons,List.all_nil,Bool.true_and,Bool.and_true,Sl.oc (H.os 0),Sl.oc (H.os 1),Sl.oc (H.os 2),Sl.oc (H.os 3),Sl.oc (rowSl rfl (H.get (k:=4) rfl) (Cells.sup_le (av.at H) (roLe _ (H.get (k:=5) rfl))) bY)]; try rfl) ?_;intro fP H
   refine s_nil ⟨(H.pk [14]),?_⟩
   refine t_nil ?_
   exact ⟨aK,aL,r0,r1,aD,aE,r4,r5,r6,aw,ax,ay,az,ab,ac,aA,ae,ag,ah,ai,aj,ak,al,am,ao,ap,aB,aC,aR,aS,_,upds_of _ _ ⟨rfl,rfl,rfl,rfl,rfl,rfl,trivial⟩,hM,(H.pk [12,13,0,1,2,3,4,5,6,7,8,9,10,11,14]),bY,bX⟩
  skip
  refine t_alloc (cs:=[.slice none 0 0,.slice none 0 0,.slice none 0 0,.slice none 0 0,I 0,I 0,.slice none 0 0]) H Al53 rfl ?_;intro aL fQ H
  refine s_nil ⟨(H.pk [1]),?_⟩
  refine t_l2 rfl rfl ?_ ?_
  ·skip
   obtain ⟨fR,cj,hM⟩:=M.e_bind hM;refine s_call cf12 [.agg #[aF,aG,aH,aI,I aq,I au,aJ]] rfl (zaF aM aN aO aP aq au aQ (aT.app _) aU (aV.app _) aW (aX.app _) aY (aZ.app _) a6 (av.app _) a7 cj _ (H.gt 2)) ?_
   rintro vq fS ⟨r0,r1,aD,aE,r4,r5,r6,ak,al,am,ao,ap,aR,aS,rfl,hvq,aa,bC⟩
   subst vq;(try dsimp only at hM);replace H:=H.bk aa;clear aa
   have fU:=Sl.cells (H.os 0)
   have fV:=Sl.oc (H.os 0)
   have fW:=Sl.cells (H.os 1)
   have fX:=Sl.oc (H.os 1)
   have fY:=Sl.cells (H.os 2)
   have fZ:=Sl.oc (H.os 2)
   have f0:=Sl.cells (H.os 3)
   have f1:=Sl.oc (H.os 3)
   have f2:=Sl.cells (H.os 4)
   have f4:=Sl.oc (H.os 4)
   refine s_nil ⟨(H.pk [7]),?_⟩
   refine t_l2 rfl rfl ?_ ?_
   ·skip
    obtain ⟨f6,ck,hM⟩:=M.e_bind hM;refine s_call cf13 [.agg #[aF,aG,aH,aI,I aq,I au,aJ]] rfl (zap aM aN aO aP aq au aQ (aT.app _) aU (aV.app _) aW (aX.app _) aY (aZ.app _) a6 (av.app _) a7 ck _ (H.gt 8)) ?_
    rintro vq f9 ⟨aw,ax,ay,az,ab,ac,aA,ae,ag,ah,ai,aj,aB,aC,rfl,hvq,aa,bZ⟩
    subst vq;(try dsimp only at hM);replace H:=H.bk aa;clear aa
    have ga:=Sl.cells (H.os 0)
    have gc:=Sl.oc (H.os 0)
    have gf:=Sl.cells (H.os 1)
    have gg:=Sl.oc (H.os 1)
    have gh:=Sl.cells (H.os 2)
    have gj:=Sl.oc (H.os 2)
    have gk:=Sl.cells (H.os 3)
    have gl:=Sl.oc (H.os 3)
    have gm:=Sl.cells (H.os 4)
    have gn:=Sl.oc (H.os 4)
    refine s_nil ⟨(H.pk [13]),?_⟩
    refine t_l rfl ?_;refine t_alloc (cs:=[.slice none 0 0,.slice none 0 0,.slice none 0 0,.slice none 0 0,I 0,I 0,.slice none 0 0]) H Al29 rfl ?_;intro aK gp H
    refine s_nil ⟨(H.pk [14]),?_⟩
    refine t_l rfl ?_;refine t_sw 0 0 [ak,al,am,ao,I r4,I r5,ap] (.agg #[ak,al,am,ao,I r4,I r5,ap]) H rfl rfl Sz29 rfl rfl rfl (by simp only [List.all_cons,List.all_nil,Bool.true_and,Bool.and_true,Sl.oc (H.os 7),Sl.oc (H.os 8),Sl.oc (H.os 9),Sl.oc (H.os 10),Sl.oc (rowSl rfl (H.get (k:=11) rfl) (roLe _ (H.get (k:=12) rfl)) bC)]; try rfl) ?_;intro gq H
    refine s_nil ⟨(H.pk [14]),?_⟩
    refine t_l rfl ?_;refine t_sw 13 0 [ae,ag,ah,ai,I ab,I ac,aj] (.agg #[ae,ag,ah,ai,I ab,I ac,aj]) H rfl rfl Sz53 rfl rfl rfl (by simp only [List.all_cons,List.all_nil,Bool.true_and,Bool.and_true,Sl.oc (H.os 1),Sl.oc (H.os 2),Sl.oc (H.os 3),Sl.oc (H.os 4),Sl.oc (rowSl rfl (H.get (k:=5) rfl) (Cells.sup_le (av.at H) (roLe _ (H.get (k:=6) rfl))) bZ)]; try rfl) ?_;intro gr H
    refine s_nil ⟨(H.pk [14]),?_⟩
    refine t_nil ?_
    exact ⟨aK,aL,r0,r1,aD,aE,r4,r5,r6,aw,ax,ay,az,ab,ac,aA,ae,ag,ah,ai,aj,ak,al,am,ao,ap,aB,aC,aR,aS,_,upds_of _ _ ⟨rfl,rfl,rfl,rfl,rfl,rfl,trivial⟩,hM,(H.pk [13,0,1,2,3,4,5,6,7,8,9,10,11,12,14]),bZ,bC⟩
   skip
   refine t_alloc (cs:=[.slice none 0 0,.slice none 0 0,.slice none 0 0,.slice none 0 0,I 0,I 0,.slice none 0 0]) H Al29 rfl ?_;intro aK gu H
   refine s_nil ⟨(H.pk [8]),?_⟩
   refine t_l rfl ?_;obtain ⟨gv,cm,hM⟩:=M.e_bind hM;refine s_call cf13 [.agg #[aF,aG,aH,aI,I aq,I au,aJ]] rfl (zap aM aN aO aP aq au aQ (aT.app _) aU (aV.app _) aW (aX.app _) aY (aZ.app _) a6 (av.app _) a7 cm _ (H.gt 9)) ?_
   rintro vq gw ⟨aw,ax,ay,az,ab,ac,aA,ae,ag,ah,ai,aj,aB,aC,rfl,hvq,aa,b0⟩
   subst vq;(try dsimp only at hM);replace H:=H.bk aa;clear aa
   have gx:=Sl.cells (H.os 0)
   have gy:=Sl.oc (H.os 0)
   have gz:=Sl.cells (H.os 1)
   have gA:=Sl.oc (H.os 1)
   have gB:=Sl.cells (H.os 2)
   have gC:=Sl.oc (H.os 2)
   have gD:=Sl.cells (H.os 3)
   have gE:=Sl.oc (H.os 3)
   have gF:=Sl.cells (H.os 4)
   have gG:=Sl.oc (H.os 4)
   refine s_nil ⟨(H.pk [14]),?_⟩
   refine t_l rfl ?_;refine t_sw 6 0 [ak,al,am,ao,I r4,I r5,ap] (.agg #[ak,al,am,ao,I r4,I r5,ap]) H rfl rfl Sz29 rfl rfl rfl (by simp only [List.all_cons,List.all_nil,Bool.true_and,Bool.and_true,Sl.oc (H.os 7),Sl.oc (H.os 8),Sl.oc (H.os 9),Sl.oc (H.os 10),Sl.oc (rowSl rfl (H.get (k:=11) rfl) (roLe _ (H.get (k:=12) rfl)) bC)]; try rfl) ?_;intro gH H
   refine s_nil ⟨(H.pk [14]),?_⟩
   refine t_l rfl ?_;refine t_sw 13 0 [ae,ag,ah,ai,I ab,I ac,aj] (.agg #[ae,ag,ah,ai,I ab,I ac,aj]) H rfl rfl Sz53 rfl rfl rfl (by simp only [List.all_cons,List.all_nil,Bool.true_and,Bool.and_true,Sl.oc (H.os 0),Sl.oc (H.os 1),Sl.oc (H.os 2),Sl.oc (H.os 3),Sl.oc (rowSl rfl (H.get (k:=4) rfl) (Cells.sup_le (av.at H) (roLe _ (H.get (k:=5) rfl))) b0)]; try rfl) ?_;intro gI H
   refine s_nil ⟨(H.pk [14]),?_⟩
   refine t_nil ?_
   exact ⟨aK,aL,r0,r1,aD,aE,r4,r5,r6,aw,ax,ay,az,ab,ac,aA,ae,ag,ah,ai,aj,ak,al,am,ao,ap,aB,aC,aR,aS,_,upds_of _ _ ⟨rfl,rfl,rfl,rfl,rfl,rfl,trivial⟩,hM,(H.pk [13,6,0,1,2,3,4,5,7,8,9,10,11,12,14]),b0,bC⟩
  skip
  refine t_alloc (cs:=[.slice none 0 0,.slice none 0 0,.slice none 0 0,.slice none 0 0,I 0,I 0,.slice none 0 0]) H Al29 rfl ?_;intro aK gJ H
  refine s_nil ⟨(H.pk [2]),?_⟩
  refine t_l rfl ?_;obtain ⟨gK,cn,hM⟩:=M.e_bind hM;refine s_call cf12 [.agg #[aF,aG,aH,aI,I aq,I au,aJ]] rfl (zaF aM aN aO aP aq au aQ (aT.app _) aU (aV.app _) aW (aX.app _) aY (aZ.app _) a6 (av.app _) a7 cn _ (H.gt 3)) ?_
  rintro vq gL ⟨r0,r1,aD,aE,r4,r5,r6,ak,al,am,ao,ap,aR,aS,rfl,hvq,aa,b1⟩
  subst vq;(try dsimp only at hM);replace H:=H.bk aa;clear aa
  have gM:=Sl.cells (H.os 0)
  have gN:=Sl.oc (H.os 0)
  have gO:=Sl.cells (H.os 1)
  have gP:=Sl.oc (H.os 1)
  have gQ:=Sl.cells (H.os 2)
  have gR:=Sl.oc (H.os 2)
  have gS:=Sl.cells (H.os 3)
  have gT:=Sl.oc (H.os 3)
  have gU:=Sl.cells (H.os 4)
  have gV:=Sl.oc (H.os 4)
  refine s_nil ⟨(H.pk [8]),?_⟩
  refine t_l rfl ?_;obtain ⟨gW,co,hM⟩:=M.e_bind hM;refine s_call cf13 [.agg #[aF,aG,aH,aI,I aq,I au,aJ]] rfl (zap aM aN aO aP aq au aQ (aT.app _) aU (aV.app _) aW (aX.app _) aY (aZ.app _) a6 (av.app _) a7 co _ (H.gt 9)) ?_
  rintro vq gX ⟨aw,ax,ay,az,ab,ac,aA,ae,ag,ah,ai,aj,aB,aC,rfl,hvq,aa,b2⟩
  subst vq;(try dsimp only at hM);replace H:=H.bk aa;clear aa
  have gY:=Sl.cells (H.os 0)
  have gZ:=Sl.oc (H.os 0)
  have g0:=Sl.cells (H.os 1)
  have g1:=Sl.oc (H.os 1)
  have g2:=Sl.cells (H.os 2)
  have g3:=Sl.oc (H.os 2)
  have g4:=Sl.cells (H.os 3)
  have g5:=Sl.oc (H.os 3)
  have g6:=Sl.cells (H.os 4)
  have g7:=Sl.oc (H.os 4)
  refine s_nil ⟨(H.pk [14]),?_⟩
  refine t_l rfl ?_;refine t_sw 12 0 [ak,al,am,ao,I r4,I r5,ap] (.agg #[ak,al,am,ao,I r4,I r5,ap]) H rfl rfl Sz29 rfl rfl rfl (by simp only [List.all_cons,List.all_nil,Bool.true_and,Bool.and_true,Sl.oc (H.os 6),Sl.oc (H.os 7),Sl.oc (H.os 8),Sl.oc (H.os 9),Sl.oc (rowSl rfl (H.get (k:=10) rfl) (roLe _ (H.get (k:=11) rfl)) b1)]; try rfl) ?_;intro g8 H
  refine s_nil ⟨(H.pk [14]),?_⟩
  refine t_l rfl ?_;refine t_sw 13 0 [ae,ag,ah,ai,I ab,I ac,aj] (.agg #[ae,ag,ah,ai,I ab,I ac,aj]) H rfl rfl Sz53 rfl rfl rfl (by simp only [List.all_cons,List.all_nil,Bool.true_and,Bool.and_true,Sl.oc (H.os 0),Sl.oc (H.os 1),Sl.oc (H.os 2),Sl.oc (H.os 3),Sl.oc (rowSl rfl (H.get (k:=4) rfl) (Cells.sup_le (av.at H) (roLe _ (H.get (k:=5) rfl))) b2)]; try rfl) ?_;intro g9 H
  refine s_nil ⟨(H.pk [14]),?_⟩
  refine t_nil ?_
  exact ⟨aK,aL,r0,r1,aD,aE,r4,r5,r6,aw,ax,ay,az,ab,ac,aA,ae,ag,ah,ai,aj,ak,al,am,ao,ap,aB,aC,aR,aS,_,upds_of _ _ ⟨rfl,rfl,rfl,rfl,rfl,rfl,trivial⟩,hM,(H.pk [13,12,0,1,2,3,4,5,6,7,8,9,10,11,14]),b2,b1⟩
 rintro _ hG ⟨aK,aL,r0,r1,aD,aE,r4,r5,r6,aw,ax,ay,az,ab,ac,aA,ae,ag,ah,ai,aj,ak,al,am,ao,ap,aB,aC,aR,aS,ρ,rfl,hM,H,bD,bw⟩
 unfold zcl at hM
 refine kg 2 ?_;refine W.draw (fun W=>St w W [cBlk aL [ae,ag,ah,ai,I ab,I ac,aj] 53,cBlk aK [ak,al,am,ao,I r4,I r5,ap] 29,cOwn (α:=Int) 3 ae aw,cOwn (α:=Span) 26 ag ax,cOwn (α:=Int) 3 ah ay,cOwn (α:=Town) 105 ai az,cOwn (α:=Raw 1) 106 aj aB,cRo aC,cOwn (α:=Int) 3 ak r0,cOwn (α:=Span) 26 al r1,cOwn (α:=Int) 3 am aD,cOwn (α:=Town) 36 ao aE,cOwn (α:=Raw 1) 38 ap aR,cRo aS,cBlk bz [aF,aG,aH,aI,I aq,I au,aJ] 29] R) [(0,true),(2,true),(1,false),(3,false),(4,true)] mixed (by decide +kernel) rfl ?_;intro hJ bv;replace H:=H.ext bv;clear bv
 refine ⟨(H.pk [0,1,2,3,4,5,6,7,8,9,10,11,12,13,14]),?_⟩
 refine kg 2 ?_;refine d_l rfl ?_;obtain ⟨hP,cp,hM⟩:=M.e_bind hM;refine s_call cf9 [.agg #[ak,al,am,ao,I r4,I r5,ap]] rfl (zaK r0 r1 aD aE r4 r5 r6 (rdo 8) (H.os 8) (rdo 9) (H.os 9) (rdo 10) (H.os 10) (rdo 11) (H.os 11) (Reads.sup (rdo 12) (Reads.of (k:=13) rfl roLe)) (rowSl rfl (H.get (k:=12) rfl) (roLe _ (H.get (k:=13) rfl)) bw) cp _ (H.gt 15)) ?_
 rintro vq hX ⟨r7,rfl,hvq,aa⟩
 subst vq;(try dsimp only at hM);replace H:=H.bk aa;clear aa
 refine s_nil ⟨(H.pk [0,1,2,3,4,5,6,7,8,9,10,11,12,13,14]),?_⟩
 refine d_l rfl ?_;obtain ⟨hZ,cq,hM⟩:=M.e_bind hM;refine s_call cf14 [.agg #[ae,ag,ah,ai,I ab,I ac,aj]] rfl (zav aw ax ay az ab ac aA (rdo 2) (H.os 2) (rdo 3) (H.os 3) (rdo 4) (H.os 4) (rdo 5) (H.os 5) (Reads.sup (rdo 6) (Reads.sup (av.app _) (Reads.of (k:=7) rfl roLe))) (rowSl rfl (H.get (k:=6) rfl) (Cells.sup_le (av.at H) (roLe _ (H.get (k:=7) rfl))) bD) cq _ (H.gt 15)) ?_
 rintro vq h9 ⟨r8,rfl,hvq,aa⟩
 subst vq;(try dsimp only at hM);replace H:=H.bk aa;clear aa
 refine s_nil ⟨(H.pk [0,1,2,3,4,5,6,7,8,9,10,11,12,13,14]),?_⟩
 refine kg 2 ?_
 refine W.cond (r7 != r8) rfl (fun bn=>?_) (fun bn=>?_)
 ·replace hM:=M.e_t hM bn
  replace bn:=dI bn
  refine kg 4 ?_;replace H:=H.pk [];refine W.ret ?_
  have ba:=M.e_pure hM
  exact ⟨_,resE_tmp rfl,⟨false,ba,rfl,H⟩⟩
 replace hM:=M.e_f hM bn
 replace bn:=dI bn
 refine kg 5 ?_;obtain ⟨ia,cr,hM⟩:=M.e_bind hM;refine s_call cf15 [.agg #[ak,al,am,ao,I r4,I r5,ap],I a8] rfl (zfa r0 r1 aD aE r4 r5 r6 a8 (rdo 8) (H.os 8) (rdo 9) (H.os 9) (rdo 10) (H.os 10) (rdo 11) (H.os 11) (Reads.sup (rdo 12) (Reads.of (k:=13) rfl roLe)) (rowSl rfl (H.get (k:=12) rfl) (roLe _ (H.get (k:=13) rfl)) bw) cr _ (H.gt 15)) ?_
 rintro vq ib ⟨ct,bE,b3,rfl,hvq,aa⟩
 subst vq;(try dsimp only at hM);replace H:=H.bk aa;clear aa;refine kg 10 ?_;obtain ⟨ic,cu,hM⟩:=M.e_bind hM;refine s_call cf16 [.agg #[ae,ag,ah,ai,I ab,I ac,aj],I a8] rfl (ze2 aw ax ay az ab ac aA a8 (rdo 3) (H.os 3) (rdo 4) (H.os 4) (rdo 5) (H.os 5) (rdo 6) (H.os 6) (Reads.sup (rdo 7) (Reads.sup (av.app _) (Reads.of (k:=8) rfl roLe))) (rowSl rfl (H.get (k:=7) rfl) (Cells.sup_le (av.at H) (roLe _ (H.get (k:=8) rfl))) bD) cu _ (H.gt 16)) ?_
 rintro vq ie ⟨cv,bF,b4,rfl,hvq,aa⟩
 subst vq;(try dsimp only at hM);replace H:=H.bk aa;clear aa;refine kg 15 ?_;obtain ⟨r9,cw,hM⟩:=M.e_bind hM;refine t_gcall (!(bE != bF)) (gy_f rfl) cf17 (B r9) (fun _=>[b3,b4]) (fun hg=>lst2 (gd_of hg (b3)) (gd_of hg (b4))) H (fun hg=>(zaf ct cv (rdo 1) (H.os 1) (rdo 0) (H.os 0) (M.e_opt cw hg) _ (H.give (A:=[]) rfl)).mono fun v_ w_ ⟨y_,ba,bx,H_⟩=>by subst ba; exact ⟨bx,H.via H_⟩) ?_;intro ig H;refine kg 1 ?_;refine s_val (x_por (b:=bE != bF) (r:=!r9) rfl rfl (fun hb=>gd_of (c:=!(bE != bF)) (by first | exact hb | (rw [hb]; rfl) | simp_all) (B (!r9))))<|s_nil ?_;replace H:=H.pk [2,3,4,5,6,7,8,9,10,11,12,13,14,15,16]
 refine W.cond ((bE != bF)||(!r9)) rfl (fun bL=>?_) (fun bL=>?_)
 ·replace hM:=M.e_t hM bL;refine kg 4 ?_;replace H:=H.pk [];refine W.ret ?_
  have ba:=M.e_pure hM
  exact ⟨_,resE_tmp rfl,⟨false,ba,rfl,H⟩⟩
 replace hM:=M.e_f hM bL;refine kg 6 ?_;obtain ⟨ii,cx,hM⟩:=M.e_bind hM;refine s_call cf18 [.agg #[ak,al,am,ao,I r4,I r5,ap],I a8,I bm] rfl (zeG r0 r1 aD aE r4 r5 r6 a8 bm (rdo 8) (H.os 8) (rdo 9) (H.os 9) (rdo 10) (H.os 10) (rdo 11) (H.os 11) (Reads.sup (rdo 12) (Reads.of (k:=13) rfl roLe)) (rowSl rfl (H.get (k:=12) rfl) (roLe _ (H.get (k:=13) rfl)) bw) cx _ (H.gt 15)) ?_
 rintro vq ij ⟨bo,bp,bG,rfl,hvq,aa⟩
 subst vq;(try dsimp only at hM);replace H:=H.bk aa;clear aa;refine kg 3 ?_;refine t_alloc (cs:=[I 0,I 0]) H Al26 rfl ?_;intro ik il H;refine t_sw 0 0 [I bo,I bp] (.agg #[I bo,I bp]) H rfl rfl Sz26 rfl rfl rfl rfl ?_;intro im H;refine kg 7 ?_;obtain ⟨io,cy,hM⟩:=M.e_bind hM;refine s_call cf19 [.agg #[ae,ag,ah,ai,I ab,I ac,aj],I a8,I bm] rfl (zfp aw ax ay az ab ac aA a8 bm (rdo 3) (H.os 3) (rdo 4) (H.os 4) (rdo 5) (H.os 5) (rdo 6) (H.os 6) (Reads.sup (rdo 7) (Reads.sup (av.app _) (Reads.of (k:=8) rfl roLe))) (rowSl rfl (H.get (k:=7) rfl) (Cells.sup_le (av.at H) (roLe _ (H.get (k:=8) rfl))) bD) cy _ (H.gt 16)) ?_
 rintro vq ip ⟨br,bt,bH,rfl,hvq,aa⟩
 subst vq;(try dsimp only at hM);replace H:=H.bk aa;clear aa;refine kg 3 ?_;refine t_alloc (cs:=[I 0,I 0]) H Al26 rfl ?_;intro iq ir H;refine t_sw 0 0 [I br,I bt] (.agg #[I br,I bt]) H rfl rfl Sz26 rfl rfl rfl rfl ?_;intro iu H;refine kg 11 ?_;refine g_val (!(bG != bH)) (gy_f rfl) (fun hg=>x_neS (eqT26 (⟨(bo:Int),(bp:Int)⟩:Span) (⟨(br:Int),(bt:Int)⟩:Span) _) gdT26 (gd_of hg (.agg #[I bo,I bp])) (gd_of hg (.agg #[I br,I bt])))<|s_val (x_por (b:=bG != bH) (r:=!(decide ((⟨(bo:Int),(bp:Int)⟩:Span)=(⟨(br:Int),(bt:Int)⟩:Span)))) rfl rfl (fun hb=>gd_of (c:=!(bG != bH)) (by first | exact hb | (rw [hb]; rfl) | simp_all) (B (!(decide ((⟨(bo:Int),(bp:Int)⟩:Span)=(⟨(br:Int),(bt:Int)⟩:Span)))))))<|s_nil ?_
 refine W.cond ((bG != bH)||(!(decide ((⟨(bo:Int),(bp:Int)⟩:Span)=(⟨(br:Int),(bt:Int)⟩:Span))))) rfl (fun bM=>?_) (fun bM=>?_)
 ·replace hM:=M.e_t hM bM;refine kg 4 ?_;replace H:=H.pk [];refine W.ret ?_
  have ba:=M.e_pure hM
  exact ⟨_,resE_tmp rfl,⟨false,ba,rfl,H⟩⟩
 replace hM:=M.e_f hM bM;refine kg 6 ?_;obtain ⟨iw,cz,hM⟩:=M.e_bind hM;refine s_call cf20 [.agg #[ak,al,am,ao,I r4,I r5,ap],I a8,I town] rfl (zdx r0 r1 aD aE r4 r5 r6 a8 town (rdo 10) (H.os 10) (rdo 11) (H.os 11) (rdo 12) (H.os 12) (rdo 13) (H.os 13) (Reads.sup (rdo 14) (Reads.of (k:=15) rfl roLe)) (rowSl rfl (H.get (k:=14) rfl) (roLe _ (H.get (k:=15) rfl)) bw) cz _ (H.gt 17)) ?_
 rintro vq iy ⟨bb,bc,bi,rfl,hvq,aa⟩
 subst vq;(try dsimp only at hM);replace H:=H.bk aa;clear aa;refine kg 3 ?_;refine t_sw 1 0 [I bb,I bc] (.agg #[I bb,I bc]) H rfl rfl Sz26 rfl rfl rfl rfl ?_;intro iz H;refine kg 7 ?_;obtain ⟨iA,cA,hM⟩:=M.e_bind hM;refine s_call cf21 [.agg #[ae,ag,ah,ai,I ab,I ac,aj],I a8,I town] rfl (ze9 aw ax ay az ab ac aA a8 town (rdo 4) (H.os 4) (rdo 5) (H.os 5) (rdo 6) (H.os 6) (rdo 7) (H.os 7) (Reads.sup (rdo 8) (Reads.sup (av.app _) (Reads.of (k:=9) rfl roLe))) (rowSl rfl (H.get (k:=8) rfl) (Cells.sup_le (av.at H) (roLe _ (H.get (k:=9) rfl))) bD) cA _ (H.gt 17)) ?_
 rintro vq iB ⟨bf,bg,bj,rfl,hvq,aa⟩
 subst vq;(try dsimp only at hM);replace H:=H.bk aa;clear aa;refine kg 3 ?_;refine t_sw 0 0 [I bf,I bg] (.agg #[I bf,I bg]) H rfl rfl Sz26 rfl rfl rfl rfl ?_;intro iC H;refine kg 2 ?_;replace H:=H.pk [0,1,3,10,11,12,13,14,15,16];refine kg 8 ?_;refine g_val (bi==bj) (gy_t rfl) (fun hg=>x_eqS (eqT26 (⟨(bb:Int),(bc:Int)⟩:Span) (⟨(bf:Int),(bg:Int)⟩:Span) _) gdT26 (gd_of hg (.agg #[I bb,I bc])) (gd_of hg (.agg #[I bf,I bg])))<|s_val (x_pand (b:=bi==bj) (r:=decide ((⟨(bb:Int),(bc:Int)⟩:Span)=(⟨(bf:Int),(bg:Int)⟩:Span))) rfl (fun hb=>gd_of (c:=bi==bj) (by first | exact hb | (rw [hb]; rfl) | simp_all) (B (decide ((⟨(bb:Int),(bc:Int)⟩:Span)=(⟨(bf:Int),(bg:Int)⟩:Span))))) rfl) ?_;refine kg 3 ?_;obtain ⟨bu,cB,hM⟩:=M.e_bind hM;refine t_gcall ((bi==bj)&&(decide ((⟨(bb:Int),(bc:Int)⟩:Span)=(⟨(bf:Int),(bg:Int)⟩:Span)))) (gy_t rfl) cf22 (B bu) (fun _=>[.agg #[ak,al,am,ao,I r4,I r5,ap],.agg #[aF,aG,aH,aI,I aq,I au,aJ]]) (fun hg=>lst2 (gd_of hg (.agg #[ak,al,am,ao,I r4,I r5,ap])) (gd_of hg (.agg #[aF,aG,aH,aI,I aq,I au,aJ]))) H (fun hg=>(zcP r0 r1 aD aE r4 r5 r6 aM aN aO aP aq au aQ (rdo 3) (H.os 3) (rdo 4) (H.os 4) (rdo 5) (H.os 5) (rdo 6) (H.os 6) (Reads.sup (rdo 7) (Reads.of (k:=8) rfl roLe)) (rowSl rfl (H.get (k:=7) rfl) (roLe _ (H.get (k:=8) rfl)) bw) (aT.app _) aU (aV.app _) aW (aX.app _) aY (aZ.app _) a6 (av.app _) a7 (M.e_opt cB hg) _ (H.give (A:=[]) rfl)).mono fun v_ w_ ⟨y_,ba,bx,H_⟩=>by subst ba; exact ⟨bx,H.via H_⟩) ?_;intro iD H;refine s_val (x_pand (b:=((bi==bj)&&(decide ((⟨(bb:Int),(bc:Int)⟩:Span)=(⟨(bf:Int),(bg:Int)⟩:Span))))) (r:=bu) rfl (fun hb=>gd_of (c:=((bi==bj)&&(decide ((⟨(bb:Int),(bc:Int)⟩:Span)=(⟨(bf:Int),(bg:Int)⟩:Span))))) (by first | exact hb | (rw [hb]; rfl) | simp_all) (B bu)) rfl) ?_;refine kg 1 ?_;obtain ⟨bI,cC,hM⟩:=M.e_bind hM;refine t_gcall (((bi==bj)&&(decide ((⟨(bb:Int),(bc:Int)⟩:Span)=(⟨(bf:Int),(bg:Int)⟩:Span))))&&bu) (gy_t rfl) cf10 (B bI) (fun _=>[]) (fun _=>rfl) H (fun hg=>(zao (M.e_opt cC hg) _ (H.give (A:=[]) rfl)).mono fun v_ w_ ⟨y_,ba,bx,H_⟩=>by subst ba; exact ⟨bx,H.via H_⟩) ?_;intro iE H;refine s_val (x_pand (b:=(((bi==bj)&&(decide ((⟨(bb:Int),(bc:Int)⟩:Span)=(⟨(bf:Int),(bg:Int)⟩:Span))))&&bu)) (r:=bI) rfl (fun hb=>gd_of (c:=(((bi==bj)&&(decide ((⟨(bb:Int),(bc:Int)⟩:Span)=(⟨(bf:Int),(bg:Int)⟩:Span))))&&bu)) (by first | exact hb | (rw [hb]; rfl) | simp_all) (B bI)) rfl) ?_;refine kg 2 ?_;replace H:=H.pk [];refine W.ret ?_
 have ba:=M.e_pure hM
 exact ⟨_,resE_tmp rfl,⟨((((bi==bj)&&(decide ((⟨(bb:Int),(bc:Int)⟩:Span)=(⟨(bf:Int),(bg:Int)⟩:Span))))&&bu)&&bI),ba,rfl,H⟩⟩

end Go.Proofs.YtbldmjejckjflabGreat
end
section
set_option maxRecDepth 100000
set_option maxHeartbeats 16000000
namespace Go.Proofs.YtbldmjejckjflabGreat
open Go Go.Nm
attribute [local irreducible] gd execOp SL SLD SLT WR
def zdD (l:List Dem):M (List Dem) :=
  M.grd (decide ((([]:List Dem).length+l.length)*16<=140737488355328)) <|
  M.pure l
theorem zeS {R:List Chunk} {ab:Cells} {aa:Value} (l:List Dem) (ac:Reads R ab) (ae:Sl ab aa l) {r:(List Dem)} (hM:(zdD l).Ends r) (w:World) (H:St w w [] R):Ret Tryz.prog 24 #[aa] w fun v w'=>∃ (y0:List Dem) (u0:Value),y0=r/\v=u0/\St w w' [cOwn (α:=Dem) 32 u0 y0] R:=by
 refine ret_of_W Tryz.func24 rfl rfl rfl ?_;refine kg 12 ?_
 replace H:=H.nilOwn (α:=Dem) 32
 obtain ⟨ai,hM⟩:=M.e_gd hM;refine t_app (α:=Dem) (k:=0) (l:=[]) (l2:=l) (l':=l) (vy:=aa) T33 rfl H rfl rfl rfl ae (ac.at H) (List.nil_append _) (by first | omega | (simp only [List.length_nil] at *; omega)) ?_;intro ag aj H;replace H:=H.nf;refine kg 2 ?_;refine W.ret ?_
 have ah:=M.e_pure hM
 exact ⟨_,resE_tmp rfl,⟨l,ag,ah,rfl,H⟩⟩

def zdz (aa:List Int) (ab:List Span) (ac:List Int) (ae:List Town) (ah ai:Int) (ag:List Flood):M ((List Dem) × Int) :=
  M.bind (zat aa ab ac ae ah ai ag) fun x_=>match x_ with
  | (.inl r1)=>(
  bif r1 != 0 then (
  M.pure (([]),r1))
  else (
  M.fail))
  | (.inr (aj,ak,al))=>(
  bif al != 0 then (
  M.fail)
  else (
  M.bind (zaY aa ab ac ae aj ak ag) fun r2 =>
  M.pure (r2,0)))
theorem zeD {R:List Chunk} {aw:Cells} {ah:Value} {ax:Cells} {ai:Value} {ay:Cells} {aj:Value} {az:Cells} {ak:Value} {aA:Cells} {al:Value} (am:List Int) (ao:List Span) (ap:List Int) (aq:List Town) (ab:Int) (ac:Int) (au:List Flood) (aB:Reads R aw) (aC:Sl aw ah am) (aD:Reads R ax) (aE:Sl ax ai ao) (aF:Reads R ay) (aG:Sl ay aj ap) (aH:Reads R az) (aI:Sl az ak aq) (aJ:Reads R aA) (aK:Sl aA al au) {r:((List Dem) × Int)} (hM:(zdz am ao ap aq ab ac au).Ends r) (w:World) (H:St w w [] R):Ret Tryz.prog 25 #[.agg #[ah,ai,aj,ak,I ab,I ac,al]] w fun v w'=>∃ (y0:List Dem) (y1:Int) (u0:Value),(y0,y1)=r/\v = .tuple #[u0,I y1]/\St w w' [cOwn (α:=Dem) 32 u0 y0] R:=by
 refine ret_of_W Tryz.func25 rfl rfl rfl ?_;refine kg 2 ?_;refine t_bx [ah,ai,aj,ak,I ab,I ac,al] H rfl ?_;intro aU aV H;refine kg 6 ?_;obtain ⟨aW,aL,hM⟩:=M.e_bind hM;refine s_call cf61 [.agg #[ah,ai,aj,ak,I ab,I ac,al]] rfl (zaw am ao ap aq ab ac au (aB.app _) aC (aD.app _) aE (aF.app _) aG (aH.app _) aI (aJ.app _) aK aL _ (H.gt 1)) ?_
 rintro vq aX (⟨r1,aM,hvq,aa⟩ | ⟨aN,aO,aP,aQ,aY,aZ,aR,hvq,aa⟩)
 ·subst aM;subst vq;(try dsimp only at hM);replace H:=H.bk aa;clear aa;refine kg 12 ?_
  refine W.cond (r1 != 0) rfl (fun ae=>?_) (fun ae=>?_)
  ·replace hM:=M.e_t hM ae
   replace ae:=dI ae
   refine kg 6 ?_;refine W.ret ?_
   have av:=M.e_pure hM
   replace H:=H.nilOwn (α:=Dem) 32
   exact ⟨_,resE_tmp2 rfl,⟨([]),r1,(.slice none 0 0),av,rfl,(H.pk [0])⟩⟩
  replace hM:=M.e_f hM ae
  exact (M.e_fail hM).elim
 subst aR;subst vq;(try dsimp only at hM);replace H:=H.bk aa;clear aa;refine kg 12 ?_
 refine W.cond (aP != 0) rfl (fun ag=>?_) (fun ag=>?_)
 ·replace hM:=M.e_t hM ag
  exact (M.e_fail hM).elim
 replace hM:=M.e_f hM ag
 replace ag:=dI ag
 refine kg 4 ?_;obtain ⟨a6,aS,hM⟩:=M.e_bind hM;refine s_call cf68 [Pq aQ] rfl (zbq am ao ap aq aN aO au (aB.app _) aC (aD.app _) aE (aF.app _) aG (aH.app _) aI (aJ.app _) aK (Has.here (k:=0) rfl) aS _ (H.gt 3)) ?_
 rintro vq a7 ⟨r2,aT,rfl,hvq,aa⟩
 subst vq;(try dsimp only at hM);replace H:=H.bk aa;clear aa;refine kg 3 ?_;replace H:=H.pk [0];refine W.ret ?_
 have av:=M.e_pure hM
 exact ⟨_,resE_tmp2 rfl,⟨r2,0,aT,av,rfl,H⟩⟩

def zbY (ac:List Int) (ae:List Span) (aa:List Int) (ab:List Town) (ag ah:Int) (ai:List Flood) (i:Nat):(Nat × (List Dem))->M ((Nat × (List Dem)) ⊕ ((List Dem) × (List Dem))):=fun (k,l4) =>
  bif decide ((k:Int)<(ab.length:Int)) then (
  M.grd (decide ((i:Int)<(aa.length:Int))) <|
  M.grd (decide ((k:Int)<(ab.length:Int))) <|
  M.bind (zaP ac ae aa ab ag ah ai (aa.getD i 0) ((ab.getD k default).station)) fun (aj,ak,r1) =>
  bif r1 then (
  M.grd (decide ((l4.length+([(⟨(aa.getD i 0:Int),(k:Int)⟩:Dem)]).length)*16<=140737488355328)) <|
  M.pure (.inl (k+1,l4++([(⟨(aa.getD i 0:Int),(k:Int)⟩:Dem)]))))
  else (
  M.pure (.inl (k+1,l4))))
  else (
  M.pure (.inr (l4,l4)))
def zcL (ab:List Int) (ac:List Span) (aa:List Int) (ae:List Town) (ag ah:Int) (ai:List Flood):(Nat × (List Dem))->M ((Nat × (List Dem)) ⊕ ((List Dem) × (List Dem))):=fun (i,l6) =>
  bif decide ((i:Int)<(aa.length:Int)) then (
  M.bind (M.iter (zbY ab ac aa ae ag ah ai i) (0,l6)) fun (l2,l5) =>
  M.pure (.inl (i+1,l5)))
  else (
  M.pure (.inr (l6,l6)))
def zbw (aa:List Int) (ab:List Span) (ac:List Int) (ae:List Town) (ag ah:Int) (ai:List Flood):M (List Dem) :=
  M.bind (M.iter (zcL aa ab ac ae ag ah ai) (0,[])) fun (l7,l8) =>
  M.pure l8
theorem zbB {R:List Chunk} {aK:Cells} {ag:Value} {aL:Cells} {ah:Value} {aM:Cells} {ai:Value} {aN:Cells} {aj:Value} {aO:Cells} {ak:Value} (ap:List Int) (aq:List Span) (aa:List Int) (ab:List Town) (ac:Int) (ae:Int) (au:List Flood) (aP:Reads R aK) (aQ:Sl aK ag ap) (aR:Reads R aL) (aS:Sl aL ah aq) (aT:Reads R aM) (aE:Sl aM ai aa) (aF:Reads R aN) (aB:Sl aN aj ab) (aU:Reads R aO) (aV:Sl aO ak au) {r:(List Dem)} (hM:(zbw ap aq aa ab ac ae au).Ends r) (w:World) (H:St w w [] R):Ret Tryz.prog 69 #[.agg #[ag,ah,ai,aj,I ac,I ae,ak]] w fun v w'=>∃ (y0:List Dem) (u0:Value),y0=r/\v=u0/\St w w' [cOwn (α:=Dem) 72 u0 y0] R:=by
 refine ret_of_W Tryz.func69 rfl rfl rfl ?_;refine kg 2 ?_;refine t_bx [ag,ah,ai,aj,I ac,I ae,ak] H rfl ?_;intro av bu H;refine kg 12 ?_
 replace H:=H.nilOwn (α:=Dem) 72
 obtain ⟨a6,aG,a7⟩:=M.e_bind hM
 obtain ⟨a8,aG⟩:=M.e_iter aG
 refine W.loop (fun m σ W=>∃ (i:Nat) (l6:List Dem) (aw:Value) (ρ:Env),σ=upds ρ [(1,Pq av),(3,aw),(4,I (i:Int))]/\M.iterN (zcL ap aq aa ab ac ae au) m (i,l6)=some a6/\St w W [cOwn (α:=Dem) 72 aw l6,cBlk av [ag,ah,ai,aj,I ac,I ae,ak] 53] R) ?_ ?_
 ·exact ⟨_,0,[],(.slice none 0 0),_,upds_of _ _ ⟨rfl,rfl,rfl,trivial⟩,aG,H⟩
 rintro bv σ bw ⟨i,l6,aw,ρ,rfl,aW,H⟩
 obtain ⟨ba,bb,bx,hM,aX⟩:=M.e_iterN aW
 simp only [zcL] at hM
 clear aW
 have bz:=(aE).len_le
 refine kg 9 ?_
 refine W.cond (decide ((i:Int)<(aa.length:Int))) rfl (fun al=>?_) (fun al=>?_)
 ·replace hM:=M.e_t hM al
  replace al:=dI al
  refine kg 8 ?_;obtain ⟨bc,aH,bf⟩:=M.e_bind hM
  obtain ⟨a8,aH⟩:=M.e_iter aH
  refine W.loop (fun m σ W=>∃ (k:Nat) (l4:List Dem) (am:Value) (ρ:Env),σ=upds ρ [(1,Pq av),(3,am),(4,I (i:Int)),(5,I (k:Int))]/\M.iterN (zbY ap aq aa ab ac ae au i) m (k,l4)=some bc/\St w W [cOwn (α:=Dem) 72 am l4,cBlk av [ag,ah,ai,aj,I ac,I ae,ak] 53] R) ?_ ?_
  ·exact ⟨_,0,l6,aw,_,upds_of _ _ ⟨rfl,rfl,rfl,rfl,trivial⟩,aH,H⟩
  rintro bA σ bB ⟨k,l4,am,ρ,rfl,aY,H⟩
  obtain ⟨aC,aD,bC,hM,ax⟩:=M.e_iterN aY
  simp only [zbY] at hM
  clear aY
  have bD:=(aB).len_le
  refine kg 9 ?_
  refine W.cond (decide ((k:Int)<(ab.length:Int))) rfl (fun ao=>?_) (fun ao=>?_)
  ·replace hM:=M.e_t hM ao
   replace ao:=dI ao
   refine kg 4 ?_;refine W.drawT (fun W=>St w W [cOwn (α:=Dem) 72 am l4,cBlk av [ag,ah,ai,aj,I ac,I ae,ak] 53] R) (.q 0 (.q 1 (.q 2 (.q 3 (.q 4 (.q 5 (.q 6 (.q 7 (.q 8 (.q 9 (.q 10 (.q 11 (.l2 12 (.q 13 (.q 14 (.q 15 (.l 16 (.l 17 (.q 18 .nil)))))) 16 (.l 12 (.q 13 (.q 14 (.q 15 (.l 17 (.q 18 .nil))))))))))))))))))) mixed (by decide +kernel) rfl ?_;intro bE aZ;replace H:=H.ext aZ;clear aZ
   refine ⟨(H.pk [0,1]),?_⟩
   obtain ⟨bF,hM⟩:=M.e_gd hM;obtain ⟨bG,hM⟩:=M.e_gd hM;refine kg 11 ?_;refine t_q rfl (fun w' H=>x_ld (v:=I ((ab.getD k default).station)) rfl (ld_sc Sc3 (At.mono (Town_at0 aB (i:=(k:Int)) (by omega) (by omega)) (aF.at H)))) ?_;refine t_l2 rfl rfl ?_ ?_
   ·skip
    obtain ⟨bH,bg,hM⟩:=M.e_bind hM;refine s_call cf64 [.agg #[ag,ah,ai,aj,I ac,I ae,ak],I (aa.getD i 0),I ((ab.getD k default).station)] rfl (zaz ap aq aa ab ac ae au (aa.getD i 0) ((ab.getD k default).station) (aP.app _) aQ (aR.app _) aS (aT.app _) aE (aF.app _) aB (aU.app _) aV bg _ (H.gt 2)) ?_
    rintro vq bI ⟨ay,az,r1,rfl,hvq,aA⟩
    subst vq;(try dsimp only at hM);replace H:=H.bk aA;clear aA
    refine s_nil ⟨(H.pk [0,1]),?_⟩
    refine kg 3 ?_;refine t_l rfl ?_;refine t_alloc (cs:=[I 0,I 0]) H Al26 rfl ?_;intro bh bJ H
    refine s_nil ⟨(H.pk [1,2]),?_⟩
    refine t_l rfl ?_;refine t_sw 0 0 [I ay,I az] (.agg #[I ay,I az]) H rfl rfl Sz26 rfl rfl rfl rfl ?_;intro bK H
    refine s_nil ⟨(H.pk [1,2]),?_⟩
    refine kg 6 ?_
    refine W.cond r1 rfl (fun aI=>?_) (fun aI=>?_)
    ·replace hM:=M.e_t hM aI;refine kg 8 ?_;refine s_val (x_bld (ps:=[(0,I (aa.getD i 0)),(1,I (k:Int))]) (zs:=[I 0,I 0]) (L':=[I (aa.getD i 0),I (k:Int)]) rfl Tryz.underlying72 Al72 rfl (Bd72 Tryz.underlying72) (.cons (cs:=[I (aa.getD i 0)]) rfl rfl rfl rfl rfl<|.cons (cs:=[I (k:Int)]) rfl rfl rfl rfl rfl<|.nil)) ?_;refine t_bs (α:=Dem) T68 [.agg #[I (aa.getD i 0),I (k:Int)]] [(⟨(aa.getD i 0:Int),(k:Int)⟩:Dem)] H rfl (.cons rfl (Flat.rep_enc _ (⟨(aa.getD i 0:Int),(k:Int)⟩:Dem))<|.nil) rfl rfl rfl ?_;intro bi bL H;obtain ⟨bM,hM⟩:=M.e_gd hM;refine t_app (α:=Dem) (k:=2) (l:=l4) (l2:=[(⟨(aa.getD i 0:Int),(k:Int)⟩:Dem)]) (l':=l4++([(⟨(aa.getD i 0:Int),(k:Int)⟩:Dem)])) (vy:=bi) T68 rfl H rfl rfl rfl (H.os 0) (H.ol 0) (rfl) (by first | omega | (simp only [List.length_nil] at *; omega)) ?_;intro bj bN H;replace H:=H.nf;refine kg 2 ?_;replace H:=H.pk [2,3];refine kg 5 ?_
     exact ⟨aC,aD,k+1,l4++([(⟨(aa.getD i 0:Int),(k:Int)⟩:Dem)]),bj,_,upds_of _ _ ⟨rfl,rfl,rfl,rfl,trivial⟩,M.e_inl hM ax,H⟩
    replace hM:=M.e_f hM aI;refine kg 6 ?_
    exact ⟨aC,aD,k+1,l4,am,_,upds_of _ _ ⟨rfl,rfl,rfl,rfl,trivial⟩,M.e_inl hM ax,(H.pk [1,2])⟩
   skip
   refine t_alloc (cs:=[I 0,I 0]) H Al26 rfl ?_;intro bh bO H
   refine s_nil ⟨(H.pk [1,2]),?_⟩
   refine t_l rfl ?_;obtain ⟨bP,bm,hM⟩:=M.e_bind hM;refine s_call cf64 [.agg #[ag,ah,ai,aj,I ac,I ae,ak],I (aa.getD i 0),I ((ab.getD k default).station)] rfl (zaz ap aq aa ab ac ae au (aa.getD i 0) ((ab.getD k default).station) (aP.app _) aQ (aR.app _) aS (aT.app _) aE (aF.app _) aB (aU.app _) aV bm _ (H.gt 3)) ?_
   rintro vq bQ ⟨ay,az,r1,rfl,hvq,aA⟩
   subst vq;(try dsimp only at hM);replace H:=H.bk aA;clear aA
   refine s_nil ⟨(H.pk [1,2]),?_⟩
   refine kg 3 ?_;refine t_l rfl ?_;refine t_sw 0 0 [I ay,I az] (.agg #[I ay,I az]) H rfl rfl Sz26 rfl rfl rfl rfl ?_;intro bR H
   refine s_nil ⟨(H.pk [1,2]),?_⟩
   refine kg 6 ?_
   refine W.cond r1 rfl (fun aJ=>?_) (fun aJ=>?_)
   ·replace hM:=M.e_t hM aJ;refine kg 8 ?_;refine s_val (x_bld (ps:=[(0,I (aa.getD i 0)),(1,I (k:Int))]) (zs:=[I 0,I 0]) (L':=[I (aa.getD i 0),I (k:Int)]) rfl Tryz.underlying72 Al72 rfl (Bd72 Tryz.underlying72) (.cons (cs:=[I (aa.getD i 0)]) rfl rfl rfl rfl rfl<|.cons (cs:=[I (k:Int)]) rfl rfl rfl rfl rfl<|.nil)) ?_;refine t_bs (α:=Dem) T68 [.agg #[I (aa.getD i 0),I (k:Int)]] [(⟨(aa.getD i 0:Int),(k:Int)⟩:Dem)] H rfl (.cons rfl (Flat.rep_enc _ (⟨(aa.getD i 0:Int),(k:Int)⟩:Dem))<|.nil) rfl rfl rfl ?_;intro bn bS H;obtain ⟨bT,hM⟩:=M.e_gd hM;refine t_app (α:=Dem) (k:=2) (l:=l4) (l2:=[(⟨(aa.getD i 0:Int),(k:Int)⟩:Dem)]) (l':=l4++([(⟨(aa.getD i 0:Int),(k:Int)⟩:Dem)])) (vy:=bn) T68 rfl H rfl rfl rfl (H.os 0) (H.ol 0) (rfl) (by first | omega | (simp only [List.length_nil] at *; omega)) ?_;intro bo bU H;replace H:=H.nf;refine kg 2 ?_;replace H:=H.pk [2,3];refine kg 5 ?_
    exact ⟨aC,aD,k+1,l4++([(⟨(aa.getD i 0:Int),(k:Int)⟩:Dem)]),bo,_,upds_of _ _ ⟨rfl,rfl,rfl,rfl,trivial⟩,M.e_inl hM ax,H⟩
   replace hM:=M.e_f hM aJ;refine kg 6 ?_
   exact ⟨aC,aD,k+1,l4,am,_,upds_of _ _ ⟨rfl,rfl,rfl,rfl,trivial⟩,M.e_inl hM ax,(H.pk [1,2])⟩
  replace hM:=M.e_f hM ao
  replace ao:=dI ao
  refine W.exit ?_
  have bp:=M.e_inr hM ax
  subst bp;replace hM:=bf;(try dsimp only at hM);refine kg 5 ?_
  exact ⟨ba,bb,i+1,l4,am,_,upds_of _ _ ⟨rfl,rfl,rfl,trivial⟩,M.e_inl hM aX,H⟩
 replace hM:=M.e_f hM al
 replace al:=dI al
 refine W.exit ?_
 have br:=M.e_inr hM aX
 subst br;replace hM:=a7;(try dsimp only at hM);refine kg 5 ?_;refine W.ret ?_
 have bt:=M.e_pure hM
 exact ⟨_,resE_tmp rfl,⟨l6,aw,bt,rfl,(H.pk [0])⟩⟩

def zd7 (aa:List Int) (ab:List Span) (ac:List Int) (ae:List Town) (ag ah:Int) (ai:List Flood):M ((List Dem) × Int) :=
  M.bind (zas aa ab ac ae ag ah ai) fun r2 =>
  bif r2 != 0 then (
  M.pure (([]),r2))
  else (
  M.bind (zbw aa ab ac ae ag ah ai) fun r3 =>
  M.pure (r3,0))
theorem zeX {R:List Chunk} {av:Cells} {ae:Value} {aw:Cells} {ag:Value} {ax:Cells} {ah:Value} {ay:Cells} {ai:Value} {az:Cells} {aj:Value} (al:List Int) (am:List Span) (ao:List Int) (ap:List Town) (aa:Int) (ab:Int) (aq:List Flood) (aA:Reads R av) (aB:Sl av ae al) (aC:Reads R aw) (aD:Sl aw ag am) (aE:Reads R ax) (aF:Sl ax ah ao) (aG:Reads R ay) (aH:Sl ay ai ap) (aI:Reads R az) (aJ:Sl az aj aq) {r:((List Dem) × Int)} (hM:(zd7 al am ao ap aa ab aq).Ends r) (w:World) (H:St w w [] R):Ret Tryz.prog 26 #[.agg #[ae,ag,ah,ai,I aa,I ab,aj]] w fun v w'=>∃ (y0:List Dem) (y1:Int) (u0:Value),(y0,y1)=r/\v = .tuple #[u0,I y1]/\St w w' [cOwn (α:=Dem) 72 u0 y0] R:=by
 refine ret_of_W Tryz.func26 rfl rfl rfl ?_;refine kg 2 ?_;refine t_bx [ae,ag,ah,ai,I aa,I ab,aj] H rfl ?_;intro aN aO H;refine kg 7 ?_;obtain ⟨aP,aK,hM⟩:=M.e_bind hM;refine s_call cf14 [.agg #[ae,ag,ah,ai,I aa,I ab,aj]] rfl (zav al am ao ap aa ab aq (aA.app _) aB (aC.app _) aD (aE.app _) aF (aG.app _) aH (aI.app _) aJ aK _ (H.gt 1)) ?_
 rintro vq aQ ⟨r2,rfl,hvq,ak⟩
 subst vq;(try dsimp only at hM);replace H:=H.bk ak;clear ak;refine kg 7 ?_
 refine W.cond (r2 != 0) rfl (fun ac=>?_) (fun ac=>?_)
 ·replace hM:=M.e_t hM ac
  replace ac:=dI ac
  refine kg 6 ?_;refine W.ret ?_
  have au:=M.e_pure hM
  replace H:=H.nilOwn (α:=Dem) 72
  exact ⟨_,resE_tmp2 rfl,⟨([]),r2,(.slice none 0 0),au,rfl,(H.pk [0])⟩⟩
 replace hM:=M.e_f hM ac
 replace ac:=dI ac
 refine kg 4 ?_;obtain ⟨aR,aL,hM⟩:=M.e_bind hM;refine s_call cf69 [.agg #[ae,ag,ah,ai,I aa,I ab,aj]] rfl (zbB al am ao ap aa ab aq (aA.app _) aB (aC.app _) aD (aE.app _) aF (aG.app _) aH (aI.app _) aJ aL _ (H.gt 1)) ?_
 rintro vq aS ⟨r3,aM,rfl,hvq,ak⟩
 subst vq;(try dsimp only at hM);replace H:=H.bk ak;clear ak;refine kg 3 ?_;refine W.ret ?_
 have au:=M.e_pure hM
 exact ⟨_,resE_tmp2 rfl,⟨r3,0,aM,au,rfl,(H.pk [0])⟩⟩

def zb1 (l:List Dem):(Nat × (List Dem))->M ((Nat × (List Dem)) ⊕ ((List Dem) × (List Dem))):=fun (i,l2) =>
  bif decide ((i:Int)<(l.length:Int)) then (
  M.grd (decide ((i:Int)<(l.length:Int))) <|
  M.grd (decide ((l2.length+([(l.getD i default)]).length)*16<=140737488355328)) <|
  M.pure (.inl (i+1,l2++([(l.getD i default)]))))
  else (
  M.pure (.inr (l2,l2)))
def zaZ (l:List Dem):M (List Dem) :=
  M.bind (M.iter (zb1 l) (0,[])) fun (l3,l4) =>
  M.pure l4
theorem zbf {R:List Chunk} {ag:Cells} {ac:Value} (l:List Dem) (ak:Reads R ag) (ah:Sl ag ac l) {r:(List Dem)} (hM:(zaZ l).Ends r) (w:World) (H:St w w [] R):Ret Tryz.prog 28 #[ac] w fun v w'=>∃ (y0:List Dem) (u0:Value),y0=r/\v=u0/\St w w' [cOwn (α:=Dem) 72 u0 y0] R:=by
 refine ret_of_W Tryz.func28 rfl rfl rfl ?_;refine kg 14 ?_
 replace H:=H.nilOwn (α:=Dem) 72
 obtain ⟨al,ae,am⟩:=M.e_bind hM
 obtain ⟨ax,ae⟩:=M.e_iter ae
 refine W.loop (fun m σ W=>∃ (i:Nat) (l2:List Dem) (ab:Value) (ρ:Env),σ=upds ρ [(0,ac),(3,ab),(4,I (i:Int))]/\M.iterN (zb1 l) m (i,l2)=some al/\St w W [cOwn (α:=Dem) 72 ab l2] R) ?_ ?_
 ·exact ⟨_,0,[],(.slice none 0 0),_,upds_of _ _ ⟨rfl,rfl,rfl,trivial⟩,ae,H⟩
 rintro ay σ az ⟨i,l2,ab,ρ,rfl,ai,H⟩
 obtain ⟨ao,ap,aA,hM,aj⟩:=M.e_iterN ai
 simp only [zb1] at hM
 clear ai
 have aB:=(ah).len_le
 refine kg 8 ?_
 refine W.cond (decide ((i:Int)<(l.length:Int))) rfl (fun aa=>?_) (fun aa=>?_)
 ·replace hM:=M.e_t hM aa
  replace aa:=dI aa
  obtain ⟨aC,hM⟩:=M.e_gd hM;refine kg 8 ?_;refine s_val (x_ld (v:=.agg #[I ((l.getD i default).spring),I ((l.getD i default).town)]) rfl (ld_ag Ag32 Sz32 (At.mono (Dem_atA ah (i:=(i:Int)) (by omega) (by omega)) (ak.at H)))) ?_;refine t_bs (α:=Dem) T68 [.agg #[I ((l.getD i default).spring),I ((l.getD i default).town)]] [(l.getD i default)] H rfl (.cons rfl (Flat.rep_enc _ (l.getD i default))<|.nil) rfl rfl rfl ?_;intro aq aD H;obtain ⟨aE,hM⟩:=M.e_gd hM;refine t_app (α:=Dem) (k:=1) (l:=l2) (l2:=[(l.getD i default)]) (l':=l2++([(l.getD i default)])) (vy:=aq) T68 rfl H rfl rfl rfl (H.os 0) (H.ol 0) (rfl) (by first | omega | (simp only [List.length_nil] at *; omega)) ?_;intro au aF H;replace H:=H.nf;refine kg 7 ?_
  exact ⟨ao,ap,i+1,l2++([(l.getD i default)]),au,_,upds_of _ _ ⟨rfl,rfl,rfl,trivial⟩,M.e_inl hM aj,(H.pk [1])⟩
 replace hM:=M.e_f hM aa
 replace aa:=dI aa
 refine W.exit ?_
 have av:=M.e_inr hM aj
 subst av;replace hM:=am;(try dsimp only at hM);refine kg 5 ?_;refine W.ret ?_
 have aw:=M.e_pure hM
 exact ⟨_,resE_tmp rfl,⟨l2,ab,aw,rfl,H⟩⟩

def zch (a b:List Dem):Nat->M (Nat ⊕ (Unit ⊕ Unit)):=fun i =>
  bif decide ((i:Int)<(a.length:Int)) then (
  M.grd (decide ((i:Int)<(a.length:Int))) <|
  M.grd (decide ((i:Int)<(b.length:Int))) <|
  bif !(decide ((a.getD i default)=(b.getD i default))) then (
  M.pure (.inr (.inl ())))
  else (
  M.pure (.inl (i+1))))
  else (
  M.pure (.inr (.inr ())))
def zcf (a b:List Dem):M Bool :=
  bif (a.length:Int) != (b.length:Int) then (
  M.pure false)
  else (
  M.bind (M.iter (zch a b) 0) fun x_=>match x_ with
  | (.inl (_:Unit))=>(
  M.pure false)
  | (.inr (_:Unit))=>(
  M.pure true))
theorem zek {R:List Chunk} {al:Cells} {ae:Value} {am:Cells} {ag:Value} (a:List Dem) (b:List Dem) (av:Reads R al) (ah:Sl al ae a) (aw:Reads R am) (ao:Sl am ag b) {r:Bool} (hM:(zcf a b).Ends r) (w:World) (H:St w w [] R):Ret Tryz.prog 27 #[ae,ag] w fun v w'=>∃ (y0:Bool),y0=r/\v=B y0/\St w w' [] R:=by
 refine ret_of_W Tryz.func27 rfl rfl rfl ?_
 have aC:=(ah).len_le
 have aD:=(ao).len_le
 refine kg 13 ?_
 refine W.cond ((a.length:Int) != (b.length:Int)) rfl (fun aa=>?_) (fun aa=>?_)
 ·replace hM:=M.e_t hM aa
  replace aa:=dI aa
  refine kg 4 ?_;refine W.ret ?_
  have ac:=M.e_pure hM
  exact ⟨_,resE_tmp rfl,⟨false,ac,rfl,H⟩⟩
 replace hM:=M.e_f hM aa
 replace aa:=dI aa
 refine kg 7 ?_;obtain ⟨ax,ai,ap⟩:=M.e_bind hM
 obtain ⟨aE,ai⟩:=M.e_iter ai
 refine W.loop (fun m σ W=>∃ (i:Nat) (ρ:Env),σ=upds ρ [(0,ae),(1,ag),(5,I (i:Int))]/\M.iterN (zch a b) m i=some ax/\St w W [] R) ?_ ?_
 ·exact ⟨_,0,_,upds_of _ _ ⟨rfl,rfl,rfl,trivial⟩,ai,H⟩
 rintro aF σ aG ⟨i,ρ,rfl,aq,H⟩
 obtain ⟨ay,az,aH,hM,aj⟩:=M.e_iterN aq
 simp only [zch] at hM
 clear aq
 have aI:=(ah).len_le
 refine kg 8 ?_
 refine W.cond (decide ((i:Int)<(a.length:Int))) rfl (fun ab=>?_) (fun ab=>?_)
 ·replace hM:=M.e_t hM ab
  replace ab:=dI ab
  refine kg 4 ?_;refine W.draw (fun W=>St w W [] R) [(0,true),(1,true),(2,true),(3,true),(4,true),(5,true),(6,true),(7,true),(8,true)] mixed (by decide +kernel) rfl ?_;intro aJ au;replace H:=H.ext au;clear au
  refine ⟨(H.pk []),?_⟩
  obtain ⟨aK,hM⟩:=M.e_gd hM;refine kg 3 ?_;refine d_q rfl (fun w' H=>x_ld (v:=.agg #[I ((a.getD i default).spring),I ((a.getD i default).town)]) rfl (ld_ag Ag72 Sz72 (At.mono (Dem_atA ah (i:=(i:Int)) (by omega) (by omega)) (av.at H)))) ?_;obtain ⟨aL,hM⟩:=M.e_gd hM;refine kg 3 ?_;refine d_q rfl (fun w' H=>x_ld (v:=.agg #[I ((b.getD i default).spring),I ((b.getD i default).town)]) rfl (ld_ag Ag72 Sz72 (At.mono (Dem_atA ao (i:=(i:Int)) (by omega) (by omega)) (aw.at H))))<|d_q rfl (fun w' H=>x_neS (eqT72 (a.getD i default) (b.getD i default) _) gdT72 rfl rfl) ?_;refine d_nil ?_
  refine W.cond (!(decide ((a.getD i default)=(b.getD i default)))) rfl (fun ak=>?_) (fun ak=>?_)
  ·replace hM:=M.e_t hM ak;refine kg 4 ?_;refine W.ret ?_
   have aA:=M.e_inr hM aj
   subst aA;replace hM:=ap;(try dsimp only at hM)
   have ac:=M.e_pure hM
   exact ⟨_,resE_tmp rfl,⟨false,ac,rfl,H⟩⟩
  replace hM:=M.e_f hM ak;refine kg 6 ?_
  exact ⟨ay,az,i+1,_,upds_of _ _ ⟨rfl,rfl,rfl,trivial⟩,M.e_inl hM aj,H⟩
 replace hM:=M.e_f hM ab
 replace ab:=dI ab
 refine W.exit ?_
 have aB:=M.e_inr hM aj
 subst aB;replace hM:=ap;(try dsimp only at hM);refine kg 4 ?_;refine W.ret ?_
 have ac:=M.e_pure hM
 exact ⟨_,resE_tmp rfl,⟨true,ac,rfl,H⟩⟩

def zbA (d:Dem) (r2:List Dem):Nat->M (Nat ⊕ (Unit ⊕ Unit)):=fun i =>
  bif decide ((i:Int)<(r2.length:Int)) then (
  M.grd (decide ((i:Int)<(r2.length:Int))) <|
  bif decide ((r2.getD i default)=d) then (
  M.pure (.inr (.inl ())))
  else (
  M.pure (.inl (i+1))))
  else (
  M.pure (.inr (.inr ())))
def zbF (aa:List Int) (ab:List Span) (ac:List Int) (ae:List Town) (ag ah:Int) (ai:List Flood) (d:Dem):M Bool :=
  M.bind (zbw aa ab ac ae ag ah ai) fun r2 =>
  M.bind (M.iter (zbA d r2) 0) fun x_=>match x_ with
  | (.inl (_:Unit))=>(
  M.pure true)
  | (.inr (_:Unit))=>(
  M.pure false)
theorem zdF {R:List Chunk} {az:Cells} {ag:Value} {aA:Cells} {ah:Value} {aB:Cells} {ai:Value} {aC:Cells} {aj:Value} {aD:Cells} {ak:Value} (al:List Int) (am:List Span) (ao:List Int) (ap:List Town) (aa:Int) (ab:Int) (aq:List Flood) (d:Dem) (aJ:Reads R az) (aK:Sl az ag al) (aL:Reads R aA) (aM:Sl aA ah am) (aN:Reads R aB) (aO:Sl aB ai ao) (aP:Reads R aC) (aQ:Sl aC aj ap) (aR:Reads R aD) (aS:Sl aD ak aq) {r:Bool} (hM:(zbF al am ao ap aa ab aq d).Ends r) (w:World) (H:St w w [] R):Ret Tryz.prog 73 #[.agg #[ag,ah,ai,aj,I aa,I ab,ak],.agg #[I d.spring,I d.town]] w fun v w'=>∃ (y0:Bool),y0=r/\v=B y0/\St w w' [] R:=by
 refine ret_of_W Tryz.func73 rfl rfl rfl ?_;refine kg 2 ?_;refine t_bx [ag,ah,ai,aj,I aa,I ab,ak] H rfl ?_;intro aE aZ H;refine t_bx [I d.spring,I d.town] H rfl ?_;intro au a6 H;refine kg 5 ?_;obtain ⟨a7,aT,hM⟩:=M.e_bind hM;refine s_call cf69 [.agg #[ag,ah,ai,aj,I aa,I ab,ak]] rfl (zbB al am ao ap aa ab aq (aJ.app _) aK (aL.app _) aM (aN.app _) aO (aP.app _) aQ (aR.app _) aS aT _ (H.gt 2)) ?_
 rintro vq a8 ⟨r2,av,rfl,hvq,aF⟩
 subst vq;(try dsimp only at hM);replace H:=H.bk aF;clear aF;refine kg 8 ?_;obtain ⟨aU,aw,aG⟩:=M.e_bind hM
 obtain ⟨ba,aw⟩:=M.e_iter aw
 refine W.loop (fun m σ W=>∃ (i:Nat) (ρ:Env),σ=upds ρ [(3,Pq au),(5,av),(6,I (i:Int))]/\M.iterN (zbA d r2) m i=some aU/\St w W [cOwn (α:=Dem) 72 av r2,cBlk au [I d.spring,I d.town] 72,cBlk aE [ag,ah,ai,aj,I aa,I ab,ak] 53] R) ?_ ?_
 ·exact ⟨_,0,_,upds_of _ _ ⟨rfl,rfl,rfl,trivial⟩,aw,H⟩
 rintro bb σ bc ⟨i,ρ,rfl,aH,H⟩
 obtain ⟨aV,aW,bf,hM,ax⟩:=M.e_iterN aH
 simp only [zbA] at hM
 clear aH
 have bg:=((H.os 0)).len_le
 refine kg 8 ?_
 refine W.cond (decide ((i:Int)<(r2.length:Int))) rfl (fun ac=>?_) (fun ac=>?_)
 ·replace hM:=M.e_t hM ac
  replace ac:=dI ac
  refine kg 4 ?_;refine W.draw (fun W=>St w W [cOwn (α:=Dem) 72 av r2,cBlk au [I d.spring,I d.town] 72,cBlk aE [ag,ah,ai,aj,I aa,I ab,ak] 53] R) [(0,true),(1,true),(2,true),(3,true),(4,true),(5,true)] mixed (by decide +kernel) rfl ?_;intro bh aI;replace H:=H.ext aI;clear aI
  refine ⟨(H.pk [0,1,2]),?_⟩
  obtain ⟨bi,hM⟩:=M.e_gd hM;refine kg 3 ?_;refine d_q rfl (fun w' H=>x_ld (v:=.agg #[I ((r2.getD i default).spring),I ((r2.getD i default).town)]) rfl (ld_ag Ag72 Sz72 (At.mono (Dem_atA (H.os 0) (i:=(i:Int)) (by omega) (by omega)) (H.ol 0)))) ?_;refine kg 1 ?_;refine d_q rfl (fun w' H=>x_eqS (eqT72 (r2.getD i default) d _) gdT72 rfl rfl) ?_;refine d_nil ?_
  refine W.cond (decide ((r2.getD i default)=d)) rfl (fun ae=>?_) (fun ae=>?_)
  ·replace hM:=M.e_t hM ae
   replace ae:=dI ae
   refine kg 4 ?_;refine W.ret ?_
   have aX:=M.e_inr hM ax
   subst aX;replace hM:=aG;(try dsimp only at hM)
   have ay:=M.e_pure hM
   exact ⟨_,resE_tmp rfl,⟨true,ay,rfl,(H.pk [])⟩⟩
  replace hM:=M.e_f hM ae
  replace ae:=dI ae
  refine kg 6 ?_
  exact ⟨aV,aW,i+1,_,upds_of _ _ ⟨rfl,rfl,rfl,trivial⟩,M.e_inl hM ax,H⟩
 replace hM:=M.e_f hM ac
 replace ac:=dI ac
 refine W.exit ?_
 have aY:=M.e_inr hM ax
 subst aY;replace hM:=aG;(try dsimp only at hM);replace H:=H.pk [];refine kg 4 ?_;refine W.ret ?_
 have ay:=M.e_pure hM
 exact ⟨_,resE_tmp rfl,⟨false,ay,rfl,H⟩⟩

def za4 (ae:List Int) (ag:List Span) (ah:List Int) (aa:List Town) (ai ab:Int) (aj:List Flood) (station:Int) (d:Dem):M Bool :=
  M.bind (zaP ae ag ah aa ai ab aj d.spring station) fun (al,am,r1) =>
  bif !r1 then (
  M.pure false)
  else (
  M.grd (decide ((0:Int)<=d.town)&&decide (d.town<(aa.length:Int))) <|
  M.bind (zaP ae ag ah aa ai ab aj station ((aa.getD (Int.toNat d.town) default).station)) fun (ac,ao,ak) =>
  M.grd ((!ak||(decide ((-9223372036854775808:Int)<=(ac-ab))&&decide ((ac-ab)<=(9223372036854775807:Int))))) <|
  M.pure (ak&&(decide (((aa.getD (Int.toNat d.town) default).lead)<=(ac-ab)))))
theorem zbe {R:List Chunk} {aS:Cells} {aj:Value} {aT:Cells} {ak:Value} {aU:Cells} {al:Value} {aV:Cells} {ai:Value} {aW:Cells} {am:Value} (aw:List Int) (ax:List Span) (ay:List Int) (aa:List Town) (ah:Int) (ab:Int) (az:List Flood) (station:Int) (d:Dem) (aF:Reads R aS) (aG:Sl aS aj aw) (aH:Reads R aT) (aI:Sl aT ak ax) (aJ:Reads R aU) (aK:Sl aU al ay) (au:Reads R aV) (av:Sl aV ai aa) (aL:Reads R aW) (aM:Sl aW am az) {r:Bool} (hM:(za4 aw ax ay aa ah ab az station d).Ends r) (w:World) (H:St w w [] R):Ret Tryz.prog 74 #[.agg #[aj,ak,al,ai,I ah,I ab,am],I station,.agg #[I d.spring,I d.town]] w fun v w'=>∃ (y0:Bool),y0=r/\v=B y0/\St w w' [] R:=by
 refine ret_of_W Tryz.func74 rfl rfl rfl ?_;refine kg 2 ?_;refine t_bx [aj,ak,al,ai,I ah,I ab,am] H rfl ?_;intro aN a6 H;refine t_bx [I d.spring,I d.town] H rfl ?_;intro aO a7 H;refine kg 9 ?_;obtain ⟨a8,aX,hM⟩:=M.e_bind hM;refine s_call cf64 [.agg #[aj,ak,al,ai,I ah,I ab,am],I d.spring,I station] rfl (zaz aw ax ay aa ah ab az d.spring station (aF.app _) aG (aH.app _) aI (aJ.app _) aK (au.app _) av (aL.app _) aM aX _ (H.gt 2)) ?_
 rintro vq ba ⟨aA,aB,r1,rfl,hvq,ap⟩
 subst vq;(try dsimp only at hM);replace H:=H.bk ap;clear ap;refine kg 3 ?_;refine t_alloc (cs:=[I 0,I 0]) H Al26 rfl ?_;intro aP bb H;refine t_sw 0 0 [I aA,I aB] (.agg #[I aA,I aB]) H rfl rfl Sz26 rfl rfl rfl rfl ?_;intro bc H;refine kg 7 ?_
 refine W.cond (!r1) rfl (fun aQ=>?_) (fun aQ=>?_)
 ·replace hM:=M.e_t hM aQ;refine kg 4 ?_;replace H:=H.pk [];refine W.ret ?_
  have aC:=M.e_pure hM
  exact ⟨_,resE_tmp rfl,⟨false,aC,rfl,H⟩⟩
 replace hM:=M.e_f hM aQ;refine kg 2 ?_;refine W.drawT (fun W=>St w W [cBlk aP [I aA,I aB] 26,cBlk aO [I d.spring,I d.town] 72,cBlk aN [aj,ak,al,ai,I ah,I ab,am] 53] R) (.q 0 (.q 1 (.q 2 (.q 3 (.q 4 (.q 5 (.q 6 (.q 7 (.q 8 (.l2 9 (.q 10 (.q 11 (.q 12 (.l 13 (.l 14 (.q 15 .nil)))))) 13 (.l 9 (.q 10 (.q 11 (.q 12 (.l 14 (.q 15 .nil)))))))))))))))) mixed (by decide +kernel) rfl ?_;intro bf ac;replace H:=H.ext ac;clear ac
 refine ⟨(H.pk [0,1,2]),?_⟩
 obtain ⟨bg,hM⟩:=M.e_gd hM;refine kg 8 ?_;refine t_q rfl (fun w' H=>x_ld (v:=I ((aa.getD (Int.toNat d.town) default).station)) rfl (ld_sc Sc3 (At.mono (Town_at0 av (i:=d.town) (by omega) (by omega)) (au.at H)))) ?_;refine t_l2 rfl rfl ?_ ?_
 ·skip
  obtain ⟨bh,aY,hM⟩:=M.e_bind hM;refine s_call cf64 [.agg #[aj,ak,al,ai,I ah,I ab,am],I station,I ((aa.getD (Int.toNat d.town) default).station)] rfl (zaz aw ax ay aa ah ab az station ((aa.getD (Int.toNat d.town) default).station) (aF.app _) aG (aH.app _) aI (aJ.app _) aK (au.app _) av (aL.app _) aM aY _ (H.gt 3)) ?_
  rintro vq bi ⟨ag,aq,ao,rfl,hvq,ap⟩
  subst vq;(try dsimp only at hM);replace H:=H.bk ap;clear ap
  refine s_nil ⟨(H.pk [0,1,2]),?_⟩
  refine kg 3 ?_;refine t_l rfl ?_;refine t_alloc (cs:=[I 0,I 0]) H Al26 rfl ?_;intro aR bj H
  refine s_nil ⟨(H.pk [1,2,3]),?_⟩
  refine t_l rfl ?_;refine t_sw 0 0 [I ag,I aq] (.agg #[I ag,I aq]) H rfl rfl Sz26 rfl rfl rfl rfl ?_;intro bm H
  refine s_nil ⟨(H.pk [1,2,3]),?_⟩
  refine kg 3 ?_;refine W.draw (fun W=>St w W [cBlk aR [I ag,I aq] 26,cBlk aP [I aA,I aB] 26,cBlk aO [I d.spring,I d.town] 72,cBlk aN [aj,ak,al,ai,I ah,I ab,am] 53] R) [(0,true),(1,true),(2,true),(3,true),(4,true),(5,true),(6,true),(7,true),(8,true),(9,true),(10,true),(11,true),(12,true),(13,true),(14,true),(15,true),(16,true),(17,true)] mixed (by decide +kernel) rfl ?_;intro bn ac;replace H:=H.ext ac;clear ac
  refine ⟨(H.pk [0,1,2,3]),?_⟩
  obtain ⟨aD,hM⟩:=M.e_grd hM
  replace aD:=M.imp_of aD
  simp only [Bool.and_eq_true,decide_eq_true_eq] at aD
  refine kg 14 ?_;refine d_qg ao rfl (gy_t rfl) (fun hg=>(fun w' H=>x_ld (v:=I ((aa.getD (Int.toNat d.town) default).lead)) (gd_of hg (fat (vat ai 3 (Int.toNat d.town)) 1)) (ld_sc Sc3 (At.mono (Town_at1 av (i:=d.town) (by have ae:=aD.resolve_left (by rw [hg]; decide); first | exact ae | exact ae.1 | exact ae.2 | omega | (have ac:=hg; simp at ac; omega)) (by have ae:=aD.resolve_left (by rw [hg]; decide); first | exact ae | exact ae.1 | exact ae.2 | omega | (have ac:=hg; simp at ac; omega))) (au.at H))))) ?_;refine kg 1 ?_;refine d_q rfl (fun w' H=>x_pand (b:=ao) (r:=decide (((aa.getD (Int.toNat d.town) default).lead)<=(ag-ab))) rfl (fun hb=>gd_of (c:=ao) (by first | exact hb | (rw [hb]; rfl) | simp_all) (B (decide (((aa.getD (Int.toNat d.town) default).lead)<=(ag-ab))))) rfl) ?_;refine kg 2 ?_;replace H:=H.pk [];refine W.ret ?_
  have aC:=M.e_pure hM
  exact ⟨_,resE_tmp rfl,⟨(ao&&(decide (((aa.getD (Int.toNat d.town) default).lead)<=(ag-ab)))),aC,rfl,H⟩⟩
 skip
 refine t_alloc (cs:=[I 0,I 0]) H Al26 rfl ?_;intro aR bo H
 refine s_nil ⟨(H.pk [1,2,3]),?_⟩
 refine t_l rfl ?_;obtain ⟨bp,aZ,hM⟩:=M.e_bind hM;refine s_call cf64 [.agg #[aj,ak,al,ai,I ah,I ab,am],I station,I ((aa.getD (Int.toNat d.town) default).station)] rfl (zaz aw ax ay aa ah ab az station ((aa.getD (Int.toNat d.town) default).station) (aF.app _) aG (aH.app _) aI (aJ.app _) aK (au.app _) av (aL.app _) aM aZ _ (H.gt 4)) ?_
 rintro vq br ⟨ag,aq,ao,rfl,hvq,ap⟩
 subst vq;(try dsimp only at hM);replace H:=H.bk ap;clear ap
 refine s_nil ⟨(H.pk [1,2,3]),?_⟩
 refine kg 3 ?_;refine t_l rfl ?_;refine t_sw 0 0 [I ag,I aq] (.agg #[I ag,I aq]) H rfl rfl Sz26 rfl rfl rfl rfl ?_;intro bt H
 refine s_nil ⟨(H.pk [1,2,3]),?_⟩
 refine kg 3 ?_;refine W.draw (fun W=>St w W [cBlk aR [I ag,I aq] 26,cBlk aP [I aA,I aB] 26,cBlk aO [I d.spring,I d.town] 72,cBlk aN [aj,ak,al,ai,I ah,I ab,am] 53] R) [(0,true),(1,true),(2,true),(3,true),(4,true),(5,true),(6,true),(7,true),(8,true),(9,true),(10,true),(11,true),(12,true),(13,true),(14,true),(15,true),(16,true),(17,true)] mixed (by decide +kernel) rfl ?_;intro bu ac;replace H:=H.ext ac;clear ac
 refine ⟨(H.pk [0,1,2,3]),?_⟩
 obtain ⟨aE,hM⟩:=M.e_grd hM
 replace aE:=M.imp_of aE
 simp only [Bool.and_eq_true,decide_eq_true_eq] at aE
 refine kg 14 ?_;refine d_qg ao rfl (gy_t rfl) (fun hg=>(fun w' H=>x_ld (v:=I ((aa.getD (Int.toNat d.town) default).lead)) (gd_of hg (fat (vat ai 3 (Int.toNat d.town)) 1)) (ld_sc Sc3 (At.mono (Town_at1 av (i:=d.town) (by have ae:=aE.resolve_left (by rw [hg]; decide); first | exact ae | exact ae.1 | exact ae.2 | omega | (have ac:=hg; simp at ac; omega)) (by have ae:=aE.resolve_left (by rw [hg]; decide); first | exact ae | exact ae.1 | exact ae.2 | omega | (have ac:=hg; simp at ac; omega))) (au.at H))))) ?_;refine kg 1 ?_;refine d_q rfl (fun w' H=>x_pand (b:=ao) (r:=decide (((aa.getD (Int.toNat d.town) default).lead)<=(ag-ab))) rfl (fun hb=>gd_of (c:=ao) (by first | exact hb | (rw [hb]; rfl) | simp_all) (B (decide (((aa.getD (Int.toNat d.town) default).lead)<=(ag-ab))))) rfl) ?_;refine kg 2 ?_;replace H:=H.pk [];refine W.ret ?_
 have aC:=M.e_pure hM
 exact ⟨_,resE_tmp rfl,⟨(ao&&(decide (((aa.getD (Int.toNat d.town) default).lead)<=(ag-ab)))),aC,rfl,H⟩⟩

def zc0 (aa:List Int) (ab:List Span) (ac:List Int) (ae:List Town) (ag ah:Int) (ai:List Flood) (d:Dem):(Nat × (List Int))->M ((Nat × (List Int)) ⊕ ((List Int) × (List Int))):=fun (s,l) =>
  bif decide ((s:Int)<(aa.length:Int)) then (
  M.bind (za4 aa ab ac ae ag ah ai (s:Int) d) fun r4 =>
  bif r4 then (
  M.grd (decide ((l.length+([(s:Int)]).length)*8<=140737488355328)) <|
  M.pure (.inl (s+1,l++([(s:Int)]))))
  else (
  M.pure (.inl (s+1,l))))
  else (
  M.pure (.inr (l,l)))
def zdM (aa:List Int) (ab:List Span) (ac:List Int) (ae:List Town) (ag ah:Int) (ai:List Flood) (d:Dem):M ((List Int) × Int) :=
  M.bind (zas aa ab ac ae ag ah ai) fun r2 =>
  bif r2 != 0 then (
  M.pure (([]),r2))
  else (
  M.bind (zbF aa ab ac ae ag ah ai d) fun r3 =>
  bif !r3 then (
  M.pure (([]),2))
  else (
  M.bind (M.iter (zc0 aa ab ac ae ag ah ai d) (0,[])) fun (l2,l3) =>
  M.pure (l3,0)))
theorem zeV {R:List Chunk} {aL:Cells} {ae:Value} {aM:Cells} {ag:Value} {aN:Cells} {ah:Value} {aO:Cells} {ai:Value} {aP:Cells} {aj:Value} (ak:List Int) (ao:List Span) (ap:List Int) (aq:List Town) (aa:Int) (ab:Int) (au:List Flood) (d:Dem) (ay:Reads R aL) (ax:Sl aL ae ak) (az:Reads R aM) (aA:Sl aM ag ao) (aB:Reads R aN) (aC:Sl aN ah ap) (aD:Reads R aO) (aE:Sl aO ai aq) (aF:Reads R aP) (aG:Sl aP aj au) {r:((List Int) × Int)} (hM:(zdM ak ao ap aq aa ab au d).Ends r) (w:World) (H:St w w [] R):Ret Tryz.prog 30 #[.agg #[ae,ag,ah,ai,I aa,I ab,aj],.agg #[I d.spring,I d.town]] w fun v w'=>∃ (y0:List Int) (y1:Int) (u0:Value),(y0,y1)=r/\v = .tuple #[u0,I y1]/\St w w' [cOwn (α:=Int) 3 u0 y0] R:=by
 refine ret_of_W Tryz.func30 rfl rfl rfl ?_;refine kg 2 ?_;refine t_bx [ae,ag,ah,ai,I aa,I ab,aj] H rfl ?_;intro aQ ba H;refine t_bx [I d.spring,I d.town] H rfl ?_;intro aR bb H;refine kg 7 ?_;obtain ⟨bc,aV,hM⟩:=M.e_bind hM;refine s_call cf14 [.agg #[ae,ag,ah,ai,I aa,I ab,aj]] rfl (zav ak ao ap aq aa ab au (ay.app _) ax (az.app _) aA (aB.app _) aC (aD.app _) aE (aF.app _) aG aV _ (H.gt 2)) ?_
 rintro vq bf ⟨r2,rfl,hvq,ac⟩
 subst vq;(try dsimp only at hM);replace H:=H.bk ac;clear ac;refine kg 7 ?_
 refine W.cond (r2 != 0) rfl (fun al=>?_) (fun al=>?_)
 ·replace hM:=M.e_t hM al
  replace al:=dI al
  refine kg 6 ?_;replace H:=H.pk [];refine W.ret ?_
  have av:=M.e_pure hM
  replace H:=H.nilOwn (α:=Int) 3
  exact ⟨_,resE_tmp2 rfl,⟨([]),r2,(.slice none 0 0),av,rfl,H⟩⟩
 replace hM:=M.e_f hM al
 replace al:=dI al
 refine kg 6 ?_;obtain ⟨bg,aW,hM⟩:=M.e_bind hM;refine s_call cf73 [.agg #[ae,ag,ah,ai,I aa,I ab,aj],.agg #[I d.spring,I d.town]] rfl (zdF ak ao ap aq aa ab au d (ay.app _) ax (az.app _) aA (aB.app _) aC (aD.app _) aE (aF.app _) aG aW _ (H.gt 2)) ?_
 rintro vq bh ⟨r3,rfl,hvq,ac⟩
 subst vq;(try dsimp only at hM);replace H:=H.bk ac;clear ac;refine kg 2 ?_
 refine W.cond (!r3) rfl (fun aH=>?_) (fun aH=>?_)
 ·replace hM:=M.e_t hM aH;refine kg 5 ?_;replace H:=H.pk [];refine W.ret ?_
  have av:=M.e_pure hM
  replace H:=H.nilOwn (α:=Int) 3
  exact ⟨_,resE_tmp2 rfl,⟨([]),2,(.slice none 0 0),av,rfl,H⟩⟩
 replace hM:=M.e_f hM aH;refine kg 11 ?_
 replace H:=H.nilOwn (α:=Int) 3
 obtain ⟨aX,aI,aY⟩:=M.e_bind hM
 obtain ⟨bi,aI⟩:=M.e_iter aI
 refine W.loop (fun m σ W=>∃ (s:Nat) (l:List Int) (aw:Value) (ρ:Env),σ=upds ρ [(2,Pq aQ),(3,Pq aR),(7,aw),(8,I (s:Int))]/\M.iterN (zc0 ak ao ap aq aa ab au d) m (s,l)=some aX/\St w W [cOwn (α:=Int) 3 aw l,cBlk aR [I d.spring,I d.town] 72,cBlk aQ [ae,ag,ah,ai,I aa,I ab,aj] 53] R) ?_ ?_
 ·exact ⟨_,0,[],(.slice none 0 0),_,upds_of _ _ ⟨rfl,rfl,rfl,rfl,trivial⟩,aI,H⟩
 rintro bj σ bm ⟨s,l,aw,ρ,rfl,aS,H⟩
 obtain ⟨aT,aU,bn,hM,aJ⟩:=M.e_iterN aS
 simp only [zc0] at hM
 clear aS
 have bo:=(ax).len_le
 refine kg 9 ?_
 refine W.cond (decide ((s:Int)<(ak.length:Int))) rfl (fun am=>?_) (fun am=>?_)
 ·replace hM:=M.e_t hM am
  replace am:=dI am
  refine kg 8 ?_;obtain ⟨bp,aZ,hM⟩:=M.e_bind hM;refine s_call cf74 [.agg #[ae,ag,ah,ai,I aa,I ab,aj],I (s:Int),.agg #[I d.spring,I d.town]] rfl (zbe ak ao ap aq aa ab au (s:Int) d (ay.app _) ax (az.app _) aA (aB.app _) aC (aD.app _) aE (aF.app _) aG aZ _ (H.gt 3)) ?_
  rintro vq br ⟨r4,rfl,hvq,ac⟩
  subst vq;(try dsimp only at hM);replace H:=H.bk ac;clear ac;refine s_nil ?_
  refine W.cond r4 rfl (fun aK=>?_) (fun aK=>?_)
  ·replace hM:=M.e_t hM aK;refine kg 3 ?_;refine t_bs (α:=Int) T22 [I (s:Int)] [(s:Int)] H rfl (.cons rfl (Flat.rep_enc _ (s:Int))<|.nil) rfl rfl rfl ?_;intro a6 bt H;obtain ⟨bu,hM⟩:=M.e_gd hM;refine t_app (α:=Int) (k:=1) (l:=l) (l2:=[(s:Int)]) (l':=l++([(s:Int)])) (vy:=a6) T22 rfl H rfl rfl rfl (H.os 0) (H.ol 0) (rfl) (by first | omega | (simp only [List.length_nil] at *; omega)) ?_;intro a7 bv H;replace H:=H.nf;refine kg 7 ?_
   exact ⟨aT,aU,s+1,l++([(s:Int)]),a7,_,upds_of _ _ ⟨rfl,rfl,rfl,rfl,trivial⟩,M.e_inl hM aJ,(H.pk [1,2,3])⟩
  replace hM:=M.e_f hM aK;refine kg 6 ?_
  exact ⟨aT,aU,s+1,l,aw,_,upds_of _ _ ⟨rfl,rfl,rfl,rfl,trivial⟩,M.e_inl hM aJ,H⟩
 replace hM:=M.e_f hM am
 replace am:=dI am
 refine W.exit ?_
 have a8:=M.e_inr hM aJ
 subst a8;replace hM:=aY;(try dsimp only at hM);replace H:=H.pk [0];refine kg 6 ?_;refine W.ret ?_
 have av:=M.e_pure hM
 exact ⟨_,resE_tmp2 rfl,⟨l,0,aw,av,rfl,H⟩⟩

def zbL (s:Int) (k0:List Bool):M Bool :=
  M.grd (decide ((0:Int)<=s)&&decide (s<(12:Int))) <|
  M.pure (k0.getD (Int.toNat s) false)
theorem zeA {R:List Chunk} {aa:Nat} (s:Int) (k0:List Bool) (ab:k0.length=12) (ac:Has R (cBlk aa (encB k0) 127)) {r:Bool} (hM:(zbL s k0).Ends r) (w:World) (H:St w w [] R):Ret Tryz.prog 79 #[I s,Pq aa] w fun v w'=>∃ (y0:Bool),y0=r/\v=B y0/\St w w' [] R:=by
 refine ret_of_W Tryz.func79 rfl rfl rfl ?_;obtain ⟨ag,hM⟩:=M.e_gd hM;refine kg 7 ?_;refine s_val (x_ix (v:=.pointer (some ⟨aa,0+Int.toNat s,none⟩)) rfl rfl (run_indexArr Tryz.underlying127 Sz4 (by omega) (by omega)))<|s_val (x_ld (v:=B (k0.getD (Int.toNat s) false)) rfl (ldArr Sc4 (ac.blk H) (by omega) (by have ah:=ab; omega))) ?_;refine kg 2 ?_;refine W.ret ?_
 have ae:=M.e_pure hM
 exact ⟨_,resE_tmp rfl,⟨(k0.getD (Int.toNat s) false),ae,rfl,H⟩⟩

def zc9 (d:Dem) (aa:List Int) (ab:List Span) (ac:List Int) (ae:List Town) (ag ah:Int) (ai:List Flood) (k1:List Bool):M Bool :=
  M.bind (zaa aa ab ac ae ag ah ai d) fun r2 =>
  M.bind (za7 r2 (fun aj=>zbL aj k1)) fun r3 =>
  M.pure r3
theorem zev {R:List Chunk} {ap:Nat} {al:Nat} {aq:Cells} {au:Value} {av:Cells} {aw:Value} {ax:Cells} {ay:Value} {az:Cells} {aA:Value} {aB:Cells} {aC:Value} {am:Nat} {B_b_k027:Base} {aa:Nat} (d:Dem) (ab:List Int) (ac:List Span) (ae:List Int) (ag:List Town) (ah:Int) (ai:Int) (aj:List Flood) (k1:List Bool) (aE:Reads R aq) (aF:Sl aq au ab) (aG:Reads R av) (aH:Sl av aw ac) (aI:Reads R ax) (aJ:Sl ax ay ae) (aK:Reads R az) (aL:Sl az aA ag) (aM:Reads R aB) (aN:Sl aB aC aj) (aO:Has R (cBlk al [au,aw,ay,aA,I ah,I ai,aC,.map (some am)] 113)) (bc:Has R (cBlk ap [Pq al] 108)) (aP:k1.length=12) (aQ:Has R (cBlk aa (encB k1) 127)) {r:Bool} (hM:(zc9 d ab ac ae ag ah ai aj k1).Ends r) (w:World) (H:St w w [cMem encDm am B_b_k027 (zaa ab ac ae ag ah ai aj)] R):Ret Tryz.prog 77 #[.agg #[I d.spring,I d.town],Pq ap,Pq aa] w fun v w'=>∃ (y0:Bool) (aR:Base),y0=r/\v=B y0/\St w w' [cMem encDm am aR (zaa ab ac ae ag ah ai aj)] R:=by
 refine ret_of_W Tryz.func77 rfl rfl rfl ?_;refine kg 2 ?_;refine t_bx [I d.spring,I d.town] H rfl ?_;intro bf bg H;refine kg 6 ?_;obtain ⟨bh,aS,hM⟩:=M.e_bind hM;refine s_call cf72 [Pq al,.agg #[I d.spring,I d.town]] rfl (zaN ab ac ae ag ah ai aj d (aE.app _) aF (aG.app _) aH (aI.app _) aJ (aK.app _) aL (aM.app _) aN (aO.app _) aS _ ((H.pk [1,0]).gt 1)) ?_
 rintro vq bi ⟨r2,aT,aU,rfl,hvq,ak,aV⟩
 subst vq;(try dsimp only at hM)
 replace H:=H.pk [1,0] |>.bk ak
 clear ak;refine s_val (x_mf (fs:=[]) (cs:=[Pq aa]) rfl rfl) ?_;obtain ⟨bj,aW,hM⟩:=M.e_bind hM;refine s_call cf78 [aT,.func (.func 79) #[] #[Pq aa]] rfl (zc2 r2 (fun ao=>zbL ao k1) (Reads.of (k:=0) rfl memLe) aV ⟨79,[Pq aa],rfl,cf79,fun aD bm bn aX ao bo aY bp aZ a6=>by obtain rfl:=Arg.int aZ; exact (zeA ao k1 aP (Has.app (aQ.app _) _) a6 aD (St.refl aY)).mono fun aX aD ⟨br,a7,a8,ba⟩=>by subst a7; exact ⟨a8,ba⟩⟩ aW _ (H.gt 2)) ?_
 rintro vq bt ⟨r3,rfl,hvq,ak⟩
 subst vq;(try dsimp only at hM);replace H:=H.bk ak;clear ak;refine kg 2 ?_;refine W.ret ?_
 have bb:=M.e_pure hM
 exact ⟨_,resE_tmp rfl,⟨r3,aU,bb,rfl,(H.pk [0])⟩⟩

def zbI (s:List Dem) (aa:List Int) (ab:List Span) (ac:List Int) (ae:List Town) (ag ah:Int) (ai:List Flood) (aj:List Bool):Nat->M (Nat ⊕ (Int ⊕ Unit)):=fun s2 =>
  bif decide ((s2:Int)<(s.length:Int)) then (
  M.grd (decide ((s2:Int)<(s.length:Int))) <|
  M.bind (zc9 (s.getD s2 default) aa ab ac ae ag ah ai aj) fun r2 =>
  bif r2 then (
  M.pure (.inr (.inl (s2:Int))))
  else (
  M.pure (.inl (s2+1))))
  else (
  M.pure (.inr (.inr ())))
def zdV (s:List Dem) (aa:List Int) (ab:List Span) (ac:List Int) (ae:List Town) (ag ah:Int) (ai:List Flood) (aj:List Bool):M Int :=
  M.bind (M.iter (zbI s aa ab ac ae ag ah ai aj) 0) fun x_=>match x_ with
  | (.inl s3)=>(
  M.pure s3)
  | (.inr (_:Unit))=>(
  M.pure (-1))
theorem zfi {R:List Chunk} {ax:Cells} {am:Value} {ao:Nat} {ay:Nat} {az:Cells} {aA:Value} {aB:Cells} {aC:Value} {aD:Cells} {aE:Value} {aF:Cells} {aG:Value} {aH:Cells} {aI:Value} {al:Nat} {B_b_f2027:Base} {ap:Nat} (s:List Dem) (aa:List Int) (ab:List Span) (ac:List Int) (ae:List Town) (ag:Int) (ah:Int) (ai:List Flood) (ak:List Bool) (aO:Reads R ax) (aJ:Sl ax am s) (aP:Reads R az) (aQ:Sl az aA aa) (aR:Reads R aB) (aS:Sl aB aC ab) (aT:Reads R aD) (aU:Sl aD aE ac) (aV:Reads R aF) (aW:Sl aF aG ae) (aX:Reads R aH) (aY:Sl aH aI ai) (aZ:Has R (cBlk ay [aA,aC,aE,aG,I ag,I ah,aI,.map (some al)] 113)) (a6:Has R (cBlk ao [Pq ay] 108)) (a7:ak.length=12) (a8:Has R (cBlk ap (encB ak) 127)) {r:Int} (hM:(zdV s aa ab ac ae ag ah ai ak).Ends r) (w:World) (H:St w w [cMem encDm al B_b_f2027 (zaa aa ab ac ae ag ah ai)] R):Ret Tryz.prog 99 #[am,.func (.func 77) #[] #[Pq ao,Pq ap]] w fun v w'=>∃ (y0:Int) (ba:Base),y0=r/\v=I y0/\St w w' [cMem encDm al ba (zaa aa ab ac ae ag ah ai)] R:=by
 refine ret_of_W Tryz.func99 rfl rfl rfl ?_
 have bj:=(aJ).len_le
 refine kg 12 ?_;obtain ⟨bb,aq,aK⟩:=M.e_bind hM
 obtain ⟨bm,aq⟩:=M.e_iter aq
 refine W.loop (fun m σ W=>∃ (s2:Nat) (B_mem:Base) (ρ:Env),σ=upds ρ [(0,am),(1,.func (.func 77) #[] #[Pq ao,Pq ap]),(7,I (s.length:Int)),(8,I (s2:Int))]/\M.iterN (zbI s aa ab ac ae ag ah ai ak) m s2=some bb/\St w W [cMem encDm al B_mem (zaa aa ab ac ae ag ah ai)] R) ?_ ?_
 ·exact ⟨_,0,B_b_f2027,_,upds_of _ _ ⟨rfl,rfl,rfl,rfl,trivial⟩,aq,H⟩
 rintro bn σ bo ⟨s2,B_mem,ρ,rfl,aL,H⟩
 obtain ⟨bc,bf,bp,hM,au⟩:=M.e_iterN aL
 simp only [zbI] at hM
 clear aL;refine kg 5 ?_
 refine W.cond (decide ((s2:Int)<(s.length:Int))) rfl (fun aj=>?_) (fun aj=>?_)
 ·replace hM:=M.e_t hM aj
  replace aj:=dI aj
  obtain ⟨br,hM⟩:=M.e_gd hM;refine kg 14 ?_;refine s_val (x_ld (v:=.agg #[I ((s.getD s2 default).spring),I ((s.getD s2 default).town)]) rfl (ld_ag Ag32 Sz32 (At.mono (Dem_atA aJ (i:=(s2:Int)) (by omega) (by omega)) (aO.at H)))) ?_;obtain ⟨bt,bg,hM⟩:=M.e_bind hM;refine s_callv (f:=77) rfl cf77 [.agg #[I ((s.getD s2 default).spring),I ((s.getD s2 default).town)]] rfl (zev (s.getD s2 default) aa ab ac ae ag ah ai ak (aP.app _) aQ (aR.app _) aS (aT.app _) aU (aV.app _) aW (aX.app _) aY (aZ.app _) (a6.app _) a7 (a8.app _) bg _ (H.gt 0)) ?_
  rintro vq bu ⟨r2,aM,rfl,hvq,aN⟩
  subst vq;(try dsimp only at hM);replace H:=H.bk aN;clear aN;refine s_nil ?_
  refine W.cond r2 rfl (fun av=>?_) (fun av=>?_)
  ·replace hM:=M.e_t hM av;refine kg 5 ?_;refine W.ret ?_
   have bh:=M.e_inr hM au
   subst bh;replace hM:=aK;(try dsimp only at hM)
   have aw:=M.e_pure hM
   exact ⟨_,resE_tmp rfl,⟨(s2:Int),aM,aw,rfl,H⟩⟩
  replace hM:=M.e_f hM av;refine kg 5 ?_
  exact ⟨bc,bf,s2+1,aM,_,upds_of _ _ ⟨rfl,rfl,rfl,rfl,trivial⟩,M.e_inl hM au,H⟩
 replace hM:=M.e_f hM aj
 replace aj:=dI aj
 refine W.exit ?_
 have bi:=M.e_inr hM au
 subst bi;replace hM:=aK;(try dsimp only at hM);refine kg 4 ?_;refine W.ret ?_
 have aw:=M.e_pure hM
 exact ⟨_,resE_tmp rfl,⟨(-1),B_mem,aw,rfl,H⟩⟩

def zdn (aa:List Int) (ab:List Span) (ac:List Int) (ae:List Town) (ag ah:Int) (ai:List Flood) (aj:List Bool):((List Dem) × Int × Int)->M (((List Dem) × Int × Int) ⊕ ((List Dem) × Int × (List Dem))):=fun (l,i,j) =>
  bif decide (j<(l.length:Int)) then (
  M.grd (decide ((0:Int)<=j)&&decide (j<(l.length:Int))) <|
  M.bind (zc9 (l.getD (Int.toNat j) default) aa ab ac ae ag ah ai aj) fun r3 =>
  bif !r3 then (
  M.grd (decide ((0:Int)<=i)&&decide (i<(l.length:Int))) <|
  M.pure (.inl (l.set (Int.toNat i) (l.getD (Int.toNat j) default),i+1,j+1)))
  else (
  M.pure (.inl (l,i,j+1))))
  else (
  M.pure (.inr (l,i,l)))
def zdW (s:List Dem) (aa:List Int) (ab:List Span) (ac:List Int) (ae:List Town) (ag ah:Int) (ai:List Flood) (aj:List Bool):M (List Dem) :=
  M.bind (zdV s aa ab ac ae ag ah ai aj) fun r2 =>
  bif r2==(-1) then (
  M.pure s)
  else (
  M.grd (decide ((-9223372036854775808:Int)<=(r2+1))&&decide ((r2+1)<=(9223372036854775807:Int))) <|
  M.bind (M.iter (zdn aa ab ac ae ag ah ai aj) (s,r2,r2+1)) fun (l2,i2,l3) =>
  M.grd (decide ((0:Int)<=i2)&&decide (i2<=(l3.length:Int))) <|
  M.pure (l3.take (Int.toNat i2)))
theorem zfl {R:List Chunk} {ao:Value} {au:Nat} {aC:Nat} {aD:Cells} {aE:Value} {aF:Cells} {aG:Value} {aH:Cells} {aI:Value} {aJ:Cells} {aK:Value} {aL:Cells} {aM:Value} {ap:Nat} {B_b_del2027:Base} {av:Nat} (s:List Dem) (aa:List Int) (ab:List Span) (ac:List Int) (ae:List Town) (ag:Int) (ah:Int) (ai:List Flood) (am:List Bool) (aN:Reads R aD) (aO:Sl aD aE aa) (aP:Reads R aF) (aQ:Sl aF aG ab) (aR:Reads R aH) (aS:Sl aH aI ac) (aT:Reads R aJ) (aU:Sl aJ aK ae) (aV:Reads R aL) (aW:Sl aL aM ai) (aX:Has R (cBlk aC [aE,aG,aI,aK,I ag,I ah,aM,.map (some ap)] 113)) (aY:Has R (cBlk au [Pq aC] 108)) (aZ:am.length=12) (a6:Has R (cBlk av (encB am) 127)) {r:(List Dem)} (hM:(zdW s aa ab ac ae ag ah ai am).Ends r) (w:World) (H:St w w [cOwn (α:=Dem) 32 ao s,cMem encDm ap B_b_del2027 (zaa aa ab ac ae ag ah ai)] R):Ret Tryz.prog 76 #[ao,.func (.func 77) #[] #[Pq au,Pq av]] w fun v w'=>∃ (y0:List Dem) (u0:Value) (bi:Base),y0=r/\v=u0/\St w w' [cOwn (α:=Dem) 32 u0 y0,cMem encDm ap bi (zaa aa ab ac ae ag ah ai)] R:=by
 refine ret_of_W Tryz.func76 rfl rfl rfl ?_;refine kg 8 ?_;obtain ⟨bu,bj,hM⟩:=M.e_bind hM;refine s_call cf99 [ao,.func (.func 77) #[] #[Pq au,Pq av]] rfl (zfi s aa ab ac ae ag ah ai am (rdo 0) (H.os 0) (aN.app _) aO (aP.app _) aQ (aR.app _) aS (aT.app _) aU (aV.app _) aW (aX.app _) (aY.app _) aZ (a6.app _) bj _ ((H.pk [1,0]).gt 1)) ?_
 rintro vq bv ⟨r2,a7,rfl,hvq,aq⟩
 subst vq;(try dsimp only at hM)
 replace H:=H.pk [1,0] |>.bk aq
 clear aq;refine kg 8 ?_
 refine W.cond (r2==(-1)) rfl (fun ak=>?_) (fun ak=>?_)
 ·replace hM:=M.e_t hM ak
  replace ak:=dI ak
  refine kg 5 ?_;refine W.ret ?_
  have aw:=M.e_pure hM
  exact ⟨_,resE_tmp rfl,⟨s,ao,a7,aw,rfl,(H.pk [1,0])⟩⟩
 replace hM:=M.e_f hM ak
 replace ak:=dI ak
 obtain ⟨bw,hM⟩:=M.e_gd hM;refine kg 9 ?_;obtain ⟨bm,ax,bn⟩:=M.e_bind hM
 obtain ⟨bx,ax⟩:=M.e_iter ax
 refine W.loop (fun m σ W=>∃ (l:List Dem) (i:Int) (j:Int) (aj:Value) (B_mem:Base) (ρ:Env),σ=upds ρ [(0,aj),(1,.func (.func 77) #[] #[Pq au,Pq av]),(5,I i),(6,I j)]/\M.iterN (zdn aa ab ac ae ag ah ai am) m (l,i,j)=some bm/\St w W [cMem encDm ap B_mem (zaa aa ab ac ae ag ah ai),cOwn (α:=Dem) 32 aj l] R) ?_ ?_
 ·exact ⟨_,s,r2,r2+1,ao,a7,_,upds_of _ _ ⟨rfl,rfl,rfl,rfl,trivial⟩,ax,H⟩
 rintro bz σ bA ⟨l,i,j,aj,B_mem,ρ,rfl,a8,H⟩
 obtain ⟨ba,bb,bB,hM,ay⟩:=M.e_iterN a8
 simp only [zdn] at hM
 clear a8
 have bC:=((H.os 1)).len_le
 refine kg 8 ?_
 refine W.cond (decide (j<(l.length:Int))) rfl (fun al=>?_) (fun al=>?_)
 ·replace hM:=M.e_t hM al
  replace al:=dI al
  obtain ⟨bD,hM⟩:=M.e_gd hM;refine kg 8 ?_;refine s_val (x_ld (v:=.agg #[I ((l.getD (Int.toNat j) default).spring),I ((l.getD (Int.toNat j) default).town)]) rfl (ld_ag Ag32 Sz32 (At.mono (Dem_atA (H.os 1) (i:=j) (by omega) (by omega)) (H.ol 1)))) ?_;refine t_alloc (cs:=[I 0,I 0]) H Al32 rfl ?_;intro bo bE H;refine t_sw 0 0 [I ((l.getD (Int.toNat j) default).spring),I ((l.getD (Int.toNat j) default).town)] (.agg #[I ((l.getD (Int.toNat j) default).spring),I ((l.getD (Int.toNat j) default).town)]) H rfl rfl Sz32 rfl rfl rfl rfl ?_;intro bF H;refine kg 5 ?_;obtain ⟨bG,bp,hM⟩:=M.e_bind hM;refine s_callv (f:=77) rfl cf77 [.agg #[I ((l.getD (Int.toNat j) default).spring),I ((l.getD (Int.toNat j) default).town)]] rfl (zev (l.getD (Int.toNat j) default) aa ab ac ae ag ah ai am (aN.app _) aO (aP.app _) aQ (aR.app _) aS (aT.app _) aU (aV.app _) aW (aX.app _) (aY.app _) aZ (a6.app _) bp _ ((H.pk [1,0,2]).gt 2)) ?_
  rintro vq bH ⟨r3,az,rfl,hvq,aq⟩
  subst vq;(try dsimp only at hM)
  replace H:=H.pk [1,0,2] |>.bk aq
  clear aq;refine kg 2 ?_
  refine W.cond (!r3) rfl (fun aA=>?_) (fun aA=>?_)
  ·replace hM:=M.e_t hM aA;obtain ⟨bI,hM⟩:=M.e_gd hM;refine kg 6 ?_;refine t_ost (k:=2) (i:=i) (l:=l) (l':=l.set (Int.toNat i) (l.getD (Int.toNat j) default)) (val:=.agg #[I ((l.getD (Int.toNat j) default).spring),I ((l.getD (Int.toNat j) default).town)]) (L':=[cMem encDm ap az (zaa aa ab ac ae ag ah ai),cBlk bo [I ((l.getD (Int.toNat j) default).spring),I ((l.getD (Int.toNat j) default).town)] 32,cOwn (α:=Dem) 32 aj (l.set (Int.toNat i) (l.getD (Int.toNat j) default))]) H rfl Sz32 (by omega) (by omega) (l.getD (Int.toNat j) default) rfl rfl rfl rfl rfl ?_;intro bJ H;refine kg 11 ?_
   exact ⟨ba,bb,l.set (Int.toNat i) (l.getD (Int.toNat j) default),i+1,j+1,aj,az,_,upds_of _ _ ⟨rfl,rfl,rfl,rfl,trivial⟩,M.e_inl hM ay,(H.pk [0,2])⟩
  replace hM:=M.e_f hM aA;refine kg 6 ?_
  exact ⟨ba,bb,l,i,j+1,aj,az,_,upds_of _ _ ⟨rfl,rfl,rfl,rfl,trivial⟩,M.e_inl hM ay,(H.pk [0,2])⟩
 replace hM:=M.e_f hM al
 replace al:=dI al
 refine W.exit ?_
 have br:=M.e_inr hM ay
 subst br;replace hM:=bn;(try dsimp only at hM);obtain ⟨bK,hM⟩:=M.e_gd hM;refine kg 4 ?_
 obtain ⟨bc,bf,bg⟩:=sl_lo T33.und T33.size (H.os 1) (i:=i) (by omega) (by omega)
 replace bg:Sl _ bc (l.drop (Int.toNat i)):=bg
 refine s_val (x_sl (v:=aj) (u:=bc) (lo':=some (I i)) (hi':=none) (mx':=none) rfl rfl rfl rfl (bf _)) ?_;refine t_clrT (k:=1) (i:=i) T33 (by intro u_ aB; first | exact List.all_eq_true.1 (show List.all _ (fun x=>x.oneCell')=true from rfl) u_ aB | (simp at aB; rcases aB with rfl | rfl <;> rfl)) H rfl (by omega) (by omega) bf rfl ?_;intro bh bL bt bM bN H;replace H:=H.nf;refine kg 5 ?_;refine s_val (x_sl (v:=aj) (u:=bh) (lo':=none) (hi':=some (I i)) (mx':=none) rfl rfl rfl rfl (bt _)) ?_;refine kg 2 ?_;refine W.ret ?_
 have aw:=M.e_pure hM
 exact ⟨_,resE_tmp rfl,⟨(l.take (Int.toNat i)),bh,B_mem,aw,rfl,(H.pk [1,0])⟩⟩

def zdC (aa:List Int) (ab:List Span) (ac:List Int) (ae:List Town) (aj ak:Int) (ag:List Flood) (watches:List Int):M ((List Dem) × Int) :=
  M.bind (za1 aa ab ac ae aj ak ag watches) fun x_=>match x_ with
  | (.inl (r1,r2))=>(
  bif r2 != 0 then (
  M.pure (([]),r2))
  else (
  M.fail))
  | (.inr (ah,ai,al,am))=>(
  bif am != 0 then (
  M.fail)
  else (
  M.bind (zaY aa ab ac ae ah ai ag) fun r3 =>
  M.bind (zdW r3 aa ab ac ae ah ai ag al) fun l_s =>
  M.pure (l_s,0)))
theorem ze7 {R:List Chunk} {aO:Cells} {ab:Value} {aP:Cells} {ac:Value} {aQ:Cells} {ae:Value} {aR:Cells} {ag:Value} {aS:Cells} {ah:Value} {aT:Cells} {aA:Value} (al:List Int) (am:List Span) (ao:List Int) (ap:List Town) (ai:Int) (aj:Int) (aq:List Flood) (watches:List Int) (aB:Reads R aO) (aC:Sl aO ab al) (aD:Reads R aP) (aE:Sl aP ac am) (aF:Reads R aQ) (aG:Sl aQ ae ao) (aH:Reads R aR) (aI:Sl aR ag ap) (aJ:Reads R aS) (aK:Sl aS ah aq) (aX:Reads R aT) (aY:Sl aT aA watches) {r:((List Dem) × Int)} (hM:(zdC al am ao ap ai aj aq watches).Ends r) (w:World) (H:St w w [] R):Ret Tryz.prog 31 #[.agg #[ab,ac,ae,ag,I ai,I aj,ah],aA] w fun v w'=>∃ (y0:List Dem) (y1:Int) (u0:Value),(y0,y1)=r/\v = .tuple #[u0,I y1]/\St w w' [cOwn (α:=Dem) 32 u0 y0] R:=by
 refine ret_of_W Tryz.func31 rfl rfl rfl ?_;refine kg 2 ?_;refine t_bx [ab,ac,ae,ag,I ai,I aj,ah] H rfl ?_;intro aU bi H;refine kg 7 ?_;obtain ⟨bj,aZ,hM⟩:=M.e_bind hM;refine s_call cf75 [.agg #[ab,ac,ae,ag,I ai,I aj,ah],aA] rfl (za8 al am ao ap ai aj aq watches (aB.app _) aC (aD.app _) aE (aF.app _) aG (aH.app _) aI (aJ.app _) aK (aX.app _) aY aZ _ (H.gt 1)) ?_
 rintro vq bm (⟨r1,r2,a6,hvq,aa,a7⟩ | ⟨ay,az,aL,a8,au,aV,ba,bb,hvq,aa,aW⟩)
 ·subst a6;subst vq;(try dsimp only at hM);replace H:=H.bk aa;clear aa;refine kg 4 ?_;refine t_alloc (cs:=[.pointer none]) H Al108 rfl ?_;intro av bn H;refine t_alloc (cs:=encB (List.replicate 12 false)) H Al127 rfl ?_;intro ak bo H
  have aM:(List.replicate 12 false).length=12:=by simp
  refine t_sw 1 0 [.pointer none] (.pointer none) H rfl rfl Sz108 rfl rfl rfl rfl ?_;intro bp H;refine t_stArrA (k:=0) (b:=ak) (l:=List.replicate 12 false) (l':=r1) (L':=[cBlk ak (encB r1) 127,cBlk av [.pointer none] 108,cBlk aU [ab,ac,ae,ag,I ai,I aj,ah] 29]) H rfl rfl rfl Sz127 aM a7 rfl ?_;intro br H;refine kg 8 ?_
  refine W.cond (r2 != 0) rfl (fun aw=>?_) (fun aw=>?_)
  ·replace hM:=M.e_t hM aw
   replace aw:=dI aw
   refine kg 6 ?_;replace H:=H.pk [];refine W.ret ?_
   have aN:=M.e_pure hM
   replace H:=H.nilOwn (α:=Dem) 32
   exact ⟨_,resE_tmp2 rfl,⟨([]),r2,(.slice none 0 0),aN,rfl,H⟩⟩
  replace hM:=M.e_f hM aw
  exact (M.e_fail hM).elim
 subst bb;subst vq;(try dsimp only at hM);replace H:=H.bk aa;clear aa;refine kg 4 ?_;refine t_alloc (cs:=[.pointer none]) H Al108 rfl ?_;intro av bt H;refine t_alloc (cs:=encB (List.replicate 12 false)) H Al127 rfl ?_;intro ak bu H
 have aM:(List.replicate 12 false).length=12:=by simp
 refine t_sw 1 0 [Pq au] (Pq au) H rfl rfl Sz108 rfl rfl rfl rfl ?_;intro bv H;refine t_stArrA (k:=0) (b:=ak) (l:=List.replicate 12 false) (l':=aL) (L':=[cBlk ak (encB aL) 127,cBlk av [Pq au] 108,cBlk au [ab,ac,ae,ag,I ay,I az,ah,.map (some aV)] 113,cMem encDm aV ba (zaa al am ao ap ay az aq),cBlk aU [ab,ac,ae,ag,I ai,I aj,ah] 29]) H rfl rfl rfl Sz127 aM aW rfl ?_;intro bw H;refine kg 8 ?_
 refine W.cond (a8 != 0) rfl (fun ax=>?_) (fun ax=>?_)
 ·replace hM:=M.e_t hM ax
  exact (M.e_fail hM).elim
 replace hM:=M.e_f hM ax
 replace ax:=dI ax
 refine kg 4 ?_;obtain ⟨bx,bc,hM⟩:=M.e_bind hM;refine s_call cf68 [Pq au] rfl (zbq al am ao ap ay az aq (aB.app _) aC (aD.app _) aE (aF.app _) aG (aH.app _) aI (aJ.app _) aK (Has.here (k:=2) rfl) bc _ (H.gt 5)) ?_
 rintro vq bz ⟨r3,bf,rfl,hvq,aa⟩
 subst vq;(try dsimp only at hM);replace H:=H.bk aa;clear aa;refine s_val (x_mf (fs:=[]) (cs:=[Pq av,Pq ak]) rfl rfl) ?_;obtain ⟨bA,bg,hM⟩:=M.e_bind hM;refine s_call cf76 [bf,.func (.func 77) #[] #[Pq av,Pq ak]] rfl (zfl r3 al am ao ap ay az aq aL (aB.app _) aC (aD.app _) aE (aF.app _) aG (aH.app _) aI (aJ.app _) aK (Has.here (k:=2) rfl) (Has.here (k:=1) rfl) aW (Has.here (k:=0) rfl) bg _ ((H.pk [0,4,1,2,3,5]).gt 4)) ?_
 rintro vq bB ⟨l_s,bh,bC,rfl,hvq,aa⟩
 subst vq;(try dsimp only at hM)
 replace H:=H.pk [0,4,1,2,3,5] |>.bk aa
 clear aa;refine kg 3 ?_;replace H:=H.pk [0];refine W.ret ?_
 have aN:=M.e_pure hM
 exact ⟨_,resE_tmp2 rfl,⟨l_s,0,bh,aN,rfl,H⟩⟩

end Go.Proofs.YtbldmjejckjflabGreat
end
section
set_option maxRecDepth 100000
set_option maxHeartbeats 16000000
namespace Go.Proofs.YtbldmjejckjflabGreat
open Go Go.Nm
attribute [local irreducible] gd execOp SL SLD SLT WR
def zcJ (aa:List Int) (ab:List Span) (ac:List Int) (ae:List Town) (ag ah:Int) (ai:List Flood) (watches:List Int) (r2:List Dem) (i:Nat):(Bool × Nat)->M ((Bool × Nat) ⊕ Bool):=fun (met,k) =>
  bif decide ((k:Int)<(watches.length:Int)) then (
  M.grd ((!(!met)||(decide ((k:Int)<(watches.length:Int))))) <|
  M.grd ((!(!met)||(decide ((i:Int)<(r2.length:Int))))) <|
  M.bind (M.opt (!met) (za4 aa ab ac ae ag ah ai (watches.getD k 0) (r2.getD i default)) false) fun r3 =>
  M.pure (.inl ((met||r3),k+1)))
  else (
  M.pure (.inr met))
def zdd (aa:List Int) (ab:List Span) (ac:List Int) (ae:List Town) (ag ah:Int) (ai:List Flood) (watches:List Int) (r2:List Dem):(Nat × (List Dem))->M ((Nat × (List Dem)) ⊕ ((List Dem) × (List Dem))):=fun (i,l) =>
  bif decide ((i:Int)<(r2.length:Int)) then (
  M.bind (M.iter (zcJ aa ab ac ae ag ah ai watches r2 i) (false,0)) fun met2 =>
  bif !met2 then (
  M.grd (decide ((i:Int)<(r2.length:Int))) <|
  M.grd (decide ((l.length+([(r2.getD i default)]).length)*16<=140737488355328)) <|
  M.pure (.inl (i+1,l++([(r2.getD i default)]))))
  else (
  M.pure (.inl (i+1,l))))
  else (
  M.pure (.inr (l,l)))
def zdp (aa:List Int) (ab:List Span) (ac:List Int) (ae:List Town) (ag ah:Int) (ai:List Flood) (watches:List Int):M (List Dem) :=
  M.bind (zbw aa ab ac ae ag ah ai) fun r2 =>
  M.bind (M.iter (zdd aa ab ac ae ag ah ai watches r2) (0,[])) fun (l2,l3) =>
  M.pure l3
theorem zef {R:List Chunk} {aI:Cells} {ac:Value} {aJ:Cells} {ae:Value} {aK:Cells} {ag:Value} {aL:Cells} {ah:Value} {aM:Cells} {ai:Value} {aN:Cells} {aC:Value} (ap:List Int) (aq:List Span) (au:List Int) (av:List Town) (aa:Int) (ab:Int) (aw:List Flood) (watches:List Int) (aO:Reads R aI) (aP:Sl aI ac ap) (aQ:Reads R aJ) (aR:Sl aJ ae aq) (aS:Reads R aK) (aT:Sl aK ag au) (aU:Reads R aL) (aV:Sl aL ah av) (aW:Reads R aM) (aX:Sl aM ai aw) (bw:Reads R aN) (bb:Sl aN aC watches) {r:(List Dem)} (hM:(zdp ap aq au av aa ab aw watches).Ends r) (w:World) (H:St w w [] R):Ret Tryz.prog 80 #[.agg #[ac,ae,ag,ah,I aa,I ab,ai],aC] w fun v w'=>∃ (y0:List Dem) (u0:Value),y0=r/\v=u0/\St w w' [cOwn (α:=Dem) 72 u0 y0] R:=by
 refine ret_of_W Tryz.func80 rfl rfl rfl ?_;refine kg 2 ?_;refine t_bx [ac,ae,ag,ah,I aa,I ab,ai] H rfl ?_;intro az bx H;refine kg 5 ?_;obtain ⟨bz,bc,hM⟩:=M.e_bind hM;refine s_call cf69 [.agg #[ac,ae,ag,ah,I aa,I ab,ai]] rfl (zbB ap aq au av aa ab aw (aO.app _) aP (aQ.app _) aR (aS.app _) aT (aU.app _) aV (aW.app _) aX bc _ (H.gt 1)) ?_
 rintro vq bA ⟨r2,ax,rfl,hvq,aY⟩
 subst vq;(try dsimp only at hM);replace H:=H.bk aY;clear aY;refine kg 12 ?_
 replace H:=H.nilOwn (α:=Dem) 72
 obtain ⟨bf,aD,bg⟩:=M.e_bind hM
 obtain ⟨bh,aD⟩:=M.e_iter aD
 refine W.loop (fun m σ W=>∃ (i:Nat) (l:List Dem) (aj:Value) (ρ:Env),σ=upds ρ [(1,aC),(2,Pq az),(5,ax),(6,aj),(7,I (i:Int))]/\M.iterN (zdd ap aq au av aa ab aw watches r2) m (i,l)=some bf/\St w W [cOwn (α:=Dem) 72 aj l,cOwn (α:=Dem) 72 ax r2,cBlk az [ac,ae,ag,ah,I aa,I ab,ai] 53] R) ?_ ?_
 ·exact ⟨_,0,[],(.slice none 0 0),_,upds_of _ _ ⟨rfl,rfl,rfl,rfl,rfl,trivial⟩,aD,H⟩
 rintro bB σ bC ⟨i,l,aj,ρ,rfl,aZ,H⟩
 obtain ⟨a6,a7,bD,hM,aE⟩:=M.e_iterN aZ
 simp only [zdd] at hM
 clear aZ
 have bE:=((H.os 1)).len_le
 refine kg 8 ?_
 refine W.cond (decide ((i:Int)<(r2.length:Int))) rfl (fun ak=>?_) (fun ak=>?_)
 ·replace hM:=M.e_t hM ak
  replace ak:=dI ak
  refine kg 13 ?_;obtain ⟨bi,aF,bj⟩:=M.e_bind hM
  obtain ⟨bh,aF⟩:=M.e_iter aF
  refine W.loop (fun m σ W=>∃ (met:Bool) (k:Nat) (ρ:Env),σ=upds ρ [(1,aC),(2,Pq az),(5,ax),(6,aj),(7,I (i:Int)),(8,B met),(9,I (k:Int))]/\M.iterN (zcJ ap aq au av aa ab aw watches r2 i) m (met,k)=some bi/\St w W [cOwn (α:=Dem) 72 aj l,cOwn (α:=Dem) 72 ax r2,cBlk az [ac,ae,ag,ah,I aa,I ab,ai] 53] R) ?_ ?_
  ·exact ⟨_,false,0,_,upds_of _ _ ⟨rfl,rfl,rfl,rfl,rfl,rfl,rfl,trivial⟩,aF,H⟩
  rintro bF σ bG ⟨met,k,ρ,rfl,a8,H⟩
  obtain ⟨bm,bn,bH,hM,ba⟩:=M.e_iterN a8
  simp only [zcJ] at hM
  clear a8
  have bI:=(bb).len_le
  refine kg 8 ?_
  refine W.cond (decide ((k:Int)<(watches.length:Int))) rfl (fun al=>?_) (fun al=>?_)
  ·replace hM:=M.e_t hM al
   replace al:=dI al
   refine kg 3 ?_;refine W.draw (fun W=>St w W [cOwn (α:=Dem) 72 aj l,cOwn (α:=Dem) 72 ax r2,cBlk az [ac,ae,ag,ah,I aa,I ab,ai] 53] R) [(0,true),(1,true),(2,true),(3,true),(4,true),(5,true),(6,true),(7,true),(8,true),(9,true),(10,true),(11,false),(12,true),(13,true)] mixed (by decide +kernel) rfl ?_;intro bJ ay;replace H:=H.ext ay;clear ay
   refine ⟨(H.pk [0,1,2]),?_⟩
   obtain ⟨aA,hM⟩:=M.e_grd hM
   replace aA:=M.imp_of aA
   simp only [Bool.and_eq_true,decide_eq_true_eq] at aA
   obtain ⟨aB,hM⟩:=M.e_grd hM
   replace aB:=M.imp_of aB
   simp only [Bool.and_eq_true,decide_eq_true_eq] at aB
   refine kg 10 ?_;refine d_qg (!met) rfl (gy_f rfl) (fun hg=>(fun w' H=>x_ld (v:=.agg #[I ((r2.getD i default).spring),I ((r2.getD i default).town)]) (gd_of hg (vat ax 2 (Int.toNat (i:Int)))) (ld_ag Ag72 Sz72 (At.mono (Dem_atA (H.os 1) (i:=(i:Int)) (by have am:=aA.resolve_left (by rw [hg]; decide); have ao:=aB.resolve_left (by rw [hg]; decide); first | exact am | exact am.1 | exact am.2 | exact ao | exact ao.1 | exact ao.2 | omega | (have ay:=hg; simp at ay; omega)) (by have am:=aA.resolve_left (by rw [hg]; decide); have ao:=aB.resolve_left (by rw [hg]; decide); first | exact am | exact am.1 | exact am.2 | exact ao | exact ao.1 | exact ao.2 | omega | (have ay:=hg; simp at ay; omega))) (H.ol 1)))))<|d_l rfl ?_;obtain ⟨r3,bo,hM⟩:=M.e_bind hM;refine t_gcall (!met) (gy_f rfl) cf74 (B r3) (fun _=>[.agg #[ac,ae,ag,ah,I aa,I ab,ai],I (watches.getD k 0),.agg #[I ((r2.getD i default).spring),I ((r2.getD i default).town)]]) (fun hg=>lst3 (gd_of hg (.agg #[ac,ae,ag,ah,I aa,I ab,ai])) (gd_of hg (I (watches.getD k 0))) (gd_of hg (.agg #[I ((r2.getD i default).spring),I ((r2.getD i default).town)]))) H (fun hg=>(zbe ap aq au av aa ab aw (watches.getD k 0) (r2.getD i default) (aO.app _) aP (aQ.app _) aR (aS.app _) aT (aU.app _) aV (aW.app _) aX (M.e_opt bo hg) _ (H.give (A:=[]) rfl)).mono fun v_ w_ ⟨y_,aG,bp,H_⟩=>by subst aG; exact ⟨bp,H.via H_⟩) ?_;intro bK H
   refine s_nil ⟨(H.pk [0,1,2]),?_⟩
   refine d_q rfl (fun w' H=>x_por (b:=met) (r:=r3) rfl rfl (fun hb=>gd_of (c:=!met) (by first | exact hb | (rw [hb]; rfl) | simp_all) (B r3)))<|d_q rfl (fun w' H=>x_as (v:=B (met||r3)) rfl) ?_;refine kg 6 ?_
   exact ⟨bm,bn,(met||r3),k+1,_,upds_of _ _ ⟨rfl,rfl,rfl,rfl,rfl,rfl,rfl,trivial⟩,M.e_inl hM ba,H⟩
  replace hM:=M.e_f hM al
  replace al:=dI al
  refine W.exit ?_
  have br:=M.e_inr hM ba
  subst br;replace hM:=bj;(try dsimp only at hM);refine kg 5 ?_
  refine W.cond (!met) rfl (fun aH=>?_) (fun aH=>?_)
  ·replace hM:=M.e_t hM aH;obtain ⟨bL,hM⟩:=M.e_gd hM;refine kg 5 ?_;refine s_val (x_ld (v:=.agg #[I ((r2.getD i default).spring),I ((r2.getD i default).town)]) rfl (ld_ag Ag72 Sz72 (At.mono (Dem_atA (H.os 1) (i:=(i:Int)) (by omega) (by omega)) (H.ol 1)))) ?_;refine t_bs (α:=Dem) T68 [.agg #[I ((r2.getD i default).spring),I ((r2.getD i default).town)]] [(r2.getD i default)] H rfl (.cons rfl (Flat.rep_enc _ (r2.getD i default))<|.nil) rfl rfl rfl ?_;intro bt bM H;obtain ⟨bN,hM⟩:=M.e_gd hM;refine t_app (α:=Dem) (k:=1) (l:=l) (l2:=[(r2.getD i default)]) (l':=l++([(r2.getD i default)])) (vy:=bt) T68 rfl H rfl rfl rfl (H.os 0) (H.ol 0) (rfl) (by first | omega | (simp only [List.length_nil] at *; omega)) ?_;intro bu bO H;replace H:=H.nf;refine kg 7 ?_
   exact ⟨a6,a7,i+1,l++([(r2.getD i default)]),bu,_,upds_of _ _ ⟨rfl,rfl,rfl,rfl,rfl,trivial⟩,M.e_inl hM aE,(H.pk [1,2,3])⟩
  replace hM:=M.e_f hM aH;refine kg 6 ?_
  exact ⟨a6,a7,i+1,l,aj,_,upds_of _ _ ⟨rfl,rfl,rfl,rfl,rfl,trivial⟩,M.e_inl hM aE,H⟩
 replace hM:=M.e_f hM ak
 replace ak:=dI ak
 refine W.exit ?_
 have bv:=M.e_inr hM aE
 subst bv;replace hM:=bg;(try dsimp only at hM);replace H:=H.pk [0];refine kg 5 ?_;refine W.ret ?_
 have aG:=M.e_pure hM
 exact ⟨_,resE_tmp rfl,⟨l,aj,aG,rfl,H⟩⟩

def zaO (aa:List Int) (ab:List Span) (ac:List Int) (ae:List Town) (ag ah:Int) (ai:List Flood) (watches:List Int):M ((List Dem) × Int) :=
  M.bind (zas aa ab ac ae ag ah ai) fun r2 =>
  bif r2 != 0 then (
  M.pure (([]),r2))
  else (
  M.bind (zbX watches (aa.length:Int)) fun r3 =>
  bif r3 then (
  M.pure (([]),2))
  else (
  M.bind (zdp aa ab ac ae ag ah ai watches) fun r4 =>
  M.pure (r4,0)))
theorem za6 {R:List Chunk} {ay:Cells} {ah:Value} {az:Cells} {ai:Value} {aA:Cells} {aj:Value} {aB:Cells} {ak:Value} {aC:Cells} {al:Value} {aD:Cells} {ao:Value} (ag:List Int) (ap:List Span) (aq:List Int) (au:List Town) (ab:Int) (ac:Int) (av:List Flood) (watches:List Int) (aE:Reads R ay) (aw:Sl ay ah ag) (aF:Reads R az) (aG:Sl az ai ap) (aH:Reads R aA) (aI:Sl aA aj aq) (aJ:Reads R aB) (aK:Sl aB ak au) (aL:Reads R aC) (aM:Sl aC al av) (aN:Reads R aD) (aO:Sl aD ao watches) {r:((List Dem) × Int)} (hM:(zaO ag ap aq au ab ac av watches).Ends r) (w:World) (H:St w w [] R):Ret Tryz.prog 32 #[.agg #[ah,ai,aj,ak,I ab,I ac,al],ao] w fun v w'=>∃ (y0:List Dem) (y1:Int) (u0:Value),(y0,y1)=r/\v = .tuple #[u0,I y1]/\St w w' [cOwn (α:=Dem) 72 u0 y0] R:=by
 refine ret_of_W Tryz.func32 rfl rfl rfl ?_;refine kg 2 ?_;refine t_bx [ah,ai,aj,ak,I ab,I ac,al] H rfl ?_;intro aT aU H;refine kg 7 ?_;obtain ⟨aV,aP,hM⟩:=M.e_bind hM;refine s_call cf14 [.agg #[ah,ai,aj,ak,I ab,I ac,al]] rfl (zav ag ap aq au ab ac av (aE.app _) aw (aF.app _) aG (aH.app _) aI (aJ.app _) aK (aL.app _) aM aP _ (H.gt 1)) ?_
 rintro vq aW ⟨r2,rfl,hvq,aa⟩
 subst vq;(try dsimp only at hM);replace H:=H.bk aa;clear aa;refine kg 7 ?_
 refine W.cond (r2 != 0) rfl (fun ae=>?_) (fun ae=>?_)
 ·replace hM:=M.e_t hM ae
  replace ae:=dI ae
  refine kg 6 ?_;refine W.ret ?_
  have am:=M.e_pure hM
  replace H:=H.nilOwn (α:=Dem) 72
  exact ⟨_,resE_tmp2 rfl,⟨([]),r2,(.slice none 0 0),am,rfl,(H.pk [0])⟩⟩
 replace hM:=M.e_f hM ae
 replace ae:=dI ae
 have aX:=(aw).len_le
 refine kg 8 ?_;obtain ⟨aY,aQ,hM⟩:=M.e_bind hM;refine s_call cf59 [ao,I (ag.length:Int)] rfl (zdR watches (ag.length:Int) (aN.app _) aO aQ _ (H.gt 1)) ?_
 rintro vq aZ ⟨r3,rfl,hvq,aa⟩
 subst vq;(try dsimp only at hM);replace H:=H.bk aa;clear aa;refine s_nil ?_
 refine W.cond r3 rfl (fun ax=>?_) (fun ax=>?_)
 ·replace hM:=M.e_t hM ax;refine kg 5 ?_;refine W.ret ?_
  have am:=M.e_pure hM
  replace H:=H.nilOwn (α:=Dem) 72
  exact ⟨_,resE_tmp2 rfl,⟨([]),2,(.slice none 0 0),am,rfl,(H.pk [0])⟩⟩
 replace hM:=M.e_f hM ax;refine kg 5 ?_;obtain ⟨a6,aR,hM⟩:=M.e_bind hM;refine s_call cf80 [.agg #[ah,ai,aj,ak,I ab,I ac,al],ao] rfl (zef ag ap aq au ab ac av watches (aE.app _) aw (aF.app _) aG (aH.app _) aI (aJ.app _) aK (aL.app _) aM (aN.app _) aO aR _ (H.gt 1)) ?_
 rintro vq a7 ⟨r4,aS,rfl,hvq,aa⟩
 subst vq;(try dsimp only at hM);replace H:=H.bk aa;clear aa;refine kg 3 ?_;refine W.ret ?_
 have am:=M.e_pure hM
 exact ⟨_,resE_tmp2 rfl,⟨r4,0,aS,am,rfl,(H.pk [0])⟩⟩

def zdi (aa:List Int) (set:Nat):(Nat × (List Int))->M ((Nat × (List Int)) ⊕ ((List Int) × (List Int))):=fun (s,l) =>
  bif decide ((s:Int)<(aa.length:Int)) then (
  M.grd (decide (0<=(s:Int))&&decide ((s:Int)<=(62:Int))) <|
  M.grd (decide ((0:Int)<=((set:Int) / 2 ^ s))&&decide ((0:Int)<2)) <|
  bif (((set:Int) / 2 ^ s) % 2)==1 then (
  M.grd (decide ((l.length+([(s:Int)]).length)*8<=140737488355328)) <|
  M.pure (.inl (s+1,l++([(s:Int)]))))
  else (
  M.pure (.inl (s+1,l))))
  else (
  M.pure (.inr (l,l)))
def zcY (aa:List Int) (ab:List Span) (ac:List Int) (ae:List Town) (ag ah:Int) (ai:List Flood):(Int × Nat)->M ((Int × Nat) ⊕ Int):=fun (best,set) =>
  M.grd (decide (0<=(aa.length:Int))&&decide ((aa.length:Int)<=(62:Int))&&decide ((-9223372036854775808:Int)<=(1*2 ^ (aa.length)))&&decide ((1*2 ^ (aa.length))<=(9223372036854775807:Int))) <|
  bif decide ((set:Int)<(1*2 ^ (aa.length))) then (
  M.bind (M.iter (zdi aa set) (0,[])) fun (l2,l3) =>
  bif ((best==(-1))||(decide ((l3.length:Int)<best))) then (
  M.bind (zdp aa ab ac ae ag ah ai l3) fun r3 =>
  bif (((best==(-1))||(decide ((l3.length:Int)<best)))&&((r3.length:Int)==0)) then (
  M.grd (decide ((-9223372036854775808:Int)<=((set:Int)+1))&&decide (((set:Int)+1)<=(9223372036854775807:Int))) <|
  M.pure (.inl ((l3.length:Int),set+1)))
  else (
  M.grd (decide ((-9223372036854775808:Int)<=((set:Int)+1))&&decide (((set:Int)+1)<=(9223372036854775807:Int))) <|
  M.pure (.inl (best,set+1))))
  else (
  M.grd (decide ((-9223372036854775808:Int)<=((set:Int)+1))&&decide (((set:Int)+1)<=(9223372036854775807:Int))) <|
  M.pure (.inl (best,set+1))))
  else (
  M.pure (.inr best))
def zei (aa:List Int) (ab:List Span) (ac:List Int) (ae:List Town) (ag ah:Int) (ai:List Flood):M (Int × Int) :=
  M.bind (zas aa ab ac ae ag ah ai) fun r2 =>
  bif r2 != 0 then (
  M.pure (0,r2))
  else (
  M.bind (M.iter (zcY aa ab ac ae ag ah ai) (-1,0)) fun best2 =>
  bif best2==(-1) then (
  M.pure (0,6))
  else (
  M.pure (best2,0)))
theorem zeE {R:List Chunk} {aK:Cells} {ac:Value} {aL:Cells} {ae:Value} {aM:Cells} {ag:Value} {aN:Cells} {ah:Value} {aO:Cells} {ai:Value} (aj:List Int) (av:List Span) (aw:List Int) (ax:List Town) (aa:Int) (ab:Int) (ay:List Flood) (aP:Reads R aK) (aB:Sl aK ac aj) (aQ:Reads R aL) (aR:Sl aL ae av) (aS:Reads R aM) (aT:Sl aM ag aw) (aU:Reads R aN) (aV:Sl aN ah ax) (aW:Reads R aO) (aX:Sl aO ai ay) {r:(Int × Int)} (hM:(zei aj av aw ax aa ab ay).Ends r) (w:World) (H:St w w [] R):Ret Tryz.prog 34 #[.agg #[ac,ae,ag,ah,I aa,I ab,ai]] w fun v w'=>∃ (y0:Int) (y1:Int),(y0,y1)=r/\v = .tuple #[I y0,I y1]/\St w w' [] R:=by
 refine ret_of_W Tryz.func34 rfl rfl rfl ?_;refine kg 2 ?_;refine t_bx [ac,ae,ag,ah,I aa,I ab,ai] H rfl ?_;intro aC bp H;refine kg 7 ?_;obtain ⟨br,ba,hM⟩:=M.e_bind hM;refine s_call cf14 [.agg #[ac,ae,ag,ah,I aa,I ab,ai]] rfl (zav aj av aw ax aa ab ay (aP.app _) aB (aQ.app _) aR (aS.app _) aT (aU.app _) aV (aW.app _) aX ba _ (H.gt 1)) ?_
 rintro vq bt ⟨r2,rfl,hvq,az⟩
 subst vq;(try dsimp only at hM);replace H:=H.bk az;clear az;refine kg 7 ?_
 refine W.cond (r2 != 0) rfl (fun ak=>?_) (fun ak=>?_)
 ·replace hM:=M.e_t hM ak
  replace ak:=dI ak
  refine kg 6 ?_;refine W.ret ?_
  have aA:=M.e_pure hM
  exact ⟨_,resE_tmp2 rfl,⟨0,r2,aA,rfl,(H.pk [])⟩⟩
 replace hM:=M.e_f hM ak
 replace ak:=dI ak
 refine kg 11 ?_;obtain ⟨bb,aE,bc⟩:=M.e_bind hM
 obtain ⟨bf,aE⟩:=M.e_iter aE
 refine W.loop (fun m σ W=>∃ (best:Int) (set:Nat) (ρ:Env),σ=upds ρ [(1,Pq aC),(5,I best),(6,I (set:Int))]/\M.iterN (zcY aj av aw ax aa ab ay) m (best,set)=some bb/\St w W [cBlk aC [ac,ae,ag,ah,I aa,I ab,ai] 53] R) ?_ ?_
 ·exact ⟨_,-1,0,_,upds_of _ _ ⟨rfl,rfl,rfl,trivial⟩,aE,H⟩
 rintro bu σ bv ⟨best,set,ρ,rfl,aY,H⟩
 obtain ⟨aF,aG,bw,hM,aD⟩:=M.e_iterN aY
 simp only [zcY] at hM
 clear aY
 have bx:=(aB).len_le
 obtain ⟨bz,hM⟩:=M.e_gd hM;refine kg 7 ?_;refine s_val (x_shl (a:=1) (b:=(aj.length:Int)) (n:=(aj.length)) rfl rfl (by omega)) ?_;refine kg 2 ?_
 refine W.cond (decide ((set:Int)<(1*2 ^ (aj.length)))) rfl (fun al=>?_) (fun al=>?_)
 ·replace hM:=M.e_t hM al
  replace al:=dI al
  refine kg 13 ?_
  replace H:=H.nilOwn (α:=Int) 3
  obtain ⟨bg,aH,bh⟩:=M.e_bind hM
  obtain ⟨bf,aH⟩:=M.e_iter aH
  refine W.loop (fun m σ W=>∃ (s:Nat) (l:List Int) (am:Value) (ρ:Env),σ=upds ρ [(1,Pq aC),(5,I best),(6,I (set:Int)),(7,am),(8,I (s:Int))]/\M.iterN (zdi aj set) m (s,l)=some bg/\St w W [cOwn (α:=Int) 3 am l,cBlk aC [ac,ae,ag,ah,I aa,I ab,ai] 53] R) ?_ ?_
  ·exact ⟨_,0,[],(.slice none 0 0),_,upds_of _ _ ⟨rfl,rfl,rfl,rfl,rfl,trivial⟩,aH,H⟩
  rintro bA σ bB ⟨s,l,am,ρ,rfl,aZ,H⟩
  obtain ⟨a6,a7,bC,hM,aI⟩:=M.e_iterN aZ
  simp only [zdi] at hM
  clear aZ
  have bD:=(aB).len_le
  refine kg 9 ?_
  refine W.cond (decide ((s:Int)<(aj.length:Int))) rfl (fun ao=>?_) (fun ao=>?_)
  ·replace hM:=M.e_t hM ao
   replace ao:=dI ao
   obtain ⟨bE,hM⟩:=M.e_gd hM;refine kg 7 ?_;refine s_val (x_shr (a:=(set:Int)) (b:=(s:Int)) (n:=s) rfl rfl (by omega)) ?_;obtain ⟨bF,hM⟩:=M.e_gd hM;refine s_val (x_rem' (a:=(set:Int) / 2 ^ s) (b:=2) rfl rfl (by omega)) ?_;refine kg 2 ?_
   refine W.cond ((((set:Int) / 2 ^ s) % 2)==1) rfl (fun ap=>?_) (fun ap=>?_)
   ·replace hM:=M.e_t hM ap
    replace ap:=dI ap
    refine kg 3 ?_;refine t_bs (α:=Int) T22 [I (s:Int)] [(s:Int)] H rfl (.cons rfl (Flat.rep_enc _ (s:Int))<|.nil) rfl rfl rfl ?_;intro bi bG H;obtain ⟨bH,hM⟩:=M.e_gd hM;refine t_app (α:=Int) (k:=1) (l:=l) (l2:=[(s:Int)]) (l':=l++([(s:Int)])) (vy:=bi) T22 rfl H rfl rfl rfl (H.os 0) (H.ol 0) (rfl) (by first | omega | (simp only [List.length_nil] at *; omega)) ?_;intro bj bI H;replace H:=H.nf;refine kg 7 ?_
    exact ⟨a6,a7,s+1,l++([(s:Int)]),bj,_,upds_of _ _ ⟨rfl,rfl,rfl,rfl,rfl,trivial⟩,M.e_inl hM aI,(H.pk [1,2])⟩
   replace hM:=M.e_f hM ap
   replace ap:=dI ap
   refine kg 6 ?_
   exact ⟨a6,a7,s+1,l,am,_,upds_of _ _ ⟨rfl,rfl,rfl,rfl,rfl,trivial⟩,M.e_inl hM aI,H⟩
  replace hM:=M.e_f hM ao
  replace ao:=dI ao
  refine W.exit ?_
  have bm:=M.e_inr hM aI
  subst bm;replace hM:=bh;(try dsimp only at hM);refine kg 9 ?_;refine s_val (x_por (b:=best==(-1)) (r:=decide ((l.length:Int)<best)) rfl rfl (fun hb=>gd_of (c:=!(best==(-1))) (by first | exact hb | (rw [hb]; rfl) | simp_all) (B (decide ((l.length:Int)<best)))))<|zM (B ((best==(-1))||(decide ((l.length:Int)<best)))) rfl<|g_val ((best==(-1))||(decide ((l.length:Int)<best))) (gy_t rfl) (fun hg=>x_ld (v:=.agg #[ac,ae,ag,ah,I aa,I ab,ai]) rfl (ldb_ag (ds:=[ac,ae,ag,ah,I aa,I ab,ai]) Ag53 Sz53 (H.bl 1) rfl rfl))<|g_val ((best==(-1))||(decide ((l.length:Int)<best))) (gy_t rfl) (fun hg=>x_mv (v:=am) rfl) ?_
  refine g_splitV ((best==(-1))||(decide ((l.length:Int)<best))) (.slice none 0 0) (gy_t rfl) (fun aq=>?_) (fun aq=>?_)
  ·replace hM:=M.e_t hM aq;obtain ⟨bJ,bn,hM⟩:=M.e_bind hM;refine s_call cf80 [.agg #[ac,ae,ag,ah,I aa,I ab,ai],am] (lst2 (gd_of (c:=((best==(-1))||(decide ((l.length:Int)<best)))) aq (.agg #[ac,ae,ag,ah,I aa,I ab,ai])) (gd_of (c:=((best==(-1))||(decide ((l.length:Int)<best)))) aq (am))) (zef aj av aw ax aa ab ay l (aP.app _) aB (aQ.app _) aR (aS.app _) aT (aU.app _) aV (aW.app _) aX (rdo 0) (H.os 0) bn _ (H.gt 2)) ?_
   rintro vq bK ⟨r3,bL,rfl,hvq,az⟩
   subst vq;(try dsimp only at hM);replace H:=H.bk az;clear az;refine g_val ((best==(-1))||(decide ((l.length:Int)<best))) (gy_t rfl) (fun hg=>x_lenS T68.und rfl (H.os 0))<|g_val ((best==(-1))||(decide ((l.length:Int)<best))) (gy_t rfl) (fun hg=>x_cmp (kd:=.i64) (r:=(r3.length:Int)==0) (gd_of hg (I (r3.length:Int))) rfl rfl)<|s_val (x_pand (b:=((best==(-1))||(decide ((l.length:Int)<best)))) (r:=(r3.length:Int)==0) rfl (fun hb=>gd_of (c:=((best==(-1))||(decide ((l.length:Int)<best)))) (by first | exact hb | (rw [hb]; rfl) | simp_all) (B ((r3.length:Int)==0))) rfl)<|s_nil ?_
   refine W.cond (((best==(-1))||(decide ((l.length:Int)<best)))&&((r3.length:Int)==0)) rfl (fun aJ=>?_) (fun aJ=>?_)
   ·replace hM:=M.e_t hM aJ
    have bM:=((H.os 1)).len_le
    obtain ⟨bN,hM⟩:=M.e_gd hM;refine kg 10 ?_
    exact ⟨aF,aG,(l.length:Int),set+1,_,upds_of _ _ ⟨rfl,rfl,rfl,trivial⟩,M.e_inl hM aD,(H.pk [2])⟩
   replace hM:=M.e_f hM aJ;obtain ⟨bO,hM⟩:=M.e_gd hM;refine kg 6 ?_
   exact ⟨aF,aG,best,set+1,_,upds_of _ _ ⟨rfl,rfl,rfl,trivial⟩,M.e_inl hM aD,(H.pk [2])⟩
  replace hM:=M.e_f hM aq;refine g_val (v:=I 0) ((best==(-1))||(decide ((l.length:Int)<best))) (gy_t rfl) (fun hg=>Bool.noConfusion (aq.symm.trans hg))<|g_val (v:=B false) ((best==(-1))||(decide ((l.length:Int)<best))) (gy_t rfl) (fun hg=>Bool.noConfusion (aq.symm.trans hg))<|s_val (x_pand0 (b:=((best==(-1))||(decide ((l.length:Int)<best)))) rfl (fun hb=>gd_of (c:=((best==(-1))||(decide ((l.length:Int)<best)))) (by first | exact hb | (rw [hb]; rfl) | simp_all) (B false)) rfl)<|s_nil ?_
  refine W.cond false rfl (fun a8=>?_) (fun a8=>?_)
  ·skip
   exact absurd a8 (by decide)
  skip
  obtain ⟨bP,hM⟩:=M.e_gd hM;refine kg 6 ?_
  exact ⟨aF,aG,best,set+1,_,upds_of _ _ ⟨rfl,rfl,rfl,trivial⟩,M.e_inl hM aD,(H.pk [1])⟩
 replace hM:=M.e_f hM al
 replace al:=dI al
 refine W.exit ?_
 have bo:=M.e_inr hM aD
 subst bo;replace hM:=bc;(try dsimp only at hM);refine kg 6 ?_
 refine W.cond (best==(-1)) rfl (fun au=>?_) (fun au=>?_)
 ·replace hM:=M.e_t hM au
  replace au:=dI au
  refine kg 5 ?_;refine W.ret ?_
  have aA:=M.e_pure hM
  exact ⟨_,resE_tmp2 rfl,⟨0,6,aA,rfl,(H.pk [])⟩⟩
 replace hM:=M.e_f hM au
 replace au:=dI au
 refine kg 7 ?_;refine W.ret ?_
 have aA:=M.e_pure hM
 exact ⟨_,resE_tmp2 rfl,⟨best,0,aA,rfl,(H.pk [])⟩⟩

def zdA (aa:List Int) (ab:List Span) (ac:List Int) (ae:List Town) (ah ai:Int) (ag:List Flood):M ((List Dem) × Int) :=
  M.bind (zat aa ab ac ae ah ai ag) fun x_=>match x_ with
  | (.inl r1)=>(
  bif r1 != 0 then (
  M.pure (([]),r1))
  else (
  M.fail))
  | (.inr (aj,ak,al))=>(
  bif al != 0 then (
  M.fail)
  else (
  M.bind (zcI aa ab ac ae aj ak ag) fun (r0,am,r2) =>
  bif !r2 then (
  M.pure (([]),6))
  else (
  M.pure (am,0))))
theorem zfm {R:List Chunk} {ax:Cells} {ai:Value} {ay:Cells} {aj:Value} {az:Cells} {ak:Value} {aA:Cells} {al:Value} {aB:Cells} {am:Value} (ao:List Int) (ap:List Span) (aq:List Int) (au:List Town) (ab:Int) (ac:Int) (av:List Flood) (aC:Reads R ax) (aD:Sl ax ai ao) (aE:Reads R ay) (aF:Sl ay aj ap) (aG:Reads R az) (aH:Sl az ak aq) (aI:Reads R aA) (aJ:Sl aA al au) (aK:Reads R aB) (aL:Sl aB am av) {r:((List Dem) × Int)} (hM:(zdA ao ap aq au ab ac av).Ends r) (w:World) (H:St w w [] R):Ret Tryz.prog 35 #[.agg #[ai,aj,ak,al,I ab,I ac,am]] w fun v w'=>∃ (y0:List Dem) (y1:Int) (u0:Value),(y0,y1)=r/\v = .tuple #[u0,I y1]/\St w w' [cOwn (α:=Dem) 32 u0 y0] R:=by
 refine ret_of_W Tryz.func35 rfl rfl rfl ?_;refine kg 2 ?_;refine t_bx [ai,aj,ak,al,I ab,I ac,am] H rfl ?_;intro aW aX H;refine kg 6 ?_;obtain ⟨aY,aM,hM⟩:=M.e_bind hM;refine s_call cf61 [.agg #[ai,aj,ak,al,I ab,I ac,am]] rfl (zaw ao ap aq au ab ac av (aC.app _) aD (aE.app _) aF (aG.app _) aH (aI.app _) aJ (aK.app _) aL aM _ (H.gt 1)) ?_
 rintro vq aZ (⟨r1,aN,hvq,aa⟩ | ⟨aO,aP,aQ,aR,a6,a7,aS,hvq,aa⟩)
 ·subst aN;subst vq;(try dsimp only at hM);replace H:=H.bk aa;clear aa;refine kg 12 ?_
  refine W.cond (r1 != 0) rfl (fun ae=>?_) (fun ae=>?_)
  ·replace hM:=M.e_t hM ae
   replace ae:=dI ae
   refine kg 6 ?_;refine W.ret ?_
   have ag:=M.e_pure hM
   replace H:=H.nilOwn (α:=Dem) 32
   exact ⟨_,resE_tmp2 rfl,⟨([]),r1,(.slice none 0 0),ag,rfl,(H.pk [0])⟩⟩
  replace hM:=M.e_f hM ae
  exact (M.e_fail hM).elim
 subst aS;subst vq;(try dsimp only at hM);replace H:=H.bk aa;clear aa;refine kg 12 ?_
 refine W.cond (aQ != 0) rfl (fun ah=>?_) (fun ah=>?_)
 ·replace hM:=M.e_t hM ah
  exact (M.e_fail hM).elim
 replace hM:=M.e_f hM ah
 replace ah:=dI ah
 refine kg 4 ?_;obtain ⟨a8,aT,hM⟩:=M.e_bind hM;refine s_call cf81 [Pq aR] rfl (zd9 ao ap aq au aO aP av (aC.app _) aD (aE.app _) aF (aG.app _) aH (aI.app _) aJ (aK.app _) aL (Has.here (k:=0) rfl) aT _ ((H.pk [1,0,2]).gt 2)) ?_
 rintro vq ba ⟨r0,aU,r2,bb,aV,bc,rfl,hvq,aa⟩
 subst vq;(try dsimp only at hM)
 replace H:=H.pk [1,0,2] |>.bk aa
 clear aa;refine kg 8 ?_;replace H:=H.pk [1];refine kg 6 ?_
 refine W.cond (!r2) rfl (fun aw=>?_) (fun aw=>?_)
 ·replace hM:=M.e_t hM aw;refine kg 5 ?_;refine W.ret ?_
  have ag:=M.e_pure hM
  replace H:=H.nilOwn (α:=Dem) 32
  exact ⟨_,resE_tmp2 rfl,⟨([]),6,(.slice none 0 0),ag,rfl,(H.pk [0])⟩⟩
 replace hM:=M.e_f hM aw;refine kg 7 ?_;refine W.ret ?_
 have ag:=M.e_pure hM
 exact ⟨_,resE_tmp2 rfl,⟨aU,0,aV,ag,rfl,H⟩⟩

def zcs (aa:List Int) (ab:List Span) (ac:List Int) (ae:List Town) (ag ah:Int) (ai:List Flood) (l:List Dem):Nat->M (Nat ⊕ (Unit ⊕ Unit)):=fun i =>
  bif decide ((i:Int)<(l.length:Int)) then (
  M.grd (decide ((i:Int)<(l.length:Int))) <|
  M.bind (zbF aa ab ac ae ag ah ai (l.getD i default)) fun r3 =>
  bif !r3 then (
  M.pure (.inr (.inl ())))
  else (
  M.pure (.inl (i+1))))
  else (
  M.pure (.inr (.inr ())))
def zdc (aa:List Int) (ab:List Span) (ac:List Int) (ae:List Town) (ag ah:Int) (ai:List Flood) (l:List Dem) (i2 s:Nat):Nat->M (Nat ⊕ (Unit ⊕ Unit)):=fun k =>
  bif decide ((k:Int)<(i2:Int)) then (
  M.grd (decide ((k:Int)<(l.length:Int))) <|
  M.bind (za4 aa ab ac ae ag ah ai (s:Int) (l.getD k default)) fun r5 =>
  bif r5 then (
  M.pure (.inr (.inl ())))
  else (
  M.pure (.inl (k+1))))
  else (
  M.pure (.inr (.inr ())))
def zbC (aa:List Int) (ab:List Span) (ac:List Int) (ae:List Town) (ag ah:Int) (ai:List Flood) (l:List Dem) (i2:Nat):(Nat × Nat)->M ((Nat × Nat) ⊕ (Unit ⊕ Int)):=fun (s,own) =>
  bif decide ((s:Int)<(aa.length:Int)) then (
  M.grd (decide ((i2:Int)<(l.length:Int))) <|
  M.bind (za4 aa ab ac ae ag ah ai (s:Int) (l.getD i2 default)) fun r4 =>
  bif !r4 then (
  M.pure (.inl (s+1,own)))
  else (
  M.grd (decide ((-9223372036854775808:Int)<=((own:Int)+1))&&decide (((own:Int)+1)<=(9223372036854775807:Int))) <|
  M.bind (M.iter (zdc aa ab ac ae ag ah ai l i2 s) 0) fun x_=>match x_ with
  | (.inl (_:Unit))=>(
  M.pure (.inr (.inl ())))
  | (.inr (_:Unit))=>(
  M.pure (.inl (s+1,own+1)))))
  else (
  M.pure (.inr (.inr (own:Int))))
def zcR (aa:List Int) (ab:List Span) (ac:List Int) (ae:List Town) (ag ah:Int) (ai:List Flood) (l:List Dem):Nat->M (Nat ⊕ (Unit ⊕ Unit)):=fun i2 =>
  bif decide ((i2:Int)<(l.length:Int)) then (
  M.bind (M.iter (zbC aa ab ac ae ag ah ai l i2) (0,0)) fun x_=>match x_ with
  | (.inl (_:Unit))=>(
  M.pure (.inr (.inl ())))
  | (.inr own2)=>(
  bif own2==0 then (
  M.pure (.inr (.inl ())))
  else (
  M.pure (.inl (i2+1)))))
  else (
  M.pure (.inr (.inr ())))
def zbZ (aa:List Int) (ab:List Span) (ac:List Int) (ae:List Town) (ag ah:Int) (ai:List Flood) (many:Int) (l:List Dem):M (Bool × Int) :=
  M.bind (zas aa ab ac ae ag ah ai) fun r2 =>
  bif r2 != 0 then (
  M.pure (false,r2))
  else (
  bif decide (64<(l.length:Int)) then (
  M.pure (false,3))
  else (
  M.bind (M.iter (zcs aa ab ac ae ag ah ai l) 0) fun x_=>match x_ with
  | (.inl (_:Unit))=>(
  M.pure (false,2))
  | (.inr (_:Unit))=>(
  M.bind (M.iter (zcR aa ab ac ae ag ah ai l) 0) fun x_=>match x_ with
  | (.inl (_:Unit))=>(
  M.pure (false,0))
  | (.inr (_:Unit))=>(
  M.pure ((decide (many<=(l.length:Int))),0)))))
theorem zd6 {R:List Chunk} {ba:Cells} {ac:Value} {bb:Cells} {ae:Value} {bc:Cells} {ag:Value} {bf:Cells} {ah:Value} {bg:Cells} {ai:Value} {bh:Cells} {aE:Value} (aj:List Int) (ao:List Span) (ap:List Int) (aq:List Town) (aa:Int) (ab:Int) (au:List Flood) (many:Int) (l:List Dem) (aG:Reads R ba) (aF:Sl ba ac aj) (aH:Reads R bb) (aI:Sl bb ae ao) (aJ:Reads R bc) (aK:Sl bc ag ap) (aL:Reads R bf) (aM:Sl bf ah aq) (aN:Reads R bg) (aO:Sl bg ai au) (aR:Reads R bh) (aw:Sl bh aE l) {r:(Bool × Int)} (hM:(zbZ aj ao ap aq aa ab au many l).Ends r) (w:World) (H:St w w [] R):Ret Tryz.prog 36 #[.agg #[ac,ae,ag,ah,I aa,I ab,ai],I many,aE] w fun v w'=>∃ (y0:Bool) (y1:Int),(y0,y1)=r/\v = .tuple #[B y0,I y1]/\St w w' [] R:=by
 refine ret_of_W Tryz.func36 rfl rfl rfl ?_;refine kg 2 ?_;refine t_bx [ac,ae,ag,ah,I aa,I ab,ai] H rfl ?_;intro ak bT H;refine kg 7 ?_;obtain ⟨bU,bv,hM⟩:=M.e_bind hM;refine s_call cf14 [.agg #[ac,ae,ag,ah,I aa,I ab,ai]] rfl (zav aj ao ap aq aa ab au (aG.app _) aF (aH.app _) aI (aJ.app _) aK (aL.app _) aM (aN.app _) aO bv _ (H.gt 1)) ?_
 rintro vq bV ⟨r2,rfl,hvq,al⟩
 subst vq;(try dsimp only at hM);replace H:=H.bk al;clear al;refine kg 7 ?_
 refine W.cond (r2 != 0) rfl (fun ax=>?_) (fun ax=>?_)
 ·replace hM:=M.e_t hM ax
  replace ax:=dI ax
  refine kg 6 ?_;refine W.ret ?_
  have am:=M.e_pure hM
  exact ⟨_,resE_tmp2 rfl,⟨false,r2,am,rfl,(H.pk [])⟩⟩
 replace hM:=M.e_f hM ax
 replace ax:=dI ax
 have bW:=(aw).len_le
 refine kg 8 ?_
 refine W.cond (decide (64<(l.length:Int))) rfl (fun ay=>?_) (fun ay=>?_)
 ·replace hM:=M.e_t hM ay
  replace ay:=dI ay
  refine kg 5 ?_;refine W.ret ?_
  have am:=M.e_pure hM
  exact ⟨_,resE_tmp2 rfl,⟨false,3,am,rfl,(H.pk [])⟩⟩
 replace hM:=M.e_f hM ay
 replace ay:=dI ay
 refine kg 7 ?_;obtain ⟨bw,aS,bi⟩:=M.e_bind hM
 obtain ⟨aT,aS⟩:=M.e_iter aS
 refine W.loop (fun m σ W=>∃ (i:Nat) (ρ:Env),σ=upds ρ [(1,I many),(2,aE),(3,Pq ak),(9,I (i:Int))]/\M.iterN (zcs aj ao ap aq aa ab au l) m i=some bw/\St w W [cBlk ak [ac,ae,ag,ah,I aa,I ab,ai] 53] R) ?_ ?_
 ·exact ⟨_,0,_,upds_of _ _ ⟨rfl,rfl,rfl,rfl,trivial⟩,aS,H⟩
 rintro bX σ bY ⟨i,ρ,rfl,bj,H⟩
 obtain ⟨bx,bz,bZ,hM,aU⟩:=M.e_iterN bj
 simp only [zcs] at hM
 clear bj
 have b0:=(aw).len_le
 refine kg 8 ?_
 refine W.cond (decide ((i:Int)<(l.length:Int))) rfl (fun az=>?_) (fun az=>?_)
 ·replace hM:=M.e_t hM az
  replace az:=dI az
  refine kg 4 ?_;refine W.draw (fun W=>St w W [cBlk ak [ac,ae,ag,ah,I aa,I ab,ai] 53] R) [(0,true),(1,true),(2,true),(3,true),(4,true),(5,false),(6,true)] mixed (by decide +kernel) rfl ?_;intro b1 av;replace H:=H.ext av;clear av
  refine ⟨(H.pk [0]),?_⟩
  obtain ⟨b2,hM⟩:=M.e_gd hM;refine kg 4 ?_;refine d_q rfl (fun w' H=>x_ld (v:=.agg #[I ((l.getD i default).spring),I ((l.getD i default).town)]) rfl (ld_ag Ag72 Sz72 (At.mono (Dem_atA aw (i:=(i:Int)) (by omega) (by omega)) (aR.at H))))<|d_l rfl ?_;obtain ⟨b3,bA,hM⟩:=M.e_bind hM;refine s_call cf73 [.agg #[ac,ae,ag,ah,I aa,I ab,ai],.agg #[I ((l.getD i default).spring),I ((l.getD i default).town)]] rfl (zdF aj ao ap aq aa ab au (l.getD i default) (aG.app _) aF (aH.app _) aI (aJ.app _) aK (aL.app _) aM (aN.app _) aO bA _ (H.gt 1)) ?_
  rintro vq b4 ⟨r3,rfl,hvq,al⟩
  subst vq;(try dsimp only at hM);replace H:=H.bk al;clear al
  refine s_nil ⟨(H.pk [0]),?_⟩
  refine kg 2 ?_
  refine W.cond (!r3) rfl (fun aV=>?_) (fun aV=>?_)
  ·replace hM:=M.e_t hM aV;refine kg 5 ?_;refine W.ret ?_
   have bB:=M.e_inr hM aU
   subst bB;replace hM:=bi;(try dsimp only at hM)
   have am:=M.e_pure hM
   exact ⟨_,resE_tmp2 rfl,⟨false,2,am,rfl,(H.pk [])⟩⟩
  replace hM:=M.e_f hM aV;refine kg 6 ?_
  exact ⟨bx,bz,i+1,_,upds_of _ _ ⟨rfl,rfl,rfl,rfl,trivial⟩,M.e_inl hM aU,H⟩
 replace hM:=M.e_f hM az
 replace az:=dI az
 refine W.exit ?_
 have bC:=M.e_inr hM aU
 subst bC;replace hM:=bi;(try dsimp only at hM);refine kg 6 ?_;obtain ⟨bD,aW,aX⟩:=M.e_bind hM
 obtain ⟨aT,aW⟩:=M.e_iter aW
 refine W.loop (fun m σ W=>∃ (i2:Nat) (ρ:Env),σ=upds ρ [(1,I many),(2,aE),(3,Pq ak),(10,I (i2:Int))]/\M.iterN (zcR aj ao ap aq aa ab au l) m i2=some bD/\St w W [cBlk ak [ac,ae,ag,ah,I aa,I ab,ai] 53] R) ?_ ?_
 ·exact ⟨_,0,_,upds_of _ _ ⟨rfl,rfl,rfl,rfl,trivial⟩,aW,H⟩
 rintro b5 σ b6 ⟨i2,ρ,rfl,bm,H⟩
 obtain ⟨bE,bF,b7,hM,aP⟩:=M.e_iterN bm
 simp only [zcR] at hM
 clear bm
 have b8:=(aw).len_le
 refine kg 8 ?_
 refine W.cond (decide ((i2:Int)<(l.length:Int))) rfl (fun aA=>?_) (fun aA=>?_)
 ·replace hM:=M.e_t hM aA
  replace aA:=dI aA
  refine kg 13 ?_;obtain ⟨bG,aY,bn⟩:=M.e_bind hM
  obtain ⟨aT,aY⟩:=M.e_iter aY
  refine W.loop (fun m σ W=>∃ (s:Nat) (own:Nat) (ρ:Env),σ=upds ρ [(1,I many),(2,aE),(3,Pq ak),(10,I (i2:Int)),(11,I (own:Int)),(12,I (s:Int))]/\M.iterN (zbC aj ao ap aq aa ab au l i2) m (s,own)=some bG/\St w W [cBlk ak [ac,ae,ag,ah,I aa,I ab,ai] 53] R) ?_ ?_
  ·exact ⟨_,0,0,_,upds_of _ _ ⟨rfl,rfl,rfl,rfl,rfl,rfl,trivial⟩,aY,H⟩
  rintro b9 σ ca ⟨s,own,ρ,rfl,bo,H⟩
  obtain ⟨bp,br,cb,hM,aQ⟩:=M.e_iterN bo
  simp only [zbC] at hM
  clear bo
  have cc:=(aF).len_le
  refine kg 9 ?_
  refine W.cond (decide ((s:Int)<(aj.length:Int))) rfl (fun aB=>?_) (fun aB=>?_)
  ·replace hM:=M.e_t hM aB
   replace aB:=dI aB
   refine kg 5 ?_;refine W.draw (fun W=>St w W [cBlk ak [ac,ae,ag,ah,I aa,I ab,ai] 53] R) [(0,true),(1,true),(2,true),(3,true),(4,true),(5,true),(6,false),(7,true)] mixed (by decide +kernel) rfl ?_;intro cd av;replace H:=H.ext av;clear av
   refine ⟨(H.pk [0]),?_⟩
   obtain ⟨ce,hM⟩:=M.e_gd hM;refine kg 5 ?_;refine d_q rfl (fun w' H=>x_ld (v:=.agg #[I ((l.getD i2 default).spring),I ((l.getD i2 default).town)]) rfl (ld_ag Ag72 Sz72 (At.mono (Dem_atA aw (i:=(i2:Int)) (by omega) (by omega)) (aR.at H))))<|d_l rfl ?_;obtain ⟨cf,bH,hM⟩:=M.e_bind hM;refine s_call cf74 [.agg #[ac,ae,ag,ah,I aa,I ab,ai],I (s:Int),.agg #[I ((l.getD i2 default).spring),I ((l.getD i2 default).town)]] rfl (zbe aj ao ap aq aa ab au (s:Int) (l.getD i2 default) (aG.app _) aF (aH.app _) aI (aJ.app _) aK (aL.app _) aM (aN.app _) aO bH _ (H.gt 1)) ?_
   rintro vq cg ⟨r4,rfl,hvq,al⟩
   subst vq;(try dsimp only at hM);replace H:=H.bk al;clear al
   refine s_nil ⟨(H.pk [0]),?_⟩
   refine kg 2 ?_
   refine W.cond (!r4) rfl (fun aZ=>?_) (fun aZ=>?_)
   ·replace hM:=M.e_t hM aZ;refine W.exit ?_;refine kg 5 ?_
    exact ⟨bp,br,s+1,own,_,upds_of _ _ ⟨rfl,rfl,rfl,rfl,rfl,rfl,trivial⟩,M.e_inl hM aQ,H⟩
   replace hM:=M.e_f hM aZ;obtain ⟨ci,hM⟩:=M.e_gd hM;refine kg 12 ?_;obtain ⟨bI,a6,bt⟩:=M.e_bind hM
   obtain ⟨aT,a6⟩:=M.e_iter a6
   refine W.loop (fun m σ W=>∃ (k:Nat) (ρ:Env),σ=upds ρ [(1,I many),(2,aE),(3,Pq ak),(10,I (i2:Int)),(11,I ((own:Int)+1)),(12,I (s:Int)),(13,I (k:Int))]/\M.iterN (zdc aj ao ap aq aa ab au l i2 s) m k=some bI/\St w W [cBlk ak [ac,ae,ag,ah,I aa,I ab,ai] 53] R) ?_ ?_
   ·exact ⟨_,0,_,upds_of _ _ ⟨rfl,rfl,rfl,rfl,rfl,rfl,rfl,trivial⟩,a6,H⟩
   rintro cj σ ck ⟨k,ρ,rfl,bu,H⟩
   obtain ⟨bJ,bK,cm,hM,a7⟩:=M.e_iterN bu
   simp only [zdc] at hM
   clear bu;refine kg 7 ?_
   refine W.cond (decide ((k:Int)<(i2:Int))) rfl (fun aC=>?_) (fun aC=>?_)
   ·replace hM:=M.e_t hM aC
    replace aC:=dI aC
    refine kg 4 ?_;refine W.draw (fun W=>St w W [cBlk ak [ac,ae,ag,ah,I aa,I ab,ai] 53] R) [(0,true),(1,true),(2,true),(3,true),(4,true),(5,true),(6,false)] mixed (by decide +kernel) rfl ?_;intro cn av;replace H:=H.ext av;clear av
    refine ⟨(H.pk [0]),?_⟩
    obtain ⟨co,hM⟩:=M.e_gd hM;refine kg 5 ?_;refine d_q rfl (fun w' H=>x_ld (v:=.agg #[I ((l.getD k default).spring),I ((l.getD k default).town)]) rfl (ld_ag Ag72 Sz72 (At.mono (Dem_atA aw (i:=(k:Int)) (by omega) (by omega)) (aR.at H))))<|d_l rfl ?_;obtain ⟨cp,bL,hM⟩:=M.e_bind hM;refine s_call cf74 [.agg #[ac,ae,ag,ah,I aa,I ab,ai],I (s:Int),.agg #[I ((l.getD k default).spring),I ((l.getD k default).town)]] rfl (zbe aj ao ap aq aa ab au (s:Int) (l.getD k default) (aG.app _) aF (aH.app _) aI (aJ.app _) aK (aL.app _) aM (aN.app _) aO bL _ (H.gt 1)) ?_
    rintro vq cq ⟨r5,rfl,hvq,al⟩
    subst vq;(try dsimp only at hM);replace H:=H.bk al;clear al
    refine s_nil ⟨(H.pk [0]),?_⟩
    refine d_nil ?_
    refine W.cond r5 rfl (fun a8=>?_) (fun a8=>?_)
    ·replace hM:=M.e_t hM a8;refine kg 5 ?_;refine W.ret ?_
     have bM:=M.e_inr hM a7
     subst bM;replace hM:=bt;(try dsimp only at hM)
     have bN:=M.e_inr hM aQ
     subst bN;replace hM:=bn;(try dsimp only at hM)
     have bO:=M.e_inr hM aP
     subst bO;replace hM:=aX;(try dsimp only at hM)
     have am:=M.e_pure hM
     exact ⟨_,resE_tmp2 rfl,⟨false,0,am,rfl,(H.pk [])⟩⟩
    replace hM:=M.e_f hM a8;refine kg 6 ?_
    exact ⟨bJ,bK,k+1,_,upds_of _ _ ⟨rfl,rfl,rfl,rfl,rfl,rfl,rfl,trivial⟩,M.e_inl hM a7,H⟩
   replace hM:=M.e_f hM aC
   replace aC:=dI aC
   refine W.exit ?_
   have bP:=M.e_inr hM a7
   subst bP;replace hM:=bt;(try dsimp only at hM);refine kg 5 ?_
   exact ⟨bp,br,s+1,own+1,_,upds_of _ _ ⟨rfl,rfl,rfl,rfl,rfl,rfl,trivial⟩,M.e_inl hM aQ,H⟩
  replace hM:=M.e_f hM aB
  replace aB:=dI aB
  refine W.exit ?_
  have bQ:=M.e_inr hM aQ
  subst bQ;replace hM:=bn;(try dsimp only at hM);refine kg 5 ?_
  refine W.cond ((own:Int)==0) rfl (fun aD=>?_) (fun aD=>?_)
  ·replace hM:=M.e_t hM aD
   replace aD:=dI aD
   refine kg 5 ?_;refine W.ret ?_
   have bR:=M.e_inr hM aP
   subst bR;replace hM:=aX;(try dsimp only at hM)
   have am:=M.e_pure hM
   exact ⟨_,resE_tmp2 rfl,⟨false,0,am,rfl,(H.pk [])⟩⟩
  replace hM:=M.e_f hM aD
  replace aD:=dI aD
  refine kg 6 ?_
  exact ⟨bE,bF,i2+1,_,upds_of _ _ ⟨rfl,rfl,rfl,rfl,trivial⟩,M.e_inl hM aP,H⟩
 replace hM:=M.e_f hM aA
 replace aA:=dI aA
 refine W.exit ?_
 have bS:=M.e_inr hM aP
 subst bS;replace hM:=aX;(try dsimp only at hM)
 have cr:=(aw).len_le
 refine kg 9 ?_;refine W.ret ?_
 have am:=M.e_pure hM
 exact ⟨_,resE_tmp2 rfl,⟨(decide (many<=(l.length:Int))),0,am,rfl,(H.pk [])⟩⟩

def zcS (x:Dem) (aa:List Int) (ab:List Span) (ac:List Int) (ae:List Town) (ag ah:Int) (ai:List Flood):M Bool :=
  M.bind (zcQ aa ab ac ae ag ah ai x) fun r2 =>
  M.pure (!r2)
theorem ze1 {R:List Chunk} {ak:Nat} {aa:Nat} {al:Cells} {am:Value} {ao:Cells} {ap:Value} {aq:Cells} {au:Value} {av:Cells} {aw:Value} {ax:Cells} {ay:Value} {aA:Nat} (x:Dem) (ab:List Int) (ac:List Span) (ae:List Int) (ag:List Town) (ah:Int) (ai:Int) (aj:List Flood) (aB:Reads R al) (aC:Sl al am ab) (aD:Reads R ao) (aE:Sl ao ap ac) (aF:Reads R aq) (aG:Sl aq au ae) (aH:Reads R av) (aI:Sl av aw ag) (aJ:Reads R ax) (aK:Sl ax ay aj) (aL:Has R (cBlk aa [am,ap,au,aw,I ah,I ai,ay,.map (some aA)] 113)) (aO:Has R (cBlk ak [.func (.func 70) #[Pq aa] #[]] 122)) {r:Bool} (hM:(zcS x ab ac ae ag ah ai aj).Ends r) (w:World) (H:St w w [] R):Ret Tryz.prog 107 #[.agg #[I x.spring,I x.town],Pq ak] w fun v w'=>∃ (y0:Bool),y0=r/\v=B y0/\St w w' [] R:=by
 refine ret_of_W Tryz.func107 rfl rfl rfl ?_;refine kg 2 ?_;refine t_bx [I x.spring,I x.town] H rfl ?_;intro aP aQ H;refine kg 6 ?_;obtain ⟨aR,aM,hM⟩:=M.e_bind hM;refine s_callm (f:=70) (fs:=[Pq aa]) rfl cf70 [.agg #[I x.spring,I x.town]] rfl (zer ab ac ae ag ah ai aj x (aB.app _) aC (aD.app _) aE (aF.app _) aG (aH.app _) aI (aJ.app _) aK (aL.app _) aM _ (H.gt 1)) ?_
 rintro vq aS ⟨r2,rfl,hvq,az⟩
 subst vq;(try dsimp only at hM);replace H:=H.bk az;clear az;refine kg 3 ?_;refine W.ret ?_
 have aN:=M.e_pure hM
 exact ⟨_,resE_tmp rfl,⟨(!r2),aN,rfl,(H.pk [])⟩⟩

def zdB (l:List Dem) (aa:List Int) (ab:List Span) (ac:List Int) (ae:List Town) (ag ah:Int) (ai:List Flood):M Bool :=
  M.bind (zca l (fun aj=>zcS aj aa ab ac ae ag ah ai)) fun r2 =>
  M.pure (!r2)
theorem zeW {R:List Chunk} {ao:Cells} {aj:Value} {ak:Nat} {ap:Cells} {aq:Value} {au:Cells} {av:Value} {aw:Cells} {ax:Value} {ay:Cells} {az:Value} {aA:Cells} {aB:Value} {aE:Nat} (l:List Dem) (aa:List Int) (ab:List Span) (ac:List Int) (ae:List Town) (ag:Int) (ah:Int) (ai:List Flood) (aF:Reads R ao) (aG:Sl ao aj l) (aH:Reads R ap) (aI:Sl ap aq aa) (aJ:Reads R au) (aK:Sl au av ab) (aL:Reads R aw) (aM:Sl aw ax ac) (aN:Reads R ay) (aO:Sl ay az ae) (aP:Reads R aA) (aQ:Sl aA aB ai) (aR:Has R (cBlk ak [aq,av,ax,az,I ag,I ah,aB,.map (some aE)] 113)) {r:Bool} (hM:(zdB l aa ab ac ae ag ah ai).Ends r) (w:World) (H:St w w [] R):Ret Tryz.prog 82 #[aj,.func (.func 70) #[Pq ak] #[]] w fun v w'=>∃ (y0:Bool),y0=r/\v=B y0/\St w w' [] R:=by
 refine ret_of_W Tryz.func82 rfl rfl rfl ?_;refine kg 2 ?_;refine t_b1 (.func (.func 70) #[Pq ak] #[]) H rfl rfl ?_;intro al a7 H;refine kg 5 ?_;refine s_val (x_mf (fs:=[]) (cs:=[Pq al]) rfl rfl) ?_;obtain ⟨a8,aS,hM⟩:=M.e_bind hM;refine s_call cf97 [aj,.func (.func 107) #[] #[Pq al]] rfl (zdY l (fun am=>zcS am aa ab ac ae ag ah ai) (aF.app _) aG ⟨107,[Pq al],rfl,cf107,fun aC ba bb aT am bc aU bf aV aW=>by obtain rfl:=Dem_arg aV; exact (ze1 am aa ab ac ae ag ah ai (Reads.app (aH.app _) _) aI (Reads.app (aJ.app _) _) aK (Reads.app (aL.app _) _) aM (Reads.app (aN.app _) _) aO (Reads.app (aP.app _) _) aQ (Has.app (aR.app _) _) (Has.app (Has.here (k:=0) rfl) _) aW aC (St.refl aU)).mono fun aT aC ⟨bg,aX,aY,aZ⟩=>by subst aX; exact ⟨aY,aZ⟩⟩ aS _ (H.gt 1)) ?_
 rintro vq bh ⟨r2,rfl,hvq,aD⟩
 subst vq;(try dsimp only at hM);replace H:=H.bk aD;clear aD;refine kg 3 ?_;refine W.ret ?_
 have a6:=M.e_pure hM
 exact ⟨_,resE_tmp rfl,⟨(!r2),a6,rfl,(H.pk [])⟩⟩

def zbQ (s:Int) (k0:List Bool):M Bool :=
  M.grd (decide ((0:Int)<=s)&&decide (s<(12:Int))) <|
  M.pure (k0.getD (Int.toNat s) false)
theorem zeC {R:List Chunk} {aa:Nat} (s:Int) (k0:List Bool) (ab:k0.length=12) (ac:Has R (cBlk aa (encB k0) 127)) {r:Bool} (hM:(zbQ s k0).Ends r) (w:World) (H:St w w [] R):Ret Tryz.prog 83 #[I s,Pq aa] w fun v w'=>∃ (y0:Bool),y0=r/\v=B y0/\St w w' [] R:=by
 refine ret_of_W Tryz.func83 rfl rfl rfl ?_;obtain ⟨ag,hM⟩:=M.e_gd hM;refine kg 7 ?_;refine s_val (x_ix (v:=.pointer (some ⟨aa,0+Int.toNat s,none⟩)) rfl rfl (run_indexArr Tryz.underlying127 Sz4 (by omega) (by omega)))<|s_val (x_ld (v:=B (k0.getD (Int.toNat s) false)) rfl (ldArr Sc4 (ac.blk H) (by omega) (by have ah:=ab; omega))) ?_;refine kg 2 ?_;refine W.ret ?_
 have ae:=M.e_pure hM
 exact ⟨_,resE_tmp rfl,⟨(k0.getD (Int.toNat s) false),ae,rfl,H⟩⟩

def zcb (r3:List Int):((List Bool) × Nat)->M (((List Bool) × Nat) ⊕ (List Bool)):=fun (ar,s) =>
  bif decide ((s:Int)<(r3.length:Int)) then (
  M.grd (decide ((s:Int)<(r3.length:Int))) <|
  M.grd (decide ((0:Int)<=(r3.getD s 0))&&decide ((r3.getD s 0)<(12:Int))) <|
  M.pure (.inl (ar.set (Int.toNat (r3.getD s 0)) true,s+1)))
  else (
  M.pure (.inr ar))
def zcj (ab:List Int) (ac:List Span) (ae:List Int) (ag:List Town) (ah:List Flood) (l:List Dem) (ai aj:Int):((List Bool) × Nat)->M (((List Bool) × Nat) ⊕ ((List Bool) ⊕ (List Bool))):=fun (aa,s2) =>
  bif decide ((s2:Int)<(l.length:Int)) then (
  M.grd (decide ((s2:Int)<(l.length:Int))) <|
  M.bind (zaa ab ac ae ag ai aj ah (l.getD s2 default)) fun r3 =>
  M.bind (M.opt (!((r3.length:Int)==0)) (za7 r3 (fun ak=>zbQ ak aa)) false) fun r4 =>
  bif (((r3.length:Int)==0)||r4) then (
  M.pure (.inr (.inl aa)))
  else (
  M.bind (M.iter (zcb r3) (aa,0)) fun al =>
  M.pure (.inl (al,s2+1))))
  else (
  M.pure (.inr (.inr aa)))
def zep (aa:List Int) (ab:List Span) (ac:List Int) (ae:List Town) (aj ak:Int) (ag:List Flood) (many:Int) (l:List Dem):M (Bool × Int) :=
  M.bind (zat aa ab ac ae aj ak ag) fun x_=>match x_ with
  | (.inl r1)=>(
  bif r1 != 0 then (
  M.pure (false,r1))
  else (
  M.fail))
  | (.inr (ah,ai,al))=>(
  bif al != 0 then (
  M.fail)
  else (
  bif decide (64<(l.length:Int)) then (
  M.pure (false,3))
  else (
  M.bind (zdB l aa ab ac ae ah ai ag) fun r2 =>
  bif !r2 then (
  M.pure (false,2))
  else (
  M.bind (M.iter (zcj aa ab ac ae ag l ah ai) (List.replicate 12 false,0)) fun x_=>match x_ with
  | (.inl am)=>(
  M.pure (false,0))
  | (.inr ao)=>(
  M.pure ((decide (many<=(l.length:Int))),0))))))
theorem ze8 {R:List Chunk} {a8:Cells} {ae:Value} {ba:Cells} {ag:Value} {bb:Cells} {ah:Value} {bc:Cells} {ai:Value} {bf:Cells} {aj:Value} {bg:Cells} {ay:Value} (ak:List Int) (al:List Span) (am:List Int) (ao:List Town) (av:Int) (aw:Int) (ap:List Flood) (many:Int) (l:List Dem) (aJ:Reads R a8) (aK:Sl a8 ae ak) (aL:Reads R ba) (aM:Sl ba ag al) (aN:Reads R bb) (aO:Sl bb ah am) (aP:Reads R bc) (aQ:Sl bc ai ao) (aR:Reads R bf) (aS:Sl bf aj ap) (bh:Reads R bg) (aE:Sl bg ay l) {r:(Bool × Int)} (hM:(zep ak al am ao av aw ap many l).Ends r) (w:World) (H:St w w [] R):Ret Tryz.prog 37 #[.agg #[ae,ag,ah,ai,I av,I aw,aj],I many,ay] w fun v w'=>∃ (y0:Bool) (y1:Int),(y0,y1)=r/\v = .tuple #[B y0,I y1]/\St w w' [] R:=by
 refine ret_of_W Tryz.func37 rfl rfl rfl ?_;refine kg 2 ?_;refine t_bx [ae,ag,ah,ai,I av,I aw,aj] H rfl ?_;intro aT bX H;refine kg 6 ?_;obtain ⟨bY,bt,hM⟩:=M.e_bind hM;refine s_call cf61 [.agg #[ae,ag,ah,ai,I av,I aw,aj]] rfl (zaw ak al am ao av aw ap (aJ.app _) aK (aL.app _) aM (aN.app _) aO (aP.app _) aQ (aR.app _) aS bt _ (H.gt 1)) ?_
 rintro vq bZ (⟨r1,bu,hvq,ab⟩ | ⟨aq,au,bv,ax,aD,bw,bx,hvq,ab⟩)
 ·subst bu;subst vq;(try dsimp only at hM);replace H:=H.bk ab;clear ab;refine kg 14 ?_
  refine W.cond (r1 != 0) rfl (fun aF=>?_) (fun aF=>?_)
  ·replace hM:=M.e_t hM aF
   replace aF:=dI aF
   refine kg 6 ?_;refine W.ret ?_
   have ac:=M.e_pure hM
   exact ⟨_,resE_tmp2 rfl,⟨false,r1,ac,rfl,(H.pk [])⟩⟩
  replace hM:=M.e_f hM aF
  exact (M.e_fail hM).elim
 subst bx;subst vq;(try dsimp only at hM);replace H:=H.bk ab;clear ab;refine kg 14 ?_
 refine W.cond (bv != 0) rfl (fun aG=>?_) (fun aG=>?_)
 ·replace hM:=M.e_t hM aG
  exact (M.e_fail hM).elim
 replace hM:=M.e_f hM aG
 replace aG:=dI aG
 have b0:=(aE).len_le
 refine kg 7 ?_
 refine W.cond (decide (64<(l.length:Int))) rfl (fun az=>?_) (fun az=>?_)
 ·replace hM:=M.e_t hM az
  replace az:=dI az
  refine kg 5 ?_;replace H:=H.pk [];refine W.ret ?_
  have ac:=M.e_pure hM
  exact ⟨_,resE_tmp2 rfl,⟨false,3,ac,rfl,H⟩⟩
 replace hM:=M.e_f hM az
 replace az:=dI az
 refine kg 4 ?_;refine s_val (x_mf (fs:=[Pq ax]) (cs:=[]) rfl rfl) ?_;obtain ⟨b1,bz,hM⟩:=M.e_bind hM;refine s_call cf82 [ay,.func (.func 70) #[Pq ax] #[]] rfl (zeW l ak al am ao aq au ap (bh.app _) aE (aJ.app _) aK (aL.app _) aM (aN.app _) aO (aP.app _) aQ (aR.app _) aS (Has.here (k:=0) rfl) bz _ (H.gt 3)) ?_
 rintro vq b2 ⟨r2,rfl,hvq,ab⟩
 subst vq;(try dsimp only at hM);replace H:=H.bk ab;clear ab;refine kg 3 ?_
 refine W.cond (!r2) rfl (fun aU=>?_) (fun aU=>?_)
 ·replace hM:=M.e_t hM aU;refine kg 5 ?_;replace H:=H.pk [];refine W.ret ?_
  have ac:=M.e_pure hM
  exact ⟨_,resE_tmp2 rfl,⟨false,2,ac,rfl,H⟩⟩
 replace hM:=M.e_f hM aU;refine kg 3 ?_;refine t_alloc (cs:=encB (List.replicate 12 false)) H Al127 rfl ?_;intro aa b3 H
 have bA:(List.replicate 12 false).length=12:=by simp
 have b4:=(aE).len_le
 refine kg 9 ?_;obtain ⟨bB,aV,bi⟩:=M.e_bind hM
 obtain ⟨bC,aV⟩:=M.e_iter aV
 refine W.loop (fun m σ W=>∃ (aA:List Bool) (s2:Nat) (B_mem:Base) (ρ:Env),σ=upds ρ [(1,I many),(2,ay),(8,Pq ax),(10,Pq aa),(35,ay),(36,I (l.length:Int)),(37,I (s2:Int))]/\M.iterN (zcj ak al am ao ap l aq au) m (aA,s2)=some bB/\St w W [cBlk aa (encB aA) 127,cBlk ax [ae,ag,ah,ai,I aq,I au,aj,.map (some aD)] 113,cMem encDm aD B_mem (zaa ak al am ao aq au ap),cBlk aT [ae,ag,ah,ai,I av,I aw,aj] 29] R/\aA.length=12) ?_ ?_
 ·exact ⟨_,List.replicate 12 false,0,bw,_,upds_of _ _ ⟨rfl,rfl,rfl,rfl,rfl,rfl,rfl,trivial⟩,aV,H,bA⟩
 rintro b5 σ b6 ⟨aA,s2,B_mem,ρ,rfl,bj,H,bm⟩
 obtain ⟨bD,bE,b7,hM,aW⟩:=M.e_iterN bj
 simp only [zcj] at hM
 clear bj;refine kg 5 ?_
 refine W.cond (decide ((s2:Int)<(l.length:Int))) rfl (fun aB=>?_) (fun aB=>?_)
 ·replace hM:=M.e_t hM aB
  replace aB:=dI aB
  obtain ⟨b8,hM⟩:=M.e_gd hM;refine kg 6 ?_;refine s_val (x_ld (v:=.agg #[I ((l.getD s2 default).spring),I ((l.getD s2 default).town)]) rfl (ld_ag Ag32 Sz32 (At.mono (Dem_atA aE (i:=(s2:Int)) (by omega) (by omega)) (bh.at H)))) ?_;refine t_alloc (cs:=[I 0,I 0]) H Al32 rfl ?_;intro bn b9 H;refine t_sw 0 0 [I ((l.getD s2 default).spring),I ((l.getD s2 default).town)] (.agg #[I ((l.getD s2 default).spring),I ((l.getD s2 default).town)]) H rfl rfl Sz32 rfl rfl rfl rfl ?_;intro ca H;refine kg 5 ?_;obtain ⟨cb,bF,hM⟩:=M.e_bind hM;refine s_call cf72 [Pq ax,.agg #[I ((l.getD s2 default).spring),I ((l.getD s2 default).town)]] rfl (zaN ak al am ao aq au ap (l.getD s2 default) (aJ.app _) aK (aL.app _) aM (aN.app _) aO (aP.app _) aQ (aR.app _) aS (Has.here (k:=2) rfl) bF _ ((H.pk [3,0,1,2,4]).gt 4)) ?_
  rintro vq cc ⟨r3,aH,aX,rfl,hvq,ab,aI⟩
  subst vq;(try dsimp only at hM)
  replace H:=H.pk [3,0,1,2,4] |>.bk ab
  clear ab
  have cd:=(aI).len_le
  refine kg 10 ?_;refine g_val (!((r3.length:Int)==0)) (gy_f rfl) (fun hg=>x_mf (fs:=[]) (cs:=[Pq aa]) rfl rfl) ?_;obtain ⟨r4,bG,hM⟩:=M.e_bind hM;refine t_gcall (!((r3.length:Int)==0)) (gy_f rfl) cf78 (B r4) (fun _=>[aH,.func (.func 83) #[] #[Pq aa]]) (fun hg=>lst2 (gd_of hg (aH)) (gd_of hg (.func (.func 83) #[] #[Pq aa]))) H (fun hg=>(zc2 r3 (fun aY=>zbQ aY aA) (Reads.of (k:=0) rfl memLe) aI ⟨83,[Pq aa],rfl,cf83,fun bo ce cf bH aY cg bI ci bJ bK=>by obtain rfl:=Arg.int bJ; exact (zeC aY aA bm (Has.app (Has.here (k:=2) rfl) _) bK bo (St.refl bI)).mono fun bH bo ⟨cj,bL,bM,bN⟩=>by subst bL; exact ⟨bM,bN⟩⟩ (M.e_opt bG hg) _ (H.give (A:=[]) rfl)).mono fun v_ w_ ⟨y_,ac,bO,H_⟩=>by subst ac; exact ⟨bO,H.via H_⟩) ?_;intro ck H;refine s_val (x_por (b:=(r3.length:Int)==0) (r:=r4) rfl rfl (fun hb=>gd_of (c:=!((r3.length:Int)==0)) (by first | exact hb | (rw [hb]; rfl) | simp_all) (B r4)))<|s_nil ?_
  refine W.cond (((r3.length:Int)==0)||r4) rfl (fun aZ=>?_) (fun aZ=>?_)
  ·replace hM:=M.e_t hM aZ;refine kg 5 ?_;refine W.ret ?_
   have bP:=M.e_inr hM aW
   subst bP;replace hM:=bi;(try dsimp only at hM)
   have ac:=M.e_pure hM
   exact ⟨_,resE_tmp2 rfl,⟨false,0,ac,rfl,(H.pk [])⟩⟩
  replace hM:=M.e_f hM aZ
  have cm:=(aI).len_le
  refine kg 8 ?_;obtain ⟨bQ,a6,bR⟩:=M.e_bind hM
  obtain ⟨bC,a6⟩:=M.e_iter a6
  refine W.loop (fun m σ W=>∃ (ar:List Bool) (s:Nat) (ρ:Env),σ=upds ρ [(1,I many),(2,ay),(8,Pq ax),(10,Pq aa),(35,ay),(36,I (l.length:Int)),(37,I (s2:Int)),(48,gd (!((r3.length:Int)==0)) aH),(49,gd (!((r3.length:Int)==0)) (.func (.func 83) #[] #[Pq aa])),(50,gd (!((r3.length:Int)==0)) (B r4)),(52,aH),(53,I (r3.length:Int)),(54,I (s:Int))]/\M.iterN (zcb r3) m (ar,s)=some bQ/\St w W [cMem encDm aD aX (zaa ak al am ao aq au ap),cBlk bn [I ((l.getD s2 default).spring),I ((l.getD s2 default).town)] 32,cBlk aa (encB ar) 127,cBlk ax [ae,ag,ah,ai,I aq,I au,aj,.map (some aD)] 113,cBlk aT [ae,ag,ah,ai,I av,I aw,aj] 29] R/\ar.length=12) ?_ ?_
  ·exact ⟨_,aA,0,_,upds_of _ _ ⟨rfl,rfl,rfl,rfl,rfl,rfl,rfl,rfl,rfl,rfl,rfl,rfl,rfl,trivial⟩,a6,H,bm⟩
  rintro cn σ co ⟨ar,s,ρ,rfl,bp,H,a7⟩
  obtain ⟨bS,bT,cp,hM,br⟩:=M.e_iterN bp
  simp only [zcb] at hM
  clear bp;refine kg 5 ?_
  refine W.cond (decide ((s:Int)<(r3.length:Int))) rfl (fun aC=>?_) (fun aC=>?_)
  ·replace hM:=M.e_t hM aC
   replace aC:=dI aC
   obtain ⟨cq,hM⟩:=M.e_gd hM;refine kg 6 ?_;refine s_val (x_ld (v:=I (r3.getD s 0)) rfl (ld_sc Sc3 (At.mono (Int_at aI (i:=(s:Int)) (by omega) (by omega)) (memLe _ (H.get (k:=0) rfl))))) ?_;obtain ⟨cr,hM⟩:=M.e_gd hM;refine kg 4 ?_;refine s_val (x_ix (v:=.pointer (some ⟨aa,0+Int.toNat (r3.getD s 0),none⟩)) rfl rfl (run_indexArr Tryz.underlying127 Sz4 (by omega) (by omega))) ?_;refine t_stArr (k:=2) (b:=aa) (l:=ar) (l':=ar.set (Int.toNat (r3.getD s 0)) true) (i:=r3.getD s 0) (v:=true) (L':=[cMem encDm aD aX (zaa ak al am ao aq au ap),cBlk bn [I ((l.getD s2 default).spring),I ((l.getD s2 default).town)] 32,cBlk aa (encB (ar.set (Int.toNat (r3.getD s 0)) true)) 127,cBlk ax [ae,ag,ah,ai,I aq,I au,aj,.map (some aD)] 113,cBlk aT [ae,ag,ah,ai,I av,I aw,aj] 29]) H rfl rfl rfl Sz4 (by omega) (by have ct:=a7; omega) rfl rfl ?_;intro cu H
   have bU:(ar.set (Int.toNat (r3.getD s 0)) true).length=12:=List.length_set.trans a7
   refine kg 5 ?_
   exact ⟨bS,bT,ar.set (Int.toNat (r3.getD s 0)) true,s+1,_,upds_of _ _ ⟨rfl,rfl,rfl,rfl,rfl,rfl,rfl,rfl,rfl,rfl,rfl,rfl,rfl,trivial⟩,M.e_inl hM br,H,bU⟩
  replace hM:=M.e_f hM aC
  replace aC:=dI aC
  refine W.exit ?_
  have bV:=M.e_inr hM br
  subst bV;replace hM:=bR;(try dsimp only at hM);refine kg 4 ?_
  exact ⟨bD,bE,ar,s2+1,aX,_,upds_of _ _ ⟨rfl,rfl,rfl,rfl,rfl,rfl,rfl,trivial⟩,M.e_inl hM aW,(H.pk [2,3,0,4]),a7⟩
 replace hM:=M.e_f hM aB
 replace aB:=dI aB
 refine W.exit ?_
 have bW:=M.e_inr hM aW
 subst bW;replace hM:=bi;(try dsimp only at hM);replace H:=H.pk []
 have cv:=(aE).len_le
 refine kg 9 ?_;refine W.ret ?_
 have ac:=M.e_pure hM
 exact ⟨_,resE_tmp2 rfl,⟨(decide (many<=(l.length:Int))),0,ac,rfl,H⟩⟩

def zcK (a b:List Dem):Nat->M (Nat ⊕ (Unit ⊕ Unit)):=fun i =>
  bif decide ((i:Int)<(a.length:Int)) then (
  M.grd (decide ((i:Int)<(a.length:Int))) <|
  M.grd (decide ((i:Int)<(b.length:Int))) <|
  bif !(decide ((a.getD i default)=(b.getD i default))) then (
  M.pure (.inr (.inl ())))
  else (
  M.pure (.inl (i+1))))
  else (
  M.pure (.inr (.inr ())))
def zdq (a b:List Dem):M Bool :=
  bif (a.length:Int) != (b.length:Int) then (
  M.pure false)
  else (
  M.bind (M.iter (zcK a b) 0) fun x_=>match x_ with
  | (.inl (_:Unit))=>(
  M.pure false)
  | (.inr (_:Unit))=>(
  M.pure true))
theorem zeQ {R:List Chunk} {al:Cells} {ae:Value} {am:Cells} {ag:Value} (a:List Dem) (b:List Dem) (av:Reads R al) (ah:Sl al ae a) (aw:Reads R am) (ao:Sl am ag b) {r:Bool} (hM:(zdq a b).Ends r) (w:World) (H:St w w [] R):Ret Tryz.prog 38 #[ae,ag] w fun v w'=>∃ (y0:Bool),y0=r/\v=B y0/\St w w' [] R:=by
 refine ret_of_W Tryz.func38 rfl rfl rfl ?_
 have aC:=(ah).len_le
 have aD:=(ao).len_le
 refine kg 13 ?_
 refine W.cond ((a.length:Int) != (b.length:Int)) rfl (fun aa=>?_) (fun aa=>?_)
 ·replace hM:=M.e_t hM aa
  replace aa:=dI aa
  refine kg 4 ?_;refine W.ret ?_
  have ac:=M.e_pure hM
  exact ⟨_,resE_tmp rfl,⟨false,ac,rfl,H⟩⟩
 replace hM:=M.e_f hM aa
 replace aa:=dI aa
 refine kg 7 ?_;obtain ⟨ax,ai,ap⟩:=M.e_bind hM
 obtain ⟨aE,ai⟩:=M.e_iter ai
 refine W.loop (fun m σ W=>∃ (i:Nat) (ρ:Env),σ=upds ρ [(0,ae),(1,ag),(5,I (i:Int))]/\M.iterN (zcK a b) m i=some ax/\St w W [] R) ?_ ?_
 ·exact ⟨_,0,_,upds_of _ _ ⟨rfl,rfl,rfl,trivial⟩,ai,H⟩
 rintro aF σ aG ⟨i,ρ,rfl,aq,H⟩
 obtain ⟨ay,az,aH,hM,aj⟩:=M.e_iterN aq
 simp only [zcK] at hM
 clear aq
 have aI:=(ah).len_le
 refine kg 8 ?_
 refine W.cond (decide ((i:Int)<(a.length:Int))) rfl (fun ab=>?_) (fun ab=>?_)
 ·replace hM:=M.e_t hM ab
  replace ab:=dI ab
  refine kg 4 ?_;refine W.draw (fun W=>St w W [] R) [(0,true),(1,true),(2,true),(3,true),(4,true),(5,true),(6,true),(7,true),(8,true)] mixed (by decide +kernel) rfl ?_;intro aJ au;replace H:=H.ext au;clear au
  refine ⟨(H.pk []),?_⟩
  obtain ⟨aK,hM⟩:=M.e_gd hM;refine kg 3 ?_;refine d_q rfl (fun w' H=>x_ld (v:=.agg #[I ((a.getD i default).spring),I ((a.getD i default).town)]) rfl (ld_ag Ag32 Sz32 (At.mono (Dem_atA ah (i:=(i:Int)) (by omega) (by omega)) (av.at H)))) ?_;obtain ⟨aL,hM⟩:=M.e_gd hM;refine kg 3 ?_;refine d_q rfl (fun w' H=>x_ld (v:=.agg #[I ((b.getD i default).spring),I ((b.getD i default).town)]) rfl (ld_ag Ag32 Sz32 (At.mono (Dem_atA ao (i:=(i:Int)) (by omega) (by omega)) (aw.at H))))<|d_q rfl (fun w' H=>x_neS (eqT32 (a.getD i default) (b.getD i default) _) gdT32 rfl rfl) ?_;refine d_nil ?_
  refine W.cond (!(decide ((a.getD i default)=(b.getD i default)))) rfl (fun ak=>?_) (fun ak=>?_)
  ·replace hM:=M.e_t hM ak;refine kg 4 ?_;refine W.ret ?_
   have aA:=M.e_inr hM aj
   subst aA;replace hM:=ap;(try dsimp only at hM)
   have ac:=M.e_pure hM
   exact ⟨_,resE_tmp rfl,⟨false,ac,rfl,H⟩⟩
  replace hM:=M.e_f hM ak;refine kg 6 ?_
  exact ⟨ay,az,i+1,_,upds_of _ _ ⟨rfl,rfl,rfl,trivial⟩,M.e_inl hM aj,H⟩
 replace hM:=M.e_f hM ab
 replace ab:=dI ab
 refine W.exit ?_
 have aB:=M.e_inr hM aj
 subst aB;replace hM:=ap;(try dsimp only at hM);refine kg 4 ?_;refine W.ret ?_
 have ac:=M.e_pure hM
 exact ⟨_,resE_tmp rfl,⟨true,ac,rfl,H⟩⟩

end Go.Proofs.YtbldmjejckjflabGreat
end
section
set_option maxRecDepth 100000
set_option maxHeartbeats 16000000
namespace Go.Proofs.YtbldmjejckjflabGreat
open Go Go.Nm
attribute [local irreducible] gd execOp SL SLD SLT WR
def za9 (al:List Int) (am:List Span) (ao:List Int) (ap:List Town) (aq au:Int) (av:List Flood) (watches:List Int) (many:Int) (l:List Dem) (r0:List Int) (r1:List Span) (ai:List Int) (aj:List Town) (r4 r5:Int) (r6:List Flood) (r7:List Int) (r8:List Dem) (aw:List Int) (ax:List Span) (ay:List Int) (az:List Town) (aA aB:Int) (aC:List Flood):M Bool :=
  M.bind (zep r0 r1 ai aj r4 r5 r6 many r8) fun (aa,ab) =>
  M.bind (zaZ l) fun aD =>
  M.bind (zbZ aw ax ay az aA aB aC many aD) fun (ac,ae) =>
  M.bind (M.opt ((ab==ae)&&(aa==ac)) (zba r0 r1 ai aj r4 r5 r6 al am ao ap aq au av) false) fun ag =>
  M.bind (M.opt (((ab==ae)&&(aa==ac))&&ag) (zad r7 watches) false) fun ah =>
  M.bind (M.opt ((((ab==ae)&&(aa==ac))&&ag)&&ah) (zdq r8 l) false) fun ak =>
  M.bind (M.opt (((((ab==ae)&&(aa==ac))&&ag)&&ah)&&ak) (zax) false) fun aE =>
  M.pure ((((((ab==ae)&&(aa==ac))&&ag)&&ah)&&ak)&&aE)
def zbh (am:List Int) (ao:List Span) (ap:List Int) (aq:List Town) (au av:Int) (aw:List Flood) (watches:List Int) (many:Int) (l:List Dem) (r0:List Int) (r1:List Span) (aj:List Int) (ak:List Town) (r4 r5:Int) (r6:List Flood) (r7:List Int) (r8:List Dem) (aa:List Int) (ab:List Span) (ac:List Int) (ae:List Town) (ag ah:Int) (ai:List Flood) (aH aI:List Dem) (s2:Bool):M Bool :=
  bif s2 then (
  M.pure false)
  else (
  M.bind (za5 r0 r1 aj ak r4 r5 r6) fun (ax,ay) =>
  M.bind (zei aa ab ac ae ag ah ai) fun (al,az) =>
  M.bind (zdA r0 r1 aj ak r4 r5 r6) fun (aA,aB) =>
  bif ((((ay != az)||(aB != az))||((ax.length:Int) != al))||((aA.length:Int) != al)) then (
  M.pure false)
  else (
  bif ay==0 then (
  M.bind (zaO aa ab ac ae ag ah ai ax) fun (aC,aD) =>
  bif ((aD != 0)||(decide (0<(aC.length:Int)))) then (
  M.pure false)
  else (
  M.bind (zaZ aA) fun aE =>
  M.bind (zbZ aa ab ac ae ag ah ai al aE) fun (aF,aG) =>
  bif ((aG != 0)||(!aF)) then (
  M.pure false)
  else (
  za9 am ao ap aq au av aw watches many l r0 r1 aj ak r4 r5 r6 r7 r8 aa ab ac ae ag ah ai)))
  else (
  za9 am ao ap aq au av aw watches many l r0 r1 aj ak r4 r5 r6 r7 r8 aa ab ac ae ag ah ai)))
def zbk (aq:List Int) (au:List Span) (av:List Int) (aw:List Town) (ax ay:Int) (az:List Flood) (d:Dem) (watches:List Int) (many:Int) (l:List Dem) (r0:List Int) (r1:List Span) (aa:List Int) (ab:List Town) (r4 r5:Int) (r6:List Flood) (r7:List Int) (r8:List Dem) (ac:List Int) (ae:List Span) (ag:List Int) (ah:List Town) (ai aj:Int) (ak:List Flood) (aH aI:List Dem) (s:Bool):M Bool :=
  bif s then (
  M.pure false)
  else (
  M.bind (zbd r0 r1 aa ab r4 r5 r6 d) fun (aC,aA) =>
  M.bind (zdM ac ae ag ah ai aj ak d) fun (aD,aB) =>
  M.bind (M.opt (!(aA != aB)) (zad aC aD) false) fun aE =>
  bif ((aA != aB)||(!aE)) then (
  M.pure false)
  else (
  M.bind (zdC r0 r1 aa ab r4 r5 r6 r7) fun (ao,al) =>
  M.bind (zaO ac ae ag ah ai aj ak watches) fun (ap,am) =>
  bif !(al != am) then (
  M.bind (zaZ ao) fun aF =>
  M.bind (M.opt (!(al != am)) (zcf aF ap) false) fun aG =>
  zbh aq au av aw ax ay az watches many l r0 r1 aa ab r4 r5 r6 r7 r8 ac ae ag ah ai aj ak ao ap ((al != am)||(!aG)))
  else (
  zbh aq au av aw ax ay az watches many l r0 r1 aa ab r4 r5 r6 r7 r8 ac ae ag ah ai aj ak ao ap ((al != am)||false))))
def zau (aa:List Int) (ab:List Span) (ac:List Int) (ae:List Town) (ag ah:Int) (ai:List Flood) (d:Dem) (watches:List Int) (many:Int) (l:List Dem):M Bool :=
  M.bind (zbu aa ab ac ae ag ah ai) fun r2 =>
  bif ((r2||(decide (15<(watches.length:Int))))||(decide (70<(l.length:Int)))) then (
  M.bind (zax) fun r3 =>
  M.pure r3)
  else (
  M.bind (zbp aa ab ac ae ag ah ai) fun (r0,r1,al,am,r4,r5,r6) =>
  M.bind (zay watches) fun r7 =>
  M.bind (zdD l) fun r8 =>
  M.bind (zbj aa ab ac ae ag ah ai) fun (ao,ap,aq,au,av,aw,ax) =>
  M.bind (zdz r0 r1 al am r4 r5 r6) fun (ay,aj) =>
  M.bind (zd7 ao ap aq au av aw ax) fun (az,ak) =>
  bif !(aj != ak) then (
  M.bind (zaZ ay) fun r9 =>
  M.bind (M.opt (!(aj != ak)) (zcf r9 az) false) fun aA =>
  zbk aa ab ac ae ag ah ai d watches many l r0 r1 al am r4 r5 r6 r7 r8 ao ap aq au av aw ax ay az ((aj != ak)||(!aA)))
  else (
  zbk aa ab ac ae ag ah ai d watches many l r0 r1 al am r4 r5 r6 r7 r8 ao ap aq au av aw ax ay az ((aj != ak)||false)))
theorem zae {R:List Chunk} {ce:Cells} {aM:Value} {cf:Cells} {aN:Value} {cg:Cells} {aO:Value} {ci:Cells} {aP:Value} {cj:Cells} {aQ:Value} {ck:Cells} {ba:Value} {cm:Cells} {aY:Value} (bb:List Int) (bc:List Span) (bf:List Int) (bg:List Town) (ai:Int) (aj:Int) (bh:List Flood) (d:Dem) (watches:List Int) (many:Int) (l:List Dem) (bB:Reads R ce) (bC:Sl ce aM bb) (bD:Reads R cf) (bE:Sl cf aN bc) (bF:Reads R cg) (bG:Sl cg aO bf) (bH:Reads R ci) (bI:Sl ci aP bg) (aq:Reads R cj) (bJ:Sl cj aQ bh) (bS:Reads R ck) (bK:Sl ck ba watches) (bT:Reads R cm) (bu:Sl cm aY l) {r:Bool} (hM:(zau bb bc bf bg ai aj bh d watches many l).Ends r) (w:World) (H:St w w [] R):Ret Tryz.prog 6 #[.agg #[aM,aN,aO,aP,I ai,I aj,aQ],.agg #[I d.spring,I d.town],ba,I many,aY] w fun v w'=>∃ (y0:Bool),y0=r/\v=B y0/\St w w' [] R:=by
 refine ret_of_W Tryz.func6 rfl rfl rfl ?_;refine kg 2 ?_;refine t_bx [aM,aN,aO,aP,I ai,I aj,aQ] H rfl ?_;intro bi c8 H;refine t_bx [I d.spring,I d.town] H rfl ?_;intro cn c9 H;refine kg 6 ?_;obtain ⟨da,cq,hM⟩:=M.e_bind hM;refine s_call cf11 [.agg #[aM,aN,aO,aP,I ai,I aj,aQ]] rfl (zdl bb bc bf bg ai aj bh (bB.app _) bC (bD.app _) bE (bF.app _) bG (bH.app _) bI (aq.app _) bJ cq _ (H.gt 2)) ?_
 rintro vq db ⟨r2,rfl,hvq,aa⟩
 subst vq;(try dsimp only at hM);replace H:=H.bk aa;clear aa
 have dc:=(bK).len_le
 refine kg 4 ?_;refine s_val (x_por (b:=r2) (r:=decide (15<(watches.length:Int))) rfl rfl (fun hb=>gd_of (c:=!r2) (by first | exact hb | (rw [hb]; rfl) | simp_all) (B (decide (15<(watches.length:Int))))))<|zM (B (r2||(decide (15<(watches.length:Int))))) rfl<|g_val (!(r2||(decide (15<(watches.length:Int))))) (gy_f rfl) (fun hg=>x_mv (v:=aY) rfl) ?_
 have dd:=(bu).len_le
 refine g_val (!(r2||(decide (15<(watches.length:Int))))) (gy_f rfl) (fun hg=>x_lenS T33.und (gd_of hg (aY)) bu)<|g_val (!(r2||(decide (15<(watches.length:Int))))) (gy_f rfl) (fun hg=>x_cmp (kd:=.i64) (r:=decide (70<(l.length:Int))) (gd_of hg (I (l.length:Int))) rfl rfl)<|s_val (x_por (b:=(r2||(decide (15<(watches.length:Int))))) (r:=decide (70<(l.length:Int))) rfl rfl (fun hb=>gd_of (c:=!(r2||(decide (15<(watches.length:Int))))) (by first | exact hb | (rw [hb]; rfl) | simp_all) (B (decide (70<(l.length:Int))))))<|s_nil ?_
 refine W.cond ((r2||(decide (15<(watches.length:Int))))||(decide (70<(l.length:Int)))) rfl (fun bU=>?_) (fun bU=>?_)
 ·replace hM:=M.e_t hM bU;refine kg 2 ?_;obtain ⟨dg,cr,hM⟩:=M.e_bind hM;refine s_call cf10 [] rfl (zao cr _ (H.gt 2)) ?_
  rintro vq dh ⟨r3,rfl,hvq,aa⟩
  subst vq;(try dsimp only at hM);replace H:=H.bk aa;clear aa;refine kg 2 ?_;replace H:=H.pk [];refine W.ret ?_
  have ac:=M.e_pure hM
  exact ⟨_,resE_tmp rfl,⟨r3,ac,rfl,H⟩⟩
 replace hM:=M.e_f hM bU;refine kg 4 ?_;obtain ⟨di,ct,hM⟩:=M.e_bind hM;refine s_call cf12 [.agg #[aM,aN,aO,aP,I ai,I aj,aQ]] rfl (zaF bb bc bf bg ai aj bh (bB.app _) bC (bD.app _) bE (bF.app _) bG (bH.app _) bI (aq.app _) bJ ct _ (H.gt 2)) ?_
 rintro vq dj ⟨r0,r1,aF,aG,r4,r5,r6,ak,al,am,ao,ap,bv,bw,rfl,hvq,aa,bj⟩
 subst vq;(try dsimp only at hM);replace H:=H.bk aa;clear aa;refine kg 1 ?_;obtain ⟨dk,cu,hM⟩:=M.e_bind hM;refine s_call cf23 [ba] rfl (zai watches (bS.app _) bK cu _ (H.gt 8)) ?_
 rintro vq dl ⟨r7,aZ,rfl,hvq,aa⟩
 subst vq;(try dsimp only at hM);replace H:=H.bk aa;clear aa;refine kg 1 ?_;obtain ⟨dm,cv,hM⟩:=M.e_bind hM;refine s_call cf24 [aY] rfl (zeS l (bT.app _) bu cv _ (H.gt 9)) ?_
 rintro vq dq ⟨r8,a6,rfl,hvq,aa⟩
 subst vq;(try dsimp only at hM);replace H:=H.bk aa;clear aa;refine t_alloc (cs:=[.slice none 0 0,.slice none 0 0,.slice none 0 0,.slice none 0 0,I 0,I 0,.slice none 0 0]) H Al29 rfl ?_;intro bm dr H;refine t_sw 0 0 [ak,al,am,ao,I r4,I r5,ap] (.agg #[ak,al,am,ao,I r4,I r5,ap]) H rfl rfl Sz29 rfl rfl rfl (by simp only [List.all_cons,List.all_nil,Bool.true_and,Bool.and_true,Sl.oc (H.os 3),Sl.oc (H.os 4),Sl.oc (H.os 5),Sl.oc (H.os 6),Sl.oc (rowSl rfl (H.get (k:=7) rfl) (roLe _ (H.get (k:=8) rfl)) bj)]; try rfl) ?_;intro dt H;refine kg 6 ?_;obtain ⟨du,cw,hM⟩:=M.e_bind hM;refine s_call cf13 [.agg #[aM,aN,aO,aP,I ai,I aj,aQ]] rfl (zap bb bc bf bg ai aj bh (bB.app _) bC (bD.app _) bE (bF.app _) bG (bH.app _) bI (aq.app _) bJ cw _ (H.gt 11)) ?_
 rintro vq dv ⟨aH,aI,aJ,aK,ae,ag,a7,au,av,aw,ax,ay,bx,bz,rfl,hvq,aa,bn⟩
 subst vq;(try dsimp only at hM);replace H:=H.bk aa;clear aa;refine t_alloc (cs:=[.slice none 0 0,.slice none 0 0,.slice none 0 0,.slice none 0 0,I 0,I 0,.slice none 0 0]) H Al53 rfl ?_;intro bo dw H;refine t_sw 0 0 [au,av,aw,ax,I ae,I ag,ay] (.agg #[au,av,aw,ax,I ae,I ag,ay]) H rfl rfl Sz53 rfl rfl rfl (by simp only [List.all_cons,List.all_nil,Bool.true_and,Bool.and_true,Sl.oc (H.os 1),Sl.oc (H.os 2),Sl.oc (H.os 3),Sl.oc (H.os 4),Sl.oc (rowSl rfl (H.get (k:=5) rfl) (Cells.sup_le (aq.at H) (roLe _ (H.get (k:=6) rfl))) bn)]; try rfl) ?_;intro dx H;refine kg 4 ?_;obtain ⟨dy,cx,hM⟩:=M.e_bind hM;refine s_call cf25 [.agg #[ak,al,am,ao,I r4,I r5,ap]] rfl (zeD r0 r1 aF aG r4 r5 r6 (rdo 10) (H.os 10) (rdo 11) (H.os 11) (rdo 12) (H.os 12) (rdo 13) (H.os 13) (Reads.sup (rdo 14) (Reads.of (k:=15) rfl roLe)) (rowSl rfl (H.get (k:=14) rfl) (roLe _ (H.get (k:=15) rfl)) bj) cx _ (H.gt 18)) ?_
 rintro vq dz ⟨bV,aU,bW,rfl,hvq,aa⟩
 subst vq;(try dsimp only at hM);replace H:=H.bk aa;clear aa;refine kg 9 ?_;obtain ⟨dA,cy,hM⟩:=M.e_bind hM;refine s_call cf26 [.agg #[au,av,aw,ax,I ae,I ag,ay]] rfl (zeX aH aI aJ aK ae ag a7 (rdo 2) (H.os 2) (rdo 3) (H.os 3) (rdo 4) (H.os 4) (rdo 5) (H.os 5) (Reads.sup (rdo 6) (Reads.sup (aq.app _) (Reads.of (k:=7) rfl roLe))) (rowSl rfl (H.get (k:=6) rfl) (Cells.sup_le (aq.at H) (roLe _ (H.get (k:=7) rfl))) bn) cy _ (H.gt 19)) ?_
 rintro vq dB ⟨bX,aV,bY,rfl,hvq,aa⟩
 subst vq;(try dsimp only at hM);replace H:=H.bk aa;clear aa;refine kg 7 ?_;refine W.seqJ (fun σ W=>∃ (s:Bool) (ρ:Env),σ=upds ρ [(2,ba),(3,I many),(4,aY),(5,Pq bi),(6,Pq cn),(11,Pq bm),(12,aZ),(13,a6),(14,Pq bo),(69,B s)]/\(zbk bb bc bf bg ai aj bh d watches many l r0 r1 aF aG r4 r5 r6 r7 r8 aH aI aJ aK ae ag a7 bV bX s).Ends r/\St w W [cOwn (α:=Dem) 72 bY bX,cOwn (α:=Dem) 32 bW bV,cBlk bo [au,av,aw,ax,I ae,I ag,ay] 53,cOwn (α:=Int) 3 au aH,cOwn (α:=Span) 26 av aI,cOwn (α:=Int) 3 aw aJ,cOwn (α:=Town) 105 ax aK,cOwn (α:=Raw 1) 106 ay bx,cRo bz,cBlk bm [ak,al,am,ao,I r4,I r5,ap] 29,cOwn (α:=Dem) 32 a6 r8,cOwn (α:=Int) 3 aZ r7,cOwn (α:=Int) 3 ak r0,cOwn (α:=Span) 26 al r1,cOwn (α:=Int) 3 am aF,cOwn (α:=Town) 36 ao aG,cOwn (α:=Raw 1) 38 ap bv,cRo bw,cBlk cn [I d.spring,I d.town] 32,cBlk bi [aM,aN,aO,aP,I ai,I aj,aQ] 29] R) ?_ ?_
 ·skip
  refine kg 6 ?_
  refine g_splitV (!(aU != aV)) (.slice none 0 0) (gy_f rfl) (fun aL=>?_) (fun aL=>?_)
  ·replace hM:=M.e_t hM aL;obtain ⟨dC,cz,hM⟩:=M.e_bind hM;refine s_call cf28 [bW] (lst1 (gd_of (c:=!(aU != aV)) aL (bW))) (zbf bV (rdo 1) (H.os 1) cz _ (H.gt 20)) ?_
   rintro vq dD ⟨r9,cA,rfl,hvq,aa⟩
   subst vq;(try dsimp only at hM);replace H:=H.bk aa;clear aa;refine kg 1 ?_;obtain ⟨bL,cB,hM⟩:=M.e_bind hM;refine t_gcall (!(aU != aV)) (gy_f rfl) cf27 (B bL) (fun _=>[cA,bY]) (fun hg=>lst2 rfl (gd_of hg (bY))) H (fun hg=>(zek r9 bX (rdo 0) (H.os 0) (rdo 1) (H.os 1) (M.e_opt cB hg) _ (H.give (A:=[]) rfl)).mono fun v_ w_ ⟨y_,ac,aR,H_⟩=>by subst ac; exact ⟨aR,H.via H_⟩) ?_;intro dE H;refine kg 1 ?_;refine s_val (x_por (b:=aU != aV) (r:=!bL) rfl rfl (fun hb=>gd_of (c:=!(aU != aV)) (by first | exact hb | (rw [hb]; rfl) | simp_all) (B (!bL))))<|s_nil ?_
   exact ⟨((aU != aV)||(!bL)),_,upds_of _ _ ⟨rfl,rfl,rfl,rfl,rfl,rfl,rfl,rfl,rfl,rfl,trivial⟩,hM,(H.pk [1,2,3,4,5,6,7,8,9,10,11,12,13,14,15,16,17,18,19,20])⟩
  replace hM:=M.e_f hM aL;refine g_val (v:=.slice none 0 0) (!(aU != aV)) (gy_f rfl) (fun hg=>Bool.noConfusion (aL.symm.trans hg))<|g_val (v:=B false) (!(aU != aV)) (gy_f rfl) (fun hg=>Bool.noConfusion (aL.symm.trans hg))<|g_val (v:=B false) (!(aU != aV)) (gy_f rfl) (fun hg=>Bool.noConfusion (aL.symm.trans hg))<|s_val (x_por (b:=aU != aV) (r:=false) rfl rfl (fun hb=>gd_of (c:=!(aU != aV)) (by first | exact hb | (rw [hb]; rfl) | simp_all) (B false)))<|s_nil ?_
  exact ⟨((aU != aV)||false),_,upds_of _ _ ⟨rfl,rfl,rfl,rfl,rfl,rfl,rfl,rfl,rfl,rfl,trivial⟩,hM,H⟩
 rintro _ dF ⟨s,ρ,rfl,hM,H⟩
 unfold zbk at hM
 refine W.cond s rfl (fun bZ=>?_) (fun bZ=>?_)
 ·replace hM:=M.e_t hM bZ;refine kg 4 ?_;replace H:=H.pk [];refine W.ret ?_
  have ac:=M.e_pure hM
  exact ⟨_,resE_tmp rfl,⟨false,ac,rfl,H⟩⟩
 replace hM:=M.e_f hM bZ;refine W.skip ?_;replace H:=H.pk [2,3,4,5,6,7,8,9,10,11,12,13,14,15,16,17,18,19];refine kg 4 ?_;obtain ⟨dG,cC,hM⟩:=M.e_bind hM;refine s_call cf29 [.agg #[ak,al,am,ao,I r4,I r5,ap],.agg #[I d.spring,I d.town]] rfl (zcN r0 r1 aF aG r4 r5 r6 d (rdo 10) (H.os 10) (rdo 11) (H.os 11) (rdo 12) (H.os 12) (rdo 13) (H.os 13) (Reads.sup (rdo 14) (Reads.of (k:=15) rfl roLe)) (rowSl rfl (H.get (k:=14) rfl) (roLe _ (H.get (k:=15) rfl)) bj) cC _ (H.gt 18)) ?_
 rintro vq dH ⟨cD,bM,co,rfl,hvq,aa⟩
 subst vq;(try dsimp only at hM);replace H:=H.bk aa;clear aa;refine kg 10 ?_;obtain ⟨dJ,cE,hM⟩:=M.e_bind hM;refine s_call cf30 [.agg #[au,av,aw,ax,I ae,I ag,ay],.agg #[I d.spring,I d.town]] rfl (zeV aH aI aJ aK ae ag a7 d (rdo 2) (H.os 2) (rdo 3) (H.os 3) (rdo 4) (H.os 4) (rdo 5) (H.os 5) (Reads.sup (rdo 6) (Reads.sup (aq.app _) (Reads.of (k:=7) rfl roLe))) (rowSl rfl (H.get (k:=6) rfl) (Cells.sup_le (aq.at H) (roLe _ (H.get (k:=7) rfl))) bn) cE _ (H.gt 19)) ?_
 rintro vq dK ⟨cF,bN,cp,rfl,hvq,aa⟩
 subst vq;(try dsimp only at hM);replace H:=H.bk aa;clear aa;refine kg 15 ?_;obtain ⟨bO,cG,hM⟩:=M.e_bind hM;refine t_gcall (!(bM != bN)) (gy_f rfl) cf17 (B bO) (fun _=>[co,cp]) (fun hg=>lst2 (gd_of hg (co)) (gd_of hg (cp))) H (fun hg=>(zaf cD cF (rdo 1) (H.os 1) (rdo 0) (H.os 0) (M.e_opt cG hg) _ (H.give (A:=[]) rfl)).mono fun v_ w_ ⟨y_,ac,aR,H_⟩=>by subst ac; exact ⟨aR,H.via H_⟩) ?_;intro dL H;refine kg 1 ?_;refine s_val (x_por (b:=bM != bN) (r:=!bO) rfl rfl (fun hb=>gd_of (c:=!(bM != bN)) (by first | exact hb | (rw [hb]; rfl) | simp_all) (B (!bO))))<|s_nil ?_;replace H:=H.pk [2,3,4,5,6,7,8,9,10,11,12,13,14,15,16,17,19]
 refine W.cond ((bM != bN)||(!bO)) rfl (fun b0=>?_) (fun b0=>?_)
 ·replace hM:=M.e_t hM b0;refine kg 4 ?_;replace H:=H.pk [];refine W.ret ?_
  have ac:=M.e_pure hM
  exact ⟨_,resE_tmp rfl,⟨false,ac,rfl,H⟩⟩
 replace hM:=M.e_f hM b0;refine kg 5 ?_;obtain ⟨dM,cH,hM⟩:=M.e_bind hM;refine s_call cf31 [.agg #[ak,al,am,ao,I r4,I r5,ap],aZ] rfl (ze7 r0 r1 aF aG r4 r5 r6 r7 (rdo 10) (H.os 10) (rdo 11) (H.os 11) (rdo 12) (H.os 12) (rdo 13) (H.os 13) (Reads.sup (rdo 14) (Reads.of (k:=15) rfl roLe)) (rowSl rfl (H.get (k:=14) rfl) (roLe _ (H.get (k:=15) rfl)) bj) (rdo 9) (H.os 9) cH _ (H.gt 17)) ?_
 rintro vq dN ⟨b1,aW,b2,rfl,hvq,aa⟩
 subst vq;(try dsimp only at hM);replace H:=H.bk aa;clear aa;refine kg 10 ?_;obtain ⟨dO,cI,hM⟩:=M.e_bind hM;refine s_call cf32 [.agg #[au,av,aw,ax,I ae,I ag,ay],ba] rfl (za6 aH aI aJ aK ae ag a7 watches (rdo 2) (H.os 2) (rdo 3) (H.os 3) (rdo 4) (H.os 4) (rdo 5) (H.os 5) (Reads.sup (rdo 6) (Reads.sup (aq.app _) (Reads.of (k:=7) rfl roLe))) (rowSl rfl (H.get (k:=6) rfl) (Cells.sup_le (aq.at H) (roLe _ (H.get (k:=7) rfl))) bn) (bS.app _) bK cI _ (H.gt 18)) ?_
 rintro vq dP ⟨b3,aX,b4,rfl,hvq,aa⟩
 subst vq;(try dsimp only at hM);replace H:=H.bk aa;clear aa;refine kg 7 ?_;refine W.seqJ (fun σ W=>∃ (s2:Bool) (ρ:Env),σ=upds ρ [(2,ba),(3,I many),(4,aY),(5,Pq bi),(11,Pq bm),(12,aZ),(13,a6),(14,Pq bo),(112,B s2)]/\(zbh bb bc bf bg ai aj bh watches many l r0 r1 aF aG r4 r5 r6 r7 r8 aH aI aJ aK ae ag a7 b1 b3 s2).Ends r/\St w W [cOwn (α:=Dem) 72 b4 b3,cOwn (α:=Dem) 32 b2 b1,cBlk bo [au,av,aw,ax,I ae,I ag,ay] 53,cOwn (α:=Int) 3 au aH,cOwn (α:=Span) 26 av aI,cOwn (α:=Int) 3 aw aJ,cOwn (α:=Town) 105 ax aK,cOwn (α:=Raw 1) 106 ay bx,cRo bz,cBlk bm [ak,al,am,ao,I r4,I r5,ap] 29,cOwn (α:=Dem) 32 a6 r8,cOwn (α:=Int) 3 aZ r7,cOwn (α:=Int) 3 ak r0,cOwn (α:=Span) 26 al r1,cOwn (α:=Int) 3 am aF,cOwn (α:=Town) 36 ao aG,cOwn (α:=Raw 1) 38 ap bv,cRo bw,cBlk bi [aM,aN,aO,aP,I ai,I aj,aQ] 29] R) ?_ ?_
 ·skip
  refine kg 6 ?_
  refine g_splitV (!(aW != aX)) (.slice none 0 0) (gy_f rfl) (fun aL=>?_) (fun aL=>?_)
  ·replace hM:=M.e_t hM aL;obtain ⟨dQ,cJ,hM⟩:=M.e_bind hM;refine s_call cf28 [b2] (lst1 (gd_of (c:=!(aW != aX)) aL (b2))) (zbf b1 (rdo 1) (H.os 1) cJ _ (H.gt 19)) ?_
   rintro vq dR ⟨cK,cL,rfl,hvq,aa⟩
   subst vq;(try dsimp only at hM);replace H:=H.bk aa;clear aa;refine kg 1 ?_;obtain ⟨bP,cM,hM⟩:=M.e_bind hM;refine t_gcall (!(aW != aX)) (gy_f rfl) cf27 (B bP) (fun _=>[cL,b4]) (fun hg=>lst2 rfl (gd_of hg (b4))) H (fun hg=>(zek cK b3 (rdo 0) (H.os 0) (rdo 1) (H.os 1) (M.e_opt cM hg) _ (H.give (A:=[]) rfl)).mono fun v_ w_ ⟨y_,ac,aR,H_⟩=>by subst ac; exact ⟨aR,H.via H_⟩) ?_;intro dS H;refine kg 1 ?_;refine s_val (x_por (b:=aW != aX) (r:=!bP) rfl rfl (fun hb=>gd_of (c:=!(aW != aX)) (by first | exact hb | (rw [hb]; rfl) | simp_all) (B (!bP))))<|s_nil ?_
   exact ⟨((aW != aX)||(!bP)),_,upds_of _ _ ⟨rfl,rfl,rfl,rfl,rfl,rfl,rfl,rfl,rfl,trivial⟩,hM,(H.pk [1,2,3,4,5,6,7,8,9,10,11,12,13,14,15,16,17,18,19])⟩
  replace hM:=M.e_f hM aL;refine g_val (v:=.slice none 0 0) (!(aW != aX)) (gy_f rfl) (fun hg=>Bool.noConfusion (aL.symm.trans hg))<|g_val (v:=B false) (!(aW != aX)) (gy_f rfl) (fun hg=>Bool.noConfusion (aL.symm.trans hg))<|g_val (v:=B false) (!(aW != aX)) (gy_f rfl) (fun hg=>Bool.noConfusion (aL.symm.trans hg))<|s_val (x_por (b:=aW != aX) (r:=false) rfl rfl (fun hb=>gd_of (c:=!(aW != aX)) (by first | exact hb | (rw [hb]; rfl) | simp_all) (B false)))<|s_nil ?_
  exact ⟨((aW != aX)||false),_,upds_of _ _ ⟨rfl,rfl,rfl,rfl,rfl,rfl,rfl,rfl,rfl,trivial⟩,hM,H⟩
 rintro _ dT ⟨s2,ρ,rfl,hM,H⟩
 unfold zbh at hM
 refine W.cond s2 rfl (fun b5=>?_) (fun b5=>?_)
 ·replace hM:=M.e_t hM b5;refine kg 4 ?_;replace H:=H.pk [];refine W.ret ?_
  have ac:=M.e_pure hM
  exact ⟨_,resE_tmp rfl,⟨false,ac,rfl,H⟩⟩
 replace hM:=M.e_f hM b5;refine W.skip ?_;replace H:=H.pk [2,3,4,5,6,7,8,9,10,11,12,13,14,15,16,17,18];refine kg 3 ?_;obtain ⟨dU,cN,hM⟩:=M.e_bind hM;refine s_call cf33 [.agg #[ak,al,am,ao,I r4,I r5,ap]] rfl (zbx r0 r1 aF aG r4 r5 r6 (rdo 10) (H.os 10) (rdo 11) (H.os 11) (rdo 12) (H.os 12) (rdo 13) (H.os 13) (Reads.sup (rdo 14) (Reads.of (k:=15) rfl roLe)) (rowSl rfl (H.get (k:=14) rfl) (roLe _ (H.get (k:=15) rfl)) bj) cN _ (H.gt 17)) ?_
 rintro vq dV ⟨aS,az,b6,rfl,hvq,aa⟩
 subst vq;(try dsimp only at hM);replace H:=H.bk aa;clear aa;refine kg 9 ?_;obtain ⟨dW,cO,hM⟩:=M.e_bind hM;refine s_call cf34 [.agg #[au,av,aw,ax,I ae,I ag,ay]] rfl (zeE aH aI aJ aK ae ag a7 (rdo 2) (H.os 2) (rdo 3) (H.os 3) (rdo 4) (H.os 4) (rdo 5) (H.os 5) (Reads.sup (rdo 6) (Reads.sup (aq.app _) (Reads.of (k:=7) rfl roLe))) (rowSl rfl (H.get (k:=6) rfl) (Cells.sup_le (aq.at H) (roLe _ (H.get (k:=7) rfl))) bn) cO _ (H.gt 18)) ?_
 rintro vq dX ⟨ah,ab,rfl,hvq,aa⟩
 subst vq;(try dsimp only at hM);replace H:=H.bk aa;clear aa;refine kg 9 ?_;obtain ⟨dY,cP,hM⟩:=M.e_bind hM;refine s_call cf35 [.agg #[ak,al,am,ao,I r4,I r5,ap]] rfl (zfm r0 r1 aF aG r4 r5 r6 (rdo 11) (H.os 11) (rdo 12) (H.os 12) (rdo 13) (H.os 13) (rdo 14) (H.os 14) (Reads.sup (rdo 15) (Reads.of (k:=16) rfl roLe)) (rowSl rfl (H.get (k:=15) rfl) (roLe _ (H.get (k:=16) rfl)) bj) cP _ (H.gt 18)) ?_
 rintro vq dZ ⟨bp,aC,bQ,rfl,hvq,aa⟩
 subst vq;(try dsimp only at hM);replace H:=H.bk aa;clear aa;refine kg 16 ?_;refine s_val (x_por (b:=az != ab) (r:=aC != ab) rfl rfl (fun hb=>gd_of (c:=!(az != ab)) (by first | exact hb | (rw [hb]; rfl) | simp_all) (B (aC != ab))))<|zM (B ((az != ab)||(aC != ab))) rfl<|g_val (!((az != ab)||(aC != ab))) (gy_f rfl) (fun hg=>x_mv (v:=b6) rfl)<|g_val (!((az != ab)||(aC != ab))) (gy_f rfl) (fun hg=>x_lenS T22.und (gd_of hg (b6)) (H.os 1))<|g_val (!((az != ab)||(aC != ab))) (gy_f rfl) (fun hg=>x_mv (v:=I ah) rfl)<|g_val (!((az != ab)||(aC != ab))) (gy_f rfl) (fun hg=>x_cmp (kd:=.i64) (r:=(aS.length:Int) != ah) (gd_of hg (I (aS.length:Int))) (gd_of hg (I ah)) rfl)<|s_val (x_por (b:=((az != ab)||(aC != ab))) (r:=(aS.length:Int) != ah) rfl rfl (fun hb=>gd_of (c:=!((az != ab)||(aC != ab))) (by first | exact hb | (rw [hb]; rfl) | simp_all) (B ((aS.length:Int) != ah))))<|zM (B (((az != ab)||(aC != ab))||((aS.length:Int) != ah))) rfl<|g_val (!(((az != ab)||(aC != ab))||((aS.length:Int) != ah))) (gy_f rfl) (fun hg=>x_mv (v:=bQ) rfl)<|g_val (!(((az != ab)||(aC != ab))||((aS.length:Int) != ah))) (gy_f rfl) (fun hg=>x_lenS T33.und (gd_of hg (bQ)) (H.os 0)) ?_;refine g_val (!(((az != ab)||(aC != ab))||((aS.length:Int) != ah))) (gy_f rfl) (fun hg=>x_mv (v:=I ah) rfl)<|g_val (!(((az != ab)||(aC != ab))||((aS.length:Int) != ah))) (gy_f rfl) (fun hg=>x_cmp (kd:=.i64) (r:=(bp.length:Int) != ah) (gd_of hg (I (bp.length:Int))) (gd_of hg (I ah)) rfl)<|s_val (x_por (b:=(((az != ab)||(aC != ab))||((aS.length:Int) != ah))) (r:=(bp.length:Int) != ah) rfl rfl (fun hb=>gd_of (c:=!(((az != ab)||(aC != ab))||((aS.length:Int) != ah))) (by first | exact hb | (rw [hb]; rfl) | simp_all) (B ((bp.length:Int) != ah))))<|s_nil ?_
 refine W.cond ((((az != ab)||(aC != ab))||((aS.length:Int) != ah))||((bp.length:Int) != ah)) rfl (fun b7=>?_) (fun b7=>?_)
 ·replace hM:=M.e_t hM b7;refine kg 4 ?_;replace H:=H.pk [];refine W.ret ?_
  have ac:=M.e_pure hM
  exact ⟨_,resE_tmp rfl,⟨false,ac,rfl,H⟩⟩
 replace hM:=M.e_f hM b7;refine W.skip ?_;refine W.seqJ (fun σ W=>∃ (ρ:Env),σ=upds ρ [(2,ba),(3,I many),(4,aY),(5,Pq bi),(11,Pq bm),(12,aZ),(13,a6),(14,Pq bo)]/\(za9 bb bc bf bg ai aj bh watches many l r0 r1 aF aG r4 r5 r6 r7 r8 aH aI aJ aK ae ag a7).Ends r/\St w W [cBlk bo [au,av,aw,ax,I ae,I ag,ay] 53,cOwn (α:=Int) 3 au aH,cOwn (α:=Span) 26 av aI,cOwn (α:=Int) 3 aw aJ,cOwn (α:=Town) 105 ax aK,cOwn (α:=Raw 1) 106 ay bx,cRo bz,cBlk bm [ak,al,am,ao,I r4,I r5,ap] 29,cOwn (α:=Dem) 32 a6 r8,cOwn (α:=Int) 3 aZ r7,cOwn (α:=Int) 3 ak r0,cOwn (α:=Span) 26 al r1,cOwn (α:=Int) 3 am aF,cOwn (α:=Town) 36 ao aG,cOwn (α:=Raw 1) 38 ap bv,cRo bw,cBlk bi [aM,aN,aO,aP,I ai,I aj,aQ] 29] R) ?_ ?_
 ·skip
  refine kg 5 ?_
  refine W.cond (az==0) rfl (fun br=>?_) (fun br=>?_)
  ·replace hM:=M.e_t hM br
   replace br:=dI br
   refine kg 5 ?_;obtain ⟨d0,cQ,hM⟩:=M.e_bind hM;refine s_call cf32 [.agg #[au,av,aw,ax,I ae,I ag,ay],b6] rfl (za6 aH aI aJ aK ae ag a7 aS (rdo 3) (H.os 3) (rdo 4) (H.os 4) (rdo 5) (H.os 5) (rdo 6) (H.os 6) (Reads.sup (rdo 7) (Reads.sup (aq.app _) (Reads.of (k:=8) rfl roLe))) (rowSl rfl (H.get (k:=7) rfl) (Cells.sup_le (aq.at H) (roLe _ (H.get (k:=8) rfl))) bn) (rdo 1) (H.os 1) cQ _ (H.gt 19)) ?_
   rintro vq d1 ⟨b8,b9,d2,rfl,hvq,aa⟩
   subst vq;(try dsimp only at hM);replace H:=H.bk aa;clear aa;refine kg 14 ?_;refine s_val (x_por (b:=b9 != 0) (r:=decide (0<(b8.length:Int))) rfl rfl (fun hb=>gd_of (c:=!(b9 != 0)) (by first | exact hb | (rw [hb]; rfl) | simp_all) (B (decide (0<(b8.length:Int))))))<|s_nil ?_;replace H:=H.pk [1,3,4,5,6,7,8,9,10,11,12,13,14,15,16,17,18,19]
   refine W.cond ((b9 != 0)||(decide (0<(b8.length:Int)))) rfl (fun ca=>?_) (fun ca=>?_)
   ·replace hM:=M.e_t hM ca;refine kg 4 ?_;replace H:=H.pk [];refine W.ret ?_
    have ac:=M.e_pure hM
    exact ⟨_,resE_tmp rfl,⟨false,ac,rfl,H⟩⟩
   replace hM:=M.e_f hM ca;refine kg 2 ?_;refine W.draw (fun W=>St w W [cOwn (α:=Dem) 32 bQ bp,cBlk bo [au,av,aw,ax,I ae,I ag,ay] 53,cOwn (α:=Int) 3 au aH,cOwn (α:=Span) 26 av aI,cOwn (α:=Int) 3 aw aJ,cOwn (α:=Town) 105 ax aK,cOwn (α:=Raw 1) 106 ay bx,cRo bz,cBlk bm [ak,al,am,ao,I r4,I r5,ap] 29,cOwn (α:=Dem) 32 a6 r8,cOwn (α:=Int) 3 aZ r7,cOwn (α:=Int) 3 ak r0,cOwn (α:=Span) 26 al r1,cOwn (α:=Int) 3 am aF,cOwn (α:=Town) 36 ao aG,cOwn (α:=Raw 1) 38 ap bv,cRo bw,cBlk bi [aM,aN,aO,aP,I ai,I aj,aQ] 29] R) [(0,true),(1,true),(2,true),(3,false),(4,false),(5,true),(6,true),(7,true),(8,true),(9,true)] mixed (by decide +kernel) rfl ?_;intro d3 bA;replace H:=H.ext bA;clear bA
   refine ⟨(H.pk [0,1,2,3,4,5,6,7,8,9,10,11,12,13,14,15,16,17]),?_⟩
   refine kg 3 ?_;refine d_l rfl ?_;obtain ⟨d4,cR,hM⟩:=M.e_bind hM;refine s_call cf28 [bQ] rfl (zbf bp (rdo 0) (H.os 0) cR _ (H.gt 18)) ?_
   rintro vq d5 ⟨cS,cT,rfl,hvq,aa⟩
   subst vq;(try dsimp only at hM);replace H:=H.bk aa;clear aa
   have d6:=Sl.cells (H.os 0)
   have d7:=Sl.oc (H.os 0)
   refine s_nil ⟨(H.pk [1,2,3,4,5,6,7,8,9,10,11,12,13,14,15,16,17,18]),?_⟩
   refine d_l rfl ?_;obtain ⟨d8,cU,hM⟩:=M.e_bind hM;refine s_call cf36 [.agg #[au,av,aw,ax,I ae,I ag,ay],I ah,cT] rfl (zd6 aH aI aJ aK ae ag a7 ah cS (rdo 3) (H.os 3) (rdo 4) (H.os 4) (rdo 5) (H.os 5) (rdo 6) (H.os 6) (Reads.sup (rdo 7) (Reads.sup (aq.app _) (Reads.of (k:=8) rfl roLe))) (rowSl rfl (H.get (k:=7) rfl) (Cells.sup_le (aq.at H) (roLe _ (H.get (k:=8) rfl))) bn) (rdo 0) (H.os 0) cU _ (H.gt 19)) ?_
   rintro vq d9 ⟨cb,cc,rfl,hvq,aa⟩
   subst vq;(try dsimp only at hM);replace H:=H.bk aa;clear aa
   refine s_nil ⟨(H.pk [1,2,3,4,5,6,7,8,9,10,11,12,13,14,15,16,17,18]),?_⟩
   refine kg 6 ?_;replace H:=H.pk [2,3,4,5,6,7,8,9,10,11,12,13,14,15,16,17,18];refine kg 7 ?_;refine s_val (x_por (b:=cc != 0) (r:=!cb) rfl rfl (fun hb=>gd_of (c:=!(cc != 0)) (by first | exact hb | (rw [hb]; rfl) | simp_all) (B (!cb))))<|s_nil ?_
   refine W.cond ((cc != 0)||(!cb)) rfl (fun cd=>?_) (fun cd=>?_)
   ·replace hM:=M.e_t hM cd;refine kg 4 ?_;replace H:=H.pk [];refine W.ret ?_
    have ac:=M.e_pure hM
    exact ⟨_,resE_tmp rfl,⟨false,ac,rfl,H⟩⟩
   replace hM:=M.e_f hM cd;refine W.skip ?_
   exact ⟨_,upds_of _ _ ⟨rfl,rfl,rfl,rfl,rfl,rfl,rfl,rfl,trivial⟩,hM,H⟩
  replace hM:=M.e_f hM br
  replace br:=dI br
  refine W.skip ?_
  exact ⟨_,upds_of _ _ ⟨rfl,rfl,rfl,rfl,rfl,rfl,rfl,rfl,trivial⟩,hM,(H.pk [2,3,4,5,6,7,8,9,10,11,12,13,14,15,16,17,18])⟩
 rintro _ ea ⟨ρ,rfl,hM,H⟩
 unfold za9 at hM
 refine kg 5 ?_;obtain ⟨eb,cV,hM⟩:=M.e_bind hM;refine s_call cf37 [.agg #[ak,al,am,ao,I r4,I r5,ap],I many,a6] rfl (ze8 r0 r1 aF aG r4 r5 r6 many r8 (rdo 10) (H.os 10) (rdo 11) (H.os 11) (rdo 12) (H.os 12) (rdo 13) (H.os 13) (Reads.sup (rdo 14) (Reads.of (k:=15) rfl roLe)) (rowSl rfl (H.get (k:=14) rfl) (roLe _ (H.get (k:=15) rfl)) bj) (rdo 8) (H.os 8) cV _ (H.gt 17)) ?_
 rintro vq ec ⟨aA,aD,rfl,hvq,aa⟩
 subst vq;(try dsimp only at hM);replace H:=H.bk aa;clear aa;refine kg 7 ?_;refine W.draw (fun W=>St w W [cBlk bo [au,av,aw,ax,I ae,I ag,ay] 53,cOwn (α:=Int) 3 au aH,cOwn (α:=Span) 26 av aI,cOwn (α:=Int) 3 aw aJ,cOwn (α:=Town) 105 ax aK,cOwn (α:=Raw 1) 106 ay bx,cRo bz,cBlk bm [ak,al,am,ao,I r4,I r5,ap] 29,cOwn (α:=Dem) 32 a6 r8,cOwn (α:=Int) 3 aZ r7,cOwn (α:=Int) 3 ak r0,cOwn (α:=Span) 26 al r1,cOwn (α:=Int) 3 am aF,cOwn (α:=Town) 36 ao aG,cOwn (α:=Raw 1) 38 ap bv,cRo bw,cBlk bi [aM,aN,aO,aP,I ai,I aj,aQ] 29] R) [(0,true),(1,true),(2,true),(3,false),(4,false),(5,true),(6,true),(7,true),(8,true),(9,true)] mixed (by decide +kernel) rfl ?_;intro ed bA;replace H:=H.ext bA;clear bA
 refine ⟨(H.pk [0,1,2,3,4,5,6,7,8,9,10,11,12,13,14,15,16]),?_⟩
 refine kg 3 ?_;refine d_l rfl ?_;obtain ⟨ee,cW,hM⟩:=M.e_bind hM;refine s_call cf28 [aY] rfl (zbf l (bT.app _) bu cW _ (H.gt 17)) ?_
 rintro vq ef ⟨cX,cY,rfl,hvq,aa⟩
 subst vq;(try dsimp only at hM);replace H:=H.bk aa;clear aa
 have eg:=Sl.cells (H.os 0)
 have eh:=Sl.oc (H.os 0)
 refine s_nil ⟨(H.pk [1,2,3,4,5,6,7,8,9,10,11,12,13,14,15,16,17]),?_⟩
 refine d_l rfl ?_;obtain ⟨ei,cZ,hM⟩:=M.e_bind hM;refine s_call cf36 [.agg #[au,av,aw,ax,I ae,I ag,ay],I many,cY] rfl (zd6 aH aI aJ aK ae ag a7 many cX (rdo 2) (H.os 2) (rdo 3) (H.os 3) (rdo 4) (H.os 4) (rdo 5) (H.os 5) (Reads.sup (rdo 6) (Reads.sup (aq.app _) (Reads.of (k:=7) rfl roLe))) (rowSl rfl (H.get (k:=6) rfl) (Cells.sup_le (aq.at H) (roLe _ (H.get (k:=7) rfl))) bn) (rdo 0) (H.os 0) cZ _ (H.gt 18)) ?_
 rintro vq ej ⟨aB,aE,rfl,hvq,aa⟩
 subst vq;(try dsimp only at hM);replace H:=H.bk aa;clear aa
 refine s_nil ⟨(H.pk [1,2,3,4,5,6,7,8,9,10,11,12,13,14,15,16,17]),?_⟩
 refine kg 6 ?_;replace H:=H.pk [8,9,10,11,12,13,14,15,16,17];refine kg 8 ?_;refine g_val (aD==aE) (gy_t rfl) (fun hg=>x_eqb (a:=aA) (b:=aB) (r:=(aA==aB)) (gd_of hg (B aA)) (gd_of hg (B aB)) Tryz.underlying4 rfl)<|s_val (x_pand (b:=aD==aE) (r:=(aA==aB)) rfl (fun hb=>gd_of (c:=aD==aE) (by first | exact hb | (rw [hb]; rfl) | simp_all) (B (aA==aB))) rfl) ?_;refine kg 3 ?_;obtain ⟨aT,c0,hM⟩:=M.e_bind hM;refine t_gcall ((aD==aE)&&(aA==aB)) (gy_t rfl) cf22 (B aT) (fun _=>[.agg #[ak,al,am,ao,I r4,I r5,ap],.agg #[aM,aN,aO,aP,I ai,I aj,aQ]]) (fun hg=>lst2 (gd_of hg (.agg #[ak,al,am,ao,I r4,I r5,ap])) (gd_of hg (.agg #[aM,aN,aO,aP,I ai,I aj,aQ]))) H (fun hg=>(zcP r0 r1 aF aG r4 r5 r6 bb bc bf bg ai aj bh (rdo 3) (H.os 3) (rdo 4) (H.os 4) (rdo 5) (H.os 5) (rdo 6) (H.os 6) (Reads.sup (rdo 7) (Reads.of (k:=8) rfl roLe)) (rowSl rfl (H.get (k:=7) rfl) (roLe _ (H.get (k:=8) rfl)) bj) (bB.app _) bC (bD.app _) bE (bF.app _) bG (bH.app _) bI (aq.app _) bJ (M.e_opt c0 hg) _ (H.give (A:=[]) rfl)).mono fun v_ w_ ⟨y_,ac,aR,H_⟩=>by subst ac; exact ⟨aR,H.via H_⟩) ?_;intro el H;refine s_val (x_pand (b:=((aD==aE)&&(aA==aB))) (r:=aT) rfl (fun hb=>gd_of (c:=((aD==aE)&&(aA==aB))) (by first | exact hb | (rw [hb]; rfl) | simp_all) (B aT)) rfl) ?_;refine kg 3 ?_;obtain ⟨a8,c5,hM⟩:=M.e_bind hM;refine t_gcall (((aD==aE)&&(aA==aB))&&aT) (gy_t rfl) cf17 (B a8) (fun _=>[aZ,ba]) (fun hg=>lst2 (gd_of hg (aZ)) (gd_of hg (ba))) H (fun hg=>(zaf r7 watches (rdo 2) (H.os 2) (bS.app _) bK (M.e_opt c5 hg) _ (H.give (A:=[]) rfl)).mono fun v_ w_ ⟨y_,ac,aR,H_⟩=>by subst ac; exact ⟨aR,H.via H_⟩) ?_;intro em H;refine s_val (x_pand (b:=(((aD==aE)&&(aA==aB))&&aT)) (r:=a8) rfl (fun hb=>gd_of (c:=(((aD==aE)&&(aA==aB))&&aT)) (by first | exact hb | (rw [hb]; rfl) | simp_all) (B a8)) rfl) ?_;refine kg 3 ?_;obtain ⟨bt,c6,hM⟩:=M.e_bind hM;refine t_gcall ((((aD==aE)&&(aA==aB))&&aT)&&a8) (gy_t rfl) cf38 (B bt) (fun _=>[a6,aY]) (fun hg=>lst2 (gd_of hg (a6)) (gd_of hg (aY))) H (fun hg=>(zeQ r8 l (rdo 1) (H.os 1) (bT.app _) bu (M.e_opt c6 hg) _ (H.give (A:=[]) rfl)).mono fun v_ w_ ⟨y_,ac,aR,H_⟩=>by subst ac; exact ⟨aR,H.via H_⟩) ?_;intro eo H;refine s_val (x_pand (b:=((((aD==aE)&&(aA==aB))&&aT)&&a8)) (r:=bt) rfl (fun hb=>gd_of (c:=((((aD==aE)&&(aA==aB))&&aT)&&a8)) (by first | exact hb | (rw [hb]; rfl) | simp_all) (B bt)) rfl) ?_;refine kg 1 ?_;obtain ⟨bR,c7,hM⟩:=M.e_bind hM;refine t_gcall (((((aD==aE)&&(aA==aB))&&aT)&&a8)&&bt) (gy_t rfl) cf10 (B bR) (fun _=>[]) (fun _=>rfl) H (fun hg=>(zao (M.e_opt c7 hg) _ (H.give (A:=[]) rfl)).mono fun v_ w_ ⟨y_,ac,aR,H_⟩=>by subst ac; exact ⟨aR,H.via H_⟩) ?_;intro ep H;refine s_val (x_pand (b:=(((((aD==aE)&&(aA==aB))&&aT)&&a8)&&bt)) (r:=bR) rfl (fun hb=>gd_of (c:=(((((aD==aE)&&(aA==aB))&&aT)&&a8)&&bt)) (by first | exact hb | (rw [hb]; rfl) | simp_all) (B bR)) rfl) ?_;refine kg 2 ?_;replace H:=H.pk [];refine W.ret ?_
 have ac:=M.e_pure hM
 exact ⟨_,resE_tmp rfl,⟨((((((aD==aE)&&(aA==aB))&&aT)&&a8)&&bt)&&bR),ac,rfl,H⟩⟩

end Go.Proofs.YtbldmjejckjflabGreat
end
section
set_option maxRecDepth 100000
set_option maxHeartbeats 16000000
namespace Go.Proofs.YtbldmjejckjflabGreat
open Go Go.Nm
attribute [local irreducible] gd execOp SL SLD SLT WR
def zdT (ac:List Int) (ae:List Span) (ag:List Int) (ah:List Town) (ai aj:Int) (aa:List Flood) (watches:List Int) (flood:Int):M (Int × Bool × Int) :=
  M.bind (za1 ac ae ag ah ai aj aa watches) fun x_=>match x_ with
  | (.inl (r1,r2))=>(
  M.bind (M.opt (r2==0) (zam flood 0 ((aa.length:Int)-1)) false) fun r3 =>
  bif ((r2==0)&&(!r3)) then (
  M.pure (0,false,2))
  else (
  bif r2 != 0 then (
  M.pure (0,false,r2))
  else (
  M.fail)))
  | (.inr (ak,al,am,ab))=>(
  M.bind (M.opt (ab==0) (zam flood 0 ((aa.length:Int)-1)) false) fun r3 =>
  bif ((ab==0)&&(!r3)) then (
  M.pure (0,false,2))
  else (
  bif ab != 0 then (
  M.fail)
  else (
  M.grd (decide ((0:Int)<=flood)&&decide (flood<(aa.length:Int))) <|
  M.bind (zaC ac ae ag ah ak al aa (aa.getD (Int.toNat flood) default) am) fun (r0,ap,ao) =>
  M.pure (r0,ao,0))))
theorem zfc {R:List Chunk} {a6:Cells} {ae:Value} {a7:Cells} {ag:Value} {a8:Cells} {ah:Value} {ba:Cells} {ai:Value} {bb:Cells} {aj:Value} {bc:Cells} {aL:Value} (aq:List Int) (au:List Span) (av:List Int) (aw:List Town) (al:Int) (am:Int) (aa:List Flood) (watches:List Int) (flood:Int) (aM:Reads R a6) (aN:Sl a6 ae aq) (aO:Reads R a7) (aP:Sl a7 ag au) (aQ:Reads R a8) (aR:Sl a8 ah av) (aS:Reads R ba) (aT:Sl ba ai aw) (ay:Reads R bb) (az:Sl bb aj aa) (bi:Reads R bc) (bj:Sl bc aL watches) {r:(Int × Bool × Int)} (hM:(zdT aq au av aw al am aa watches flood).Ends r) (w:World) (H:St w w [] R):Ret Tryz.prog 39 #[.agg #[ae,ag,ah,ai,I al,I am,aj],aL,I flood] w fun v w'=>∃ (y0:Int) (y1:Bool) (y2:Int),(y0,y1,y2)=r/\v = .tuple #[I y0,B y1,I y2]/\St w w' [] R:=by
 refine ret_of_W Tryz.func39 rfl rfl rfl ?_;refine kg 2 ?_;refine t_bx [ae,ag,ah,ai,I al,I am,aj] H rfl ?_;intro aU bx H;refine kg 8 ?_;obtain ⟨bz,bm,hM⟩:=M.e_bind hM;refine s_call cf75 [.agg #[ae,ag,ah,ai,I al,I am,aj],aL] rfl (za8 aq au av aw al am aa watches (aM.app _) aN (aO.app _) aP (aQ.app _) aR (aS.app _) aT (ay.app _) az (bi.app _) bj bm _ (H.gt 1)) ?_
 rintro vq bA (⟨r1,r2,bn,hvq,ac,bo⟩ | ⟨aA,aB,ao,aD,aH,aI,bf,bp,hvq,ac,aJ⟩)
 ·subst bn;subst vq;(try dsimp only at hM);replace H:=H.bk ac;clear ac;refine kg 4 ?_;refine t_alloc (cs:=encB (List.replicate 12 false)) H Al127 rfl ?_;intro aC bB H
  have aV:(List.replicate 12 false).length=12:=by simp
  refine kg 1 ?_;refine t_stArrA (k:=0) (b:=aC) (l:=List.replicate 12 false) (l':=r1) (L':=[cBlk aC (encB r1) 127,cBlk aU [ae,ag,ah,ai,I al,I am,aj] 29]) H rfl rfl rfl Sz127 aV bo rfl ?_;intro bC H
  have bD:=(az).len_le
  refine kg 13 ?_;obtain ⟨r3,br,hM⟩:=M.e_bind hM;refine t_gcall (r2==0) (gy_t rfl) cf45 (B r3) (fun _=>[I flood,I 0,I ((aa.length:Int)-1)]) (fun hg=>lst3 (gd_of hg (I flood)) rfl (gd_of hg (I ((aa.length:Int)-1)))) H (fun hg=>(zan flood 0 ((aa.length:Int)-1) (M.e_opt br hg) _ (H.give (A:=[]) rfl)).mono fun v_ w_ ⟨y_,ab,aW,H_⟩=>by subst ab; exact ⟨aW,H.via H_⟩) ?_;intro bE H;refine kg 1 ?_;refine s_val (x_pand (b:=r2==0) (r:=!r3) rfl (fun hb=>gd_of (c:=r2==0) (by first | exact hb | (rw [hb]; rfl) | simp_all) (B (!r3))) rfl)<|s_nil ?_
  refine W.cond ((r2==0)&&(!r3)) rfl (fun aX=>?_) (fun aX=>?_)
  ·replace hM:=M.e_t hM aX;refine kg 9 ?_
   refine W.cond ((2:Int) != 0) rfl (fun bg=>?_) (fun bg=>?_)
   ·skip
    refine kg 7 ?_;replace H:=H.pk [];refine W.ret ?_
    have ab:=M.e_pure hM
    exact ⟨_,resE_tmp3 rfl,⟨0,false,2,ab,rfl,H⟩⟩
   skip
   exact absurd bg (by decide)
  replace hM:=M.e_f hM aX;refine kg 7 ?_
  refine W.cond (r2 != 0) rfl (fun aE=>?_) (fun aE=>?_)
  ·replace hM:=M.e_t hM aE
   replace aE:=dI aE
   refine kg 7 ?_;replace H:=H.pk [];refine W.ret ?_
   have ab:=M.e_pure hM
   exact ⟨_,resE_tmp3 rfl,⟨0,false,r2,ab,rfl,H⟩⟩
  replace hM:=M.e_f hM aE
  exact (M.e_fail hM).elim
 subst bp;subst vq;(try dsimp only at hM);replace H:=H.bk ac;clear ac;refine kg 4 ?_;refine t_alloc (cs:=encB (List.replicate 12 false)) H Al127 rfl ?_;intro aC bF H
 have aV:(List.replicate 12 false).length=12:=by simp
 refine kg 1 ?_;refine t_stArrA (k:=0) (b:=aC) (l:=List.replicate 12 false) (l':=ao) (L':=[cBlk aC (encB ao) 127,cBlk aH [ae,ag,ah,ai,I aA,I aB,aj,.map (some aI)] 113,cMem encDm aI bf (zaa aq au av aw aA aB aa),cBlk aU [ae,ag,ah,ai,I al,I am,aj] 29]) H rfl rfl rfl Sz127 aV aJ rfl ?_;intro bG H
 have bH:=(az).len_le
 refine kg 13 ?_;obtain ⟨r3,bt,hM⟩:=M.e_bind hM;refine t_gcall (aD==0) (gy_t rfl) cf45 (B r3) (fun _=>[I flood,I 0,I ((aa.length:Int)-1)]) (fun hg=>lst3 (gd_of hg (I flood)) rfl (gd_of hg (I ((aa.length:Int)-1)))) H (fun hg=>(zan flood 0 ((aa.length:Int)-1) (M.e_opt bt hg) _ (H.give (A:=[]) rfl)).mono fun v_ w_ ⟨y_,ab,aW,H_⟩=>by subst ab; exact ⟨aW,H.via H_⟩) ?_;intro bI H;refine kg 1 ?_;refine s_val (x_pand (b:=aD==0) (r:=!r3) rfl (fun hb=>gd_of (c:=aD==0) (by first | exact hb | (rw [hb]; rfl) | simp_all) (B (!r3))) rfl)<|s_nil ?_
 refine W.cond ((aD==0)&&(!r3)) rfl (fun aY=>?_) (fun aY=>?_)
 ·replace hM:=M.e_t hM aY;refine kg 9 ?_
  refine W.cond ((2:Int) != 0) rfl (fun bh=>?_) (fun bh=>?_)
  ·skip
   refine kg 7 ?_;replace H:=H.pk [];refine W.ret ?_
   have ab:=M.e_pure hM
   exact ⟨_,resE_tmp3 rfl,⟨0,false,2,ab,rfl,H⟩⟩
  skip
  exact absurd bh (by decide)
 replace hM:=M.e_f hM aY;refine kg 7 ?_
 refine W.cond (aD != 0) rfl (fun aF=>?_) (fun aF=>?_)
 ·replace hM:=M.e_t hM aF
  exact (M.e_fail hM).elim
 replace hM:=M.e_f hM aF
 replace aF:=dI aF
 refine kg 2 ?_;refine W.drawT (fun W=>St w W [cBlk aC (encB ao) 127,cBlk aH [ae,ag,ah,ai,I aA,I aB,aj,.map (some aI)] 113,cMem encDm aI bf (zaa aq au av aw aA aB aa),cBlk aU [ae,ag,ah,ai,I al,I am,aj] 29] R) (.q 0 (.q 1 (.q 2 (.q 3 (.q 4 (.q 5 (.q 6 (.l2 7 (.l 8 (.l 9 .nil)) 8 (.l 7 (.l 9 .nil)))))))))) mixed (by decide +kernel) rfl ?_;intro bJ ap;replace H:=H.ext ap;clear ap
 refine ⟨(H.pk [0,1,2,3]),?_⟩
 obtain ⟨bK,hM⟩:=M.e_gd hM;refine kg 5 ?_
 obtain ⟨aK,bu,aG⟩:=Flood_atA az (i:=flood) (by omega) (by omega)
 replace aG:Sl _ aK (aa.getD (Int.toNat flood) default).stages:=aG
 have bL:=aG.len_le
 refine t_q rfl (fun w' H=>x_ld (v:=.agg #[I ((aa.getD (Int.toNat flood) default).spring),aK]) rfl (ld_ag Ag38 Sz38 (At.mono bu (ay.at H))))<|t_q rfl (fun w' H=>x_ld (v:=.agg (encB ao).toArray) rfl (ldArrA Ag127 Sz127 aJ (H.bl 0))) ?_;refine t_l2 rfl rfl ?_ ?_
 ·skip
  obtain ⟨bM,bv,hM⟩:=M.e_bind hM;refine s_call cf84 [Pq aH,.agg #[I ((aa.getD (Int.toNat flood) default).spring),aK],.agg (encB ao).toArray] rfl (zaH aq au av aw aA aB aa (aa.getD (Int.toNat flood) default) ao (aM.app _) aN (aO.app _) aP (aQ.app _) aR (aS.app _) aT (ay.app _) az (Has.here (k:=1) rfl) (ay.app _) aG aJ bv _ (H.gt 4)) ?_
  rintro vq bN ⟨r0,ax,ak,rfl,hvq,ac⟩
  subst vq;(try dsimp only at hM);replace H:=H.bk ac;clear ac
  refine s_nil ⟨(H.pk [0,1,2,3]),?_⟩
  refine t_l rfl ?_;refine t_alloc (cs:=[I 0,I 0,B false]) H Al136 rfl ?_;intro aZ bO H
  refine s_nil ⟨(H.pk [1,2,3,4]),?_⟩
  refine t_l rfl ?_;refine t_sw 0 0 [I r0,I ax,B ak] (.agg #[I r0,I ax,B ak]) H rfl rfl Sz136 rfl rfl rfl rfl ?_;intro bP H
  refine s_nil ⟨(H.pk [1,2,3,4]),?_⟩
  refine t_nil ?_;replace H:=H.pk [0];refine W.seq ?_;refine W.draw (fun W=>St w W [cBlk aZ [I r0,I ax,B ak] 136] R) [(0,true),(1,true),(2,true),(3,true),(4,true),(5,true),(6,true)] mixed (by decide +kernel) rfl ?_;intro bQ ap;replace H:=H.ext ap;clear ap
  refine ⟨(H.pk [0]),?_⟩
  refine kg 8 ?_;refine W.ret ?_
  have ab:=M.e_pure hM
  exact ⟨_,resE_tmp3 rfl,⟨r0,ak,0,ab,rfl,(H.pk [])⟩⟩
 skip
 refine t_alloc (cs:=[I 0,I 0,B false]) H Al136 rfl ?_;intro aZ bR H
 refine s_nil ⟨(H.pk [1,2,3,4]),?_⟩
 refine t_l rfl ?_;obtain ⟨bS,bw,hM⟩:=M.e_bind hM;refine s_call cf84 [Pq aH,.agg #[I ((aa.getD (Int.toNat flood) default).spring),aK],.agg (encB ao).toArray] rfl (zaH aq au av aw aA aB aa (aa.getD (Int.toNat flood) default) ao (aM.app _) aN (aO.app _) aP (aQ.app _) aR (aS.app _) aT (ay.app _) az (Has.here (k:=2) rfl) (ay.app _) aG aJ bw _ (H.gt 5)) ?_
 rintro vq bT ⟨r0,ax,ak,rfl,hvq,ac⟩
 subst vq;(try dsimp only at hM);replace H:=H.bk ac;clear ac
 refine s_nil ⟨(H.pk [1,2,3,4]),?_⟩
 refine t_l rfl ?_;refine t_sw 0 0 [I r0,I ax,B ak] (.agg #[I r0,I ax,B ak]) H rfl rfl Sz136 rfl rfl rfl rfl ?_;intro bU H
 refine s_nil ⟨(H.pk [1,2,3,4]),?_⟩
 refine t_nil ?_;replace H:=H.pk [0];refine W.seq ?_;refine W.draw (fun W=>St w W [cBlk aZ [I r0,I ax,B ak] 136] R) [(0,true),(1,true),(2,true),(3,true),(4,true),(5,true),(6,true)] mixed (by decide +kernel) rfl ?_;intro bV ap;replace H:=H.ext ap;clear ap
 refine ⟨(H.pk [0]),?_⟩
 refine kg 8 ?_;refine W.ret ?_
 have ab:=M.e_pure hM
 exact ⟨_,resE_tmp3 rfl,⟨r0,ak,0,ab,rfl,(H.pk [])⟩⟩

def zb8 (watches:List Int) (f:Flood) (r2:List Int) (i:Int):(Int × Int × Nat)->M ((Int × Int × Nat) ⊕ (Int × Int)):=fun (who,stage,k) =>
  bif decide ((k:Int)<(watches.length:Int)) then (
  M.grd (decide ((k:Int)<(watches.length:Int))) <|
  M.grd (decide ((0:Int)<=i)&&decide (i<(r2.length:Int))) <|
  bif (watches.getD k 0)==(r2.getD (Int.toNat i) 0) then (
  M.grd (decide ((0:Int)<=i)&&decide (i<(f.stages.length:Int))) <|
  M.pure (.inl (r2.getD (Int.toNat i) 0,f.stages.getD (Int.toNat i) 0,k+1)))
  else (
  M.pure (.inl (who,stage,k+1))))
  else (
  M.pure (.inr (who,stage)))
def zcG (aa:List Town) (f:Flood) (r2:List Int) (i:Int):(Bool × Nat)->M ((Bool × Nat) ⊕ Bool):=fun (danger,k2) =>
  bif decide ((k2:Int)<(aa.length:Int)) then (
  M.grd ((!(!danger)||(decide ((k2:Int)<(aa.length:Int))))) <|
  M.grd ((!(!danger)||(decide ((0:Int)<=i)&&decide (i<(r2.length:Int))))) <|
  M.grd ((!((!danger)&&(((aa.getD k2 default).station)==(r2.getD (Int.toNat i) 0)))||(decide ((k2:Int)<(aa.length:Int))))) <|
  M.grd ((!((!danger)&&(((aa.getD k2 default).station)==(r2.getD (Int.toNat i) 0)))||(decide ((0:Int)<=i)&&decide (i<(f.stages.length:Int))))) <|
  M.pure (.inl ((danger||((((aa.getD k2 default).station)==(r2.getD (Int.toNat i) 0))&&(decide (((aa.getD k2 default).alarm)<=(f.stages.getD (Int.toNat i) 0))))),k2+1)))
  else (
  M.pure (.inr danger))
def zbG (aa:List Town) (watches:List Int) (f:Flood) (r2:List Int):(Int × Int × Bool × Int)->M ((Int × Int × Bool × Int) ⊕ (Int × Int × Bool)):=fun (who3,stage3,danger3,i) =>
  bif decide (0<=i) then (
  M.bind (M.iter (zb8 watches f r2 i) (who3,stage3,0)) fun (who2,stage2) =>
  M.bind (M.iter (zcG aa f r2 i) (danger3,0)) fun danger2 =>
  M.grd (decide ((-9223372036854775808:Int)<=(i-1))&&decide ((i-1)<=(9223372036854775807:Int))) <|
  M.pure (.inl (who2,stage2,danger2,i-1)))
  else (
  M.pure (.inr (who3,stage3,danger3)))
def zbo (ab:List Int) (ac:List Span) (ae:List Int) (aa:List Town) (ag ah:Int) (ai:List Flood) (watches:List Int) (f:Flood):M (Int × Int × Bool) :=
  M.bind (zbb ab ac ae aa ag ah ai f.spring) fun r2 =>
  M.bind (M.iter (zbG aa watches f r2) (-1,0,false,(r2.length:Int)-1)) fun (who4,stage4,danger4) =>
  M.pure (who4,stage4,danger4)
theorem zda {R:List Chunk} {aQ:Cells} {aq:Value} {aR:Cells} {au:Value} {aS:Cells} {av:Value} {aT:Cells} {ah:Value} {aU:Cells} {aw:Value} {aV:Cells} {aG:Value} {aW:Cells} {am:Value} (aH:List Int) (aI:List Span) (aJ:List Int) (ag:List Town) (ao:Int) (ap:Int) (aK:List Flood) (watches:List Int) (f:Flood) (bg:Reads R aQ) (bh:Sl aQ aq aH) (bi:Reads R aR) (bj:Sl aR au aI) (bm:Reads R aS) (bn:Sl aS av aJ) (aL:Reads R aT) (aF:Sl aT ah ag) (bo:Reads R aU) (bp:Sl aU aw aK) (bK:Reads R aV) (br:Sl aV aG watches) (bt:Reads R aW) (aX:Sl aW am f.stages) {r:(Int × Int × Bool)} (hM:(zbo aH aI aJ ag ao ap aK watches f).Ends r) (w:World) (H:St w w [] R):Ret Tryz.prog 85 #[.agg #[aq,au,av,ah,I ao,I ap,aw],aG,.agg #[I f.spring,am]] w fun v w'=>∃ (y0:Int) (y1:Int) (y2:Bool),(y0,y1,y2)=r/\v = .tuple #[I y0,I y1,B y2]/\St w w' [] R:=by
 refine ret_of_W Tryz.func85 rfl rfl rfl ?_;refine kg 2 ?_;refine t_bx [aq,au,av,ah,I ao,I ap,aw] H rfl ?_;intro ax bL H;refine t_bx [I f.spring,am] H rfl ?_;intro ay bM H;refine kg 9 ?_;obtain ⟨bN,bu,hM⟩:=M.e_bind hM;refine s_call cf60 [.agg #[aq,au,av,ah,I ao,I ap,aw],I f.spring] rfl (zcc aH aI aJ ag ao ap aK f.spring (bg.app _) bh (bi.app _) bj (bm.app _) bn (aL.app _) aF (bo.app _) bp bu _ (H.gt 2)) ?_
 rintro vq bO ⟨r2,az,rfl,hvq,aY⟩
 subst vq;(try dsimp only at hM);replace H:=H.bk aY;clear aY
 have bP:=((H.os 0)).len_le
 refine kg 20 ?_;obtain ⟨bv,aM,bw⟩:=M.e_bind hM
 obtain ⟨aZ,aM⟩:=M.e_iter aM
 refine W.loop (fun m σ W=>∃ (who3:Int) (stage3:Int) (danger3:Bool) (i:Int) (ρ:Env),σ=upds ρ [(1,aG),(3,Pq ax),(5,Pq ay),(9,az),(10,I who3),(11,I stage3),(12,B danger3),(13,I i)]/\M.iterN (zbG ag watches f r2) m (who3,stage3,danger3,i)=some bv/\St w W [cOwn (α:=Int) 3 az r2,cBlk ay [I f.spring,am] 106,cBlk ax [aq,au,av,ah,I ao,I ap,aw] 53] R) ?_ ?_
 ·exact ⟨_,-1,0,false,(r2.length:Int)-1,_,upds_of _ _ ⟨rfl,rfl,rfl,rfl,rfl,rfl,rfl,rfl,trivial⟩,aM,H⟩
 rintro bQ σ bR ⟨who3,stage3,danger3,i,ρ,rfl,a6,H⟩
 obtain ⟨bx,bz,bS,hM,a7⟩:=M.e_iterN a6
 simp only [zbG] at hM
 clear a6;refine kg 6 ?_
 refine W.cond (decide (0<=i)) rfl (fun aA=>?_) (fun aA=>?_)
 ·replace hM:=M.e_t hM aA
  replace aA:=dI aA
  refine kg 9 ?_;obtain ⟨bA,aN,bB⟩:=M.e_bind hM
  obtain ⟨aZ,aN⟩:=M.e_iter aN
  refine W.loop (fun m σ W=>∃ (who:Int) (stage:Int) (k:Nat) (ρ:Env),σ=upds ρ [(1,aG),(3,Pq ax),(5,Pq ay),(9,az),(10,I who),(11,I stage),(12,B danger3),(13,I i),(14,I (k:Int))]/\M.iterN (zb8 watches f r2 i) m (who,stage,k)=some bA/\St w W [cOwn (α:=Int) 3 az r2,cBlk ay [I f.spring,am] 106,cBlk ax [aq,au,av,ah,I ao,I ap,aw] 53] R) ?_ ?_
  ·exact ⟨_,who3,stage3,0,_,upds_of _ _ ⟨rfl,rfl,rfl,rfl,rfl,rfl,rfl,rfl,rfl,trivial⟩,aN,H⟩
  rintro bT σ bU ⟨who,stage,k,ρ,rfl,a8,H⟩
  obtain ⟨ba,bb,bV,hM,aO⟩:=M.e_iterN a8
  simp only [zb8] at hM
  clear a8
  have bW:=(br).len_le
  refine kg 8 ?_
  refine W.cond (decide ((k:Int)<(watches.length:Int))) rfl (fun aB=>?_) (fun aB=>?_)
  ·replace hM:=M.e_t hM aB
   replace aB:=dI aB
   refine kg 4 ?_;refine W.draw (fun W=>St w W [cOwn (α:=Int) 3 az r2,cBlk ay [I f.spring,am] 106,cBlk ax [aq,au,av,ah,I ao,I ap,aw] 53] R) [(0,true),(1,true),(2,true),(3,true),(4,true),(5,true),(6,true),(7,true),(8,true)] mixed (by decide +kernel) rfl ?_;intro bX ae;replace H:=H.ext ae;clear ae
   refine ⟨(H.pk [0,1,2]),?_⟩
   obtain ⟨bY,hM⟩:=M.e_gd hM;obtain ⟨bZ,hM⟩:=M.e_gd hM;refine kg 10 ?_
   refine W.cond ((watches.getD k 0)==(r2.getD (Int.toNat i) 0)) rfl (fun aC=>?_) (fun aC=>?_)
   ·replace hM:=M.e_t hM aC
    replace aC:=dI aC
    refine W.draw (fun W=>St w W [cOwn (α:=Int) 3 az r2,cBlk ay [I f.spring,am] 106,cBlk ax [aq,au,av,ah,I ao,I ap,aw] 53] R) [(0,true),(1,true),(2,true),(3,true),(4,true),(5,true),(6,true),(7,true),(8,true),(9,true),(10,true)] mixed (by decide +kernel) rfl ?_;intro b0 ae;replace H:=H.ext ae;clear ae
    refine ⟨(H.pk [0,1,2]),?_⟩
    obtain ⟨b1,hM⟩:=M.e_gd hM;refine kg 17 ?_
    exact ⟨ba,bb,r2.getD (Int.toNat i) 0,f.stages.getD (Int.toNat i) 0,k+1,_,upds_of _ _ ⟨rfl,rfl,rfl,rfl,rfl,rfl,rfl,rfl,rfl,trivial⟩,M.e_inl hM aO,H⟩
   replace hM:=M.e_f hM aC
   replace aC:=dI aC
   refine kg 6 ?_
   exact ⟨ba,bb,who,stage,k+1,_,upds_of _ _ ⟨rfl,rfl,rfl,rfl,rfl,rfl,rfl,rfl,rfl,trivial⟩,M.e_inl hM aO,H⟩
  replace hM:=M.e_f hM aB
  replace aB:=dI aB
  refine W.exit ?_
  have bC:=M.e_inr hM aO
  subst bC;replace hM:=bB;(try dsimp only at hM);refine kg 5 ?_;obtain ⟨bD,aP,bE⟩:=M.e_bind hM
  obtain ⟨aZ,aP⟩:=M.e_iter aP
  refine W.loop (fun m σ W=>∃ (danger:Bool) (k2:Nat) (ρ:Env),σ=upds ρ [(1,aG),(3,Pq ax),(5,Pq ay),(9,az),(10,I who),(11,I stage),(12,B danger),(13,I i),(15,I (k2:Int))]/\M.iterN (zcG ag f r2 i) m (danger,k2)=some bD/\St w W [cOwn (α:=Int) 3 az r2,cBlk ay [I f.spring,am] 106,cBlk ax [aq,au,av,ah,I ao,I ap,aw] 53] R) ?_ ?_
  ·exact ⟨_,danger3,0,_,upds_of _ _ ⟨rfl,rfl,rfl,rfl,rfl,rfl,rfl,rfl,rfl,trivial⟩,aP,H⟩
  rintro b2 σ b3 ⟨danger,k2,ρ,rfl,bc,H⟩
  obtain ⟨bF,bG,b4,hM,bf⟩:=M.e_iterN bc
  simp only [zcG] at hM
  clear bc
  have b5:=(aF).len_le
  refine kg 9 ?_
  refine W.cond (decide ((k2:Int)<(ag.length:Int))) rfl (fun aD=>?_) (fun aD=>?_)
  ·replace hM:=M.e_t hM aD
   replace aD:=dI aD
   refine kg 3 ?_;refine W.draw (fun W=>St w W [cOwn (α:=Int) 3 az r2,cBlk ay [I f.spring,am] 106,cBlk ax [aq,au,av,ah,I ao,I ap,aw] 53] R) [(0,true),(1,true),(2,true),(3,true),(4,true),(5,true),(6,true),(7,true),(8,true),(9,true),(10,true),(11,true),(12,true),(13,true),(14,true),(15,true),(16,true),(17,true),(18,true),(19,true),(20,true),(21,true),(22,true),(23,true),(24,true),(25,true),(26,true),(27,true),(28,true)] mixed (by decide +kernel) rfl ?_;intro b6 ae;replace H:=H.ext ae;clear ae
   refine ⟨(H.pk [0,1,2]),?_⟩
   obtain ⟨ai,hM⟩:=M.e_grd hM
   replace ai:=M.imp_of ai
   simp only [Bool.and_eq_true,decide_eq_true_eq] at ai
   refine kg 7 ?_;refine d_qg (!danger) rfl (gy_f rfl) (fun hg=>(fun w' H=>x_ld (v:=I ((ag.getD k2 default).station)) (gd_of hg (fat (vat ah 3 (Int.toNat (k2:Int))) 0)) (ld_sc Sc3 (At.mono (Town_at0 aF (i:=(k2:Int)) (by have aa:=ai.resolve_left (by rw [hg]; decide); first | exact aa | exact aa.1 | exact aa.2 | omega | (have ae:=hg; simp at ae; omega)) (by have aa:=ai.resolve_left (by rw [hg]; decide); first | exact aa | exact aa.1 | exact aa.2 | omega | (have ae:=hg; simp at ae; omega))) (aL.at H))))) ?_;obtain ⟨ak,hM⟩:=M.e_grd hM
   replace ak:=M.imp_of ak
   simp only [Bool.and_eq_true,decide_eq_true_eq] at ak
   obtain ⟨al,hM⟩:=M.e_grd hM
   replace al:=M.imp_of al
   simp only [Bool.and_eq_true,decide_eq_true_eq] at al
   refine kg 9 ?_;refine d_qg ((!danger)&&(((ag.getD k2 default).station)==(r2.getD (Int.toNat i) 0))) rfl (gy_gt rfl rfl) (fun hg=>(fun w' H=>x_ix (v:=vat ah 3 (Int.toNat (k2:Int))) (gd_of hg (ah)) (gd_of hg (I (k2:Int))) (Sl.ix (α:=Town) T50.und T50.size aF (by have aa:=al.resolve_left (by rw [hg]; decide); have ab:=ai.resolve_left (by rw [(Eq.mp (Bool.and_eq_true _ _) hg).1]; decide); have ac:=ak.resolve_left (by rw [(Eq.mp (Bool.and_eq_true _ _) hg).1]; decide); first | exact aa | exact aa.1 | exact aa.2 | exact ab | exact ab.1 | exact ab.2 | exact ac | exact ac.1 | exact ac.2 | omega | (have ae:=hg; simp at ae; omega)) (by have aa:=al.resolve_left (by rw [hg]; decide); have ab:=ai.resolve_left (by rw [(Eq.mp (Bool.and_eq_true _ _) hg).1]; decide); have ac:=ak.resolve_left (by rw [(Eq.mp (Bool.and_eq_true _ _) hg).1]; decide); first | exact aa | exact aa.1 | exact aa.2 | exact ab | exact ab.1 | exact ab.2 | exact ac | exact ac.1 | exact ac.2 | omega | (have ae:=hg; simp at ae; omega)))))<|d_qg ((!danger)&&(((ag.getD k2 default).station)==(r2.getD (Int.toNat i) 0))) rfl (gy_gt rfl rfl) (fun hg=>(fun w' H=>x_fa (v:=fat (vat ah 3 (Int.toNat (k2:Int))) 2) (gd_of hg (vat ah 3 (Int.toNat (k2:Int)))) (fa_pl Fd105_2 Sz3 (Sl.pl (i:=(k2:Int)) aF (by have aa:=al.resolve_left (by rw [hg]; decide); have ab:=ai.resolve_left (by rw [(Eq.mp (Bool.and_eq_true _ _) hg).1]; decide); have ac:=ak.resolve_left (by rw [(Eq.mp (Bool.and_eq_true _ _) hg).1]; decide); first | exact aa | exact aa.1 | exact aa.2 | exact ab | exact ab.1 | exact ab.2 | exact ac | exact ac.1 | exact ac.2 | omega | (have ae:=hg; simp at ae; omega)) (by have aa:=al.resolve_left (by rw [hg]; decide); have ab:=ai.resolve_left (by rw [(Eq.mp (Bool.and_eq_true _ _) hg).1]; decide); have ac:=ak.resolve_left (by rw [(Eq.mp (Bool.and_eq_true _ _) hg).1]; decide); first | exact aa | exact aa.1 | exact aa.2 | exact ab | exact ab.1 | exact ab.2 | exact ac | exact ac.1 | exact ac.2 | omega | (have ae:=hg; simp at ae; omega))))))<|d_qg ((!danger)&&(((ag.getD k2 default).station)==(r2.getD (Int.toNat i) 0))) rfl (gy_gt rfl rfl) (fun hg=>(fun w' H=>x_ld (v:=I ((ag.getD k2 default).alarm)) (gd_of hg (fat (vat ah 3 (Int.toNat (k2:Int))) 2)) (ld_sc Sc3 (At.mono (Town_at2 aF (i:=(k2:Int)) (by have aa:=al.resolve_left (by rw [hg]; decide); have ab:=ai.resolve_left (by rw [(Eq.mp (Bool.and_eq_true _ _) hg).1]; decide); have ac:=ak.resolve_left (by rw [(Eq.mp (Bool.and_eq_true _ _) hg).1]; decide); first | exact aa | exact aa.1 | exact aa.2 | exact ab | exact ab.1 | exact ab.2 | exact ac | exact ac.1 | exact ac.2 | omega | (have ae:=hg; simp at ae; omega)) (by have aa:=al.resolve_left (by rw [hg]; decide); have ab:=ai.resolve_left (by rw [(Eq.mp (Bool.and_eq_true _ _) hg).1]; decide); have ac:=ak.resolve_left (by rw [(Eq.mp (Bool.and_eq_true _ _) hg).1]; decide); first | exact aa | exact aa.1 | exact aa.2 | exact ab | exact ab.1 | exact ab.2 | exact ac | exact ac.1 | exact ac.2 | omega | (have ae:=hg; simp at ae; omega))) (aL.at H))))) ?_;obtain ⟨aE,hM⟩:=M.e_grd hM
   replace aE:=M.imp_of aE
   simp only [Bool.and_eq_true,decide_eq_true_eq] at aE
   refine kg 3 ?_;refine d_qg ((!danger)&&(((ag.getD k2 default).station)==(r2.getD (Int.toNat i) 0))) rfl (gy_gt rfl rfl) (fun hg=>(fun w' H=>x_ix (v:=vat am 1 (Int.toNat i)) (gd_of hg (am)) (gd_of hg (I i)) (Sl.ix (α:=Int) T22.und T22.size aX (by have aa:=al.resolve_left (by rw [hg]; decide); have ab:=aE.resolve_left (by rw [hg]; decide); have ac:=ai.resolve_left (by rw [(Eq.mp (Bool.and_eq_true _ _) hg).1]; decide); have aj:=ak.resolve_left (by rw [(Eq.mp (Bool.and_eq_true _ _) hg).1]; decide); first | exact aa | exact aa.1 | exact aa.2 | exact ab | exact ab.1 | exact ab.2 | exact ac | exact ac.1 | exact ac.2 | exact aj | exact aj.1 | exact aj.2 | omega | (have ae:=hg; simp at ae; omega)) (by have aa:=al.resolve_left (by rw [hg]; decide); have ab:=aE.resolve_left (by rw [hg]; decide); have ac:=ai.resolve_left (by rw [(Eq.mp (Bool.and_eq_true _ _) hg).1]; decide); have aj:=ak.resolve_left (by rw [(Eq.mp (Bool.and_eq_true _ _) hg).1]; decide); first | exact aa | exact aa.1 | exact aa.2 | exact ab | exact ab.1 | exact ab.2 | exact ac | exact ac.1 | exact ac.2 | exact aj | exact aj.1 | exact aj.2 | omega | (have ae:=hg; simp at ae; omega)))))<|d_qg ((!danger)&&(((ag.getD k2 default).station)==(r2.getD (Int.toNat i) 0))) rfl (gy_gt rfl rfl) (fun hg=>(fun w' H=>x_ld (v:=I (f.stages.getD (Int.toNat i) 0)) (gd_of hg (vat am 1 (Int.toNat i))) (ld_sc Sc3 (At.mono (Int_at aX (i:=i) (by have aa:=al.resolve_left (by rw [hg]; decide); have ab:=aE.resolve_left (by rw [hg]; decide); have ac:=ai.resolve_left (by rw [(Eq.mp (Bool.and_eq_true _ _) hg).1]; decide); have aj:=ak.resolve_left (by rw [(Eq.mp (Bool.and_eq_true _ _) hg).1]; decide); first | exact aa | exact aa.1 | exact aa.2 | exact ab | exact ab.1 | exact ab.2 | exact ac | exact ac.1 | exact ac.2 | exact aj | exact aj.1 | exact aj.2 | omega | (have ae:=hg; simp at ae; omega)) (by have aa:=al.resolve_left (by rw [hg]; decide); have ab:=aE.resolve_left (by rw [hg]; decide); have ac:=ai.resolve_left (by rw [(Eq.mp (Bool.and_eq_true _ _) hg).1]; decide); have aj:=ak.resolve_left (by rw [(Eq.mp (Bool.and_eq_true _ _) hg).1]; decide); first | exact aa | exact aa.1 | exact aa.2 | exact ab | exact ab.1 | exact ab.2 | exact ac | exact ac.1 | exact ac.2 | exact aj | exact aj.1 | exact aj.2 | omega | (have ae:=hg; simp at ae; omega))) (bt.at H))))) ?_;refine kg 1 ?_;refine d_qg (!danger) rfl (gy_f rfl) (fun hg=>(fun w' H=>x_pand (b:=((ag.getD k2 default).station)==(r2.getD (Int.toNat i) 0)) (r:=decide (((ag.getD k2 default).alarm)<=(f.stages.getD (Int.toNat i) 0))) (gd_of hg (B (((ag.getD k2 default).station)==(r2.getD (Int.toNat i) 0)))) (fun hb=>gd_of (c:=((!danger)&&(((ag.getD k2 default).station)==(r2.getD (Int.toNat i) 0)))) (by first | exact hb | (rw [hb]; rfl) | simp_all) (B (decide (((ag.getD k2 default).alarm)<=(f.stages.getD (Int.toNat i) 0))))) rfl))<|d_q rfl (fun w' H=>x_por (b:=danger) (r:=((((ag.getD k2 default).station)==(r2.getD (Int.toNat i) 0))&&(decide (((ag.getD k2 default).alarm)<=(f.stages.getD (Int.toNat i) 0))))) rfl rfl (fun hb=>gd_of (c:=!danger) (by first | exact hb | (rw [hb]; rfl) | simp_all) (B ((((ag.getD k2 default).station)==(r2.getD (Int.toNat i) 0))&&(decide (((ag.getD k2 default).alarm)<=(f.stages.getD (Int.toNat i) 0)))))))<|d_q rfl (fun w' H=>x_as (v:=B (danger||((((ag.getD k2 default).station)==(r2.getD (Int.toNat i) 0))&&(decide (((ag.getD k2 default).alarm)<=(f.stages.getD (Int.toNat i) 0)))))) rfl) ?_;refine kg 6 ?_
   exact ⟨bF,bG,(danger||((((ag.getD k2 default).station)==(r2.getD (Int.toNat i) 0))&&(decide (((ag.getD k2 default).alarm)<=(f.stages.getD (Int.toNat i) 0))))),k2+1,_,upds_of _ _ ⟨rfl,rfl,rfl,rfl,rfl,rfl,rfl,rfl,rfl,trivial⟩,M.e_inl hM bf,H⟩
  replace hM:=M.e_f hM aD
  replace aD:=dI aD
  refine W.exit ?_
  have bH:=M.e_inr hM bf
  subst bH;replace hM:=bE;(try dsimp only at hM);obtain ⟨b7,hM⟩:=M.e_gd hM;refine kg 5 ?_
  exact ⟨bx,bz,who,stage,danger,i-1,_,upds_of _ _ ⟨rfl,rfl,rfl,rfl,rfl,rfl,rfl,rfl,trivial⟩,M.e_inl hM a7,H⟩
 replace hM:=M.e_f hM aA
 replace aA:=dI aA
 refine W.exit ?_
 have bI:=M.e_inr hM a7
 subst bI;replace hM:=bw;(try dsimp only at hM);replace H:=H.pk [];refine kg 9 ?_;refine W.ret ?_
 have bJ:=M.e_pure hM
 exact ⟨_,resE_tmp3 rfl,⟨who3,stage3,danger3,bJ,rfl,H⟩⟩

def zdP (ab:List Int) (ac:List Span) (ae:List Int) (ag:List Town) (ah ai:Int) (aa:List Flood) (watches:List Int) (flood:Int):M (Int × Bool × Int) :=
  M.bind (zaO ab ac ae ag ah ai aa watches) fun (r0,r1) =>
  bif r1 != 0 then (
  M.pure (0,false,r1))
  else (
  M.bind (zaj flood 0 ((aa.length:Int)-1)) fun r2 =>
  bif r2 then (
  M.pure (0,false,2))
  else (
  M.grd (decide ((0:Int)<=flood)&&decide (flood<(aa.length:Int))) <|
  M.bind (zbo ab ac ae ag ah ai aa watches (aa.getD (Int.toNat flood) default)) fun (aj,al,ak) =>
  M.pure (aj,ak,0)))
theorem zeR {R:List Chunk} {aB:Cells} {ah:Value} {aC:Cells} {ai:Value} {aD:Cells} {aj:Value} {aE:Cells} {ak:Value} {aF:Cells} {al:Value} {aG:Cells} {ao:Value} (ap:List Int) (aq:List Span) (au:List Int) (av:List Town) (ab:Int) (ac:Int) (aa:List Flood) (watches:List Int) (flood:Int) (aH:Reads R aB) (aI:Sl aB ah ap) (aJ:Reads R aC) (aK:Sl aC ai aq) (aL:Reads R aD) (aM:Sl aD aj au) (aN:Reads R aE) (aO:Sl aE ak av) (aw:Reads R aF) (ax:Sl aF al aa) (aP:Reads R aG) (aQ:Sl aG ao watches) {r:(Int × Bool × Int)} (hM:(zdP ap aq au av ab ac aa watches flood).Ends r) (w:World) (H:St w w [] R):Ret Tryz.prog 40 #[.agg #[ah,ai,aj,ak,I ab,I ac,al],ao,I flood] w fun v w'=>∃ (y0:Int) (y1:Bool) (y2:Int),(y0,y1,y2)=r/\v = .tuple #[I y0,B y1,I y2]/\St w w' [] R:=by
 refine ret_of_W Tryz.func40 rfl rfl rfl ?_;refine kg 2 ?_;refine t_bx [ah,ai,aj,ak,I ab,I ac,al] H rfl ?_;intro aS a6 H;refine kg 9 ?_;obtain ⟨a7,aT,hM⟩:=M.e_bind hM;refine s_call cf32 [.agg #[ah,ai,aj,ak,I ab,I ac,al],ao] rfl (za6 ap aq au av ab ac aa watches (aH.app _) aI (aJ.app _) aK (aL.app _) aM (aN.app _) aO (aw.app _) ax (aP.app _) aQ aT _ (H.gt 1)) ?_
 rintro vq a8 ⟨r0,r1,aU,rfl,hvq,ae⟩
 subst vq;(try dsimp only at hM);replace H:=H.bk ae;clear ae;refine kg 11 ?_
 refine W.cond (r1 != 0) rfl (fun ag=>?_) (fun ag=>?_)
 ·replace hM:=M.e_t hM ag
  replace ag:=dI ag
  refine kg 7 ?_;replace H:=H.pk [];refine W.ret ?_
  have am:=M.e_pure hM
  exact ⟨_,resE_tmp3 rfl,⟨0,false,r1,am,rfl,H⟩⟩
 replace hM:=M.e_f hM ag
 replace ag:=dI ag
 have ba:=(ax).len_le
 refine kg 9 ?_;obtain ⟨bb,aV,hM⟩:=M.e_bind hM;refine s_call cf57 [I flood,I 0,I ((aa.length:Int)-1)] rfl (zal flood 0 ((aa.length:Int)-1) aV _ (H.gt 2)) ?_
 rintro vq bc ⟨r2,rfl,hvq,ae⟩
 subst vq;(try dsimp only at hM);replace H:=H.bk ae;clear ae;refine s_nil ?_
 refine W.cond r2 rfl (fun az=>?_) (fun az=>?_)
 ·replace hM:=M.e_t hM az;refine kg 6 ?_;replace H:=H.pk [];refine W.ret ?_
  have am:=M.e_pure hM
  exact ⟨_,resE_tmp3 rfl,⟨0,false,2,am,rfl,H⟩⟩
 replace hM:=M.e_f hM az;refine kg 2 ?_;refine W.draw (fun W=>St w W [cOwn (α:=Dem) 72 aU r0,cBlk aS [ah,ai,aj,ak,I ab,I ac,al] 53] R) [(0,true),(1,true),(2,true),(3,true),(4,true),(5,true),(6,true),(7,false),(8,true),(9,true),(10,true),(11,true),(12,true),(13,true),(14,true)] mixed (by decide +kernel) rfl ?_;intro bf aR;replace H:=H.ext aR;clear aR
 refine ⟨(H.pk [0,1]),?_⟩
 obtain ⟨bg,hM⟩:=M.e_gd hM;refine kg 6 ?_
 obtain ⟨aA,aW,ay⟩:=Flood_atA ax (i:=flood) (by omega) (by omega)
 replace ay:Sl _ aA (aa.getD (Int.toNat flood) default).stages:=ay
 have bh:=ay.len_le
 refine d_q rfl (fun w' H=>x_ld (v:=.agg #[I ((aa.getD (Int.toNat flood) default).spring),aA]) rfl (ld_ag Ag106 Sz106 (At.mono aW (aw.at H))))<|d_l rfl ?_;obtain ⟨bi,aX,hM⟩:=M.e_bind hM;refine s_call cf85 [.agg #[ah,ai,aj,ak,I ab,I ac,al],ao,.agg #[I ((aa.getD (Int.toNat flood) default).spring),aA]] rfl (zda ap aq au av ab ac aa watches (aa.getD (Int.toNat flood) default) (aH.app _) aI (aJ.app _) aK (aL.app _) aM (aN.app _) aO (aw.app _) ax (aP.app _) aQ (aw.app _) ay aX _ (H.gt 2)) ?_
 rintro vq bj ⟨aY,bm,aZ,rfl,hvq,ae⟩
 subst vq;(try dsimp only at hM);replace H:=H.bk ae;clear ae
 refine s_nil ⟨(H.pk [0,1]),?_⟩
 refine kg 8 ?_;replace H:=H.pk [];refine kg 8 ?_;refine W.ret ?_
 have am:=M.e_pure hM
 exact ⟨_,resE_tmp3 rfl,⟨aY,aZ,0,am,rfl,H⟩⟩

def zbU (ac:List Int) (ae:List Span) (ag:List Int) (ah:List Town) (ai aj:Int) (aa:List Flood) (watches:List Int) (k:Nat):(Int × Int × Int)->M ((Int × Int × Int) ⊕ (Int × Int)):=fun (t,s,i) =>
  bif decide (0<=i) then (
  M.grd (decide ((0:Int)<=i)&&decide (i<(aa.length:Int))) <|
  M.bind (zbo ac ae ag ah ai aj aa watches (aa.getD (Int.toNat i) default)) fun (ak,ab,r2) =>
  M.grd ((!r2||(decide ((k:Int)<(watches.length:Int))))) <|
  bif ((r2&&(ak==(watches.getD k 0)))&&(decide (ab<=t))) then (
  M.grd (decide ((-9223372036854775808:Int)<=(i-1))&&decide ((i-1)<=(9223372036854775807:Int))) <|
  M.pure (.inl (ab,i,i-1)))
  else (
  M.grd (decide ((-9223372036854775808:Int)<=(i-1))&&decide ((i-1)<=(9223372036854775807:Int))) <|
  M.pure (.inl (t,s,i-1))))
  else (
  M.pure (.inr (t,s)))
def zb4 (ab:List Int) (ac:List Span) (ae:List Int) (ag:List Town) (ah ai:Int) (aa:List Flood) (watches:List Int):(Nat × (List Int) × (List Int))->M ((Nat × (List Int) × (List Int)) ⊕ ((List Int) × (List Int) × (List Int) × (List Int))):=fun (k,l,l2) =>
  bif decide ((k:Int)<(watches.length:Int)) then (
  M.bind (M.iter (zbU ab ac ae ag ah ai aa watches k) (2001,-1,(aa.length:Int)-1)) fun (t2,s2) =>
  M.grd (decide ((l.length+([(t2:Int)]).length)*8<=140737488355328)) <|
  M.grd (decide ((l2.length+([(s2:Int)]).length)*8<=140737488355328)) <|
  M.pure (.inl (k+1,l++([(t2:Int)]),l2++([(s2:Int)]))))
  else (
  M.pure (.inr (l,l2,l,l2)))
def zdy (aa:List Int) (ab:List Span) (ac:List Int) (ae:List Town) (ag ah:Int) (ai:List Flood) (watches:List Int):M ((List Int) × (List Int) × Int) :=
  M.bind (zaO aa ab ac ae ag ah ai watches) fun (r0,r1) =>
  bif r1 != 0 then (
  M.pure (([]),([]),r1))
  else (
  M.bind (M.iter (zb4 aa ab ac ae ag ah ai watches) (0,[],[])) fun (l3,l4,l5,l6) =>
  M.pure (l5,l6,0))
theorem zff {R:List Chunk} {aO:Cells} {ae:Value} {aP:Cells} {ag:Value} {aQ:Cells} {ah:Value} {aR:Cells} {ai:Value} {aS:Cells} {aj:Value} {aT:Cells} {aq:Value} (au:List Int) (av:List Span) (aw:List Int) (ax:List Town) (aa:Int) (ab:Int) (ac:List Flood) (watches:List Int) (aU:Reads R aO) (aV:Sl aO ae au) (aW:Reads R aP) (aX:Sl aP ag av) (aY:Reads R aQ) (aZ:Sl aQ ah aw) (a6:Reads R aR) (a7:Sl aR ai ax) (aB:Reads R aS) (aC:Sl aS aj ac) (a8:Reads R aT) (aF:Sl aT aq watches) {r:((List Int) × (List Int) × Int)} (hM:(zdy au av aw ax aa ab ac watches).Ends r) (w:World) (H:St w w [] R):Ret Tryz.prog 42 #[.agg #[ae,ag,ah,ai,I aa,I ab,aj],aq] w fun v w'=>∃ (y0:List Int) (y1:List Int) (y2:Int) (u0:Value) (u1:Value),(y0,y1,y2)=r/\v = .tuple #[u0,u1,I y2]/\St w w' [cOwn (α:=Int) 3 u0 y0,cOwn (α:=Int) 3 u1 y1] R:=by
 refine ret_of_W Tryz.func42 rfl rfl rfl ?_;refine kg 2 ?_;refine t_bx [ae,ag,ah,ai,I aa,I ab,aj] H rfl ?_;intro ay bD H;refine kg 9 ?_;obtain ⟨bE,bi,hM⟩:=M.e_bind hM;refine s_call cf32 [.agg #[ae,ag,ah,ai,I aa,I ab,aj],aq] rfl (za6 au av aw ax aa ab ac watches (aU.app _) aV (aW.app _) aX (aY.app _) aZ (a6.app _) a7 (aB.app _) aC (a8.app _) aF bi _ (H.gt 1)) ?_
 rintro vq bF ⟨r0,r1,aG,rfl,hvq,az⟩
 subst vq;(try dsimp only at hM);replace H:=H.bk az;clear az;refine kg 11 ?_
 refine W.cond (r1 != 0) rfl (fun ak=>?_) (fun ak=>?_)
 ·replace hM:=M.e_t hM ak
  replace ak:=dI ak
  refine kg 7 ?_;replace H:=H.pk [];refine W.ret ?_
  have aH:=M.e_pure hM
  replace H:=H.nilOwn (α:=Int) 3
  replace H:=H.nilOwn (α:=Int) 3
  exact ⟨_,resE_tmp3 rfl,⟨([]),([]),r1,(.slice none 0 0),(.slice none 0 0),aH,rfl,(H.pk [1,0])⟩⟩
 replace hM:=M.e_f hM ak
 replace ak:=dI ak
 refine kg 12 ?_
 replace H:=H.nilOwn (α:=Int) 3
 replace H:=H.nilOwn (α:=Int) 3
 obtain ⟨bj,aI,bm⟩:=M.e_bind hM
 obtain ⟨bn,aI⟩:=M.e_iter aI
 refine W.loop (fun m σ W=>∃ (k:Nat) (l:List Int) (l2:List Int) (al:Value) (am:Value) (ρ:Env),σ=upds ρ [(1,aq),(2,Pq ay),(9,al),(10,am),(11,I (k:Int))]/\M.iterN (zb4 au av aw ax aa ab ac watches) m (k,l,l2)=some bj/\St w W [cOwn (α:=Int) 3 al l,cOwn (α:=Int) 3 am l2,cOwn (α:=Dem) 72 aG r0,cBlk ay [ae,ag,ah,ai,I aa,I ab,aj] 53] R) ?_ ?_
 ·exact ⟨_,0,[],[],(.slice none 0 0),(.slice none 0 0),_,upds_of _ _ ⟨rfl,rfl,rfl,rfl,rfl,trivial⟩,aI,H⟩
 rintro bG σ bH ⟨k,l,l2,al,am,ρ,rfl,ba,H⟩
 obtain ⟨bo,bp,bI,hM,bb⟩:=M.e_iterN ba
 simp only [zb4] at hM
 clear ba
 have bJ:=(aF).len_le
 refine kg 8 ?_
 refine W.cond (decide ((k:Int)<(watches.length:Int))) rfl (fun ao=>?_) (fun ao=>?_)
 ·replace hM:=M.e_t hM ao
  replace ao:=dI ao
  have bK:=(aC).len_le
  refine kg 18 ?_;obtain ⟨br,aJ,bt⟩:=M.e_bind hM
  obtain ⟨bn,aJ⟩:=M.e_iter aJ
  refine W.loop (fun m σ W=>∃ (t:Int) (s:Int) (i:Int) (ρ:Env),σ=upds ρ [(1,aq),(2,Pq ay),(9,al),(10,am),(11,I (k:Int)),(12,I t),(13,I s),(14,I i)]/\M.iterN (zbU au av aw ax aa ab ac watches k) m (t,s,i)=some br/\St w W [cOwn (α:=Int) 3 al l,cOwn (α:=Int) 3 am l2,cOwn (α:=Dem) 72 aG r0,cBlk ay [ae,ag,ah,ai,I aa,I ab,aj] 53] R) ?_ ?_
  ·exact ⟨_,2001,-1,(ac.length:Int)-1,_,upds_of _ _ ⟨rfl,rfl,rfl,rfl,rfl,rfl,rfl,rfl,trivial⟩,aJ,H⟩
  rintro bL σ bM ⟨t,s,i,ρ,rfl,bc,H⟩
  obtain ⟨bf,bg,bN,hM,aK⟩:=M.e_iterN bc
  simp only [zbU] at hM
  clear bc;refine kg 6 ?_
  refine W.cond (decide (0<=i)) rfl (fun ap=>?_) (fun ap=>?_)
  ·replace hM:=M.e_t hM ap
   replace ap:=dI ap
   refine kg 4 ?_;refine W.draw (fun W=>St w W [cOwn (α:=Int) 3 al l,cOwn (α:=Int) 3 am l2,cOwn (α:=Dem) 72 aG r0,cBlk ay [ae,ag,ah,ai,I aa,I ab,aj] 53] R) [(0,true),(1,true),(2,true),(3,true),(4,true),(5,true),(6,true),(7,false),(8,true),(9,true),(10,true),(11,true),(12,true),(13,true),(14,true)] mixed (by decide +kernel) rfl ?_;intro bO bh;replace H:=H.ext bh;clear bh
   refine ⟨(H.pk [0,1,2,3]),?_⟩
   obtain ⟨bP,hM⟩:=M.e_gd hM;refine kg 6 ?_
   obtain ⟨aL,bu,aD⟩:=Flood_atA aC (i:=i) (by omega) (by omega)
   replace aD:Sl _ aL (ac.getD (Int.toNat i) default).stages:=aD
   have bQ:=aD.len_le
   refine d_q rfl (fun w' H=>x_ld (v:=.agg #[I ((ac.getD (Int.toNat i) default).spring),aL]) rfl (ld_ag Ag106 Sz106 (At.mono bu (aB.at H))))<|d_l rfl ?_;obtain ⟨bR,bv,hM⟩:=M.e_bind hM;refine s_call cf85 [.agg #[ae,ag,ah,ai,I aa,I ab,aj],aq,.agg #[I ((ac.getD (Int.toNat i) default).spring),aL]] rfl (zda au av aw ax aa ab ac watches (ac.getD (Int.toNat i) default) (aU.app _) aV (aW.app _) aX (aY.app _) aZ (a6.app _) a7 (aB.app _) aC (a8.app _) aF (aB.app _) aD bv _ (H.gt 4)) ?_
   rintro vq bS ⟨aA,aE,r2,rfl,hvq,az⟩
   subst vq;(try dsimp only at hM);replace H:=H.bk az;clear az
   refine s_nil ⟨(H.pk [0,1,2,3]),?_⟩
   obtain ⟨aM,hM⟩:=M.e_grd hM
   replace aM:=M.imp_of aM
   simp only [Bool.and_eq_true,decide_eq_true_eq] at aM
   refine kg 18 ?_;refine s_val (x_pand (b:=r2) (r:=aA==(watches.getD k 0)) rfl (fun hb=>gd_of (c:=r2) (by first | exact hb | (rw [hb]; rfl) | simp_all) (B (aA==(watches.getD k 0)))) rfl) ?_;refine kg 4 ?_;refine s_val (x_pand (b:=(r2&&(aA==(watches.getD k 0)))) (r:=decide (aE<=t)) rfl (fun hb=>gd_of (c:=(r2&&(aA==(watches.getD k 0)))) (by first | exact hb | (rw [hb]; rfl) | simp_all) (B (decide (aE<=t)))) rfl)<|s_nil ?_
   refine W.cond ((r2&&(aA==(watches.getD k 0)))&&(decide (aE<=t))) rfl (fun aN=>?_) (fun aN=>?_)
   ·replace hM:=M.e_t hM aN;obtain ⟨bT,hM⟩:=M.e_gd hM;refine kg 11 ?_
    exact ⟨bf,bg,aE,i,i-1,_,upds_of _ _ ⟨rfl,rfl,rfl,rfl,rfl,rfl,rfl,rfl,trivial⟩,M.e_inl hM aK,H⟩
   replace hM:=M.e_f hM aN;obtain ⟨bU,hM⟩:=M.e_gd hM;refine kg 6 ?_
   exact ⟨bf,bg,t,s,i-1,_,upds_of _ _ ⟨rfl,rfl,rfl,rfl,rfl,rfl,rfl,rfl,trivial⟩,M.e_inl hM aK,H⟩
  replace hM:=M.e_f hM ap
  replace ap:=dI ap
  refine W.exit ?_
  have bw:=M.e_inr hM aK
  subst bw;replace hM:=bt;(try dsimp only at hM);refine kg 3 ?_;refine t_bs (α:=Int) T22 [I t] [(t:Int)] H rfl (.cons rfl (Flat.rep_enc _ (t:Int))<|.nil) rfl rfl rfl ?_;intro bx bV H;obtain ⟨bW,hM⟩:=M.e_gd hM;refine t_app (α:=Int) (k:=1) (l:=l) (l2:=[(t:Int)]) (l':=l++([(t:Int)])) (vy:=bx) T22 rfl H rfl rfl rfl (H.os 0) (H.ol 0) (rfl) (by first | omega | (simp only [List.length_nil] at *; omega)) ?_;intro bz bX H;replace H:=H.nf;refine kg 2 ?_;refine t_bs (α:=Int) T22 [I s] [(s:Int)] H rfl (.cons rfl (Flat.rep_enc _ (s:Int))<|.nil) rfl rfl rfl ?_;intro bA bY H;obtain ⟨bZ,hM⟩:=M.e_gd hM;refine t_app (α:=Int) (k:=3) (l:=l2) (l2:=[(s:Int)]) (l':=l2++([(s:Int)])) (vy:=bA) T22 rfl H rfl rfl rfl (H.os 0) (H.ol 0) (rfl) (by first | omega | (simp only [List.length_nil] at *; omega)) ?_;intro bB b0 H;replace H:=H.nf;refine kg 3 ?_;replace H:=H.pk [2,3,4,5];refine kg 5 ?_
  exact ⟨bo,bp,k+1,l++([(t:Int)]),l2++([(s:Int)]),bz,bB,_,upds_of _ _ ⟨rfl,rfl,rfl,rfl,rfl,trivial⟩,M.e_inl hM bb,H⟩
 replace hM:=M.e_f hM ao
 replace ao:=dI ao
 refine W.exit ?_
 have bC:=M.e_inr hM bb
 subst bC;replace hM:=bm;(try dsimp only at hM);replace H:=H.pk [0,1];refine kg 8 ?_;refine W.ret ?_
 have aH:=M.e_pure hM
 exact ⟨_,resE_tmp3 rfl,⟨l,l2,0,al,am,aH,rfl,H⟩⟩

def zck (thresholds:List Int):Nat->M (Nat ⊕ (Unit ⊕ Unit)):=fun i =>
  bif decide ((i:Int)<(thresholds.length:Int)) then (
  M.grd (decide ((i:Int)<(thresholds.length:Int))) <|
  M.bind (zaj (thresholds.getD i 0) 0 2001) fun r2 =>
  bif r2 then (
  M.pure (.inr (.inl ())))
  else (
  M.pure (.inl (i+1))))
  else (
  M.pure (.inr (.inr ())))
def zb9 (watches thresholds:List Int) (aa ab:Int):(Bool × Nat)->M ((Bool × Nat) ⊕ Bool):=fun (warned,k) =>
  bif decide ((k:Int)<(watches.length:Int)) then (
  M.grd ((!(!warned)||(decide ((k:Int)<(watches.length:Int))))) <|
  M.grd ((!((!warned)&&((watches.getD k 0)==aa))||(decide ((k:Int)<(thresholds.length:Int))))) <|
  M.pure (.inl ((warned||(((watches.getD k 0)==aa)&&(decide ((thresholds.getD k 0)<=ab)))),k+1)))
  else (
  M.pure (.inr warned))
def zbE (ac:List Int) (ae:List Span) (ag:List Int) (ah:List Town) (ai aj:Int) (aa:List Flood) (watches thresholds:List Int):(Nat × (List Int) × (List Int))->M ((Nat × (List Int) × (List Int)) ⊕ ((List Int) × (List Int) × (List Int) × (List Int))):=fun (i2,l,l2) =>
  bif decide ((i2:Int)<(aa.length:Int)) then (
  M.grd (decide ((i2:Int)<(aa.length:Int))) <|
  M.bind (zbo ac ae ag ah ai aj aa watches (aa.getD i2 default)) fun (ak,al,ab) =>
  M.bind (M.iter (zb9 watches thresholds ak al) (false,0)) fun warned2 =>
  bif (ab&&(!warned2)) then (
  M.grd (decide ((l.length+([(i2:Int)]).length)*8<=140737488355328)) <|
  bif ((!ab)&&warned2) then (
  M.grd (decide ((l2.length+([(i2:Int)]).length)*8<=140737488355328)) <|
  M.pure (.inl (i2+1,l++([(i2:Int)]),l2++([(i2:Int)]))))
  else (
  M.pure (.inl (i2+1,l++([(i2:Int)]),l2))))
  else (
  bif ((!ab)&&warned2) then (
  M.grd (decide ((l2.length+([(i2:Int)]).length)*8<=140737488355328)) <|
  M.pure (.inl (i2+1,l,l2++([(i2:Int)]))))
  else (
  M.pure (.inl (i2+1,l,l2)))))
  else (
  M.pure (.inr (l,l2,l2,l)))
def zdJ (aa:List Int) (ab:List Span) (ac:List Int) (ae:List Town) (ag ah:Int) (ai:List Flood) (watches thresholds:List Int):M ((List Int) × (List Int) × Int) :=
  M.bind (zaO aa ab ac ae ag ah ai watches) fun (r0,r1) =>
  bif r1 != 0 then (
  M.pure (([]),([]),r1))
  else (
  bif (thresholds.length:Int) != (watches.length:Int) then (
  M.pure (([]),([]),2))
  else (
  M.bind (M.iter (zck thresholds) 0) fun x_=>match x_ with
  | (.inl (_:Unit))=>(
  M.pure (([]),([]),4))
  | (.inr (_:Unit))=>(
  M.bind (M.iter (zbE aa ab ac ae ag ah ai watches thresholds) (0,[],[])) fun (l3,l4,l5,l6) =>
  M.pure (l6,l5,0))))
theorem zfd {R:List Chunk} {bb:Cells} {ak:Value} {bc:Cells} {al:Value} {bf:Cells} {am:Value} {bg:Cells} {ao:Value} {bh:Cells} {ap:Value} {bi:Cells} {ay:Value} {bj:Cells} {av:Value} (aI:List Int) (aJ:List Span) (aK:List Int) (aL:List Town) (ac:Int) (ae:Int) (ah:List Flood) (watches:List Int) (thresholds:List Int) (bm:Reads R bb) (bn:Sl bb ak aI) (bo:Reads R bc) (bp:Sl bc al aJ) (br:Reads R bf) (bt:Sl bf am aK) (bu:Reads R bg) (bv:Sl bg ao aL) (aN:Reads R bh) (aO:Sl bh ap ah) (bw:Reads R bi) (aP:Sl bi ay watches) (bF:Reads R bj) (aQ:Sl bj av thresholds) {r:((List Int) × (List Int) × Int)} (hM:(zdJ aI aJ aK aL ac ae ah watches thresholds).Ends r) (w:World) (H:St w w [] R):Ret Tryz.prog 44 #[.agg #[ak,al,am,ao,I ac,I ae,ap],ay,av] w fun v w'=>∃ (y0:List Int) (y1:List Int) (y2:Int) (u0:Value) (u1:Value),(y0,y1,y2)=r/\v = .tuple #[u0,u1,I y2]/\St w w' [cOwn (α:=Int) 3 u0 y0,cOwn (α:=Int) 3 u1 y1] R:=by
 refine ret_of_W Tryz.func44 rfl rfl rfl ?_;refine kg 2 ?_;refine t_bx [ak,al,am,ao,I ac,I ae,ap] H rfl ?_;intro az b2 H;refine kg 9 ?_;obtain ⟨b3,bG,hM⟩:=M.e_bind hM;refine s_call cf32 [.agg #[ak,al,am,ao,I ac,I ae,ap],ay] rfl (za6 aI aJ aK aL ac ae ah watches (bm.app _) bn (bo.app _) bp (br.app _) bt (bu.app _) bv (aN.app _) aO (bw.app _) aP bG _ (H.gt 1)) ?_
 rintro vq b4 ⟨r0,r1,aR,rfl,hvq,aw⟩
 subst vq;(try dsimp only at hM);replace H:=H.bk aw;clear aw;refine kg 11 ?_
 refine W.cond (r1 != 0) rfl (fun aA=>?_) (fun aA=>?_)
 ·replace hM:=M.e_t hM aA
  replace aA:=dI aA
  refine kg 7 ?_;replace H:=H.pk [];refine W.ret ?_
  have aB:=M.e_pure hM
  replace H:=H.nilOwn (α:=Int) 3
  replace H:=H.nilOwn (α:=Int) 3
  exact ⟨_,resE_tmp3 rfl,⟨([]),([]),r1,(.slice none 0 0),(.slice none 0 0),aB,rfl,(H.pk [1,0])⟩⟩
 replace hM:=M.e_f hM aA
 replace aA:=dI aA
 have b5:=(aQ).len_le
 have b6:=(aP).len_le
 refine kg 10 ?_
 refine W.cond ((thresholds.length:Int) != (watches.length:Int)) rfl (fun aC=>?_) (fun aC=>?_)
 ·replace hM:=M.e_t hM aC
  replace aC:=dI aC
  refine kg 6 ?_;replace H:=H.pk [];refine W.ret ?_
  have aB:=M.e_pure hM
  replace H:=H.nilOwn (α:=Int) 3
  replace H:=H.nilOwn (α:=Int) 3
  exact ⟨_,resE_tmp3 rfl,⟨([]),([]),2,(.slice none 0 0),(.slice none 0 0),aB,rfl,(H.pk [1,0])⟩⟩
 replace hM:=M.e_f hM aC
 replace aC:=dI aC
 refine kg 7 ?_;obtain ⟨bH,aV,bx⟩:=M.e_bind hM
 obtain ⟨bz,aV⟩:=M.e_iter aV
 refine W.loop (fun m σ W=>∃ (i:Nat) (ρ:Env),σ=upds ρ [(1,ay),(2,av),(3,Pq az),(11,I (i:Int))]/\M.iterN (zck thresholds) m i=some bH/\St w W [cOwn (α:=Dem) 72 aR r0,cBlk az [ak,al,am,ao,I ac,I ae,ap] 53] R) ?_ ?_
 ·exact ⟨_,0,_,upds_of _ _ ⟨rfl,rfl,rfl,rfl,trivial⟩,aV,H⟩
 rintro b7 σ b8 ⟨i,ρ,rfl,bA,H⟩
 obtain ⟨bI,bJ,b9,hM,aW⟩:=M.e_iterN bA
 simp only [zck] at hM
 clear bA
 have ca:=(aQ).len_le
 refine kg 8 ?_
 refine W.cond (decide ((i:Int)<(thresholds.length:Int))) rfl (fun aD=>?_) (fun aD=>?_)
 ·replace hM:=M.e_t hM aD
  replace aD:=dI aD
  obtain ⟨cb,hM⟩:=M.e_gd hM;refine kg 9 ?_;obtain ⟨cc,bK,hM⟩:=M.e_bind hM;refine s_call cf57 [I (thresholds.getD i 0),I 0,I 2001] rfl (zal (thresholds.getD i 0) 0 2001 bK _ (H.gt 2)) ?_
  rintro vq cd ⟨r2,rfl,hvq,aw⟩
  subst vq;(try dsimp only at hM);replace H:=H.bk aw;clear aw;refine s_nil ?_
  refine W.cond r2 rfl (fun aX=>?_) (fun aX=>?_)
  ·replace hM:=M.e_t hM aX;refine kg 6 ?_;refine W.ret ?_
   have bL:=M.e_inr hM aW
   subst bL;replace hM:=bx;(try dsimp only at hM)
   have aB:=M.e_pure hM
   replace H:=H.nilOwn (α:=Int) 3
   replace H:=H.nilOwn (α:=Int) 3
   exact ⟨_,resE_tmp3 rfl,⟨([]),([]),4,(.slice none 0 0),(.slice none 0 0),aB,rfl,(H.pk [1,0])⟩⟩
  replace hM:=M.e_f hM aX;refine kg 6 ?_
  exact ⟨bI,bJ,i+1,_,upds_of _ _ ⟨rfl,rfl,rfl,rfl,trivial⟩,M.e_inl hM aW,H⟩
 replace hM:=M.e_f hM aD
 replace aD:=dI aD
 refine W.exit ?_
 have bM:=M.e_inr hM aW
 subst bM;replace hM:=bx;(try dsimp only at hM);refine kg 11 ?_
 replace H:=H.nilOwn (α:=Int) 3
 replace H:=H.nilOwn (α:=Int) 3
 obtain ⟨bN,aY,bO⟩:=M.e_bind hM
 obtain ⟨bz,aY⟩:=M.e_iter aY
 refine W.loop (fun m σ W=>∃ (i2:Nat) (l:List Int) (l2:List Int) (aq:Value) (au:Value) (ρ:Env),σ=upds ρ [(1,ay),(2,av),(3,Pq az),(12,aq),(13,au),(14,I (i2:Int))]/\M.iterN (zbE aI aJ aK aL ac ae ah watches thresholds) m (i2,l,l2)=some bN/\St w W [cOwn (α:=Int) 3 au l2,cOwn (α:=Int) 3 aq l,cOwn (α:=Dem) 72 aR r0,cBlk az [ak,al,am,ao,I ac,I ae,ap] 53] R) ?_ ?_
 ·exact ⟨_,0,[],[],(.slice none 0 0),(.slice none 0 0),_,upds_of _ _ ⟨rfl,rfl,rfl,rfl,rfl,rfl,trivial⟩,aY,H⟩
 rintro ce σ cf ⟨i2,l,l2,aq,au,ρ,rfl,bB,H⟩
 obtain ⟨aS,aT,cg,hM,aM⟩:=M.e_iterN bB
 simp only [zbE] at hM
 clear bB
 have ci:=(aO).len_le
 refine kg 9 ?_
 refine W.cond (decide ((i2:Int)<(ah.length:Int))) rfl (fun aE=>?_) (fun aE=>?_)
 ·replace hM:=M.e_t hM aE
  replace aE:=dI aE
  refine kg 4 ?_;refine W.draw (fun W=>St w W [cOwn (α:=Int) 3 au l2,cOwn (α:=Int) 3 aq l,cOwn (α:=Dem) 72 aR r0,cBlk az [ak,al,am,ao,I ac,I ae,ap] 53] R) [(0,true),(1,true),(2,true),(3,true),(4,true),(5,true),(6,true),(7,false),(8,true),(9,true),(10,true),(11,true),(12,true),(13,true),(14,true)] mixed (by decide +kernel) rfl ?_;intro cj ai;replace H:=H.ext ai;clear ai
  refine ⟨(H.pk [0,1,2,3]),?_⟩
  obtain ⟨ck,hM⟩:=M.e_gd hM;refine kg 6 ?_
  obtain ⟨aZ,bP,aU⟩:=Flood_atA aO (i:=(i2:Int)) (by omega) (by omega)
  replace aU:Sl _ aZ (ah.getD i2 default).stages:=aU
  have cm:=aU.len_le
  refine d_q rfl (fun w' H=>x_ld (v:=.agg #[I ((ah.getD i2 default).spring),aZ]) rfl (ld_ag Ag106 Sz106 (At.mono bP (aN.at H))))<|d_l rfl ?_;obtain ⟨cn,bQ,hM⟩:=M.e_bind hM;refine s_call cf85 [.agg #[ak,al,am,ao,I ac,I ae,ap],ay,.agg #[I ((ah.getD i2 default).spring),aZ]] rfl (zda aI aJ aK aL ac ae ah watches (ah.getD i2 default) (bm.app _) bn (bo.app _) bp (br.app _) bt (bu.app _) bv (aN.app _) aO (bw.app _) aP (aN.app _) aU bQ _ (H.gt 4)) ?_
  rintro vq co ⟨ag,ax,aj,rfl,hvq,aw⟩
  subst vq;(try dsimp only at hM);replace H:=H.bk aw;clear aw
  refine s_nil ⟨(H.pk [0,1,2,3]),?_⟩
  refine kg 18 ?_;obtain ⟨bR,a6,bS⟩:=M.e_bind hM
  obtain ⟨bz,a6⟩:=M.e_iter a6
  refine W.loop (fun m σ W=>∃ (warned:Bool) (k:Nat) (ρ:Env),σ=upds ρ [(1,ay),(2,av),(3,Pq az),(12,aq),(13,au),(14,I (i2:Int)),(15,I ag),(16,I ax),(17,B aj),(18,B warned),(19,I (k:Int))]/\M.iterN (zb9 watches thresholds ag ax) m (warned,k)=some bR/\St w W [cOwn (α:=Int) 3 au l2,cOwn (α:=Int) 3 aq l,cOwn (α:=Dem) 72 aR r0,cBlk az [ak,al,am,ao,I ac,I ae,ap] 53] R) ?_ ?_
  ·exact ⟨_,false,0,_,upds_of _ _ ⟨rfl,rfl,rfl,rfl,rfl,rfl,rfl,rfl,rfl,rfl,rfl,trivial⟩,a6,H⟩
  rintro cp σ cq ⟨warned,k,ρ,rfl,bC,H⟩
  obtain ⟨bT,bU,cr,hM,bD⟩:=M.e_iterN bC
  simp only [zb9] at hM
  clear bC
  have ct:=(aP).len_le
  refine kg 8 ?_
  refine W.cond (decide ((k:Int)<(watches.length:Int))) rfl (fun aF=>?_) (fun aF=>?_)
  ·replace hM:=M.e_t hM aF
   replace aF:=dI aF
   obtain ⟨aG,hM⟩:=M.e_grd hM
   replace aG:=M.imp_of aG
   simp only [Bool.and_eq_true,decide_eq_true_eq] at aG
   obtain ⟨aH,hM⟩:=M.e_grd hM
   replace aH:=M.imp_of aH
   simp only [Bool.and_eq_true,decide_eq_true_eq] at aH
   refine kg 16 ?_;refine g_val ((!warned)&&((watches.getD k 0)==ag)) (gy_gt rfl rfl) (fun hg=>x_ix (v:=vat av 1 (Int.toNat (k:Int))) (gd_of hg (av)) (gd_of hg (I (k:Int))) (Sl.ix (α:=Int) T22.und T22.size aQ (by have aa:=aH.resolve_left (by rw [hg]; decide); have ab:=aG.resolve_left (by rw [(Eq.mp (Bool.and_eq_true _ _) hg).1]; decide); first | exact aa | exact aa.1 | exact aa.2 | exact ab | exact ab.1 | exact ab.2 | omega | (have ai:=hg; simp at ai; omega)) (by have aa:=aH.resolve_left (by rw [hg]; decide); have ab:=aG.resolve_left (by rw [(Eq.mp (Bool.and_eq_true _ _) hg).1]; decide); first | exact aa | exact aa.1 | exact aa.2 | exact ab | exact ab.1 | exact ab.2 | omega | (have ai:=hg; simp at ai; omega))))<|g_val ((!warned)&&((watches.getD k 0)==ag)) (gy_gt rfl rfl) (fun hg=>x_ld (v:=I (thresholds.getD k 0)) (gd_of hg (vat av 1 (Int.toNat (k:Int)))) (ld_sc Sc3 (At.mono (Int_at aQ (i:=(k:Int)) (by have aa:=aH.resolve_left (by rw [hg]; decide); have ab:=aG.resolve_left (by rw [(Eq.mp (Bool.and_eq_true _ _) hg).1]; decide); first | exact aa | exact aa.1 | exact aa.2 | exact ab | exact ab.1 | exact ab.2 | omega | (have ai:=hg; simp at ai; omega)) (by have aa:=aH.resolve_left (by rw [hg]; decide); have ab:=aG.resolve_left (by rw [(Eq.mp (Bool.and_eq_true _ _) hg).1]; decide); first | exact aa | exact aa.1 | exact aa.2 | exact ab | exact ab.1 | exact ab.2 | omega | (have ai:=hg; simp at ai; omega))) (bF.at H)))) ?_;refine kg 1 ?_;refine g_val (!warned) (gy_f rfl) (fun hg=>x_pand (b:=(watches.getD k 0)==ag) (r:=decide ((thresholds.getD k 0)<=ax)) (gd_of hg (B ((watches.getD k 0)==ag))) (fun hb=>gd_of (c:=((!warned)&&((watches.getD k 0)==ag))) (by first | exact hb | (rw [hb]; rfl) | simp_all) (B (decide ((thresholds.getD k 0)<=ax)))) rfl)<|s_val (x_por (b:=warned) (r:=(((watches.getD k 0)==ag)&&(decide ((thresholds.getD k 0)<=ax)))) rfl rfl (fun hb=>gd_of (c:=!warned) (by first | exact hb | (rw [hb]; rfl) | simp_all) (B (((watches.getD k 0)==ag)&&(decide ((thresholds.getD k 0)<=ax))))))<|zA (B (warned||(((watches.getD k 0)==ag)&&(decide ((thresholds.getD k 0)<=ax))))) rfl ?_;refine kg 6 ?_
   exact ⟨bT,bU,(warned||(((watches.getD k 0)==ag)&&(decide ((thresholds.getD k 0)<=ax)))),k+1,_,upds_of _ _ ⟨rfl,rfl,rfl,rfl,rfl,rfl,rfl,rfl,rfl,rfl,rfl,trivial⟩,M.e_inl hM bD,H⟩
  replace hM:=M.e_f hM aF
  replace aF:=dI aF
  refine W.exit ?_
  have bV:=M.e_inr hM bD
  subst bV;replace hM:=bS;(try dsimp only at hM);refine kg 7 ?_;refine s_val (x_pand (b:=aj) (r:=!warned) rfl (fun hb=>gd_of (c:=aj) (by first | exact hb | (rw [hb]; rfl) | simp_all) (B (!warned))) rfl)<|s_nil ?_
  refine W.cond (aj&&(!warned)) rfl (fun a7=>?_) (fun a7=>?_)
  ·replace hM:=M.e_t hM a7;refine kg 3 ?_;refine t_bs (α:=Int) T22 [I (i2:Int)] [(i2:Int)] H rfl (.cons rfl (Flat.rep_enc _ (i2:Int))<|.nil) rfl rfl rfl ?_;intro bW cu H;obtain ⟨cv,hM⟩:=M.e_gd hM;refine t_app (α:=Int) (k:=2) (l:=l) (l2:=[(i2:Int)]) (l':=l++([(i2:Int)])) (vy:=bW) T22 rfl H rfl rfl rfl (H.os 0) (H.ol 0) (rfl) (by first | omega | (simp only [List.length_nil] at *; omega)) ?_;intro bE cw H;replace H:=H.nf;refine kg 8 ?_;refine s_val (x_pand (b:=!aj) (r:=warned) rfl (fun hb=>gd_of (c:=!aj) (by first | exact hb | (rw [hb]; rfl) | simp_all) (B warned)) rfl)<|s_nil ?_
   refine W.cond ((!aj)&&warned) rfl (fun a8=>?_) (fun a8=>?_)
   ·replace hM:=M.e_t hM a8;refine kg 3 ?_;refine t_bs (α:=Int) T22 [I (i2:Int)] [(i2:Int)] H rfl (.cons rfl (Flat.rep_enc _ (i2:Int))<|.nil) rfl rfl rfl ?_;intro bX cx H;obtain ⟨cy,hM⟩:=M.e_gd hM;refine t_app (α:=Int) (k:=2) (l:=l2) (l2:=[(i2:Int)]) (l':=l2++([(i2:Int)])) (vy:=bX) T22 rfl H rfl rfl rfl (H.os 0) (H.ol 0) (rfl) (by first | omega | (simp only [List.length_nil] at *; omega)) ?_;intro bY cz H;replace H:=H.nf;refine kg 2 ?_;replace H:=H.pk [2,3,4,5];refine kg 5 ?_
    exact ⟨aS,aT,i2+1,l++([(i2:Int)]),l2++([(i2:Int)]),bE,bY,_,upds_of _ _ ⟨rfl,rfl,rfl,rfl,rfl,rfl,trivial⟩,M.e_inl hM aM,H⟩
   replace hM:=M.e_f hM a8;refine kg 6 ?_
   exact ⟨aS,aT,i2+1,l++([(i2:Int)]),l2,bE,au,_,upds_of _ _ ⟨rfl,rfl,rfl,rfl,rfl,rfl,trivial⟩,M.e_inl hM aM,(H.pk [1,2,3,4])⟩
  replace hM:=M.e_f hM a7;refine kg 7 ?_;refine s_val (x_pand (b:=!aj) (r:=warned) rfl (fun hb=>gd_of (c:=!aj) (by first | exact hb | (rw [hb]; rfl) | simp_all) (B warned)) rfl)<|s_nil ?_
  refine W.cond ((!aj)&&warned) rfl (fun ba=>?_) (fun ba=>?_)
  ·replace hM:=M.e_t hM ba;refine kg 3 ?_;refine t_bs (α:=Int) T22 [I (i2:Int)] [(i2:Int)] H rfl (.cons rfl (Flat.rep_enc _ (i2:Int))<|.nil) rfl rfl rfl ?_;intro bZ cA H;obtain ⟨cB,hM⟩:=M.e_gd hM;refine t_app (α:=Int) (k:=1) (l:=l2) (l2:=[(i2:Int)]) (l':=l2++([(i2:Int)])) (vy:=bZ) T22 rfl H rfl rfl rfl (H.os 0) (H.ol 0) (rfl) (by first | omega | (simp only [List.length_nil] at *; omega)) ?_;intro b0 cC H;replace H:=H.nf;refine kg 7 ?_
   exact ⟨aS,aT,i2+1,l,l2++([(i2:Int)]),aq,b0,_,upds_of _ _ ⟨rfl,rfl,rfl,rfl,rfl,rfl,trivial⟩,M.e_inl hM aM,(H.pk [1,2,3,4])⟩
  replace hM:=M.e_f hM ba;refine kg 6 ?_
  exact ⟨aS,aT,i2+1,l,l2,aq,au,_,upds_of _ _ ⟨rfl,rfl,rfl,rfl,rfl,rfl,trivial⟩,M.e_inl hM aM,H⟩
 replace hM:=M.e_f hM aE
 replace aE:=dI aE
 refine W.exit ?_
 have b1:=M.e_inr hM aM
 subst b1;replace hM:=bO;(try dsimp only at hM);replace H:=H.pk [0,1];refine kg 8 ?_;refine W.ret ?_
 have aB:=M.e_pure hM
 exact ⟨_,resE_tmp3 rfl,⟨l,l2,0,aq,au,aB,rfl,(H.pk [1,0])⟩⟩

end Go.Proofs.YtbldmjejckjflabGreat
end
section
set_option maxRecDepth 100000
set_option maxHeartbeats 16000000
namespace Go.Proofs.YtbldmjejckjflabGreat
open Go Go.Nm
attribute [local irreducible] gd execOp SL SLD SLT WR
def zaT (ag:List Int) (ah:List Span) (ai:List Int) (aj:List Town) (ak al:Int) (am:List Flood) (watches:List Int) (flood:Int) (thresholds:List Int):M Bool :=
  M.bind (zbu ag ah ai aj ak al am) fun r2 =>
  bif ((r2||(decide (15<(watches.length:Int))))||(decide (15<(thresholds.length:Int)))) then (
  M.bind (zax) fun r3 =>
  M.pure r3)
  else (
  M.bind (zbp ag ah ai aj ak al am) fun (r0,r1,ao,ap,r4,r5,r6) =>
  M.bind (zay watches) fun r7 =>
  M.bind (zay thresholds) fun r8 =>
  M.bind (zbj ag ah ai aj ak al am) fun (au,av,aw,ax,ay,az,aA) =>
  M.bind (zdT r0 r1 ao ap r4 r5 r6 r7 flood) fun (aF,aG,aH) =>
  M.bind (zdP au av aw ax ay az aA watches flood) fun (aI,aJ,aK) =>
  bif (((aH != aK)||(aF != aI))||(aG != aJ)) then (
  M.pure false)
  else (
  M.bind (zbl r0 r1 ao ap r4 r5 r6 r7) fun (aL,aM,aB) =>
  M.bind (zdy au av aw ax ay az aA watches) fun (aN,aO,aC) =>
  M.bind (M.opt (!(aB != aC)) (zad aL aN) false) fun r9 =>
  M.bind (M.opt (!((aB != aC)||(!r9))) (zad aM aO) false) fun aP =>
  bif (((aB != aC)||(!r9))||(!aP)) then (
  M.pure false)
  else (
  M.bind (zaB r0 r1 ao ap r4 r5 r6 r7 r8) fun (aQ,aR,aa) =>
  M.bind (zdJ au av aw ax ay az aA watches thresholds) fun (aS,aT,ab) =>
  M.bind (M.opt (aa==ab) (zad aQ aS) false) fun ac =>
  M.bind (M.opt ((aa==ab)&&ac) (zad aR aT) false) fun ae =>
  M.bind (M.opt (((aa==ab)&&ac)&&ae) (zba r0 r1 ao ap r4 r5 r6 ag ah ai aj ak al am) false) fun aq =>
  M.bind (M.opt ((((aa==ab)&&ac)&&ae)&&aq) (zad r7 watches) false) fun aD =>
  M.bind (M.opt (((((aa==ab)&&ac)&&ae)&&aq)&&aD) (zad r8 thresholds) false) fun aE =>
  M.bind (M.opt ((((((aa==ab)&&ac)&&ae)&&aq)&&aD)&&aE) (zax) false) fun aU =>
  M.pure (((((((aa==ab)&&ac)&&ae)&&aq)&&aD)&&aE)&&aU))))
theorem zar {R:List Chunk} {bI:Cells} {ay:Value} {bJ:Cells} {az:Value} {bK:Cells} {aA:Value} {bL:Cells} {aB:Value} {bM:Cells} {aC:Value} {bN:Cells} {aD:Value} {bO:Cells} {aE:Value} (aP:List Int) (aQ:List Span) (aR:List Int) (aS:List Town) (ak:Int) (al:Int) (aT:List Flood) (watches:List Int) (flood:Int) (thresholds:List Int) (bc:Reads R bI) (bf:Sl bI ay aP) (bg:Reads R bJ) (bh:Sl bJ az aQ) (bi:Reads R bK) (bj:Sl bK aA aR) (bm:Reads R bL) (bn:Sl bL aB aS) (am:Reads R bM) (bo:Sl bM aC aT) (aW:Reads R bN) (aU:Sl bN aD watches) (bv:Reads R bO) (aX:Sl bO aE thresholds) {r:Bool} (hM:(zaT aP aQ aR aS ak al aT watches flood thresholds).Ends r) (w:World) (H:St w w [] R):Ret Tryz.prog 7 #[.agg #[ay,az,aA,aB,I ak,I al,aC],aD,I flood,aE] w fun v w'=>∃ (y0:Bool),y0=r/\v=B y0/\St w w' [] R:=by
 refine ret_of_W Tryz.func7 rfl rfl rfl ?_;refine kg 2 ?_;refine t_bx [ay,az,aA,aB,I ak,I al,aC] H rfl ?_;intro cp cq H;refine kg 6 ?_;obtain ⟨cr,bV,hM⟩:=M.e_bind hM;refine s_call cf11 [.agg #[ay,az,aA,aB,I ak,I al,aC]] rfl (zdl aP aQ aR aS ak al aT (bc.app _) bf (bg.app _) bh (bi.app _) bj (bm.app _) bn (am.app _) bo bV _ (H.gt 1)) ?_
 rintro vq ct ⟨r2,rfl,hvq,aa⟩
 subst vq;(try dsimp only at hM);replace H:=H.bk aa;clear aa
 have cu:=(aU).len_le
 refine kg 4 ?_;refine s_val (x_por (b:=r2) (r:=decide (15<(watches.length:Int))) rfl rfl (fun hb=>gd_of (c:=!r2) (by first | exact hb | (rw [hb]; rfl) | simp_all) (B (decide (15<(watches.length:Int))))))<|zM (B (r2||(decide (15<(watches.length:Int))))) rfl<|g_val (!(r2||(decide (15<(watches.length:Int))))) (gy_f rfl) (fun hg=>x_mv (v:=aE) rfl) ?_
 have cv:=(aX).len_le
 refine g_val (!(r2||(decide (15<(watches.length:Int))))) (gy_f rfl) (fun hg=>x_lenS T22.und (gd_of hg (aE)) aX)<|g_val (!(r2||(decide (15<(watches.length:Int))))) (gy_f rfl) (fun hg=>x_cmp (kd:=.i64) (r:=decide (15<(thresholds.length:Int))) (gd_of hg (I (thresholds.length:Int))) rfl rfl)<|s_val (x_por (b:=(r2||(decide (15<(watches.length:Int))))) (r:=decide (15<(thresholds.length:Int))) rfl rfl (fun hb=>gd_of (c:=!(r2||(decide (15<(watches.length:Int))))) (by first | exact hb | (rw [hb]; rfl) | simp_all) (B (decide (15<(thresholds.length:Int))))))<|s_nil ?_
 refine W.cond ((r2||(decide (15<(watches.length:Int))))||(decide (15<(thresholds.length:Int)))) rfl (fun bw=>?_) (fun bw=>?_)
 ·replace hM:=M.e_t hM bw;refine kg 2 ?_;obtain ⟨cw,bW,hM⟩:=M.e_bind hM;refine s_call cf10 [] rfl (zao bW _ (H.gt 1)) ?_
  rintro vq cx ⟨r3,rfl,hvq,aa⟩
  subst vq;(try dsimp only at hM);replace H:=H.bk aa;clear aa;refine kg 2 ?_;refine W.ret ?_
  have ab:=M.e_pure hM
  exact ⟨_,resE_tmp rfl,⟨r3,ab,rfl,(H.pk [])⟩⟩
 replace hM:=M.e_f hM bw;refine kg 4 ?_;obtain ⟨cy,bX,hM⟩:=M.e_bind hM;refine s_call cf12 [.agg #[ay,az,aA,aB,I ak,I al,aC]] rfl (zaF aP aQ aR aS ak al aT (bc.app _) bf (bg.app _) bh (bi.app _) bj (bm.app _) bn (am.app _) bo bX _ (H.gt 1)) ?_
 rintro vq cz ⟨r0,r1,bp,br,r4,r5,r6,aH,aI,aJ,aK,aL,cA,cB,rfl,hvq,aa,aY⟩
 subst vq;(try dsimp only at hM);replace H:=H.bk aa;clear aa;refine kg 1 ?_;obtain ⟨cC,bY,hM⟩:=M.e_bind hM;refine s_call cf23 [aD] rfl (zai watches (aW.app _) aU bY _ (H.gt 7)) ?_
 rintro vq cD ⟨r7,aZ,rfl,hvq,aa⟩
 subst vq;(try dsimp only at hM);replace H:=H.bk aa;clear aa;refine kg 1 ?_;obtain ⟨cE,bZ,hM⟩:=M.e_bind hM;refine s_call cf23 [aE] rfl (zai thresholds (bv.app _) aX bZ _ (H.gt 8)) ?_
 rintro vq cF ⟨r8,bx,rfl,hvq,aa⟩
 subst vq;(try dsimp only at hM);replace H:=H.bk aa;clear aa;refine t_alloc (cs:=[.slice none 0 0,.slice none 0 0,.slice none 0 0,.slice none 0 0,I 0,I 0,.slice none 0 0]) H Al29 rfl ?_;intro cG cH H;refine t_sw 0 0 [aH,aI,aJ,aK,I r4,I r5,aL] (.agg #[aH,aI,aJ,aK,I r4,I r5,aL]) H rfl rfl Sz29 rfl rfl rfl (by simp only [List.all_cons,List.all_nil,Bool.true_and,Bool.and_true,Sl.oc (H.os 3),Sl.oc (H.os 4),Sl.oc (H.os 5),Sl.oc (H.os 6),Sl.oc (rowSl rfl (H.get (k:=7) rfl) (roLe _ (H.get (k:=8) rfl)) aY)]; try rfl) ?_;intro cI H;refine kg 6 ?_;obtain ⟨cJ,b0,hM⟩:=M.e_bind hM;refine s_call cf13 [.agg #[ay,az,aA,aB,I ak,I al,aC]] rfl (zap aP aQ aR aS ak al aT (bc.app _) bf (bg.app _) bh (bi.app _) bj (bm.app _) bn (am.app _) bo b0 _ (H.gt 10)) ?_
 rintro vq cK ⟨bz,bA,bB,bC,aF,aG,bD,a6,a7,a8,ba,bb,cL,cM,rfl,hvq,aa,bt⟩
 subst vq;(try dsimp only at hM);replace H:=H.bk aa;clear aa;refine t_alloc (cs:=[.slice none 0 0,.slice none 0 0,.slice none 0 0,.slice none 0 0,I 0,I 0,.slice none 0 0]) H Al53 rfl ?_;intro cN cO H;refine t_sw 0 0 [a6,a7,a8,ba,I aF,I aG,bb] (.agg #[a6,a7,a8,ba,I aF,I aG,bb]) H rfl rfl Sz53 rfl rfl rfl (by simp only [List.all_cons,List.all_nil,Bool.true_and,Bool.and_true,Sl.oc (H.os 1),Sl.oc (H.os 2),Sl.oc (H.os 3),Sl.oc (H.os 4),Sl.oc (rowSl rfl (H.get (k:=5) rfl) (Cells.sup_le (am.at H) (roLe _ (H.get (k:=6) rfl))) bt)]; try rfl) ?_;intro cP H;refine kg 6 ?_;obtain ⟨cQ,b1,hM⟩:=M.e_bind hM;refine s_call cf39 [.agg #[aH,aI,aJ,aK,I r4,I r5,aL],aZ,I flood] rfl (zfc r0 r1 bp br r4 r5 r6 r7 flood (rdo 10) (H.os 10) (rdo 11) (H.os 11) (rdo 12) (H.os 12) (rdo 13) (H.os 13) (Reads.sup (rdo 14) (Reads.of (k:=15) rfl roLe)) (rowSl rfl (H.get (k:=14) rfl) (roLe _ (H.get (k:=15) rfl)) aY) (rdo 9) (H.os 9) b1 _ (H.gt 17)) ?_
 rintro vq cR ⟨au,aM,av,rfl,hvq,aa⟩
 subst vq;(try dsimp only at hM);replace H:=H.bk aa;clear aa;refine kg 13 ?_;obtain ⟨cS,b2,hM⟩:=M.e_bind hM;refine s_call cf40 [.agg #[a6,a7,a8,ba,I aF,I aG,bb],aD,I flood] rfl (zeR bz bA bB bC aF aG bD watches flood (rdo 1) (H.os 1) (rdo 2) (H.os 2) (rdo 3) (H.os 3) (rdo 4) (H.os 4) (Reads.sup (rdo 5) (Reads.sup (am.app _) (Reads.of (k:=6) rfl roLe))) (rowSl rfl (H.get (k:=5) rfl) (Cells.sup_le (am.at H) (roLe _ (H.get (k:=6) rfl))) bt) (aW.app _) aU b2 _ (H.gt 17)) ?_
 rintro vq cT ⟨aw,aN,ax,rfl,hvq,aa⟩
 subst vq;(try dsimp only at hM);replace H:=H.bk aa;clear aa;refine kg 18 ?_;refine s_val (x_por (b:=av != ax) (r:=au != aw) rfl rfl (fun hb=>gd_of (c:=!(av != ax)) (by first | exact hb | (rw [hb]; rfl) | simp_all) (B (au != aw))))<|zM (B ((av != ax)||(au != aw))) rfl<|g_val (!((av != ax)||(au != aw))) (gy_f rfl) (fun hg=>x_mv (v:=B aM) rfl)<|g_val (!((av != ax)||(au != aw))) (gy_f rfl) (fun hg=>x_mv (v:=B aN) rfl)<|g_val (!((av != ax)||(au != aw))) (gy_f rfl) (fun hg=>x_eqb (a:=aM) (b:=aN) (r:=(aM != aN)) (gd_of hg (B aM)) (gd_of hg (B aN)) Tryz.underlying4 rfl)<|s_val (x_por (b:=((av != ax)||(au != aw))) (r:=(aM != aN)) rfl rfl (fun hb=>gd_of (c:=!((av != ax)||(au != aw))) (by first | exact hb | (rw [hb]; rfl) | simp_all) (B (aM != aN))))<|s_nil ?_
 refine W.cond (((av != ax)||(au != aw))||(aM != aN)) rfl (fun bE=>?_) (fun bE=>?_)
 ·replace hM:=M.e_t hM bE;refine kg 4 ?_;replace H:=H.pk [];refine W.ret ?_
  have ab:=M.e_pure hM
  exact ⟨_,resE_tmp rfl,⟨false,ab,rfl,H⟩⟩
 replace hM:=M.e_f hM bE;refine kg 5 ?_;obtain ⟨cU,b3,hM⟩:=M.e_bind hM;refine s_call cf41 [.agg #[aH,aI,aJ,aK,I r4,I r5,aL],aZ] rfl (zbD r0 r1 bp br r4 r5 r6 r7 (rdo 10) (H.os 10) (rdo 11) (H.os 11) (rdo 12) (H.os 12) (rdo 13) (H.os 13) (Reads.sup (rdo 14) (Reads.of (k:=15) rfl roLe)) (rowSl rfl (H.get (k:=14) rfl) (roLe _ (H.get (k:=15) rfl)) aY) (rdo 9) (H.os 9) b3 _ (H.gt 17)) ?_
 rintro vq cV ⟨b4,b5,ao,bP,bF,rfl,hvq,aa⟩
 subst vq;(try dsimp only at hM);replace H:=H.bk aa;clear aa;refine kg 12 ?_;obtain ⟨cW,b6,hM⟩:=M.e_bind hM;refine s_call cf42 [.agg #[a6,a7,a8,ba,I aF,I aG,bb],aD] rfl (zff bz bA bB bC aF aG bD watches (rdo 3) (H.os 3) (rdo 4) (H.os 4) (rdo 5) (H.os 5) (rdo 6) (H.os 6) (Reads.sup (rdo 7) (Reads.sup (am.app _) (Reads.of (k:=8) rfl roLe))) (rowSl rfl (H.get (k:=7) rfl) (Cells.sup_le (am.at H) (roLe _ (H.get (k:=8) rfl))) bt) (aW.app _) aU b6 _ (H.gt 19)) ?_
 rintro vq cX ⟨b7,b8,ap,bQ,bG,rfl,hvq,aa⟩
 subst vq;(try dsimp only at hM);replace H:=H.bk aa;clear aa;refine kg 17 ?_;obtain ⟨r9,b9,hM⟩:=M.e_bind hM;refine t_gcall (!(ao != ap)) (gy_f rfl) cf17 (B r9) (fun _=>[bP,bQ]) (fun hg=>lst2 (gd_of hg (bP)) (gd_of hg (bQ))) H (fun hg=>(zaf b4 b7 (rdo 2) (H.os 2) (rdo 0) (H.os 0) (M.e_opt b9 hg) _ (H.give (A:=[]) rfl)).mono fun v_ w_ ⟨y_,ab,ai,H_⟩=>by subst ab; exact ⟨ai,H.via H_⟩) ?_;intro cY H;refine kg 1 ?_;refine s_val (x_por (b:=ao != ap) (r:=!r9) rfl rfl (fun hb=>gd_of (c:=!(ao != ap)) (by first | exact hb | (rw [hb]; rfl) | simp_all) (B (!r9))))<|zM (B ((ao != ap)||(!r9))) rfl<|g_val (!((ao != ap)||(!r9))) (gy_f rfl) (fun hg=>x_mv (v:=bF) rfl)<|g_val (!((ao != ap)||(!r9))) (gy_f rfl) (fun hg=>x_mv (v:=bG) rfl) ?_;obtain ⟨aV,ca,hM⟩:=M.e_bind hM;refine t_gcall (!((ao != ap)||(!r9))) (gy_f rfl) cf17 (B aV) (fun _=>[bF,bG]) (fun hg=>lst2 (gd_of hg (bF)) (gd_of hg (bG))) H (fun hg=>(zaf b5 b8 (rdo 3) (H.os 3) (rdo 1) (H.os 1) (M.e_opt ca hg) _ (H.give (A:=[]) rfl)).mono fun v_ w_ ⟨y_,ab,ai,H_⟩=>by subst ab; exact ⟨ai,H.via H_⟩) ?_;intro cZ H;refine g_val (!((ao != ap)||(!r9))) (gy_f rfl) (fun hg=>x_not (b:=aV) (gd_of hg (B aV)))<|s_val (x_por (b:=((ao != ap)||(!r9))) (r:=!aV) rfl rfl (fun hb=>gd_of (c:=!((ao != ap)||(!r9))) (by first | exact hb | (rw [hb]; rfl) | simp_all) (B (!aV))))<|s_nil ?_;replace H:=H.pk [4,5,6,7,8,9,10,11,12,13,14,15,16,17,18,19,20]
 refine W.cond (((ao != ap)||(!r9))||(!aV)) rfl (fun bH=>?_) (fun bH=>?_)
 ·replace hM:=M.e_t hM bH;refine kg 4 ?_;replace H:=H.pk [];refine W.ret ?_
  have ab:=M.e_pure hM
  exact ⟨_,resE_tmp rfl,⟨false,ab,rfl,H⟩⟩
 replace hM:=M.e_f hM bH;refine kg 6 ?_;obtain ⟨c0,cb,hM⟩:=M.e_bind hM;refine s_call cf43 [.agg #[aH,aI,aJ,aK,I r4,I r5,aL],aZ,bx] rfl (zaD r0 r1 bp br r4 r5 r6 r7 r8 (rdo 10) (H.os 10) (rdo 11) (H.os 11) (rdo 12) (H.os 12) (rdo 13) (H.os 13) (Reads.sup (rdo 14) (Reads.of (k:=15) rfl roLe)) (rowSl rfl (H.get (k:=14) rfl) (roLe _ (H.get (k:=15) rfl)) aY) (rdo 9) (H.os 9) (rdo 8) (H.os 8) cb _ (H.gt 17)) ?_
 rintro vq c5 ⟨cc,cd,ac,bR,bS,rfl,hvq,aa⟩
 subst vq;(try dsimp only at hM);replace H:=H.bk aa;clear aa;refine kg 13 ?_;obtain ⟨c6,ce,hM⟩:=M.e_bind hM;refine s_call cf44 [.agg #[a6,a7,a8,ba,I aF,I aG,bb],aD,aE] rfl (zfd bz bA bB bC aF aG bD watches thresholds (rdo 3) (H.os 3) (rdo 4) (H.os 4) (rdo 5) (H.os 5) (rdo 6) (H.os 6) (Reads.sup (rdo 7) (Reads.sup (am.app _) (Reads.of (k:=8) rfl roLe))) (rowSl rfl (H.get (k:=7) rfl) (Cells.sup_le (am.at H) (roLe _ (H.get (k:=8) rfl))) bt) (aW.app _) aU (bv.app _) aX ce _ (H.gt 19)) ?_
 rintro vq c7 ⟨cf,cg,ae,bT,bU,rfl,hvq,aa⟩
 subst vq;(try dsimp only at hM);replace H:=H.bk aa;clear aa;refine kg 8 ?_;replace H:=H.pk [0,1,2,3,11,12,13,14,15,16,17,18,19,20];refine kg 8 ?_;obtain ⟨ag,ci,hM⟩:=M.e_bind hM;refine t_gcall (ac==ae) (gy_t rfl) cf17 (B ag) (fun _=>[bR,bT]) (fun hg=>lst2 (gd_of hg (bR)) (gd_of hg (bT))) H (fun hg=>(zaf cc cf (rdo 2) (H.os 2) (rdo 0) (H.os 0) (M.e_opt ci hg) _ (H.give (A:=[]) rfl)).mono fun v_ w_ ⟨y_,ab,ai,H_⟩=>by subst ab; exact ⟨ai,H.via H_⟩) ?_;intro c8 H;refine s_val (x_pand (b:=ac==ae) (r:=ag) rfl (fun hb=>gd_of (c:=ac==ae) (by first | exact hb | (rw [hb]; rfl) | simp_all) (B ag)) rfl) ?_;refine kg 3 ?_;obtain ⟨ah,cj,hM⟩:=M.e_bind hM;refine t_gcall ((ac==ae)&&ag) (gy_t rfl) cf17 (B ah) (fun _=>[bS,bU]) (fun hg=>lst2 (gd_of hg (bS)) (gd_of hg (bU))) H (fun hg=>(zaf cd cg (rdo 3) (H.os 3) (rdo 1) (H.os 1) (M.e_opt cj hg) _ (H.give (A:=[]) rfl)).mono fun v_ w_ ⟨y_,ab,ai,H_⟩=>by subst ab; exact ⟨ai,H.via H_⟩) ?_;intro c9 H;refine s_val (x_pand (b:=((ac==ae)&&ag)) (r:=ah) rfl (fun hb=>gd_of (c:=((ac==ae)&&ag)) (by first | exact hb | (rw [hb]; rfl) | simp_all) (B ah)) rfl) ?_;refine kg 3 ?_;obtain ⟨aj,ck,hM⟩:=M.e_bind hM;refine t_gcall (((ac==ae)&&ag)&&ah) (gy_t rfl) cf22 (B aj) (fun _=>[.agg #[aH,aI,aJ,aK,I r4,I r5,aL],.agg #[ay,az,aA,aB,I ak,I al,aC]]) (fun hg=>lst2 (gd_of hg (.agg #[aH,aI,aJ,aK,I r4,I r5,aL])) (gd_of hg (.agg #[ay,az,aA,aB,I ak,I al,aC]))) H (fun hg=>(zcP r0 r1 bp br r4 r5 r6 aP aQ aR aS ak al aT (rdo 7) (H.os 7) (rdo 8) (H.os 8) (rdo 9) (H.os 9) (rdo 10) (H.os 10) (Reads.sup (rdo 11) (Reads.of (k:=12) rfl roLe)) (rowSl rfl (H.get (k:=11) rfl) (roLe _ (H.get (k:=12) rfl)) aY) (bc.app _) bf (bg.app _) bh (bi.app _) bj (bm.app _) bn (am.app _) bo (M.e_opt ck hg) _ (H.give (A:=[]) rfl)).mono fun v_ w_ ⟨y_,ab,ai,H_⟩=>by subst ab; exact ⟨ai,H.via H_⟩) ?_;intro da H;refine s_val (x_pand (b:=(((ac==ae)&&ag)&&ah)) (r:=aj) rfl (fun hb=>gd_of (c:=(((ac==ae)&&ag)&&ah)) (by first | exact hb | (rw [hb]; rfl) | simp_all) (B aj)) rfl) ?_;refine kg 3 ?_;obtain ⟨aq,cm,hM⟩:=M.e_bind hM;refine t_gcall ((((ac==ae)&&ag)&&ah)&&aj) (gy_t rfl) cf17 (B aq) (fun _=>[aZ,aD]) (fun hg=>lst2 (gd_of hg (aZ)) (gd_of hg (aD))) H (fun hg=>(zaf r7 watches (rdo 6) (H.os 6) (aW.app _) aU (M.e_opt cm hg) _ (H.give (A:=[]) rfl)).mono fun v_ w_ ⟨y_,ab,ai,H_⟩=>by subst ab; exact ⟨ai,H.via H_⟩) ?_;intro db H;refine s_val (x_pand (b:=((((ac==ae)&&ag)&&ah)&&aj)) (r:=aq) rfl (fun hb=>gd_of (c:=((((ac==ae)&&ag)&&ah)&&aj)) (by first | exact hb | (rw [hb]; rfl) | simp_all) (B aq)) rfl) ?_;refine kg 3 ?_;obtain ⟨aO,cn,hM⟩:=M.e_bind hM;refine t_gcall (((((ac==ae)&&ag)&&ah)&&aj)&&aq) (gy_t rfl) cf17 (B aO) (fun _=>[bx,aE]) (fun hg=>lst2 (gd_of hg (bx)) (gd_of hg (aE))) H (fun hg=>(zaf r8 thresholds (rdo 5) (H.os 5) (bv.app _) aX (M.e_opt cn hg) _ (H.give (A:=[]) rfl)).mono fun v_ w_ ⟨y_,ab,ai,H_⟩=>by subst ab; exact ⟨ai,H.via H_⟩) ?_;intro dc H;refine s_val (x_pand (b:=(((((ac==ae)&&ag)&&ah)&&aj)&&aq)) (r:=aO) rfl (fun hb=>gd_of (c:=(((((ac==ae)&&ag)&&ah)&&aj)&&aq)) (by first | exact hb | (rw [hb]; rfl) | simp_all) (B aO)) rfl) ?_;refine kg 1 ?_;obtain ⟨bu,co,hM⟩:=M.e_bind hM;refine t_gcall ((((((ac==ae)&&ag)&&ah)&&aj)&&aq)&&aO) (gy_t rfl) cf10 (B bu) (fun _=>[]) (fun _=>rfl) H (fun hg=>(zao (M.e_opt co hg) _ (H.give (A:=[]) rfl)).mono fun v_ w_ ⟨y_,ab,ai,H_⟩=>by subst ab; exact ⟨ai,H.via H_⟩) ?_;intro dd H;refine s_val (x_pand (b:=((((((ac==ae)&&ag)&&ah)&&aj)&&aq)&&aO)) (r:=bu) rfl (fun hb=>gd_of (c:=((((((ac==ae)&&ag)&&ah)&&aj)&&aq)&&aO)) (by first | exact hb | (rw [hb]; rfl) | simp_all) (B bu)) rfl) ?_;refine kg 2 ?_;replace H:=H.pk [];refine W.ret ?_
 have ab:=M.e_pure hM
 exact ⟨_,resE_tmp rfl,⟨(((((((ac==ae)&&ag)&&ah)&&aj)&&aq)&&aO)&&bu),ab,rfl,H⟩⟩

end Go.Proofs.YtbldmjejckjflabGreat
end
