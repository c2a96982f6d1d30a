/- Part 4 of the texts on which the proof rests. Conditions: none. -/
import Derived.KernelRfl
import Derived.Test.YtbldmjejckjflaaGreatZA3
set_option linter.unusedVariables false
set_option linter.unusedSimpArgs false
set_option linter.unusedSectionVars false
section
set_option maxRecDepth 100000
set_option maxHeartbeats 16000000
namespace Go.Proofs.YtbldmjejckjflaaGreat
open Go Go.Nm
attribute [local irreducible] gd execOp SL SLD SLT WR
def zb7 (s_Sections:List Sect) (s_Marks:List Mrk) (s_Reaches:List Rch) (r_:Rch) (r2 r3:List Int) (i:Nat):(Int × Int × Nat)->M ((Int × Int × Nat) ⊕ (Int × Int)):=fun (s3,s4,k) =>
  M.grd ((!(decide ((k:Int)<(r3.length:Int)))||(decide ((k:Int)<(r3.length:Int))))) <|
  M.grd ((!(decide ((k:Int)<(r3.length:Int)))||(decide ((i:Int)<(r2.length:Int))))) <|
  bif ((decide ((k:Int)<(r3.length:Int)))&&(decide ((r3.getD k 0)<=(r2.getD i 0)))) then (
  M.grd (decide ((i:Int)<(r2.length:Int))) <|
  M.grd (decide ((k:Int)<(r3.length:Int))) <|
  M.bind (zaC s_Sections s_Marks s_Reaches r_ (⟨(r2.getD i 0:Int),(r3.getD k 0:Int),(r_.hi:Int),(r_.hi:Int)⟩:Cas)) fun r4 =>
  M.bind (zaC s_Sections s_Marks s_Reaches r_ (⟨(r2.getD i 0:Int),(r3.getD k 0:Int),(r_.lo:Int),(r_.lo:Int)⟩:Cas)) fun r5 =>
  bif ((decide (s3<0))||(decide (r4<s3))) then (
  bif decide (s4<r5) then (
  M.pure (.inl (r4,r5,k+1)))
  else (
  M.pure (.inl (r4,s4,k+1))))
  else (
  bif decide (s4<r5) then (
  M.pure (.inl (s3,r5,k+1)))
  else (
  M.pure (.inl (s3,s4,k+1)))))
  else (
  M.pure (.inr (s3,s4)))
def zbM (s_Sections:List Sect) (s_Marks:List Mrk) (s_Reaches:List Rch) (r_:Rch) (r2 r3:List Int):(Int × Int × Nat)->M ((Int × Int × Nat) ⊕ (Int × Int)):=fun (s7,s8,i) =>
  bif decide ((i:Int)<(r2.length:Int)) then (
  M.bind (M.iter (zb7 s_Sections s_Marks s_Reaches r_ r2 r3 i) (s7,s8,0)) fun (s5,s6) =>
  M.pure (.inl (s5,s6,i+1)))
  else (
  M.pure (.inr (s7,s8)))
def za8 (s_Sections:List Sect) (s_Marks:List Mrk) (s_Reaches:List Rch) (marks:List Int) (r_:Rch):M (Int × Int) :=
  M.bind (za7 s_Sections s_Marks s_Reaches marks r_.up) fun r2 =>
  M.bind (za7 s_Sections s_Marks s_Reaches marks r_.down) fun r3 =>
  M.bind (M.iter (zbM s_Sections s_Marks s_Reaches r_ r2 r3) (-1,0,0)) fun (s9,ab) =>
  M.pure (s9,ab)
theorem zcP {R:List Chunk} {aM:Cells} {ab:Value} {aN:Cells} {ac:Value} {aO:Cells} {ae:Value} {aP:Cells} {ax:Value} (s_Sections:List Sect) (s_Marks:List Mrk) (s_Reaches:List Rch) (marks:List Int) (r_:Rch) (ay:Reads R aM) (az:Sl aM ab s_Sections) (aA:Reads R aN) (aB:Sl aN ac s_Marks) (aC:Reads R aO) (aD:Sl aO ae s_Reaches) (aQ:Reads R aP) (aR:Sl aP ax marks) {r:(Int × Int)} (hM:(za8 s_Sections s_Marks s_Reaches marks r_).Ends r) (w:World) (H:St w w [] R):Ret Tryz.prog 82 #[.agg #[ab,ac,ae],ax,.agg #[I r_.up,I r_.down,I r_.lo,I r_.hi,B r_.narrow]] w fun v w'=>∃ (y0:Int) (y1:Int),(y0,y1)=r/\v = .agg #[I y0,I y1]/\St w w' [] R:=by
 refine ret_of_W Tryz.func82 rfl rfl rfl ?_;refine kg 2 ?_;refine t_bx [ab,ac,ae] H rfl ?_;intro aj bj H;refine t_bx [I r_.up,I r_.down,I r_.lo,I r_.hi,B r_.narrow] H rfl ?_;intro ak bm H;refine t_alloc (cs:=[I 0,I 0]) H Al30 rfl ?_;intro al bn H;refine kg 2 ?_;refine W.draw (fun W=>St w W [cBlk al [I 0,I 0] 30,cBlk ak [I r_.up,I r_.down,I r_.lo,I r_.hi,B r_.narrow] 118,cBlk aj [ab,ac,ae] 61] R) [(0,true),(1,true),(2,true),(3,true),(5,true),(6,true),(7,true),(8,true),(4,false),(9,false),(10,true),(11,true)] mixed (by decide +kernel) rfl ?_;intro bo ag;replace H:=H.ext ag;clear ag;refine ⟨(H.pk [0,1,2]),?_⟩;refine kg 8 ?_;refine d_l rfl ?_;obtain ⟨bp,aV,hM⟩:=M.e_bind hM;refine s_call cf76 [.agg #[ab,ac,ae],ax,I r_.up] rfl (zdy s_Sections s_Marks s_Reaches marks r_.up (ay.app _) az (aA.app _) aB (aC.app _) aD (aQ.app _) aR aV _ (H.gt 3)) ?_;rintro vq br ⟨r2,am,rfl,hvq,ai⟩;subst vq;(try dsimp only at hM);replace H:=H.bk ai;clear ai;have bt:=Sl.cells (H.os 0);have bu:=Sl.oc (H.os 0);refine s_nil ⟨(H.pk [1,2,3]),?_⟩;refine d_l rfl ?_;obtain ⟨bv,aW,hM⟩:=M.e_bind hM;refine s_call cf76 [.agg #[ab,ac,ae],ax,I r_.down] rfl (zdy s_Sections s_Marks s_Reaches marks r_.down (ay.app _) az (aA.app _) aB (aC.app _) aD (aQ.app _) aR aW _ (H.gt 4)) ?_;rintro vq bw ⟨r3,ao,rfl,hvq,ai⟩;subst vq;(try dsimp only at hM);replace H:=H.bk ai;clear ai;have bx:=Sl.cells (H.os 0);have bz:=Sl.oc (H.os 0);refine s_nil ⟨(H.pk [2,3,4]),?_⟩;refine kg 5 ?_;refine s_val (x_bld (ps:=[(0,I (-1))]) (zs:=[I 0,I 0]) (L':=[I (-1),I 0]) rfl Tryz.underlying30 Al30 rfl (Bd30 Tryz.underlying30) (.cons (cs:=[I (-1)]) rfl rfl rfl rfl rfl<|.nil)) ?_;refine t_alloc (cs:=[I 0,I 0]) H Al30 rfl ?_;intro ap bA H;refine t_sw 0 0 [I (-1),I 0] (.agg #[I (-1),I 0]) H rfl rfl Sz30 rfl rfl rfl rfl ?_;intro bB H;refine kg 7 ?_;obtain ⟨aX,aG,aY⟩:=M.e_bind hM;obtain ⟨aZ,aG⟩:=M.e_iter aG;refine W.loop (fun m σ W=>∃ (s7:Int) (s8:Int) (i:Nat) (ρ:Env),σ=upds ρ [(3,Pq aj),(5,Pq ak),(6,Pq al),(7,am),(8,ao),(9,Pq ap),(10,I (i:Int))]/\M.iterN (zbM s_Sections s_Marks s_Reaches r_ r2 r3) m (s7,s8,i)=some aX/\St w W [cBlk ap [I s7,I s8] 30,cOwn (α:=Int) 3 ao r3,cOwn (α:=Int) 3 am r2,cBlk al [I 0,I 0] 30,cBlk ak [I r_.up,I r_.down,I r_.lo,I r_.hi,B r_.narrow] 118,cBlk aj [ab,ac,ae] 61] R) ?_ ?_
 ·exact ⟨_,-1,0,0,_,upds_of _ _ ⟨rfl,rfl,rfl,rfl,rfl,rfl,rfl,trivial⟩,aG,H⟩
 rintro bC σ bD ⟨s7,s8,i,ρ,rfl,aS,H⟩;obtain ⟨a6,a7,bE,hM,aT⟩:=M.e_iterN aS;simp only [zbM] at hM;clear aS;have bF:=((H.os 2)).len_le;refine kg 8 ?_;refine W.cond (decide ((i:Int)<(r2.length:Int))) rfl (fun aq=>?_) (fun aq=>?_)
 ·replace hM:=M.e_t hM aq;replace aq:=dI aq;refine kg 8 ?_;obtain ⟨a8,aH,ba⟩:=M.e_bind hM;obtain ⟨aZ,aH⟩:=M.e_iter aH;refine W.loop (fun m σ W=>∃ (s3:Int) (s4:Int) (k:Nat) (ρ:Env),σ=upds ρ [(3,Pq aj),(5,Pq ak),(6,Pq al),(7,am),(8,ao),(9,Pq ap),(10,I (i:Int)),(11,I (k:Int))]/\M.iterN (zb7 s_Sections s_Marks s_Reaches r_ r2 r3 i) m (s3,s4,k)=some a8/\St w W [cBlk ap [I s3,I s4] 30,cOwn (α:=Int) 3 ao r3,cOwn (α:=Int) 3 am r2,cBlk al [I 0,I 0] 30,cBlk ak [I r_.up,I r_.down,I r_.lo,I r_.hi,B r_.narrow] 118,cBlk aj [ab,ac,ae] 61] R) ?_ ?_
  ·exact ⟨_,s7,s8,0,_,upds_of _ _ ⟨rfl,rfl,rfl,rfl,rfl,rfl,rfl,rfl,trivial⟩,aH,H⟩
  rintro bG σ bH ⟨s3,s4,k,ρ,rfl,aU,H⟩;obtain ⟨aE,aF,bI,hM,aw⟩:=M.e_iterN aU;simp only [zb7] at hM;clear aU;refine kg 2 ?_;refine W.draw (fun W=>St w W [cBlk ap [I s3,I s4] 30,cOwn (α:=Int) 3 ao r3,cOwn (α:=Int) 3 am r2,cBlk al [I 0,I 0] 30,cBlk ak [I r_.up,I r_.down,I r_.lo,I r_.hi,B r_.narrow] 118,cBlk aj [ab,ac,ae] 61] R) [(0,true),(1,true),(2,true),(3,true),(4,true),(5,true),(6,true),(7,true),(8,true),(9,true),(10,true),(11,true),(12,true),(13,true),(14,true)] mixed (by decide +kernel) rfl ?_;intro bJ ag;replace H:=H.ext ag;clear ag;refine ⟨(H.pk [0,1,2,3,4,5]),?_⟩;have bK:=((H.os 1)).len_le;obtain ⟨aI,hM⟩:=M.e_grd hM;replace aI:=M.imp_of aI;simp only [Bool.and_eq_true,decide_eq_true_eq] at aI;obtain ⟨aJ,hM⟩:=M.e_grd hM;replace aJ:=M.imp_of aJ;simp only [Bool.and_eq_true,decide_eq_true_eq] at aJ;refine kg 14 ?_;refine d_q rfl (fun w' H=>x_pand (b:=decide ((k:Int)<(r3.length:Int))) (r:=decide ((r3.getD k 0)<=(r2.getD i 0))) rfl (fun hb=>gd_of (c:=decide ((k:Int)<(r3.length:Int))) (by first | exact hb | (rw [hb]; rfl) | simp_all) (B (decide ((r3.getD k 0)<=(r2.getD i 0))))) rfl) ?_;refine d_nil ?_;refine W.cond ((decide ((k:Int)<(r3.length:Int)))&&(decide ((r3.getD k 0)<=(r2.getD i 0)))) rfl (fun aK=>?_) (fun aK=>?_)
  ·replace hM:=M.e_t hM aK;refine kg 4 ?_;refine W.draw (fun W=>St w W [cBlk ap [I s3,I s4] 30,cOwn (α:=Int) 3 ao r3,cOwn (α:=Int) 3 am r2,cBlk al [I 0,I 0] 30,cBlk ak [I r_.up,I r_.down,I r_.lo,I r_.hi,B r_.narrow] 118,cBlk aj [ab,ac,ae] 61] R) [(0,true),(1,true),(2,true),(3,true),(4,true),(5,true),(6,true),(7,true),(8,true),(9,true),(10,true),(11,true),(12,true),(13,true),(14,true),(15,true),(16,true),(17,false),(18,true)] mixed (by decide +kernel) rfl ?_;intro bL ag;replace H:=H.ext ag;clear ag;refine ⟨(H.pk [0,1,2,3,4,5]),?_⟩;obtain ⟨bM,hM⟩:=M.e_gd hM;obtain ⟨bN,hM⟩:=M.e_gd hM;refine kg 16 ?_;refine d_q rfl (fun w' H=>x_bld (ps:=[(0,I (r2.getD i 0)),(1,I (r3.getD k 0)),(2,I r_.hi),(3,I r_.hi)]) (zs:=[I 0,I 0,I 0,I 0]) (L':=[I (r2.getD i 0),I (r3.getD k 0),I r_.hi,I r_.hi]) rfl Tryz.underlying86 Al86 rfl (Bd86 Tryz.underlying86) (.cons (cs:=[I (r2.getD i 0)]) rfl rfl rfl rfl rfl<|.cons (cs:=[I (r3.getD k 0)]) rfl rfl rfl rfl rfl<|.cons (cs:=[I r_.hi]) rfl rfl rfl rfl rfl<|.cons (cs:=[I r_.hi]) rfl rfl rfl rfl rfl<|.nil))<|d_l rfl ?_;obtain ⟨bO,bb,hM⟩:=M.e_bind hM;refine s_call cf78 [.agg #[ab,ac,ae],.agg #[I r_.up,I r_.down,I r_.lo,I r_.hi,B r_.narrow],.agg #[I (r2.getD i 0),I (r3.getD k 0),I r_.hi,I r_.hi]] rfl (zdV s_Sections s_Marks s_Reaches r_ (⟨(r2.getD i 0:Int),(r3.getD k 0:Int),(r_.hi:Int),(r_.hi:Int)⟩:Cas) (ay.app _) az (aA.app _) aB (aC.app _) aD bb _ (H.gt 6)) ?_
   rintro vq bP ⟨r4,rfl,hvq,ai⟩;subst vq;(try dsimp only at hM);replace H:=H.bk ai;clear ai;refine s_nil ⟨(H.pk [0,1,2,3,4,5]),?_⟩;refine kg 3 ?_;refine W.draw (fun W=>St w W [cBlk ap [I s3,I s4] 30,cOwn (α:=Int) 3 ao r3,cOwn (α:=Int) 3 am r2,cBlk al [I 0,I 0] 30,cBlk ak [I r_.up,I r_.down,I r_.lo,I r_.hi,B r_.narrow] 118,cBlk aj [ab,ac,ae] 61] R) [(0,true),(1,true),(2,true),(3,true),(4,true),(5,true),(6,true),(7,true),(8,true),(9,true),(10,true),(11,true),(12,true),(13,true),(14,true),(15,true),(16,true),(17,false),(18,true)] mixed (by decide +kernel) rfl ?_;intro bQ ag;replace H:=H.ext ag;clear ag;refine ⟨(H.pk [0,1,2,3,4,5]),?_⟩;refine kg 16 ?_;refine d_q rfl (fun w' H=>x_bld (ps:=[(0,I (r2.getD i 0)),(1,I (r3.getD k 0)),(2,I r_.lo),(3,I r_.lo)]) (zs:=[I 0,I 0,I 0,I 0]) (L':=[I (r2.getD i 0),I (r3.getD k 0),I r_.lo,I r_.lo]) rfl Tryz.underlying86 Al86 rfl (Bd86 Tryz.underlying86) (.cons (cs:=[I (r2.getD i 0)]) rfl rfl rfl rfl rfl<|.cons (cs:=[I (r3.getD k 0)]) rfl rfl rfl rfl rfl<|.cons (cs:=[I r_.lo]) rfl rfl rfl rfl rfl<|.cons (cs:=[I r_.lo]) rfl rfl rfl rfl rfl<|.nil))<|d_l rfl ?_;obtain ⟨bR,bc,hM⟩:=M.e_bind hM;refine s_call cf78 [.agg #[ab,ac,ae],.agg #[I r_.up,I r_.down,I r_.lo,I r_.hi,B r_.narrow],.agg #[I (r2.getD i 0),I (r3.getD k 0),I r_.lo,I r_.lo]] rfl (zdV s_Sections s_Marks s_Reaches r_ (⟨(r2.getD i 0:Int),(r3.getD k 0:Int),(r_.lo:Int),(r_.lo:Int)⟩:Cas) (ay.app _) az (aA.app _) aB (aC.app _) aD bc _ (H.gt 6)) ?_
   rintro vq bS ⟨r5,rfl,hvq,ai⟩;subst vq;(try dsimp only at hM);replace H:=H.bk ai;clear ai;refine s_nil ⟨(H.pk [0,1,2,3,4,5]),?_⟩;refine kg 13 ?_;refine s_val (x_por (b:=decide (s3<0)) (r:=decide (r4<s3)) rfl rfl (fun hb=>gd_of (c:=!(decide (s3<0))) (by first | exact hb | (rw [hb]; rfl) | simp_all) (B (decide (r4<s3)))))<|s_nil ?_
   refine W.cond ((decide (s3<0))||(decide (r4<s3))) rfl (fun aL=>?_) (fun aL=>?_)
   ·replace hM:=M.e_t hM aL;refine kg 3 ?_;refine t_sw 0 0 [I r4] (I r4) H rfl rfl Sz3 rfl rfl rfl rfl ?_;intro bT H;refine kg 8 ?_;refine W.cond (decide (s4<r5)) rfl (fun au=>?_) (fun au=>?_)
    ·replace hM:=M.e_t hM au;replace au:=dI au;refine kg 3 ?_;refine t_sw 0 1 [I r5] (I r5) H rfl rfl Sz3 rfl rfl rfl rfl ?_;intro bU H;refine kg 6 ?_;exact ⟨aE,aF,r4,r5,k+1,_,upds_of _ _ ⟨rfl,rfl,rfl,rfl,rfl,rfl,rfl,rfl,trivial⟩,M.e_inl hM aw,H⟩
    replace hM:=M.e_f hM au;replace au:=dI au;refine kg 6 ?_;exact ⟨aE,aF,r4,s4,k+1,_,upds_of _ _ ⟨rfl,rfl,rfl,rfl,rfl,rfl,rfl,rfl,trivial⟩,M.e_inl hM aw,H⟩
   replace hM:=M.e_f hM aL;refine kg 8 ?_;refine W.cond (decide (s4<r5)) rfl (fun av=>?_) (fun av=>?_)
   ·replace hM:=M.e_t hM av;replace av:=dI av;refine kg 3 ?_;refine t_sw 0 1 [I r5] (I r5) H rfl rfl Sz3 rfl rfl rfl rfl ?_;intro bV H;refine kg 6 ?_;exact ⟨aE,aF,s3,r5,k+1,_,upds_of _ _ ⟨rfl,rfl,rfl,rfl,rfl,rfl,rfl,rfl,trivial⟩,M.e_inl hM aw,H⟩
   replace hM:=M.e_f hM av;replace av:=dI av;refine kg 6 ?_;exact ⟨aE,aF,s3,s4,k+1,_,upds_of _ _ ⟨rfl,rfl,rfl,rfl,rfl,rfl,rfl,rfl,trivial⟩,M.e_inl hM aw,H⟩
  replace hM:=M.e_f hM aK;refine W.exit ?_;have bf:=M.e_inr hM aw;subst bf;replace hM:=ba;(try dsimp only at hM);refine kg 5 ?_;exact ⟨a6,a7,s3,s4,i+1,_,upds_of _ _ ⟨rfl,rfl,rfl,rfl,rfl,rfl,rfl,trivial⟩,M.e_inl hM aT,H⟩
 replace hM:=M.e_f hM aq;replace aq:=dI aq;refine W.exit ?_;have bg:=M.e_inr hM aT;subst bg;replace hM:=aY;(try dsimp only at hM);replace H:=H.pk [0,3];refine kg 3 ?_;refine t_sw 1 0 [I s7,I s8] (.agg #[I s7,I s8]) H rfl rfl Sz30 rfl rfl rfl rfl ?_;intro bW H;refine s_nil ?_;refine W.ret ?_;have bh:=(H.bl 1)
 have bi:=M.e_pure hM;exact ⟨_,(resE_of1 (v:=.agg #[I s7,I s8]) rfl (.cell (v:=.agg #[I s7,I s8]) rfl (run_loadVar_ag (ds:=[I s7,I s8]) Ag30 Sz30 bh rfl rfl)<|.nil)),⟨s7,s8,bi,rfl,(H.pk [])⟩⟩

def zcY (s_Sections:List Sect) (s_Marks:List Mrk) (s_Reaches:List Rch) (marks:List Int) (reach:Int):M (Int × Int × Int) :=
  M.bind (za1 s_Sections s_Marks s_Reaches marks reach) fun r2 =>
  bif r2 != 0 then (
  M.pure (0,0,r2))
  else (
  M.grd (decide ((0:Int)<=reach)&&decide (reach<(s_Reaches.length:Int))) <|
  M.bind (za8 s_Sections s_Marks s_Reaches marks (s_Reaches.getD (Int.toNat reach) default)) fun (r0,r1) =>
  M.pure (r0,r1,0))
theorem ze3 {R:List Chunk} {al:Cells} {ac:Value} {am:Cells} {ae:Value} {ao:Cells} {ag:Value} {ap:Cells} {aj:Value} (s_Sections:List Sect) (s_Marks:List Mrk) (s_Reaches:List Rch) (marks:List Int) (reach:Int) (aq:Reads R al) (au:Sl al ac s_Sections) (av:Reads R am) (aw:Sl am ae s_Marks) (ax:Reads R ao) (ay:Sl ao ag s_Reaches) (az:Reads R ap) (aA:Sl ap aj marks) {r:(Int × Int × Int)} (hM:(zcY s_Sections s_Marks s_Reaches marks reach).Ends r) (w:World) (H:St w w [] R):Ret Tryz.prog 36 #[.agg #[ac,ae,ag],aj,I reach] w fun v w'=>∃ (y0:Int) (y1:Int) (y2:Int),(y0,y1,y2)=r/\v = .tuple #[.agg #[I y0,I y1],I y2]/\St w w' [] R:=by
 refine ret_of_W Tryz.func36 rfl rfl rfl ?_;refine kg 2 ?_;refine t_bx [ac,ae,ag] H rfl ?_;intro aC aH H;refine t_alloc (cs:=[I 0,I 0]) H Al30 rfl ?_;intro aI aJ H;refine kg 8 ?_;obtain ⟨aK,aD,hM⟩:=M.e_bind hM;refine s_call cf81 [.agg #[ac,ae,ag],aj,I reach] rfl (zdR s_Sections s_Marks s_Reaches marks reach (aq.app _) au (av.app _) aw (ax.app _) ay (az.app _) aA aD _ (H.gt 2)) ?_;rintro vq aL ⟨r2,rfl,hvq,ai⟩;subst vq;(try dsimp only at hM);replace H:=H.bk ai;clear ai;refine kg 7 ?_;refine W.cond (r2 != 0) rfl (fun ab=>?_) (fun ab=>?_)
 ·replace hM:=M.e_t hM ab;replace ab:=dI ab;refine kg 2 ?_;refine s_val (x_bld (ps:=[]) (zs:=[I 0,I 0]) (L':=[I 0,I 0]) rfl Tryz.underlying30 Al30 rfl (Bd30 Tryz.underlying30) (.nil)) ?_;refine kg 1 ?_;refine t_sw 0 0 [I 0,I 0] (.agg #[I 0,I 0]) H rfl rfl Sz30 rfl rfl rfl rfl ?_;intro aM H;refine kg 2 ?_;refine W.ret ?_;have aE:=(H.bl 0)
  have ak:=M.e_pure hM;exact ⟨_,(resE_ofn (vs:=[.agg #[I 0,I 0],I r2]) rfl rfl (.cell (v:=.agg #[I 0,I 0]) rfl (run_loadVar_ag (ds:=[I 0,I 0]) Ag30 Sz30 aE rfl rfl)<|.tmp (v:=I r2) rfl<|.nil)),⟨0,0,r2,ak,rfl,(H.pk [])⟩⟩
 replace hM:=M.e_f hM ab;replace ab:=dI ab;refine kg 2 ?_;refine W.draw (fun W=>St w W [cBlk aC [ac,ae,ag] 61] R) [(0,true),(1,true),(2,true),(3,true),(4,true),(5,true),(6,true),(7,false),(8,false),(9,true)] mixed (by decide +kernel) rfl ?_;intro aN aB;replace H:=H.ext aB;clear aB;refine ⟨(H.pk [1]),?_⟩;obtain ⟨aO,hM⟩:=M.e_gd hM;refine kg 7 ?_;refine d_l rfl ?_;obtain ⟨aP,aF,hM⟩:=M.e_bind hM;refine s_call cf82 [.agg #[ac,ae,ag],aj,.agg #[I ((s_Reaches.getD (Int.toNat reach) default).up),I ((s_Reaches.getD (Int.toNat reach) default).down),I ((s_Reaches.getD (Int.toNat reach) default).lo),I ((s_Reaches.getD (Int.toNat reach) default).hi),B ((s_Reaches.getD (Int.toNat reach) default).narrow)]] rfl (zcP s_Sections s_Marks s_Reaches marks (s_Reaches.getD (Int.toNat reach) default) (aq.app _) au (av.app _) aw (ax.app _) ay (az.app _) aA aF _ (H.gt 2)) ?_;rintro vq aQ ⟨r0,r1,rfl,hvq,ai⟩;subst vq;(try dsimp only at hM);replace H:=H.bk ai;clear ai;refine s_nil ⟨(H.pk [1]),?_⟩;refine d_l rfl ?_;refine t_sw 0 0 [I r0,I r1] (.agg #[I r0,I r1]) H rfl rfl Sz30 rfl rfl rfl rfl ?_;intro aR H;refine s_nil ⟨(H.pk [1]),?_⟩;refine kg 2 ?_;refine W.ret ?_;have aG:=(H.bl 0)
 have ak:=M.e_pure hM;exact ⟨_,(resE_ofn (vs:=[.agg #[I r0,I r1],I 0]) rfl rfl (.cell (v:=.agg #[I r0,I r1]) rfl (run_loadVar_ag (ds:=[I r0,I r1]) Ag30 Sz30 aG rfl rfl)<|.tmp (v:=I 0) rfl<|.nil)),⟨r0,r1,0,ak,rfl,(H.pk [])⟩⟩

def zcp (s_Sections:List Sect) (s_Marks:List Mrk) (s_Reaches:List Rch) (marks:List Int) (reach:Int) (most:Bool):M (Int × Int × Int × Int × Int) :=
  M.bind (zav s_Sections s_Marks s_Reaches marks reach) fun x_=>match x_ with
  | (.inl (ap,aq,au,av,aw,r2))=>(
  bif r2 != 0 then (
  M.pure (0,0,0,0,r2))
  else (
  M.fail))
  | (.inr (ai,aj,ak,al,am,ao))=>(
  bif ao != 0 then (
  M.fail)
  else (
  M.bind (zaq s_Sections s_Marks s_Reaches marks) fun r3 =>
  bif !r3 then (
  M.pure (0,0,0,0,7))
  else (
  M.bind (zco) fun (_:Unit) =>
  bif most then (
  M.bind (zbH) fun (_:Unit) =>
  M.bind (zbi s_Sections s_Marks s_Reaches marks (⟨(ai:Int),(aj:Int),(ak:Int),(al:Int),am⟩:Rch)) fun (ab,ac,ae,ag,r1) =>
  M.pure (ab,ac,ae,ag,0))
  else (
  M.bind (zbf s_Sections s_Marks s_Reaches marks (⟨(ai:Int),(aj:Int),(ak:Int),(al:Int),am⟩:Rch)) fun (ab,ac,ae,ag,r1) =>
  M.pure (ab,ac,ae,ag,0)))))
theorem zfh {R:List Chunk} {aK:Cells} {aw:Value} {aL:Cells} {ax:Value} {aM:Cells} {ay:Value} {aN:Cells} {ak:Value} (s_Sections:List Sect) (s_Marks:List Mrk) (s_Reaches:List Rch) (marks:List Int) (reach:Int) (most:Bool) (az:Reads R aK) (aA:Sl aK aw s_Sections) (aB:Reads R aL) (aC:Sl aL ax s_Marks) (aD:Reads R aM) (aE:Sl aM ay s_Reaches) (aF:Reads R aN) (aG:Sl aN ak marks) {r:(Int × Int × Int × Int × Int)} (hM:(zcp s_Sections s_Marks s_Reaches marks reach most).Ends r) (w:World) (H:St w w [] R):Ret Tryz.prog 37 #[.agg #[aw,ax,ay],ak,I reach,B most] w fun v w'=>∃ (y0:Int) (y1:Int) (y2:Int) (y3:Int) (y4:Int),(y0,y1,y2,y3,y4)=r/\v = .tuple #[.agg #[I y0,I y1,I y2,I y3],I y4]/\St w w' [] R:=by
 refine ret_of_W Tryz.func37 rfl rfl rfl ?_;refine kg 2 ?_;refine t_bx [aw,ax,ay] H rfl ?_;intro bh bi H;refine t_alloc (cs:=[I 0,I 0,I 0,I 0]) H Al36 rfl ?_;intro bj bm H;refine kg 7 ?_;obtain ⟨bn,aT,hM⟩:=M.e_bind hM;refine s_call cf79 [.agg #[aw,ax,ay],ak,I reach] rfl (zdi s_Sections s_Marks s_Reaches marks reach (az.app _) aA (aB.app _) aC (aD.app _) aE (aF.app _) aG aT _ (H.gt 2)) ?_;rintro vq bo (⟨aO,aP,aQ,aR,aS,r2,aU,hvq,ab⟩ | ⟨al,am,ao,ap,aq,aV,aH,bp,aW,hvq,ab⟩)
 ·subst aU;subst vq;(try dsimp only at hM);replace H:=H.bk ab;clear ab;refine kg 4 ?_;refine t_alloc (cs:=[I 0,I 0,I 0,I 0,B false]) H Al44 rfl ?_;intro aX br H;refine kg 1 ?_;refine t_sw 0 0 [I aO,I aP,I aQ,I aR,B aS] (.agg #[I aO,I aP,I aQ,I aR,B aS]) H rfl rfl Sz44 rfl rfl rfl rfl ?_;intro bt H;refine kg 10 ?_;refine W.cond (r2 != 0) rfl (fun au=>?_) (fun au=>?_)
  ·replace hM:=M.e_t hM au;replace au:=dI au;refine kg 2 ?_;refine s_val (x_bld (ps:=[]) (zs:=[I 0,I 0,I 0,I 0]) (L':=[I 0,I 0,I 0,I 0]) rfl Tryz.underlying36 Al36 rfl (Bd36 Tryz.underlying36) (.nil)) ?_;refine kg 1 ?_;refine t_sw 1 0 [I 0,I 0,I 0,I 0] (.agg #[I 0,I 0,I 0,I 0]) H rfl rfl Sz36 rfl rfl rfl rfl ?_;intro bu H;refine kg 2 ?_;replace H:=H.pk [1];refine W.ret ?_;have aY:=(H.bl 0)
   have aj:=M.e_pure hM;exact ⟨_,(resE_ofn (vs:=[.agg #[I 0,I 0,I 0,I 0],I r2]) rfl rfl (.cell (v:=.agg #[I 0,I 0,I 0,I 0]) rfl (run_loadVar_ag (ds:=[I 0,I 0,I 0,I 0]) Ag36 Sz36 aY rfl rfl)<|.tmp (v:=I r2) rfl<|.nil)),⟨0,0,0,0,r2,aj,rfl,(H.pk [])⟩⟩
  replace hM:=M.e_f hM au;exact (M.e_fail hM).elim
 subst aW;subst vq;(try dsimp only at hM);replace H:=H.bk ab;clear ab;refine kg 4 ?_;refine t_alloc (cs:=[I 0,I 0,I 0,I 0,B false]) H Al44 rfl ?_;intro aX bv H;refine kg 1 ?_;refine t_sw 0 0 [I al,I am,I ao,I ap,B aq] (.agg #[I al,I am,I ao,I ap,B aq]) H rfl rfl Sz44 rfl rfl rfl rfl ?_;intro bw H;refine kg 10 ?_;refine W.cond (aV != 0) rfl (fun av=>?_) (fun av=>?_)
 ·replace hM:=M.e_t hM av;exact (M.e_fail hM).elim
 replace hM:=M.e_f hM av;replace av:=dI av;refine kg 4 ?_;obtain ⟨bx,aZ,hM⟩:=M.e_bind hM;refine s_call cf73 [Pq aH,ak] rfl (zbw s_Sections s_Marks s_Reaches marks (az.app _) aA (aB.app _) aC (aD.app _) aE (Has.here (k:=1) rfl) (aF.app _) aG aZ _ (H.gt 5)) ?_;rintro vq bz ⟨r3,rfl,hvq,ab⟩;subst vq;(try dsimp only at hM);replace H:=H.bk ab;clear ab;refine kg 3 ?_;refine W.cond (!r3) rfl (fun aI=>?_) (fun aI=>?_)
 ·replace hM:=M.e_t hM aI;refine kg 2 ?_;refine s_val (x_bld (ps:=[]) (zs:=[I 0,I 0,I 0,I 0]) (L':=[I 0,I 0,I 0,I 0]) rfl Tryz.underlying36 Al36 rfl (Bd36 Tryz.underlying36) (.nil)) ?_;refine t_sw 3 0 [I 0,I 0,I 0,I 0] (.agg #[I 0,I 0,I 0,I 0]) H rfl rfl Sz36 rfl rfl rfl rfl ?_;intro bA H;refine kg 2 ?_;replace H:=H.pk [3];refine W.ret ?_;have a6:=(H.bl 0)
  have aj:=M.e_pure hM;exact ⟨_,(resE_ofn (vs:=[.agg #[I 0,I 0,I 0,I 0],I 7]) rfl rfl (.cell (v:=.agg #[I 0,I 0,I 0,I 0]) rfl (run_loadVar_ag (ds:=[I 0,I 0,I 0,I 0]) Ag36 Sz36 a6 rfl rfl)<|.tmp (v:=I 7) rfl<|.nil)),⟨0,0,0,0,7,aj,rfl,(H.pk [])⟩⟩
 replace hM:=M.e_f hM aI;refine kg 3 ?_;obtain ⟨bB,a7,hM⟩:=M.e_bind hM;refine s_call cf83 [] rfl (zdA a7 _ (H.gt 5)) ?_;rintro vq bC ⟨rfl,hvq,ab⟩;subst vq;(try dsimp only at hM);replace H:=H.bk ab;clear ab;refine t_alloc (cs:=[.nilFunc]) H Al152 rfl ?_;intro bD bE H;refine t_sw 0 0 [.func (.func 109) #[] #[]] (.agg #[.func (.func 109) #[] #[]]) H rfl rfl Sz152 rfl rfl rfl rfl ?_;intro bF H;refine kg 6 ?_;refine W.cond most rfl (fun aJ=>?_) (fun aJ=>?_)
 ·replace hM:=M.e_t hM aJ;refine W.region rfl ?_;obtain ⟨bG,a8,hM⟩:=M.e_bind hM;refine s_call cf84 [] rfl (zaI a8 _ (H.gt 6)) ?_;rintro vq bH ⟨rfl,hvq,ab⟩;subst vq;(try dsimp only at hM);replace H:=H.bk ab;clear ab;refine t_sw 0 0 [.func (.func 110) #[] #[]] (.agg #[.func (.func 110) #[] #[]]) H rfl rfl Sz152 rfl rfl rfl rfl ?_;intro bI H;refine kg 7 ?_;obtain ⟨bJ,ba,hM⟩:=M.e_bind hM;refine s_call cf85 [Pq aH,ak,.agg #[I al,I am,I ao,I ap,B aq],.agg #[.func (.func 110) #[] #[]]] rfl (zap s_Sections s_Marks s_Reaches marks (⟨(al:Int),(am:Int),(ao:Int),(ap:Int),aq⟩:Rch) (az.app _) aA (aB.app _) aC (aD.app _) aE (Has.here (k:=2) rfl) (aF.app _) aG ba _ ((H.pk [3,0,1,2,4,5]).gt 5)) ?_;rintro vq bK ⟨ac,ae,ag,ai,r1,rfl,hvq,ab⟩;subst vq;(try dsimp only at hM);replace H:=H.pk [3,0,1,2,4,5] |>.bk ab
  clear ab;refine kg 3 ?_;refine t_alloc (cs:=[I 0,I 0,I 0,I 0]) H Al36 rfl ?_;intro bb bL H;refine t_sw 0 0 [I ac,I ae,I ag,I ai] (.agg #[I ac,I ae,I ag,I ai]) H rfl rfl Sz36 rfl rfl rfl rfl ?_;intro bM H;refine kg 2 ?_;replace H:=H.pk [0,5];refine kg 3 ?_;refine t_sw 1 0 [I ac,I ae,I ag,I ai] (.agg #[I ac,I ae,I ag,I ai]) H rfl rfl Sz36 rfl rfl rfl rfl ?_;intro bN H;refine kg 2 ?_;refine W.ret ?_;have bc:=(H.bl 1)
  have aj:=M.e_pure hM;exact ⟨_,(resE_ofn (vs:=[.agg #[I ac,I ae,I ag,I ai],I 0]) rfl rfl (.cell (v:=.agg #[I ac,I ae,I ag,I ai]) rfl (run_loadVar_ag (ds:=[I ac,I ae,I ag,I ai]) Ag36 Sz36 bc rfl rfl)<|.tmp (v:=I 0) rfl<|.nil)),⟨ac,ae,ag,ai,0,aj,rfl,(H.pk [])⟩⟩
 replace hM:=M.e_f hM aJ;refine kg 7 ?_;obtain ⟨bO,bf,hM⟩:=M.e_bind hM;refine s_call cf85 [Pq aH,ak,.agg #[I al,I am,I ao,I ap,B aq],.agg #[.func (.func 109) #[] #[]]] rfl (zc0 s_Sections s_Marks s_Reaches marks (⟨(al:Int),(am:Int),(ao:Int),(ap:Int),aq⟩:Rch) (az.app _) aA (aB.app _) aC (aD.app _) aE (Has.here (k:=2) rfl) (aF.app _) aG bf _ ((H.pk [3,0,1,2,4,5]).gt 5)) ?_;rintro vq bP ⟨ac,ae,ag,ai,r1,rfl,hvq,ab⟩;subst vq;(try dsimp only at hM);replace H:=H.pk [3,0,1,2,4,5] |>.bk ab
 clear ab;refine kg 3 ?_;refine t_alloc (cs:=[I 0,I 0,I 0,I 0]) H Al36 rfl ?_;intro bb bQ H;refine t_sw 0 0 [I ac,I ae,I ag,I ai] (.agg #[I ac,I ae,I ag,I ai]) H rfl rfl Sz36 rfl rfl rfl rfl ?_;intro bR H;refine kg 2 ?_;replace H:=H.pk [0,5];refine kg 3 ?_;refine t_sw 1 0 [I ac,I ae,I ag,I ai] (.agg #[I ac,I ae,I ag,I ai]) H rfl rfl Sz36 rfl rfl rfl rfl ?_;intro bS H;refine kg 2 ?_;refine W.ret ?_;have bg:=(H.bl 1)
 have aj:=M.e_pure hM;exact ⟨_,(resE_ofn (vs:=[.agg #[I ac,I ae,I ag,I ai],I 0]) rfl rfl (.cell (v:=.agg #[I ac,I ae,I ag,I ai]) rfl (run_loadVar_ag (ds:=[I ac,I ae,I ag,I ai]) Ag36 Sz36 bg rfl rfl)<|.tmp (v:=I 0) rfl<|.nil)),⟨ac,ae,ag,ai,0,aj,rfl,(H.pk [])⟩⟩

def zbu (s_Sections:List Sect) (s_Marks:List Mrk) (s_Reaches:List Rch) (marks:List Int) (reach:Int) (c:Cas):Nat->M (Nat ⊕ (Unit ⊕ Unit)):=fun i =>
  bif decide ((i:Int)<(marks.length:Int)) then (
  M.grd (decide ((i:Int)<(marks.length:Int))) <|
  M.grd (decide ((0:Int)<=(marks.getD i 0))&&decide ((marks.getD i 0)<(s_Marks.length:Int))) <|
  M.bind (zau (⟨((s_Sections.getD (Int.toNat ((s_Reaches.getD (Int.toNat reach) default).up)) default).place:Int),(c.up:Int),(c.up:Int)⟩:Mrk) (s_Marks.getD (Int.toNat (marks.getD i 0)) default)) fun r3 =>
  M.bind (M.opt (!r3) (zau (⟨((s_Sections.getD (Int.toNat ((s_Reaches.getD (Int.toNat reach) default).down)) default).place:Int),(c.down:Int),(c.down:Int)⟩:Mrk) (s_Marks.getD (Int.toNat (marks.getD i 0)) default)) false) fun r4 =>
  bif (r3||r4) then (
  M.pure (.inr (.inl ())))
  else (
  M.pure (.inl (i+1))))
  else (
  M.pure (.inr (.inr ())))
def zdo (s_Sections:List Sect) (s_Marks:List Mrk) (s_Reaches:List Rch) (marks:List Int) (reach:Int) (c:Cas):M Bool :=
  M.bind (M.iter (zbu s_Sections s_Marks s_Reaches marks reach c) 0) fun x_=>match x_ with
  | (.inl (_:Unit))=>(
  M.pure false)
  | (.inr (_:Unit))=>(
  M.pure true)
def zcL (s_Sections:List Sect) (s_Marks:List Mrk) (s_Reaches:List Rch) (marks:List Int) (reach:Int) (c:Cas):M Bool :=
  M.grd (decide ((0:Int)<=reach)&&decide (reach<(s_Reaches.length:Int))) <|
  M.bind (zbP (s_Reaches.getD (Int.toNat reach) default) c) fun r2 =>
  bif r2 then (
  M.pure false)
  else (
  M.grd (decide ((0:Int)<=((s_Reaches.getD (Int.toNat reach) default).up))&&decide (((s_Reaches.getD (Int.toNat reach) default).up)<(s_Sections.length:Int))) <|
  M.grd (decide ((0:Int)<=((s_Reaches.getD (Int.toNat reach) default).down))&&decide (((s_Reaches.getD (Int.toNat reach) default).down)<(s_Sections.length:Int))) <|
  zdo s_Sections s_Marks s_Reaches marks reach c)
theorem zeY {R:List Chunk} {ax:Cells} {ae:Value} {ay:Cells} {ag:Value} {az:Cells} {ai:Value} {aA:Cells} {ap:Value} (s_Sections:List Sect) (s_Marks:List Mrk) (s_Reaches:List Rch) (marks:List Int) (reach:Int) (c:Cas) (aP:Reads R ax) (aQ:Sl ax ae s_Sections) (aR:Reads R ay) (aS:Sl ay ag s_Marks) (aT:Reads R az) (aU:Sl az ai s_Reaches) (aV:Reads R aA) (aF:Sl aA ap marks) {r:Bool} (hM:(zcL s_Sections s_Marks s_Reaches marks reach c).Ends r) (w:World) (H:St w w [] R):Ret Tryz.prog 38 #[.agg #[ae,ag,ai],ap,I reach,.agg #[I c.up,I c.down,I c.roughup,I c.roughdown]] w fun v w'=>∃ (y0:Bool),y0=r/\v=B y0/\St w w' [] R:=by
 refine ret_of_W Tryz.func38 rfl rfl rfl ?_;refine kg 2 ?_;refine t_bx [ae,ag,ai] H rfl ?_;intro al aW H;refine t_bx [I c.up,I c.down,I c.roughup,I c.roughdown] H rfl ?_;intro aB aX H;obtain ⟨aY,hM⟩:=M.e_gd hM;refine kg 9 ?_;refine t_alloc (cs:=[I 0,I 0,I 0,I 0,B false]) H Al118 rfl ?_;intro aC aZ H;refine t_sw 0 0 [I ((s_Reaches.getD (Int.toNat reach) default).up),I ((s_Reaches.getD (Int.toNat reach) default).down),I ((s_Reaches.getD (Int.toNat reach) default).lo),I ((s_Reaches.getD (Int.toNat reach) default).hi),B ((s_Reaches.getD (Int.toNat reach) default).narrow)] (.agg #[I ((s_Reaches.getD (Int.toNat reach) default).up),I ((s_Reaches.getD (Int.toNat reach) default).down),I ((s_Reaches.getD (Int.toNat reach) default).lo),I ((s_Reaches.getD (Int.toNat reach) default).hi),B ((s_Reaches.getD (Int.toNat reach) default).narrow)]) H rfl rfl Sz118 rfl rfl rfl rfl ?_;intro a6 H;refine kg 6 ?_;obtain ⟨a7,aG,hM⟩:=M.e_bind hM;refine s_call cf77 [.agg #[I ((s_Reaches.getD (Int.toNat reach) default).up),I ((s_Reaches.getD (Int.toNat reach) default).down),I ((s_Reaches.getD (Int.toNat reach) default).lo),I ((s_Reaches.getD (Int.toNat reach) default).hi),B ((s_Reaches.getD (Int.toNat reach) default).narrow)],.agg #[I c.up,I c.down,I c.roughup,I c.roughdown]] rfl (zed (s_Reaches.getD (Int.toNat reach) default) c aG _ (H.gt 3)) ?_;rintro vq a8 ⟨r2,rfl,hvq,am⟩;subst vq;(try dsimp only at hM);replace H:=H.bk am;clear am;refine s_nil ?_;refine W.cond r2 rfl (fun aq=>?_) (fun aq=>?_)
 ·replace hM:=M.e_t hM aq;refine kg 4 ?_;replace H:=H.pk [];refine W.ret ?_;have aj:=M.e_pure hM;exact ⟨_,resE_tmp rfl,⟨false,aj,rfl,H⟩⟩
 replace hM:=M.e_f hM aq;refine W.skip ?_;refine W.seqJ (fun σ W=>∃ (ab:Nat) (ac:Nat) (ρ:Env),σ=upds ρ [(1,ap),(4,Pq al),(10,Pq ab),(11,Pq ac)]/\(zdo s_Sections s_Marks s_Reaches marks reach c).Ends r/\St w W [cBlk ac [I ((s_Sections.getD (Int.toNat ((s_Reaches.getD (Int.toNat reach) default).down)) default).place),I c.down,I c.down] 117,cBlk ab [I ((s_Sections.getD (Int.toNat ((s_Reaches.getD (Int.toNat reach) default).up)) default).place),I c.up,I c.up] 117,cBlk aC [I ((s_Reaches.getD (Int.toNat reach) default).up),I ((s_Reaches.getD (Int.toNat reach) default).down),I ((s_Reaches.getD (Int.toNat reach) default).lo),I ((s_Reaches.getD (Int.toNat reach) default).hi),B ((s_Reaches.getD (Int.toNat reach) default).narrow)] 118,cBlk aB [I c.up,I c.down,I c.roughup,I c.roughdown] 86,cBlk al [ae,ag,ai] 61] R) ?_ ?_
 ·skip
  refine W.drawT (fun W=>St w W [cBlk aC [I ((s_Reaches.getD (Int.toNat reach) default).up),I ((s_Reaches.getD (Int.toNat reach) default).down),I ((s_Reaches.getD (Int.toNat reach) default).lo),I ((s_Reaches.getD (Int.toNat reach) default).hi),B ((s_Reaches.getD (Int.toNat reach) default).narrow)] 118,cBlk aB [I c.up,I c.down,I c.roughup,I c.roughdown] 86,cBlk al [ae,ag,ai] 61] R) (.q 0 (.q 1 (.q 2 (.q 3 (.q 4 (.q 5 (.q 6 (.q 7 (.q 8 (.q 9 (.q 10 (.q 11 (.q 12 (.q 13 (.q 14 (.q 15 (.q 16 (.q 17 (.q 18 (.q 19 (.q 20 (.q 21 (.q 22 (.q 23 (.q 24 (.q 25 (.l2 26 (.l 27 (.l 28 (.l 29 .nil))) 27 (.l 26 (.l 28 (.l 29 .nil)))))))))))))))))))))))))))))) mixed (by decide +kernel) rfl ?_;intro ba ao;replace H:=H.ext ao;clear ao;refine ⟨(H.pk [0,1,2]),?_⟩;obtain ⟨bb,hM⟩:=M.e_gd hM;refine kg 11 ?_;refine t_q rfl (fun w' H=>x_bld (ps:=[(0,I c.up),(1,I c.up)]) (zs:=[I 0,I 0]) (L':=[I c.up,I c.up]) rfl Tryz.underlying30 Al30 rfl (Bd30 Tryz.underlying30) (.cons (cs:=[I c.up]) rfl rfl rfl rfl rfl<|.cons (cs:=[I c.up]) rfl rfl rfl rfl rfl<|.nil))<|t_q rfl (fun w' H=>x_bld (ps:=[(0,I ((s_Sections.getD (Int.toNat ((s_Reaches.getD (Int.toNat reach) default).up)) default).place)),(1,.agg #[I c.up,I c.up])]) (zs:=[I 0,I 0,I 0]) (L':=[I ((s_Sections.getD (Int.toNat ((s_Reaches.getD (Int.toNat reach) default).up)) default).place),I c.up,I c.up]) rfl Tryz.underlying117 Al117 rfl (Bd117 Tryz.underlying117) (.cons (cs:=[I ((s_Sections.getD (Int.toNat ((s_Reaches.getD (Int.toNat reach) default).up)) default).place)]) rfl rfl rfl rfl rfl<|.cons (cs:=[I c.up,I c.up]) rfl rfl rfl rfl rfl<|.nil)) ?_;obtain ⟨bc,hM⟩:=M.e_gd hM;refine kg 11 ?_;refine t_q rfl (fun w' H=>x_bld (ps:=[(0,I c.down),(1,I c.down)]) (zs:=[I 0,I 0]) (L':=[I c.down,I c.down]) rfl Tryz.underlying30 Al30 rfl (Bd30 Tryz.underlying30) (.cons (cs:=[I c.down]) rfl rfl rfl rfl rfl<|.cons (cs:=[I c.down]) rfl rfl rfl rfl rfl<|.nil))<|t_q rfl (fun w' H=>x_bld (ps:=[(0,I ((s_Sections.getD (Int.toNat ((s_Reaches.getD (Int.toNat reach) default).down)) default).place)),(1,.agg #[I c.down,I c.down])]) (zs:=[I 0,I 0,I 0]) (L':=[I ((s_Sections.getD (Int.toNat ((s_Reaches.getD (Int.toNat reach) default).down)) default).place),I c.down,I c.down]) rfl Tryz.underlying117 Al117 rfl (Bd117 Tryz.underlying117) (.cons (cs:=[I ((s_Sections.getD (Int.toNat ((s_Reaches.getD (Int.toNat reach) default).down)) default).place)]) rfl rfl rfl rfl rfl<|.cons (cs:=[I c.down,I c.down]) rfl rfl rfl rfl rfl<|.nil)) ?_;refine t_l2 rfl rfl ?_ ?_
  ·skip
   refine t_alloc (cs:=[I 0,I 0,I 0]) H Al117 rfl ?_;intro ab bf H;refine s_nil ⟨(H.pk [1,2,3]),?_⟩;refine t_l rfl ?_;refine t_alloc (cs:=[I 0,I 0,I 0]) H Al117 rfl ?_;intro ac bg H;refine s_nil ⟨(H.pk [2,3,4]),?_⟩;refine t_l rfl ?_;refine t_sw 1 0 [I ((s_Sections.getD (Int.toNat ((s_Reaches.getD (Int.toNat reach) default).up)) default).place),I c.up,I c.up] (.agg #[I ((s_Sections.getD (Int.toNat ((s_Reaches.getD (Int.toNat reach) default).up)) default).place),I c.up,I c.up]) H rfl rfl Sz117 rfl rfl rfl rfl ?_;intro bh H;refine s_nil ⟨(H.pk [2,3,4]),?_⟩;refine t_l rfl ?_;refine t_sw 0 0 [I ((s_Sections.getD (Int.toNat ((s_Reaches.getD (Int.toNat reach) default).down)) default).place),I c.down,I c.down] (.agg #[I ((s_Sections.getD (Int.toNat ((s_Reaches.getD (Int.toNat reach) default).down)) default).place),I c.down,I c.down]) H rfl rfl Sz117 rfl rfl rfl rfl ?_;intro bi H;refine s_nil ⟨(H.pk [2,3,4]),?_⟩;refine t_nil ?_;exact ⟨ab,ac,_,upds_of _ _ ⟨rfl,rfl,rfl,rfl,trivial⟩,hM,H⟩
  skip
  refine t_alloc (cs:=[I 0,I 0,I 0]) H Al117 rfl ?_;intro ac bj H;refine s_nil ⟨(H.pk [1,2,3]),?_⟩;refine t_l rfl ?_;refine t_alloc (cs:=[I 0,I 0,I 0]) H Al117 rfl ?_;intro ab bm H;refine s_nil ⟨(H.pk [2,3,4]),?_⟩;refine t_l rfl ?_;refine t_sw 0 0 [I ((s_Sections.getD (Int.toNat ((s_Reaches.getD (Int.toNat reach) default).up)) default).place),I c.up,I c.up] (.agg #[I ((s_Sections.getD (Int.toNat ((s_Reaches.getD (Int.toNat reach) default).up)) default).place),I c.up,I c.up]) H rfl rfl Sz117 rfl rfl rfl rfl ?_;intro bn H;refine s_nil ⟨(H.pk [2,3,4]),?_⟩;refine t_l rfl ?_;refine t_sw 1 0 [I ((s_Sections.getD (Int.toNat ((s_Reaches.getD (Int.toNat reach) default).down)) default).place),I c.down,I c.down] (.agg #[I ((s_Sections.getD (Int.toNat ((s_Reaches.getD (Int.toNat reach) default).down)) default).place),I c.down,I c.down]) H rfl rfl Sz117 rfl rfl rfl rfl ?_;intro bo H;refine s_nil ⟨(H.pk [2,3,4]),?_⟩;refine t_nil ?_;exact ⟨ab,ac,_,upds_of _ _ ⟨rfl,rfl,rfl,rfl,trivial⟩,hM,(H.pk [1,0,2,3,4])⟩
 rintro _ bp ⟨ab,ac,ρ,rfl,hM,H⟩;unfold zdo at hM;refine kg 5 ?_;replace H:=H.pk [0,1,4];refine W.block ?_;obtain ⟨aH,au,aD⟩:=M.e_bind hM;obtain ⟨br,au⟩:=M.e_iter au;refine W.loop (fun m σ W=>∃ (i:Nat) (ρ:Env),σ=upds ρ [(1,ap),(4,Pq al),(10,Pq ab),(11,Pq ac),(12,I (i:Int))]/\M.iterN (zbu s_Sections s_Marks s_Reaches marks reach c) m i=some aH/\St w W [cBlk ac [I ((s_Sections.getD (Int.toNat ((s_Reaches.getD (Int.toNat reach) default).down)) default).place),I c.down,I c.down] 117,cBlk ab [I ((s_Sections.getD (Int.toNat ((s_Reaches.getD (Int.toNat reach) default).up)) default).place),I c.up,I c.up] 117,cBlk al [ae,ag,ai] 61] R) ?_ ?_
 ·exact ⟨_,0,_,upds_of _ _ ⟨rfl,rfl,rfl,rfl,rfl,trivial⟩,au,H⟩
 rintro bt σ bu ⟨i,ρ,rfl,aE,H⟩;obtain ⟨aI,aJ,bv,hM,av⟩:=M.e_iterN aE;simp only [zbu] at hM;clear aE;have bw:=(aF).len_le;refine kg 8 ?_;refine W.cond (decide ((i:Int)<(marks.length:Int))) rfl (fun ak=>?_) (fun ak=>?_)
 ·replace hM:=M.e_t hM ak;replace ak:=dI ak;refine kg 4 ?_;refine W.draw (fun W=>St w W [cBlk ac [I ((s_Sections.getD (Int.toNat ((s_Reaches.getD (Int.toNat reach) default).down)) default).place),I c.down,I c.down] 117,cBlk ab [I ((s_Sections.getD (Int.toNat ((s_Reaches.getD (Int.toNat reach) default).up)) default).place),I c.up,I c.up] 117,cBlk al [ae,ag,ai] 61] R) [(0,true),(1,true),(2,true),(3,true),(4,true),(5,true),(6,true),(7,true),(8,true),(9,false),(10,true),(11,true),(12,true),(13,true),(14,true),(15,true),(16,true),(17,true),(18,true),(19,true),(20,false),(21,true)] mixed (by decide +kernel) rfl ?_;intro bx ao;replace H:=H.ext ao;clear ao;refine ⟨(H.pk [0,1,2]),?_⟩;obtain ⟨bz,hM⟩:=M.e_gd hM;obtain ⟨bA,hM⟩:=M.e_gd hM;refine kg 9 ?_;refine d_l rfl ?_;obtain ⟨bB,aK,hM⟩:=M.e_bind hM;refine s_call cf62 [.agg #[I ((s_Sections.getD (Int.toNat ((s_Reaches.getD (Int.toNat reach) default).up)) default).place),I c.up,I c.up],.agg #[I ((s_Marks.getD (Int.toNat (marks.getD i 0)) default).place),I ((s_Marks.getD (Int.toNat (marks.getD i 0)) default).lo),I ((s_Marks.getD (Int.toNat (marks.getD i 0)) default).hi)]] rfl (zbe (⟨((s_Sections.getD (Int.toNat ((s_Reaches.getD (Int.toNat reach) default).up)) default).place:Int),(c.up:Int),(c.up:Int)⟩:Mrk) (s_Marks.getD (Int.toNat (marks.getD i 0)) default) aK _ (H.gt 3)) ?_;rintro vq bC ⟨r3,rfl,hvq,am⟩;subst vq;(try dsimp only at hM);replace H:=H.bk am;clear am;refine s_nil ⟨(H.pk [0,1,2]),?_⟩;refine kg 10 ?_;refine d_l rfl ?_;obtain ⟨r4,aL,hM⟩:=M.e_bind hM;refine t_gcall (!r3) (gy_f rfl) cf62 (B r4) (fun _=>[.agg #[I ((s_Sections.getD (Int.toNat ((s_Reaches.getD (Int.toNat reach) default).down)) default).place),I c.down,I c.down],.agg #[I ((s_Marks.getD (Int.toNat (marks.getD i 0)) default).place),I ((s_Marks.getD (Int.toNat (marks.getD i 0)) default).lo),I ((s_Marks.getD (Int.toNat (marks.getD i 0)) default).hi)]]) (fun hg=>lst2 (gd_of hg (.agg #[I ((s_Sections.getD (Int.toNat ((s_Reaches.getD (Int.toNat reach) default).down)) default).place),I c.down,I c.down])) (gd_of hg (.agg #[I ((s_Marks.getD (Int.toNat (marks.getD i 0)) default).place),I ((s_Marks.getD (Int.toNat (marks.getD i 0)) default).lo),I ((s_Marks.getD (Int.toNat (marks.getD i 0)) default).hi)]))) H (fun hg=>(zbe (⟨((s_Sections.getD (Int.toNat ((s_Reaches.getD (Int.toNat reach) default).down)) default).place:Int),(c.down:Int),(c.down:Int)⟩:Mrk) (s_Marks.getD (Int.toNat (marks.getD i 0)) default) (M.e_opt aL hg) _ (H.give (A:=[]) rfl)).mono fun v_ w_ ⟨y_,aj,aM,H_⟩=>by subst aj; exact ⟨aM,H.via H_⟩) ?_;intro bD H;refine s_nil ⟨(H.pk [0,1,2]),?_⟩;refine d_q rfl (fun w' H=>x_por (b:=r3) (r:=r4) rfl rfl (fun hb=>gd_of (c:=!r3) (by first | exact hb | (rw [hb]; rfl) | simp_all) (B r4))) ?_;refine d_nil ?_;refine W.cond (r3||r4) rfl (fun aw=>?_) (fun aw=>?_)
  ·replace hM:=M.e_t hM aw;refine kg 4 ?_;refine W.ret ?_;have aN:=M.e_inr hM av;subst aN;replace hM:=aD;(try dsimp only at hM);have aj:=M.e_pure hM;exact ⟨_,resE_tmp rfl,⟨false,aj,rfl,(H.pk [])⟩⟩
  replace hM:=M.e_f hM aw;refine kg 6 ?_;exact ⟨aI,aJ,i+1,_,upds_of _ _ ⟨rfl,rfl,rfl,rfl,rfl,trivial⟩,M.e_inl hM av,H⟩
 replace hM:=M.e_f hM ak;replace ak:=dI ak;refine W.exit ?_;have aO:=M.e_inr hM av;subst aO;replace hM:=aD;(try dsimp only at hM);replace H:=H.pk [];refine kg 4 ?_;refine W.ret ?_;have aj:=M.e_pure hM;exact ⟨_,resE_tmp rfl,⟨true,aj,rfl,H⟩⟩

end Go.Proofs.YtbldmjejckjflaaGreat
end
section
set_option maxRecDepth 100000
set_option maxHeartbeats 16000000
namespace Go.Proofs.YtbldmjejckjflaaGreat
open Go Go.Nm
attribute [local irreducible] gd execOp SL SLD SLT WR
def zbz (s_Sections:List Sect) (s_Marks:List Mrk) (s_Reaches:List Rch) (marks:List Int):(Int × Int × Nat)->M ((Int × Int × Nat) ⊕ (Int × Int)):=fun (s2,s3,s4) =>
  bif decide ((s4:Int)<(s_Reaches.length:Int)) then (
  M.grd (decide ((s4:Int)<(s_Reaches.length:Int))) <|
  M.bind (zaA s_Sections s_Marks s_Reaches marks (s_Reaches.getD s4 default)) fun (ab,ac) =>
  M.bind (zaS s3 ([(ac:Int)])) fun r3 =>
  M.pure (.inl (max s2 ab,r3,s4+1)))
  else (
  M.pure (.inr (s2,s3)))
def zct (s_Sections:List Sect) (s_Marks:List Mrk) (s_Reaches:List Rch) (marks:List Int):M (Int × Int × Int) :=
  M.bind (zax s_Sections s_Marks s_Reaches marks) fun x_=>match x_ with
  | (.inl r1)=>(
  bif r1 != 0 then (
  M.pure (0,0,r1))
  else (
  M.fail))
  | (.inr ab)=>(
  bif ab != 0 then (
  M.pure (0,0,ab))
  else (
  M.bind (zaq s_Sections s_Marks s_Reaches marks) fun r2 =>
  bif !r2 then (
  M.pure (0,0,7))
  else (
  M.grd (decide (0<(s_Reaches.length:Int))) <|
  M.bind (zaA s_Sections s_Marks s_Reaches marks (s_Reaches.getD 0 default)) fun (r0,ac) =>
  M.bind (M.iter (zbz s_Sections s_Marks s_Reaches marks) (r0,ac,0)) fun (s5,s6) =>
  bif decide (s6<s5) then (
  M.pure (0,0,5))
  else (
  M.pure (s5,s6,0)))))
theorem zeH {R:List Chunk} {aN:Cells} {ak:Value} {aO:Cells} {al:Value} {aP:Cells} {ag:Value} {aQ:Cells} {ap:Value} (s_Sections:List Sect) (s_Marks:List Mrk) (s_Reaches:List Rch) (marks:List Int) (az:Reads R aN) (aA:Sl aN ak s_Sections) (aB:Reads R aO) (aC:Sl aO al s_Marks) (aD:Reads R aP) (ay:Sl aP ag s_Reaches) (aE:Reads R aQ) (aF:Sl aQ ap marks) {r:(Int × Int × Int)} (hM:(zct s_Sections s_Marks s_Reaches marks).Ends r) (w:World) (H:St w w [] R):Ret Tryz.prog 39 #[.agg #[ak,al,ag],ap] w fun v w'=>∃ (y0:Int) (y1:Int) (y2:Int),(y0,y1,y2)=r/\v = .tuple #[.agg #[I y0,I y1],I y2]/\St w w' [] R:=by
 refine ret_of_W Tryz.func39 rfl rfl rfl ?_;refine kg 2 ?_;refine t_bx [ak,al,ag] H rfl ?_;intro aR bB H;refine t_alloc (cs:=[I 0,I 0]) H Al30 rfl ?_;intro aI bC H;refine kg 6 ?_;obtain ⟨bD,aW,hM⟩:=M.e_bind hM;refine s_call cf72 [.agg #[ak,al,ag],ap] rfl (zc1 s_Sections s_Marks s_Reaches marks (az.app _) aA (aB.app _) aC (aD.app _) ay (aE.app _) aF aW _ (H.gt 2)) ?_;rintro vq bE (⟨r1,aX,hvq,ac⟩ | ⟨aG,ax,aH,aY,hvq,ac⟩)
 ·subst aX;subst vq;(try dsimp only at hM);replace H:=H.bk ac;clear ac;refine kg 14 ?_;refine W.cond (r1 != 0) rfl (fun aq=>?_) (fun aq=>?_)
  ·replace hM:=M.e_t hM aq;replace aq:=dI aq;refine kg 2 ?_;refine s_val (x_bld (ps:=[]) (zs:=[I 0,I 0]) (L':=[I 0,I 0]) rfl Tryz.underlying30 Al30 rfl (Bd30 Tryz.underlying30) (.nil)) ?_;refine kg 1 ?_;refine t_sw 0 0 [I 0,I 0] (.agg #[I 0,I 0]) H rfl rfl Sz30 rfl rfl rfl rfl ?_;intro bF H;refine kg 2 ?_;refine W.ret ?_;have aZ:=(H.bl 0)
   have ai:=M.e_pure hM;exact ⟨_,(resE_ofn (vs:=[.agg #[I 0,I 0],I r1]) rfl rfl (.cell (v:=.agg #[I 0,I 0]) rfl (run_loadVar_ag (ds:=[I 0,I 0]) Ag30 Sz30 aZ rfl rfl)<|.tmp (v:=I r1) rfl<|.nil)),⟨0,0,r1,ai,rfl,(H.pk [])⟩⟩
  replace hM:=M.e_f hM aq;replace aq:=dI aq;refine kg 4 ?_;exact (M.e_fail hM).elim
 subst aY;subst vq;(try dsimp only at hM);replace H:=H.bk ac;clear ac;refine kg 14 ?_;refine W.cond (aG != 0) rfl (fun au=>?_) (fun au=>?_)
 ·replace hM:=M.e_t hM au;replace au:=dI au;refine kg 2 ?_;refine s_val (x_bld (ps:=[]) (zs:=[I 0,I 0]) (L':=[I 0,I 0]) rfl Tryz.underlying30 Al30 rfl (Bd30 Tryz.underlying30) (.nil)) ?_;refine kg 1 ?_;refine t_sw 2 0 [I 0,I 0] (.agg #[I 0,I 0]) H rfl rfl Sz30 rfl rfl rfl rfl ?_;intro bG H;refine kg 2 ?_;replace H:=H.pk [2];refine W.ret ?_;have a6:=(H.bl 0)
  have ai:=M.e_pure hM;exact ⟨_,(resE_ofn (vs:=[.agg #[I 0,I 0],I aG]) rfl rfl (.cell (v:=.agg #[I 0,I 0]) rfl (run_loadVar_ag (ds:=[I 0,I 0]) Ag30 Sz30 a6 rfl rfl)<|.tmp (v:=I aG) rfl<|.nil)),⟨0,0,aG,ai,rfl,(H.pk [])⟩⟩
 replace hM:=M.e_f hM au;replace au:=dI au;refine kg 4 ?_;obtain ⟨bH,a7,hM⟩:=M.e_bind hM;refine s_call cf73 [Pq ax,ap] rfl (zbw s_Sections s_Marks s_Reaches marks (az.app _) aA (aB.app _) aC (aD.app _) ay (Has.here (k:=0) rfl) (aE.app _) aF a7 _ (H.gt 4)) ?_;rintro vq bI ⟨r2,rfl,hvq,ac⟩;subst vq;(try dsimp only at hM);replace H:=H.bk ac;clear ac;refine kg 3 ?_;refine W.cond (!r2) rfl (fun aJ=>?_) (fun aJ=>?_)
 ·replace hM:=M.e_t hM aJ;refine kg 2 ?_;refine s_val (x_bld (ps:=[]) (zs:=[I 0,I 0]) (L':=[I 0,I 0]) rfl Tryz.underlying30 Al30 rfl (Bd30 Tryz.underlying30) (.nil)) ?_;refine t_sw 2 0 [I 0,I 0] (.agg #[I 0,I 0]) H rfl rfl Sz30 rfl rfl rfl rfl ?_;intro bJ H;refine kg 2 ?_;replace H:=H.pk [2];refine W.ret ?_;have a8:=(H.bl 0)
  have ai:=M.e_pure hM;exact ⟨_,(resE_ofn (vs:=[.agg #[I 0,I 0],I 7]) rfl rfl (.cell (v:=.agg #[I 0,I 0]) rfl (run_loadVar_ag (ds:=[I 0,I 0]) Ag30 Sz30 a8 rfl rfl)<|.tmp (v:=I 7) rfl<|.nil)),⟨0,0,7,ai,rfl,(H.pk [])⟩⟩
 replace hM:=M.e_f hM aJ;obtain ⟨bK,hM⟩:=M.e_gd hM;refine kg 9 ?_;obtain ⟨bL,ba,hM⟩:=M.e_bind hM;refine s_call cf80 [Pq ax,ap,.agg #[I ((s_Reaches.getD 0 default).up),I ((s_Reaches.getD 0 default).down),I ((s_Reaches.getD 0 default).lo),I ((s_Reaches.getD 0 default).hi),B ((s_Reaches.getD 0 default).narrow)]] rfl (zcJ s_Sections s_Marks s_Reaches marks (s_Reaches.getD 0 default) (az.app _) aA (aB.app _) aC (aD.app _) ay (Has.here (k:=0) rfl) (aE.app _) aF ba _ ((H.pk [1,0,2,3]).gt 3)) ?_;rintro vq bM ⟨r0,aK,rfl,hvq,ac⟩;subst vq;(try dsimp only at hM);replace H:=H.pk [1,0,2,3] |>.bk ac
 clear ac;refine t_alloc (cs:=[I 0,I 0]) H Al30 rfl ?_;intro aS bN H;refine t_sw 0 0 [I r0,I aK] (.agg #[I r0,I aK]) H rfl rfl Sz30 rfl rfl rfl rfl ?_;intro bO H;have bP:=(ay).len_le;refine kg 10 ?_;obtain ⟨bb,aL,bc⟩:=M.e_bind hM;obtain ⟨bQ,aL⟩:=M.e_iter aL;refine W.loop (fun m σ W=>∃ (s2:Int) (s3:Int) (s4:Nat) (ρ:Env),σ=upds ρ [(1,ap),(4,Pq aI),(6,Pq ax),(8,Pq aS),(37,ag),(38,I (s_Reaches.length:Int)),(39,I (s4:Int))]/\M.iterN (zbz s_Sections s_Marks s_Reaches marks) m (s2,s3,s4)=some bb/\St w W [cBlk aS [I s2,I s3] 30,cMemI encSpt aH (zaa s_Sections s_Marks s_Reaches),cBlk ax [ak,al,ag,.map (some aH)] 163,cBlk aI [I 0,I 0] 30,cBlk aR [ak,al,ag] 27] R) ?_ ?_
 ·exact ⟨_,r0,aK,0,_,upds_of _ _ ⟨rfl,rfl,rfl,rfl,rfl,rfl,rfl,trivial⟩,aL,H⟩
 rintro bR σ bS ⟨s2,s3,s4,ρ,rfl,aT,H⟩;obtain ⟨am,ao,bT,hM,aj⟩:=M.e_iterN aT;simp only [zbz] at hM;clear aT;refine kg 5 ?_;refine W.cond (decide ((s4:Int)<(s_Reaches.length:Int))) rfl (fun av=>?_) (fun av=>?_)
 ·replace hM:=M.e_t hM av;replace av:=dI av;obtain ⟨bU,hM⟩:=M.e_gd hM;refine kg 7 ?_;refine t_alloc (cs:=[I 0,I 0,I 0,I 0,B false]) H Al44 rfl ?_;intro bf bV H;refine t_sw 0 0 [I ((s_Reaches.getD s4 default).up),I ((s_Reaches.getD s4 default).down),I ((s_Reaches.getD s4 default).lo),I ((s_Reaches.getD s4 default).hi),B ((s_Reaches.getD s4 default).narrow)] (.agg #[I ((s_Reaches.getD s4 default).up),I ((s_Reaches.getD s4 default).down),I ((s_Reaches.getD s4 default).lo),I ((s_Reaches.getD s4 default).hi),B ((s_Reaches.getD s4 default).narrow)]) H rfl rfl Sz44 rfl rfl rfl rfl ?_;intro bW H;refine kg 6 ?_;obtain ⟨bX,bg,hM⟩:=M.e_bind hM;refine s_call cf80 [Pq ax,ap,.agg #[I ((s_Reaches.getD s4 default).up),I ((s_Reaches.getD s4 default).down),I ((s_Reaches.getD s4 default).lo),I ((s_Reaches.getD s4 default).hi),B ((s_Reaches.getD s4 default).narrow)]] rfl (zcJ s_Sections s_Marks s_Reaches marks (s_Reaches.getD s4 default) (az.app _) aA (aB.app _) aC (aD.app _) ay (Has.here (k:=2) rfl) (aE.app _) aF bg _ ((H.pk [2,0,1,3,4,5]).gt 5)) ?_;rintro vq bY ⟨ab,ae,rfl,hvq,ac⟩;subst vq;(try dsimp only at hM);replace H:=H.pk [2,0,1,3,4,5] |>.bk ac
  clear ac;refine t_alloc (cs:=[I 0,I 0]) H Al30 rfl ?_;intro bh bZ H;refine t_sw 0 0 [I ab,I ae] (.agg #[I ab,I ae]) H rfl rfl Sz30 rfl rfl rfl rfl ?_;intro b0 H;refine s_nil ?_;refine W.drawT (fun W=>St w W [cBlk bh [I ab,I ae] 30,cMemI encSpt aH (zaa s_Sections s_Marks s_Reaches),cBlk bf [I ((s_Reaches.getD s4 default).up),I ((s_Reaches.getD s4 default).down),I ((s_Reaches.getD s4 default).lo),I ((s_Reaches.getD s4 default).hi),B ((s_Reaches.getD s4 default).narrow)] 44,cBlk ax [ak,al,ag,.map (some aH)] 163,cBlk aI [I 0,I 0] 30,cBlk aR [ak,al,ag] 27] R) (.q 0 (.q 2 (.q 3 (.q 5 (.q 7 (.q 8 (.l3 1 (.q 4 (.l2 6 (.l 9 (.l 10 (.q 11 (.l 12 .nil)))) 9 (.l 6 (.l 10 (.q 11 (.l 12 .nil)))))) 6 (.l2 1 (.q 4 (.l 9 (.l 10 (.q 11 (.l 12 .nil))))) 9 (.l2 1 (.q 4 (.l 10 (.q 11 (.l 12 .nil)))) 10 (.l 1 (.q 4 (.q 11 (.l 12 .nil)))))) 9 (.l2 1 (.q 4 (.l 6 (.l 10 (.q 11 (.l 12 .nil))))) 6 (.l2 1 (.q 4 (.l 10 (.q 11 (.l 12 .nil)))) 10 (.l 1 (.q 4 (.q 11 (.l 12 .nil))))))))))))) mixed (by decide +kernel) rfl ?_;intro b4 aU;replace H:=H.ext aU;clear aU;refine ⟨(H.pk [0,1,2,4,5,6]),?_⟩;refine kg 6 ?_;refine t_l3 rfl rfl rfl ?_ ?_ ?_
  ·skip
   refine kg 1 ?_;refine s_nil ⟨(H.pk [0,1,2,4,5,6]),?_⟩;refine kg 1 ?_;refine t_l2 rfl rfl ?_ ?_
   ·skip
    refine kg 1 ?_;refine s_nil ⟨(H.pk [0,1,2,4,5,6]),?_⟩;refine t_l rfl ?_;refine t_bs (α:=Int) T22 [I ae] [(ae:Int)] H rfl (.cons rfl (Flat.rep_enc _ (ae:Int))<|.nil) rfl rfl rfl ?_;intro bi b5 H;have b6:=Sl.cells (H.os 0);have b7:=Sl.oc (H.os 0);refine s_nil ⟨(H.pk [1,2,3,5,6,7]),?_⟩;refine t_l rfl ?_;obtain ⟨b8,bj,hM⟩:=M.e_bind hM;refine s_call cf86 [I s3,bi] rfl (zal s3 ([(ae:Int)]) (rdo 0) (H.os 0) bj _ (H.gt 8)) ?_;rintro vq b9 ⟨r3,rfl,hvq,ac⟩;subst vq;(try dsimp only at hM);replace H:=H.bk ac;clear ac;refine s_nil ⟨(H.pk [1,2,3,5,6,7]),?_⟩;refine t_q rfl (fun w' H=>x_bld (ps:=[(0,I (max s2 ab)),(1,I r3)]) (zs:=[I 0,I 0]) (L':=[I (max s2 ab),I r3]) rfl Tryz.underlying30 Al30 rfl (Bd30 Tryz.underlying30) (.cons (cs:=[I (max s2 ab)]) rfl rfl rfl rfl rfl<|.cons (cs:=[I r3]) rfl rfl rfl rfl rfl<|.nil))<|t_l rfl ?_;refine t_sw 4 0 [I (max s2 ab),I r3] (.agg #[I (max s2 ab),I r3]) H rfl rfl Sz30 rfl rfl rfl rfl ?_;intro ca H
    refine s_nil ⟨(H.pk [1,2,3,5,6,7]),?_⟩;refine t_nil ?_;replace H:=H.pk [2,4,5,6,7];refine kg 4 ?_;exact ⟨am,ao,max s2 ab,r3,s4+1,_,upds_of _ _ ⟨rfl,rfl,rfl,rfl,rfl,rfl,rfl,trivial⟩,M.e_inl hM aj,(H.pk [1,0,2,3,4])⟩
   skip
   refine t_bs (α:=Int) T22 [I ae] [(ae:Int)] H rfl (.cons rfl (Flat.rep_enc _ (ae:Int))<|.nil) rfl rfl rfl ?_;intro bm cb H;have cc:=Sl.cells (H.os 0);have cd:=Sl.oc (H.os 0);refine s_nil ⟨(H.pk [1,2,3,5,6,7]),?_⟩;refine t_l rfl ?_;refine kg 1 ?_;refine s_nil ⟨(H.pk [1,2,3,5,6,7]),?_⟩;refine t_l rfl ?_;obtain ⟨ce,bn,hM⟩:=M.e_bind hM;refine s_call cf86 [I s3,bm] rfl (zal s3 ([(ae:Int)]) (rdo 0) (H.os 0) bn _ (H.gt 8)) ?_;rintro vq cf ⟨r3,rfl,hvq,ac⟩;subst vq;(try dsimp only at hM);replace H:=H.bk ac;clear ac;refine s_nil ⟨(H.pk [1,2,3,5,6,7]),?_⟩;refine t_q rfl (fun w' H=>x_bld (ps:=[(0,I (max s2 ab)),(1,I r3)]) (zs:=[I 0,I 0]) (L':=[I (max s2 ab),I r3]) rfl Tryz.underlying30 Al30 rfl (Bd30 Tryz.underlying30) (.cons (cs:=[I (max s2 ab)]) rfl rfl rfl rfl rfl<|.cons (cs:=[I r3]) rfl rfl rfl rfl rfl<|.nil))<|t_l rfl ?_;refine t_sw 4 0 [I (max s2 ab),I r3] (.agg #[I (max s2 ab),I r3]) H rfl rfl Sz30 rfl rfl rfl rfl ?_;intro cg H
   refine s_nil ⟨(H.pk [1,2,3,5,6,7]),?_⟩;refine t_nil ?_;replace H:=H.pk [2,4,5,6,7];refine kg 4 ?_;exact ⟨am,ao,max s2 ab,r3,s4+1,_,upds_of _ _ ⟨rfl,rfl,rfl,rfl,rfl,rfl,rfl,trivial⟩,M.e_inl hM aj,(H.pk [1,0,2,3,4])⟩
  ·skip
   refine kg 1 ?_;refine s_nil ⟨(H.pk [0,1,2,4,5,6]),?_⟩;refine t_l2 rfl rfl ?_ ?_
   ·skip
    refine kg 1 ?_;refine s_nil ⟨(H.pk [0,1,2,4,5,6]),?_⟩;refine kg 1 ?_;refine t_l rfl ?_;refine t_bs (α:=Int) T22 [I ae] [(ae:Int)] H rfl (.cons rfl (Flat.rep_enc _ (ae:Int))<|.nil) rfl rfl rfl ?_;intro bo ci H;have cj:=Sl.cells (H.os 0);have co:=Sl.oc (H.os 0);refine s_nil ⟨(H.pk [1,2,3,5,6,7]),?_⟩;refine t_l rfl ?_;obtain ⟨cp,bp,hM⟩:=M.e_bind hM;refine s_call cf86 [I s3,bo] rfl (zal s3 ([(ae:Int)]) (rdo 0) (H.os 0) bp _ (H.gt 8)) ?_;rintro vq cq ⟨r3,rfl,hvq,ac⟩;subst vq;(try dsimp only at hM);replace H:=H.bk ac;clear ac;refine s_nil ⟨(H.pk [1,2,3,5,6,7]),?_⟩;refine t_q rfl (fun w' H=>x_bld (ps:=[(0,I (max s2 ab)),(1,I r3)]) (zs:=[I 0,I 0]) (L':=[I (max s2 ab),I r3]) rfl Tryz.underlying30 Al30 rfl (Bd30 Tryz.underlying30) (.cons (cs:=[I (max s2 ab)]) rfl rfl rfl rfl rfl<|.cons (cs:=[I r3]) rfl rfl rfl rfl rfl<|.nil))<|t_l rfl ?_;refine t_sw 4 0 [I (max s2 ab),I r3] (.agg #[I (max s2 ab),I r3]) H rfl rfl Sz30 rfl rfl rfl rfl ?_;intro cr H
    refine s_nil ⟨(H.pk [1,2,3,5,6,7]),?_⟩;refine t_nil ?_;replace H:=H.pk [2,4,5,6,7];refine kg 4 ?_;exact ⟨am,ao,max s2 ab,r3,s4+1,_,upds_of _ _ ⟨rfl,rfl,rfl,rfl,rfl,rfl,rfl,trivial⟩,M.e_inl hM aj,(H.pk [1,0,2,3,4])⟩
   skip
   refine t_bs (α:=Int) T22 [I ae] [(ae:Int)] H rfl (.cons rfl (Flat.rep_enc _ (ae:Int))<|.nil) rfl rfl rfl ?_;intro aV ct H;have cu:=Sl.cells (H.os 0);have cv:=Sl.oc (H.os 0);refine s_nil ⟨(H.pk [1,2,3,5,6,7]),?_⟩;refine t_l2 rfl rfl ?_ ?_
   ·skip
    refine kg 1 ?_;refine s_nil ⟨(H.pk [1,2,3,5,6,7]),?_⟩;refine kg 1 ?_;refine t_l rfl ?_;obtain ⟨cw,br,hM⟩:=M.e_bind hM;refine s_call cf86 [I s3,aV] rfl (zal s3 ([(ae:Int)]) (rdo 0) (H.os 0) br _ (H.gt 8)) ?_;rintro vq cx ⟨r3,rfl,hvq,ac⟩;subst vq;(try dsimp only at hM);replace H:=H.bk ac;clear ac;refine s_nil ⟨(H.pk [1,2,3,5,6,7]),?_⟩;refine t_q rfl (fun w' H=>x_bld (ps:=[(0,I (max s2 ab)),(1,I r3)]) (zs:=[I 0,I 0]) (L':=[I (max s2 ab),I r3]) rfl Tryz.underlying30 Al30 rfl (Bd30 Tryz.underlying30) (.cons (cs:=[I (max s2 ab)]) rfl rfl rfl rfl rfl<|.cons (cs:=[I r3]) rfl rfl rfl rfl rfl<|.nil))<|t_l rfl ?_;refine t_sw 4 0 [I (max s2 ab),I r3] (.agg #[I (max s2 ab),I r3]) H rfl rfl Sz30 rfl rfl rfl rfl ?_;intro cy H
    refine s_nil ⟨(H.pk [1,2,3,5,6,7]),?_⟩;refine t_nil ?_;replace H:=H.pk [2,4,5,6,7];refine kg 4 ?_;exact ⟨am,ao,max s2 ab,r3,s4+1,_,upds_of _ _ ⟨rfl,rfl,rfl,rfl,rfl,rfl,rfl,trivial⟩,M.e_inl hM aj,(H.pk [1,0,2,3,4])⟩
   skip
   obtain ⟨cz,bt,hM⟩:=M.e_bind hM;refine s_call cf86 [I s3,aV] rfl (zal s3 ([(ae:Int)]) (rdo 0) (H.os 0) bt _ (H.gt 8)) ?_;rintro vq cA ⟨r3,rfl,hvq,ac⟩;subst vq;(try dsimp only at hM);replace H:=H.bk ac;clear ac;refine s_nil ⟨(H.pk [1,2,3,5,6,7]),?_⟩;refine t_l rfl ?_;refine kg 1 ?_;refine s_nil ⟨(H.pk [1,2,3,5,6,7]),?_⟩;refine kg 1 ?_;refine t_q rfl (fun w' H=>x_bld (ps:=[(0,I (max s2 ab)),(1,I r3)]) (zs:=[I 0,I 0]) (L':=[I (max s2 ab),I r3]) rfl Tryz.underlying30 Al30 rfl (Bd30 Tryz.underlying30) (.cons (cs:=[I (max s2 ab)]) rfl rfl rfl rfl rfl<|.cons (cs:=[I r3]) rfl rfl rfl rfl rfl<|.nil))<|t_l rfl ?_;refine t_sw 4 0 [I (max s2 ab),I r3] (.agg #[I (max s2 ab),I r3]) H rfl rfl Sz30 rfl rfl rfl rfl ?_;intro cB H
   refine s_nil ⟨(H.pk [1,2,3,5,6,7]),?_⟩;refine t_nil ?_;replace H:=H.pk [2,4,5,6,7];refine kg 4 ?_;exact ⟨am,ao,max s2 ab,r3,s4+1,_,upds_of _ _ ⟨rfl,rfl,rfl,rfl,rfl,rfl,rfl,trivial⟩,M.e_inl hM aj,(H.pk [1,0,2,3,4])⟩
  skip
  refine t_bs (α:=Int) T22 [I ae] [(ae:Int)] H rfl (.cons rfl (Flat.rep_enc _ (ae:Int))<|.nil) rfl rfl rfl ?_;intro aM cC H;have cD:=Sl.cells (H.os 0);have cE:=Sl.oc (H.os 0);refine s_nil ⟨(H.pk [1,2,3,5,6,7]),?_⟩;refine t_l2 rfl rfl ?_ ?_
  ·skip
   refine kg 1 ?_;refine s_nil ⟨(H.pk [1,2,3,5,6,7]),?_⟩;refine kg 1 ?_;refine t_l rfl ?_;refine kg 1 ?_;refine s_nil ⟨(H.pk [1,2,3,5,6,7]),?_⟩;refine t_l rfl ?_;obtain ⟨cF,bu,hM⟩:=M.e_bind hM;refine s_call cf86 [I s3,aM] rfl (zal s3 ([(ae:Int)]) (rdo 0) (H.os 0) bu _ (H.gt 8)) ?_;rintro vq cG ⟨r3,rfl,hvq,ac⟩;subst vq;(try dsimp only at hM);replace H:=H.bk ac;clear ac;refine s_nil ⟨(H.pk [1,2,3,5,6,7]),?_⟩;refine t_q rfl (fun w' H=>x_bld (ps:=[(0,I (max s2 ab)),(1,I r3)]) (zs:=[I 0,I 0]) (L':=[I (max s2 ab),I r3]) rfl Tryz.underlying30 Al30 rfl (Bd30 Tryz.underlying30) (.cons (cs:=[I (max s2 ab)]) rfl rfl rfl rfl rfl<|.cons (cs:=[I r3]) rfl rfl rfl rfl rfl<|.nil))<|t_l rfl ?_;refine t_sw 4 0 [I (max s2 ab),I r3] (.agg #[I (max s2 ab),I r3]) H rfl rfl Sz30 rfl rfl rfl rfl ?_;intro cH H
   refine s_nil ⟨(H.pk [1,2,3,5,6,7]),?_⟩;refine t_nil ?_;replace H:=H.pk [2,4,5,6,7];refine kg 4 ?_;exact ⟨am,ao,max s2 ab,r3,s4+1,_,upds_of _ _ ⟨rfl,rfl,rfl,rfl,rfl,rfl,rfl,trivial⟩,M.e_inl hM aj,(H.pk [1,0,2,3,4])⟩
  skip
  refine kg 1 ?_;refine s_nil ⟨(H.pk [1,2,3,5,6,7]),?_⟩;refine t_l2 rfl rfl ?_ ?_
  ·skip
   refine kg 1 ?_;refine s_nil ⟨(H.pk [1,2,3,5,6,7]),?_⟩;refine kg 1 ?_;refine t_l rfl ?_;obtain ⟨cI,bv,hM⟩:=M.e_bind hM;refine s_call cf86 [I s3,aM] rfl (zal s3 ([(ae:Int)]) (rdo 0) (H.os 0) bv _ (H.gt 8)) ?_;rintro vq cJ ⟨r3,rfl,hvq,ac⟩;subst vq;(try dsimp only at hM);replace H:=H.bk ac;clear ac;refine s_nil ⟨(H.pk [1,2,3,5,6,7]),?_⟩;refine t_q rfl (fun w' H=>x_bld (ps:=[(0,I (max s2 ab)),(1,I r3)]) (zs:=[I 0,I 0]) (L':=[I (max s2 ab),I r3]) rfl Tryz.underlying30 Al30 rfl (Bd30 Tryz.underlying30) (.cons (cs:=[I (max s2 ab)]) rfl rfl rfl rfl rfl<|.cons (cs:=[I r3]) rfl rfl rfl rfl rfl<|.nil))<|t_l rfl ?_;refine t_sw 4 0 [I (max s2 ab),I r3] (.agg #[I (max s2 ab),I r3]) H rfl rfl Sz30 rfl rfl rfl rfl ?_;intro cK H
   refine s_nil ⟨(H.pk [1,2,3,5,6,7]),?_⟩;refine t_nil ?_;replace H:=H.pk [2,4,5,6,7];refine kg 4 ?_;exact ⟨am,ao,max s2 ab,r3,s4+1,_,upds_of _ _ ⟨rfl,rfl,rfl,rfl,rfl,rfl,rfl,trivial⟩,M.e_inl hM aj,(H.pk [1,0,2,3,4])⟩
  skip
  obtain ⟨cL,bw,hM⟩:=M.e_bind hM;refine s_call cf86 [I s3,aM] rfl (zal s3 ([(ae:Int)]) (rdo 0) (H.os 0) bw _ (H.gt 8)) ?_;rintro vq cM ⟨r3,rfl,hvq,ac⟩;subst vq;(try dsimp only at hM);replace H:=H.bk ac;clear ac;refine s_nil ⟨(H.pk [1,2,3,5,6,7]),?_⟩;refine t_l rfl ?_;refine kg 1 ?_;refine s_nil ⟨(H.pk [1,2,3,5,6,7]),?_⟩;refine kg 1 ?_;refine t_q rfl (fun w' H=>x_bld (ps:=[(0,I (max s2 ab)),(1,I r3)]) (zs:=[I 0,I 0]) (L':=[I (max s2 ab),I r3]) rfl Tryz.underlying30 Al30 rfl (Bd30 Tryz.underlying30) (.cons (cs:=[I (max s2 ab)]) rfl rfl rfl rfl rfl<|.cons (cs:=[I r3]) rfl rfl rfl rfl rfl<|.nil))<|t_l rfl ?_;refine t_sw 4 0 [I (max s2 ab),I r3] (.agg #[I (max s2 ab),I r3]) H rfl rfl Sz30 rfl rfl rfl rfl ?_;intro cN H
  refine s_nil ⟨(H.pk [1,2,3,5,6,7]),?_⟩;refine t_nil ?_;replace H:=H.pk [2,4,5,6,7];refine kg 4 ?_;exact ⟨am,ao,max s2 ab,r3,s4+1,_,upds_of _ _ ⟨rfl,rfl,rfl,rfl,rfl,rfl,rfl,trivial⟩,M.e_inl hM aj,(H.pk [1,0,2,3,4])⟩
 replace hM:=M.e_f hM av;replace av:=dI av;refine W.exit ?_;have bx:=M.e_inr hM aj;subst bx;replace hM:=bc;(try dsimp only at hM);replace H:=H.pk [0,3];refine kg 9 ?_;refine W.cond (decide (s3<s2)) rfl (fun aw=>?_) (fun aw=>?_)
 ·replace hM:=M.e_t hM aw;replace aw:=dI aw;refine kg 2 ?_;refine s_val (x_bld (ps:=[]) (zs:=[I 0,I 0]) (L':=[I 0,I 0]) rfl Tryz.underlying30 Al30 rfl (Bd30 Tryz.underlying30) (.nil)) ?_;refine t_sw 1 0 [I 0,I 0] (.agg #[I 0,I 0]) H rfl rfl Sz30 rfl rfl rfl rfl ?_;intro cO H;refine kg 2 ?_;refine W.ret ?_;have bz:=(H.bl 1)
  have ai:=M.e_pure hM;exact ⟨_,(resE_ofn (vs:=[.agg #[I 0,I 0],I 5]) rfl rfl (.cell (v:=.agg #[I 0,I 0]) rfl (run_loadVar_ag (ds:=[I 0,I 0]) Ag30 Sz30 bz rfl rfl)<|.tmp (v:=I 5) rfl<|.nil)),⟨0,0,5,ai,rfl,(H.pk [])⟩⟩
 replace hM:=M.e_f hM aw;replace aw:=dI aw;refine kg 4 ?_;refine t_sw 1 0 [I s2,I s3] (.agg #[I s2,I s3]) H rfl rfl Sz30 rfl rfl rfl rfl ?_;intro cP H;refine kg 2 ?_;refine W.ret ?_;have bA:=(H.bl 1)
 have ai:=M.e_pure hM;exact ⟨_,(resE_ofn (vs:=[.agg #[I s2,I s3],I 0]) rfl rfl (.cell (v:=.agg #[I s2,I s3]) rfl (run_loadVar_ag (ds:=[I s2,I s3]) Ag30 Sz30 bA rfl rfl)<|.tmp (v:=I 0) rfl<|.nil)),⟨s2,s3,0,ai,rfl,(H.pk [])⟩⟩

def zbA (s_Sections:List Sect) (s_Marks:List Mrk) (s_Reaches:List Rch) (marks:List Int):(Int × Int × Nat)->M ((Int × Int × Nat) ⊕ (Int × Int)):=fun (s2,s3,i) =>
  bif decide ((i:Int)<(s_Reaches.length:Int)) then (
  M.grd (decide ((i:Int)<(s_Reaches.length:Int))) <|
  M.bind (za8 s_Sections s_Marks s_Reaches marks (s_Reaches.getD i default)) fun (r0,r1) =>
  M.pure (.inl (max s2 r0,min s3 r1,i+1)))
  else (
  M.pure (.inr (s2,s3)))
def zcw (s_Sections:List Sect) (s_Marks:List Mrk) (s_Reaches:List Rch) (marks:List Int):M (Int × Int × Int) :=
  M.bind (za1 s_Sections s_Marks s_Reaches marks 0) fun r2 =>
  bif r2 != 0 then (
  M.pure (0,0,r2))
  else (
  M.bind (M.iter (zbA s_Sections s_Marks s_Reaches marks) (0,1099511627776,0)) fun (s4,s5) =>
  bif decide (s5<s4) then (
  M.pure (0,0,5))
  else (
  M.pure (s4,s5,0)))
theorem zfk {R:List Chunk} {aE:Cells} {ab:Value} {aF:Cells} {ac:Value} {aG:Cells} {ae:Value} {aH:Cells} {al:Value} (s_Sections:List Sect) (s_Marks:List Mrk) (s_Reaches:List Rch) (marks:List Int) (ap:Reads R aE) (aq:Sl aE ab s_Sections) (au:Reads R aF) (av:Sl aF ac s_Marks) (aw:Reads R aG) (ao:Sl aG ae s_Reaches) (ax:Reads R aH) (ay:Sl aH al marks) {r:(Int × Int × Int)} (hM:(zcw s_Sections s_Marks s_Reaches marks).Ends r) (w:World) (H:St w w [] R):Ret Tryz.prog 40 #[.agg #[ab,ac,ae],al] w fun v w'=>∃ (y0:Int) (y1:Int) (y2:Int),(y0,y1,y2)=r/\v = .tuple #[.agg #[I y0,I y1],I y2]/\St w w' [] R:=by
 refine ret_of_W Tryz.func40 rfl rfl rfl ?_;refine kg 2 ?_;refine t_bx [ab,ac,ae] H rfl ?_;intro az aW H;refine t_alloc (cs:=[I 0,I 0]) H Al30 rfl ?_;intro aA aX H;refine kg 7 ?_;obtain ⟨aY,aM,hM⟩:=M.e_bind hM;refine s_call cf81 [.agg #[ab,ac,ae],al,I 0] rfl (zdR s_Sections s_Marks s_Reaches marks 0 (ap.app _) aq (au.app _) av (aw.app _) ao (ax.app _) ay aM _ (H.gt 2)) ?_;rintro vq aZ ⟨r2,rfl,hvq,ag⟩;subst vq;(try dsimp only at hM);replace H:=H.bk ag;clear ag;refine kg 7 ?_;refine W.cond (r2 != 0) rfl (fun ai=>?_) (fun ai=>?_)
 ·replace hM:=M.e_t hM ai;replace ai:=dI ai;refine kg 2 ?_;refine s_val (x_bld (ps:=[]) (zs:=[I 0,I 0]) (L':=[I 0,I 0]) rfl Tryz.underlying30 Al30 rfl (Bd30 Tryz.underlying30) (.nil)) ?_;refine kg 1 ?_;refine t_sw 0 0 [I 0,I 0] (.agg #[I 0,I 0]) H rfl rfl Sz30 rfl rfl rfl rfl ?_;intro a6 H;refine kg 2 ?_;refine W.ret ?_;have aN:=(H.bl 0)
  have am:=M.e_pure hM;exact ⟨_,(resE_ofn (vs:=[.agg #[I 0,I 0],I r2]) rfl rfl (.cell (v:=.agg #[I 0,I 0]) rfl (run_loadVar_ag (ds:=[I 0,I 0]) Ag30 Sz30 aN rfl rfl)<|.tmp (v:=I r2) rfl<|.nil)),⟨0,0,r2,am,rfl,(H.pk [])⟩⟩
 replace hM:=M.e_f hM ai;replace ai:=dI ai;refine kg 3 ?_;refine s_val (x_bld (ps:=[(1,I 1099511627776)]) (zs:=[I 0,I 0]) (L':=[I 0,I 1099511627776]) rfl Tryz.underlying30 Al30 rfl (Bd30 Tryz.underlying30) (.cons (cs:=[I 1099511627776]) rfl rfl rfl rfl rfl<|.nil)) ?_;refine t_alloc (cs:=[I 0,I 0]) H Al30 rfl ?_;intro aB a7 H;refine t_sw 0 0 [I 0,I 1099511627776] (.agg #[I 0,I 1099511627776]) H rfl rfl Sz30 rfl rfl rfl rfl ?_;intro a8 H;refine kg 7 ?_;obtain ⟨aO,aC,aP⟩:=M.e_bind hM;obtain ⟨ba,aC⟩:=M.e_iter aC;refine W.loop (fun m σ W=>∃ (s2:Int) (s3:Int) (i:Nat) (ρ:Env),σ=upds ρ [(1,al),(2,Pq az),(4,Pq aA),(7,Pq aB),(8,I (i:Int))]/\M.iterN (zbA s_Sections s_Marks s_Reaches marks) m (s2,s3,i)=some aO/\St w W [cBlk aB [I s2,I s3] 30,cBlk aA [I 0,I 0] 30,cBlk az [ab,ac,ae] 61] R) ?_ ?_
 ·exact ⟨_,0,1099511627776,0,_,upds_of _ _ ⟨rfl,rfl,rfl,rfl,rfl,trivial⟩,aC,H⟩
 rintro bb σ bc ⟨s2,s3,i,ρ,rfl,aI,H⟩;obtain ⟨aJ,aK,bf,hM,aD⟩:=M.e_iterN aI;simp only [zbA] at hM;clear aI;have bg:=(ao).len_le;refine kg 9 ?_;refine W.cond (decide ((i:Int)<(s_Reaches.length:Int))) rfl (fun aj=>?_) (fun aj=>?_)
 ·replace hM:=M.e_t hM aj;replace aj:=dI aj;refine kg 4 ?_;refine W.drawT (fun W=>St w W [cBlk aB [I s2,I s3] 30,cBlk aA [I 0,I 0] 30,cBlk az [ab,ac,ae] 61] R) (.q 0 (.q 1 (.q 2 (.q 3 (.q 4 (.q 5 (.q 6 (.l2 7 (.l 8 (.l 9 .nil)) 8 (.l 7 (.l 9 .nil)))))))))) mixed (by decide +kernel) rfl ?_;intro bh aL;replace H:=H.ext aL;clear aL;refine ⟨(H.pk [0,1,2]),?_⟩;obtain ⟨bi,hM⟩:=M.e_gd hM;refine kg 7 ?_;refine t_l2 rfl rfl ?_ ?_
  ·skip
   obtain ⟨bj,aQ,hM⟩:=M.e_bind hM;refine s_call cf82 [.agg #[ab,ac,ae],al,.agg #[I ((s_Reaches.getD i default).up),I ((s_Reaches.getD i default).down),I ((s_Reaches.getD i default).lo),I ((s_Reaches.getD i default).hi),B ((s_Reaches.getD i default).narrow)]] rfl (zcP s_Sections s_Marks s_Reaches marks (s_Reaches.getD i default) (ap.app _) aq (au.app _) av (aw.app _) ao (ax.app _) ay aQ _ (H.gt 3)) ?_;rintro vq bm ⟨r0,r1,rfl,hvq,ag⟩;subst vq;(try dsimp only at hM);replace H:=H.bk ag;clear ag;refine s_nil ⟨(H.pk [0,1,2]),?_⟩;refine t_l rfl ?_;refine t_alloc (cs:=[I 0,I 0]) H Al30 rfl ?_;intro aR bn H;refine s_nil ⟨(H.pk [1,2,3]),?_⟩;refine t_l rfl ?_;refine t_sw 0 0 [I r0,I r1] (.agg #[I r0,I r1]) H rfl rfl Sz30 rfl rfl rfl rfl ?_;intro bo H;refine s_nil ⟨(H.pk [1,2,3]),?_⟩;refine kg 12 ?_;refine s_val (x_bld (ps:=[(0,I (max s2 r0)),(1,I (min s3 r1))]) (zs:=[I 0,I 0]) (L':=[I (max s2 r0),I (min s3 r1)]) rfl Tryz.underlying30 Al30 rfl (Bd30 Tryz.underlying30) (.cons (cs:=[I (max s2 r0)]) rfl rfl rfl rfl rfl<|.cons (cs:=[I (min s3 r1)]) rfl rfl rfl rfl rfl<|.nil)) ?_;refine t_sw 1 0 [I (max s2 r0),I (min s3 r1)] (.agg #[I (max s2 r0),I (min s3 r1)]) H rfl rfl Sz30 rfl rfl rfl rfl ?_;intro bp H;refine kg 6 ?_;exact ⟨aJ,aK,max s2 r0,min s3 r1,i+1,_,upds_of _ _ ⟨rfl,rfl,rfl,rfl,rfl,trivial⟩,M.e_inl hM aD,(H.pk [1,2,3])⟩
  skip
  refine t_alloc (cs:=[I 0,I 0]) H Al30 rfl ?_;intro aR br H;refine s_nil ⟨(H.pk [1,2,3]),?_⟩;refine t_l rfl ?_;obtain ⟨bt,aS,hM⟩:=M.e_bind hM;refine s_call cf82 [.agg #[ab,ac,ae],al,.agg #[I ((s_Reaches.getD i default).up),I ((s_Reaches.getD i default).down),I ((s_Reaches.getD i default).lo),I ((s_Reaches.getD i default).hi),B ((s_Reaches.getD i default).narrow)]] rfl (zcP s_Sections s_Marks s_Reaches marks (s_Reaches.getD i default) (ap.app _) aq (au.app _) av (aw.app _) ao (ax.app _) ay aS _ (H.gt 4)) ?_;rintro vq bu ⟨r0,r1,rfl,hvq,ag⟩;subst vq;(try dsimp only at hM);replace H:=H.bk ag;clear ag;refine s_nil ⟨(H.pk [1,2,3]),?_⟩;refine t_l rfl ?_;refine t_sw 0 0 [I r0,I r1] (.agg #[I r0,I r1]) H rfl rfl Sz30 rfl rfl rfl rfl ?_;intro bv H;refine s_nil ⟨(H.pk [1,2,3]),?_⟩;refine kg 12 ?_;refine s_val (x_bld (ps:=[(0,I (max s2 r0)),(1,I (min s3 r1))]) (zs:=[I 0,I 0]) (L':=[I (max s2 r0),I (min s3 r1)]) rfl Tryz.underlying30 Al30 rfl (Bd30 Tryz.underlying30) (.cons (cs:=[I (max s2 r0)]) rfl rfl rfl rfl rfl<|.cons (cs:=[I (min s3 r1)]) rfl rfl rfl rfl rfl<|.nil)) ?_;refine t_sw 1 0 [I (max s2 r0),I (min s3 r1)] (.agg #[I (max s2 r0),I (min s3 r1)]) H rfl rfl Sz30 rfl rfl rfl rfl ?_;intro bw H;refine kg 6 ?_;exact ⟨aJ,aK,max s2 r0,min s3 r1,i+1,_,upds_of _ _ ⟨rfl,rfl,rfl,rfl,rfl,trivial⟩,M.e_inl hM aD,(H.pk [1,2,3])⟩
 replace hM:=M.e_f hM aj;replace aj:=dI aj;refine W.exit ?_;have aT:=M.e_inr hM aD;subst aT;replace hM:=aP;(try dsimp only at hM);refine kg 9 ?_;refine W.cond (decide (s3<s2)) rfl (fun ak=>?_) (fun ak=>?_)
 ·replace hM:=M.e_t hM ak;replace ak:=dI ak;refine kg 2 ?_;refine s_val (x_bld (ps:=[]) (zs:=[I 0,I 0]) (L':=[I 0,I 0]) rfl Tryz.underlying30 Al30 rfl (Bd30 Tryz.underlying30) (.nil)) ?_;refine t_sw 1 0 [I 0,I 0] (.agg #[I 0,I 0]) H rfl rfl Sz30 rfl rfl rfl rfl ?_;intro bx H;refine kg 2 ?_;replace H:=H.pk [1];refine W.ret ?_;have aU:=(H.bl 0)
  have am:=M.e_pure hM;exact ⟨_,(resE_ofn (vs:=[.agg #[I 0,I 0],I 5]) rfl rfl (.cell (v:=.agg #[I 0,I 0]) rfl (run_loadVar_ag (ds:=[I 0,I 0]) Ag30 Sz30 aU rfl rfl)<|.tmp (v:=I 5) rfl<|.nil)),⟨0,0,5,am,rfl,(H.pk [])⟩⟩
 replace hM:=M.e_f hM ak;replace ak:=dI ak;refine kg 4 ?_;refine t_sw 1 0 [I s2,I s3] (.agg #[I s2,I s3]) H rfl rfl Sz30 rfl rfl rfl rfl ?_;intro bz H;refine kg 2 ?_;replace H:=H.pk [1];refine W.ret ?_;have aV:=(H.bl 0)
 have am:=M.e_pure hM;exact ⟨_,(resE_ofn (vs:=[.agg #[I s2,I s3],I 0]) rfl rfl (.cell (v:=.agg #[I s2,I s3]) rfl (run_loadVar_ag (ds:=[I s2,I s3]) Ag30 Sz30 aV rfl rfl)<|.tmp (v:=I 0) rfl<|.nil)),⟨s2,s3,0,am,rfl,(H.pk [])⟩⟩

def zbQ (a b:List Mrk):Nat->M (Nat ⊕ (Unit ⊕ Unit)):=fun i =>
  bif decide ((i:Int)<(a.length:Int)) then (
  M.grd (decide ((i:Int)<(a.length:Int))) <|
  M.grd (decide ((i:Int)<(b.length:Int))) <|
  bif !(decide ((a.getD i default)=(b.getD i default))) then (
  M.pure (.inr (.inl ())))
  else (
  M.pure (.inl (i+1))))
  else (
  M.pure (.inr (.inr ())))
def zcX (a b:List Mrk):M Bool :=
  bif (a.length:Int) != (b.length:Int) then (
  M.pure false)
  else (
  M.bind (M.iter (zbQ a b) 0) fun x_=>match x_ with
  | (.inl (_:Unit))=>(
  M.pure false)
  | (.inr (_:Unit))=>(
  M.pure true))
theorem zeS {R:List Chunk} {am:Cells} {ag:Value} {ao:Cells} {ai:Value} (a:List Mrk) (b:List Mrk) (aC:Reads R am) (ap:Sl am ag a) (aD:Reads R ao) (aw:Sl ao ai b) {r:Bool} (hM:(zcX a b).Ends r) (w:World) (H:St w w [] R):Ret Tryz.prog 69 #[ag,ai] w fun v w'=>∃ (y0:Bool),y0=r/\v=B y0/\St w w' [] R:=by
 refine ret_of_W Tryz.func69 rfl rfl rfl ?_;have aE:=(ap).len_le;have aF:=(aw).len_le;refine kg 13 ?_;refine W.cond ((a.length:Int) != (b.length:Int)) rfl (fun ab=>?_) (fun ab=>?_)
 ·replace hM:=M.e_t hM ab;replace ab:=dI ab;refine kg 4 ?_;refine W.ret ?_;have ae:=M.e_pure hM;exact ⟨_,resE_tmp rfl,⟨false,ae,rfl,H⟩⟩
 replace hM:=M.e_f hM ab;replace ab:=dI ab;refine kg 7 ?_;obtain ⟨ax,aj,aq⟩:=M.e_bind hM;obtain ⟨aG,aj⟩:=M.e_iter aj;refine W.loop (fun m σ W=>∃ (i:Nat) (ρ:Env),σ=upds ρ [(0,ag),(1,ai),(5,I (i:Int))]/\M.iterN (zbQ a b) m i=some ax/\St w W [] R) ?_ ?_
 ·exact ⟨_,0,_,upds_of _ _ ⟨rfl,rfl,rfl,trivial⟩,aj,H⟩
 rintro aH σ aI ⟨i,ρ,rfl,au,H⟩;obtain ⟨ay,az,aJ,hM,ak⟩:=M.e_iterN au;simp only [zbQ] at hM;clear au;have aK:=(ap).len_le;refine kg 8 ?_;refine W.cond (decide ((i:Int)<(a.length:Int))) rfl (fun ac=>?_) (fun ac=>?_)
 ·replace hM:=M.e_t hM ac;replace ac:=dI ac;refine kg 4 ?_;refine W.draw (fun W=>St w W [] R) [(0,true),(1,true),(2,true),(3,true),(4,true),(5,true),(6,true),(7,true),(8,true)] mixed (by decide +kernel) rfl ?_;intro aL av;replace H:=H.ext av;clear av;refine ⟨(H.pk []),?_⟩;obtain ⟨aM,hM⟩:=M.e_gd hM;obtain ⟨aN,hM⟩:=M.e_gd hM;refine kg 8 ?_;refine d_q rfl (fun w' H=>x_neS (eqT32 (a.getD i default) (b.getD i default) _) gdT32 rfl rfl) ?_;refine d_nil ?_;refine W.cond (!(decide ((a.getD i default)=(b.getD i default)))) rfl (fun al=>?_) (fun al=>?_)
  ·replace hM:=M.e_t hM al;refine kg 4 ?_;refine W.ret ?_;have aA:=M.e_inr hM ak;subst aA;replace hM:=aq;(try dsimp only at hM);have ae:=M.e_pure hM;exact ⟨_,resE_tmp rfl,⟨false,ae,rfl,H⟩⟩
  replace hM:=M.e_f hM al;refine kg 6 ?_;exact ⟨ay,az,i+1,_,upds_of _ _ ⟨rfl,rfl,rfl,trivial⟩,M.e_inl hM ak,H⟩
 replace hM:=M.e_f hM ac;replace ac:=dI ac;refine W.exit ?_;have aB:=M.e_inr hM ak;subst aB;replace hM:=aq;(try dsimp only at hM);refine kg 4 ?_;refine W.ret ?_;have ae:=M.e_pure hM;exact ⟨_,resE_tmp rfl,⟨true,ae,rfl,H⟩⟩

def zbE (a b:List Rch):Nat->M (Nat ⊕ (Unit ⊕ Unit)):=fun i =>
  bif decide ((i:Int)<(a.length:Int)) then (
  M.grd (decide ((i:Int)<(a.length:Int))) <|
  M.grd (decide ((i:Int)<(b.length:Int))) <|
  bif !(decide ((a.getD i default)=(b.getD i default))) then (
  M.pure (.inr (.inl ())))
  else (
  M.pure (.inl (i+1))))
  else (
  M.pure (.inr (.inr ())))
def zcy (a b:List Rch):M Bool :=
  bif (a.length:Int) != (b.length:Int) then (
  M.pure false)
  else (
  M.bind (M.iter (zbE a b) 0) fun x_=>match x_ with
  | (.inl (_:Unit))=>(
  M.pure false)
  | (.inr (_:Unit))=>(
  M.pure true))
theorem zfc {R:List Chunk} {am:Cells} {ag:Value} {ao:Cells} {ai:Value} (a:List Rch) (b:List Rch) (aC:Reads R am) (ap:Sl am ag a) (aD:Reads R ao) (aw:Sl ao ai b) {r:Bool} (hM:(zcy a b).Ends r) (w:World) (H:St w w [] R):Ret Tryz.prog 70 #[ag,ai] w fun v w'=>∃ (y0:Bool),y0=r/\v=B y0/\St w w' [] R:=by
 refine ret_of_W Tryz.func70 rfl rfl rfl ?_;have aE:=(ap).len_le;have aF:=(aw).len_le;refine kg 13 ?_;refine W.cond ((a.length:Int) != (b.length:Int)) rfl (fun ab=>?_) (fun ab=>?_)
 ·replace hM:=M.e_t hM ab;replace ab:=dI ab;refine kg 4 ?_;refine W.ret ?_;have ae:=M.e_pure hM;exact ⟨_,resE_tmp rfl,⟨false,ae,rfl,H⟩⟩
 replace hM:=M.e_f hM ab;replace ab:=dI ab;refine kg 7 ?_;obtain ⟨ax,aj,aq⟩:=M.e_bind hM;obtain ⟨aG,aj⟩:=M.e_iter aj;refine W.loop (fun m σ W=>∃ (i:Nat) (ρ:Env),σ=upds ρ [(0,ag),(1,ai),(5,I (i:Int))]/\M.iterN (zbE a b) m i=some ax/\St w W [] R) ?_ ?_
 ·exact ⟨_,0,_,upds_of _ _ ⟨rfl,rfl,rfl,trivial⟩,aj,H⟩
 rintro aH σ aI ⟨i,ρ,rfl,au,H⟩;obtain ⟨ay,az,aJ,hM,ak⟩:=M.e_iterN au;simp only [zbE] at hM;clear au;have aK:=(ap).len_le;refine kg 8 ?_;refine W.cond (decide ((i:Int)<(a.length:Int))) rfl (fun ac=>?_) (fun ac=>?_)
 ·replace hM:=M.e_t hM ac;replace ac:=dI ac;refine kg 4 ?_;refine W.draw (fun W=>St w W [] R) [(0,true),(1,true),(2,true),(3,true),(4,true),(5,true),(6,true),(7,true),(8,true)] mixed (by decide +kernel) rfl ?_;intro aL av;replace H:=H.ext av;clear av;refine ⟨(H.pk []),?_⟩;obtain ⟨aM,hM⟩:=M.e_gd hM;obtain ⟨aN,hM⟩:=M.e_gd hM;refine kg 8 ?_;refine d_q rfl (fun w' H=>x_neS (eqT44 (a.getD i default) (b.getD i default) _) gdT44 rfl rfl) ?_;refine d_nil ?_;refine W.cond (!(decide ((a.getD i default)=(b.getD i default)))) rfl (fun al=>?_) (fun al=>?_)
  ·replace hM:=M.e_t hM al;refine kg 4 ?_;refine W.ret ?_;have aA:=M.e_inr hM ak;subst aA;replace hM:=aq;(try dsimp only at hM);have ae:=M.e_pure hM;exact ⟨_,resE_tmp rfl,⟨false,ae,rfl,H⟩⟩
  replace hM:=M.e_f hM al;refine kg 6 ?_;exact ⟨ay,az,i+1,_,upds_of _ _ ⟨rfl,rfl,rfl,trivial⟩,M.e_inl hM ak,H⟩
 replace hM:=M.e_f hM ac;replace ac:=dI ac;refine W.exit ?_;have aB:=M.e_inr hM ak;subst aB;replace hM:=aq;(try dsimp only at hM);refine kg 4 ?_;refine W.ret ?_;have ae:=M.e_pure hM;exact ⟨_,resE_tmp rfl,⟨true,ae,rfl,H⟩⟩

def zb3 (a b:List FRow):Nat->M (Nat ⊕ (Unit ⊕ Unit)):=fun i =>
  bif decide ((i:Int)<(a.length:Int)) then (
  M.grd (decide ((i:Int)<(a.length:Int))) <|
  M.grd (decide ((i:Int)<(b.length:Int))) <|
  bif !(decide ((a.getD i default)=(b.getD i default))) then (
  M.pure (.inr (.inl ())))
  else (
  M.pure (.inl (i+1))))
  else (
  M.pure (.inr (.inr ())))
def zcN (a b:List FRow):M Bool :=
  bif (a.length:Int) != (b.length:Int) then (
  M.pure false)
  else (
  M.bind (M.iter (zb3 a b) 0) fun x_=>match x_ with
  | (.inl (_:Unit))=>(
  M.pure false)
  | (.inr (_:Unit))=>(
  M.pure true))
theorem zfa {R:List Chunk} {am:Cells} {ag:Value} {ao:Cells} {ai:Value} (a:List FRow) (b:List FRow) (aC:Reads R am) (ap:Sl am ag a) (aD:Reads R ao) (aw:Sl ao ai b) {r:Bool} (hM:(zcN a b).Ends r) (w:World) (H:St w w [] R):Ret Tryz.prog 71 #[ag,ai] w fun v w'=>∃ (y0:Bool),y0=r/\v=B y0/\St w w' [] R:=by
 refine ret_of_W Tryz.func71 rfl rfl rfl ?_;have aE:=(ap).len_le;have aF:=(aw).len_le;refine kg 13 ?_;refine W.cond ((a.length:Int) != (b.length:Int)) rfl (fun ab=>?_) (fun ab=>?_)
 ·replace hM:=M.e_t hM ab;replace ab:=dI ab;refine kg 4 ?_;refine W.ret ?_;have ae:=M.e_pure hM;exact ⟨_,resE_tmp rfl,⟨false,ae,rfl,H⟩⟩
 replace hM:=M.e_f hM ab;replace ab:=dI ab;refine kg 7 ?_;obtain ⟨ax,aj,aq⟩:=M.e_bind hM;obtain ⟨aG,aj⟩:=M.e_iter aj;refine W.loop (fun m σ W=>∃ (i:Nat) (ρ:Env),σ=upds ρ [(0,ag),(1,ai),(5,I (i:Int))]/\M.iterN (zb3 a b) m i=some ax/\St w W [] R) ?_ ?_
 ·exact ⟨_,0,_,upds_of _ _ ⟨rfl,rfl,rfl,trivial⟩,aj,H⟩
 rintro aH σ aI ⟨i,ρ,rfl,au,H⟩;obtain ⟨ay,az,aJ,hM,ak⟩:=M.e_iterN au;simp only [zb3] at hM;clear au;have aK:=(ap).len_le;refine kg 8 ?_;refine W.cond (decide ((i:Int)<(a.length:Int))) rfl (fun ac=>?_) (fun ac=>?_)
 ·replace hM:=M.e_t hM ac;replace ac:=dI ac;refine kg 4 ?_;refine W.draw (fun W=>St w W [] R) [(0,true),(1,true),(2,true),(3,true),(4,true),(5,true),(6,true),(7,true),(8,true)] mixed (by decide +kernel) rfl ?_;intro aL av;replace H:=H.ext av;clear av;refine ⟨(H.pk []),?_⟩;obtain ⟨aM,hM⟩:=M.e_gd hM;obtain ⟨aN,hM⟩:=M.e_gd hM;refine kg 8 ?_;refine d_q rfl (fun w' H=>x_neS (eqT40 (a.getD i default) (b.getD i default) _) gdT40 rfl rfl) ?_;refine d_nil ?_;refine W.cond (!(decide ((a.getD i default)=(b.getD i default)))) rfl (fun al=>?_) (fun al=>?_)
  ·replace hM:=M.e_t hM al;refine kg 4 ?_;refine W.ret ?_;have aA:=M.e_inr hM ak;subst aA;replace hM:=aq;(try dsimp only at hM);have ae:=M.e_pure hM;exact ⟨_,resE_tmp rfl,⟨false,ae,rfl,H⟩⟩
  replace hM:=M.e_f hM al;refine kg 6 ?_;exact ⟨ay,az,i+1,_,upds_of _ _ ⟨rfl,rfl,rfl,trivial⟩,M.e_inl hM ak,H⟩
 replace hM:=M.e_f hM ac;replace ac:=dI ac;refine W.exit ?_;have aB:=M.e_inr hM ak;subst aB;replace hM:=aq;(try dsimp only at hM);refine kg 4 ?_;refine W.ret ?_;have ae:=M.e_pure hM;exact ⟨_,resE_tmp rfl,⟨true,ae,rfl,H⟩⟩

def zb2 (ab ac:List Sect):Nat->M (Nat ⊕ (Unit ⊕ Unit)):=fun i =>
  bif decide ((i:Int)<(ab.length:Int)) then (
  M.grd (decide ((i:Int)<(ab.length:Int))) <|
  M.grd (decide ((i:Int)<(ac.length:Int))) <|
  M.bind (M.opt (!(((ab.getD i default).place) != ((ac.getD i default).place))) (zcN ((ab.getD i default).rows) ((ac.getD i default).rows)) false) fun r4 =>
  bif ((((ab.getD i default).place) != ((ac.getD i default).place))||(!r4)) then (
  M.pure (.inr (.inl ())))
  else (
  M.pure (.inl (i+1))))
  else (
  M.pure (.inr (.inr ())))
def za9 (ab:List Sect) (ae:List Mrk) (ag:List Rch) (ac:List Sect) (ai:List Mrk) (aj:List Rch):M Bool :=
  M.bind (M.opt (!((ab.length:Int) != (ac.length:Int))) (zcX ae ai) false) fun r2 =>
  M.bind (M.opt (!(((ab.length:Int) != (ac.length:Int))||(!r2))) (zcy ag aj) false) fun r3 =>
  bif ((((ab.length:Int) != (ac.length:Int))||(!r2))||(!r3)) then (
  M.pure false)
  else (
  M.bind (M.iter (zb2 ab ac) 0) fun x_=>match x_ with
  | (.inl (_:Unit))=>(
  M.pure false)
  | (.inr (_:Unit))=>(
  M.pure true))
theorem zdC {R:List Chunk} {aJ:Cells} {ao:Value} {aK:Cells} {ak:Value} {aL:Cells} {ai:Value} {aM:Cells} {ap:Value} {aN:Cells} {al:Value} {aO:Cells} {aj:Value} (ab:List Sect) (ay:List Mrk) (az:List Rch) (ac:List Sect) (aA:List Mrk) (aB:List Rch) (aP:Reads R aJ) (aC:Sl aJ ao ab) (aU:Reads R aK) (aV:Sl aK ak ay) (aW:Reads R aL) (aX:Sl aL ai az) (aQ:Reads R aM) (aR:Sl aM ap ac) (aY:Reads R aN) (aZ:Sl aN al aA) (a6:Reads R aO) (a7:Sl aO aj aB) {r:Bool} (hM:(za9 ab ay az ac aA aB).Ends r) (w:World) (H:St w w [] R):Ret Tryz.prog 27 #[.agg #[ao,ak,ai],.agg #[ap,al,aj]] w fun v w'=>∃ (y0:Bool),y0=r/\v=B y0/\St w w' [] R:=by
 refine ret_of_W Tryz.func27 rfl rfl rfl ?_;refine kg 2 ?_;refine t_bx [ao,ak,ai] H rfl ?_;intro aq bn H;refine t_bx [ap,al,aj] H rfl ?_;intro au bo H;have bp:=(aC).len_le;have br:=(aR).len_le;refine kg 17 ?_;obtain ⟨r2,a8,hM⟩:=M.e_bind hM;refine t_gcall (!((ab.length:Int) != (ac.length:Int))) (gy_f rfl) cf69 (B r2) (fun _=>[ak,al]) (fun hg=>lst2 (gd_of hg (ak)) (gd_of hg (al))) H (fun hg=>(zeS ay aA (aU.app _) aV (aY.app _) aZ (M.e_opt a8 hg) _ (H.give (A:=[]) rfl)).mono fun v_ w_ ⟨y_,ae,av,H_⟩=>by subst ae; exact ⟨av,H.via H_⟩) ?_;intro bt H;refine kg 1 ?_;refine s_val (x_por (b:=(ab.length:Int) != (ac.length:Int)) (r:=!r2) rfl rfl (fun hb=>gd_of (c:=!((ab.length:Int) != (ac.length:Int))) (by first | exact hb | (rw [hb]; rfl) | simp_all) (B (!r2))))<|zM (B (((ab.length:Int) != (ac.length:Int))||(!r2))) rfl<|g_val (!(((ab.length:Int) != (ac.length:Int))||(!r2))) (gy_f rfl) (fun hg=>x_fa (v:=Oq aq 2) rfl (fa_blk (o:=0) Fd27_2 Sz25))<|g_val (!(((ab.length:Int) != (ac.length:Int))||(!r2))) (gy_f rfl) (fun hg=>x_ld (v:=ai) (gd_of hg (Oq aq 2)) (ldb_sc Sc25 (H.bl 1) rfl))<|g_val (!(((ab.length:Int) != (ac.length:Int))||(!r2))) (gy_f rfl) (fun hg=>x_fa (v:=Oq au 2) rfl (fa_blk (o:=0) Fd27_2 Sz25))<|g_val (!(((ab.length:Int) != (ac.length:Int))||(!r2))) (gy_f rfl) (fun hg=>x_ld (v:=aj) (gd_of hg (Oq au 2)) (ldb_sc Sc25 (H.bl 0) rfl)) ?_;obtain ⟨r3,ba,hM⟩:=M.e_bind hM;refine t_gcall (!(((ab.length:Int) != (ac.length:Int))||(!r2))) (gy_f rfl) cf70 (B r3) (fun _=>[ai,aj]) (fun hg=>lst2 (gd_of hg (ai)) (gd_of hg (aj))) H (fun hg=>(zfc az aB (aW.app _) aX (a6.app _) a7 (M.e_opt ba hg) _ (H.give (A:=[]) rfl)).mono fun v_ w_ ⟨y_,ae,av,H_⟩=>by subst ae; exact ⟨av,H.via H_⟩) ?_;intro bu H;refine g_val (!(((ab.length:Int) != (ac.length:Int))||(!r2))) (gy_f rfl) (fun hg=>x_not (b:=r3) (gd_of hg (B r3)))<|s_val (x_por (b:=(((ab.length:Int) != (ac.length:Int))||(!r2))) (r:=!r3) rfl rfl (fun hb=>gd_of (c:=!(((ab.length:Int) != (ac.length:Int))||(!r2))) (by first | exact hb | (rw [hb]; rfl) | simp_all) (B (!r3))))<|s_nil ?_
 refine W.cond ((((ab.length:Int) != (ac.length:Int))||(!r2))||(!r3)) rfl (fun aD=>?_) (fun aD=>?_)
 ·replace hM:=M.e_t hM aD;refine kg 4 ?_;replace H:=H.pk [];refine W.ret ?_;have ae:=M.e_pure hM;exact ⟨_,resE_tmp rfl,⟨false,ae,rfl,H⟩⟩
 replace hM:=M.e_f hM aD;refine kg 7 ?_;obtain ⟨bb,aE,aS⟩:=M.e_bind hM;obtain ⟨bv,aE⟩:=M.e_iter aE;refine W.loop (fun m σ W=>∃ (i:Nat) (ρ:Env),σ=upds ρ [(2,Pq aq),(3,Pq au),(5,I (i:Int))]/\M.iterN (zb2 ab ac) m i=some bb/\St w W [cBlk au [ap,al,aj] 27,cBlk aq [ao,ak,ai] 27] R) ?_ ?_
 ·exact ⟨_,0,_,upds_of _ _ ⟨rfl,rfl,rfl,trivial⟩,aE,H⟩
 rintro bw σ bx ⟨i,ρ,rfl,aT,H⟩;obtain ⟨bc,bf,bz,hM,aF⟩:=M.e_iterN aT;simp only [zb2] at hM;clear aT;have bA:=(aC).len_le;refine kg 9 ?_;refine W.cond (decide ((i:Int)<(ab.length:Int))) rfl (fun am=>?_) (fun am=>?_)
 ·replace hM:=M.e_t hM am;replace am:=dI am;refine kg 4 ?_;refine W.draw (fun W=>St w W [cBlk au [ap,al,aj] 27,cBlk aq [ao,ak,ai] 27] R) [(0,true),(1,true),(2,true),(3,true),(4,true),(5,true),(6,true),(7,true),(8,true),(9,true),(10,true),(11,true),(12,true),(13,true),(14,true),(15,true),(16,true),(17,true),(18,true),(19,true),(20,true),(21,true),(22,true),(23,true),(24,true),(25,true),(26,false),(27,true),(28,true)] mixed (by decide +kernel) rfl ?_;intro bB ag;replace H:=H.ext ag;clear ag;refine ⟨(H.pk [0,1]),?_⟩;obtain ⟨bC,hM⟩:=M.e_gd hM;obtain ⟨bD,hM⟩:=M.e_gd hM;refine kg 19 ?_;obtain ⟨aw,bg,aG⟩:=gd_ex (c:=!(((ab.getD i default).place) != ((ac.getD i default).place))) fun hg=>Sect_at1 aC (i:=(i:Int)) (by first | omega | (have ag:=hg; simp at ag; omega)) (by first | omega | (have ag:=hg; simp at ag; omega));replace aG:(!(((ab.getD i default).place) != ((ac.getD i default).place)))=true->Sl _ aw (ab.getD i default).rows:=aG;refine d_qg (!(((ab.getD i default).place) != ((ac.getD i default).place))) rfl (gy_f rfl) (fun hg=>(fun w' H=>x_ld (v:=aw) (gd_of hg (fat (vat ao 2 (Int.toNat (i:Int))) 1)) (ld_sc Sc37 (At.mono (bg hg) (aP.at H))))) ?_;refine kg 5 ?_;obtain ⟨ax,bh,aH⟩:=gd_ex (c:=!(((ab.getD i default).place) != ((ac.getD i default).place))) fun hg=>Sect_at1 aR (i:=(i:Int)) (by first | omega | (have ag:=hg; simp at ag; omega)) (by first | omega | (have ag:=hg; simp at ag; omega));replace aH:(!(((ab.getD i default).place) != ((ac.getD i default).place)))=true->Sl _ ax (ac.getD i default).rows:=aH;refine d_qg (!(((ab.getD i default).place) != ((ac.getD i default).place))) rfl (gy_f rfl) (fun hg=>(fun w' H=>x_ld (v:=ax) (gd_of hg (fat (vat ap 2 (Int.toNat (i:Int))) 1)) (ld_sc Sc37 (At.mono (bh hg) (aQ.at H)))))<|d_l rfl ?_;obtain ⟨r4,bi,hM⟩:=M.e_bind hM;refine t_gcall (!(((ab.getD i default).place) != ((ac.getD i default).place))) (gy_f rfl) cf71 (B r4) (fun _=>[aw,ax]) (fun hg=>lst2 (gd_of hg (aw)) (gd_of hg (ax))) H (fun hg=>(zfa ((ab.getD i default).rows) ((ac.getD i default).rows) (aP.app _) (aG hg) (aQ.app _) (aH hg) (M.e_opt bi hg) _ (H.give (A:=[]) rfl)).mono fun v_ w_ ⟨y_,ae,av,H_⟩=>by subst ae; exact ⟨av,H.via H_⟩) ?_;intro bE H
  refine s_nil ⟨(H.pk [0,1]),?_⟩;refine kg 1 ?_;refine d_q rfl (fun w' H=>x_por (b:=((ab.getD i default).place) != ((ac.getD i default).place)) (r:=!r4) rfl rfl (fun hb=>gd_of (c:=!(((ab.getD i default).place) != ((ac.getD i default).place))) (by first | exact hb | (rw [hb]; rfl) | simp_all) (B (!r4)))) ?_;refine d_nil ?_;refine W.cond ((((ab.getD i default).place) != ((ac.getD i default).place))||(!r4)) rfl (fun aI=>?_) (fun aI=>?_)
  ·replace hM:=M.e_t hM aI;refine kg 4 ?_;refine W.ret ?_;have bj:=M.e_inr hM aF;subst bj;replace hM:=aS;(try dsimp only at hM);have ae:=M.e_pure hM;exact ⟨_,resE_tmp rfl,⟨false,ae,rfl,(H.pk [])⟩⟩
  replace hM:=M.e_f hM aI;refine kg 6 ?_;exact ⟨bc,bf,i+1,_,upds_of _ _ ⟨rfl,rfl,rfl,trivial⟩,M.e_inl hM aF,H⟩
 replace hM:=M.e_f hM am;replace am:=dI am;refine W.exit ?_;have bm:=M.e_inr hM aF;subst bm;replace hM:=aS;(try dsimp only at hM);replace H:=H.pk [];refine kg 4 ?_;refine W.ret ?_;have ae:=M.e_pure hM;exact ⟨_,resE_tmp rfl,⟨true,ae,rfl,H⟩⟩

def zcc (a b:List Int):Nat->M (Nat ⊕ (Unit ⊕ Unit)):=fun i =>
  bif decide ((i:Int)<(a.length:Int)) then (
  M.grd (decide ((i:Int)<(a.length:Int))) <|
  M.grd (decide ((i:Int)<(b.length:Int))) <|
  bif (a.getD i 0) != (b.getD i 0) then (
  M.pure (.inr (.inl ())))
  else (
  M.pure (.inl (i+1))))
  else (
  M.pure (.inr (.inr ())))
def zbg (a b:List Int):M Bool :=
  bif (a.length:Int) != (b.length:Int) then (
  M.pure false)
  else (
  M.bind (M.iter (zcc a b) 0) fun x_=>match x_ with
  | (.inl (_:Unit))=>(
  M.pure false)
  | (.inr (_:Unit))=>(
  M.pure true))
theorem zde {R:List Chunk} {am:Cells} {ai:Value} {ao:Cells} {aj:Value} (a:List Int) (b:List Int) (aC:Reads R am) (ap:Sl am ai a) (aD:Reads R ao) (aw:Sl ao aj b) {r:Bool} (hM:(zbg a b).Ends r) (w:World) (H:St w w [] R):Ret Tryz.prog 41 #[ai,aj] w fun v w'=>∃ (y0:Bool),y0=r/\v=B y0/\St w w' [] R:=by
 refine ret_of_W Tryz.func41 rfl rfl rfl ?_;have aE:=(ap).len_le;have aF:=(aw).len_le;refine kg 13 ?_;refine W.cond ((a.length:Int) != (b.length:Int)) rfl (fun ab=>?_) (fun ab=>?_)
 ·replace hM:=M.e_t hM ab;replace ab:=dI ab;refine kg 4 ?_;refine W.ret ?_;have ag:=M.e_pure hM;exact ⟨_,resE_tmp rfl,⟨false,ag,rfl,H⟩⟩
 replace hM:=M.e_f hM ab;replace ab:=dI ab;refine kg 7 ?_;obtain ⟨ax,ak,aq⟩:=M.e_bind hM;obtain ⟨aG,ak⟩:=M.e_iter ak;refine W.loop (fun m σ W=>∃ (i:Nat) (ρ:Env),σ=upds ρ [(0,ai),(1,aj),(5,I (i:Int))]/\M.iterN (zcc a b) m i=some ax/\St w W [] R) ?_ ?_
 ·exact ⟨_,0,_,upds_of _ _ ⟨rfl,rfl,rfl,trivial⟩,ak,H⟩
 rintro aH σ aI ⟨i,ρ,rfl,au,H⟩;obtain ⟨ay,az,aJ,hM,al⟩:=M.e_iterN au;simp only [zcc] at hM;clear au;have aK:=(ap).len_le;refine kg 8 ?_;refine W.cond (decide ((i:Int)<(a.length:Int))) rfl (fun ac=>?_) (fun ac=>?_)
 ·replace hM:=M.e_t hM ac;replace ac:=dI ac;refine kg 4 ?_;refine W.draw (fun W=>St w W [] R) [(0,true),(1,true),(2,true),(3,true),(4,true),(5,true),(6,true),(7,true),(8,true)] mixed (by decide +kernel) rfl ?_;intro aL av;replace H:=H.ext av;clear av;refine ⟨(H.pk []),?_⟩;obtain ⟨aM,hM⟩:=M.e_gd hM;obtain ⟨aN,hM⟩:=M.e_gd hM;refine kg 10 ?_;refine W.cond ((a.getD i 0) != (b.getD i 0)) rfl (fun ae=>?_) (fun ae=>?_)
  ·replace hM:=M.e_t hM ae;replace ae:=dI ae;refine kg 4 ?_;refine W.ret ?_;have aA:=M.e_inr hM al;subst aA;replace hM:=aq;(try dsimp only at hM);have ag:=M.e_pure hM;exact ⟨_,resE_tmp rfl,⟨false,ag,rfl,H⟩⟩
  replace hM:=M.e_f hM ae;replace ae:=dI ae;refine kg 6 ?_;exact ⟨ay,az,i+1,_,upds_of _ _ ⟨rfl,rfl,rfl,trivial⟩,M.e_inl hM al,H⟩
 replace hM:=M.e_f hM ac;replace ac:=dI ac;refine W.exit ?_;have aB:=M.e_inr hM al;subst aB;replace hM:=aq;(try dsimp only at hM);refine kg 4 ?_;refine W.ret ?_;have ag:=M.e_pure hM;exact ⟨_,resE_tmp rfl,⟨true,ag,rfl,H⟩⟩

end Go.Proofs.YtbldmjejckjflaaGreat
end
section
set_option maxRecDepth 100000
set_option maxHeartbeats 16000000
namespace Go.Proofs.YtbldmjejckjflaaGreat
open Go Go.Nm
attribute [local irreducible] gd execOp SL SLD SLT WR
def zaX (s_Sections:List Sect) (s_Marks:List Mrk) (s_Reaches:List Rch) (marks:List Int) (flow:Span) (ab ac:Int) (ae:Bool):(Bool × Int × Int)->Int->M ((Bool × Int × Int) ⊕ Unit):=fun (s4,s5,s6) x =>
  M.bind (zaA s_Sections s_Marks s_Reaches marks (⟨(ab:Int),(ac:Int),(x:Int),(x:Int),ae⟩:Rch)) fun (r0,r1) =>
  bif ((decide (r1<flow.lo))||(decide (flow.hi<r0))) then (
  M.pure (.inl (s4,s5,s6)))
  else (
  bif !s4 then (
  M.pure (.inl (true,x,x)))
  else (
  M.pure (.inl (s4,s5,x))))
def zb0 (s_Sections:List Sect) (s_Marks:List Mrk) (s_Reaches:List Rch) (marks:List Int) (reach:Int) (flow:Span):M (Int × Int × Int) :=
  M.bind (zav s_Sections s_Marks s_Reaches marks reach) fun x_=>match x_ with
  | (.inl (am,ao,ap,aq,au,r2))=>(
  bif r2 != 0 then (
  M.pure (0,0,r2))
  else (
  M.fail))
  | (.inr (ab,ac,ae,ag,ai,aj))=>(
  bif aj != 0 then (
  M.fail)
  else (
  bif ((decide (flow.lo<0))||(decide (flow.hi<flow.lo))) then (
  M.pure (0,0,4))
  else (
  M.bind (zaq s_Sections s_Marks s_Reaches marks) fun r3 =>
  bif !r3 then (
  M.pure (0,0,7))
  else (
  M.bind (zaV (⟨(ae:Int),(ag:Int)⟩:Span)) fun (ak,al) =>
  M.bind (za6 (M.yl (zaX s_Sections s_Marks s_Reaches marks flow ab ac ai)) (.inl (false,0,0)) ak al) fun x_=>match x_ with
  | .inl (s4,s5,s6)=>(
  bif !s4 then (
  M.pure (0,0,5))
  else (
  M.pure (s5,s6,0)))
  | .inr _=>M.fail))))
theorem ze7 {R:List Chunk} {a7:Cells} {ai:Value} {a8:Cells} {aj:Value} {ba:Cells} {ak:Value} {bb:Cells} {ao:Value} (s_Sections:List Sect) (s_Marks:List Mrk) (s_Reaches:List Rch) (marks:List Int) (reach:Int) (flow:Span) (aC:Reads R a7) (aN:Sl a7 ai s_Sections) (aD:Reads R a8) (aO:Sl a8 aj s_Marks) (aE:Reads R ba) (aP:Sl ba ak s_Reaches) (aF:Reads R bb) (aG:Sl bb ao marks) {r:(Int × Int × Int)} (hM:(zb0 s_Sections s_Marks s_Reaches marks reach flow).Ends r) (w:World) (H:St w w [] R):Ret Tryz.prog 42 #[.agg #[ai,aj,ak],ao,I reach,.agg #[I flow.lo,I flow.hi]] w fun v w'=>∃ (y0:Int) (y1:Int) (y2:Int),(y0,y1,y2)=r/\v = .tuple #[.agg #[I y0,I y1],I y2]/\St w w' [] R:=by
 refine ret_of_WD Tryz.func42 rfl rfl rfl ?_;replace H:St w w [cMk ([])] R:=H.mk0;have bG:=aN.len_le;have bH:=aO.len_le;have bI:=aP.len_le;have bJ:=aG.len_le;unfold zb0 at hM;refine WD.seq<|WD.of<|W.region rfl ?_;refine t_bx [ai,aj,ak] H rfl ?_;intro aH bK H;refine t_box (v:=ao) (cs:=[ao]) H rfl (Sl.cells aG) ?_;intro aI bL H;refine t_bx [I flow.lo,I flow.hi] H rfl ?_;intro aJ bM H;refine t_alloc (cs:=[I 0,I 0]) H Al30 rfl ?_;intro aK bN H;refine kg 2 ?_;refine WD.seq<|WD.of ?_;refine kg 4 ?_;obtain ⟨bO,bm,hM⟩:=M.e_bind hM;refine s_call cf79 [.agg #[ai,aj,ak],ao,I reach] rfl (zdi s_Sections s_Marks s_Reaches marks reach (aC.app _) aN (aD.app _) aO (aE.app _) aP (aF.app _) aG bm _ (H.gt 5)) ?_
 rintro vq bP (⟨bc,bf,bg,bh,bi,r2,bn,hvq,ab⟩ | ⟨ac,ae,ap,aq,ag,bo,al,am,bp,hvq,ab⟩)
 ·subst bn;subst vq;(try dsimp only at hM);replace H:=H.bk ab;clear ab;refine kg 4 ?_;refine t_alloc (cs:=[.pointer none]) H Al107 rfl ?_;intro ax bQ H;refine t_alloc (cs:=[I 0,I 0,I 0,I 0,B false]) H Al44 rfl ?_;intro ay bR H;refine t_sw 1 0 [.pointer none] (.pointer none) H rfl rfl Sz107 rfl rfl rfl rfl ?_;intro bS H;refine t_sw 0 0 [I bc,I bf,I bg,I bh,B bi] (.agg #[I bc,I bf,I bg,I bh,B bi]) H rfl rfl Sz44 rfl rfl rfl rfl ?_;intro bT H;refine kg 2 ?_;refine WD.seq<|WD.block<|WD.seq<|WD.of ?_;refine kg 5 ?_
  refine WD.cond (r2 != 0) rfl (fun aL=>?_) (fun aL=>?_)
  ·replace hM:=M.e_t hM aL;replace aL:=dI aL;refine WD.seq<|WD.of<|W.region rfl<|s_val (x_bld (ps:=[]) (zs:=[I 0,I 0]) (L':=[I 0,I 0]) rfl Tryz.underlying30 Al30 rfl (Bd30 Tryz.underlying30) (.nil)) ?_;refine kg 1 ?_;refine t_sw 2 0 [I 0,I 0] (.agg #[I 0,I 0]) H rfl rfl Sz30 rfl rfl rfl rfl ?_;intro bU H;refine kg 2 ?_;replace H:=H.pk [2,6];refine WD.of ?_;refine W.ret ?_;refine bodyD_r (H.pk [1,0]) ?_;intro bV H;replace H:=H.nf
   have br:=(H.bl 0)
   have au:=M.e_pure hM;exact ⟨_,(resE_ofn (vs:=[.agg #[I 0,I 0],I r2]) rfl rfl (.cell (v:=.agg #[I 0,I 0]) rfl (run_loadVar_ag (ds:=[I 0,I 0]) Ag30 Sz30 br rfl rfl)<|.tmp (v:=I r2) rfl<|.nil)),⟨0,0,r2,au,rfl,(H.pk [])⟩⟩
  replace hM:=M.e_f hM aL;exact (M.e_fail hM).elim
 subst bp;subst vq;(try dsimp only at hM);replace H:=H.bk ab;clear ab;refine kg 4 ?_;refine t_alloc (cs:=[.pointer none]) H Al107 rfl ?_;intro ax bW H;refine t_alloc (cs:=[I 0,I 0,I 0,I 0,B false]) H Al44 rfl ?_;intro ay bX H;refine t_sw 1 0 [Pq al] (Pq al) H rfl rfl Sz107 rfl rfl rfl rfl ?_;intro bY H;refine t_sw 0 0 [I ac,I ae,I ap,I aq,B ag] (.agg #[I ac,I ae,I ap,I aq,B ag]) H rfl rfl Sz44 rfl rfl rfl rfl ?_;intro bZ H;refine kg 2 ?_;refine WD.seq<|WD.block<|WD.seq<|WD.of ?_;refine kg 5 ?_
 refine WD.cond (bo != 0) rfl (fun aM=>?_) (fun aM=>?_)
 ·replace hM:=M.e_t hM aM;exact (M.e_fail hM).elim
 replace hM:=M.e_f hM aM;replace aM:=dI aM;refine WD.seq<|WD.of ?_;refine kg 10 ?_;refine s_val (x_por (b:=decide (flow.lo<0)) (r:=decide (flow.hi<flow.lo)) rfl rfl (fun hb=>gd_of (c:=!(decide (flow.lo<0))) (by first | exact hb | (rw [hb]; rfl) | simp_all) (B (decide (flow.hi<flow.lo)))))<|zA (B ((decide (flow.lo<0))||(decide (flow.hi<flow.lo)))) rfl<|s_nil ?_
 refine WD.cond ((decide (flow.lo<0))||(decide (flow.hi<flow.lo))) rfl (fun aT=>?_) (fun aT=>?_)
 ·replace hM:=M.e_t hM aT;refine WD.seq<|WD.of<|W.region rfl<|s_val (x_bld (ps:=[]) (zs:=[I 0,I 0]) (L':=[I 0,I 0]) rfl Tryz.underlying30 Al30 rfl (Bd30 Tryz.underlying30) (.nil)) ?_;refine t_sw 4 0 [I 0,I 0] (.agg #[I 0,I 0]) H rfl rfl Sz30 rfl rfl rfl rfl ?_;intro b0 H;refine kg 2 ?_;replace H:=H.pk [4,8];refine WD.of ?_;refine W.ret ?_;refine bodyD_r (H.pk [1,0]) ?_;intro b4 H;replace H:=H.nf
  have bt:=(H.bl 0)
  have au:=M.e_pure hM;exact ⟨_,(resE_ofn (vs:=[.agg #[I 0,I 0],I 4]) rfl rfl (.cell (v:=.agg #[I 0,I 0]) rfl (run_loadVar_ag (ds:=[I 0,I 0]) Ag30 Sz30 bt rfl rfl)<|.tmp (v:=I 4) rfl<|.nil)),⟨0,0,4,au,rfl,(H.pk [])⟩⟩
 replace hM:=M.e_f hM aT;refine WD.seq<|WD.of ?_;refine kg 3 ?_;obtain ⟨b5,bu,hM⟩:=M.e_bind hM;refine s_call cf73 [Pq al,ao] rfl (zbw s_Sections s_Marks s_Reaches marks (aC.app _) aN (aD.app _) aO (aE.app _) aP (Has.here (k:=2) rfl) (aF.app _) aG bu _ (H.gt 9)) ?_
 rintro vq b6 ⟨r3,rfl,hvq,ab⟩;subst vq;(try dsimp only at hM);replace H:=H.bk ab;clear ab;refine kg 3 ?_;refine WD.cond (!r3) rfl (fun aU=>?_) (fun aU=>?_)
 ·replace hM:=M.e_t hM aU;refine WD.seq<|WD.of<|W.region rfl<|s_val (x_bld (ps:=[]) (zs:=[I 0,I 0]) (L':=[I 0,I 0]) rfl Tryz.underlying30 Al30 rfl (Bd30 Tryz.underlying30) (.nil)) ?_;refine t_sw 4 0 [I 0,I 0] (.agg #[I 0,I 0]) H rfl rfl Sz30 rfl rfl rfl rfl ?_;intro b7 H;refine kg 2 ?_;replace H:=H.pk [4,8];refine WD.of ?_;refine W.ret ?_;refine bodyD_r (H.pk [1,0]) ?_;intro b8 H;replace H:=H.nf
  have bv:=(H.bl 0)
  have au:=M.e_pure hM;exact ⟨_,(resE_ofn (vs:=[.agg #[I 0,I 0],I 7]) rfl rfl (.cell (v:=.agg #[I 0,I 0]) rfl (run_loadVar_ag (ds:=[I 0,I 0]) Ag30 Sz30 bv rfl rfl)<|.tmp (v:=I 7) rfl<|.nil)),⟨0,0,7,au,rfl,(H.pk [])⟩⟩
 replace hM:=M.e_f hM aU;refine WD.of<|W.skip<|WD.seq<|WD.of<|W.region rfl<|s_val (x_bld (ps:=[]) (zs:=[I 0,I 0]) (L':=[I 0,I 0]) rfl Tryz.underlying30 Al30 rfl (Bd30 Tryz.underlying30) (.nil)) ?_;refine t_alloc (cs:=[I 0,I 0]) H Al30 rfl ?_;intro av b9 H;refine t_alloc (cs:=[B false]) H Al4 rfl ?_;intro aw ca H;refine t_sw 1 0 [I 0,I 0] (.agg #[I 0,I 0]) H rfl rfl Sz30 rfl rfl rfl rfl ?_;intro cb H;refine t_sw 0 0 [B false] (B false) H rfl rfl Sz4 rfl rfl rfl rfl ?_;intro cc H;refine s_nil<|WD.seq<|WD.seq<|WD.of ?_;refine kg 3 ?_;obtain ⟨cd,bw,hM⟩:=M.e_bind hM;refine s_call cf87 [.agg #[I ap,I aq]] rfl (zdq (⟨(ap:Int),(aq:Int)⟩:Span) bw _ (H.gt 11)) ?_
 rintro vq ce ⟨az,aA,aB,rfl,hvq,ab⟩;subst vq;(try dsimp only at hM);replace H:=H.bk ab;clear ab;refine s_nil<|WD.block ?_;obtain ⟨cf,bx,hM⟩:=M.e_bind hM;refine WD.range (L:=[cBlk aw [B false] 4,cBlk av [I 0,I 0] 30,cMemI encSpt am (zaa s_Sections s_Marks s_Reaches),cBlk aB [I az,I aA] 30,cBlk ay [I ac,I ae,I ap,I aq,B ag] 44,cBlk ax [Pq al] 107,cBlk al [ai,aj,ak,.map (some am)] 163,cBlk aK [I 0,I 0] 30,cBlk aJ [I flow.lo,I flow.hi] 30,cBlk aI [ao] 22,cBlk aH [ai,aj,ak] 27]) [Pq aB] (H.pk [11,1,2,6,0,3,4,5,7,8,9,10]) rfl cf111 ?_;intro aQ aV aW bz aX H
 have hYC:YieldC Tryz.prog ([cMk (aV :: ([])),cBlk aB [I az,I aA] 30,cBlk ay [I ac,I ae,I ap,I aq,B ag] 44,cBlk ax [Pq al] 107,cBlk al [ai,aj,ak,.map (some am)] 163,cBlk aK [I 0,I 0] 30,cBlk aJ [I flow.lo,I flow.hi] 30,cBlk aI [ao] 22,cBlk aH [ai,aj,ak] 27]++R) arI (yJ aQ aW (fun (s4,s5,s6) aR=>aR=[cBlk aw [B s4] 4,cBlk av [I s5,I s6] 30,cMemI encSpt am (zaa s_Sections s_Marks s_Reaches)]) (fun (_:Unit) _=>False) (fun _=>.ret)) (.func (.yield aQ) #[] #[]) (M.yl (zaX s_Sections s_Marks s_Reaches marks flow ac ae ag)):=by
  refine YieldC.mk aX (fun (s4,s5,s6) aR=>aR=[cBlk aw [B s4] 4,cBlk av [I s5,I s6] 30,cMemI encSpt am (zaa s_Sections s_Marks s_Reaches)]) (fun (_:Unit) _=>False) (fun _=>.ret) (zaX s_Sections s_Marks s_Reaches marks flow ac ae ag) (by rintro ⟨s4,s5,s6⟩ _ h_; obtain ⟨rfl⟩:=h_; rfl) (fun _ _ h_=>h_.elim) rfl (arI_len rfl) ?_;intro C_ cg x W_ bA;obtain rfl:=bA;refine kg 3 ?_;refine ⟨rfl,rfl,?_⟩;intro w R aS aR s_ r bB hM H;obtain ⟨s4,s5,s6⟩:=s_;obtain ⟨rfl⟩:=bB;replace aC:=aC.sub aS;replace aD:=aD.sub aS;replace aE:=aE.sub aS;replace aF:=aF.sub aS;replace hM:(zaX s_Sections s_Marks s_Reaches marks flow ac ae ag (s4,s5,s6) x).Ends r:=hM;simp only [zaX] at hM;replace H:=H.pk [0,1,2,4,5,6,7,8,9,10,11,3];refine kg 4 ?_;refine t_alloc (cs:=[I 0,I 0,I 0,I 0,B false]) H Al44 rfl ?_;intro ci cj H;refine t_sw 0 0 [I ac,I ae,I ap,I aq,B ag] (.agg #[I ac,I ae,I ap,I aq,B ag]) H rfl rfl Sz44 rfl rfl rfl rfl ?_;intro co H;refine kg 5 ?_;refine s_val (x_bld (ps:=[(0,I x),(1,I x)]) (zs:=[I 0,I 0]) (L':=[I x,I x]) rfl Tryz.underlying30 Al30 rfl (Bd30 Tryz.underlying30) (.cons (cs:=[I x]) rfl rfl rfl rfl rfl<|.cons (cs:=[I x]) rfl rfl rfl rfl rfl<|.nil)) ?_;refine kg 1 ?_;refine t_sw 0 2 [I x,I x] (.agg #[I x,I x]) H rfl rfl Sz30 rfl rfl rfl rfl ?_;intro cp H;refine kg 7 ?_;obtain ⟨cq,bC,hM⟩:=M.e_bind hM;refine s_call cf80 [Pq al,ao,.agg #[I ac,I ae,I x,I x,B ag]] rfl (zcJ s_Sections s_Marks s_Reaches marks (⟨(ac:Int),(ae:Int),(x:Int),(x:Int),ag⟩:Rch) (aC.app _) aN (aD.app _) aO (aE.app _) aP (Has.here (k:=6) rfl) (aF.app _) aG bC _ ((H.pk [3,0,1,2,4,5,6,7,8,9,10,11,12]).gt 12)) ?_;rintro vq cr ⟨r0,r1,rfl,hvq,ab⟩;subst vq;(try dsimp only at hM);replace H:=H.pk [3,0,1,2,4,5,6,7,8,9,10,11,12] |>.bk ab
  clear ab;refine t_alloc (cs:=[I 0,I 0]) H Al30 rfl ?_;intro ct cu H;refine t_sw 0 0 [I r0,I r1] (.agg #[I r0,I r1]) H rfl rfl Sz30 rfl rfl rfl rfl ?_;intro cv H;refine kg 14 ?_;refine s_val (x_por (b:=decide (r1<flow.lo)) (r:=decide (flow.hi<r0)) rfl rfl (fun hb=>gd_of (c:=!(decide (r1<flow.lo))) (by first | exact hb | (rw [hb]; rfl) | simp_all) (B (decide (flow.hi<r0)))))<|s_nil ?_;replace H:=H.pk [1,3,4,5,6,7,8,9,10,11,12,13]
  refine W.cond ((decide (r1<flow.lo))||(decide (flow.hi<r0))) rfl (fun aY=>?_) (fun aY=>?_)
  ·replace hM:=M.e_t hM aY;refine W.exit ?_;exact ⟨(s4,s5,s6),[cBlk aw [B s4] 4,cBlk av [I s5,I s6] 30,cMemI encSpt am (zaa s_Sections s_Marks s_Reaches)],(M.e_pure hM).symm,rfl,H.pick [1,2,0,11,3,4,5,6,7,8,9,10] (by decide) rfl⟩
  replace hM:=M.e_f hM aY;refine kg 7 ?_;refine W.cond (!s4) rfl (fun aZ=>?_) (fun aZ=>?_)
  ·replace hM:=M.e_t hM aZ;refine kg 2 ?_;refine s_val (x_bld (ps:=[(0,I x)]) (zs:=[I 0,I 0]) (L':=[I x,I 0]) rfl Tryz.underlying30 Al30 rfl (Bd30 Tryz.underlying30) (.cons (cs:=[I x]) rfl rfl rfl rfl rfl<|.nil)) ?_;refine t_sw 2 0 [I x,I 0] (.agg #[I x,I 0]) H rfl rfl Sz30 rfl rfl rfl rfl ?_;intro cw H;refine t_sw 1 0 [B true] (B true) H rfl rfl Sz4 rfl rfl rfl rfl ?_;intro cx H;refine kg 4 ?_;refine t_sw 2 1 [I x] (I x) H rfl rfl Sz3 rfl rfl rfl rfl ?_;intro cy H;refine s_nil ?_;exact ⟨(true,x,x),[cBlk aw [B true] 4,cBlk av [I x,I x] 30,cMemI encSpt am (zaa s_Sections s_Marks s_Reaches)],(M.e_pure hM).symm,rfl,H.pick [1,2,0,11,3,4,5,6,7,8,9,10] (by decide) rfl⟩
  replace hM:=M.e_f hM aZ;refine kg 4 ?_;refine t_sw 2 1 [I x] (I x) H rfl rfl Sz3 rfl rfl rfl rfl ?_;intro cz H;refine s_nil ?_;exact ⟨(s4,s5,x),[cBlk aw [B s4] 4,cBlk av [I s5,I x] 30,cMemI encSpt am (zaa s_Sections s_Marks s_Reaches)],(M.e_pure hM).symm,rfl,H.pick [1,2,0,11,3,4,5,6,7,8,9,10] (by decide) rfl⟩
 replace H:St w bz (cAll (cObj aQ (.loop aW) :: [cBlk aw [B false] 4,cBlk av [I 0,I 0] 30,cMemI encSpt am (zaa s_Sections s_Marks s_Reaches)]) :: [cMk (aV :: ([])),cBlk aB [I az,I aA] 30,cBlk ay [I ac,I ae,I ap,I aq,B ag] 44,cBlk ax [Pq al] 107,cBlk al [ai,aj,ak,.map (some am)] 163,cBlk aK [I 0,I 0] 30,cBlk aJ [I flow.lo,I flow.hi] 30,cBlk aI [ao] 22,cBlk aH [ai,aj,ak] 27]) R:=St.bundleB (A:=cObj aQ (.loop aW) :: [cBlk aw [B false] 4,cBlk av [I 0,I 0] 30,cMemI encSpt am (zaa s_Sections s_Marks s_Reaches)]) (T:=[cMk (aV :: ([])),cBlk aB [I az,I aA] 30,cBlk ay [I ac,I ae,I ap,I aq,B ag] 44,cBlk ax [Pq al] 107,cBlk al [ai,aj,ak,.map (some am)] 163,cBlk aK [I 0,I 0] 30,cBlk aJ [I flow.lo,I flow.hi] 30,cBlk aI [ao] 22,cBlk aH [ai,aj,ak] 27]) rfl (H.pk [0,2,3,4,1,5,6,7,8,9,10,11,12]);refine (zdm (M.yl (zaX s_Sections s_Marks s_Reaches marks flow ac ae ag)) (.inl (false,0,0)) az aA hYC ⟨_,rfl,rfl⟩ (Has.here (k:=1) rfl) bx _ (H.gt 9)).mono ?_;rintro vq cA ⟨bD,cB,rfl,hvq,ab,bj⟩;replace H:=H.back ab rfl;clear ab hYC;rcases bD with ⟨s4,s5,s6⟩ | _
 ·(try dsimp only at hM);obtain ⟨_,rfl,rfl⟩:=bj;refine ⟨_,[cBlk aw [B s4] 4,cBlk av [I s5,I s6] 30,cMemI encSpt am (zaa s_Sections s_Marks s_Reaches),cBlk aB [I az,I aA] 30,cBlk ay [I ac,I ae,I ap,I aq,B ag] 44,cBlk ax [Pq al] 107,cBlk al [ai,aj,ak,.map (some am)] 163,cBlk aK [I 0,I 0] 30,cBlk aJ [I flow.lo,I flow.hi] 30,cBlk aI [ao] 22,cBlk aH [ai,aj,ak] 27],H.unbundle.pick [0,4,1,2,3,5,6,7,8,9,10,11,12] (by decide) rfl,aX.nb,?_⟩;intro cC H;rw [aX.pd];replace H:=H.nf
  try simp only []
  replace H:=H.pk [0,1,2,8];refine WD.seq<|WD.seq<|WD.of ?_;refine kg 4 ?_
  refine WD.cond (!s4) rfl (fun a6=>?_) (fun a6=>?_)
  ·replace hM:=M.e_t hM a6;refine WD.seq<|WD.of<|W.region rfl<|s_val (x_bld (ps:=[]) (zs:=[I 0,I 0]) (L':=[I 0,I 0]) rfl Tryz.underlying30 Al30 rfl (Bd30 Tryz.underlying30) (.nil)) ?_;refine t_sw 3 0 [I 0,I 0] (.agg #[I 0,I 0]) H rfl rfl Sz30 rfl rfl rfl rfl ?_;intro cD H;refine kg 2 ?_;replace H:=H.pk [0,3];refine WD.of ?_;refine W.ret ?_;refine bodyD_r (H.pk [0,1]) ?_;intro cE H;replace H:=H.nf
   have bE:=(H.bl 0)
   have au:=M.e_pure hM;exact ⟨_,(resE_ofn (vs:=[.agg #[I 0,I 0],I 5]) rfl rfl (.cell (v:=.agg #[I 0,I 0]) rfl (run_loadVar_ag (ds:=[I 0,I 0]) Ag30 Sz30 bE rfl rfl)<|.tmp (v:=I 5) rfl<|.nil)),⟨0,0,5,au,rfl,(H.pk [])⟩⟩
  replace hM:=M.e_f hM a6;refine WD.of<|W.skip<|WD.seq<|WD.of ?_;refine kg 2 ?_;refine t_sw 3 0 [I s5,I s6] (.agg #[I s5,I s6]) H rfl rfl Sz30 rfl rfl rfl rfl ?_;intro cF H;refine kg 2 ?_;replace H:=H.pk [0,3];refine WD.of ?_;refine W.ret ?_;refine bodyD_r (H.pk [0,1]) ?_;intro cG H;replace H:=H.nf
  have bF:=(H.bl 0)
  have au:=M.e_pure hM;exact ⟨_,(resE_ofn (vs:=[.agg #[I s5,I s6],I 0]) rfl rfl (.cell (v:=.agg #[I s5,I s6]) rfl (run_loadVar_ag (ds:=[I s5,I s6]) Ag30 Sz30 bF rfl rfl)<|.tmp (v:=I 0) rfl<|.nil)),⟨s5,s6,0,au,rfl,(H.pk [])⟩⟩
 obtain ⟨_,_,h_⟩:=bj; exact h_.elim

def zcC (s_Sections:List Sect) (s_Marks:List Mrk) (s_Reaches:List Rch) (marks:List Int) (reach:Int) (known:Span):(Int × Int × Int)->M ((Int × Int × Int) ⊕ (Int × Int)):=fun (s3,s4,n) =>
  bif decide (n<=((s_Reaches.getD (Int.toNat reach) default).hi)) then (
  M.bind (za8 s_Sections s_Marks s_Reaches marks (⟨((s_Reaches.getD (Int.toNat reach) default).up:Int),((s_Reaches.getD (Int.toNat reach) default).down:Int),(n:Int),(n:Int),((s_Reaches.getD (Int.toNat reach) default).narrow)⟩:Rch)) fun (r0,r1) =>
  bif ((decide (known.lo<=r1))&&(decide (r0<=known.hi))) then (
  bif decide (s3<0) then (
  M.grd (decide ((-9223372036854775808:Int)<=(n+1))&&decide ((n+1)<=(9223372036854775807:Int))) <|
  M.pure (.inl (n,n,n+1)))
  else (
  M.grd (decide ((-9223372036854775808:Int)<=(n+1))&&decide ((n+1)<=(9223372036854775807:Int))) <|
  M.pure (.inl (s3,n,n+1))))
  else (
  M.grd (decide ((-9223372036854775808:Int)<=(n+1))&&decide ((n+1)<=(9223372036854775807:Int))) <|
  M.pure (.inl (s3,s4,n+1))))
  else (
  M.pure (.inr (s3,s4)))
def zcW (s_Sections:List Sect) (s_Marks:List Mrk) (s_Reaches:List Rch) (marks:List Int) (reach:Int) (known:Span):M (Int × Int × Int) :=
  M.bind (za1 s_Sections s_Marks s_Reaches marks reach) fun r2 =>
  bif ((r2 != 0)&&(r2 != 7)) then (
  M.pure (0,0,r2))
  else (
  bif ((decide (known.lo<0))||(decide (known.hi<known.lo))) then (
  M.pure (0,0,4))
  else (
  bif r2 != 0 then (
  M.pure (0,0,r2))
  else (
  M.grd (decide ((0:Int)<=reach)&&decide (reach<(s_Reaches.length:Int))) <|
  M.bind (M.iter (zcC s_Sections s_Marks s_Reaches marks reach known) (-1,0,(s_Reaches.getD (Int.toNat reach) default).lo)) fun (s5,s6) =>
  bif decide (s5<0) then (
  M.pure (0,0,5))
  else (
  M.pure (s5,s6,0)))))
theorem zev {R:List Chunk} {az:Cells} {aj:Value} {aA:Cells} {ak:Value} {aB:Cells} {al:Value} {aC:Cells} {am:Value} (s_Sections:List Sect) (s_Marks:List Mrk) (s_Reaches:List Rch) (marks:List Int) (reach:Int) (known:Span) (aD:Reads R az) (aE:Sl az aj s_Sections) (aF:Reads R aA) (aG:Sl aA ak s_Marks) (aH:Reads R aB) (aI:Sl aB al s_Reaches) (aJ:Reads R aC) (aK:Sl aC am marks) {r:(Int × Int × Int)} (hM:(zcW s_Sections s_Marks s_Reaches marks reach known).Ends r) (w:World) (H:St w w [] R):Ret Tryz.prog 43 #[.agg #[aj,ak,al],am,I reach,.agg #[I known.lo,I known.hi]] w fun v w'=>∃ (y0:Int) (y1:Int) (y2:Int),(y0,y1,y2)=r/\v = .tuple #[.agg #[I y0,I y1],I y2]/\St w w' [] R:=by
 refine ret_of_W Tryz.func43 rfl rfl rfl ?_;refine kg 2 ?_;refine t_bx [aj,ak,al] H rfl ?_;intro aL a6 H;refine t_bx [I known.lo,I known.hi] H rfl ?_;intro aM a7 H;refine t_alloc (cs:=[I 0,I 0]) H Al30 rfl ?_;intro aN a8 H;refine kg 7 ?_;obtain ⟨ba,aQ,hM⟩:=M.e_bind hM;refine s_call cf81 [.agg #[aj,ak,al],am,I reach] rfl (zdR s_Sections s_Marks s_Reaches marks reach (aD.app _) aE (aF.app _) aG (aH.app _) aI (aJ.app _) aK aQ _ (H.gt 3)) ?_;rintro vq bb ⟨r2,rfl,hvq,ao⟩;subst vq;(try dsimp only at hM);replace H:=H.bk ao;clear ao;refine kg 10 ?_;refine s_val (x_pand (b:=r2 != 0) (r:=r2 != 7) rfl (fun hb=>gd_of (c:=r2 != 0) (by first | exact hb | (rw [hb]; rfl) | simp_all) (B (r2 != 7))) rfl)<|s_nil ?_
 refine W.cond ((r2 != 0)&&(r2 != 7)) rfl (fun aq=>?_) (fun aq=>?_)
 ·replace hM:=M.e_t hM aq;refine kg 2 ?_;refine s_val (x_bld (ps:=[]) (zs:=[I 0,I 0]) (L':=[I 0,I 0]) rfl Tryz.underlying30 Al30 rfl (Bd30 Tryz.underlying30) (.nil)) ?_;refine kg 1 ?_;refine t_sw 0 0 [I 0,I 0] (.agg #[I 0,I 0]) H rfl rfl Sz30 rfl rfl rfl rfl ?_;intro bc H;refine kg 2 ?_;replace H:=H.pk [0];refine W.ret ?_;have aR:=(H.bl 0)
  have ab:=M.e_pure hM;exact ⟨_,(resE_ofn (vs:=[.agg #[I 0,I 0],I r2]) rfl rfl (.cell (v:=.agg #[I 0,I 0]) rfl (run_loadVar_ag (ds:=[I 0,I 0]) Ag30 Sz30 aR rfl rfl)<|.tmp (v:=I r2) rfl<|.nil)),⟨0,0,r2,ab,rfl,(H.pk [])⟩⟩
 replace hM:=M.e_f hM aq;refine kg 13 ?_;refine s_val (x_por (b:=decide (known.lo<0)) (r:=decide (known.hi<known.lo)) rfl rfl (fun hb=>gd_of (c:=!(decide (known.lo<0))) (by first | exact hb | (rw [hb]; rfl) | simp_all) (B (decide (known.hi<known.lo)))))<|s_nil ?_
 refine W.cond ((decide (known.lo<0))||(decide (known.hi<known.lo))) rfl (fun au=>?_) (fun au=>?_)
 ·replace hM:=M.e_t hM au;refine kg 2 ?_;refine s_val (x_bld (ps:=[]) (zs:=[I 0,I 0]) (L':=[I 0,I 0]) rfl Tryz.underlying30 Al30 rfl (Bd30 Tryz.underlying30) (.nil)) ?_;refine t_sw 0 0 [I 0,I 0] (.agg #[I 0,I 0]) H rfl rfl Sz30 rfl rfl rfl rfl ?_;intro bf H;refine kg 2 ?_;replace H:=H.pk [0];refine W.ret ?_;have aS:=(H.bl 0)
  have ab:=M.e_pure hM;exact ⟨_,(resE_ofn (vs:=[.agg #[I 0,I 0],I 4]) rfl rfl (.cell (v:=.agg #[I 0,I 0]) rfl (run_loadVar_ag (ds:=[I 0,I 0]) Ag30 Sz30 aS rfl rfl)<|.tmp (v:=I 4) rfl<|.nil)),⟨0,0,4,ab,rfl,(H.pk [])⟩⟩
 replace hM:=M.e_f hM au;refine kg 7 ?_;refine W.cond (r2 != 0) rfl (fun ac=>?_) (fun ac=>?_)
 ·replace hM:=M.e_t hM ac;replace ac:=dI ac;refine kg 2 ?_;refine s_val (x_bld (ps:=[]) (zs:=[I 0,I 0]) (L':=[I 0,I 0]) rfl Tryz.underlying30 Al30 rfl (Bd30 Tryz.underlying30) (.nil)) ?_;refine kg 1 ?_;refine t_sw 0 0 [I 0,I 0] (.agg #[I 0,I 0]) H rfl rfl Sz30 rfl rfl rfl rfl ?_;intro bg H;refine kg 2 ?_;replace H:=H.pk [0];refine W.ret ?_;have aT:=(H.bl 0)
  have ab:=M.e_pure hM;exact ⟨_,(resE_ofn (vs:=[.agg #[I 0,I 0],I r2]) rfl rfl (.cell (v:=.agg #[I 0,I 0]) rfl (run_loadVar_ag (ds:=[I 0,I 0]) Ag30 Sz30 aT rfl rfl)<|.tmp (v:=I r2) rfl<|.nil)),⟨0,0,r2,ab,rfl,(H.pk [])⟩⟩
 replace hM:=M.e_f hM ac;replace ac:=dI ac;refine kg 3 ?_;refine s_val (x_bld (ps:=[(0,I (-1))]) (zs:=[I 0,I 0]) (L':=[I (-1),I 0]) rfl Tryz.underlying30 Al30 rfl (Bd30 Tryz.underlying30) (.cons (cs:=[I (-1)]) rfl rfl rfl rfl rfl<|.nil)) ?_;refine t_alloc (cs:=[I 0,I 0]) H Al30 rfl ?_;intro aO bh H;refine t_sw 0 0 [I (-1),I 0] (.agg #[I (-1),I 0]) H rfl rfl Sz30 rfl rfl rfl rfl ?_;intro bi H;obtain ⟨bj,hM⟩:=M.e_gd hM;refine kg 14 ?_;obtain ⟨aU,av,aV⟩:=M.e_bind hM;obtain ⟨bm,av⟩:=M.e_iter av;refine W.loop (fun m σ W=>∃ (s3:Int) (s4:Int) (n:Int) (ρ:Env),σ=upds ρ [(1,am),(2,I reach),(4,Pq aL),(7,Pq aM),(8,Pq aN),(11,Pq aO),(12,I n)]/\M.iterN (zcC s_Sections s_Marks s_Reaches marks reach known) m (s3,s4,n)=some aU/\St w W [cBlk aO [I s3,I s4] 30,cBlk aN [I 0,I 0] 30,cBlk aM [I known.lo,I known.hi] 30,cBlk aL [aj,ak,al] 61] R) ?_ ?_
 ·exact ⟨_,-1,0,(s_Reaches.getD (Int.toNat reach) default).lo,_,upds_of _ _ ⟨rfl,rfl,rfl,rfl,rfl,rfl,rfl,trivial⟩,av,H⟩
 rintro bn σ bo ⟨s3,s4,n,ρ,rfl,aP,H⟩;obtain ⟨aw,ax,bp,hM,ap⟩:=M.e_iterN aP;simp only [zcC] at hM;clear aP;refine kg 13 ?_;refine W.cond (decide (n<=((s_Reaches.getD (Int.toNat reach) default).hi))) rfl (fun ae=>?_) (fun ae=>?_)
 ·replace hM:=M.e_t hM ae;replace ae:=dI ae;refine kg 10 ?_;refine t_alloc (cs:=[I 0,I 0,I 0,I 0,B false]) H Al118 rfl ?_;intro br bt H;refine t_sw 0 0 [I ((s_Reaches.getD (Int.toNat reach) default).up),I ((s_Reaches.getD (Int.toNat reach) default).down),I ((s_Reaches.getD (Int.toNat reach) default).lo),I ((s_Reaches.getD (Int.toNat reach) default).hi),B ((s_Reaches.getD (Int.toNat reach) default).narrow)] (.agg #[I ((s_Reaches.getD (Int.toNat reach) default).up),I ((s_Reaches.getD (Int.toNat reach) default).down),I ((s_Reaches.getD (Int.toNat reach) default).lo),I ((s_Reaches.getD (Int.toNat reach) default).hi),B ((s_Reaches.getD (Int.toNat reach) default).narrow)]) H rfl rfl Sz118 rfl rfl rfl rfl ?_;intro bu H;refine kg 5 ?_;refine s_val (x_bld (ps:=[(0,I n),(1,I n)]) (zs:=[I 0,I 0]) (L':=[I n,I n]) rfl Tryz.underlying30 Al30 rfl (Bd30 Tryz.underlying30) (.cons (cs:=[I n]) rfl rfl rfl rfl rfl<|.cons (cs:=[I n]) rfl rfl rfl rfl rfl<|.nil)) ?_;refine kg 1 ?_;refine t_sw 0 2 [I n,I n] (.agg #[I n,I n]) H rfl rfl Sz30 rfl rfl rfl rfl ?_;intro bv H;refine kg 6 ?_;obtain ⟨bw,aW,hM⟩:=M.e_bind hM;refine s_call cf82 [.agg #[aj,ak,al],am,.agg #[I ((s_Reaches.getD (Int.toNat reach) default).up),I ((s_Reaches.getD (Int.toNat reach) default).down),I n,I n,B ((s_Reaches.getD (Int.toNat reach) default).narrow)]] rfl (zcP s_Sections s_Marks s_Reaches marks (⟨((s_Reaches.getD (Int.toNat reach) default).up:Int),((s_Reaches.getD (Int.toNat reach) default).down:Int),(n:Int),(n:Int),((s_Reaches.getD (Int.toNat reach) default).narrow)⟩:Rch) (aD.app _) aE (aF.app _) aG (aH.app _) aI (aJ.app _) aK aW _ (H.gt 5)) ?_;rintro vq bx ⟨r0,r1,rfl,hvq,ao⟩;subst vq;(try dsimp only at hM);replace H:=H.bk ao;clear ao;refine t_alloc (cs:=[I 0,I 0]) H Al30 rfl ?_;intro bz bA H;refine t_sw 0 0 [I r0,I r1] (.agg #[I r0,I r1]) H rfl rfl Sz30 rfl rfl rfl rfl ?_;intro bB H;refine kg 14 ?_;refine s_val (x_pand (b:=decide (known.lo<=r1)) (r:=decide (r0<=known.hi)) rfl (fun hb=>gd_of (c:=decide (known.lo<=r1)) (by first | exact hb | (rw [hb]; rfl) | simp_all) (B (decide (r0<=known.hi)))) rfl)<|s_nil ?_
  refine W.cond ((decide (known.lo<=r1))&&(decide (r0<=known.hi))) rfl (fun ay=>?_) (fun ay=>?_)
  ·replace hM:=M.e_t hM ay;refine kg 7 ?_;refine W.cond (decide (s3<0)) rfl (fun ag=>?_) (fun ag=>?_)
   ·replace hM:=M.e_t hM ag;replace ag:=dI ag;refine kg 3 ?_;refine t_sw 2 0 [I n] (I n) H rfl rfl Sz3 rfl rfl rfl rfl ?_;intro bC H;refine kg 4 ?_;refine t_sw 2 1 [I n] (I n) H rfl rfl Sz3 rfl rfl rfl rfl ?_;intro bD H;obtain ⟨bE,hM⟩:=M.e_gd hM;refine kg 6 ?_;exact ⟨aw,ax,n,n,n+1,_,upds_of _ _ ⟨rfl,rfl,rfl,rfl,rfl,rfl,rfl,trivial⟩,M.e_inl hM ap,(H.pk [2,3,4,5])⟩
   replace hM:=M.e_f hM ag;replace ag:=dI ag;refine kg 4 ?_;refine t_sw 2 1 [I n] (I n) H rfl rfl Sz3 rfl rfl rfl rfl ?_;intro bF H;obtain ⟨bG,hM⟩:=M.e_gd hM;refine kg 6 ?_;exact ⟨aw,ax,s3,n,n+1,_,upds_of _ _ ⟨rfl,rfl,rfl,rfl,rfl,rfl,rfl,trivial⟩,M.e_inl hM ap,(H.pk [2,3,4,5])⟩
  replace hM:=M.e_f hM ay;obtain ⟨bH,hM⟩:=M.e_gd hM;refine kg 6 ?_;exact ⟨aw,ax,s3,s4,n+1,_,upds_of _ _ ⟨rfl,rfl,rfl,rfl,rfl,rfl,rfl,trivial⟩,M.e_inl hM ap,(H.pk [2,3,4,5])⟩
 replace hM:=M.e_f hM ae;replace ae:=dI ae;refine W.exit ?_;have aX:=M.e_inr hM ap;subst aX;replace hM:=aV;(try dsimp only at hM);replace H:=H.pk [0,1];refine kg 7 ?_;refine W.cond (decide (s3<0)) rfl (fun ai=>?_) (fun ai=>?_)
 ·replace hM:=M.e_t hM ai;replace ai:=dI ai;refine kg 2 ?_;refine s_val (x_bld (ps:=[]) (zs:=[I 0,I 0]) (L':=[I 0,I 0]) rfl Tryz.underlying30 Al30 rfl (Bd30 Tryz.underlying30) (.nil)) ?_;refine t_sw 1 0 [I 0,I 0] (.agg #[I 0,I 0]) H rfl rfl Sz30 rfl rfl rfl rfl ?_;intro bI H;refine kg 2 ?_;refine W.ret ?_;have aY:=(H.bl 1)
  have ab:=M.e_pure hM;exact ⟨_,(resE_ofn (vs:=[.agg #[I 0,I 0],I 5]) rfl rfl (.cell (v:=.agg #[I 0,I 0]) rfl (run_loadVar_ag (ds:=[I 0,I 0]) Ag30 Sz30 aY rfl rfl)<|.tmp (v:=I 5) rfl<|.nil)),⟨0,0,5,ab,rfl,(H.pk [])⟩⟩
 replace hM:=M.e_f hM ai;replace ai:=dI ai;refine kg 4 ?_;refine t_sw 1 0 [I s3,I s4] (.agg #[I s3,I s4]) H rfl rfl Sz30 rfl rfl rfl rfl ?_;intro bJ H;refine kg 2 ?_;refine W.ret ?_;have aZ:=(H.bl 1)
 have ab:=M.e_pure hM;exact ⟨_,(resE_ofn (vs:=[.agg #[I s3,I s4],I 0]) rfl rfl (.cell (v:=.agg #[I s3,I s4]) rfl (run_loadVar_ag (ds:=[I s3,I s4]) Ag30 Sz30 aZ rfl rfl)<|.tmp (v:=I 0) rfl<|.nil)),⟨s3,s4,0,ab,rfl,(H.pk [])⟩⟩

end Go.Proofs.YtbldmjejckjflaaGreat
end
section
set_option maxRecDepth 100000
set_option maxHeartbeats 16000000
namespace Go.Proofs.YtbldmjejckjflaaGreat
open Go Go.Nm
attribute [local irreducible] gd execOp SL SLD SLT WR
def zba (s_Sections:List Sect) (s_Marks:List Mrk) (s_Reaches:List Rch) (marks:List Int) (reach:Int) (known:Span) (r0:List Sect) (r1:List Mrk) (ab:List Rch) (r4:List Int) (ao:List Sect) (ap:List Mrk) (aq:List Rch) (aE aF aG aH:Int):M Bool :=
  M.bind (zct r0 r1 ab r4) fun (aw,ax,ay) =>
  M.bind (zcw ao ap aq marks) fun (az,aA,aB) =>
  bif ((ay != aB)||(!(decide ((⟨(aw:Int),(ax:Int)⟩:Span)=(⟨(az:Int),(aA:Int)⟩:Span))))) then (
  M.pure false)
  else (
  M.bind (zag r0 r1 ab) fun r9 =>
  M.grd ((!(((r9==0)&&(decide (0<=reach)))&&(decide (reach<(s_Reaches.length:Int))))||(decide ((0:Int)<=reach)&&decide (reach<(s_Reaches.length:Int))))) <|
  M.grd ((!(((r9==0)&&(decide (0<=reach)))&&(decide (reach<(s_Reaches.length:Int))))||(decide ((-9223372036854775808:Int)<=(((s_Reaches.getD (Int.toNat reach) default).hi)-((s_Reaches.getD (Int.toNat reach) default).lo)))&&decide ((((s_Reaches.getD (Int.toNat reach) default).hi)-((s_Reaches.getD (Int.toNat reach) default).lo))<=(9223372036854775807:Int))))) <|
  bif ((((r9==0)&&(decide (0<=reach)))&&(decide (reach<(s_Reaches.length:Int))))&&(decide (29<(((s_Reaches.getD (Int.toNat reach) default).hi)-((s_Reaches.getD (Int.toNat reach) default).lo))))) then (
  M.bind (za9 r0 r1 ab s_Sections s_Marks s_Reaches) fun al =>
  M.bind (M.opt al (zbg r4 marks) false) fun au =>
  M.bind (M.opt (al&&au) (zam) false) fun aC =>
  M.pure ((al&&au)&&aC))
  else (
  M.bind (zb0 r0 r1 ab r4 reach known) fun (ac,ae,ag) =>
  M.bind (zcW ao ap aq marks reach known) fun (ai,aj,ak) =>
  M.bind (M.opt ((ag==ak)&&(decide ((⟨(ac:Int),(ae:Int)⟩:Span)=(⟨(ai:Int),(aj:Int)⟩:Span)))) (za9 r0 r1 ab s_Sections s_Marks s_Reaches) false) fun am =>
  M.bind (M.opt (((ag==ak)&&(decide ((⟨(ac:Int),(ae:Int)⟩:Span)=(⟨(ai:Int),(aj:Int)⟩:Span))))&&am) (zbg r4 marks) false) fun av =>
  M.bind (M.opt ((((ag==ak)&&(decide ((⟨(ac:Int),(ae:Int)⟩:Span)=(⟨(ai:Int),(aj:Int)⟩:Span))))&&am)&&av) (zam) false) fun aD =>
  M.pure (((((ag==ak)&&(decide ((⟨(ac:Int),(ae:Int)⟩:Span)=(⟨(ai:Int),(aj:Int)⟩:Span))))&&am)&&av)&&aD)))
def zas (s_Sections:List Sect) (s_Marks:List Mrk) (s_Reaches:List Rch) (marks:List Int) (reach:Int) (c:Cas) (most:Bool) (known:Span):M Bool :=
  M.bind (zby s_Sections s_Marks s_Reaches) fun r2 =>
  bif (r2||(decide (18<(marks.length:Int)))) then (
  M.bind (zam) fun r3 =>
  M.pure r3)
  else (
  M.bind (zbZ s_Sections s_Marks s_Reaches) fun (r0,r1,ag) =>
  M.bind (zbW marks) fun r4 =>
  M.bind (zbk s_Sections s_Marks s_Reaches) fun (ab,ac,ae) =>
  M.bind (zaB r0 r1 ag r4) fun (aA,av) =>
  M.bind (zcd ab ac ae marks) fun (aB,aw) =>
  M.bind (M.opt (!(av != aw)) (zcv aA aB) false) fun r5 =>
  bif ((av != aw)||(!r5)) then (
  M.pure false)
  else (
  M.bind (zaL r0 r1 ag reach c) fun (aC,aD) =>
  M.bind (zbx ab ac ae reach c) fun (aE,aF) =>
  bif ((aD != aF)||(aC != aE)) then (
  M.pure false)
  else (
  M.bind (zcs s_Sections s_Marks s_Reaches marks) fun r6 =>
  bif r6 then (
  M.bind (zam) fun r7 =>
  M.pure r7)
  else (
  M.bind (za2 r0 r1 ag r4 reach) fun (ak,al,aG) =>
  M.bind (zcY ab ac ae marks reach) fun (ai,aj,ax) =>
  bif ((aG != ax)||(!(decide ((⟨(ak:Int),(al:Int)⟩:Span)=(⟨(ai:Int),(aj:Int)⟩:Span))))) then (
  M.pure false)
  else (
  M.bind (zcp r0 r1 ag r4 reach most) fun (am,ao,ap,aq,au) =>
  bif ((au != ax)||((au != 0)&&(!(decide ((⟨(am:Int),(ao:Int),(ap:Int),(aq:Int)⟩:Cas)=(⟨(0:Int),(0:Int),(0:Int),(0:Int)⟩:Cas)))))) then (
  M.pure false)
  else (
  bif au==0 then (
  M.bind (zbx ab ac ae reach (⟨(am:Int),(ao:Int),(ap:Int),(aq:Int)⟩:Cas)) fun (ay,az) =>
  M.bind (M.opt (!(az != 0)) (zcL ab ac ae marks reach (⟨(am:Int),(ao:Int),(ap:Int),(aq:Int)⟩:Cas)) false) fun r8 =>
  bif ((((az != 0)||(!r8))||(most&&(ay != aj)))||((!most)&&(ay != ai))) then (
  M.pure false)
  else (
  zba s_Sections s_Marks s_Reaches marks reach known r0 r1 ag r4 ab ac ae ak al ai aj))
  else (
  zba s_Sections s_Marks s_Reaches marks reach known r0 r1 ag r4 ab ac ae ak al ai aj)))))))
theorem zaJ {R:List Chunk} {bR:Cells} {aH:Value} {bS:Cells} {aI:Value} {bT:Cells} {aJ:Value} {bU:Cells} {aw:Value} (s_Sections:List Sect) (s_Marks:List Mrk) (s_Reaches:List Rch) (marks:List Int) (reach:Int) (c:Cas) (most:Bool) (known:Span) (bg:Reads R bR) (bh:Sl bR aH s_Sections) (bi:Reads R bS) (bj:Sl bS aI s_Marks) (bm:Reads R bT) (a7:Sl bT aJ s_Reaches) (aS:Reads R bU) (aN:Sl bU aw marks) {r:Bool} (hM:(zas s_Sections s_Marks s_Reaches marks reach c most known).Ends r) (w:World) (H:St w w [] R):Ret Tryz.prog 8 #[.agg #[aH,aI,aJ],aw,I reach,.agg #[I c.up,I c.down,I c.roughup,I c.roughdown],B most,.agg #[I known.lo,I known.hi]] w fun v w'=>∃ (y0:Bool),y0=r/\v=B y0/\St w w' [] R:=by
 refine ret_of_W Tryz.func8 rfl rfl rfl ?_;refine kg 2 ?_;refine t_bx [aH,aI,aJ] H rfl ?_;intro bw cF H;refine t_bx [I c.up,I c.down,I c.roughup,I c.roughdown] H rfl ?_;intro cG cH H;refine t_bx [I known.lo,I known.hi] H rfl ?_;intro bx cI H;refine kg 6 ?_;obtain ⟨cJ,b5,hM⟩:=M.e_bind hM;refine s_call cf12 [.agg #[aH,aI,aJ]] rfl (zeh s_Sections s_Marks s_Reaches (bg.app _) bh (bi.app _) bj (bm.app _) a7 b5 _ (H.gt 3)) ?_;rintro vq cK ⟨r2,rfl,hvq,ab⟩;subst vq;(try dsimp only at hM);replace H:=H.bk ab;clear ab;have cL:=(aN).len_le;refine kg 4 ?_;refine s_val (x_por (b:=r2) (r:=decide (18<(marks.length:Int))) rfl rfl (fun hb=>gd_of (c:=!r2) (by first | exact hb | (rw [hb]; rfl) | simp_all) (B (decide (18<(marks.length:Int))))))<|s_nil ?_
 refine W.cond (r2||(decide (18<(marks.length:Int)))) rfl (fun bz=>?_) (fun bz=>?_)
 ·replace hM:=M.e_t hM bz;refine kg 2 ?_;obtain ⟨cM,b6,hM⟩:=M.e_bind hM;refine s_call cf11 [] rfl (zaw b6 _ (H.gt 3)) ?_;rintro vq cN ⟨r3,rfl,hvq,ab⟩;subst vq;(try dsimp only at hM);replace H:=H.bk ab;clear ab;refine kg 2 ?_;replace H:=H.pk [];refine W.ret ?_;have ac:=M.e_pure hM;exact ⟨_,resE_tmp rfl,⟨r3,ac,rfl,H⟩⟩
 replace hM:=M.e_f hM bz;refine kg 4 ?_;obtain ⟨cO,b7,hM⟩:=M.e_bind hM;refine s_call cf13 [.agg #[aH,aI,aJ]] rfl (zeo s_Sections s_Marks s_Reaches (bg.app _) bh (bi.app _) bj (bm.app _) a7 b7 _ (H.gt 3)) ?_;rintro vq cP ⟨r0,r1,aK,ak,bV,bW,al,am,rfl,hvq,ab,aO⟩;subst vq;(try dsimp only at hM);replace H:=H.bk ab;clear ab;refine kg 1 ?_;obtain ⟨cQ,b8,hM⟩:=M.e_bind hM;refine s_call cf29 [aw] rfl (zea marks (aS.app _) aN b8 _ (H.gt 7)) ?_;rintro vq cR ⟨r4,aL,rfl,hvq,ab⟩;subst vq;(try dsimp only at hM);replace H:=H.bk ab;clear ab;refine t_alloc (cs:=[.slice none 0 0,.slice none 0 0,.slice none 0 0]) H Al27 rfl ?_;intro bA cS H;refine t_sw 0 0 [ak,al,am] (.agg #[ak,al,am]) H rfl rfl Sz27 rfl rfl rfl (by simp only [List.all_cons,List.all_nil,Bool.true_and,Bool.and_true,Sl.oc (rowSl rfl (H.get (k:=2) rfl) (roLe _ (H.get (k:=3) rfl)) aO),Sl.oc (H.os 4),Sl.oc (H.os 5)]; try rfl) ?_;intro cT H;refine kg 5 ?_;obtain ⟨cU,b9,hM⟩:=M.e_bind hM;refine s_call cf15 [.agg #[aH,aI,aJ]] rfl (zdQ s_Sections s_Marks s_Reaches (bg.app _) bh (bi.app _) bj (bm.app _) a7 b9 _ (H.gt 9)) ?_;rintro vq cV ⟨aV,aP,aQ,ax,bX,bY,ay,az,rfl,hvq,ab,aW⟩;subst vq;(try dsimp only at hM);replace H:=H.bk ab;clear ab;refine t_alloc (cs:=[.slice none 0 0,.slice none 0 0,.slice none 0 0]) H Al61 rfl ?_;intro bB cW H;refine t_sw 0 0 [ax,ay,az] (.agg #[ax,ay,az]) H rfl rfl Sz61 rfl rfl rfl (by simp only [List.all_cons,List.all_nil,Bool.true_and,Bool.and_true,Sl.oc (rowSl rfl (H.get (k:=1) rfl) (roLe _ (H.get (k:=2) rfl)) aW),Sl.oc (H.os 3),Sl.oc (H.os 4)]; try rfl) ?_;intro cX H;refine kg 5 ?_;obtain ⟨cY,ca,hM⟩:=M.e_bind hM;refine s_call cf30 [.agg #[ak,al,am],aL] rfl (zeq r0 r1 aK r4 (Reads.sup (rdo 7) (Reads.of (k:=8) rfl roLe)) (rowSl rfl (H.get (k:=7) rfl) (roLe _ (H.get (k:=8) rfl)) aO) (rdo 9) (H.os 9) (rdo 10) (H.os 10) (rdo 6) (H.os 6) ca _ (H.gt 14)) ?_;rintro vq cZ ⟨cb,bn,bZ,rfl,hvq,ab⟩;subst vq;(try dsimp only at hM);replace H:=H.bk ab;clear ab;refine kg 10 ?_;obtain ⟨da,cc,hM⟩:=M.e_bind hM;refine s_call cf31 [.agg #[ax,ay,az],aw] rfl (zem aV aP aQ marks (Reads.sup (rdo 2) (Reads.of (k:=3) rfl roLe)) (rowSl rfl (H.get (k:=2) rfl) (roLe _ (H.get (k:=3) rfl)) aW) (rdo 4) (H.os 4) (rdo 5) (H.os 5) (aS.app _) aN cc _ (H.gt 15)) ?_;rintro vq db ⟨cd,bo,b0,rfl,hvq,ab⟩;subst vq;(try dsimp only at hM);replace H:=H.bk ab;clear ab;refine kg 15 ?_;obtain ⟨r5,ce,hM⟩:=M.e_bind hM;refine t_gcall (!(bn != bo)) (gy_f rfl) cf32 (B r5) (fun _=>[bZ,b0]) (fun hg=>lst2 (gd_of hg (bZ)) (gd_of hg (b0))) H (fun hg=>(ze1 cb cd (rdo 1) (H.os 1) (rdo 0) (H.os 0) (M.e_opt ce hg) _ (H.give (A:=[]) rfl)).mono fun v_ w_ ⟨y_,ac,aE,H_⟩=>by subst ac; exact ⟨aE,H.via H_⟩) ?_;intro dc H;refine kg 1 ?_;refine s_val (x_por (b:=bn != bo) (r:=!r5) rfl rfl (fun hb=>gd_of (c:=!(bn != bo)) (by first | exact hb | (rw [hb]; rfl) | simp_all) (B (!r5))))<|s_nil ?_;replace H:=H.pk [2,3,4,5,6,7,8,9,10,11,12,13,14,15]
 refine W.cond ((bn != bo)||(!r5)) rfl (fun bC=>?_) (fun bC=>?_)
 ·replace hM:=M.e_t hM bC;refine kg 4 ?_;replace H:=H.pk [];refine W.ret ?_;have ac:=M.e_pure hM;exact ⟨_,resE_tmp rfl,⟨false,ac,rfl,H⟩⟩
 replace hM:=M.e_f hM bC;refine kg 6 ?_;obtain ⟨dd,cf,hM⟩:=M.e_bind hM;refine s_call cf10 [.agg #[ak,al,am],I reach,.agg #[I c.up,I c.down,I c.roughup,I c.roughdown]] rfl (zc4 r0 r1 aK reach c (Reads.sup (rdo 7) (Reads.of (k:=8) rfl roLe)) (rowSl rfl (H.get (k:=7) rfl) (roLe _ (H.get (k:=8) rfl)) aO) (rdo 9) (H.os 9) (rdo 10) (H.os 10) cf _ (H.gt 14)) ?_;rintro vq dg ⟨bD,bE,rfl,hvq,ab⟩;subst vq;(try dsimp only at hM);replace H:=H.bk ab;clear ab;refine kg 11 ?_;obtain ⟨dh,cg,hM⟩:=M.e_bind hM;refine s_call cf33 [.agg #[ax,ay,az],I reach,.agg #[I c.up,I c.down,I c.roughup,I c.roughdown]] rfl (zdZ aV aP aQ reach c (Reads.sup (rdo 1) (Reads.of (k:=2) rfl roLe)) (rowSl rfl (H.get (k:=1) rfl) (roLe _ (H.get (k:=2) rfl)) aW) (rdo 3) (H.os 3) (rdo 4) (H.os 4) cg _ (H.gt 14)) ?_;rintro vq di ⟨bF,bG,rfl,hvq,ab⟩;subst vq;(try dsimp only at hM);replace H:=H.bk ab;clear ab;refine kg 16 ?_;refine s_val (x_por (b:=bE != bG) (r:=bD != bF) rfl rfl (fun hb=>gd_of (c:=!(bE != bG)) (by first | exact hb | (rw [hb]; rfl) | simp_all) (B (bD != bF))))<|s_nil ?_
 refine W.cond ((bE != bG)||(bD != bF)) rfl (fun bH=>?_) (fun bH=>?_)
 ·replace hM:=M.e_t hM bH;refine kg 4 ?_;replace H:=H.pk [];refine W.ret ?_;have ac:=M.e_pure hM;exact ⟨_,resE_tmp rfl,⟨false,ac,rfl,H⟩⟩
 replace hM:=M.e_f hM bH;refine kg 6 ?_;obtain ⟨dj,ci,hM⟩:=M.e_bind hM;refine s_call cf34 [.agg #[aH,aI,aJ],aw] rfl (zfe s_Sections s_Marks s_Reaches marks (bg.app _) bh (bi.app _) bj (bm.app _) a7 (aS.app _) aN ci _ (H.gt 14)) ?_;rintro vq dk ⟨r6,rfl,hvq,ab⟩;subst vq;(try dsimp only at hM);replace H:=H.bk ab;clear ab;refine s_nil ?_;refine W.cond r6 rfl (fun bI=>?_) (fun bI=>?_)
 ·replace hM:=M.e_t hM bI;refine kg 2 ?_;obtain ⟨dm,cj,hM⟩:=M.e_bind hM;refine s_call cf11 [] rfl (zaw cj _ (H.gt 14)) ?_;rintro vq dq ⟨r7,rfl,hvq,ab⟩;subst vq;(try dsimp only at hM);replace H:=H.bk ab;clear ab;refine kg 2 ?_;replace H:=H.pk [];refine W.ret ?_;have ac:=M.e_pure hM;exact ⟨_,resE_tmp rfl,⟨r7,ac,rfl,H⟩⟩
 replace hM:=M.e_f hM bI;refine kg 6 ?_;obtain ⟨dr,co,hM⟩:=M.e_bind hM;refine s_call cf35 [.agg #[ak,al,am],aL,I reach] rfl (zc5 r0 r1 aK r4 reach (Reads.sup (rdo 7) (Reads.of (k:=8) rfl roLe)) (rowSl rfl (H.get (k:=7) rfl) (roLe _ (H.get (k:=8) rfl)) aO) (rdo 9) (H.os 9) (rdo 10) (H.os 10) (rdo 6) (H.os 6) co _ (H.gt 14)) ?_;rintro vq dt ⟨aT,aU,bp,rfl,hvq,ab⟩;subst vq;(try dsimp only at hM);replace H:=H.bk ab;clear ab;refine kg 3 ?_;refine t_alloc (cs:=[I 0,I 0]) H Al30 rfl ?_;intro bJ dv H;refine t_sw 0 0 [I aT,I aU] (.agg #[I aT,I aU]) H rfl rfl Sz30 rfl rfl rfl rfl ?_;intro dw H;refine kg 7 ?_;obtain ⟨dx,cp,hM⟩:=M.e_bind hM;refine s_call cf36 [.agg #[ax,ay,az],aw,I reach] rfl (ze3 aV aP aQ marks reach (Reads.sup (rdo 2) (Reads.of (k:=3) rfl roLe)) (rowSl rfl (H.get (k:=2) rfl) (roLe _ (H.get (k:=3) rfl)) aW) (rdo 4) (H.os 4) (rdo 5) (H.os 5) (aS.app _) aN cp _ (H.gt 15)) ?_;rintro vq dy ⟨aj,ae,aM,rfl,hvq,ab⟩;subst vq;(try dsimp only at hM);replace H:=H.bk ab;clear ab;refine kg 3 ?_;refine t_alloc (cs:=[I 0,I 0]) H Al30 rfl ?_;intro a8 dz H;refine t_sw 0 0 [I aj,I ae] (.agg #[I aj,I ae]) H rfl rfl Sz30 rfl rfl rfl rfl ?_;intro dA H;refine kg 11 ?_;refine g_val (!(bp != aM)) (gy_f rfl) (fun hg=>x_neS (eqT30 (⟨(aT:Int),(aU:Int)⟩:Span) (⟨(aj:Int),(ae:Int)⟩:Span) _) gdT30 (gd_of hg (.agg #[I aT,I aU])) (gd_of hg (.agg #[I aj,I ae])))<|s_val (x_por (b:=bp != aM) (r:=!(decide ((⟨(aT:Int),(aU:Int)⟩:Span)=(⟨(aj:Int),(ae:Int)⟩:Span)))) rfl rfl (fun hb=>gd_of (c:=!(bp != aM)) (by first | exact hb | (rw [hb]; rfl) | simp_all) (B (!(decide ((⟨(aT:Int),(aU:Int)⟩:Span)=(⟨(aj:Int),(ae:Int)⟩:Span)))))))<|s_nil ?_
 refine W.cond ((bp != aM)||(!(decide ((⟨(aT:Int),(aU:Int)⟩:Span)=(⟨(aj:Int),(ae:Int)⟩:Span))))) rfl (fun bK=>?_) (fun bK=>?_)
 ·replace hM:=M.e_t hM bK;refine kg 4 ?_;replace H:=H.pk [];refine W.ret ?_;have ac:=M.e_pure hM;exact ⟨_,resE_tmp rfl,⟨false,ac,rfl,H⟩⟩
 replace hM:=M.e_f hM bK;refine kg 7 ?_;obtain ⟨dB,cq,hM⟩:=M.e_bind hM;refine s_call cf37 [.agg #[ak,al,am],aL,I reach,B most] rfl (zfh r0 r1 aK r4 reach most (Reads.sup (rdo 9) (Reads.of (k:=10) rfl roLe)) (rowSl rfl (H.get (k:=9) rfl) (roLe _ (H.get (k:=10) rfl)) aO) (rdo 11) (H.os 11) (rdo 12) (H.os 12) (rdo 8) (H.os 8) cq _ (H.gt 16)) ?_;rintro vq dC ⟨aA,aB,aC,aD,ao,rfl,hvq,ab⟩;subst vq;(try dsimp only at hM);replace H:=H.bk ab;clear ab;refine kg 3 ?_;refine t_alloc (cs:=[I 0,I 0,I 0,I 0]) H Al36 rfl ?_;intro dD dE H;refine t_sw 0 0 [I aA,I aB,I aC,I aD] (.agg #[I aA,I aB,I aC,I aD]) H rfl rfl Sz36 rfl rfl rfl rfl ?_;intro dF H;refine kg 13 ?_;refine g_val ((!(ao != aM))&&(ao != 0)) (gy_gt rfl rfl) (fun hg=>x_bld (ps:=[]) (zs:=[I 0,I 0,I 0,I 0]) (L':=[I 0,I 0,I 0,I 0]) rfl Tryz.underlying36 Al36 rfl (Bd36 Tryz.underlying36) (.nil))<|g_val ((!(ao != aM))&&(ao != 0)) (gy_gt rfl rfl) (fun hg=>x_neS (eqT36 (⟨(aA:Int),(aB:Int),(aC:Int),(aD:Int)⟩:Cas) (⟨(0:Int),(0:Int),(0:Int),(0:Int)⟩:Cas) _) gdT36 (gd_of hg (.agg #[I aA,I aB,I aC,I aD])) (gd_of hg (.agg #[I 0,I 0,I 0,I 0])))<|g_val (!(ao != aM)) (gy_f rfl) (fun hg=>x_pand (b:=ao != 0) (r:=!(decide ((⟨(aA:Int),(aB:Int),(aC:Int),(aD:Int)⟩:Cas)=(⟨(0:Int),(0:Int),(0:Int),(0:Int)⟩:Cas)))) (gd_of hg (B (ao != 0))) (fun hb=>gd_of (c:=((!(ao != aM))&&(ao != 0))) (by first | exact hb | (rw [hb]; rfl) | simp_all) (B (!(decide ((⟨(aA:Int),(aB:Int),(aC:Int),(aD:Int)⟩:Cas)=(⟨(0:Int),(0:Int),(0:Int),(0:Int)⟩:Cas)))))) rfl)<|s_val (x_por (b:=ao != aM) (r:=((ao != 0)&&(!(decide ((⟨(aA:Int),(aB:Int),(aC:Int),(aD:Int)⟩:Cas)=(⟨(0:Int),(0:Int),(0:Int),(0:Int)⟩:Cas)))))) rfl rfl (fun hb=>gd_of (c:=!(ao != aM)) (by first | exact hb | (rw [hb]; rfl) | simp_all) (B ((ao != 0)&&(!(decide ((⟨(aA:Int),(aB:Int),(aC:Int),(aD:Int)⟩:Cas)=(⟨(0:Int),(0:Int),(0:Int),(0:Int)⟩:Cas))))))))<|s_nil ?_
 refine W.cond ((ao != aM)||((ao != 0)&&(!(decide ((⟨(aA:Int),(aB:Int),(aC:Int),(aD:Int)⟩:Cas)=(⟨(0:Int),(0:Int),(0:Int),(0:Int)⟩:Cas)))))) rfl (fun bL=>?_) (fun bL=>?_)
 ·replace hM:=M.e_t hM bL;refine kg 4 ?_;replace H:=H.pk [];refine W.ret ?_;have ac:=M.e_pure hM;exact ⟨_,resE_tmp rfl,⟨false,ac,rfl,H⟩⟩
 replace hM:=M.e_f hM bL;refine W.skip ?_;refine W.seqJ (fun σ W=>∃ (ρ:Env),σ=upds ρ [(1,aw),(2,I reach),(6,Pq bw),(11,Pq bx),(13,Pq bA),(14,aL),(15,Pq bB),(22,Pq bJ),(23,Pq a8)]/\(zba s_Sections s_Marks s_Reaches marks reach known r0 r1 aK r4 aV aP aQ aT aU aj ae).Ends r/\St w W [cBlk a8 [I aj,I ae] 30,cBlk bJ [I aT,I aU] 30,cBlk bB [ax,ay,az] 61,cOwn (α:=Raw 1) 115 ax bX,cRo bY,cOwn (α:=Mrk) 117 ay aP,cOwn (α:=Rch) 118 az aQ,cBlk bA [ak,al,am] 27,cOwn (α:=Int) 3 aL r4,cOwn (α:=Raw 1) 42 ak bV,cRo bW,cOwn (α:=Mrk) 32 al r1,cOwn (α:=Rch) 44 am aK,cBlk bx [I known.lo,I known.hi] 30,cBlk bw [aH,aI,aJ] 27] R) ?_ ?_
 ·skip
  refine kg 5 ?_;refine W.cond (ao==0) rfl (fun ba=>?_) (fun ba=>?_)
  ·replace hM:=M.e_t hM ba;replace ba:=dI ba;refine kg 5 ?_;obtain ⟨dG,cr,hM⟩:=M.e_bind hM;refine s_call cf33 [.agg #[ax,ay,az],I reach,.agg #[I aA,I aB,I aC,I aD]] rfl (zdZ aV aP aQ reach (⟨(aA:Int),(aB:Int),(aC:Int),(aD:Int)⟩:Cas) (Reads.sup (rdo 4) (Reads.of (k:=5) rfl roLe)) (rowSl rfl (H.get (k:=4) rfl) (roLe _ (H.get (k:=5) rfl)) aW) (rdo 6) (H.os 6) (rdo 7) (H.os 7) cr _ (H.gt 17)) ?_;rintro vq dH ⟨ag,ai,rfl,hvq,ab⟩;subst vq;(try dsimp only at hM);replace H:=H.bk ab;clear ab;refine kg 15 ?_;obtain ⟨r8,ct,hM⟩:=M.e_bind hM;refine t_gcall (!(ai != 0)) (gy_f rfl) cf38 (B r8) (fun _=>[.agg #[ax,ay,az],aw,I reach,.agg #[I aA,I aB,I aC,I aD]]) (fun hg=>lst4 (gd_of hg (.agg #[ax,ay,az])) (gd_of hg (aw)) (gd_of hg (I reach)) (gd_of hg (.agg #[I aA,I aB,I aC,I aD]))) H (fun hg=>(zeY aV aP aQ marks reach (⟨(aA:Int),(aB:Int),(aC:Int),(aD:Int)⟩:Cas) (Reads.sup (rdo 4) (Reads.of (k:=5) rfl roLe)) (rowSl rfl (H.get (k:=4) rfl) (roLe _ (H.get (k:=5) rfl)) aW) (rdo 6) (H.os 6) (rdo 7) (H.os 7) (aS.app _) aN (M.e_opt ct hg) _ (H.give (A:=[]) rfl)).mono fun v_ w_ ⟨y_,ac,aE,H_⟩=>by subst ac; exact ⟨aE,H.via H_⟩) ?_;intro dJ H;refine kg 1 ?_;refine s_val (x_por (b:=ai != 0) (r:=!r8) rfl rfl (fun hb=>gd_of (c:=!(ai != 0)) (by first | exact hb | (rw [hb]; rfl) | simp_all) (B (!r8))))<|zM (B ((ai != 0)||(!r8))) rfl<|g_val (!((ai != 0)||(!r8))) (gy_f rfl) (fun hg=>x_mv (v:=B most) rfl)<|g_val (!((ai != 0)||(!r8))) (gy_f rfl) (fun hg=>x_mv (v:=B most) (gd_of hg (B most)))<|g_val ((!((ai != 0)||(!r8)))&&most) (gy_gt rfl rfl) (fun hg=>x_mv (v:=I ag) rfl)<|g_val ((!((ai != 0)||(!r8)))&&most) (gy_gt rfl rfl) (fun hg=>x_fa (v:=Oq a8 1) rfl (fa_blk (o:=0) Fd30_1 Sz3))<|g_val ((!((ai != 0)||(!r8)))&&most) (gy_gt rfl rfl) (fun hg=>x_ld (v:=I ae) (gd_of hg (Oq a8 1)) (ldb_sc Sc3 (H.bl 1) rfl))<|g_val ((!((ai != 0)||(!r8)))&&most) (gy_gt rfl rfl) (fun hg=>x_cmp (kd:=.i64) (r:=ag != ae) (gd_of hg (I ag)) (gd_of hg (I ae)) rfl)<|g_val (!((ai != 0)||(!r8))) (gy_f rfl) (fun hg=>x_pand (b:=most) (r:=ag != ae) (gd_of hg (B most)) (fun hb=>gd_of (c:=((!((ai != 0)||(!r8)))&&most)) (by first | exact hb | (rw [hb]; rfl) | simp_all) (B (ag != ae))) rfl)<|s_val (x_por (b:=((ai != 0)||(!r8))) (r:=(most&&(ag != ae))) rfl rfl (fun hb=>gd_of (c:=!((ai != 0)||(!r8))) (by first | exact hb | (rw [hb]; rfl) | simp_all) (B (most&&(ag != ae))))) ?_;refine zM (B (((ai != 0)||(!r8))||(most&&(ag != ae)))) rfl<|g_val (!(((ai != 0)||(!r8))||(most&&(ag != ae)))) (gy_f rfl) (fun hg=>x_mv (v:=B most) rfl)<|g_val (!(((ai != 0)||(!r8))||(most&&(ag != ae)))) (gy_f rfl) (fun hg=>x_not (b:=most) (gd_of hg (B most)))<|g_val (!(((ai != 0)||(!r8))||(most&&(ag != ae)))) (gy_f rfl) (fun hg=>x_mv (v:=B (!most)) (gd_of hg (B (!most))))<|g_val ((!(((ai != 0)||(!r8))||(most&&(ag != ae))))&&(!most)) (gy_gt rfl rfl) (fun hg=>x_mv (v:=I ag) rfl)<|g_val ((!(((ai != 0)||(!r8))||(most&&(ag != ae))))&&(!most)) (gy_gt rfl rfl) (fun hg=>x_fa (v:=Pq a8) rfl (fa_blk (o:=0) Fd30_0 Sz3))<|g_val ((!(((ai != 0)||(!r8))||(most&&(ag != ae))))&&(!most)) (gy_gt rfl rfl) (fun hg=>x_ld (v:=I aj) (gd_of hg (Pq a8)) (ldb_sc Sc3 (H.bl 1) rfl))<|g_val ((!(((ai != 0)||(!r8))||(most&&(ag != ae))))&&(!most)) (gy_gt rfl rfl) (fun hg=>x_cmp (kd:=.i64) (r:=ag != aj) (gd_of hg (I ag)) (gd_of hg (I aj)) rfl)<|g_val (!(((ai != 0)||(!r8))||(most&&(ag != ae)))) (gy_f rfl) (fun hg=>x_pand (b:=!most) (r:=ag != aj) (gd_of hg (B (!most))) (fun hb=>gd_of (c:=((!(((ai != 0)||(!r8))||(most&&(ag != ae))))&&(!most))) (by first | exact hb | (rw [hb]; rfl) | simp_all) (B (ag != aj))) rfl)<|s_val (x_por (b:=(((ai != 0)||(!r8))||(most&&(ag != ae)))) (r:=((!most)&&(ag != aj))) rfl rfl (fun hb=>gd_of (c:=!(((ai != 0)||(!r8))||(most&&(ag != ae)))) (by first | exact hb | (rw [hb]; rfl) | simp_all) (B ((!most)&&(ag != aj))))) ?_;refine s_nil ?_;replace H:=H.pk [1,2,3,4,5,6,7,8,9,10,11,12,13,14,16]
   refine W.cond ((((ai != 0)||(!r8))||(most&&(ag != ae)))||((!most)&&(ag != aj))) rfl (fun bM=>?_) (fun bM=>?_)
   ·replace hM:=M.e_t hM bM;refine kg 4 ?_;replace H:=H.pk [];refine W.ret ?_;have ac:=M.e_pure hM;exact ⟨_,resE_tmp rfl,⟨false,ac,rfl,H⟩⟩
   replace hM:=M.e_f hM bM;refine W.skip ?_;exact ⟨_,upds_of _ _ ⟨rfl,rfl,rfl,rfl,rfl,rfl,rfl,rfl,rfl,trivial⟩,hM,H⟩
  replace hM:=M.e_f hM ba;replace ba:=dI ba;refine W.skip ?_;exact ⟨_,upds_of _ _ ⟨rfl,rfl,rfl,rfl,rfl,rfl,rfl,rfl,rfl,trivial⟩,hM,(H.pk [1,2,3,4,5,6,7,8,9,10,11,12,13,14,16])⟩
 rintro _ dK ⟨ρ,rfl,hM,H⟩;unfold zba at hM;refine kg 4 ?_;obtain ⟨dL,cu,hM⟩:=M.e_bind hM;refine s_call cf39 [.agg #[ak,al,am],aL] rfl (zeH r0 r1 aK r4 (Reads.sup (rdo 9) (Reads.of (k:=10) rfl roLe)) (rowSl rfl (H.get (k:=9) rfl) (roLe _ (H.get (k:=10) rfl)) aO) (rdo 11) (H.os 11) (rdo 12) (H.os 12) (rdo 8) (H.os 8) cu _ (H.gt 15)) ?_;rintro vq dM ⟨aX,aY,br,rfl,hvq,ab⟩;subst vq;(try dsimp only at hM);replace H:=H.bk ab;clear ab;refine kg 3 ?_;refine t_sw 1 0 [I aX,I aY] (.agg #[I aX,I aY]) H rfl rfl Sz30 rfl rfl rfl rfl ?_;intro dN H;refine kg 6 ?_;obtain ⟨dO,cv,hM⟩:=M.e_bind hM;refine s_call cf40 [.agg #[ax,ay,az],aw] rfl (zfk aV aP aQ marks (Reads.sup (rdo 3) (Reads.of (k:=4) rfl roLe)) (rowSl rfl (H.get (k:=3) rfl) (roLe _ (H.get (k:=4) rfl)) aW) (rdo 5) (H.os 5) (rdo 6) (H.os 6) (aS.app _) aN cv _ (H.gt 15)) ?_;rintro vq dP ⟨aZ,a6,bt,rfl,hvq,ab⟩;subst vq;(try dsimp only at hM);replace H:=H.bk ab;clear ab;refine kg 3 ?_;refine t_sw 0 0 [I aZ,I a6] (.agg #[I aZ,I a6]) H rfl rfl Sz30 rfl rfl rfl rfl ?_;intro dQ H;refine kg 11 ?_;refine g_val (!(br != bt)) (gy_f rfl) (fun hg=>x_neS (eqT30 (⟨(aX:Int),(aY:Int)⟩:Span) (⟨(aZ:Int),(a6:Int)⟩:Span) _) gdT30 (gd_of hg (.agg #[I aX,I aY])) (gd_of hg (.agg #[I aZ,I a6])))<|s_val (x_por (b:=br != bt) (r:=!(decide ((⟨(aX:Int),(aY:Int)⟩:Span)=(⟨(aZ:Int),(a6:Int)⟩:Span)))) rfl rfl (fun hb=>gd_of (c:=!(br != bt)) (by first | exact hb | (rw [hb]; rfl) | simp_all) (B (!(decide ((⟨(aX:Int),(aY:Int)⟩:Span)=(⟨(aZ:Int),(a6:Int)⟩:Span)))))))<|s_nil ?_
 refine W.cond ((br != bt)||(!(decide ((⟨(aX:Int),(aY:Int)⟩:Span)=(⟨(aZ:Int),(a6:Int)⟩:Span))))) rfl (fun bN=>?_) (fun bN=>?_)
 ·replace hM:=M.e_t hM bN;refine kg 4 ?_;replace H:=H.pk [];refine W.ret ?_;have ac:=M.e_pure hM;exact ⟨_,resE_tmp rfl,⟨false,ac,rfl,H⟩⟩
 replace hM:=M.e_f hM bN;refine kg 3 ?_;refine W.draw (fun W=>St w W [cBlk a8 [I aZ,I a6] 30,cBlk bJ [I aX,I aY] 30,cBlk bB [ax,ay,az] 61,cOwn (α:=Raw 1) 115 ax bX,cRo bY,cOwn (α:=Mrk) 117 ay aP,cOwn (α:=Rch) 118 az aQ,cBlk bA [ak,al,am] 27,cOwn (α:=Int) 3 aL r4,cOwn (α:=Raw 1) 42 ak bV,cRo bW,cOwn (α:=Mrk) 32 al r1,cOwn (α:=Rch) 44 am aK,cBlk bx [I known.lo,I known.hi] 30,cBlk bw [aH,aI,aJ] 27] R) [(0,true),(1,false),(2,true),(3,true),(4,true),(5,true),(6,true),(7,true),(8,true),(9,true),(10,true),(11,true),(12,true),(13,true),(14,true),(15,true),(16,true),(17,true),(18,true),(19,true),(20,true),(21,true),(22,true),(23,true),(24,true),(25,true),(26,true),(27,true),(28,true),(29,true),(30,true),(31,true)] mixed (by decide +kernel) rfl ?_;intro dR b4;replace H:=H.ext b4;clear b4;refine ⟨(H.pk [0,1,2,3,4,5,6,7,8,9,10,11,12,13,14]),?_⟩;refine kg 1 ?_;refine d_l rfl ?_;obtain ⟨dS,cw,hM⟩:=M.e_bind hM;refine s_call cf9 [.agg #[ak,al,am]] rfl (zaK r0 r1 aK (Reads.sup (rdo 9) (Reads.of (k:=10) rfl roLe)) (rowSl rfl (H.get (k:=9) rfl) (roLe _ (H.get (k:=10) rfl)) aO) (rdo 11) (H.os 11) (rdo 12) (H.os 12) cw _ (H.gt 15)) ?_;rintro vq dT ⟨r9,rfl,hvq,ab⟩;subst vq;(try dsimp only at hM);replace H:=H.bk ab;clear ab;refine s_nil ⟨(H.pk [0,1,2,3,4,5,6,7,8,9,10,11,12,13,14]),?_⟩;refine kg 4 ?_;refine d_q rfl (fun w' H=>x_pand (b:=r9==0) (r:=decide (0<=reach)) rfl (fun hb=>gd_of (c:=r9==0) (by first | exact hb | (rw [hb]; rfl) | simp_all) (B (decide (0<=reach)))) rfl) ?_;have dU:=(a7).len_le;refine kg 6 ?_;refine d_q rfl (fun w' H=>x_pand (b:=((r9==0)&&(decide (0<=reach)))) (r:=decide (reach<(s_Reaches.length:Int))) rfl (fun hb=>gd_of (c:=((r9==0)&&(decide (0<=reach)))) (by first | exact hb | (rw [hb]; rfl) | simp_all) (B (decide (reach<(s_Reaches.length:Int))))) rfl) ?_;obtain ⟨bO,hM⟩:=M.e_grd hM;replace bO:=M.imp_of bO;simp only [Bool.and_eq_true,decide_eq_true_eq] at bO;obtain ⟨bP,hM⟩:=M.e_grd hM;replace bP:=M.imp_of bP;simp only [Bool.and_eq_true,decide_eq_true_eq] at bP;refine kg 17 ?_;refine d_q rfl (fun w' H=>x_pand (b:=(((r9==0)&&(decide (0<=reach)))&&(decide (reach<(s_Reaches.length:Int))))) (r:=decide (29<(((s_Reaches.getD (Int.toNat reach) default).hi)-((s_Reaches.getD (Int.toNat reach) default).lo)))) rfl (fun hb=>gd_of (c:=(((r9==0)&&(decide (0<=reach)))&&(decide (reach<(s_Reaches.length:Int))))) (by first | exact hb | (rw [hb]; rfl) | simp_all) (B (decide (29<(((s_Reaches.getD (Int.toNat reach) default).hi)-((s_Reaches.getD (Int.toNat reach) default).lo)))))) rfl) ?_;refine d_nil ?_;refine W.cond ((((r9==0)&&(decide (0<=reach)))&&(decide (reach<(s_Reaches.length:Int))))&&(decide (29<(((s_Reaches.getD (Int.toNat reach) default).hi)-((s_Reaches.getD (Int.toNat reach) default).lo))))) rfl (fun bQ=>?_) (fun bQ=>?_)
 ·replace hM:=M.e_t hM bQ;refine kg 4 ?_;obtain ⟨dV,cx,hM⟩:=M.e_bind hM;refine s_call cf27 [.agg #[ak,al,am],.agg #[aH,aI,aJ]] rfl (zdC r0 r1 aK s_Sections s_Marks s_Reaches (Reads.sup (rdo 9) (Reads.of (k:=10) rfl roLe)) (rowSl rfl (H.get (k:=9) rfl) (roLe _ (H.get (k:=10) rfl)) aO) (rdo 11) (H.os 11) (rdo 12) (H.os 12) (bg.app _) bh (bi.app _) bj (bm.app _) a7 cx _ (H.gt 15)) ?_;rintro vq dW ⟨bb,rfl,hvq,ab⟩;subst vq;(try dsimp only at hM);replace H:=H.bk ab;clear ab;refine kg 3 ?_;obtain ⟨bc,cy,hM⟩:=M.e_bind hM;refine t_gcall bb (gy_t rfl) cf41 (B bc) (fun _=>[aL,aw]) (fun hg=>lst2 (gd_of hg (aL)) (gd_of hg (aw))) H (fun hg=>(zde r4 marks (rdo 8) (H.os 8) (aS.app _) aN (M.e_opt cy hg) _ (H.give (A:=[]) rfl)).mono fun v_ w_ ⟨y_,ac,aE,H_⟩=>by subst ac; exact ⟨aE,H.via H_⟩) ?_;intro dX H;refine s_val (x_pand (b:=bb) (r:=bc) rfl (fun hb=>gd_of (c:=bb) (by first | exact hb | (rw [hb]; rfl) | simp_all) (B bc)) rfl) ?_;refine kg 1 ?_;obtain ⟨bu,cz,hM⟩:=M.e_bind hM;refine t_gcall (bb&&bc) (gy_t rfl) cf11 (B bu) (fun _=>[]) (fun _=>rfl) H (fun hg=>(zaw (M.e_opt cz hg) _ (H.give (A:=[]) rfl)).mono fun v_ w_ ⟨y_,ac,aE,H_⟩=>by subst ac; exact ⟨aE,H.via H_⟩) ?_;intro dY H;refine s_val (x_pand (b:=(bb&&bc)) (r:=bu) rfl (fun hb=>gd_of (c:=(bb&&bc)) (by first | exact hb | (rw [hb]; rfl) | simp_all) (B bu)) rfl) ?_;refine kg 2 ?_;replace H:=H.pk [];refine W.ret ?_;have ac:=M.e_pure hM;exact ⟨_,resE_tmp rfl,⟨((bb&&bc)&&bu),ac,rfl,H⟩⟩
 replace hM:=M.e_f hM bQ;refine kg 7 ?_;obtain ⟨dZ,cA,hM⟩:=M.e_bind hM;refine s_call cf42 [.agg #[ak,al,am],aL,I reach,.agg #[I known.lo,I known.hi]] rfl (ze7 r0 r1 aK r4 reach known (Reads.sup (rdo 9) (Reads.of (k:=10) rfl roLe)) (rowSl rfl (H.get (k:=9) rfl) (roLe _ (H.get (k:=10) rfl)) aO) (rdo 11) (H.os 11) (rdo 12) (H.os 12) (rdo 8) (H.os 8) cA _ (H.gt 15)) ?_;rintro vq d4 ⟨ap,aq,aF,rfl,hvq,ab⟩;subst vq;(try dsimp only at hM);replace H:=H.bk ab;clear ab;refine kg 3 ?_;refine t_sw 1 0 [I ap,I aq] (.agg #[I ap,I aq]) H rfl rfl Sz30 rfl rfl rfl rfl ?_;intro d5 H;refine kg 8 ?_;obtain ⟨d6,cB,hM⟩:=M.e_bind hM;refine s_call cf43 [.agg #[ax,ay,az],aw,I reach,.agg #[I known.lo,I known.hi]] rfl (zev aV aP aQ marks reach known (Reads.sup (rdo 3) (Reads.of (k:=4) rfl roLe)) (rowSl rfl (H.get (k:=3) rfl) (roLe _ (H.get (k:=4) rfl)) aW) (rdo 5) (H.os 5) (rdo 6) (H.os 6) (aS.app _) aN cB _ (H.gt 15)) ?_;rintro vq d7 ⟨au,av,aG,rfl,hvq,ab⟩;subst vq;(try dsimp only at hM);replace H:=H.bk ab;clear ab;refine kg 3 ?_;refine t_sw 0 0 [I au,I av] (.agg #[I au,I av]) H rfl rfl Sz30 rfl rfl rfl rfl ?_;intro d8 H;refine kg 2 ?_;replace H:=H.pk [0,1,7,8,9,10,11,12,14];refine kg 8 ?_;refine g_val (aF==aG) (gy_t rfl) (fun hg=>x_eqS (eqT30 (⟨(ap:Int),(aq:Int)⟩:Span) (⟨(au:Int),(av:Int)⟩:Span) _) gdT30 (gd_of hg (.agg #[I ap,I aq])) (gd_of hg (.agg #[I au,I av])))<|s_val (x_pand (b:=aF==aG) (r:=decide ((⟨(ap:Int),(aq:Int)⟩:Span)=(⟨(au:Int),(av:Int)⟩:Span))) rfl (fun hb=>gd_of (c:=aF==aG) (by first | exact hb | (rw [hb]; rfl) | simp_all) (B (decide ((⟨(ap:Int),(aq:Int)⟩:Span)=(⟨(au:Int),(av:Int)⟩:Span))))) rfl) ?_;refine kg 3 ?_;obtain ⟨aR,cC,hM⟩:=M.e_bind hM;refine t_gcall ((aF==aG)&&(decide ((⟨(ap:Int),(aq:Int)⟩:Span)=(⟨(au:Int),(av:Int)⟩:Span)))) (gy_t rfl) cf27 (B aR) (fun _=>[.agg #[ak,al,am],.agg #[aH,aI,aJ]]) (fun hg=>lst2 (gd_of hg (.agg #[ak,al,am])) (gd_of hg (.agg #[aH,aI,aJ]))) H (fun hg=>(zdC r0 r1 aK s_Sections s_Marks s_Reaches (Reads.sup (rdo 4) (Reads.of (k:=5) rfl roLe)) (rowSl rfl (H.get (k:=4) rfl) (roLe _ (H.get (k:=5) rfl)) aO) (rdo 6) (H.os 6) (rdo 7) (H.os 7) (bg.app _) bh (bi.app _) bj (bm.app _) a7 (M.e_opt cC hg) _ (H.give (A:=[]) rfl)).mono fun v_ w_ ⟨y_,ac,aE,H_⟩=>by subst ac; exact ⟨aE,H.via H_⟩) ?_;intro d9 H;refine s_val (x_pand (b:=((aF==aG)&&(decide ((⟨(ap:Int),(aq:Int)⟩:Span)=(⟨(au:Int),(av:Int)⟩:Span))))) (r:=aR) rfl (fun hb=>gd_of (c:=((aF==aG)&&(decide ((⟨(ap:Int),(aq:Int)⟩:Span)=(⟨(au:Int),(av:Int)⟩:Span))))) (by first | exact hb | (rw [hb]; rfl) | simp_all) (B aR)) rfl) ?_;refine kg 3 ?_;obtain ⟨bf,cD,hM⟩:=M.e_bind hM;refine t_gcall (((aF==aG)&&(decide ((⟨(ap:Int),(aq:Int)⟩:Span)=(⟨(au:Int),(av:Int)⟩:Span))))&&aR) (gy_t rfl) cf41 (B bf) (fun _=>[aL,aw]) (fun hg=>lst2 (gd_of hg (aL)) (gd_of hg (aw))) H (fun hg=>(zde r4 marks (rdo 3) (H.os 3) (aS.app _) aN (M.e_opt cD hg) _ (H.give (A:=[]) rfl)).mono fun v_ w_ ⟨y_,ac,aE,H_⟩=>by subst ac; exact ⟨aE,H.via H_⟩) ?_;intro ed H;refine s_val (x_pand (b:=(((aF==aG)&&(decide ((⟨(ap:Int),(aq:Int)⟩:Span)=(⟨(au:Int),(av:Int)⟩:Span))))&&aR)) (r:=bf) rfl (fun hb=>gd_of (c:=(((aF==aG)&&(decide ((⟨(ap:Int),(aq:Int)⟩:Span)=(⟨(au:Int),(av:Int)⟩:Span))))&&aR)) (by first | exact hb | (rw [hb]; rfl) | simp_all) (B bf)) rfl) ?_;refine kg 1 ?_;obtain ⟨bv,cE,hM⟩:=M.e_bind hM;refine t_gcall ((((aF==aG)&&(decide ((⟨(ap:Int),(aq:Int)⟩:Span)=(⟨(au:Int),(av:Int)⟩:Span))))&&aR)&&bf) (gy_t rfl) cf11 (B bv) (fun _=>[]) (fun _=>rfl) H (fun hg=>(zaw (M.e_opt cE hg) _ (H.give (A:=[]) rfl)).mono fun v_ w_ ⟨y_,ac,aE,H_⟩=>by subst ac; exact ⟨aE,H.via H_⟩) ?_;intro ee H;refine s_val (x_pand (b:=((((aF==aG)&&(decide ((⟨(ap:Int),(aq:Int)⟩:Span)=(⟨(au:Int),(av:Int)⟩:Span))))&&aR)&&bf)) (r:=bv) rfl (fun hb=>gd_of (c:=((((aF==aG)&&(decide ((⟨(ap:Int),(aq:Int)⟩:Span)=(⟨(au:Int),(av:Int)⟩:Span))))&&aR)&&bf)) (by first | exact hb | (rw [hb]; rfl) | simp_all) (B bv)) rfl) ?_;refine kg 2 ?_;replace H:=H.pk [];refine W.ret ?_
 have ac:=M.e_pure hM;exact ⟨_,resE_tmp rfl,⟨(((((aF==aG)&&(decide ((⟨(ap:Int),(aq:Int)⟩:Span)=(⟨(au:Int),(av:Int)⟩:Span))))&&aR)&&bf)&&bv),ac,rfl,H⟩⟩

end Go.Proofs.YtbldmjejckjflaaGreat
end
namespace Go.Nm
namespace M
variable {α β σ ρ:Type}
def Out (m:M α) (Q:α->Prop):Prop:=∃ r,m.Ends r/\Q r
theorem o_of {m:M α} {a:α} {Q:α->Prop} (h:m.Ends a) (q:Q a):m.Out Q:=⟨a,h,q⟩
theorem o_pure {a:α} {Q:α->Prop} (h:Q a):(pure a).Out Q:=⟨a,i_pure,h⟩
theorem o_mono {m:M α} {P Q:α->Prop} (h:m.Out P) (k:∀ a,P a->Q a):m.Out Q:=by
  obtain ⟨a,h1,h2⟩:=h;exact ⟨a,h1,k a h2⟩
theorem o_bind {m:M α} {k:α->M β} {P:α->Prop} {Q:β->Prop} (h:m.Out P) (h':∀ a,P a->(k a).Out Q):(bind m k).Out Q:=by
  obtain ⟨a,h1,h2⟩:=h;obtain ⟨b,h3,h4⟩:=h' a h2;exact ⟨b,i_bind h1 h3,h4⟩
theorem o_bindE {m:M α} {k:α->M β} {a:α} {Q:β->Prop} (h:m.Ends a) (h':(k a).Out Q):(bind m k).Out Q:=o_bind (o_of (Q:=fun x=>x=a) h rfl) (fun _ e=>by subst e; exact h')
theorem o_grd {b:Bool} {k:M α} {Q:α->Prop} (hb:b=true) (h:k.Out Q):(grd b k).Out Q:=by subst hb; exact h
theorem o_if {b:Bool} {x y:M α} {Q:α->Prop} (h:b=true->x.Out Q) (h':b=false->y.Out Q):(bif b then x else y).Out Q:=by
  cases b with
  | true=>exact h rfl
  | false=>exact h' rfl
theorem o_t {b:Bool} {x y:M α} {Q:α->Prop} (hb:b=true) (h:x.Out Q):(bif b then x else y).Out Q:=by subst hb; exact h
theorem o_f {b:Bool} {x y:M α} {Q:α->Prop} (hb:b=false) (h:y.Out Q):(bif b then x else y).Out Q:=by subst hb; exact h
theorem o_opt {b:Bool} {m:M α} {d:α} {Q:α->Prop} (h:b=true->m.Out Q) (h':b=false->Q d):(opt b m d).Out Q:=by
  cases b with
  | true=>exact h rfl
  | false=>exact o_pure (h' rfl)
/-- What a round leaves. -/
def Rd (J:Nat->σ->Prop) (Q:ρ->Prop) (m:Nat):σ ⊕ ρ->Prop
  | .inl s=>∃ m',m'<m/\J m' s
  | .inr r=>Q r
theorem o_iter {body:σ->M (σ ⊕ ρ)} {Q:ρ->Prop} (J:Nat->σ->Prop) (round:∀ m s,J m s->(body s).Out (Rd J Q m)):∀ (m:Nat) (s:σ),J m s->(iter body s).Out Q:=by
  intro m;induction m using Nat.strongRecOn with
  | _ m ih =>
    intro s hs;obtain ⟨x,h1,h2⟩:=round m s hs;cases x with
    | inl s' =>
      obtain ⟨m',hlt,hj⟩:=h2;obtain ⟨r,h3,h4⟩:=ih m' hlt s' hj;exact ⟨r,i_next h1 h3,h4⟩
    | inr r=>exact ⟨r,i_stop h1,h2⟩
/-- A loop that counts from 0 to n. -/
theorem o_for {body:σ->M (σ ⊕ ρ)} {Q:ρ->Prop} (n:Nat) (J:Nat->σ->Prop) (round:∀ i s,i<n->J i s->(body s).Out (fun x=>match x with | .inl s'=>J (i+1) s' | .inr r=>Q r))
    (last:∀ s,J n s->(body s).Out (fun x=>match x with | .inl _=>False | .inr r=>Q r)) {s:σ} (h:J 0 s):(iter body s).Out Q:=by
  refine o_iter (fun m s=>∃ i,i<=n/\m=n-i/\J i s) ?_ n s ⟨0,Nat.zero_le _,rfl,h⟩;rintro m s ⟨i,hi,rfl,hj⟩;by_cases e:i<n
  · refine o_mono (round i s e hj) ?_;intro x hx;cases x with
    | inl s'=>exact ⟨n-(i+1),by omega,i+1,e,rfl,hx⟩
    | inr r=>exact hx
  · obtain rfl:i=n:=by omega
    refine o_mono (last s hj) ?_;intro x hx;cases x with
    | inl s'=>exact hx.elim
    | inr r=>exact hx
end M
theorem M.i_f {α:Type} {b:Bool} {x y:M α} {r:α} (hb:b=false) (h:y.Ends r):(bif b then x else y).Ends r:=by subst hb; exact h
theorem M.i_for {σ ρ:Type} {body:σ->M (σ ⊕ ρ)} {r:ρ} (st:Nat->σ) (n:Nat) (step:∀ i,i<n->(body (st i)).Ends (.inl (st (i+1)))) (fin:(body (st n)).Ends (.inr r)):(M.iter body (st 0)).Ends r:=by
  refine M.i_loop (r:=r) (fun m s=>∃ i,i<=n/\m=n-i/\s=st i) ?_ n (st 0) ⟨0,Nat.zero_le _,rfl,rfl⟩;rintro m s ⟨i,hi,rfl,rfl⟩;by_cases h:i<n
  · exact .inl ⟨_,n-(i+1),by omega,step i h,i+1,h,rfl,rfl⟩
  · obtain rfl:i=n:=by omega
    exact .inr fin
theorem M.i_t {α:Type} {b:Bool} {x y:M α} {r:α} (hb:b=true) (h:x.Ends r):(bif b then x else y).Ends r:=by subst hb; exact h
theorem take_succ_D {α:Type} (l:List α) (i:Nat) (h:i<l.length) (d:α):l.take i++[l.getD i d]=l.take (i+1):=by
  rw [List.take_succ_eq_append_getElem h];simp [List.getD,h]
theorem gset {α:Type} (l:List α) (i j:Nat) (x d:α) (h:i<l.length):(l.set i x).getD j d=if j=i then x else l.getD j d:=by
  simp only [List.getD_eq_getElem?_getD,List.getElem?_set];by_cases e:i=j
  · subst e; simp [h]
  · rw [if_neg e,if_neg (fun h=>e h.symm)]
theorem getD_el {α:Type} (l:List α) {k:Nat} (h:k<l.length) (d:α):l.getD k d=l[k]:=by rw [List.getD_eq_getElem?_getD,List.getElem?_eq_getElem h,Option.getD_some]
theorem gOr {c:Bool} {p:Prop} [Decidable p] (hp:p):(!c||decide p)=true:=by rw [decide_eq_true hp,Bool.or_true]
theorem gOr2 {c:Bool} {p q:Prop} [Decidable p] [Decidable q] (hp:p) (hq:q):(!c||(decide p&&decide q))=true:=by rw [decide_eq_true hp,decide_eq_true hq]; cases c <;> rfl
theorem gA2 {p q:Prop} [Decidable p] [Decidable q] (hp:p) (hq:q):(decide p&&decide q)=true:=by rw [decide_eq_true hp,decide_eq_true hq]; rfl
theorem gA3 {p q r:Prop} [Decidable p] [Decidable q] [Decidable r] (hp:p) (hq:q) (hr:r):(decide p&&decide q&&decide r)=true:=by rw [decide_eq_true hp,decide_eq_true hq,decide_eq_true hr]; rfl
theorem mem_getD {α:Type} {l:List α} {x:α} (h:x∈l) (d:α):∃ i,i<l.length/\l.getD i d=x:=by
  obtain ⟨i,hi,e⟩:=List.getElem_of_mem h;exact ⟨i,hi,by rw [getD_el l hi d]; exact e⟩
end Go.Nm
namespace Go.Nm
theorem M.Out.ends {α:Type} {m:M α} {a:α} (h:m.Out (fun r=>r=a)):m.Ends a:=by
  obtain ⟨r,h1,rfl⟩:=h;exact h1
namespace Fl
/-- The greatest whole number whose square is at most a number. -/
def rtN:Nat->Nat
  | 0=>0
  | n+1=>if (rtN n+1)*(rtN n+1)<=n+1 then rtN n+1 else rtN n
theorem rtN_spec:∀ n,rtN n*rtN n<=n/\n<(rtN n+1)*(rtN n+1)
  | 0=>by decide
  | n + 1 => by
    obtain ⟨h1,h2⟩:=rtN_spec n;unfold rtN;split
    · rename_i h
      refine ⟨h,?_⟩;have:(rtN n+1+1)*(rtN n+1+1)=(rtN n+1)*(rtN n+1)+2*(rtN n+1)+1:=by
        simp only [Nat.add_mul,Nat.mul_add,Nat.mul_one,Nat.one_mul]; omega
      omega
    · rename_i h
      exact ⟨by omega,by omega⟩
def rt (n:Int):Int:=rtN n.toNat
theorem rt_nn (n:Int):0<=rt n:=Int.natCast_nonneg _
theorem rt_le {n:Int} (h:0<=n):rt n*rt n<=n:=by
  have:=(rtN_spec n.toNat).1;unfold rt;have h2:((rtN n.toNat*rtN n.toNat:Nat):Int)<=(n.toNat:Int):=Int.ofNat_le.2 this;rw [Int.natCast_mul] at h2;omega
theorem rt_lt {n:Int} (h:0<=n):n<(rt n+1)*(rt n+1):=by
  have:=(rtN_spec n.toNat).2;unfold rt;have h2:(n.toNat:Int)<(((rtN n.toNat+1)*(rtN n.toNat+1):Nat):Int):=Int.ofNat_lt.2 this;rw [Int.natCast_mul,Int.natCast_add] at h2;simp only [Int.ofNat_eq_natCast,Int.cast_ofNat_Int,Int.natCast_one] at h2;omega
theorem sq_mono {a b:Int} (h0:0<=a) (h:a<=b):a*a<=b*b:=Int.mul_le_mul h h h0 (by omega)
theorem rt_uniq {n x:Int} (h0:0<=x) (h1:x*x<=n) (h2:n<(x+1)*(x+1)):rt n=x:=by
  have hn:0<=n:=Int.le_trans (Int.mul_nonneg h0 h0) h1;have a:=rt_le hn;have b:=rt_lt hn;have c:=rt_nn n;rcases Int.lt_trichotomy (rt n) x with e | e | e
  · have:=sq_mono (by omega:0<=rt n+1) (by omega:rt n+1<=x);omega
  · exact e
  · have:=sq_mono (by omega:0<=x+1) (by omega:x+1<=rt n);omega
theorem rt_mono {a b:Int} (h0:0<=a) (h:a<=b):rt a<=rt b:=by
  rcases Int.lt_or_le (rt b) (rt a) with e | e
  · have h1:=rt_le h0;have h2:=rt_lt (by omega:0<=b);have:=sq_mono (by have:=rt_nn b; omega:0<=rt b+1) (by omega:rt b+1<=rt a);omega
  · exact e
theorem div_mono {a b d e:Int} (ha:0<=a) (h:a<=b) (he:0<e) (hd:e<=d):a / d<=b / e:=by
  refine Int.le_ediv_of_mul_le he ?_;have h1:0<=a / d:=Int.ediv_nonneg ha (by omega);have h2:a / d*e<=a / d*d:=Int.mul_le_mul_of_nonneg_left hd h1;have h3:a / d*d<=a:=Int.ediv_mul_le a (by omega);omega
/-- Rows whose stages rise and whose numbers do not fall. -/
def Rows:List FRow->Prop
  | []=>True
  | [a]=>0<=a.stage/\a.stage<=2000/\0<=a.carry/\a.carry<=100000
  | a :: b :: r=>0<=a.stage/\a.stage<b.stage/\0<=a.carry/\a.carry<=b.carry/\Rows (b :: r)
theorem Rows.head {a:FRow} {r:List FRow} (h:Rows (a :: r)):0<=a.stage/\a.stage<=2000/\0<=a.carry/\a.carry<=100000:=by
  induction r generalizing a with
  | nil=>exact h
  | cons b r ih =>
    obtain ⟨h1,h2,h3,h4,h5⟩:=h;have:=ih h5;omega
/-- What is carried between two rows. -/
def ip (a b:FRow) (s:Int):Int:=a.carry+(b.carry-a.carry)*(s-a.stage) / (b.stage-a.stage)
def go:FRow->List FRow->Int->Int
  | a,[],_=>a.carry
  | a,b :: r,s=>if s<b.stage then ip a b s else go b r s
def car:List FRow->Int->Int
  | [],_=>0
  | a :: r,s=>if s<a.stage then 0 else go a r s
theorem ip_mono {a b:FRow} {s t:Int} (h0:a.stage<=s) (h:s<=t) (h1:t<=b.stage) (hs:a.stage<b.stage) (hc:a.carry<=b.carry):a.carry<=ip a b s/\ip a b s<=ip a b t/\ip a b t<=b.carry:=by
  unfold ip;have n1:0<=(b.carry-a.carry)*(s-a.stage):=Int.mul_nonneg (by omega) (by omega);have n2:(b.carry-a.carry)*(s-a.stage)<=(b.carry-a.carry)*(t-a.stage):=Int.mul_le_mul_of_nonneg_left (by omega) (by omega);have n3:(b.carry-a.carry)*(t-a.stage)<=(b.carry-a.carry)*(b.stage-a.stage):=Int.mul_le_mul_of_nonneg_left (by omega) (by omega);have d1:0<=(b.carry-a.carry)*(s-a.stage) / (b.stage-a.stage):=Int.ediv_nonneg n1 (by omega);have d2:=div_mono n1 n2 (by omega:0<b.stage-a.stage) (Int.le_refl _);have d3:=div_mono (Int.le_trans n1 n2) n3 (by omega:0<b.stage-a.stage) (Int.le_refl _);rw [Int.mul_ediv_cancel _ (by omega:b.stage-a.stage ≠ 0)] at d3;omega
theorem go_mono {r:List FRow} {a:FRow} (h:Rows (a :: r)) {s t:Int} (h0:a.stage<=s) (hst:s<=t):a.carry<=go a r s/\go a r s<=go a r t/\go a r t<=100000:=by
  induction r generalizing a s with
  | nil=>have:=h.head; exact ⟨Int.le_refl _,Int.le_refl _,this.2.2.2⟩
  | cons b r ih =>
    have hh:=h;obtain ⟨h1,h2,h3,h4,h5⟩:=h;have hb:=h5.head;unfold go;by_cases e:s<b.stage
    · rw [if_pos e];by_cases e':t<b.stage
      · rw [if_pos e'];have:=ip_mono (a:=a) (b:=b) h0 hst (by omega) h2 h4;omega
      · rw [if_neg e'];have k1:=ip_mono (a:=a) (b:=b) h0 (Int.le_refl s) (by omega) h2 h4;have k2:=ih h5 (s:=t) (by omega) (Int.le_refl t);omega
    · rw [if_neg e,if_neg (by omega)];have:=ih h5 (s:=s) (by omega) hst;omega
theorem car_mono {rows:List FRow} (h:Rows rows) {s t:Int} (hst:s<=t):0<=car rows s/\car rows s<=car rows t/\car rows t<=100000:=by
  cases rows with
  | nil=>exact ⟨Int.le_refl _,Int.le_refl _,show (0:Int)<=100000 by omega⟩
  | cons a r =>
    have hh:=h.head;have hc:∀ s,car (a :: r) s=if s<a.stage then 0 else go a r s:=fun _=>rfl
    rw [hc,hc];by_cases e:s<a.stage
    · rw [if_pos e];by_cases e':t<a.stage
      · rw [if_pos e']; omega
      · rw [if_neg e'];have:=go_mono h (s:=t) (by omega) (Int.le_refl t);omega
    · rw [if_neg e,if_neg (by omega)];have:=go_mono h (s:=s) (by omega) hst;omega
end Fl
end Go.Nm
namespace Go.Nm
namespace Fl
theorem Rows.pw:∀ {l:List FRow},Rows l->l.Pairwise (fun a b=>a.stage<b.stage)
  | [],_=>List.Pairwise.nil
  | [a],_=>List.pairwise_singleton _ _
  | a :: b :: r,h=>by
    obtain ⟨h1,h2,h3,h4,h5⟩:=h;have ih:=h5.pw;refine List.Pairwise.cons (fun x hx=>?_) ih;rcases List.mem_cons.1 hx with rfl | hx
    · exact h2
    · have:=(List.pairwise_cons.1 ih).1 x hx;omega
theorem Rows.lt {l:List FRow} (h:Rows l) {i j:Nat} (hij:i<j) (hj:j<l.length):(l.getD i default).stage<(l.getD j default).stage:=by
  rw [getD_el l (by omega),getD_el l hj];exact (List.pairwise_iff_getElem.1 h.pw) i j (by omega) hj hij
theorem Rows.el:∀ {l:List FRow},Rows l->∀ j,j<l.length->0<=(l.getD j default).stage/\(l.getD j default).stage<=2000/\0<=(l.getD j default).carry/\(l.getD j default).carry<=100000
  | [],_,j,hj=>by simp at hj
  | a :: r,h,0,_=>h.head
  | [a],_,j+1,hj=>by simp at hj
  | a :: b :: r,h,j+1,hj=>h.2.2.2.2.el j (by simp at hj ⊢; omega)
theorem Rows.cm:∀ {l:List FRow},Rows l->∀ j,j+1<l.length->(l.getD j default).carry<=(l.getD (j+1) default).carry
  | [],_,j,hj=>by simp at hj
  | [a],_,j,hj=>by simp at hj
  | a :: b :: r,h,0,_=>h.2.2.2.1
  | a :: b :: r,h,j+1,hj=>h.2.2.2.2.cm j (by simp at hj ⊢; omega)
theorem go_btw:∀ (r:List FRow) (a:FRow),Rows (a :: r)->∀ (k:Nat) (s:Int),k+1<(a :: r).length->((a :: r).getD k default).stage<=s->s<((a :: r).getD (k+1) default).stage →
    go a r s=ip ((a :: r).getD k default) ((a :: r).getD (k+1) default) s
  | [],_,_,k,_,hk,_,_=>by simp at hk
  | b :: r,a,h,0,s,_,h1,h2=>by
    exact if_pos (show s<b.stage from h2)
  | b :: r,a,h,k+1,s,hk,h1,h2=>by
    have hb:b.stage<=s:=by
      cases k with
      | zero=>exact h1
      | succ k =>
        have:=Rows.lt h (i:=1) (j:=k+2) (by omega) (by simp at hk ⊢; omega);have e:((a :: b :: r).getD 1 default).stage=b.stage:=rfl;have e2:((a :: b :: r).getD (k+2) default).stage<=s:=h1;omega
    show (if s<b.stage then ip a b s else go b r s)=_;rw [if_neg (by omega)];exact go_btw r b h.2.2.2.2 k s (by simp at hk ⊢; omega) h1 h2
theorem go_last:∀ (r:List FRow) (a:FRow),Rows (a :: r)->∀ (s:Int),((a :: r).getD r.length default).stage<=s->go a r s=((a :: r).getD r.length default).carry
  | [],_,_,_,_=>rfl
  | b :: r,a,h,s,h1=>by
    have hb:b.stage<=s:=by
      cases r with
      | nil=>exact h1
      | cons c r =>
        have:=Rows.lt h (i:=1) (j:=r.length+2) (by omega) (by simp);have e:((a :: b :: c :: r).getD 1 default).stage=b.stage:=rfl;have e2:((a :: b :: c :: r).getD (r.length+2) default).stage<=s:=h1;omega
    show (if s<b.stage then ip a b s else go b r s)=_;rw [if_neg (by omega)];exact go_last r b h.2.2.2.2 s h1
theorem car_zero {l:List FRow} {s:Int} (h:l ≠ []) (h1:s<(l.getD 0 default).stage):car l s=0:=by
  cases l with
  | nil=>exact absurd rfl h
  | cons a r=>exact if_pos h1
theorem car_btw {l:List FRow} (h:Rows l) {k:Nat} {s:Int} (hk:k+1<l.length) (h1:(l.getD k default).stage<=s) (h2:s<(l.getD (k+1) default).stage):car l s=ip (l.getD k default) (l.getD (k+1) default) s:=by
  cases l with
  | nil=>simp at hk
  | cons a r =>
    have h0:a.stage<=s:=by
      cases k with
      | zero=>exact h1
      | succ k =>
        have:=Rows.lt h (i:=0) (j:=k+1) (by omega) (by omega);have e:((a :: r).getD 0 default).stage=a.stage:=rfl;omega
    exact (if_neg (by omega)).trans (go_btw r a h k s hk h1 h2)
theorem car_last {l:List FRow} (h:Rows l) {k:Nat} {s:Int} (hk:k+1=l.length) (h1:(l.getD k default).stage<=s):car l s=(l.getD k default).carry:=by
  cases l with
  | nil=>simp at hk
  | cons a r =>
    have hk':k=r.length:=by simp at hk; omega
    subst hk';have h0:a.stage<=s:=by
      rcases Nat.eq_zero_or_pos r.length with e | e
      · rw [e] at h1; exact h1
      · have:=Rows.lt h (i:=0) (j:=r.length) e (by simp);have e:((a :: r).getD 0 default).stage=a.stage:=rfl;omega
    exact (if_neg (by omega)).trans (go_last r a h s h1)
theorem car_met {l:List FRow} (h:Rows l) {k:Nat} {s:Int} (hk:k<l.length) (h1:(l.getD k default).stage=s):car l s=(l.getD k default).carry:=by
  by_cases e:k+1<l.length
  · have:=Rows.lt h (i:=k) (j:=k+1) (by omega) e;rw [car_btw h e (by omega) (by omega)];unfold ip;rw [h1,Int.sub_self,Int.mul_zero,Int.zero_ediv,Int.add_zero]
  · exact car_last h (by omega) (by omega)
end Fl
end Go.Nm
namespace Go.Proofs.YtbldmjejckjflaaGreat
open Go Go.Nm
theorem root_ends {n:Int} (h0:0<=n) (h1:n<4611686018427387904):(zcx n).Ends (Fl.rt n):=by
  unfold zcx;refine M.i_bind (M.Out.ends ?_) M.i_pure;refine M.o_iter (fun m (s:Int × Int)=>0<=s.1/\s.1<=s.2/\s.2<=2147483648/\m=(s.2-s.1).toNat/\s.1*s.1<=n/\n<(s.2+1)*(s.2+1)) ?_ _ (0,2147483648) ⟨by decide,by decide,by decide,rfl,by simpa using h0,Int.lt_trans h1 (by decide)⟩;rintro m ⟨l,h⟩ ⟨a,b,c,rfl,e,f⟩;dsimp only at a b c e f ⊢;simp only [zcV];refine M.o_if (fun hb=>?_) (fun hb=>?_)
  · have hb:=of_decide_eq_true hb;have q1:l<l+(h-l+1) / 2:=by omega
    have q2:l+(h-l+1) / 2<=h:=by omega
    refine M.o_grd (gA2 (by omega) (by omega)) (M.o_grd (gA2 (by omega) (by omega)) (M.o_grd (gA3 (by omega) (by omega) (by decide)) ?_));generalize l+(h-l+1) / 2=q at q1 q2 ⊢;have s1:0<=q*q:=Int.mul_nonneg (by omega) (by omega);have s2:q*q<=2147483648*2147483648:=Fl.sq_mono (by omega) (by omega);refine M.o_grd (gA2 (by omega) (by omega)) (M.o_grd (gA2 (by omega) (by omega)) (M.o_if (fun hc=>?_) (fun hc=>?_)))
    · have hc:=of_decide_eq_true hc;exact M.o_pure ⟨(h-q).toNat,by omega,by dsimp only; omega,by dsimp only; omega,by dsimp only; omega,rfl,hc,f⟩
    · have hc:=of_decide_eq_false hc;refine M.o_grd (gA2 (by omega) (by omega)) (M.o_pure ⟨(q-1-l).toNat,by omega,by dsimp only; omega,by dsimp only; omega,by dsimp only; omega,rfl,e,?_⟩);dsimp only;rw [show q-1+1=q by omega];omega
  · have hb:=of_decide_eq_false hb;obtain rfl:l=h:=by omega
    exact M.o_pure (Fl.rt_uniq a e f).symm
theorem cmp_ends (x y:Int):(m_cmp_Compare_int x y).Ends (if x<y then -1 else if y<x then 1 else 0):=by
  unfold m_cmp_Compare_int m_cmp_isNaN_int;refine M.i_bind (a:=false) (by rw [show false=(x != x) by simp]; exact M.i_pure) (M.i_bind (a:=false) (by rw [show false=(y != y) by simp]; exact M.i_pure) (M.i_f rfl (M.i_f rfl ?_)));by_cases h:x<y
  · rw [if_pos h];exact M.i_t (decide_eq_true h) M.i_pure
  · rw [if_neg h];refine M.i_f (decide_eq_false h) ?_;by_cases h':y<x
    · rw [if_pos h'];exact M.i_t (decide_eq_true h') M.i_pure
    · rw [if_neg h'];exact M.i_f (decide_eq_false h') M.i_pure
theorem cmp1_ends (r:FRow) (s:Int):(zbD r s).Ends (if r.stage<s then -1 else if s<r.stage then 1 else 0):=by
  unfold zbD;exact M.i_bind (cmp_ends _ _) M.i_pure
theorem bs_out {rows:List FRow} (hr:Fl.Rows rows) (hl:rows.length<=1000) (s:Int):(zcu rows s).Out (fun x=>∃ k:Nat,x.1=k/\k<=rows.length ∧
    (∀ j,j<k->(rows.getD j default).stage<s)/\(∀ j,k<=j->j<rows.length->s<=(rows.getD j default).stage)/\(x.2=true->k<rows.length/\(rows.getD k default).stage=s)/\(x.2=false->k<rows.length->s<(rows.getD k default).stage)):=by
  unfold zcu;refine M.o_bind (P:=fun (i:Int)=>∃ k:Nat,i=(k:Int)/\k<=rows.length/\(∀ j,j<k->(rows.getD j default).stage<s)/\(∀ j,k<=j->j<rows.length->s<=(rows.getD j default).stage)) ?_ ?_
  · refine M.o_iter (fun m (x:Int × Int)=>∃ i j:Nat,x=((i:Int),(j:Int))/\i<=j/\j<=rows.length/\m=j-i/\(∀ q,q<i->(rows.getD q default).stage<s)/\(∀ q,j<=q->q<rows.length->s<=(rows.getD q default).stage)) ?_ _ (0,(rows.length:Int)) ⟨0,rows.length,rfl,Nat.zero_le _,Nat.le_refl _,rfl,fun q hq=>by omega,fun q h1 h2=>by omega⟩;rintro m _ ⟨i,j,rfl,hij,hj,rfl,lo,hi⟩;simp only [zcE];refine M.o_if (fun hb=>?_) (fun hb=>?_)
    · have hb:=of_decide_eq_true hb;have e:((i:Int)+(j:Int)) / 2=(((i+j) / 2:Nat):Int):=by omega
      have k1:i<=(i+j) / 2:=by omega
      have k2:(i+j) / 2<j:=by omega
      rw [e];generalize (i+j) / 2=k at k1 k2 ⊢;refine M.o_grd (gA2 (by omega) (by omega)) (M.o_grd (gA2 (by omega) (by omega)) (M.o_grd (gA2 (by omega) (by omega)) (M.o_grd (gA2 (by omega) (by omega)) (M.o_bindE (cmp1_ends _ s) ?_))));rw [Int.toNat_natCast];by_cases hs:(rows.getD k default).stage<s
      · rw [if_pos hs];refine M.o_t rfl (M.o_pure ⟨j-(k+1),by omega,k+1,j,rfl,by omega,hj,rfl,fun q hq=>?_,hi⟩);rcases Nat.lt_or_eq_of_le (Nat.le_of_lt_succ hq) with e | rfl
        · have:=hr.lt e (by omega);omega
        · exact hs
      · rw [if_neg hs];refine M.o_f (by split <;> decide) (M.o_pure ⟨k-i,by omega,i,k,rfl,k1,by omega,rfl,lo,fun q h1 h2=>?_⟩);rcases Nat.lt_or_eq_of_le h1 with e | rfl
        · have:=hr.lt e h2;omega
        · omega
    · have hb:=of_decide_eq_false hb;exact M.o_pure ⟨i,rfl,by omega,lo,fun q h1 h2=>hi q (by omega) h2⟩
  · rintro _ ⟨k,rfl,hk,lo,hi⟩;by_cases hl':k<rows.length
    · have hd:decide ((k:Int)<(rows.length:Int))=true:=decide_eq_true (by omega);refine M.o_grd (gOr2 (by omega) (by omega)) (M.o_bindE (M.i_opt (fun _=>cmp1_ends _ s) (fun h=>by rw [hd] at h; cases h)) (M.o_pure ⟨k,rfl,hk,lo,hi,fun h=>?_,fun h _=>?_⟩))
      · dsimp only at h;rw [hd,Bool.true_and,Int.toNat_natCast,beq_iff_eq] at h;have:=hi k (Nat.le_refl _) hl';refine ⟨hl',?_⟩;split at h
        · cases h
        · split at h
          · cases h
          · omega
      · dsimp only at h;rw [hd,Bool.true_and,Int.toNat_natCast,beq_eq_false_iff_ne] at h;have:=hi k (Nat.le_refl _) hl';split at h
        · omega
        · split at h
          · assumption
          · exact absurd rfl h
    · have hd:decide ((k:Int)<(rows.length:Int))=false:=decide_eq_false (by omega);refine M.o_grd (by rw [hd]; rfl) (M.o_bindE (M.i_opt (fun h=>by rw [hd] at h; cases h) (fun _=>rfl)) (M.o_pure ⟨k,rfl,hk,lo,hi,fun h=>?_,fun _ h=>absurd h hl'⟩));dsimp only at h;rw [hd] at h;cases h
theorem carry_ends {S:List Sect} {M':List Mrk} {R':List Rch} {i s:Int} (h0:0<=i) (h1:i<S.length) (hr:Fl.Rows (S.getD (Int.toNat i) default).rows) (hn:(S.getD (Int.toNat i) default).rows ≠ []) (hl:(S.getD (Int.toNat i) default).rows.length<=1000) (hs:-2000000<=s/\s<=2000000) :
    (zaa S M' R' ⟨i,s⟩).Ends (Fl.car (S.getD (Int.toNat i) default).rows s):=by
  refine M.Out.ends ?_;unfold zaa;dsimp only;generalize hrr:(S.getD (Int.toNat i) default).rows=rows at hr hn hl ⊢;refine M.o_grd (gA2 h0 h1) (M.o_bind (bs_out hr hl s) ?_);rintro ⟨_,met⟩ ⟨k,rfl,hk,lo,hi,m1,m2⟩;dsimp only at m1 m2 ⊢;have hpos:0<rows.length:=List.length_pos_iff.2 hn;refine M.o_if (fun hm=>?_) (fun hm=>?_)
  · obtain ⟨k1,k2⟩:=m1 hm;refine M.o_grd (gA2 (by omega) (by omega)) (M.o_pure ?_);rw [Int.toNat_natCast,Fl.car_met hr k1 k2]
  refine M.o_if (fun he=>?_) (fun he=>?_)
  · rw [beq_iff_eq] at he;have hk':k=rows.length:=by omega
    have e:Int.toNat ((k:Int)-1)=k-1:=by omega
    refine M.o_grd (gA2 (by omega) (by omega)) (M.o_grd (gA2 (by omega) (by omega)) (M.o_pure ?_));rw [e];exact (Fl.car_last hr (k:=k-1) (by omega) (by have:=lo (k-1) (by omega); omega)).symm
  · rw [beq_eq_false_iff_ne] at he;have hk':k<rows.length:=by omega
    have hgt:=m2 hm hk';refine M.o_if (fun hp=>?_) (fun hp=>?_)
    · have hp:=of_decide_eq_true hp;obtain ⟨q,rfl⟩:∃ q,k=q+1:=⟨k-1,by omega⟩
      have e:Int.toNat (((q+1:Nat):Int)-1)=q:=by omega
      have hlo:=lo q (by omega);rw [e,Int.toNat_natCast,Fl.car_btw hr hk' (by omega) hgt];have ea:=hr.el q (by omega);have eb:=hr.el (q+1) hk';have ec:=hr.cm q hk';have es:=hr.lt (i:=q) (j:=q+1) (by omega) hk';generalize rows.getD q default=a at ea ec es hlo ⊢;generalize rows.getD (q+1) default=b at eb ec es hgt ⊢;have n1:0<=(b.carry-a.carry)*(s-a.stage):=Int.mul_nonneg (by omega) (by omega);have n2:(b.carry-a.carry)*(s-a.stage)<=100000*2000:=Int.mul_le_mul (by omega) (by omega) (by omega) (by omega);have k1:=Fl.ip_mono (a:=a) (b:=b) (s:=s) (t:=s) (by omega) (Int.le_refl _) (by omega) es ec;unfold Fl.ip at k1 ⊢;exact M.o_grd (gA2 (by omega) (by omega)) (M.o_grd (gA2 (by omega) (by omega)) (M.o_grd (gA2 (by omega) (by omega)) (M.o_grd (gA2 (by omega) (by omega)) (M.o_grd (gA2 (by omega) (by omega)) (M.o_grd (gA2 (by omega) (by omega)) (M.o_grd (gA2 (by omega) (by omega)) (M.o_grd (gA3 (by omega) (by omega) (by omega)) (M.o_grd (gA2 (by omega) (by omega)) (M.o_pure rfl)))))))))
    · have hp:=of_decide_eq_false hp;obtain rfl:k=0:=by omega
      exact M.o_pure (Fl.car_zero hn hgt).symm
end Go.Proofs.YtbldmjejckjflaaGreat
namespace Go.Nm
namespace Fl
/-- Sections that are right. -/
structure Secs (S:List Sect):Prop where
  n:2<=S.length/\S.length<=6
  rows:∀ i,i<S.length->Rows (S.getD i default).rows/\2<=(S.getD i default).rows.length/\(S.getD i default).rows.length<=8
  place:∀ i,i<S.length->0<=(S.getD i default).place/\(S.getD i default).place<=10000
  up:∀ i j,i<j->j<S.length->(S.getD i default).place<(S.getD j default).place
structure Rok (S:List Sect) (r:Rch):Prop where
  u0:0<=r.up
  ud:r.up<r.down
  d1:r.down<S.length
  l1:1<=r.lo
  lh:r.lo<=r.hi
  h4:r.hi<=400
structure Mok (m:Mrk):Prop where
  p0:0<=m.place
  p1:m.place<=10000
  l0:0<=m.lo
  lh:m.lo<=m.hi
  h2:m.hi<=2000
structure Site (S:List Sect) (M:List Mrk) (R:List Rch):Prop where
  s:Secs S
  m:1<=M.length/\M.length<=16
  r:1<=R.length/\R.length<=6
  mks:∀ x∈M,Mok x
  rks:∀ x∈R,Rok S x
/-- The flow of a case. -/
def fl (S:List Sect) (r:Rch) (c:Cas):Int :=
  let a:=car (S.getD (Int.toNat r.up) default).rows c.up
  let b:=car (S.getD (Int.toNat r.down) default).rows c.down
  rt (10000*(bif r.narrow then b else a)*b*(c.up-c.down) / ((bif r.narrow then c.roughdown else c.roughup)*c.roughdown*((S.getD (Int.toNat r.down) default).place-(S.getD (Int.toNat r.up) default).place)))
/-- A case that lies in bounds. -/
structure Cok (c:Cas):Prop where
  d0:0<=c.down
  du:c.down<=c.up
  u2:c.up<=2000
  r1:1<=c.roughup
  r2:1<=c.roughdown
  r3:c.roughup<=400
  r4:c.roughdown<=400
theorem num_bd {a b d:Int} (ha:0<=a/\a<=100000) (hb:0<=b/\b<=100000) (hd:0<=d/\d<=2000) :
    0<=10000*a*b/\10000*a*b<=100000000000000/\0<=10000*a*b*d/\10000*a*b*d<=200000000000000000:=by
  have h1:0<=10000*a*b:=Int.mul_nonneg (by omega) hb.1;have h2:10000*a*b<=1000000000*100000:=Int.mul_le_mul (by omega) hb.2 hb.1 (by omega);have h3:0<=10000*a*b*d:=Int.mul_nonneg h1 hd.1;have h4:10000*a*b*d<=100000000000000*2000:=Int.mul_le_mul (by omega) hd.2 hd.1 (by omega);omega
theorem den_bd {a b d:Int} (ha:1<=a/\a<=400) (hb:1<=b/\b<=400) (hd:1<=d/\d<=10000):1<=a*b/\a*b<=160000/\1<=a*b*d/\a*b*d<=1600000000:=by
  have h1:1*1<=a*b:=Int.mul_le_mul ha.1 hb.1 (by omega) (by omega);have h2:a*b<=400*400:=Int.mul_le_mul ha.2 hb.2 (by omega) (by omega);have h3:1*1<=a*b*d:=Int.mul_le_mul (by omega) hd.1 (by omega) (by omega);have h4:a*b*d<=160000*10000:=Int.mul_le_mul (by omega) hd.2 (by omega) (by omega);omega
section
variable {S:List Sect} {r:Rch}
theorem Rok.iu (h:Rok S r):Int.toNat r.up<S.length:=by have:=h.u0; have:=h.ud; have:=h.d1; omega
theorem Rok.id (h:Rok S r):Int.toNat r.down<S.length:=by have:=h.u0; have:=h.ud; have:=h.d1; omega
theorem far (hS:Secs S) (h:Rok S r):1<=(S.getD (Int.toNat r.down) default).place-(S.getD (Int.toNat r.up) default).place/\(S.getD (Int.toNat r.down) default).place-(S.getD (Int.toNat r.up) default).place<=10000:=by
  have h1:=hS.up (Int.toNat r.up) (Int.toNat r.down) (by have:=h.u0; have:=h.ud; omega) h.id;have h2:=hS.place _ h.id;have h3:=hS.place _ h.iu;omega
theorem carU (hS:Secs S) (h:Rok S r) (s:Int):0<=car (S.getD (Int.toNat r.up) default).rows s/\car (S.getD (Int.toNat r.up) default).rows s<=100000:=by
  have:=car_mono (hS.rows _ h.iu).1 (Int.le_refl s);omega
theorem carD (hS:Secs S) (h:Rok S r) (s:Int):0<=car (S.getD (Int.toNat r.down) default).rows s/\car (S.getD (Int.toNat r.down) default).rows s<=100000:=by
  have:=car_mono (hS.rows _ h.id).1 (Int.le_refl s);omega
theorem fl_nn (c:Cas):0<=fl S r c:=rt_nn _
/-- A flow rises with the upper stage, and falls with both roughnesses. -/
theorem fl_mono (hS:Secs S) (h:Rok S r) {c e:Cas} (hc:Cok c) (he:Cok e) (hd:c.down=e.down) (hu:c.up<=e.up) (h1:e.roughup<=c.roughup) (h2:e.roughdown<=c.roughdown):fl S r c<=fl S r e:=by
  have k1:=car_mono (hS.rows _ h.iu).1 hu;have k2:=carD hS h c.down;have k3:=far hS h;have q1:=hc.du;have q2:=he.u2;have q3:=hc.d0;have q4:=he.r1;have q5:=he.r2;have q6:=hc.r3;have q7:=hc.r4;unfold fl;dsimp only;rw [← hd];generalize car (S.getD (Int.toNat r.up) default).rows c.up=a at k1 ⊢;generalize car (S.getD (Int.toNat r.up) default).rows e.up=a' at k1 ⊢;generalize car (S.getD (Int.toNat r.down) default).rows c.down=b at k2 ⊢;generalize (S.getD (Int.toNat r.down) default).place-(S.getD (Int.toNat r.up) default).place=f at k3 ⊢;cases r.narrow with
  | true =>
    dsimp only [cond];have n:=num_bd k2 k2 (d:=c.up-c.down) (by omega);have n':=num_bd k2 k2 (d:=e.up-c.down) (by omega);have le:10000*b*b*(c.up-c.down)<=10000*b*b*(e.up-c.down):=Int.mul_le_mul_of_nonneg_left (by omega) n.1;have d:=den_bd (a:=e.roughdown) (b:=e.roughdown) (d:=f) (by omega) (by omega) k3;have dl:e.roughdown*e.roughdown*f<=c.roughdown*c.roughdown*f:=Int.mul_le_mul_of_nonneg_right (sq_mono (by omega) h2) (by omega);exact rt_mono (Int.ediv_nonneg n.2.2.1 (by omega)) (div_mono n.2.2.1 le (by omega) dl)
  | false =>
    dsimp only [cond];have n:=num_bd (a:=a) (b:=b) (by omega) k2 (d:=c.up-c.down) (by omega);have n':=num_bd (a:=a') (b:=b) (by omega) k2 (d:=e.up-c.down) (by omega);have l1:10000*a*b<=10000*a'*b:=Int.mul_le_mul_of_nonneg_right (by omega) k2.1;have le:10000*a*b*(c.up-c.down)<=10000*a'*b*(e.up-c.down):=Int.mul_le_mul l1 (by omega) (by omega) n'.1;have d:=den_bd (a:=e.roughup) (b:=e.roughdown) (d:=f) (by omega) (by omega) k3;have l2:e.roughup*e.roughdown<=c.roughup*c.roughdown:=Int.mul_le_mul h1 h2 (by omega) (by omega);have dl:e.roughup*e.roughdown*f<=c.roughup*c.roughdown*f:=Int.mul_le_mul_of_nonneg_right l2 (by omega);exact rt_mono (Int.ediv_nonneg n.2.2.1 (by omega)) (div_mono n.2.2.1 le (by omega) dl)
end
def stLo (M:List Mrk) (ms:List Int) (p:Int):Int:=ms.foldl (fun a k=>if p<=(M.getD (Int.toNat k) default).place then max a (M.getD (Int.toNat k) default).lo else a) 0
def stHi (M:List Mrk) (ms:List Int) (p:Int):Int:=ms.foldl (fun a k=>if (M.getD (Int.toNat k) default).place<=p then min a (M.getD (Int.toNat k) default).hi else a) 2000
end Fl
end Go.Nm
namespace Go.Proofs.YtbldmjejckjflaaGreat
open Go Go.Nm
theorem flow_ends {S:List Sect} {M':List Mrk} {R':List Rch} {r:Rch} {c:Cas} (hS:Fl.Secs S) (h:Fl.Rok S r) (hc:Fl.Cok c):(zbo S M' R' r c).Ends (Fl.fl S r c):=by
  have hu:=hS.rows _ h.iu;have hd:=hS.rows _ h.id;have k1:=Fl.carU hS h c.up;have k2:=Fl.carD hS h c.down;have k3:=Fl.far hS h;have h0:=h.u0;have h1:=h.ud;have h2:=h.d1;obtain ⟨c1,c2,c3,c4,c5,c6,c7⟩:=hc;unfold zbo;refine M.i_bind (carry_ends (by omega) (by omega) hu.1 (by intro e; rw [e] at hu; simp at hu) (by omega) (by omega)) (M.i_bind (carry_ends (by omega) (by omega) hd.1 (by intro e; rw [e] at hd; simp at hd) (by omega) (by omega)) ?_);unfold Fl.fl;dsimp only;generalize Fl.car (S.getD (Int.toNat r.up) default).rows c.up=a at k1 ⊢;generalize Fl.car (S.getD (Int.toNat r.down) default).rows c.down=b at k2 ⊢;have key:∀ s a:Int,(0<=a/\a<=100000)->(1<=s/\s<=400)->(zbl S M' R' r c b s a).Ends (Fl.rt (10000*a*b*(c.up-c.down) / (s*c.roughdown*((S.getD (Int.toNat r.down) default).place-(S.getD (Int.toNat r.up) default).place)))):=fun s a ha hs=>by
    unfold zbl;have n:=Fl.num_bd ha k2 (d:=c.up-c.down) (by omega);have d:=Fl.den_bd hs (b:=c.roughdown) (by omega) k3;refine M.i_grd (gA2 (by omega) (by omega)) (M.i_grd (gA2 (by omega) (by omega)) (M.i_grd (gA2 (by omega) (by omega)) ?_));generalize (S.getD (Int.toNat r.down) default).place-(S.getD (Int.toNat r.up) default).place=f at d k3 ⊢;refine M.i_grd (gA2 (by omega) (by omega)) (M.i_grd (gA2 (by omega) (by omega)) (M.i_grd (gA2 (by omega) (by omega)) (M.i_grd (gA2 (by omega) (by omega)) (M.i_grd (gA2 (by omega) (by omega)) (M.i_grd (gA2 (by omega) (by omega)) (M.i_grd (gA3 (by omega) (by omega) (by omega)) (M.i_bind (root_ends (Int.ediv_nonneg n.2.2.1 (by omega)) ?_) M.i_pure)))))));have:=Fl.div_mono n.2.2.1 (Int.le_refl _) (by decide:(0:Int)<1) (by omega:(1:Int)<=s*c.roughdown*f);rw [Int.ediv_one] at this;omega
  cases hn:r.narrow with
  | true=>exact key _ _ k2 ⟨c5,c7⟩
  | false=>exact key _ _ k1 ⟨c4,c6⟩
theorem least_ends (a b:Int):(zaS a [b]).Ends (min a b):=by
  unfold zaS;refine M.i_bind (M.i_next (s':=(min a b,1)) ?_ (M.i_stop ?_)) M.i_pure
  · simp only [zcg];exact M.i_t (by simp) (M.i_grd (by simp) M.i_pure)
  · simp only [zcg];exact M.i_f (by simp) M.i_pure
theorem stages_ends {S:List Sect} {M':List Mrk} {R':List Rch} {ms:List Int} {i:Int} (hm:∀ k∈ms,0<=k/\k<M'.length) (h0:0<=i) (h1:i<S.length) :
    (zaD S M' R' ms i).Ends (Fl.stLo M' ms (S.getD (Int.toNat i) default).place,Fl.stHi M' ms (S.getD (Int.toNat i) default).place):=by
  unfold zaD;refine M.i_bind (a:=(Fl.stLo M' ms (S.getD (Int.toNat i) default).place,Fl.stHi M' ms (S.getD (Int.toNat i) default).place)) ?_ M.i_pure;refine M.i_for (fun j=>(Fl.stLo M' (ms.take j) (S.getD (Int.toNat i) default).place,Fl.stHi M' (ms.take j) (S.getD (Int.toNat i) default).place,j)) ms.length (fun j hj=>?_) ?_
  · have hk:=hm (ms.getD j 0) (by rw [getD_el ms hj]; exact List.getElem_mem hj);simp only [zck];refine M.i_t (decide_eq_true (by omega)) (M.i_grd (decide_eq_true (by omega)) (M.i_grd (gA2 hk.1 hk.2) (M.i_grd (gA2 h0 h1) ?_)));have el:Fl.stLo M' (ms.take (j+1)) (S.getD (Int.toNat i) default).place=if (S.getD (Int.toNat i) default).place<=(M'.getD (Int.toNat (ms.getD j 0)) default).place then max (Fl.stLo M' (ms.take j) (S.getD (Int.toNat i) default).place) (M'.getD (Int.toNat (ms.getD j 0)) default).lo else Fl.stLo M' (ms.take j) (S.getD (Int.toNat i) default).place:=by
      rw [← take_succ_D ms j hj 0];unfold Fl.stLo;rw [List.foldl_append];rfl
    have eh:Fl.stHi M' (ms.take (j+1)) (S.getD (Int.toNat i) default).place=if (M'.getD (Int.toNat (ms.getD j 0)) default).place<=(S.getD (Int.toNat i) default).place then min (Fl.stHi M' (ms.take j) (S.getD (Int.toNat i) default).place) (M'.getD (Int.toNat (ms.getD j 0)) default).hi else Fl.stHi M' (ms.take j) (S.getD (Int.toNat i) default).place:=by
      rw [← take_succ_D ms j hj 0];unfold Fl.stHi;rw [List.foldl_append];rfl
    rw [el,eh];refine M.i_if (fun hc=>?_) (fun hc=>?_)
    · have hc:=of_decide_eq_true hc;rw [if_pos hc];refine M.i_bind (least_ends _ _) (M.i_if (fun hd=>?_) (fun hd=>?_))
      · rw [if_pos (of_decide_eq_true hd)]; exact M.i_pure
      · rw [if_neg (of_decide_eq_false hd)]; exact M.i_pure
    · have hc:=of_decide_eq_false hc;rw [if_neg hc];refine M.i_if (fun hd=>?_) (fun hd=>?_)
      · rw [if_pos (of_decide_eq_true hd)]; exact M.i_pure
      · rw [if_neg (of_decide_eq_false hd)]; exact M.i_pure
  · simp only [zck];rw [List.take_length];exact M.i_f (decide_eq_false (by omega)) M.i_pure
theorem nums_out {T X:Type} {bd:T->Int->M (T ⊕ X)} {lo hi:Int} (J:Int->T->Prop) (hl:lo<=hi+1) (h1:hi<=1000000) (h2:-1000000<=lo) {s0:T} (h0:J lo s0)
    (step:∀ x s,lo<=x->x<=hi->J x s->(bd s x).Out (fun r=>match r with | .inl s'=>J (x+1) s' | .inr _=>False)) :
    (za6 (M.yl bd) (.inl s0) lo hi).Out (fun r=>match r with | .inl s=>J (hi+1) s | .inr _=>False):=by
  unfold za6;refine M.o_bind (P:=fun (x:(T ⊕ X) ⊕ (T ⊕ X))=>∃ s,x = .inr (.inl s)/\J (hi+1) s) ?_ ?_
  · refine M.o_iter (fun m (x:Int × (T ⊕ X))=>∃ s,x.2 = .inl s/\lo<=x.1/\x.1<=hi+1/\m=(hi+1-x.1).toNat/\J x.1 s) ?_ _ (lo,.inl s0) ⟨s0,rfl,Int.le_refl _,hl,rfl,h0⟩;rintro m ⟨n,t⟩ ⟨s,rfl,a,b,rfl,hj⟩;dsimp only at a b hj ⊢;simp only [zcz];refine M.o_if (fun hb=>?_) (fun hb=>?_)
    · have hb:=of_decide_eq_true hb;refine M.o_bind (P:=fun (y:Bool × (T ⊕ X))=>y.1=true/\∃ s',y.2 = .inl s'/\J (n+1) s') ?_ ?_
      · unfold M.yl;refine M.o_bind (step n s a hb hj) ?_;intro r hr;cases r with
        | inl s'=>exact M.o_pure ⟨rfl,s',rfl,hr⟩
        | inr x=>exact hr.elim
      · rintro ⟨g,t⟩ ⟨h1',s',h2',hj'⟩;dsimp only at h1' h2' ⊢;subst h1' h2';refine M.o_f rfl (M.o_grd (gA2 (by omega) (by omega)) (M.o_pure ⟨(hi+1-(n+1)).toNat,by omega,s',rfl,by dsimp only; omega,by dsimp only; omega,rfl,hj'⟩))
    · have hb:=of_decide_eq_false hb;obtain rfl:n=hi+1:=by omega
      exact M.o_pure ⟨s,rfl,hj⟩
  · rintro _ ⟨s,rfl,hj⟩;exact M.o_pure hj
end Go.Proofs.YtbldmjejckjflaaGreat
namespace Go.Nm
namespace Fl
section
variable {M:List Mrk} {p:Int}
theorem lo_fold:∀ (ms:List Int) (a:Int),a<=ms.foldl (fun a k=>if p<=(M.getD (Int.toNat k) default).place then max a (M.getD (Int.toNat k) default).lo else a) a ∧
    (∀ k∈ms,p<=(M.getD (Int.toNat k) default).place->(M.getD (Int.toNat k) default).lo<=ms.foldl (fun a k=>if p<=(M.getD (Int.toNat k) default).place then max a (M.getD (Int.toNat k) default).lo else a) a) ∧
    (ms.foldl (fun a k=>if p<=(M.getD (Int.toNat k) default).place then max a (M.getD (Int.toNat k) default).lo else a) a=a∨∃ k∈ms,p<=(M.getD (Int.toNat k) default).place/\ms.foldl (fun a k=>if p<=(M.getD (Int.toNat k) default).place then max a (M.getD (Int.toNat k) default).lo else a) a=(M.getD (Int.toNat k) default).lo)
  | [],a=>⟨Int.le_refl _,fun k hk=>(List.not_mem_nil hk).elim,.inl rfl⟩
  | k :: ms,a=>by
    rw [List.foldl_cons];obtain ⟨h1,h2,h3⟩:=lo_fold ms (if p<=(M.getD (Int.toNat k) default).place then max a (M.getD (Int.toNat k) default).lo else a);by_cases hp:p<=(M.getD (Int.toNat k) default).place
    · rw [if_pos hp] at h1 h2 h3 ⊢;refine ⟨by omega,fun j hj hpj=>?_,?_⟩
      · rcases List.mem_cons.1 hj with rfl | hj
        · omega
        · exact h2 j hj hpj
      · rcases h3 with h3 | ⟨j,hj,hpj,e⟩
        · rcases Int.le_total (M.getD (Int.toNat k) default).lo a with e | e
          · left; omega
          · right; exact ⟨k,by simp,hp,by omega⟩
        · right; exact ⟨j,by simp [hj],hpj,e⟩
    · rw [if_neg hp] at h1 h2 h3 ⊢;refine ⟨h1,fun j hj hpj=>?_,?_⟩
      · rcases List.mem_cons.1 hj with rfl | hj
        · exact absurd hpj hp
        · exact h2 j hj hpj
      · rcases h3 with h3 | ⟨j,hj,hpj,e⟩
        · exact .inl h3
        · right; exact ⟨j,by simp [hj],hpj,e⟩
theorem hi_fold:∀ (ms:List Int) (a:Int),ms.foldl (fun a k=>if (M.getD (Int.toNat k) default).place<=p then min a (M.getD (Int.toNat k) default).hi else a) a<=a ∧
    (∀ k∈ms,(M.getD (Int.toNat k) default).place<=p->ms.foldl (fun a k=>if (M.getD (Int.toNat k) default).place<=p then min a (M.getD (Int.toNat k) default).hi else a) a<=(M.getD (Int.toNat k) default).hi) ∧
    (ms.foldl (fun a k=>if (M.getD (Int.toNat k) default).place<=p then min a (M.getD (Int.toNat k) default).hi else a) a=a∨∃ k∈ms,(M.getD (Int.toNat k) default).place<=p/\ms.foldl (fun a k=>if (M.getD (Int.toNat k) default).place<=p then min a (M.getD (Int.toNat k) default).hi else a) a=(M.getD (Int.toNat k) default).hi)
  | [],a=>⟨Int.le_refl _,fun k hk=>(List.not_mem_nil hk).elim,.inl rfl⟩
  | k :: ms,a=>by
    rw [List.foldl_cons];obtain ⟨h1,h2,h3⟩:=hi_fold ms (if (M.getD (Int.toNat k) default).place<=p then min a (M.getD (Int.toNat k) default).hi else a);by_cases hp:(M.getD (Int.toNat k) default).place<=p
    · rw [if_pos hp] at h1 h2 h3 ⊢;refine ⟨by omega,fun j hj hpj=>?_,?_⟩
      · rcases List.mem_cons.1 hj with rfl | hj
        · omega
        · exact h2 j hj hpj
      · rcases h3 with h3 | ⟨j,hj,hpj,e⟩
        · rcases Int.le_total a (M.getD (Int.toNat k) default).hi with e | e
          · left; omega
          · right; exact ⟨k,by simp,hp,by omega⟩
        · right; exact ⟨j,by simp [hj],hpj,e⟩
    · rw [if_neg hp] at h1 h2 h3 ⊢;refine ⟨h1,fun j hj hpj=>?_,?_⟩
      · rcases List.mem_cons.1 hj with rfl | hj
        · exact absurd hpj hp
        · exact h2 j hj hpj
      · rcases h3 with h3 | ⟨j,hj,hpj,e⟩
        · exact .inl h3
        · right; exact ⟨j,by simp [hj],hpj,e⟩
theorem stLo_nn (ms:List Int):0<=stLo M ms p:=(lo_fold ms 0).1
theorem stLo_ge {ms:List Int} {k:Int} (h:k∈ms) (hp:p<=(M.getD (Int.toNat k) default).place):(M.getD (Int.toNat k) default).lo<=stLo M ms p:=(lo_fold ms 0).2.1 k h hp
theorem stLo_ex (ms:List Int):stLo M ms p=0∨∃ k∈ms,p<=(M.getD (Int.toNat k) default).place/\stLo M ms p=(M.getD (Int.toNat k) default).lo:=(lo_fold ms 0).2.2
theorem stHi_le (ms:List Int):stHi M ms p<=2000:=(hi_fold ms 2000).1
theorem stHi_ge {ms:List Int} {k:Int} (h:k∈ms) (hp:(M.getD (Int.toNat k) default).place<=p):stHi M ms p<=(M.getD (Int.toNat k) default).hi:=(hi_fold ms 2000).2.1 k h hp
theorem stHi_ex (ms:List Int):stHi M ms p=2000∨∃ k∈ms,(M.getD (Int.toNat k) default).place<=p/\stHi M ms p=(M.getD (Int.toNat k) default).hi:=(hi_fold ms 2000).2.2
end
/-- Marks that are true together. -/
def Tog (M:List Mrk) (ms:List Int):Prop:=∀ a∈ms,∀ b∈ms,¬((M.getD (Int.toNat a) default).place<=(M.getD (Int.toNat b) default).place/\(M.getD (Int.toNat a) default).hi<(M.getD (Int.toNat b) default).lo)
def Ixs (M:List Mrk) (ms:List Int):Prop:=∀ k∈ms,0<=k/\k<M.length
theorem Ixs.mok {M:List Mrk} {ms:List Int} (hk:∀ x∈M,Mok x) (h:Ixs M ms) {k:Int} (hm:k∈ms):Mok (M.getD (Int.toNat k) default):=by
  have:=h k hm;have hl:Int.toNat k<M.length:=by omega
  rw [getD_el M hl];exact hk _ (List.getElem_mem hl)
/-- What lies further up is bounded by no less from above. -/
theorem st_le {M:List Mrk} {ms:List Int} (hk:∀ x∈M,Mok x) (h:Ixs M ms) (ht:Tog M ms) {p q:Int} (hpq:q<=p):stLo M ms p<=stHi M ms q:=by
  rcases stLo_ex (M:=M) (p:=p) ms with e | ⟨a,ha,hpa,e⟩ <;> rcases stHi_ex (M:=M) (p:=q) ms with e' | ⟨b,hb,hpb,e'⟩
  · omega
  · have k1:=(h.mok hk hb).lh;have k2:=(h.mok hk hb).l0;omega
  · have:=(h.mok hk ha).lh;have:=(h.mok hk ha).h2;omega
  · have:=ht b hb a ha;rw [e,e'];rcases Int.lt_or_le (M.getD (Int.toNat b) default).hi (M.getD (Int.toNat a) default).lo with k | k
    · exact absurd ⟨by omega,k⟩ this
    · exact k
section
variable (S:List Sect) (M:List Mrk) (ms:List Int) (r:Rch)
def pu:Int:=(S.getD (Int.toNat r.up) default).place
def pd:Int:=(S.getD (Int.toNat r.down) default).place
/-- The lower stages that there can be. -/
def Dn (x:Int):Prop:=stLo M ms (pd S r)<=x/\x<=min (stHi M ms (pd S r)) (stHi M ms (pu S r))
def lc (x:Int):Cas:=⟨max (stLo M ms (pu S r)) x,x,r.hi,r.hi⟩
def hc (x:Int):Cas:=⟨stHi M ms (pu S r),x,r.lo,r.lo⟩
def IsLow (c:Cas) (n:Int):Prop:=∃ x,Dn S M ms r x/\c=lc S M ms r x/\n=fl S r c/\∀ y,Dn S M ms r y->n<=fl S r (lc S M ms r y)
def IsHigh (c:Cas) (n:Int):Prop:=∃ x,Dn S M ms r x/\c=hc S M ms r x/\n=fl S r c/\∀ y,Dn S M ms r y->fl S r (hc S M ms r y)<=n
end
section
variable {S:List Sect} {M:List Mrk} {ms:List Int} {r:Rch}
theorem lc_ok (hr:Rok S r) (hk:∀ x∈M,Mok x) (h:Ixs M ms) (ht:Tog M ms) {x:Int} (hx:Dn S M ms r x):Cok (lc S M ms r x):=by
  have h1:=stLo_nn (M:=M) (p:=pu S r) ms;have h2:=stLo_nn (M:=M) (p:=pd S r) ms;have h3:=stHi_le (M:=M) (p:=pu S r) ms;have h4:=st_le hk h ht (Int.le_refl (pu S r));obtain ⟨a,b⟩:=hx;have:=hr.l1;have:=hr.lh;have:=hr.h4;unfold lc;constructor <;> dsimp only <;> omega
theorem hc_ok (hr:Rok S r) {x:Int} (hx:Dn S M ms r x):Cok (hc S M ms r x):=by
  have h2:=stLo_nn (M:=M) (p:=pd S r) ms;have h3:=stHi_le (M:=M) (p:=pu S r) ms;obtain ⟨a,b⟩:=hx;have:=hr.l1;have:=hr.lh;have:=hr.h4;unfold hc;constructor <;> dsimp only <;> omega
theorem pu_pd (hS:Secs S) (hr:Rok S r):pu S r<pd S r:=by
  have:=far hS hr;unfold pu pd;omega
theorem Dn.ne (hS:Secs S) (hr:Rok S r) (hk:∀ x∈M,Mok x) (h:Ixs M ms) (ht:Tog M ms):Dn S M ms r (stLo M ms (pd S r)):=by
  have h1:=st_le hk h ht (Int.le_refl (pd S r));have h2:=st_le hk h ht (Int.le_of_lt (pu_pd hS hr));exact ⟨Int.le_refl _,by omega⟩
end
end Fl
end Go.Nm
namespace Go.Proofs.YtbldmjejckjflaaGreat
open Go Go.Nm
section
variable {S:List Sect} {M':List Mrk} {R':List Rch} {ms:List Int} {r:Rch}
theorem bestL_out (hS:Fl.Secs S) (hr:Fl.Rok S r) (hk:∀ x∈M',Fl.Mok x) (h:Fl.Ixs M' ms) (ht:Fl.Tog M' ms) :
    (zbf S M' R' ms r).Out (fun x=>Fl.IsLow S M' ms r ⟨x.1,x.2.1,x.2.2.1,x.2.2.2.1⟩ x.2.2.2.2):=by
  have hne:=Fl.Dn.ne hS hr hk h ht;have b1:=Fl.stLo_nn (M:=M') (p:=Fl.pd S r) ms;have b2:=Fl.stHi_le (M:=M') (p:=Fl.pu S r) ms;have hlo:=hr.l1;have hlh:=hr.lh;unfold zbf;have h0:=hr.u0;have h1:=hr.ud;have h2:=hr.d1;refine M.o_bindE (stages_ends h (by omega) (by omega)) (M.o_bindE (stages_ends h (by omega) (by omega)) (M.o_bindE (a:=false) (by unfold zb8; exact M.i_pure) (M.o_t rfl (M.o_bindE (least_ends _ _) (M.o_bindE (by unfold zaV; exact M.i_pure) ?_)))));dsimp only;refine M.o_bind (nums_out (lo:=Fl.stLo M' ms (Fl.pd S r)) (hi:=min (Fl.stHi M' ms (Fl.pd S r)) (Fl.stHi M' ms (Fl.pu S r))) (fun x (s:Int × Int × Int × Int × Int)=>(x=Fl.stLo M' ms (Fl.pd S r)/\s=(0,0,0,0,0))∨∃ y,Fl.Dn S M' ms r y/\y<x/\s=(Fl.fl S r (Fl.lc S M' ms r y),(Fl.lc S M' ms r y).up,(Fl.lc S M' ms r y).down,(Fl.lc S M' ms r y).roughup,(Fl.lc S M' ms r y).roughdown)/\∀ z,Fl.stLo M' ms (Fl.pd S r)<=z->z<x->Fl.fl S r (Fl.lc S M' ms r y)<=Fl.fl S r (Fl.lc S M' ms r z)) (by have:=hne.2; omega) (by omega) (by have:=hne.1; omega) (.inl ⟨rfl,rfl⟩) ?_) ?_
  · rintro x ⟨n,a,b,c,d⟩ hx1 hx2 hj;have hx:Fl.Dn S M' ms r x:=⟨hx1,hx2⟩
    simp only [zaM];refine M.o_f rfl (M.o_bindE (flow_ends hS hr (Fl.lc_ok hr hk h ht hx)) ?_);rcases hj with ⟨rfl,e⟩ | ⟨y,hy,hyx,e,hz⟩
    · obtain ⟨rfl,rfl,rfl,rfl,rfl⟩:n=0/\a=0/\b=0/\c=0/\d=0:=by simpa using e
      refine M.o_bindE (M.i_opt (r:=false) (fun hc=>by simp at hc) (fun _=>rfl)) (M.o_t (by simp) (M.o_pure (.inr ⟨_,hx,by omega,rfl,fun z h1 h2=>?_⟩)));rw [show z=Fl.stLo M' ms (Fl.pd S r) by omega];exact Int.le_refl _
    · obtain ⟨e1,e2,e3,e4,e5⟩:n=Fl.fl S r (Fl.lc S M' ms r y)/\a=(Fl.lc S M' ms r y).up/\b=(Fl.lc S M' ms r y).down/\c=(Fl.lc S M' ms r y).roughup/\d=(Fl.lc S M' ms r y).roughdown:=by simpa only [Prod.mk.injEq] using e
      rw [e1,e2,e3,e4,e5];have hd:decide ((⟨(Fl.lc S M' ms r y).up,(Fl.lc S M' ms r y).down,(Fl.lc S M' ms r y).roughup,(Fl.lc S M' ms r y).roughdown⟩:Cas)=⟨0,0,0,0⟩)=false:=decide_eq_false (fun e=>by
        have:(Fl.lc S M' ms r y).roughup=0:=congrArg Cas.roughup e;have e2:(Fl.lc S M' ms r y).roughup=r.hi:=rfl;omega)
      refine M.o_bindE (M.i_opt (r:=decide (Fl.fl S r (Fl.lc S M' ms r x)<Fl.fl S r (Fl.lc S M' ms r y))) (fun _=>by unfold zb8; exact M.i_pure) (fun hc=>by rw [hd] at hc; cases hc)) ?_;refine M.o_if (fun hc=>?_) (fun hc=>?_)
      · rw [hd,Bool.false_or] at hc;have hc:=of_decide_eq_true hc;refine M.o_pure (.inr ⟨x,hx,by omega,rfl,fun z h1 h2=>?_⟩);by_cases e:z<x
        · have:=hz z h1 e;omega
        · rw [show z=x by omega];exact Int.le_refl _
      · rw [hd,Bool.false_or] at hc;have hc:=of_decide_eq_false hc;refine M.o_pure (.inr ⟨y,hy,by omega,rfl,fun z h1 h2=>?_⟩);by_cases e:z<x
        · exact hz z h1 e
        · rw [show z=x by omega];omega
  · intro s hs;cases s with
    | inr _=>exact hs.elim
    | inl s =>
      rcases hs with ⟨e,_⟩ | ⟨y,hy,_,rfl,hz⟩
      · have:=hne.2;omega
      · exact M.o_pure ⟨y,hy,rfl,rfl,fun z hz'=>hz z hz'.1 (by have:=hz'.2; omega)⟩
theorem bestH_out (hS:Fl.Secs S) (hr:Fl.Rok S r) (hk:∀ x∈M',Fl.Mok x) (h:Fl.Ixs M' ms) (ht:Fl.Tog M' ms) :
    (zbi S M' R' ms r).Out (fun x=>Fl.IsHigh S M' ms r ⟨x.1,x.2.1,x.2.2.1,x.2.2.2.1⟩ x.2.2.2.2):=by
  have hne:=Fl.Dn.ne hS hr hk h ht;have b1:=Fl.stLo_nn (M:=M') (p:=Fl.pd S r) ms;have b2:=Fl.stHi_le (M:=M') (p:=Fl.pu S r) ms;have hlo:=hr.l1;have hlh:=hr.lh;unfold zbi;have h0:=hr.u0;have h1:=hr.ud;have h2:=hr.d1;refine M.o_bindE (stages_ends h (by omega) (by omega)) (M.o_bindE (stages_ends h (by omega) (by omega)) (M.o_bindE (a:=true) (by unfold zbT; exact M.i_pure) (M.o_f rfl (M.o_bindE (least_ends _ _) (M.o_bindE (by unfold zaV; exact M.i_pure) ?_)))));dsimp only;refine M.o_bind (nums_out (lo:=Fl.stLo M' ms (Fl.pd S r)) (hi:=min (Fl.stHi M' ms (Fl.pd S r)) (Fl.stHi M' ms (Fl.pu S r))) (fun x (s:Int × Int × Int × Int × Int)=>(x=Fl.stLo M' ms (Fl.pd S r)/\s=(0,0,0,0,0))∨∃ y,Fl.Dn S M' ms r y/\y<x/\s=(Fl.fl S r (Fl.hc S M' ms r y),(Fl.hc S M' ms r y).up,(Fl.hc S M' ms r y).down,(Fl.hc S M' ms r y).roughup,(Fl.hc S M' ms r y).roughdown)/\∀ z,Fl.stLo M' ms (Fl.pd S r)<=z->z<x->Fl.fl S r (Fl.hc S M' ms r z)<=Fl.fl S r (Fl.hc S M' ms r y)) (by have:=hne.2; omega) (by omega) (by have:=hne.1; omega) (.inl ⟨rfl,rfl⟩) ?_) ?_
  · rintro x ⟨n,a,b,c,d⟩ hx1 hx2 hj;have hx:Fl.Dn S M' ms r x:=⟨hx1,hx2⟩
    simp only [zaZ];refine M.o_t rfl (M.o_bindE (flow_ends hS hr (Fl.hc_ok hr hx)) ?_);rcases hj with ⟨rfl,e⟩ | ⟨y,hy,hyx,e,hz⟩
    · obtain ⟨rfl,rfl,rfl,rfl,rfl⟩:n=0/\a=0/\b=0/\c=0/\d=0:=by simpa using e
      refine M.o_bindE (M.i_opt (r:=false) (fun hc=>by simp at hc) (fun _=>rfl)) (M.o_t (by simp) (M.o_pure (.inr ⟨_,hx,by omega,rfl,fun z h1 h2=>?_⟩)));rw [show z=Fl.stLo M' ms (Fl.pd S r) by omega];exact Int.le_refl _
    · obtain ⟨e1,e2,e3,e4,e5⟩:n=Fl.fl S r (Fl.hc S M' ms r y)/\a=(Fl.hc S M' ms r y).up/\b=(Fl.hc S M' ms r y).down/\c=(Fl.hc S M' ms r y).roughup/\d=(Fl.hc S M' ms r y).roughdown:=by simpa only [Prod.mk.injEq] using e
      rw [e1,e2,e3,e4,e5];have hd:decide ((⟨(Fl.hc S M' ms r y).up,(Fl.hc S M' ms r y).down,(Fl.hc S M' ms r y).roughup,(Fl.hc S M' ms r y).roughdown⟩:Cas)=⟨0,0,0,0⟩)=false:=decide_eq_false (fun e=>by
        have:(Fl.hc S M' ms r y).roughup=0:=congrArg Cas.roughup e;have e2:(Fl.hc S M' ms r y).roughup=r.lo:=rfl;omega)
      refine M.o_bindE (M.i_opt (r:=decide (Fl.fl S r (Fl.hc S M' ms r y)<Fl.fl S r (Fl.hc S M' ms r x))) (fun _=>by unfold zbT; exact M.i_pure) (fun hc=>by rw [hd] at hc; cases hc)) ?_;refine M.o_if (fun hc=>?_) (fun hc=>?_)
      · rw [hd,Bool.false_or] at hc;have hc:=of_decide_eq_true hc;refine M.o_pure (.inr ⟨x,hx,by omega,rfl,fun z h1 h2=>?_⟩);by_cases e:z<x
        · have:=hz z h1 e;omega
        · rw [show z=x by omega];exact Int.le_refl _
      · rw [hd,Bool.false_or] at hc;have hc:=of_decide_eq_false hc;refine M.o_pure (.inr ⟨y,hy,by omega,rfl,fun z h1 h2=>?_⟩);by_cases e:z<x
        · exact hz z h1 e
        · rw [show z=x by omega];omega
  · intro s hs;cases s with
    | inr _=>exact hs.elim
    | inl s =>
      rcases hs with ⟨e,_⟩ | ⟨y,hy,_,rfl,hz⟩
      · have:=hne.2;omega
      · exact M.o_pure ⟨y,hy,rfl,rfl,fun z hz'=>hz z hz'.1 (by have:=hz'.2; omega)⟩
theorem peak_out (hS:Fl.Secs S) (hr:Fl.Rok S r) (hk:∀ x∈M',Fl.Mok x) (h:Fl.Ixs M' ms) (ht:Fl.Tog M' ms) :
    (zaA S M' R' ms r).Out (fun x=>(∃ c,Fl.IsLow S M' ms r c x.1)/\∃ c,Fl.IsHigh S M' ms r c x.2):=by
  unfold zaA;refine M.o_bindE (by unfold zco; exact M.i_pure) (M.o_bind (bestL_out hS hr hk h ht) ?_);rintro ⟨a,b,c,d,n⟩ h1;refine M.o_bindE (by unfold zbH; exact M.i_pure) (M.o_bind (bestH_out hS hr hk h ht) ?_);rintro ⟨a',b',c',d',n'⟩ h2;exact M.o_pure ⟨⟨_,h1⟩,⟨_,h2⟩⟩
end
end Go.Proofs.YtbldmjejckjflaaGreat
namespace Go.Nm
namespace Fl
theorem Rows.cle {l:List FRow} (h:Rows l) {i j:Nat} (hij:i<=j) (hj:j<l.length):(l.getD i default).carry<=(l.getD j default).carry:=by
  induction j with
  | zero=>rw [show i=0 by omega]; exact Int.le_refl _
  | succ j ih =>
    rcases Nat.lt_or_eq_of_le hij with e | rfl
    · have:=ih (by omega) (by omega);have:=h.cm j hj;omega
    · exact Int.le_refl _
/-- Marks, one behind the other. -/
def Inc (M:List Mrk) (ms:List Int):Prop:=ms.Pairwise (· < ·)/\Ixs M ms
end Fl
end Go.Nm
namespace Go.Proofs.YtbldmjejckjflaaGreat
open Go Go.Nm
theorem in_true {n a b:Int} (h1:a<=n) (h2:n<=b):(zab n a b).Ends true:=by
  have:(zab n a b).Ends (decide (a<=n)&&decide (n<=b)):=M.i_pure
  rwa [gA2 h1 h2] at this
theorem every_sect (l:List Sect) (so:Sect->M Bool) (h:∀ t∈l,(so t).Ends true):(zbd l so).Ends true:=by
  unfold zbd zcA zcT;refine M.i_bind (a:=false) (M.i_bind (a:=-1) (M.i_bind (a:=(.inr ():Int ⊕ Unit)) ?_ M.i_pure) M.i_pure) M.i_pure;refine M.i_for (fun i=>i) l.length (fun i hi=>?_) ?_
  · simp only [zaY];have hm:l.getD i default∈l:=by rw [getD_el l hi]; exact List.getElem_mem hi
    refine M.i_t (decide_eq_true (by omega)) (M.i_grd (decide_eq_true (by omega)) (M.i_bind (a:=false) ?_ (M.i_f rfl M.i_pure)));unfold zbr;exact M.i_bind (h _ hm) M.i_pure
  · simp only [zaY];exact M.i_f (decide_eq_false (by omega)) M.i_pure
theorem every_mark (l:List Mrk) (so:Mrk->M Bool) (h:∀ t∈l,(so t).Ends true):(za4 l so).Ends true:=by
  unfold za4 zcG zcU;refine M.i_bind (a:=false) (M.i_bind (a:=-1) (M.i_bind (a:=(.inr ():Int ⊕ Unit)) ?_ M.i_pure) M.i_pure) M.i_pure;refine M.i_for (fun i=>i) l.length (fun i hi=>?_) ?_
  · simp only [zaT];have hm:l.getD i default∈l:=by rw [getD_el l hi]; exact List.getElem_mem hi
    refine M.i_t (decide_eq_true (by omega)) (M.i_grd (decide_eq_true (by omega)) (M.i_bind (a:=false) ?_ (M.i_f rfl M.i_pure)));unfold zbB;exact M.i_bind (h _ hm) M.i_pure
  · simp only [zaT];exact M.i_f (decide_eq_false (by omega)) M.i_pure
theorem every_reach (l:List Rch) (so:Rch->M Bool) (h:∀ t∈l,(so t).Ends true):(za0 l so).Ends true:=by
  unfold za0 zcF zcS;refine M.i_bind (a:=false) (M.i_bind (a:=-1) (M.i_bind (a:=(.inr ():Int ⊕ Unit)) ?_ M.i_pure) M.i_pure) M.i_pure;refine M.i_for (fun i=>i) l.length (fun i hi=>?_) ?_
  · simp only [zaG];have hm:l.getD i default∈l:=by rw [getD_el l hi]; exact List.getElem_mem hi
    refine M.i_t (decide_eq_true (by omega)) (M.i_grd (decide_eq_true (by omega)) (M.i_bind (a:=false) ?_ (M.i_f rfl M.i_pure)));unfold zcm;exact M.i_bind (h _ hm) M.i_pure
  · simp only [zaG];exact M.i_f (decide_eq_false (by omega)) M.i_pure
theorem every_int (l:List Int) (so:Int->M Bool) (h:∀ t∈l,(so t).Ends true):(zak l so).Ends true:=by
  unfold zak zcr zcD;refine M.i_bind (a:=false) (M.i_bind (a:=-1) (M.i_bind (a:=(.inr ():Int ⊕ Unit)) ?_ M.i_pure) M.i_pure) M.i_pure;refine M.i_for (fun i=>i) l.length (fun i hi=>?_) ?_
  · simp only [zaO];have hm:l.getD i 0∈l:=by rw [getD_el l hi]; exact List.getElem_mem hi
    refine M.i_t (decide_eq_true (by omega)) (M.i_grd (decide_eq_true (by omega)) (M.i_bind (a:=false) ?_ (M.i_f rfl M.i_pure)));unfold zbG;exact M.i_bind (h _ hm) M.i_pure
  · simp only [zaO];exact M.i_f (decide_eq_false (by omega)) M.i_pure
theorem sright_ends {x:Sect} (hr:Fl.Rows x.rows) (h0:0<=x.place) (h1:x.place<=10000):(zbh x).Ends true:=by
  refine M.Out.ends ?_;unfold zbh;refine M.o_bind (P:=fun z=>match z with | .inl _=>False | .inr (_:Int × Int)=>True) ?_ ?_
  · refine M.o_for x.rows.length (fun i (s:Int × Int × Nat)=>s.2.2=i/\-1<=s.1/\s.1<=2000/\(∀ j,i<=j->j<x.rows.length->s.1<(x.rows.getD j default).stage)/\∀ j,i<=j->j<x.rows.length->s.2.1<=(x.rows.getD j default).carry) ?_ ?_ (s:=(-1,0,0)) ⟨rfl,by decide,by decide,fun j _ hj=>by have:=hr.el j hj; dsimp only; omega,fun j _ hj=>by have:=hr.el j hj; dsimp only; omega⟩
    · rintro i ⟨a,b,_⟩ hi ⟨rfl,h2,h3,h4,h5⟩;dsimp only at hi h2 h3 h4 h5 ⊢;have e:=hr.el _ hi;have k1:=h4 _ (Nat.le_refl _) hi;have k2:=h5 _ (Nat.le_refl _) hi;simp only [zaH];refine M.o_t (decide_eq_true (by omega)) (M.o_grd (decide_eq_true (by omega)) (M.o_grd (gA2 (by omega) (by omega)) (M.o_bindE (in_true (by omega) (by omega)) (M.o_bindE (M.i_opt (fun _=>in_true (by omega) (by omega)) (fun h=>by cases h)) (M.o_f rfl (M.o_pure ⟨rfl,by dsimp only; omega,by dsimp only; omega,fun j hj hj'=>hr.lt hj hj',fun j hj hj'=>hr.cle (by omega) hj'⟩))))))
    · rintro ⟨a,b,_⟩ ⟨rfl,_⟩;simp only [zaH];exact M.o_f (decide_eq_false (by omega)) (M.o_pure trivial)
  · intro z hz;cases z with
    | inl _=>exact hz.elim
    | inr _=>exact M.o_bindE (in_true h0 h1) (M.o_pure rfl)
theorem mright_ends {m:Mrk} (h:Fl.Mok m):(zay m).Ends true:=by
  obtain ⟨h1,h2,h3,h4,h5⟩:=h;unfold zay zaU;exact M.i_bind (in_true h1 h2) (M.i_bind (M.i_opt (fun _=>M.i_bind (in_true h3 (by dsimp only; omega)) (M.i_bind (M.i_opt (fun _=>in_true h4 h5) (fun h=>by cases h)) M.i_pure)) (fun h=>by cases h)) M.i_pure)
theorem rright_ends {S:List Sect} {r:Rch} (hn:S.length<=6) (h:Fl.Rok S r):(zbn r (S.length:Int)).Ends true:=by
  obtain ⟨h1,h2,h3,h4,h5,h6⟩:=h;unfold zbn zaU;refine M.i_grd (gA2 (by omega) (by omega)) (M.i_bind (in_true h1 (by omega)) (M.i_grd (gOr2 (by omega) (by omega)) (M.i_bind (M.i_opt (fun _=>in_true (by omega) (by omega)) (fun h=>by cases h)) (M.i_bind (M.i_opt (fun _=>M.i_bind (in_true h4 (by dsimp only; omega)) (M.i_bind (M.i_opt (fun _=>in_true h5 h6) (fun h=>by cases h)) M.i_pure)) (fun h=>by cases h)) M.i_pure))))
section
variable {S:List Sect} {M':List Mrk} {R':List Rch} {ms:List Int} {r:Rch}
theorem check_ends (h:Fl.Site S M' R'):(zag S M' R').Ends 0:=by
  obtain ⟨hS,hm,hr,hmk,hrk⟩:=h;obtain ⟨hn,hrows,hpl,hup⟩:=hS;unfold zag;refine M.i_bind (in_true (by omega) (by omega)) (M.i_bind (M.i_opt (fun _=>in_true (by omega) (by omega)) (fun h=>by cases h)) (M.i_bind (M.i_opt (fun _=>in_true (by omega) (by omega)) (fun h=>by cases h)) (M.i_bind (M.i_opt (fun _=>every_sect _ _ fun x hx=>?_) (fun h=>by cases h)) (M.i_f rfl ?_))))
  · obtain ⟨i,hi,rfl⟩:=mem_getD hx default;unfold za5;have:=hrows i hi;exact M.i_bind (in_true (by omega) (by omega)) M.i_pure
  · refine M.Out.ends (M.o_bind (P:=fun z=>match z with | .inl _=>False | .inr (_:Unit)=>True) ?_ ?_)
    · refine M.o_for S.length (fun i (s:Int × Nat)=>s.2=i/\∀ j,i<=j->j<S.length->s.1<(S.getD j default).place) ?_ ?_ (s:=(-1,0)) ⟨rfl,fun j _ hj=>by have:=hpl j hj; dsimp only; omega⟩
      · rintro i ⟨a,_⟩ hi ⟨rfl,h2⟩;dsimp only at hi h2 ⊢;have e:=hpl _ hi;have k1:=h2 _ (Nat.le_refl _) hi;simp only [zaW];exact M.o_t (decide_eq_true (by omega)) (M.o_grd (decide_eq_true (by omega)) (M.o_bindE (sright_ends (hrows _ hi).1 e.1 e.2) (M.o_f (decide_eq_false (p:=(S.getD _ default).place<=a) (by omega)) (M.o_pure ⟨rfl,fun j hj hj'=>hup _ _ hj hj'⟩))))
      · rintro ⟨a,_⟩ ⟨rfl,_⟩;simp only [zaW];exact M.o_f (decide_eq_false (by omega)) (M.o_pure trivial)
    · intro z hz;cases z with
      | inl _=>exact hz.elim
      | inr _ =>
        refine M.o_bindE (every_mark _ _ fun x hx=>mright_ends (hmk x hx)) (M.o_bindE (M.i_opt (fun _=>every_reach _ _ fun x hx=>?_) (fun h=>by cases h)) (M.o_f rfl (M.o_pure rfl)));unfold zbj;exact M.i_bind (rright_ends hn.2 (hrk x hx)) M.i_pure
theorem opened_ends (h:Fl.Site S M' R'):(zah S M' R').Ends (.inr 0):=by
  unfold zah;exact M.i_bind (check_ends h) (M.i_f rfl M.i_pure)
theorem chosen_ends (h:Fl.Site S M' R') (hc:Fl.Inc M' ms):(zax S M' R' ms).Ends (.inr 0):=by
  unfold zax;refine M.i_bind (opened_ends h) (M.i_bind (a:=0) (M.Out.ends ?_) M.i_pure);have hm:=h.m;refine M.o_for ms.length (fun i (s:Int × Int × Nat)=>s.1=0/\s.2.2=i/\-1<=s.2.1/\s.2.1<=16/\∀ j,i<=j->j<ms.length->s.2.1<ms.getD j 0) ?_ ?_ (s:=(0,-1,0)) ⟨rfl,rfl,by decide,by decide,fun j _ hj=>by have:=hc.2 (ms.getD j 0) (by rw [getD_el ms hj]; exact List.getElem_mem hj); dsimp only; omega⟩
  · rintro i ⟨_,a,_⟩ hi ⟨rfl,rfl,h2,h3,h4⟩;dsimp only at hi h2 h3 h4 ⊢;have e:=hc.2 (ms.getD _ 0) (by rw [getD_el ms hi]; exact List.getElem_mem hi);have k1:=h4 _ (Nat.le_refl _) hi;simp only [zaR];refine M.o_t (decide_eq_true (by omega)) (M.o_grd (decide_eq_true (by omega)) (M.o_grd (gOr2 (by omega) (by omega)) (M.o_bindE (M.i_opt (fun _=>in_true (by omega) (by omega)) (fun h=>by cases h)) (M.o_f rfl (M.o_pure ⟨rfl,rfl,by dsimp only; omega,by dsimp only; omega,fun j hj hj'=>?_⟩)))));rw [getD_el ms hi,getD_el ms hj'];exact List.pairwise_iff_getElem.1 hc.1 _ _ hi hj' hj
  · rintro ⟨_,a,_⟩ ⟨rfl,rfl,_⟩;simp only [zaR];exact M.o_f (decide_eq_false (by omega)) (M.o_pure rfl)
theorem asked_ends (h:Fl.Site S M' R') (hc:Fl.Inc M' ms) {i:Int} (h0:0<=i) (h1:i<R'.length) :
    (zav S M' R' ms i).Ends (.inr ((R'.getD (Int.toNat i) default).up,(R'.getD (Int.toNat i) default).down,(R'.getD (Int.toNat i) default).lo,(R'.getD (Int.toNat i) default).hi,(R'.getD (Int.toNat i) default).narrow,0)):=by
  unfold zav;exact M.i_bind (chosen_ends h hc) (M.i_bind (M.i_opt (fun _=>in_true h0 (by omega)) (fun h=>by cases h)) (M.i_f rfl (M.i_f rfl (M.i_grd (gA2 h0 h1) M.i_pure))))
theorem ahead_ends {a b:Int} (ha:0<=a/\a<M'.length) (hb:0<=b/\b<M'.length) :
    (zai S M' R' a b).Ends (decide ((M'.getD (Int.toNat a) default).place<=(M'.getD (Int.toNat b) default).place)&&decide ((M'.getD (Int.toNat a) default).hi<(M'.getD (Int.toNat b) default).lo)):=by
  unfold zai;exact M.i_grd (gA2 ha.1 ha.2) (M.i_grd (gA2 hb.1 hb.2) M.i_pure)
theorem ahead_false {a b:Int} (hx:Fl.Ixs M' ms) (ht:Fl.Tog M' ms) (ha:a∈ms) (hb:b∈ms):(zai S M' R' a b).Ends false:=by
  have:=ahead_ends (S:=S) (R':=R') (hx a ha) (hx b hb)
  rwa [show (decide ((M'.getD (Int.toNat a) default).place<=(M'.getD (Int.toNat b) default).place)&&decide ((M'.getD (Int.toNat a) default).hi<(M'.getD (Int.toNat b) default).lo))=false by
    rw [Bool.and_eq_false_iff,decide_eq_false_iff_not,decide_eq_false_iff_not];have:=ht a ha b hb;omega] at this
theorem together_ends (hx:Fl.Ixs M' ms) (ht:Fl.Tog M' ms):(zaq S M' R' ms).Ends true:=by
  unfold zaq;refine M.i_bind (every_int _ _ fun a ha=>?_) M.i_pure;unfold zaF;refine M.i_bind (every_int _ _ fun b hb=>?_) M.i_pure;unfold zbb;exact M.i_bind (ahead_false hx ht ha hb) M.i_pure
end
end Go.Proofs.YtbldmjejckjflaaGreat
namespace Go.Nm
namespace Fl
/-- As many numbers below n as there are of a kind. -/
def cnt (p:Nat->Bool):Nat->Nat
  | 0=>0
  | n+1=>cnt p n+(if p n=true then 1 else 0)
section
variable {M:List Mrk}
/-- A mark contradicts another one that lies no less far downstream. -/
def ah (M:List Mrk) (a b:Nat):Prop:=(M.getD a default).place<=(M.getD b default).place/\(M.getD a default).hi<(M.getD b default).lo
instance (a b:Nat):Decidable (ah M a b):=inferInstanceAs (Decidable (_/\_))
variable {K:Nat->Prop} {a i s:Nat} {mp mp1 mp2:Int->Option Bool} {nx ls nx' ls':List Int}
end
end Fl
end Go.Nm
namespace Go.Proofs.YtbldmjejckjflaaGreat
open Go Go.Nm
section
variable {S:List Sect} {M':List Mrk} {R':List Rch}
theorem ahN_ends {a b:Nat} (ha:a<M'.length) (hb:b<M'.length):(zai S M' R' (a:Int) (b:Int)).Ends (decide (Fl.ah M' a b)):=by
  have:=ahead_ends (S:=S) (M':=M') (R':=R') (a:=(a:Int)) (b:=(b:Int)) (by omega) (by omega);rw [Int.toNat_natCast,Int.toNat_natCast] at this;have e:(decide ((M'.getD a default).place<=(M'.getD b default).place)&&decide ((M'.getD a default).hi<(M'.getD b default).lo))=decide (Fl.ah M' a b):=by
    rw [Bool.eq_iff_iff,Bool.and_eq_true,decide_eq_true_iff,decide_eq_true_iff,decide_eq_true_iff];exact Iff.rfl
  rwa [e] at this
end
end Go.Proofs.YtbldmjejckjflaaGreat
namespace Go.Nm
namespace Fl
section
variable {M:List Mrk} {K:Nat->Prop} {nx ls:List Int} {i j:Nat} {l l':List Nat}
/-- How many marks contradict one from above. -/
def up (M:List Mrk) (v:Nat):Nat:=cnt (fun u=>decide (ah M u v)) M.length
def dn (M:List Mrk) (v:Nat):Nat:=cnt (fun u=>decide (ah M v u)) M.length
end
end Fl
end Go.Nm
namespace Go.Proofs.YtbldmjejckjflaaGreat
open Go Go.Nm
section
variable {S:List Sect} {M':List Mrk} {R':List Rch}
end
end Go.Proofs.YtbldmjejckjflaaGreat
namespace Go.Nm
namespace Fl
section
variable {M:List Mrk} {L:List (List Nat)}
/-- The mark of a row that is looked at. -/
def cur (L:List (List Nat)) (at_:List Int) (i:Nat):Nat:=(L.getD i []).getD (Int.toNat (at_.getD i 0)) 0
/-- Where the rows are looked at: no further on than where their marks stand that do not contradict one another. -/
structure At (L:List (List Nat)) (f:Nat->Nat) (at_:List Int):Prop where
  n:at_.length=L.length
  le:∀ i,i<L.length->∃ k:Nat,at_.getD i 0=(k:Int)/\k<=f i
end
end Fl
end Go.Nm
namespace Go.Proofs.YtbldmjejckjflaaGreat
open Go Go.Nm
section
variable {S:List Sect} {M':List Mrk} {R':List Rch}
end
end Go.Proofs.YtbldmjejckjflaaGreat
namespace Go.Nm
namespace Fl
def surf (S:List Sect) (M:List Mrk) (ms:List Int):List Span:=(List.range S.length).map fun i=>⟨stLo M ms (S.getD i default).place,stHi M ms (S.getD i default).place⟩
theorem surf_len (S:List Sect) (M:List Mrk) (ms:List Int):(surf S M ms).length=S.length:=by simp [surf]
theorem surf_at {S:List Sect} {M:List Mrk} {ms:List Int} {i:Nat} (h:i<S.length):(surf S M ms).getD i default=⟨stLo M ms (S.getD i default).place,stHi M ms (S.getD i default).place⟩:=by
  rw [getD_el _ (by rw [surf_len]; exact h)];simp [surf]
end Fl
end Go.Nm
namespace Go.Proofs.YtbldmjejckjflaaGreat
open Go Go.Nm
section
variable {S:List Sect} {M':List Mrk} {R':List Rch} {ms:List Int} {r:Rch}
theorem Surface_ends (h:Fl.Site S M' R') (hc:Fl.Inc M' ms) (ht:Fl.Tog M' ms):(zaB S M' R' ms).Ends (Fl.surf S M' ms,0):=by
  have hn:=h.s.n;unfold zaB;refine M.i_bind (chosen_ends h hc) (M.i_f rfl (M.i_bind (together_ends hc.2 ht) (M.i_f rfl (M.i_bind (a:=(Fl.surf S M' ms,Fl.surf S M' ms)) ?_ M.i_pure))));refine M.i_for (fun i=>(i,(List.range i).map fun i=>(⟨Fl.stLo M' ms (S.getD i default).place,Fl.stHi M' ms (S.getD i default).place⟩:Span))) S.length (fun i hi=>?_) ?_
  · simp only [zce];refine M.i_t (decide_eq_true (by omega)) (M.i_bind (stages_ends hc.2 (by omega) (by omega)) (M.i_grd (decide_eq_true ?_) ?_))
    · simp; omega
    · rw [List.range_succ,List.map_append,Int.toNat_natCast];exact M.i_pure
  · simp only [zce];exact M.i_f (decide_eq_false (by omega)) M.i_pure
end
end Go.Proofs.YtbldmjejckjflaaGreat
namespace Go.Nm
namespace Fl
/-- A row of numbers in which each two contradict each other. -/
def Chn (M:List Mrk) (row:List Int):Prop:=∀ j k,j<k->k<row.length->ah M (Int.toNat (row.getD k 0)) (Int.toNat (row.getD j 0))∨ah M (Int.toNat (row.getD j 0)) (Int.toNat (row.getD k 0))
instance (M:List Mrk) (a b:Nat):Decidable (ah M a b∨ah M b a):=inferInstance
theorem ix_in {n:Nat} {r:List Int} (h:∀ k∈r,0<=k/\k<n) {i:Nat} (hi:i<r.length):0<=r.getD i 0/\r.getD i 0<n:=h _ (by rw [getD_el r hi]; exact List.getElem_mem hi)
end Fl
end Go.Nm
namespace Go.Proofs.YtbldmjejckjflaaGreat
open Go Go.Nm
section
variable {S:List Sect} {M':List Mrk} {R':List Rch} {ms:List Int}
theorem every_all (l:List Int) (so:Int->M Bool) (f:Int->Bool) (h:∀ t∈l,(so t).Ends (f t)):(zak l so).Out (fun b=>b=true↔∀ t∈l,f t=true):=by
  unfold zak zcr zcD;refine M.o_bind (P:=fun b=>b=false↔∀ t∈l,f t=true) (M.o_bind (P:=fun i=>i<0↔∀ t∈l,f t=true) (M.o_bind (P:=fun z=>match z with | .inl i=>0<=i/\∃ t∈l,f t=false | .inr _=>∀ t∈l,f t=true) ?_ ?_) ?_) ?_
  · refine M.o_for l.length (fun i (s:Nat)=>s=i/\∀ j,j<i->f (l.getD j 0)=true) ?_ ?_ ⟨rfl,fun j hj=>by omega⟩
    · rintro _ i hi ⟨rfl,hj⟩;simp only [zaO];have hm:l.getD i 0∈l:=by rw [getD_el l hi]; exact List.getElem_mem hi
      refine M.o_t (decide_eq_true (by omega)) (M.o_grd (decide_eq_true (by omega)) (M.o_bindE (a:=!f (l.getD i 0)) ?_ (M.o_if (fun hb=>?_) (fun hb=>?_))))
      · unfold zbG;exact M.i_bind (h _ hm) M.i_pure
      · exact M.o_pure ⟨by omega,_,hm,by simpa using hb⟩
      · refine M.o_pure ⟨rfl,fun j hj'=>?_⟩;by_cases e:j=i
        · subst e; simpa using hb
        · exact hj j (by omega)
    · rintro _ ⟨rfl,hj⟩;simp only [zaO];refine M.o_f (decide_eq_false (by omega)) (M.o_pure fun t ht=>?_);obtain ⟨i,hi,rfl⟩:=mem_getD ht 0;exact hj i hi
  · intro z hz
    match z,hz with
    | .inl i,hz =>
      refine M.o_pure ⟨fun q=>by have:=hz.1; omega,fun q=>?_⟩;obtain ⟨_,t,ht,e⟩:=hz;rw [q t ht] at e; cases e
    | .inr _,hz=>exact M.o_pure ⟨fun _=>hz,fun _=>by decide⟩
  · intro i hi;refine M.o_pure ?_;rw [decide_eq_false_iff_not,← hi];omega
  · intro b hb;refine M.o_pure ?_;rw [Bool.not_eq_true'];exact hb
theorem ahI_ends {a b:Int} (ha:0<=a/\a<M'.length) (hb:0<=b/\b<M'.length):(zai S M' R' a b).Ends (decide (Fl.ah M' (Int.toNat a) (Int.toNat b))):=by
  have:=ahN_ends (S:=S) (R':=R') (M':=M') (a:=Int.toNat a) (b:=Int.toNat b) (by omega) (by omega)
  rwa [show ((Int.toNat a:Nat):Int)=a by omega,show ((Int.toNat b:Nat):Int)=b by omega] at this
theorem together_out (hx:Fl.Ixs M' ms):(zaq S M' R' ms).Out (fun b=>b=true↔Fl.Tog M' ms):=by
  have inner:∀ a∈ms,(zaF a ms S M' R').Ends (decide (∀ b∈ms,¬Fl.ah M' (Int.toNat a) (Int.toNat b))):=fun a ha=>by
    unfold zaF;obtain ⟨r,h1,h2⟩:=every_all ms (fun xqz=>zbb xqz S M' R' a) (fun b=>!decide (Fl.ah M' (Int.toNat a) (Int.toNat b))) (fun b hb=>by
      unfold zbb;exact M.i_bind (ahI_ends (hx a ha) (hx b hb)) M.i_pure)
    refine M.i_bind h1 ?_;have e:r=decide (∀ b∈ms,¬Fl.ah M' (Int.toNat a) (Int.toNat b)):=by
      rw [Bool.eq_iff_iff,h2,decide_eq_true_iff];constructor
      · intro q b hb; simpa using q b hb
      · intro q b hb; simpa using q b hb
    rw [e];exact M.i_pure
  unfold zaq;refine M.o_bind (every_all ms (fun xqz=>zaF xqz ms S M' R') (fun a=>decide (∀ b∈ms,¬Fl.ah M' (Int.toNat a) (Int.toNat b))) inner) (fun b hb=>M.o_pure ?_);rw [hb];constructor
  · intro q a ha b hb';exact (of_decide_eq_true (q a ha)) b hb'
  · intro q a ha;exact decide_eq_true fun b hb'=>q a ha b hb'
theorem read_out {row:List Int} {met:List Bool} (hn:M'.length<=16) (h0:row ≠ []) (hr:∀ k∈row,0<=k/\k<M'.length) (hm:met.length=16) :
    (zbS S M' R' row met).Out (fun z=>z.2.length=16/\(∀ k:Nat,k<16->(z.2.getD k false=true↔met.getD k false=true∨(k:Int)∈row))/\(z.1=true↔Fl.Chn M' row)):=by
  have hl:0<row.length:=List.length_pos_iff.2 h0;unfold zbS;have e0:((row.length:Int)==0)=false:=by rw [beq_eq_false_iff_ne]; omega
  rw [e0];refine M.o_bindE (a:=true) (M.i_opt (fun _=>every_int _ _ fun k hk=>?_) (fun q=>by cases q)) (M.o_f rfl (M.o_bind (P:=fun z=>z.2.length=16/\(∀ k:Nat,k<16->(z.2.getD k false=true↔met.getD k false=true∨(k:Int)∈row))/\(z.1=true↔Fl.Chn M' row)) ?_ (fun z hz=>M.o_pure hz)))
  · unfold zat;have:=hr k hk;exact M.i_bind (in_true (by omega) (by omega)) M.i_pure
  · refine M.o_for row.length (fun i (s:List Bool × Bool × Nat)=>s.2.2=i/\s.1.length=16/\(∀ k:Nat,k<16->(s.1.getD k false=true↔met.getD k false=true∨∃ j,j<i/\row.getD j 0=(k:Int)))/\(s.2.1=true↔∀ j k,j<k->k<i->Fl.ah M' (Int.toNat (row.getD k 0)) (Int.toNat (row.getD j 0))∨Fl.ah M' (Int.toNat (row.getD j 0)) (Int.toNat (row.getD k 0)))) ?_ ?_ (s:=(met,true,0)) ⟨rfl,hm,fun k hk=>⟨fun q=>.inl q,fun q=>by
        rcases q with q | ⟨j,hj,_⟩
        · exact q
        · omega⟩,⟨fun _ j k _ hk=>by omega,fun _=>rfl⟩⟩
    · rintro _ ⟨ar,out,i⟩ hi ⟨rfl,ha,hmt,hch⟩;dsimp only at hi ha hmt hch ⊢;have ri:=Fl.ix_in hr hi;simp only [zcl];refine M.o_t (decide_eq_true (by omega)) (M.o_grd (decide_eq_true (by omega)) (M.o_grd (gA2 (by omega) (by omega)) (M.o_bind (P:=fun r=>(out&&r)=true↔∀ j k,j<k->k<i+1->Fl.ah M' (Int.toNat (row.getD k 0)) (Int.toNat (row.getD j 0))∨Fl.ah M' (Int.toNat (row.getD j 0)) (Int.toNat (row.getD k 0))) ?_ ?_)))
      · refine M.o_opt (fun ho=>?_) (fun ho=>?_)
        · refine M.o_mono (every_all (row.take i) _ (fun t=>decide (Fl.ah M' (Int.toNat (row.getD i 0)) (Int.toNat t))||decide (Fl.ah M' (Int.toNat t) (Int.toNat (row.getD i 0)))) (fun t ht=>?_)) (fun r hr'=>?_)
          · have rt:=hr t (List.mem_of_mem_take ht);unfold zcZ;refine M.i_bind (ahI_ends ri rt) (M.i_bind (a:=bif (!decide (Fl.ah M' (Int.toNat (row.getD i 0)) (Int.toNat t))) then decide (Fl.ah M' (Int.toNat t) (Int.toNat (row.getD i 0))) else false) (M.i_opt (fun q=>by rw [q]; exact ahI_ends rt ri) (fun q=>by rw [q]; rfl)) ?_);have e:(decide (Fl.ah M' (Int.toNat (row.getD i 0)) (Int.toNat t))||bif (!decide (Fl.ah M' (Int.toNat (row.getD i 0)) (Int.toNat t))) then decide (Fl.ah M' (Int.toNat t) (Int.toNat (row.getD i 0))) else false)=(decide (Fl.ah M' (Int.toNat (row.getD i 0)) (Int.toNat t))||decide (Fl.ah M' (Int.toNat t) (Int.toNat (row.getD i 0)))):=by
              cases decide (Fl.ah M' (Int.toNat (row.getD i 0)) (Int.toNat t)) <;> rfl
            rw [e];exact M.i_pure
          · rw [ho,Bool.true_and,hr'];have hch:=hch.1 ho;constructor
            · intro q j k hjk hk;by_cases e:k=i
              · subst e;have hj:row.getD j 0∈row.take k:=by
                  rw [getD_el row (by omega)];exact List.mem_take_iff_getElem.2 ⟨j,by omega,rfl⟩
                have:=q _ hj;rw [Bool.or_eq_true,decide_eq_true_eq,decide_eq_true_eq] at this;exact this
              · exact hch j k hjk (by omega)
            · intro q t ht;obtain ⟨j,hj,rfl⟩:=List.mem_take_iff_getElem.1 ht;have:=q j i (by omega) (by omega);rw [getD_el row (show j<row.length by omega)] at this;rw [Bool.or_eq_true,decide_eq_true_eq,decide_eq_true_eq];exact this
        · rw [ho,Bool.false_and];refine ⟨fun q=>(by cases q),fun q=>?_⟩;have:=hch.2 fun j k hjk hk=>q j k hjk (by omega);rw [ho] at this; cases this
      · intro r hr';refine M.o_pure ⟨rfl,by dsimp only; rw [List.length_set]; exact ha,fun k hk=>?_,hr'⟩;dsimp only;rw [gset ar (Int.toNat (row.getD i 0)) k true false (by omega)];by_cases e:k=Int.toNat (row.getD i 0)
        · rw [if_pos e];exact ⟨fun _=>.inr ⟨i,by omega,by omega⟩,fun _=>rfl⟩
        · rw [if_neg e,hmt k hk];constructor
          · rintro (q | ⟨j,hj,q⟩)
            · exact .inl q
            · exact .inr ⟨j,by omega,q⟩
          · rintro (q | ⟨j,hj,q⟩)
            · exact .inl q
            · by_cases e':j=i
              · subst e'; omega
              · exact .inr ⟨j,by omega,q⟩
    · rintro ⟨ar,out,_⟩ ⟨rfl,ha,hmt,hch⟩;dsimp only at ha hmt hch ⊢;simp only [zcl];refine M.o_f (decide_eq_false (by omega)) (M.o_pure ⟨ha,fun k hk=>?_,hch⟩);rw [hmt k hk];constructor
      · rintro (q | ⟨j,hj,q⟩)
        · exact .inl q
        · refine .inr ?_;rw [← q,getD_el row hj];exact List.getElem_mem hj
      · rintro (q | q)
        · exact .inl q
        · obtain ⟨j,hj,e⟩:=mem_getD q 0;exact .inr ⟨j,hj,e⟩
end
end Go.Proofs.YtbldmjejckjflaaGreat
namespace Go.Nm
open Go
/-- A call that panics. -/
def Pan (P:Program) (f:FuncId) (args:Array Value) (w:World) (R:Value->World->Prop):Prop :=
  Calls P f args w fun e w'=>∃ v,e = .panicked [{ v,recovered:=false }]/\R v w'
/-- One operation that has a value, that panics, or that calls what panics. -/
def opWP (P:Program) (o:Oper) (K:Env->World->Prop) (E:Value->World->Prop) (σ:Env) (w:World):Prop :=
  match (execOp (ev σ) o).run P w with
  | .ok (.value v) w'=>K (updo σ o.dst v) w'
  | .ok (.enter f args) w'=>Pan P f args w' E
  | .halt (.panic v) w'=>E v w'
  | _=>False
def SLP (P:Program) (Q:Post):List Oper->Env->World->Prop
  | [],σ,w=>Q .normal σ w
  | o :: rest,σ,w=>o.guard=none/\(∀ c,o.op ≠ .defer c)/\opWP P o (SLP P Q rest) (fun v w'=>Q (.panic [{ v,recovered:=false }]) σ w') σ w
theorem opWP_wp {r:Option Nat} {P:Program} {ds:List Deferred} {n:Nat} {o:Oper} {K:Env->World->Prop} {E:Value->World->Prop} {σ:Env} {w:World} (hd:∀ d,o.dst=some d->d<n) {a:Act} (ha:Fr ds n σ a)
    {next:Act->World->Prop} {Q:Exit->Act->World->Prop} (hn:∀ c,o.op ≠ .defer c) (hK:∀ σ' a' w',Fr ds n σ' a'->K σ' w'->next a' w') (hE:∀ v w',E v w'->Q (.panic [{ v,recovered:=false }]) a w') (h:opWP P o K E σ w):o.wpIn (FR r) 0 P a w next Q:=by
  refine ⟨fun _ _=>trivial,?_⟩;unfold opWP at h;rw [ha.eval,Oper.semAt_eq _ _ _ hn];generalize (execOp (ev σ) o).run P w=res at *;cases res with
  | halt x w' =>
    cases x with
    | panic v=>exact hE _ _ h
    | _=>exact h.elim
  | ok x w' =>
    cases x with
    | value v=>exact hK _ _ _ (ha.puto hd v) h
    | enter f args =>
      refine ⟨fun hc=>by simp [FR,Fence.wide] at hc,callsFR (Calls.mono h ?_)⟩;rintro e w'' ⟨v,rfl,hk⟩;exact hE _ _ hk
    | _=>exact h.elim
theorem SLP_wpOps {r:Option Nat} {P:Program} {ds:List Deferred} {n:Nat} {Q:Post} (all:List Oper) (hok:∀ o∈all,∀ d,o.dst=some d->d<n):∀ (l:List Oper) (k:Nat),
    (∀ j,l[j]?=all[k+j]?)->∀ (σ:Env) (w:World) (a:Act),Fr ds n σ a->SLP P Q l σ w →
    wpOpsIn (FR r) 0 P all.toArray (fun e a' w'=>∃ σ',Fr ds n σ' a'/\Q e σ' w') (List.range' k l.length) a w
  | [],_,_,σ,_,_,ha,h=>⟨σ,ha,h⟩
  | o :: rest,k,hl,σ,w,a,ha,h=>by
    have h0:all[k]?=some o:=by simpa using (hl 0).symm
    have hmem:o∈all:=List.mem_of_getElem? h0;have ih:=SLP_wpOps (r:=r) (P:=P) (ds:=ds) (Q:=Q) all hok rest (k+1) (fun j=>by have:=hl (j+1); simpa [Nat.add_assoc,Nat.add_comm 1 j] using this);simp only [List.length_cons,List.range'_succ,wpOpsIn,List.getElem?_toArray,h0];obtain ⟨hg,hn,h⟩:=h;simp only [Region.wanted,hg,if_true];exact opWP_wp (hok o hmem) ha hn (fun σ' a' w' ha' hk=>ih σ' w' a' ha' hk) (fun v w' hE=>⟨σ,ha,hE⟩) h
theorem W.regionP {r:Option Nat} {P:Program} {n:Nat} {Q:Post} {σ:Env} {w:World} {id:Nat} {l:List Oper} (hok:okDst n l=true) (h:SLP P Q l σ w) :
    WR r P n (.region id l.toArray false) Q σ w:=by
  intro ds a ha;refine wpIn_region ?_;have:=SLP_wpOps (r:=r) (P:=P) (ds:=ds) (Q:=Q) l (okDst_spec hok) l 0 (by simp) σ w a ha h
  simpa [List.range_eq_range'] using this
section
variable {P:Program} {Q:Post} {rest:List Oper} {σ:Env} {w:World} {ty:TypeId} {pos:String} {af:Array Edge}
theorem sp_val {d:Nat} {op:Op} {v:Value} (hn:∀ c,op ≠ .defer c) (h:(execOp (ev σ) ⟨some d,op,ty,pos,af,none⟩).run P w = .ok (.value v) w) (k:SLP P Q rest (upd σ d v) w) :
    SLP P Q (⟨some d,op,ty,pos,af,none⟩ :: rest) σ w:=by
  refine ⟨rfl,hn,?_⟩;simp only [opWP,h]; exact k
theorem sp_panic {dst:Option Nat} {x:Operand} {t:TypeId} {v:Value} (hx:ev σ x = .iface t v) (k:Q (.panic [{ v:=.iface t v,recovered:=false }]) σ w) :
    SLP P Q (⟨dst,.panic x,ty,pos,af,none⟩ :: rest) σ w:=by
  refine ⟨rfl,fun c h=>(by cases h),?_⟩;have h:(execOp (ev σ) ⟨dst,.panic x,ty,pos,af,none⟩).run P w = .halt (.panic (.iface t v)) w:=by
    simp [execOp,hx,Instr.panic]
  simp only [opWP,h]; exact k
theorem sp_call {f:FuncId} {dst:Option Nat} {ops:Array Operand} {ts:Array TypeId} {R:Value->World->Prop} (hcf:CF P f) (args:List Value) (ha:ops.toList.map (ev σ)=args)
    (hc:Pan P f args.toArray w R) (k:∀ v w',R v w'->Q (.panic [{ v,recovered:=false }]) σ w') :
    SLP P Q (⟨dst,.call ⟨.value (.func f),ops,ts⟩,ty,pos,af,none⟩ :: rest) σ w:=by
  refine ⟨rfl,fun c h=>(by cases h),?_⟩;have h:(execOp (ev σ) ⟨dst,.call ⟨.value (.func f),ops,ts⟩,ty,pos,af,none⟩).run P w = .ok (.enter f args.toArray) w:=by
    subst ha;simp [execOp,resolve,ev,Deferred.ofValue,invoke,run_callFunc hcf,amap]
  simp only [opWP,h];exact Calls.mono hc fun e w' ⟨v,he,hr⟩=>⟨v,he,k v w' hr⟩
end
/-- The end of a function that panics. -/
def bodyQp (R:Value->World->Prop):Post
  | .panic ch,_,w=>∃ v,ch=[{ v,recovered:=false }]/\R v w
  | _,_,_=>False
theorem pan_of_W {P:Program} {f:FuncId} {fn:Func} {c:Code} {n:Nat} {args:Array Value} {w:World} {R:Value->World->Prop}
    (hf:P.funcs[f]?=some fn) (hb:fn.body=some c) (hn:fn.ntmps=n) (hle':Nat.ble args.size n=true)
    (h:W P n c (bodyQp R) (argE args) w):Pan P f args w R:=by
  have hle:=Nat.le_of_ble_eq_true hle';subst hn;refine calls_of_wp hf hb (wp_mono ((wpIn_wide (n:=0)).1 (h [] _ ⟨rfl,?_,fun k=>?_⟩)) ?_)
  · simp; omega
  · simp only [argE,Array.getD_eq_getD_getElem?,Array.getElem?_append];by_cases hk:k<args.size
    · simp [hk]
    · rw [if_neg hk];simp only [Array.getElem?_replicate];have:args[k]?=none:=by simp; omega
      rw [this];split <;> rfl
  · rintro e a' w' ⟨s,hs,h'⟩;cases e with
    | panic ch =>
      obtain ⟨v,rfl,hR⟩:=h';exact ⟨hs.df,v,rfl,hR⟩
    | _=>exact h'.elim
/-- The end of a function that panics, and whose deferred call recovers. -/
def bodyQr (P:Program) (fn:Func) (f:FuncId) (args:Array Value) (R:Value->World->Prop):Post
  | .panic ch,σ,w=>∃ pv,ch=[{ v:=pv,recovered:=false }]/\CallsD P f args (.panicking [{ v:=pv,recovered:=false }]) w fun e u' w'=>(∃ v,e = .returned v)/\u' = .panicking [{ v:=pv,recovered:=true }]/\∃ v,resE P fn σ w' v/\R v w'
  | _,_,_=>False
theorem WB.deferP {P:Program} {fn:Func} {n:Nat} {R:Value->World->Prop} {σ:Env} {w:World} {id:Nat} {o1 o2:Oper} {y:Code} {d:Nat} {v:Value} {fv:Fn} {cap:Array Value} {f:FuncId} {args:Array Value}
    (hd:Nat.blt d n=true) (hd1:o1.dst=some d) (hg1:o1.guard=none) (hd2:o2.dst=none) (hg2:o2.guard=none)
    (h1:∀ w,(execOp (ev σ) o1).run P w = .ok (.value v) w) (h2:∀ w,(execOp (ev (upd σ d v)) o2).run P w = .ok (.defer { target:=.fn fv cap,args:=#[] }) w)
    (hi:∀ w,(invoke (.fn fv cap) #[]).run P w = .ok (.enter f args) w)
    (hk:W P n y (bodyQr P fn f args R) (upd σ d v) w):WB P fn n (.seq (.region id #[o1,o2] false) y) R σ w:=by
  intro a ha;refine wp_seq (wp_region ?_);have hd':d<n:=Nat.lt_of_lt_of_le (Nat.lt_succ_self d) (Nat.le_of_ble_eq_true hd);have h2':(execOp (a.put (some d) v).eval o2).run P w = .ok (.defer { target:=.fn fv cap,args:=#[] }) w:=by
    rw [(ha.put hd' v).eval];exact h2 w
  have hr:List.range (#[o1,o2]:Array Oper).size=[0,1]:=rfl;rw [hr];simp only [wpOps,List.getElem?_toArray,List.getElem?_cons_zero,List.getElem?_cons_succ,Region.wanted,hg1,hg2,if_true,Oper.wp,ha.eval,h1,hd1,Oper.upon,h2',hd2];refine .inl (.inl ?_);have ha':Fr [{ target:=.fn fv cap,args:=#[] }] n (upd σ d v) ({ a.put (some d) v with defers:={ target:=.fn fv cap,args:=#[] } :: (a.put (some d) v).defers }.put none undef):=by
    have h3:=ha.put hd' v;exact ⟨by show _ :: (a.put (some d) v).defers=_; rw [h3.df],h3.sz,h3.get⟩
  refine wp_mono ((wpIn_wide (n:=0)).1 (hk _ _ ha')) ?_;rintro e a' w' ⟨s,hs,h'⟩;cases e with
  | panic ch =>
    obtain ⟨pv,rfl,hc⟩:=h';show Leaves P fn a'.tmps (RetE R) a'.defers (.panicking _) w';rw [hs.df];refine leaves_cons (by simp) (hi w') (hc.mono ?_);rintro e u' w'' ⟨⟨v,rfl⟩,rfl,v',hr,hR⟩;exact ⟨v',hr _ hs.get,v',rfl,hR⟩
  | _=>exact h'.elim
/-! ### A deferred function that recovers ahead of all else -/
theorem opsIn_wide {P:Program} {ops:Array Oper} {Q:Exit->Act->World->Prop} {l:List Nat} {a:Act} {w:World} (h:wpOpsIn Fence.wide 0 P ops Q l a w) (b:Frame) (k:List Item) (cs:List Frame) (hr:b.roundOf=none) :
    ∃ e a' w',Q e a' w'/\Arrives P (lone (b.at a (.inRegion ops l :: k)) cs w) b k cs e a' w':=by
  obtain ⟨e,a',w',q,r⟩:=wp_opsIn l a w h b k cs hr trivial (room_wide _);rw [Frame.atR_of_none hr] at r;exact ⟨e,a',w',q,(arrivesIn_iff (fun _ _=>stepsIn_wide) hr).1 r⟩
theorem wpS_recover {P:Program} {id:Nat} {ops:Array Oper} {o:Oper} {m:Nat} {Q:Exit->Act->List Frame->World->Prop} {Q1:Exit->Act->World->Prop} {a:Act} {cs cs':List Frame} {w:World} {v:Value}
    (h0:ops[0]?=some o) (hs:ops.size=m+1) (hg:o.guard=none) (hr:(execOp a.eval o).run P w = .ok .recover w) (hrec:recoverD cs=some (v,cs'))
    (h:wpOpsIn Fence.wide 0 P ops Q1 (List.range' 1 m) (a.put o.dst v) w) (hQ:∀ e a' w',Q1 e a' w'->Q e a' cs' w'):(Code.region id ops false).wpS P Q a cs w:=by
  intro b k hb hro;obtain ⟨e,a',w',hq,harr⟩:=opsIn_wide h b k cs' hro;have hl:List.range ops.size=0 :: List.range' 1 m:=by rw [hs,List.range_eq_range',List.range'_succ]
  have s1:=step_region (P:=P) (b:=b) (a:=a) (k:=k) (cs:=cs) (w:=w) (ops:=ops) (id:=id);rw [hl] at s1;have hw:Region.wanted o (yielded ops a.tmps)=true:=by simp [Region.wanted,hg]
  have hgs:=stepG_op (P:=P) (b:=b) (a:=a) (k:=k) (cs:=cs) (w:=w) (rest:=List.range' 1 m) h0 hw;have hfin:∀ v,(b.at a (.inRegion ops (0 :: List.range' 1 m) :: k)).finish v=b.at (a.put o.dst v) (.inRegion ops (List.range' 1 m) :: k):=by
    intro v; rw [Frame.finish_at,h0]; rfl
  have hk:(b.at a (.inRegion ops (0 :: List.range' 1 m) :: k)).kind = .deferred:=hb;have htr:=tryRecover_deferred hk cs;refine ⟨e,a',cs',w',hQ _ _ _ hq,.of_steps (.head s1 (.one (step_lone_go ?_))) harr⟩;rw [hgs,← hfin];simp only [Frame.at] at htr ⊢;simp [stepG.apply,hr,htr,hrec]
end Go.Nm
namespace Go.Proofs.YtbldmjejckjflaaGreat
open Go Go.Nm
/-- The fault that read panics with. -/
abbrev flt:Value:=.iface 128 (.agg #[I 2])
theorem Al128:(Tryz.prog.info? 128).map (·.zero)=some (some (.agg #[I 0])):=by kernel_rfl
theorem Sz128:(Tryz.prog.info? 128).map (·.size)=some 1:=by kernel_rfl
theorem Fd128_0:(Tryz.prog.underlying 128).bind (fun d=>match d with | .struct fs=>(fs[0]?).map (fun f=>(f.offset,f.type)) | _=>none)=some (0,49):=by rw [Tryz.underlying128]; rfl
theorem Bd128 {fs:Array Field} (h:Tryz.prog.underlying 128=some (.struct fs)):fs.toList.mapM (fun f=>(Tryz.prog.info? f.type).map fun i=>(f.offset,i.size))=some [(0,1)]:=by rw [Tryz.underlying128] at h; simp only [Option.some.injEq,TypeDesc.struct.injEq] at h; subst h; kernel_rfl
theorem ta_hit (w:World):(Instr.typeAssert flt 20 128 true).run Tryz.prog w = .ok (.tuple #[.agg #[I 2],.bool true]) w:=by
  simp [Instr.typeAssert,go_sem]
theorem x_ta {σ:Env} {x:Operand} {d:Nat} {ty:TypeId} {pos:String} {af:Array Edge} {w:World} (h:ev σ x=flt):(execOp (ev σ) ⟨some d,.typeAssert x 20 128 true,ty,pos,af,none⟩).run Tryz.prog w = .ok (.value (.tuple #[.agg #[I 2],.bool true])) w:=by
  have:=ta_hit w;simp [execOp,h,this]
theorem x_mi {σ:Env} {x:Operand} {d:Nat} {ty:TypeId} {pos:String} {af:Array Edge} {w:World} (h:ev σ x = .agg #[I 2]):(execOp (ev σ) ⟨some d,.makeInterface 128 x,ty,pos,af,none⟩).run Tryz.prog w = .ok (.value flt) w:=by
  simp [execOp,h,Instr.makeInterface,go_sem]
theorem Fr.enter {args:Array Value} {n:Nat} (hle:Nat.ble args.size n=true):Fr [] n (argE args) { tmps:=args++Array.replicate (n-args.size) undef,defers:=[] }:=by
  have hle:=Nat.le_of_ble_eq_true hle;refine ⟨rfl,by simp; omega,fun k=>?_⟩;simp only [argE,Array.getD_eq_getD_getElem?,Array.getElem?_append];by_cases hk:k<args.size
  · simp [hk]
  · rw [if_neg hk];simp only [Array.getElem?_replicate];have:args[k]?=none:=by simp; omega
    rw [this];split <;> rfl
theorem SL_tail {P:Program} {ds:List Deferred} {n:Nat} {Q:Post} {o:Oper} {l:List Oper} {σ:Env} {w:World} {a:Act} (hok:okDst n (o :: l)=true) (ha:Fr ds n σ a) (h:SL P (o :: l) Q l σ w) :
    wpOpsIn Fence.wide 0 P (o :: l).toArray (fun e a' w'=>∃ σ',Fr ds n σ' a'/\Q e σ' w') (List.range' 1 l.length) a w :=
  SL_wpOps (r:=none) (o :: l) (okDst_spec hok) l 1 (fun j=>by rw [Nat.add_comm]; rfl) σ w a ha h
set_option maxRecDepth 100000 in
set_option maxHeartbeats 4000000 in
theorem catch_hit {w0 w:World} {R:List Chunk} {b2 b3:Nat} {x y:Value} (H:St w0 w [cBlk b3 [y] 49,cBlk b2 [x] 4] R) :
    CallsD Tryz.prog 65 #[Pq b2,Pq b3] (.panicking [{ v:=flt,recovered:=false }]) w fun e u' w'=>(∃ v,e = .returned v)/\u' = .panicking [{ v:=flt,recovered:=true }]/\St w0 w' [cBlk b3 [I 2] 49,cBlk b2 [B false] 4] R:=by
  refine callsD_of_wpS Tryz.func65 rfl fun c₀ cs hu=>?_;apply wpS_seq;refine wpS_recover (m:=7) (v:=flt) (cs':={ c₀ with mode:=.panicking [{ v:=flt,recovered:=true }] } :: cs) rfl rfl rfl rfl ?_ (SL_tail (n:=12) (Q:=fun e σ' w'=>e = .normal/\∃ (b:Nat) (ρ:Env),σ'=upds ρ [(0,Pq b2),(1,Pq b3),(2,Pq b),(3,B true)]/\St w0 w' [cBlk b [I 2] 128,cBlk b3 [y] 49,cBlk b2 [x] 4] R) rfl ((Fr.enter (args:=#[Pq b2,Pq b3]) (n:=12) rfl).put (d:=5) (by decide) flt) ?_) ?_
  · simp [recoverD,hu]
  · refine s_val (x_ta rfl) ?_;refine zM (.tuple #[.agg #[I 2],.bool true]) rfl ?_;refine zX [.agg #[I 2],.bool true] (.agg #[I 2]) rfl rfl ?_;refine zX [.agg #[I 2],.bool true] (.bool true) rfl rfl ?_;refine t_alloc (cs:=[I 0]) H Al128 rfl ?_;intro b w1 H;refine t_sw 0 0 [I 2] (.agg #[I 2]) H rfl rfl Sz128 rfl rfl rfl rfl ?_;intro w2 H;refine zA (B true) rfl ?_;exact s_nil ⟨rfl,b,_,upds_of _ _ ⟨rfl,rfl,rfl,rfl,trivial⟩,H⟩
  · rintro e a' w' ⟨σ',hF,rfl,b,ρ,rfl,H⟩;refine wpS_of_wp (wp_mono ((wpIn_wide (n:=0)).1 ((?_:W Tryz.prog 12 _ (fun e _ w'=>e = .normal/\St w0 w' [cBlk b3 [I 2] 49,cBlk b2 [B false] 4] R) _ _) [] _ hF)) ?_)
    · refine W.seq ?_;refine W.region rfl ?_;refine zM (B true) rfl ?_;refine s_nil ?_;refine W.cond true rfl (fun _=>?_) (fun h=>by cases h);refine W.draw (fun W=>St w0 W [cBlk b [I 2] 128] R) [(0,true),(1,true),(2,false),(3,false)] mixed (by decide +kernel) rfl ?_;intro w3 hx;replace H:=H.ext hx;refine ⟨H.pk [0],?_⟩;refine d_q rfl (fun w' H=>x_fa (a:=Pq b) (v:=Pq b) rfl (fa_blk (o:=0) Fd128_0 Sz49)) ?_;refine d_q rfl (fun w' H=>x_ld (p:=Pq b) (v:=I 2) rfl (ldb_sc Sc49 (H.bl 0) rfl)) ?_;refine d_l rfl ?_;refine t_sw 2 0 [B false] (B false) H rfl rfl Sz4 rfl rfl rfl rfl ?_;intro w4 H;refine s_nil ⟨H.pk [0],?_⟩;refine d_l rfl ?_;refine t_sw 1 0 [I 2] (I 2) H rfl rfl Sz49 rfl rfl rfl rfl ?_;intro w5 H;refine s_nil ⟨H.pk [0],?_⟩;exact d_nil ⟨rfl,H.pk [1,2]⟩
    · rintro e a'' w'' ⟨s,hs,rfl,H'⟩;exact ⟨hs.df,_,rfl,_,by simp [results,Tryz.results65]; rfl,⟨_,rfl⟩,rfl,H'⟩
set_option maxRecDepth 100000 in
set_option maxHeartbeats 16000000 in
theorem read_bad {R:List Chunk} {b_w_:Nat} {C_w__Site_Sections:Cells} {v_w__Site_Sections:Value} {C_w__Site_Marks:Cells} {v_w__Site_Marks:Value} {C_w__Site_Reaches:Cells} {v_w__Site_Reaches:Value} {b_w__carried:Nat} {C_row:Cells} {v_row:Value} {b_met:Nat} (w__Site_Sections:List Sect) (w__Site_Marks:List Mrk) (w__Site_Reaches:List Rch) (row:List Int) (met:List Bool) (hC_w__Site_Sections:Reads R C_w__Site_Sections) (hs_w__Site_Sections:Sl C_w__Site_Sections v_w__Site_Sections w__Site_Sections) (hC_w__Site_Marks:Reads R C_w__Site_Marks) (hs_w__Site_Marks:Sl C_w__Site_Marks v_w__Site_Marks w__Site_Marks) (hC_w__Site_Reaches:Reads R C_w__Site_Reaches) (hs_w__Site_Reaches:Sl C_w__Site_Reaches v_w__Site_Reaches w__Site_Reaches) (h_b_w_:Has R (cBlk b_w_ [v_w__Site_Sections,v_w__Site_Marks,v_w__Site_Reaches,.map (some b_w__carried)] 163)) (hC_row:Reads R C_row) (hs_row:Sl C_row v_row row) (hl_met:met.length=16) {r2:Bool} (hx3z:(M.opt (!((row.length:Int)==0)) (zak row (fun xqz=>zat xqz w__Site_Sections w__Site_Marks w__Site_Reaches)) false).Ends r2) (hbad:(((row.length:Int)==0)||(!r2))=true) (w:World) (H:St w w [cBlk b_met (encB met) 130] R):Pan Tryz.prog 66 #[Pq b_w_,v_row,Pq b_met] w fun v w'=>v=flt/\St w w' [] R:=by
 refine pan_of_W Tryz.func66 rfl rfl rfl ?_;refine W.seq ?_;refine W.region rfl ?_;refine t_box (v:=Pq b_w_) (cs:=[Pq b_w_]) H rfl rfl ?_;intro b_1 w1z H;refine zA (B false) rfl ?_;refine s_nil ?_;refine W.seq ?_;refine W.seq ?_;refine W.region rfl ?_;refine zM v_row rfl ?_;have hl2z:=(hs_row).len_le;refine s_val (x_lenS T22.und rfl hs_row) ?_;refine zC (row.length:Int) 0 ((row.length:Int)==0) rfl rfl rfl ?_;refine zM (B ((row.length:Int)==0)) rfl ?_;refine g_val (!((row.length:Int)==0)) (gy_f rfl) (fun hg=>x_mv (v:=v_row) rfl) ?_;refine g_val (!((row.length:Int)==0)) (gy_f rfl) (fun hg=>x_mf (fs:=[]) (cs:=[Pq b_1]) rfl rfl) ?_;refine t_gcall (!((row.length:Int)==0)) (gy_f rfl) cf102 (B r2) (fun _=>[v_row,.func (.func 103) #[] #[Pq b_1]]) (fun hg=>lst2 (gd_of (c:=!((row.length:Int)==0)) hg (v_row)) (gd_of (c:=!((row.length:Int)==0)) hg (.func (.func 103) #[] #[Pq b_1]))) H (fun hg=>(zbN row (fun xqz=>zat xqz w__Site_Sections w__Site_Marks w__Site_Reaches) (hC_row.app _) hs_row ⟨103,[Pq b_1],rfl,cf103,fun wqz Lqz Cqz vqz xqz bqz hsqz hCqz hAqz hpqz=>by obtain rfl:=Arg.int hAqz; exact (zec xqz w__Site_Sections w__Site_Marks w__Site_Reaches (Reads.app (hC_w__Site_Sections.app _) _) hs_w__Site_Sections (Reads.app (hC_w__Site_Marks.app _) _) hs_w__Site_Marks (Reads.app (hC_w__Site_Reaches.app _) _) hs_w__Site_Reaches (Has.app (h_b_w_.app _) _) (Has.app (Has.here (k:=0) rfl) _) hpqz wqz (St.refl hsqz)).mono fun vqz wqz ⟨yqz,hrqz,hvqz,Hqz⟩=>by subst hrqz; exact ⟨hvqz,Hqz⟩⟩ (M.e_opt hx3z hg) _ (H.give (A:=[]) rfl)).mono fun v_ w_ ⟨y_,hr_,hv_,H_⟩=>by subst hr_; exact ⟨hv_,H.via H_⟩) ?_;intro w4z H;refine g_val (!((row.length:Int)==0)) (gy_f rfl) (fun hg=>x_not (b:=r2) (gd_of (c:=!((row.length:Int)==0)) hg (B r2))) ?_;refine s_val (x_por (b:=(row.length:Int)==0) (r:=!r2) rfl rfl (fun hb=>gd_of (c:=!((row.length:Int)==0)) (by first | exact hb | (rw [hb]; rfl) | simp_all) (B (!r2)))) ?_;refine s_nil ?_;refine W.cond (((row.length:Int)==0)||(!r2)) rfl (fun _=>?_) (fun c=>by rw [hbad] at c; cases c);refine W.regionP rfl ?_;refine sp_val (fun _ h=>by cases h) (x_bld (ps:=[(0,I 2)]) (zs:=[I 0]) (L':=[I 2]) rfl Tryz.underlying128 Al128 rfl (Bd128 Tryz.underlying128) (.cons (cs:=[I 2]) rfl rfl rfl rfl rfl<|.nil)) ?_;refine sp_val (fun _ h=>by cases h) (x_mi rfl) ?_;refine sp_panic (v:=.agg #[I 2]) (t:=128) rfl ?_;exact ⟨flt,rfl,rfl,H.pk []⟩
set_option maxRecDepth 100000 in
set_option maxHeartbeats 16000000 in
theorem Proves_bad {R:List Chunk} {C_s_Sections:Cells} {v_s_Sections:Value} {C_s_Marks:Cells} {v_s_Marks:Value} {C_s_Reaches:Cells} {v_s_Reaches:Value} {C_rows:Cells} {v_rows:Value} (s_Sections:List Sect) (s_Marks:List Mrk) (s_Reaches:List Rch) (many:Int) (rows:List (List Int)) (hC_s_Sections:Reads R C_s_Sections) (hs_s_Sections:Sl C_s_Sections v_s_Sections s_Sections) (hC_s_Marks:Reads R C_s_Marks) (hs_s_Marks:Sl C_s_Marks v_s_Marks s_Marks) (hC_s_Reaches:Reads R C_s_Reaches) (hs_s_Reaches:Sl C_s_Reaches v_s_Reaches s_Reaches) (hC_rows:Reads R C_rows) (hs_rows:Sl C_rows v_rows rows) (hO:(zah s_Sections s_Marks s_Reaches).Ends (.inr 0)) (h16:rows.length<=16) (k:Nat) (hk:k<rows.length)
    (hgood:∀ j,j<k->∀ met:List Bool,met.length=16->∃ r,(zbS s_Sections s_Marks s_Reaches (rows.getD j ([])) met).Ends r)
    (hbad:∃ r2,(M.opt (!(((rows.getD k ([])).length:Int)==0)) (zak (rows.getD k ([])) (fun xqz=>zat xqz s_Sections s_Marks s_Reaches)) false).Ends r2/\((((rows.getD k ([])).length:Int)==0)||(!r2))=true)
    (w:World) (H:St w w [] R):Ret Tryz.prog 26 #[.agg #[v_s_Sections,v_s_Marks,v_s_Reaches],I many,v_rows] w fun v w'=>v = .tuple #[B false,I 2]/\St w w' [] R:=by
 refine ret_of_WB Tryz.func26 rfl rfl rfl ?_;refine WB.seq ?_;refine W.region rfl ?_;refine t_box (v:=.agg #[v_s_Sections,v_s_Marks,v_s_Reaches]) (cs:=[v_s_Sections,v_s_Marks,v_s_Reaches]) H rfl rfl ?_;intro b_1 w1z H;refine t_alloc (cs:=[B false]) H Al4 rfl ?_;intro b_2 w2z H;refine t_alloc (cs:=[I 0]) H Al49 rfl ?_;intro b_3 w3z H;refine s_nil ?_;refine WB.seq ?_;refine W.region rfl ?_;refine s_val (x_ld (p:=Pq b_1) (v:=.agg #[v_s_Sections,v_s_Marks,v_s_Reaches]) rfl (ldb_ag (ds:=[v_s_Sections,v_s_Marks,v_s_Reaches]) Ag27 Sz27 (H.bl 2) rfl rfl)) ?_;refine s_call cf53 [.agg #[v_s_Sections,v_s_Marks,v_s_Reaches]] rfl (zaz s_Sections s_Marks s_Reaches (hC_s_Sections.app _) hs_s_Sections (hC_s_Marks.app _) hs_s_Marks (hC_s_Reaches.app _) hs_s_Reaches hO _ (H.gt 3)) ?_;rintro vq w6z (⟨r1,hr7z,hvq,H2_⟩ | ⟨r12,nb0_4,nb1_5,hr8z,hvq,H2_⟩)
 · cases hr7z
 obtain rfl:r12=0:=by cases hr8z; rfl
 subst vq;replace H:=H.bk H2_;clear H2_;refine zM (.tuple #[Pq nb0_4,I 0]) rfl ?_;refine zX [Pq nb0_4,I 0] (Pq nb0_4) rfl rfl ?_;refine zX [Pq nb0_4,I 0] (I 0) rfl rfl ?_;refine zA (Pq nb0_4) rfl ?_;refine t_sw 2 0 [I 0] (I 0) H rfl rfl Sz49 rfl rfl rfl rfl ?_;intro w22z H;refine s_nil ?_;refine WB.seq ?_;refine W.block ?_;refine W.seq ?_;refine W.region rfl ?_;refine s_val (x_ld (p:=Pq b_3) (v:=I 0) rfl (ldb_sc Sc49 (H.bl 2) rfl)) ?_;refine zC 0 0 (0 != 0) rfl rfl rfl ?_;refine zA (B (0 != 0)) rfl ?_;refine s_nil ?_;refine W.cond ((0:Int) != 0) rfl (fun c=>absurd c (by decide)) (fun _=>?_);refine W.seq ?_;refine W.region rfl ?_;refine zM v_rows rfl ?_;have hl24z:=(hs_rows).len_le;refine s_val (x_lenS T34.und rfl hs_rows) ?_;refine zC (rows.length:Int) 16 (decide (16<(rows.length:Int))) rfl rfl rfl ?_;refine zA (B (decide (16<(rows.length:Int)))) rfl ?_;refine s_nil ?_;refine W.cond (decide (16<(rows.length:Int))) rfl (fun c=>absurd (of_decide_eq_true c) (by omega)) (fun _=>?_);refine W.skip ?_;refine WB.deferP (d:=25) (v:=.func (.func 65) #[] #[Pq b_2,Pq b_3]) (fv:=.func 65) (cap:=#[Pq b_2,Pq b_3]) (f:=65) (args:=#[Pq b_2,Pq b_3]) rfl rfl rfl rfl rfl (fun _=>x_mf (fs:=[]) (cs:=[Pq b_2,Pq b_3]) rfl rfl) (x_defer rfl) (x_invoke cf65) ?_;refine W.seq ?_;refine W.region rfl ?_;refine t_alloc (cs:=encB (List.replicate 16 false)) H Al130 rfl ?_;intro b_6 w30z H;have hl_b_6:(List.replicate 16 false).length=16:=by simp
 refine s_nil ?_;refine W.seq ?_;refine W.region rfl ?_;refine zM v_rows rfl ?_;have hl31z:=(hs_rows).len_le;refine s_val (x_lenS T34.und rfl hs_rows) ?_;refine zM (I many) rfl ?_;refine zC (rows.length:Int) many (decide ((rows.length:Int)<=many)) rfl rfl rfl ?_;refine t_sw 4 0 [B (decide ((rows.length:Int)<=many))] (B (decide ((rows.length:Int)<=many))) H rfl rfl Sz4 rfl rfl rfl rfl ?_;intro w32z H;refine s_nil ?_;refine W.seq ?_;refine W.seq ?_;refine W.region rfl ?_;refine zM v_rows rfl ?_;have hl33z:=(hs_rows).len_le;refine s_val (x_lenS T34.und rfl hs_rows) ?_;refine zM (I 0) rfl ?_;refine s_nil ?_;refine W.block ?_;refine W.loop (fun m σ W=>∃ (s2:Bool) (ar:List Bool) (s3:Nat) (ρ:Env),σ=upds ρ [(3,Pq b_1),(6,Pq b_2),(7,Pq b_3),(8,Pq nb0_4),(9,Pq b_6),(30,v_rows),(31,I (rows.length:Int)),(32,I (s3:Int))]/\s3<=k/\m=k-s3/\St w W [cBlk b_6 (encB ar) 130,cBlk nb0_4 [v_s_Sections,v_s_Marks,v_s_Reaches,.map (some nb1_5)] 163,cMemI encSpt nb1_5 (zaa s_Sections s_Marks s_Reaches),cBlk b_3 [I 0] 49,cBlk b_2 [B s2] 4,cBlk b_1 [v_s_Sections,v_s_Marks,v_s_Reaches] 27] R/\ar.length=16) ?_ ?_
 ·exact ⟨_,decide ((rows.length:Int)<=many),List.replicate 16 false,0,_,upds_of _ _ ⟨rfl,rfl,rfl,rfl,rfl,rfl,rfl,rfl,trivial⟩,Nat.zero_le _,rfl,H,hl_b_6⟩
 ·rintro m39z σ w37z ⟨s2,ar,s3,ρ,rfl,hle,rfl,H,hl_ar⟩;refine W.seq ?_;refine W.region rfl ?_;refine zC (s3:Int) (rows.length:Int) (decide ((s3:Int)<(rows.length:Int))) rfl rfl rfl ?_;refine s_nil ?_;refine W.seq ?_;refine W.cond (decide ((s3:Int)<(rows.length:Int))) rfl (fun c44z=>?_) (fun c44z=>absurd (of_decide_eq_false c44z) (by omega));refine W.skip ?_;refine W.seq ?_;refine W.block ?_;refine W.seq ?_;refine W.region rfl ?_;refine s_val (x_ix (a:=v_rows) (b:=I (s3:Int)) (v:=vat v_rows 1 (Int.toNat (s3:Int))) rfl rfl (Sl.ix (α:=List Int) T34.und T34.size hs_rows (by omega) (by omega))) ?_;obtain ⟨u46z,ha_u46z,hs47z⟩:=List_at hs_rows (i:=(s3:Int)) (by omega) (by omega);replace hs47z:Sl _ u46z (rows.getD s3 ([])):=hs47z;have hl_hs47z:=hs47z.len_le;refine s_val (x_ld (p:=vat v_rows 1 (Int.toNat (s3:Int))) (v:=u46z) rfl (ld_sc Sc22 (At.mono (ha_u46z) (hC_rows.at H)))) ?_;refine zA u46z rfl ?_;refine s_nil ?_;refine W.seq ?_;by_cases e:s3=k
  · subst e;obtain ⟨r2,hx,hb⟩:=hbad;refine W.regionP rfl ?_;refine sp_val (fun _ h=>by cases h) (x_mv (v:=Pq nb0_4) rfl) ?_;refine sp_val (fun _ h=>by cases h) (x_mv (v:=u46z) rfl) ?_;refine sp_call cf66 [Pq nb0_4,u46z,Pq b_6] rfl (read_bad s_Sections s_Marks s_Reaches (rows.getD s3 ([])) ar (hC_s_Sections.app _) hs_s_Sections (hC_s_Marks.app _) hs_s_Marks (hC_s_Reaches.app _) hs_s_Reaches (Has.here (k:=0) rfl) (hC_rows.app _) hs47z hl_ar hx hb _ (H.gt 5)) ?_;rintro pv w50z ⟨rfl,H2_⟩;replace H:=H.back (A:=[]) H2_ rfl;replace H:=H.pk [2,3];refine ⟨flt,rfl,(catch_hit H).mono ?_⟩;rintro e u' w' ⟨he,hu,H⟩;have hb28z:=(H.bl 1)
    have hb29z:=(H.bl 0)
    exact ⟨he,hu,_,(resE_ofn (vs:=[B false,I 2]) rfl rfl (.cell (v:=B false) rfl (run_loadVar_sc Sc4 hb28z rfl)<|.cell (v:=I 2) rfl (run_loadVar_sc Sc49 hb29z rfl)<|.nil)),rfl,H.pk []⟩
  · obtain ⟨r49z,hx48z⟩:=hgood s3 (by omega) ar hl_ar;refine W.region rfl ?_;refine zM (Pq nb0_4) rfl ?_;refine zM u46z rfl ?_;refine s_call cf66 [Pq nb0_4,u46z,Pq b_6] rfl (zej s_Sections s_Marks s_Reaches (rows.getD s3 ([])) ar (hC_s_Sections.app _) hs_s_Sections (hC_s_Marks.app _) hs_s_Marks (hC_s_Reaches.app _) hs_s_Reaches (Has.here (k:=0) rfl) (hC_rows.app _) hs47z hl_ar hx48z _ (H.gt 5)) ?_;rintro vq w50z ⟨r2,q_b_met,hr51z,hvq,H2_,hf52z⟩;subst hr51z;subst vq;replace H:=H.bk H2_;clear H2_;refine s_val (x_not (b:=r2) rfl) ?_;refine s_nil ?_;refine W.cond (!r2) rfl (fun c53z=>?_) (fun c53z=>?_)
    · refine W.region rfl ?_;refine t_sw 4 0 [B false] (B false) H rfl rfl Sz4 rfl rfl rfl rfl ?_;intro w54z H;refine s_nil ?_;refine W.region rfl ?_;refine zR (s3:Int) 1 ((s3:Int)+1) rfl rfl rfl (by omega) ?_;refine zM (I ((s3:Int)+1)) rfl ?_;refine s_nil ?_;exact ⟨k-(s3+1),by omega,false,q_b_met,s3+1,_,upds_of _ _ ⟨rfl,rfl,rfl,rfl,rfl,rfl,rfl,rfl,trivial⟩,by omega,rfl,H,hf52z⟩
    · refine W.skip ?_;refine W.region rfl ?_;refine zR (s3:Int) 1 ((s3:Int)+1) rfl rfl rfl (by omega) ?_;refine zM (I ((s3:Int)+1)) rfl ?_;refine s_nil ?_;exact ⟨k-(s3+1),by omega,s2,q_b_met,s3+1,_,upds_of _ _ ⟨rfl,rfl,rfl,rfl,rfl,rfl,rfl,rfl,trivial⟩,by omega,rfl,H,hf52z⟩
end Go.Proofs.YtbldmjejckjflaaGreat
namespace Go.Nm
/-- A row that is no row of marks. -/
def badRow (n:Nat) (row:List Int):Bool:=(row.length==0)||row.any (fun k=>decide (k<0)||decide ((n:Int)<=k))
theorem first_bad (n:Nat):∀ rows:List (List Int),rows.any (badRow n)=true->∃ k,k<rows.length/\badRow n (rows.getD k [])=true/\∀ j,j<k->badRow n (rows.getD j [])=false
  | [],h=>by cases h
  | r :: rs,h=>by
    cases hb:badRow n r with
    | true=>exact ⟨0,by simp,hb,fun j hj=>by omega⟩
    | false =>
      rw [List.any_cons,hb,Bool.false_or] at h;obtain ⟨k,hk,h1,h2⟩:=first_bad n rs h;exact ⟨k+1,by simpa using hk,by simpa using h1,fun j hj=>by
        match j with
        | 0=>simpa using hb
        | j+1=>simpa using h2 j (by omega)⟩
theorem row_isRow {n:Nat} {row:List Int} (h:badRow n row=false):row ≠ []/\∀ k∈row,0<=k/\k<n:=by
  unfold badRow at h;rw [Bool.or_eq_false_iff,List.any_eq_false] at h;refine ⟨fun e=>by rw [e] at h; exact Bool.noConfusion h.1,fun k hk=>?_⟩;have:=h.2 k hk;rw [Bool.or_eq_true,decide_eq_true_eq,decide_eq_true_eq] at this;omega
end Go.Nm
namespace Go.Proofs.YtbldmjejckjflaaGreat
open Go Go.Nm
def zee (s_Sections:List Sect) (s_Marks:List Mrk) (s_Reaches:List Rch) (many:Int) (rows:List (List Int)):M (Bool × Int) :=
  M.bind (zah s_Sections s_Marks s_Reaches) fun x_=>match x_ with
  | .inl _=>zcO s_Sections s_Marks s_Reaches many rows
  | .inr _=>bif (decide (s_Marks.length<=16)&&decide (rows.length<=16))&&rows.any (badRow s_Marks.length) then M.pure (false,2) else zcO s_Sections s_Marks s_Reaches many rows
theorem opened_zero {S:List Sect} {M':List Mrk} {R':List Rch} {e:Int} (h:(zah S M' R').Ends (.inr e)):e=0:=by
  unfold zah at h;obtain ⟨c,_,h⟩:=M.e_bind h;cases hb:(c != 0) with
  | true =>
    have:=M.e_pure (M.e_t h hb);cases this
  | false =>
    have:=M.e_pure (M.e_f h hb);cases this;rfl
theorem bad_every {S:List Sect} {M':List Mrk} {R':List Rch} {row:List Int} (h:badRow M'.length row=true):∃ r2,(M.opt (!((row.length:Int)==0)) (zak row (fun xqz=>zat xqz S M' R')) false).Ends r2/\(((row.length:Int)==0)||(!r2))=true:=by
  unfold badRow at h;by_cases e:row.length=0
  · refine ⟨false,M.i_opt (fun q=>?_) (fun _=>rfl),by rw [Bool.not_false,Bool.or_true]⟩;rw [e] at q;exact absurd q (by decide)
  · have h:row.any (fun k=>decide (k<0)||decide ((M'.length:Int)<=k))=true:=by
      rw [Bool.or_eq_true] at h;rcases h with h | h
      · exact absurd (by simpa using h) e
      · exact h
    obtain ⟨r,h1,h2⟩:=every_all row (fun xqz=>zat xqz S M' R') (fun t=>decide (0<=t)&&decide (t<=(M'.length:Int)-1)) (fun t _=>by
      unfold zat zab;exact M.i_bind M.i_pure M.i_pure)
    have hr:r=false:=by
      cases r with
      | false=>rfl
      | true =>
        obtain ⟨t,ht,hb⟩:=List.any_eq_true.1 h;have:=h2.1 rfl t ht;rw [Bool.and_eq_true,decide_eq_true_eq,decide_eq_true_eq] at this;rw [Bool.or_eq_true,decide_eq_true_eq,decide_eq_true_eq] at hb;omega
    subst hr;exact ⟨false,M.i_opt (fun _=>h1) (fun _=>rfl),by rw [Bool.not_false,Bool.or_true]⟩
theorem zex {R:List Chunk} {C_s_Sections:Cells} {v_s_Sections:Value} {C_s_Marks:Cells} {v_s_Marks:Value} {C_s_Reaches:Cells} {v_s_Reaches:Value} {C_rows:Cells} {v_rows:Value} (s_Sections:List Sect) (s_Marks:List Mrk) (s_Reaches:List Rch) (many:Int) (rows:List (List Int)) (hC_s_Sections:Reads R C_s_Sections) (hs_s_Sections:Sl C_s_Sections v_s_Sections s_Sections) (hC_s_Marks:Reads R C_s_Marks) (hs_s_Marks:Sl C_s_Marks v_s_Marks s_Marks) (hC_s_Reaches:Reads R C_s_Reaches) (hs_s_Reaches:Sl C_s_Reaches v_s_Reaches s_Reaches) (hC_rows:Reads R C_rows) (hs_rows:Sl C_rows v_rows rows) {r:(Bool × Int)} (hM:(zee s_Sections s_Marks s_Reaches many rows).Ends r) (w:World) (H:St w w [] R):Ret Tryz.prog 26 #[.agg #[v_s_Sections,v_s_Marks,v_s_Reaches],I many,v_rows] w fun v w'=>∃ (y0:Bool) (y1:Int),(y0,y1)=r/\v = .tuple #[B y0,I y1]/\St w w' [] R:=by
  obtain ⟨x,hx,hM⟩:=M.e_bind hM
  match x,hx,hM with
  | .inl _,_,hM=>exact zc9 s_Sections s_Marks s_Reaches many rows hC_s_Sections hs_s_Sections hC_s_Marks hs_s_Marks hC_s_Reaches hs_s_Reaches hC_rows hs_rows hM w H
  | .inr e,hx,hM =>
    obtain rfl:=opened_zero hx;dsimp only at hM;cases hb:((decide (s_Marks.length<=16)&&decide (rows.length<=16))&&rows.any (badRow s_Marks.length)) with
    | false=>exact zc9 s_Sections s_Marks s_Reaches many rows hC_s_Sections hs_s_Sections hC_s_Marks hs_s_Marks hC_s_Reaches hs_s_Reaches hC_rows hs_rows (M.e_f hM hb) w H
    | true =>
      obtain rfl:=M.e_pure (M.e_t hM hb);rw [Bool.and_eq_true,Bool.and_eq_true,decide_eq_true_eq,decide_eq_true_eq] at hb;obtain ⟨k,hk,h1,h2⟩:=first_bad s_Marks.length rows hb.2;refine Ret.mono (Proves_bad s_Sections s_Marks s_Reaches many rows hC_s_Sections hs_s_Sections hC_s_Marks hs_s_Marks hC_s_Reaches hs_s_Reaches hC_rows hs_rows hx hb.1.2 k hk (fun j hj met hm=>?_) (bad_every h1) w H) ?_
      · have g:=row_isRow (h2 j hj);obtain ⟨r,hr,_⟩:=read_out (S:=s_Sections) (R':=s_Reaches) hb.1.1 g.1 g.2 hm;exact ⟨r,hr⟩
      · rintro v w' ⟨rfl,H'⟩;exact ⟨false,2,rfl,rfl,H'⟩
end Go.Proofs.YtbldmjejckjflaaGreat
namespace Go.Nm
open Go
section
variable {P:Program} {w:World} {σ:Env} {d:Nat} {ty:TypeId} {pos:String} {af:Array Edge} {g:Option (Nat × Bool)}
theorem x_shl {t yt:TypeId} {x y:Operand} {a b:Int} {n:Nat} (hx:ev σ x = .int .i64 a) (hy:ev σ y = .int .i64 b) (h:b=(n:Int)/\n<=62/\-9223372036854775808<=a*2 ^ n/\a*2 ^ n<=9223372036854775807) :
    (execOp (ev σ) ⟨some d,.binOp .shl t x y yt,ty,pos,af,g⟩).run P w = .ok (.value (.int .i64 (a*2 ^ n))) w:=by
  obtain ⟨rfl,h1,h2,h3⟩:=h;have hn:¬ ((n:Int)<0):=by omega
  have hm:min n IntKind.i64.bits=n:=Nat.min_eq_left (by show n<=64; omega);simp [execOp,hx,hy,eqGuard,binOp,Op.shift,hn,hm,wrap64 (a:=a*2 ^ n) ⟨h2,h3⟩]
theorem x_shr {t yt:TypeId} {x y:Operand} {a b:Int} {n:Nat} (hx:ev σ x = .int .i64 a) (hy:ev σ y = .int .i64 b) (h:b=(n:Int)/\n<=62) :
    (execOp (ev σ) ⟨some d,.binOp .shr t x y yt,ty,pos,af,g⟩).run P w = .ok (.value (.int .i64 (a / 2 ^ n))) w:=by
  obtain ⟨rfl,h1⟩:=h;have hn:¬ ((n:Int)<0):=by omega
  have hm:min n IntKind.i64.bits=n:=Nat.min_eq_left (by show n<=64; omega);have hf:a.fdiv (2 ^ n)=a / 2 ^ n:=Int.fdiv_eq_ediv_of_nonneg _ (Int.le_of_lt (Int.pow_pos (by decide)));simp [execOp,hx,hy,eqGuard,binOp,Op.shift,hn,hm,hf]
end
end Go.Nm
