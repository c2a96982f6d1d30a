/- Part 3 of the texts on which the proof rests. Conditions: none. -/
import Derived.Recover
import Derived.Tactics
import Derived.Tactics2
import Derived.Laws.Pointers
import Derived.KernelRfl
import Derived.Test.YtlemgioaakecpaaGreatZL2
set_option linter.unusedVariables false
set_option linter.unusedSimpArgs false
set_option linter.unusedSectionVars false
section
set_option maxRecDepth 100000
set_option maxHeartbeats 16000000
namespace Go.Proofs.YtlemgioaakecpaaGreat
open Go Go.Nm
def zbM (x:Mrk) (ab:Mrk->M Bool):M Bool :=
  M.bind (ab x) fun r2 =>
  M.pure (!r2)
theorem zeC {R:List Chunk} {ac:Nat} {ab:Value} (x:Mrk) (ae:Mrk->M Bool) (ag:FnM Tryz.prog R ab ae) (ai:Has R (cBlk ac [ab] 155)) {r:Bool} (hM:(zbM x ae).Ends r) (w:World) (H:St w w [] R):Ret Tryz.prog 112 #[.agg #[I x.place,I x.lo,I x.hi],Pq ac] w fun v w'=>∃ (y0:Bool),y0=r/\v=B y0/\St w w' [] R:=by
 refine ret_of_W Tryz.func112 rfl rfl rfl<|W.seq<|W.region rfl ?_;refine t_bx [I x.place,I x.lo,I x.hi] H rfl ?_;intro am ao H;refine zA (B false) rfl<|s_nil<|W.seq<|W.region rfl<|s_val (x_ld (v:=ab) rfl (ldb_sc Sc155 (ai.blk H) rfl))<|s_val (x_ld (v:=.agg #[I x.place,I x.lo,I x.hi]) rfl (ldb_ag (ds:=[I x.place,I x.lo,I x.hi]) Ag70 Sz70 (H.bl 0) rfl rfl)) ?_;obtain ⟨r2,aj,hM⟩:=M.e_bind hM;refine t_callM H ag rfl rfl x Reads.none ⟨_,rfl,rfl⟩ aj ?_;intro ap H;refine s_val (x_not (b:=r2) rfl)<|zA (B (!r2)) rfl<|s_nil ?_;refine W.ret ?_
 have ak:=M.e_pure hM
 exact ⟨_,resE_tmp rfl,⟨(!r2),ak,rfl,(H.pk [])⟩⟩

def zaU (l:List Mrk) (so:Mrk->M Bool):M Bool :=
  M.bind (zcw l (fun ab=>zbM ab so)) fun r2 =>
  M.pure (!r2)
theorem zez {R:List Chunk} {ai:Cells} {ab:Value} {ac:Value} (l:List Mrk) (so:Mrk->M Bool) (ao:Reads R ai) (ap:Sl ai ab l) (aj:FnM Tryz.prog R ac so) {r:Bool} (hM:(zaU l so).Ends r) (w:World) (H:St w w [] R):Ret Tryz.prog 77 #[ab,ac] w fun v w'=>∃ (y0:Bool),y0=r/\v=B y0/\St w w' [] R:=by
 refine ret_of_W Tryz.func77 rfl rfl rfl<|W.seq<|W.region rfl ?_;refine t_box (v:=ac) (cs:=[ac]) H rfl (FnM.cells aj) ?_;intro ae aC H;refine zA (B false) rfl<|s_nil<|W.seq<|W.region rfl<|zM ab rfl<|s_val (x_mf (fs:=[]) (cs:=[Pq ae]) rfl rfl) ?_;obtain ⟨aD,aq,hM⟩:=M.e_bind hM;refine s_call cf111 [ab,.func (.func 112) #[] #[Pq ae]] rfl (zeb l (fun ag=>zbM ag so) (ao.app _) ap ⟨112,[Pq ae],rfl,cf112,fun ak aE aF au ag aG av aH aw ax=>by obtain rfl:=Mrk_arg aw; exact (zeC ag so (FnM.app (aj.app _) _) (Has.app (Has.here (k:=0) rfl) _) ax ak (St.refl av)).mono fun au ak ⟨aI,ay,az,aA⟩=>by subst ay; exact ⟨az,aA⟩⟩ aq _ (H.gt 1)) ?_
 rintro vq aJ ⟨r2,rfl,hvq,am⟩
 subst vq;(try dsimp only at hM);replace H:=H.bk am;clear am;refine s_val (x_not (b:=r2) rfl)<|zA (B (!r2)) rfl<|s_nil ?_;refine W.ret ?_
 have aB:=M.e_pure hM
 exact ⟨_,resE_tmp rfl,⟨(!r2),aB,rfl,(H.pk [])⟩⟩

def zaA (s:Span) (ab greatest:Int):M Bool :=
  M.bind (zab s.lo ab greatest) fun r2 =>
  M.bind (M.opt r2 (zab s.hi s.lo greatest) false) fun r3 =>
  M.pure (r2&&r3)
theorem zdp {R:List Chunk}  (s:Span) (ab:Int) (greatest:Int)  {r:Bool} (hM:(zaA s ab greatest).Ends r) (w:World) (H:St w w [] R):Ret Tryz.prog 113 #[.agg #[I s.lo,I s.hi],I ab,I greatest] w fun v w'=>∃ (y0:Bool),y0=r/\v=B y0/\St w w' [] R:=by
 refine ret_of_W Tryz.func113 rfl rfl rfl<|W.seq<|W.region rfl ?_;refine t_bx [I s.lo,I s.hi] H rfl ?_;intro ac am H;refine zA (B false) rfl<|s_nil<|W.seq<|W.region rfl<|s_val (x_fa (v:=Pq ac) rfl (fa_blk (o:=0) Fd54_0 Sz3))<|s_val (x_ld (v:=I s.lo) rfl (ldb_sc Sc3 (H.bl 0) rfl))<|zM (I ab) rfl<|zM (I greatest) rfl ?_;obtain ⟨ao,ai,hM⟩:=M.e_bind hM;refine s_call cf70 [I s.lo,I ab,I greatest] rfl (zac s.lo ab greatest ai _ (H.gt 1)) ?_
 rintro vq ap ⟨r2,rfl,hvq,ag⟩
 subst vq;(try dsimp only at hM);replace H:=H.bk ag;clear ag;refine zM (B r2) rfl<|g_val r2 (gy_t rfl) (fun hg=>x_fa (v:=Oq ac 1) rfl (fa_blk (o:=0) Fd54_1 Sz3))<|g_val r2 (gy_t rfl) (fun hg=>x_ld (v:=I s.hi) (gd_of hg (Oq ac 1)) (ldb_sc Sc3 (H.bl 0) rfl))<|g_val r2 (gy_t rfl) (fun hg=>x_fa (v:=Pq ac) rfl (fa_blk (o:=0) Fd54_0 Sz3))<|g_val r2 (gy_t rfl) (fun hg=>x_ld (v:=I s.lo) (gd_of hg (Pq ac)) (ldb_sc Sc3 (H.bl 0) rfl))<|g_val r2 (gy_t rfl) (fun hg=>x_mv (v:=I greatest) rfl) ?_;obtain ⟨r3,aj,hM⟩:=M.e_bind hM;refine t_gcall r2 (gy_t rfl) cf70 (B r3) (fun _=>[I s.hi,I s.lo,I greatest]) (fun hg=>lst3 (gd_of hg (I s.hi)) (gd_of hg (I s.lo)) (gd_of hg (I greatest))) H (fun hg=>(zac s.hi s.lo greatest (M.e_opt aj hg) _ (H.give (A:=[]) rfl)).mono fun v_ w_ ⟨y_,ae,ak,H_⟩=>by subst ae; exact ⟨ak,H.via H_⟩) ?_;intro aq H;refine s_val (x_pand (b:=r2) (r:=r3) rfl (fun hb=>gd_of (c:=r2) (by first | exact hb | (rw [hb]; rfl) | simp_all) (B r3)) rfl)<|zA (B (r2&&r3)) rfl<|s_nil ?_;refine W.ret ?_
 have ae:=M.e_pure hM
 exact ⟨_,resE_tmp rfl,⟨(r2&&r3),ae,rfl,(H.pk [])⟩⟩

def zao (m_:Mrk):M Bool :=
  M.bind (zab m_.place 0 10000) fun r2 =>
  M.bind (M.opt r2 (zaA (⟨(m_.lo:Int),(m_.hi:Int)⟩:Span) 0 2000) false) fun r3 =>
  M.pure (r2&&r3)
theorem zdV {R:List Chunk}  (m_:Mrk)  {r:Bool} (hM:(zao m_).Ends r) (w:World) (H:St w w [] R):Ret Tryz.prog 78 #[.agg #[I m_.place,I m_.lo,I m_.hi]] w fun v w'=>∃ (y0:Bool),y0=r/\v=B y0/\St w w' [] R:=by
 refine ret_of_W Tryz.func78 rfl rfl rfl<|W.seq<|W.region rfl ?_;refine t_bx [I m_.place,I m_.lo,I m_.hi] H rfl ?_;intro ab ak H;refine zA (B false) rfl<|s_nil<|W.seq<|W.region rfl<|s_val (x_fa (v:=Pq ab) rfl (fa_blk (o:=0) Fd70_0 Sz3))<|s_val (x_ld (v:=I m_.place) rfl (ldb_sc Sc3 (H.bl 0) rfl)) ?_;obtain ⟨am,ag,hM⟩:=M.e_bind hM;refine s_call cf70 [I m_.place,I 0,I 10000] rfl (zac m_.place 0 10000 ag _ (H.gt 1)) ?_
 rintro vq ao ⟨r2,rfl,hvq,ae⟩
 subst vq;(try dsimp only at hM);replace H:=H.bk ae;clear ae;refine zM (B r2) rfl<|g_val r2 (gy_t rfl) (fun hg=>x_fa (v:=Oq ab 1) rfl (fa_blk (o:=0) Fd70_1 Sz54))<|g_val r2 (gy_t rfl) (fun hg=>x_ld (v:=.agg #[I m_.lo,I m_.hi]) (gd_of hg (Oq ab 1)) (ldb_ag (ds:=[I m_.lo,I m_.hi]) Ag54 Sz54 (H.bl 0) rfl rfl)) ?_;obtain ⟨r3,ai,hM⟩:=M.e_bind hM;refine t_gcall r2 (gy_t rfl) cf113 (B r3) (fun _=>[.agg #[I m_.lo,I m_.hi],I 0,I 2000]) (fun hg=>lst3 (gd_of hg (.agg #[I m_.lo,I m_.hi])) rfl rfl) H (fun hg=>(zdp (⟨(m_.lo:Int),(m_.hi:Int)⟩:Span) 0 2000 (M.e_opt ai hg) _ (H.give (A:=[]) rfl)).mono fun v_ w_ ⟨y_,ac,aj,H_⟩=>by subst ac; exact ⟨aj,H.via H_⟩) ?_;intro ap H;refine s_val (x_pand (b:=r2) (r:=r3) rfl (fun hb=>gd_of (c:=r2) (by first | exact hb | (rw [hb]; rfl) | simp_all) (B r3)) rfl)<|zA (B (r2&&r3)) rfl<|s_nil ?_;refine W.ret ?_
 have ac:=M.e_pure hM
 exact ⟨_,resE_tmp rfl,⟨(r2&&r3),ac,rfl,(H.pk [])⟩⟩

def zaw (s:List Rch) (f:Rch->M Bool):Nat->M (Nat ⊕ (Int ⊕ Unit)):=fun s2 =>
  bif decide ((s2:Int)<(s.length:Int)) then (
  M.grd (decide ((s2:Int)<(s.length:Int))) <|
  M.bind (f (s.getD s2 default)) fun r2 =>
  bif r2 then (
  M.pure (.inr (.inl (s2:Int))))
  else (
  M.pure (.inl (s2+1))))
  else (
  M.pure (.inr (.inr ())))
def zcz (s:List Rch) (f:Rch->M Bool):M Int :=
  M.bind (M.iter (zaw s f) 0) fun x_=>match x_ with
  | (.inl s3)=>(
  M.pure s3)
  | (.inr (_:Unit))=>(
  M.pure (-1))
theorem zd0 {R:List Chunk} {ao:Cells} {ac:Value} {ae:Value} (s:List Rch) (f:Rch->M Bool) (au:Reads R ao) (ag:Sl ao ac s) (av:FnM Tryz.prog R ae f) {r:Int} (hM:(zcz s f).Ends r) (w:World) (H:St w w [] R):Ret Tryz.prog 137 #[ac,ae] w fun v w'=>∃ (y0:Int),y0=r/\v=I y0/\St w w' [] R:=by
 refine ret_of_W Tryz.func137 rfl rfl rfl<|W.seq<|W.region rfl<|zA (I 0) rfl<|s_nil<|W.seq<|W.seq<|W.region rfl<|zM ac rfl ?_
 have aC:=(ag).len_le
 refine s_val (x_lenS T25.und rfl ag)<|zM (I 0) rfl<|s_nil<|W.block ?_;obtain ⟨aw,ai,ap⟩:=M.e_bind hM
 obtain ⟨aD,ai⟩:=M.e_iter ai
 refine W.loop (fun m σ W=>∃ (s2:Nat) (ρ:Env),σ=upds ρ [(0,ac),(1,ae),(7,I (s.length:Int)),(8,I (s2:Int))]/\M.iterN (zaw s f) m s2=some aw/\St w W [] R) ?_ ?_
 ·exact ⟨_,0,_,upds_of _ _ ⟨rfl,rfl,rfl,rfl,trivial⟩,ai,H⟩
 rintro aE σ aF ⟨s2,ρ,rfl,aq,H⟩
 obtain ⟨ax,ay,aG,hM,aj⟩:=M.e_iterN aq
 simp only [zaw] at hM
 clear aq;refine W.seq<|W.region rfl<|zC (s2:Int) (s.length:Int) (decide ((s2:Int)<(s.length:Int))) rfl rfl rfl<|s_nil<|W.seq ?_
 refine W.cond (decide ((s2:Int)<(s.length:Int))) rfl (fun ab=>?_) (fun ab=>?_)
 ·replace hM:=M.e_t hM ab
  replace ab:=dI ab
  refine W.skip<|W.seq<|W.block<|W.seq<|W.region rfl<|zM (I (s2:Int)) rfl<|zA (I (s2:Int)) rfl<|s_nil<|W.seq<|W.region rfl ?_;refine zM ae rfl<|zM ac rfl<|zM (I (s2:Int)) rfl ?_;obtain ⟨aH,hM⟩:=M.e_gd hM;refine s_val (x_ix (v:=vat ac 5 (Int.toNat (s2:Int))) rfl rfl (Sl.ix (α:=Rch) T25.und T25.size ag (by omega) (by omega)))<|s_val (x_ld (v:=.agg #[I ((s.getD s2 default).up),I ((s.getD s2 default).down),I ((s.getD s2 default).lo),I ((s.getD s2 default).hi),B ((s.getD s2 default).narrow)]) rfl (ld_ag Ag58 Sz58 (At.mono (Rch_atA ag (i:=(s2:Int)) (by omega) (by omega)) (au.at H)))) ?_;obtain ⟨r2,az,hM⟩:=M.e_bind hM;refine t_callM H av rfl rfl (s.getD s2 default) Reads.none ⟨_,rfl,rfl⟩ az ?_;intro aI H;refine s_nil ?_
  refine W.cond r2 rfl (fun ak=>?_) (fun ak=>?_)
  ·replace hM:=M.e_t hM ak;refine W.seq<|W.region rfl<|zM (I (s2:Int)) rfl<|zA (I (s2:Int)) rfl<|s_nil ?_;refine W.ret ?_
   have aA:=M.e_inr hM aj
   subst aA;replace hM:=ap;(try dsimp only at hM)
   have am:=M.e_pure hM
   exact ⟨_,resE_tmp rfl,⟨(s2:Int),am,rfl,H⟩⟩
  replace hM:=M.e_f hM ak;refine W.skip<|W.region rfl<|zR (s2:Int) 1 ((s2:Int)+1) rfl rfl rfl (by omega)<|zM (I ((s2:Int)+1)) rfl<|s_nil ?_
  exact ⟨ax,ay,s2+1,_,upds_of _ _ ⟨rfl,rfl,rfl,rfl,trivial⟩,M.e_inl hM aj,H⟩
 replace hM:=M.e_f hM ab
 replace ab:=dI ab
 refine W.exit ?_
 have aB:=M.e_inr hM aj
 subst aB;replace hM:=ap;(try dsimp only at hM);refine W.seq<|W.region rfl<|zA (I (-1)) rfl<|s_nil ?_;refine W.ret ?_
 have am:=M.e_pure hM
 exact ⟨_,resE_tmp rfl,⟨(-1),am,rfl,H⟩⟩

def zcd (s:List Rch) (f:Rch->M Bool):M Bool :=
  M.bind (zcz s f) fun r2 =>
  M.pure (decide (0<=r2))
theorem zdG {R:List Chunk} {ae:Cells} {ab:Value} {ac:Value} (s:List Rch) (f:Rch->M Bool) (ai:Reads R ae) (aj:Sl ae ab s) (ak:FnM Tryz.prog R ac f) {r:Bool} (hM:(zcd s f).Ends r) (w:World) (H:St w w [] R):Ret Tryz.prog 114 #[ab,ac] w fun v w'=>∃ (y0:Bool),y0=r/\v=B y0/\St w w' [] R:=by
 refine ret_of_W Tryz.func114 rfl rfl rfl<|W.seq<|W.region rfl<|zA (B false) rfl<|s_nil<|W.seq<|W.region rfl<|zM ab rfl<|zM ac rfl ?_;obtain ⟨ap,am,hM⟩:=M.e_bind hM;refine s_call cf137 [ab,ac] rfl (zd0 s f (ai.app _) aj (ak.app _) am _ (H.gt 0)) ?_
 rintro vq aq ⟨r2,rfl,hvq,ag⟩
 subst vq;(try dsimp only at hM);replace H:=H.bk ag;clear ag;refine zC r2 0 (decide (0<=r2)) rfl rfl rfl<|zA (B (decide (0<=r2))) rfl<|s_nil ?_;refine W.ret ?_
 have ao:=M.e_pure hM
 exact ⟨_,resE_tmp rfl,⟨(decide (0<=r2)),ao,rfl,H⟩⟩

def zbv (x:Rch) (ab:Rch->M Bool):M Bool :=
  M.bind (ab x) fun r2 =>
  M.pure (!r2)
theorem zd6 {R:List Chunk} {ac:Nat} {ab:Value} (x:Rch) (ae:Rch->M Bool) (ag:FnM Tryz.prog R ab ae) (ai:Has R (cBlk ac [ab] 143)) {r:Bool} (hM:(zbv x ae).Ends r) (w:World) (H:St w w [] R):Ret Tryz.prog 115 #[.agg #[I x.up,I x.down,I x.lo,I x.hi,B x.narrow],Pq ac] w fun v w'=>∃ (y0:Bool),y0=r/\v=B y0/\St w w' [] R:=by
 refine ret_of_W Tryz.func115 rfl rfl rfl<|W.seq<|W.region rfl ?_;refine t_bx [I x.up,I x.down,I x.lo,I x.hi,B x.narrow] H rfl ?_;intro am ao H;refine zA (B false) rfl<|s_nil<|W.seq<|W.region rfl<|s_val (x_ld (v:=ab) rfl (ldb_sc Sc143 (ai.blk H) rfl))<|s_val (x_ld (v:=.agg #[I x.up,I x.down,I x.lo,I x.hi,B x.narrow]) rfl (ldb_ag (ds:=[I x.up,I x.down,I x.lo,I x.hi,B x.narrow]) Ag58 Sz58 (H.bl 0) rfl rfl)) ?_;obtain ⟨r2,aj,hM⟩:=M.e_bind hM;refine t_callM H ag rfl rfl x Reads.none ⟨_,rfl,rfl⟩ aj ?_;intro ap H;refine s_val (x_not (b:=r2) rfl)<|zA (B (!r2)) rfl<|s_nil ?_;refine W.ret ?_
 have ak:=M.e_pure hM
 exact ⟨_,resE_tmp rfl,⟨(!r2),ak,rfl,(H.pk [])⟩⟩

def zaM (l:List Rch) (so:Rch->M Bool):M Bool :=
  M.bind (zcd l (fun ab=>zbv ab so)) fun r2 =>
  M.pure (!r2)
theorem zer {R:List Chunk} {ai:Cells} {ab:Value} {ac:Value} (l:List Rch) (so:Rch->M Bool) (ao:Reads R ai) (ap:Sl ai ab l) (aj:FnM Tryz.prog R ac so) {r:Bool} (hM:(zaM l so).Ends r) (w:World) (H:St w w [] R):Ret Tryz.prog 79 #[ab,ac] w fun v w'=>∃ (y0:Bool),y0=r/\v=B y0/\St w w' [] R:=by
 refine ret_of_W Tryz.func79 rfl rfl rfl<|W.seq<|W.region rfl ?_;refine t_box (v:=ac) (cs:=[ac]) H rfl (FnM.cells aj) ?_;intro ae aC H;refine zA (B false) rfl<|s_nil<|W.seq<|W.region rfl<|zM ab rfl<|s_val (x_mf (fs:=[]) (cs:=[Pq ae]) rfl rfl) ?_;obtain ⟨aD,aq,hM⟩:=M.e_bind hM;refine s_call cf114 [ab,.func (.func 115) #[] #[Pq ae]] rfl (zdG l (fun ag=>zbv ag so) (ao.app _) ap ⟨115,[Pq ae],rfl,cf115,fun ak aE aF au ag aG av aH aw ax=>by obtain rfl:=Rch_arg aw; exact (zd6 ag so (FnM.app (aj.app _) _) (Has.app (Has.here (k:=0) rfl) _) ax ak (St.refl av)).mono fun au ak ⟨aI,ay,az,aA⟩=>by subst ay; exact ⟨az,aA⟩⟩ aq _ (H.gt 1)) ?_
 rintro vq aJ ⟨r2,rfl,hvq,am⟩
 subst vq;(try dsimp only at hM);replace H:=H.bk am;clear am;refine s_val (x_not (b:=r2) rfl)<|zA (B (!r2)) rfl<|s_nil ?_;refine W.ret ?_
 have aB:=M.e_pure hM
 exact ⟨_,resE_tmp rfl,⟨(!r2),aB,rfl,(H.pk [])⟩⟩

def zaL (r_:Rch) (sections:Int):M Bool :=
  M.grd (decide ((-9223372036854775808:Int)<=(sections-1))&&decide ((sections-1)<=(9223372036854775807:Int))) <|
  M.bind (zab r_.up 0 (sections-1)) fun r2 =>
  M.grd ((!r2||(decide ((-9223372036854775808:Int)<=(r_.up+1))&&decide ((r_.up+1)<=(9223372036854775807:Int))))) <|
  M.bind (M.opt r2 (zab r_.down (r_.up+1) (sections-1)) false) fun r3 =>
  M.bind (M.opt (r2&&r3) (zaA (⟨(r_.lo:Int),(r_.hi:Int)⟩:Span) 1 400) false) fun r4 =>
  M.pure ((r2&&r3)&&r4)
theorem zd8 {R:List Chunk}  (r_:Rch) (sections:Int)  {r:Bool} (hM:(zaL r_ sections).Ends r) (w:World) (H:St w w [] R):Ret Tryz.prog 81 #[.agg #[I r_.up,I r_.down,I r_.lo,I r_.hi,B r_.narrow],I sections] w fun v w'=>∃ (y0:Bool),y0=r/\v=B y0/\St w w' [] R:=by
 refine ret_of_W Tryz.func81 rfl rfl rfl<|W.seq<|W.region rfl ?_;refine t_bx [I r_.up,I r_.down,I r_.lo,I r_.hi,B r_.narrow] H rfl ?_;intro ab aq H;refine zA (B false) rfl<|s_nil<|W.seq<|W.region rfl<|s_val (x_fa (v:=Pq ab) rfl (fa_blk (o:=0) Fd58_0 Sz3))<|s_val (x_ld (v:=I r_.up) rfl (ldb_sc Sc3 (H.bl 0) rfl))<|zM (I sections) rfl ?_;obtain ⟨au,hM⟩:=M.e_gd hM;refine zR sections 1 (sections-1) rfl rfl rfl (by omega) ?_;obtain ⟨av,am,hM⟩:=M.e_bind hM;refine s_call cf70 [I r_.up,I 0,I (sections-1)] rfl (zac r_.up 0 (sections-1) am _ (H.gt 1)) ?_
 rintro vq aw ⟨r2,rfl,hvq,ak⟩
 subst vq;(try dsimp only at hM);replace H:=H.bk ak;clear ak;refine zM (B r2) rfl<|g_val r2 (gy_t rfl) (fun hg=>x_fa (v:=Oq ab 1) rfl (fa_blk (o:=0) Fd58_1 Sz3))<|g_val r2 (gy_t rfl) (fun hg=>x_ld (v:=I r_.down) (gd_of hg (Oq ab 1)) (ldb_sc Sc3 (H.bl 0) rfl))<|g_val r2 (gy_t rfl) (fun hg=>x_fa (v:=Pq ab) rfl (fa_blk (o:=0) Fd58_0 Sz3))<|g_val r2 (gy_t rfl) (fun hg=>x_ld (v:=I r_.up) (gd_of hg (Pq ab)) (ldb_sc Sc3 (H.bl 0) rfl)) ?_;obtain ⟨ae,hM⟩:=M.e_grd hM
 replace ae:=M.imp_of ae
 simp only [Bool.and_eq_true,decide_eq_true_eq] at ae
 refine g_val r2 (gy_t rfl) (fun hg=>x_ari (r:=r_.up+1) (gd_of hg (I r_.up)) rfl rfl (by have ac:=ae.resolve_left (by rw [hg]; decide); first | exact ac | exact ac.1 | exact ac.2 | omega | (have ai:=hg; simp at ai; omega)))<|g_val r2 (gy_t rfl) (fun hg=>x_mv (v:=I sections) rfl)<|g_val r2 (gy_t rfl) (fun hg=>x_ari (r:=sections-1) (gd_of hg (I sections)) rfl rfl (by have ac:=ae.resolve_left (by rw [hg]; decide); first | exact ac | exact ac.1 | exact ac.2 | omega | (have ai:=hg; simp at ai; omega))) ?_;obtain ⟨r3,ao,hM⟩:=M.e_bind hM;refine t_gcall r2 (gy_t rfl) cf70 (B r3) (fun _=>[I r_.down,I (r_.up+1),I (sections-1)]) (fun hg=>lst3 (gd_of hg (I r_.down)) (gd_of hg (I (r_.up+1))) (gd_of hg (I (sections-1)))) H (fun hg=>(zac r_.down (r_.up+1) (sections-1) (M.e_opt ao hg) _ (H.give (A:=[]) rfl)).mono fun v_ w_ ⟨y_,ag,aj,H_⟩=>by subst ag; exact ⟨aj,H.via H_⟩) ?_;intro ax H;refine s_val (x_pand (b:=r2) (r:=r3) rfl (fun hb=>gd_of (c:=r2) (by first | exact hb | (rw [hb]; rfl) | simp_all) (B r3)) rfl)<|zM (B (r2&&r3)) rfl<|g_val (r2&&r3) (gy_t rfl) (fun hg=>x_fa (v:=Oq ab 2) rfl (fa_blk (o:=0) Fd58_2 Sz54))<|g_val (r2&&r3) (gy_t rfl) (fun hg=>x_ld (v:=.agg #[I r_.lo,I r_.hi]) (gd_of hg (Oq ab 2)) (ldb_ag (ds:=[I r_.lo,I r_.hi]) Ag54 Sz54 (H.bl 0) rfl rfl)) ?_;obtain ⟨r4,ap,hM⟩:=M.e_bind hM;refine t_gcall (r2&&r3) (gy_t rfl) cf113 (B r4) (fun _=>[.agg #[I r_.lo,I r_.hi],I 1,I 400]) (fun hg=>lst3 (gd_of hg (.agg #[I r_.lo,I r_.hi])) rfl rfl) H (fun hg=>(zdp (⟨(r_.lo:Int),(r_.hi:Int)⟩:Span) 1 400 (M.e_opt ap hg) _ (H.give (A:=[]) rfl)).mono fun v_ w_ ⟨y_,ag,aj,H_⟩=>by subst ag; exact ⟨aj,H.via H_⟩) ?_;intro ay H;refine s_val (x_pand (b:=(r2&&r3)) (r:=r4) rfl (fun hb=>gd_of (c:=(r2&&r3)) (by first | exact hb | (rw [hb]; rfl) | simp_all) (B r4)) rfl)<|zA (B ((r2&&r3)&&r4)) rfl<|s_nil ?_;refine W.ret ?_
 have ag:=M.e_pure hM
 exact ⟨_,resE_tmp rfl,⟨((r2&&r3)&&r4),ag,rfl,(H.pk [])⟩⟩

def zaN (r_:Rch) (ab:List Sect) (ac:List Mrk) (ae:List Rch):M Bool :=
  M.bind (zaL r_ (ab.length:Int)) fun r2 =>
  M.pure r2
theorem zek {R:List Chunk} {ac:Nat} {ag:Cells} {ae:Value} {ai:Cells} {aj:Value} {ak:Cells} {am:Value} (r_:Rch) (ab:List Sect) (ao:List Mrk) (ap:List Rch) (ay:Reads R ag) (aq:Sl ag ae ab) (az:Reads R ai) (aA:Sl ai aj ao) (aB:Reads R ak) (aC:Sl ak am ap) (av:Has R (cBlk ac [ae,aj,am] 27)) {r:Bool} (hM:(zaN r_ ab ao ap).Ends r) (w:World) (H:St w w [] R):Ret Tryz.prog 80 #[.agg #[I r_.up,I r_.down,I r_.lo,I r_.hi,B r_.narrow],Pq ac] w fun v w'=>∃ (y0:Bool),y0=r/\v=B y0/\St w w' [] R:=by
 refine ret_of_W Tryz.func80 rfl rfl rfl<|W.seq<|W.region rfl ?_;refine t_bx [I r_.up,I r_.down,I r_.lo,I r_.hi,B r_.narrow] H rfl ?_;intro aD aE H;refine zA (B false) rfl<|s_nil<|W.seq<|W.region rfl<|s_val (x_ld (v:=.agg #[I r_.up,I r_.down,I r_.lo,I r_.hi,B r_.narrow]) rfl (ldb_ag (ds:=[I r_.up,I r_.down,I r_.lo,I r_.hi,B r_.narrow]) Ag58 Sz58 (H.bl 0) rfl rfl))<|s_val (x_fa (v:=Pq ac) rfl (fa_blk (o:=0) Fd27_0 Sz23))<|s_val (x_ld (v:=ae) rfl (ldb_sc Sc23 (av.blk H) rfl)) ?_
 have aF:=(aq).len_le
 refine s_val (x_lenS T23.und rfl aq) ?_;obtain ⟨aG,aw,hM⟩:=M.e_bind hM;refine s_call cf81 [.agg #[I r_.up,I r_.down,I r_.lo,I r_.hi,B r_.narrow],I (ab.length:Int)] rfl (zd8 r_ (ab.length:Int) aw _ (H.gt 1)) ?_
 rintro vq aH ⟨r2,rfl,hvq,au⟩
 subst vq;(try dsimp only at hM);replace H:=H.bk au;clear au;refine zA (B r2) rfl<|s_nil ?_;refine W.ret ?_
 have ax:=M.e_pure hM
 exact ⟨_,resE_tmp rfl,⟨r2,ax,rfl,(H.pk [])⟩⟩

def zaC (s_Sections:List Sect):(Int × Nat)->M ((Int × Nat) ⊕ (Unit ⊕ Unit)):=fun (last,s2) =>
  bif decide ((s2:Int)<(s_Sections.length:Int)) then (
  M.grd (decide ((s2:Int)<(s_Sections.length:Int))) <|
  M.bind (za2 (s_Sections.getD s2 default)) fun r6 =>
  bif ((!r6)||(decide (((s_Sections.getD s2 default).place)<=last))) then (
  M.pure (.inr (.inl ())))
  else (
  M.pure (.inl ((s_Sections.getD s2 default).place,s2+1))))
  else (
  M.pure (.inr (.inr ())))
def zav (s_Sections:List Sect) (s_Marks:List Mrk) (s_Reaches:List Rch):M Int :=
  M.bind (zab (s_Sections.length:Int) 2 6) fun r2 =>
  M.bind (M.opt (!(!r2)) (zab (s_Marks.length:Int) 1 16) false) fun r3 =>
  M.bind (M.opt (!((!r2)||(!r3))) (zab (s_Reaches.length:Int) 1 6) false) fun r4 =>
  M.bind (M.opt (!(((!r2)||(!r3))||(!r4))) (za3 s_Sections (fun ab=>zaW ab)) false) fun r5 =>
  bif ((((!r2)||(!r3))||(!r4))||(!r5)) then (
  M.pure 3)
  else (
  M.bind (M.iter (zaC s_Sections) (-1,0)) fun x_=>match x_ with
  | (.inl (_:Unit))=>(
  M.pure 70)
  | (.inr (_:Unit))=>(
  M.bind (zaU s_Marks (fun ab=>zao ab)) fun r7 =>
  M.bind (M.opt (!(!r7)) (zaM s_Reaches (fun ab=>zaN ab s_Sections s_Marks s_Reaches)) false) fun r8 =>
  bif ((!r7)||(!r8)) then (
  M.pure 70)
  else (
  M.pure 0)))
theorem zdc {R:List Chunk} {aN:Cells} {ae:Value} {aO:Cells} {aj:Value} {aP:Cells} {ai:Value} (s_Sections:List Sect) (s_Marks:List Mrk) (s_Reaches:List Rch) (aD:Reads R aN) (ak:Sl aN ae s_Sections) (aQ:Reads R aO) (aE:Sl aO aj s_Marks) (aR:Reads R aP) (aF:Sl aP ai s_Reaches) {r:Int} (hM:(zav s_Sections s_Marks s_Reaches).Ends r) (w:World) (H:St w w [] R):Ret Tryz.prog 26 #[.agg #[ae,aj,ai]] w fun v w'=>∃ (y0:Int),y0=r/\v=I y0/\St w w' [] R:=by
 refine ret_of_W Tryz.func26 rfl rfl rfl<|W.seq<|W.region rfl ?_;refine t_bx [ae,aj,ai] H rfl ?_;intro ab bn H;refine zA (I 0) rfl<|s_nil<|W.seq<|W.region rfl<|zA (.func (.func 74) #[] #[]) rfl<|s_nil<|W.seq<|W.seq<|W.region rfl<|s_val (x_fa (v:=Pq ab) rfl (fa_blk (o:=0) Fd27_0 Sz23)) ?_;refine s_val (x_ld (v:=ae) rfl (ldb_sc Sc23 (H.bl 0) rfl)) ?_
 have bo:=(ak).len_le
 refine s_val (x_lenS T23.und rfl ak) ?_;obtain ⟨bp,aY,hM⟩:=M.e_bind hM;refine s_call cf70 [I (s_Sections.length:Int),I 2,I 6] rfl (zac (s_Sections.length:Int) 2 6 aY _ (H.gt 1)) ?_
 rintro vq bq ⟨r2,rfl,hvq,am⟩
 subst vq;(try dsimp only at hM);replace H:=H.bk am;clear am;refine s_val (x_not (b:=r2) rfl)<|zM (B (!r2)) rfl<|g_val (!(!r2)) (gy_f rfl) (fun hg=>x_fa (v:=Oq ab 1) rfl (fa_blk (o:=0) Fd27_1 Sz24))<|g_val (!(!r2)) (gy_f rfl) (fun hg=>x_ld (v:=aj) (gd_of hg (Oq ab 1)) (ldb_sc Sc24 (H.bl 0) rfl)) ?_
 have br:=(aE).len_le
 refine g_val (!(!r2)) (gy_f rfl) (fun hg=>x_lenS T24.und (gd_of hg (aj)) aE) ?_;obtain ⟨r3,aZ,hM⟩:=M.e_bind hM;refine t_gcall (!(!r2)) (gy_f rfl) cf70 (B r3) (fun _=>[I (s_Marks.length:Int),I 1,I 16]) (fun hg=>lst3 (gd_of hg (I (s_Marks.length:Int))) rfl rfl) H (fun hg=>(zac (s_Marks.length:Int) 1 16 (M.e_opt aZ hg) _ (H.give (A:=[]) rfl)).mono fun v_ w_ ⟨y_,ac,ap,H_⟩=>by subst ac; exact ⟨ap,H.via H_⟩) ?_;intro bt H;refine g_val (!(!r2)) (gy_f rfl) (fun hg=>x_not (b:=r3) (gd_of hg (B r3)))<|s_val (x_por (b:=!r2) (r:=!r3) rfl rfl (fun hb=>gd_of (c:=!(!r2)) (by first | exact hb | (rw [hb]; rfl) | simp_all) (B (!r3))))<|zM (B ((!r2)||(!r3))) rfl<|g_val (!((!r2)||(!r3))) (gy_f rfl) (fun hg=>x_fa (v:=Oq ab 2) rfl (fa_blk (o:=0) Fd27_2 Sz25))<|g_val (!((!r2)||(!r3))) (gy_f rfl) (fun hg=>x_ld (v:=ai) (gd_of hg (Oq ab 2)) (ldb_sc Sc25 (H.bl 0) rfl)) ?_
 have bu:=(aF).len_le
 refine g_val (!((!r2)||(!r3))) (gy_f rfl) (fun hg=>x_lenS T25.und (gd_of hg (ai)) aF) ?_;obtain ⟨r4,a6,hM⟩:=M.e_bind hM;refine t_gcall (!((!r2)||(!r3))) (gy_f rfl) cf70 (B r4) (fun _=>[I (s_Reaches.length:Int),I 1,I 6]) (fun hg=>lst3 (gd_of hg (I (s_Reaches.length:Int))) rfl rfl) H (fun hg=>(zac (s_Reaches.length:Int) 1 6 (M.e_opt a6 hg) _ (H.give (A:=[]) rfl)).mono fun v_ w_ ⟨y_,ac,ap,H_⟩=>by subst ac; exact ⟨ap,H.via H_⟩) ?_;intro bv H;refine g_val (!((!r2)||(!r3))) (gy_f rfl) (fun hg=>x_not (b:=r4) (gd_of hg (B r4)))<|s_val (x_por (b:=((!r2)||(!r3))) (r:=!r4) rfl rfl (fun hb=>gd_of (c:=!((!r2)||(!r3))) (by first | exact hb | (rw [hb]; rfl) | simp_all) (B (!r4))))<|zM (B (((!r2)||(!r3))||(!r4))) rfl<|g_val (!(((!r2)||(!r3))||(!r4))) (gy_f rfl) (fun hg=>x_fa (v:=Pq ab) rfl (fa_blk (o:=0) Fd27_0 Sz23))<|g_val (!(((!r2)||(!r3))||(!r4))) (gy_f rfl) (fun hg=>x_ld (v:=ae) (gd_of hg (Pq ab)) (ldb_sc Sc23 (H.bl 0) rfl))<|g_val (!(((!r2)||(!r3))||(!r4))) (gy_f rfl) (fun hg=>x_mv (v:=.func (.func 74) #[] #[]) rfl) ?_;obtain ⟨r5,a7,hM⟩:=M.e_bind hM;refine t_gcall (!(((!r2)||(!r3))||(!r4))) (gy_f rfl) cf75 (B r5) (fun _=>[ae,.func (.func 74) #[] #[]]) (fun hg=>lst2 (gd_of hg (ae)) (gd_of hg (.func (.func 74) #[] #[]))) H (fun hg=>(zeB s_Sections (fun ag=>zaW ag) (aD.app _) ak ⟨74,[],rfl,cf74,fun ao aS aT av ag aU aw aG ax ay=>by obtain ⟨bw,rfl,a8⟩:=Sect_arg ax; exact (zey ag aG a8 ay ao (St.refl aw)).mono fun av ao ⟨aV,az,aA,aB⟩=>by subst az; exact ⟨aA,aB⟩⟩ (M.e_opt a7 hg) _ (H.give (A:=[]) rfl)).mono fun v_ w_ ⟨y_,ac,ap,H_⟩=>by subst ac; exact ⟨ap,H.via H_⟩) ?_;intro bx H;refine g_val (!(((!r2)||(!r3))||(!r4))) (gy_f rfl) (fun hg=>x_not (b:=r5) (gd_of hg (B r5)))<|s_val (x_por (b:=(((!r2)||(!r3))||(!r4))) (r:=!r5) rfl rfl (fun hb=>gd_of (c:=!(((!r2)||(!r3))||(!r4))) (by first | exact hb | (rw [hb]; rfl) | simp_all) (B (!r5))))<|s_nil ?_
 refine W.cond ((((!r2)||(!r3))||(!r4))||(!r5)) rfl (fun aH=>?_) (fun aH=>?_)
 ·replace hM:=M.e_t hM aH;refine W.seq<|W.region rfl<|zA (I 3) rfl<|s_nil ?_;refine W.ret ?_
  have ac:=M.e_pure hM
  exact ⟨_,resE_tmp rfl,⟨3,ac,rfl,(H.pk [])⟩⟩
 replace hM:=M.e_f hM aH;refine W.skip<|W.seq<|W.region rfl<|zA (I (-1)) rfl<|s_nil<|W.seq<|W.seq<|W.region rfl<|s_val (x_fa (v:=Pq ab) rfl (fa_blk (o:=0) Fd27_0 Sz23))<|s_val (x_ld (v:=ae) rfl (ldb_sc Sc23 (H.bl 0) rfl)) ?_
 have bz:=(ak).len_le
 refine s_val (x_lenS T23.und rfl ak)<|zM (I 0) rfl<|s_nil<|W.block ?_;obtain ⟨ba,aI,aW⟩:=M.e_bind hM
 obtain ⟨bA,aI⟩:=M.e_iter aI
 refine W.loop (fun m σ W=>∃ (last:Int) (s2:Nat) (ρ:Env),σ=upds ρ [(1,Pq ab),(4,I last),(34,ae),(35,I (s_Sections.length:Int)),(36,I (s2:Int))]/\M.iterN (zaC s_Sections) m (last,s2)=some ba/\St w W [cBlk ab [ae,aj,ai] 27] R) ?_ ?_
 ·exact ⟨_,-1,0,_,upds_of _ _ ⟨rfl,rfl,rfl,rfl,rfl,trivial⟩,aI,H⟩
 rintro bB σ bC ⟨last,s2,ρ,rfl,aX,H⟩
 obtain ⟨bb,bc,bD,hM,aJ⟩:=M.e_iterN aX
 simp only [zaC] at hM
 clear aX;refine W.seq<|W.region rfl<|zC (s2:Int) (s_Sections.length:Int) (decide ((s2:Int)<(s_Sections.length:Int))) rfl rfl rfl<|s_nil<|W.seq ?_
 refine W.cond (decide ((s2:Int)<(s_Sections.length:Int))) rfl (fun aq=>?_) (fun aq=>?_)
 ·replace hM:=M.e_t hM aq
  replace aq:=dI aq
  refine W.skip<|W.seq<|W.block<|W.seq<|W.region rfl ?_;obtain ⟨bE,hM⟩:=M.e_gd hM;refine s_val (x_ix (v:=vat ae 2 (Int.toNat (s2:Int))) rfl rfl (Sl.ix (α:=Sect) T23.und T23.size ak (by omega) (by omega))) ?_
  obtain ⟨au,bf,aC⟩:=Sect_atA ak (i:=(s2:Int)) (by omega) (by omega)
  replace aC:Sl _ au (s_Sections.getD s2 default).rows:=aC
  have bF:=aC.len_le
  refine s_val (x_ld (v:=.agg #[I ((s_Sections.getD s2 default).place),au]) rfl (ld_ag Ag68 Sz68 (At.mono bf (aD.at H)))) ?_;refine t_alloc (cs:=[I 0,.slice none 0 0]) H Al68 rfl ?_;intro aK bG H;refine t_sw 0 0 [I ((s_Sections.getD s2 default).place),au] (.agg #[I ((s_Sections.getD s2 default).place),au]) H rfl rfl Sz68 rfl rfl rfl (by simp only [List.all_cons,List.all_nil,Bool.true_and,Bool.and_true,Sl.oc aC]; try rfl) ?_;intro bH H;refine s_nil<|W.seq<|W.seq<|W.region rfl<|s_val (x_ld (v:=.agg #[I ((s_Sections.getD s2 default).place),au]) rfl (ldb_ag (ds:=[I ((s_Sections.getD s2 default).place),au]) Ag68 Sz68 (H.bl 0) rfl rfl)) ?_;obtain ⟨bI,bg,hM⟩:=M.e_bind hM;refine s_call cf76 [.agg #[I ((s_Sections.getD s2 default).place),au]] rfl (zdX (s_Sections.getD s2 default) (aD.app _) aC bg _ (H.gt 2)) ?_
  rintro vq bJ ⟨r6,rfl,hvq,am⟩
  subst vq;(try dsimp only at hM);replace H:=H.bk am;clear am;refine s_val (x_not (b:=r6) rfl)<|zM (B (!r6)) rfl<|g_val (!(!r6)) (gy_f rfl) (fun hg=>x_fa (v:=Pq aK) rfl (fa_blk (o:=0) Fd68_0 Sz3))<|g_val (!(!r6)) (gy_f rfl) (fun hg=>x_ld (v:=I ((s_Sections.getD s2 default).place)) (gd_of hg (Pq aK)) (ldb_sc Sc3 (H.bl 0) rfl))<|g_val (!(!r6)) (gy_f rfl) (fun hg=>x_mv (v:=I last) rfl)<|g_val (!(!r6)) (gy_f rfl) (fun hg=>x_cmp (kd:=.i64) (r:=decide (((s_Sections.getD s2 default).place)<=last)) (gd_of hg (I ((s_Sections.getD s2 default).place))) (gd_of hg (I last)) rfl)<|s_val (x_por (b:=!r6) (r:=decide (((s_Sections.getD s2 default).place)<=last)) rfl rfl (fun hb=>gd_of (c:=!(!r6)) (by first | exact hb | (rw [hb]; rfl) | simp_all) (B (decide (((s_Sections.getD s2 default).place)<=last)))))<|s_nil ?_
  refine W.cond ((!r6)||(decide (((s_Sections.getD s2 default).place)<=last))) rfl (fun aL=>?_) (fun aL=>?_)
  ·replace hM:=M.e_t hM aL;refine W.seq<|W.region rfl<|zA (I 70) rfl<|s_nil ?_;refine W.ret ?_
   have bh:=M.e_inr hM aJ
   subst bh;replace hM:=aW;(try dsimp only at hM)
   have ac:=M.e_pure hM
   exact ⟨_,resE_tmp rfl,⟨70,ac,rfl,(H.pk [])⟩⟩
  replace hM:=M.e_f hM aL;refine W.skip<|W.region rfl<|s_val (x_fa (v:=Pq aK) rfl (fa_blk (o:=0) Fd68_0 Sz3))<|s_val (x_ld (v:=I ((s_Sections.getD s2 default).place)) rfl (ldb_sc Sc3 (H.bl 0) rfl))<|zA (I ((s_Sections.getD s2 default).place)) rfl<|s_nil<|W.region rfl<|zR (s2:Int) 1 ((s2:Int)+1) rfl rfl rfl (by omega)<|zM (I ((s2:Int)+1)) rfl<|s_nil ?_
  exact ⟨bb,bc,(s_Sections.getD s2 default).place,s2+1,_,upds_of _ _ ⟨rfl,rfl,rfl,rfl,rfl,trivial⟩,M.e_inl hM aJ,(H.pk [1])⟩
 replace hM:=M.e_f hM aq
 replace aq:=dI aq
 refine W.exit ?_
 have bi:=M.e_inr hM aJ
 subst bi;replace hM:=aW;(try dsimp only at hM);refine W.seq<|W.seq<|W.region rfl<|s_val (x_fa (v:=Oq ab 1) rfl (fa_blk (o:=0) Fd27_1 Sz24))<|s_val (x_ld (v:=aj) rfl (ldb_sc Sc24 (H.bl 0) rfl)) ?_;obtain ⟨bK,bj,hM⟩:=M.e_bind hM;refine s_call cf77 [aj,.func (.func 78) #[] #[]] rfl (zez s_Marks (fun ag=>zao ag) (aQ.app _) aE ⟨78,[],rfl,cf78,fun ao aS aT av ag aU aw aG ax ay=>by obtain rfl:=Mrk_arg ax; exact (zdV ag ay ao (St.refl aw)).mono fun av ao ⟨aV,az,aA,aB⟩=>by subst az; exact ⟨aA,aB⟩⟩ bj _ (H.gt 1)) ?_
 rintro vq bL ⟨r7,rfl,hvq,am⟩
 subst vq;(try dsimp only at hM);replace H:=H.bk am;clear am;refine s_val (x_not (b:=r7) rfl)<|zM (B (!r7)) rfl<|g_val (!(!r7)) (gy_f rfl) (fun hg=>x_fa (v:=Oq ab 2) rfl (fa_blk (o:=0) Fd27_2 Sz25))<|g_val (!(!r7)) (gy_f rfl) (fun hg=>x_ld (v:=ai) (gd_of hg (Oq ab 2)) (ldb_sc Sc25 (H.bl 0) rfl))<|g_val (!(!r7)) (gy_f rfl) (fun hg=>x_mf (fs:=[]) (cs:=[Pq ab]) rfl rfl) ?_;obtain ⟨r8,bm,hM⟩:=M.e_bind hM;refine t_gcall (!(!r7)) (gy_f rfl) cf79 (B r8) (fun _=>[ai,.func (.func 80) #[] #[Pq ab]]) (fun hg=>lst2 (gd_of hg (ai)) (gd_of hg (.func (.func 80) #[] #[Pq ab]))) H (fun hg=>(zer s_Reaches (fun ag=>zaN ag s_Sections s_Marks s_Reaches) (aR.app _) aF ⟨80,[Pq ab],rfl,cf80,fun ao aS aT av ag aU aw aG ax ay=>by obtain rfl:=Rch_arg ax; exact (zek ag s_Sections s_Marks s_Reaches (Reads.app (aD.app _) _) ak (Reads.app (aQ.app _) _) aE (Reads.app (aR.app _) _) aF (Has.app (Has.here (k:=0) rfl) _) ay ao (St.refl aw)).mono fun av ao ⟨aV,az,aA,aB⟩=>by subst az; exact ⟨aA,aB⟩⟩ (M.e_opt bm hg) _ (H.give (A:=[]) rfl)).mono fun v_ w_ ⟨y_,ac,ap,H_⟩=>by subst ac; exact ⟨ap,H.via H_⟩) ?_;intro bM H;refine g_val (!(!r7)) (gy_f rfl) (fun hg=>x_not (b:=r8) (gd_of hg (B r8)))<|s_val (x_por (b:=!r7) (r:=!r8) rfl rfl (fun hb=>gd_of (c:=!(!r7)) (by first | exact hb | (rw [hb]; rfl) | simp_all) (B (!r8))))<|s_nil ?_
 refine W.cond ((!r7)||(!r8)) rfl (fun aM=>?_) (fun aM=>?_)
 ·replace hM:=M.e_t hM aM;refine W.seq<|W.region rfl<|zA (I 70) rfl<|s_nil ?_;refine W.ret ?_
  have ac:=M.e_pure hM
  exact ⟨_,resE_tmp rfl,⟨70,ac,rfl,(H.pk [])⟩⟩
 replace hM:=M.e_f hM aM;refine W.skip<|W.seq<|W.region rfl<|zA (I 0) rfl<|s_nil ?_;refine W.ret ?_
 have ac:=M.e_pure hM
 exact ⟨_,resE_tmp rfl,⟨0,ac,rfl,(H.pk [])⟩⟩

def zah (s_Sections:List Sect) (s_Marks:List Mrk) (s_Reaches:List Rch):M (Int ⊕ Int) :=
  M.bind (zav s_Sections s_Marks s_Reaches) fun r2 =>
  bif r2 != 0 then (
  M.pure (.inl r2))
  else (
  M.pure (.inr 0))
theorem zbB {R:List Chunk} {ak:Cells} {ab:Value} {am:Cells} {ac:Value} {ao:Cells} {ae:Value} (s_Sections:List Sect) (s_Marks:List Mrk) (s_Reaches:List Rch) (aw:Reads R ak) (ax:Sl ak ab s_Sections) (ay:Reads R am) (az:Sl am ac s_Marks) (aA:Reads R ao) (aB:Sl ao ae s_Reaches) {r:(Int ⊕ Int)} (hM:(zah s_Sections s_Marks s_Reaches).Ends r) (w:World) (H:St w w [] R):Ret Tryz.prog 49 #[.agg #[ab,ac,ae]] w fun v w'=>(∃ (y0:Int),(.inl y0)=r/\v = .tuple #[.pointer none,I y0]/\St w w' [] R)∨(∃ (y0:Int) (ap:Nat) (aq:Nat),(.inr y0)=r/\v = .tuple #[Pq ap,I y0]/\St w w' [cBlk ap [ab,ac,ae,.map (some aq)] 177,cMemI encSpt aq (zaa s_Sections s_Marks s_Reaches)] R):=by
 refine ret_of_W Tryz.func49 rfl rfl rfl<|W.seq<|W.region rfl ?_;refine t_bx [ab,ac,ae] H rfl ?_;intro aD aE H;refine zA (.pointer none) rfl<|zA (I 0) rfl<|s_nil<|W.seq<|W.seq<|W.region rfl<|s_val (x_ld (v:=.agg #[ab,ac,ae]) rfl (ldb_ag (ds:=[ab,ac,ae]) Ag27 Sz27 (H.bl 0) rfl rfl)) ?_;obtain ⟨aF,aC,hM⟩:=M.e_bind hM;refine s_call cf26 [.agg #[ab,ac,ae]] rfl (zdc s_Sections s_Marks s_Reaches (aw.app _) ax (ay.app _) az (aA.app _) aB aC _ (H.gt 1)) ?_
 rintro vq aG ⟨r2,rfl,hvq,au⟩
 subst vq;(try dsimp only at hM);replace H:=H.bk au;clear au;refine zA (I r2) rfl<|s_nil<|W.seq<|W.region rfl<|zM (I r2) rfl<|zC r2 0 (r2 != 0) rfl rfl rfl<|s_nil ?_
 refine W.cond (r2 != 0) rfl (fun ag=>?_) (fun ag=>?_)
 ·replace hM:=M.e_t hM ag
  replace ag:=dI ag
  refine W.seq<|W.region rfl<|zM (I r2) rfl<|zA (.pointer none) rfl<|zA (I r2) rfl<|s_nil ?_;refine W.ret ?_
  have aj:=M.e_pure hM
  exact ⟨_,resE_tmp2 rfl,.inl (⟨r2,aj,rfl,(H.pk [])⟩)⟩
 replace hM:=M.e_f hM ag
 replace ag:=dI ag
 refine W.skip<|W.seq<|W.region rfl<|s_val (x_ld (v:=.agg #[ab,ac,ae]) rfl (ldb_ag (ds:=[ab,ac,ae]) Ag27 Sz27 (H.bl 0) rfl rfl)) ?_;refine t_mkmemI encSpt (zaa s_Sections s_Marks s_Reaches) H ?_;intro ai aH H;refine s_val (x_bld (ps:=[(0,.agg #[ab,ac,ae]),(1,.map (some ai))]) (zs:=[.slice none 0 0,.slice none 0 0,.slice none 0 0,.map none]) (L':=[ab,ac,ae,.map (some ai)]) rfl Tryz.underlying177 Al177 rfl (Bd177 Tryz.underlying177) (.cons (cs:=[ab,ac,ae]) rfl rfl rfl rfl rfl<|.cons (cs:=[.map (some ai)]) rfl rfl rfl rfl rfl<|.nil)) ?_;refine t_bx [ab,ac,ae,.map (some ai)] H rfl ?_;intro av aI H;refine zA (Pq av) rfl<|zA (I 0) rfl<|s_nil ?_;refine W.ret ?_
 have aj:=M.e_pure hM
 exact ⟨_,resE_tmp2 rfl,.inr (⟨0,av,ai,aj,rfl,(H.pk [0,1])⟩)⟩

def zbO (s_Marks:List Mrk) (marks:List Int):(Int × Int × Nat)->M ((Int × Int × Nat) ⊕ Int):=fun (e2,last,s2) =>
  bif decide ((s2:Int)<(marks.length:Int)) then (
  M.grd (decide ((s2:Int)<(marks.length:Int))) <|
  M.grd ((!(e2==0)||(decide ((-9223372036854775808:Int)<=(last+1))&&decide ((last+1)<=(9223372036854775807:Int))))) <|
  M.bind (M.opt (e2==0) (zab (marks.getD s2 0) (last+1) ((s_Marks.length:Int)-1)) false) fun r2 =>
  bif ((e2==0)&&(!r2)) then (
  M.pure (.inl (2,marks.getD s2 0,s2+1)))
  else (
  M.pure (.inl (e2,marks.getD s2 0,s2+1))))
  else (
  M.pure (.inr e2))
def zaG (s_Marks:List Mrk) (marks:List Int):(Int × Int × Nat)->M ((Int × Int × Nat) ⊕ Int):=fun (e2,last,s2) =>
  bif decide ((s2:Int)<(marks.length:Int)) then (
  M.grd (decide ((s2:Int)<(marks.length:Int))) <|
  M.grd ((!(e2==0)||(decide ((-9223372036854775808:Int)<=(last+1))&&decide ((last+1)<=(9223372036854775807:Int))))) <|
  M.bind (M.opt (e2==0) (zab (marks.getD s2 0) (last+1) ((s_Marks.length:Int)-1)) false) fun r2 =>
  bif ((e2==0)&&(!r2)) then (
  M.pure (.inl (2,marks.getD s2 0,s2+1)))
  else (
  M.pure (.inl (e2,marks.getD s2 0,s2+1))))
  else (
  M.pure (.inr e2))
def zar (s_Sections:List Sect) (s_Marks:List Mrk) (s_Reaches:List Rch) (marks:List Int):M (Int ⊕ Int) :=
  M.bind (zah s_Sections s_Marks s_Reaches) fun x_=>match x_ with
  | (.inl r1)=>(
  M.bind (M.iter (zbO s_Marks marks) (r1,-1,0)) fun e3 =>
  M.pure (.inl e3))
  | (.inr ab)=>(
  M.bind (M.iter (zaG s_Marks marks) (ab,-1,0)) fun e3 =>
  M.pure (.inr e3))
theorem zcM {R:List Chunk} {aI:Cells} {ae:Value} {aJ:Cells} {ac:Value} {aK:Cells} {ag:Value} {aL:Cells} {aj:Value} (s_Sections:List Sect) (s_Marks:List Mrk) (s_Reaches:List Rch) (marks:List Int) (aV:Reads R aI) (aW:Sl aI ae s_Sections) (aX:Reads R aJ) (aw:Sl aJ ac s_Marks) (aY:Reads R aK) (aZ:Sl aK ag s_Reaches) (aM:Reads R aL) (ak:Sl aL aj marks) {r:(Int ⊕ Int)} (hM:(zar s_Sections s_Marks s_Reaches marks).Ends r) (w:World) (H:St w w [] R):Ret Tryz.prog 57 #[.agg #[ae,ac,ag],aj] w fun v w'=>(∃ (y0:Int),(.inl y0)=r/\v = .tuple #[.pointer none,I y0]/\St w w' [] R)∨(∃ (y0:Int) (aN:Nat) (aO:Nat),(.inr y0)=r/\v = .tuple #[Pq aN,I y0]/\St w w' [cBlk aN [ae,ac,ag,.map (some aO)] 177,cMemI encSpt aO (zaa s_Sections s_Marks s_Reaches)] R):=by
 refine ret_of_W Tryz.func57 rfl rfl rfl<|W.seq<|W.region rfl ?_;refine t_bx [ae,ac,ag] H rfl ?_;intro am bn H;refine zA (.pointer none) rfl<|zA (I 0) rfl<|s_nil<|W.seq<|W.region rfl<|s_val (x_ld (v:=.agg #[ae,ac,ag]) rfl (ldb_ag (ds:=[ae,ac,ag]) Ag27 Sz27 (H.bl 0) rfl rfl)) ?_;obtain ⟨bo,a6,hM⟩:=M.e_bind hM;refine s_call cf49 [.agg #[ae,ac,ag]] rfl (zbB s_Sections s_Marks s_Reaches (aV.app _) aW (aX.app _) aw (aY.app _) aZ a6 _ (H.gt 1)) ?_
 rintro vq bp (⟨r1,a7,hvq,ax⟩ | ⟨av,ai,aA,a8,hvq,ax⟩)
 ·subst a7;subst vq;(try dsimp only at hM);replace H:=H.bk ax;clear ax;refine zM (.tuple #[.pointer none,I r1]) rfl<|zX [.pointer none,I r1] (.pointer none) rfl rfl<|zX [.pointer none,I r1] (I r1) rfl rfl<|zA (.pointer none) rfl<|zA (I r1) rfl<|s_nil<|W.seq<|W.region rfl<|zA (I (-1)) rfl<|s_nil ?_;refine W.seq<|W.seq<|W.region rfl<|zM aj rfl ?_
  have bq:=(ak).len_le
  refine s_val (x_lenS T28.und rfl ak)<|zM (I 0) rfl<|s_nil<|W.block ?_;obtain ⟨ba,aB,bb⟩:=M.e_bind hM
  obtain ⟨bc,aB⟩:=M.e_iter aB
  refine W.loop (fun m σ W=>∃ (e2:Int) (last:Int) (s2:Nat) (ρ:Env),σ=upds ρ [(2,Pq am),(6,.pointer none),(7,I e2),(8,I last),(16,aj),(17,I (marks.length:Int)),(18,I (s2:Int))]/\M.iterN (zbO s_Marks marks) m (e2,last,s2)=some ba/\St w W [cBlk am [ae,ac,ag] 27] R) ?_ ?_
  ·exact ⟨_,r1,-1,0,_,upds_of _ _ ⟨rfl,rfl,rfl,rfl,rfl,rfl,rfl,trivial⟩,aB,H⟩
  rintro br σ bt ⟨e2,last,s2,ρ,rfl,aP,H⟩
  obtain ⟨aQ,aR,bu,hM,aC⟩:=M.e_iterN aP
  simp only [zbO] at hM
  clear aP;refine W.seq<|W.region rfl<|zC (s2:Int) (marks.length:Int) (decide ((s2:Int)<(marks.length:Int))) rfl rfl rfl<|s_nil<|W.seq ?_
  refine W.cond (decide ((s2:Int)<(marks.length:Int))) rfl (fun ao=>?_) (fun ao=>?_)
  ·replace hM:=M.e_t hM ao
   replace ao:=dI ao
   refine W.skip<|W.seq<|W.block<|W.seq<|W.region rfl ?_;obtain ⟨bv,hM⟩:=M.e_gd hM;refine s_val (x_ix (v:=vat aj 1 (Int.toNat (s2:Int))) rfl rfl (Sl.ix (α:=Int) T28.und T28.size ak (by omega) (by omega)))<|s_val (x_ld (v:=I (marks.getD s2 0)) rfl (ld_sc Sc3 (At.mono (Int_at ak (i:=(s2:Int)) (by omega) (by omega)) (aM.at H))))<|zA (I (marks.getD s2 0)) rfl<|s_nil<|W.seq<|W.seq<|W.region rfl<|zM (I e2) rfl<|zC e2 0 (e2==0) rfl rfl rfl<|zM (B (e2==0)) rfl ?_;refine g_val (e2==0) (gy_t rfl) (fun hg=>x_mv (v:=I (marks.getD s2 0)) rfl)<|g_val (e2==0) (gy_t rfl) (fun hg=>x_mv (v:=I last) rfl) ?_;obtain ⟨ay,hM⟩:=M.e_grd hM
   replace ay:=M.imp_of ay
   simp only [Bool.and_eq_true,decide_eq_true_eq] at ay
   refine g_val (e2==0) (gy_t rfl) (fun hg=>x_ari (r:=last+1) (gd_of hg (I last)) rfl rfl (by have ab:=ay.resolve_left (by rw [hg]; decide); first | exact ab | exact ab.1 | exact ab.2 | omega | (have ap:=hg; simp at ap; omega)))<|g_val (e2==0) (gy_t rfl) (fun hg=>x_fa (v:=Oq am 1) rfl (fa_blk (o:=0) Fd27_1 Sz24))<|g_val (e2==0) (gy_t rfl) (fun hg=>x_ld (v:=ac) (gd_of hg (Oq am 1)) (ldb_sc Sc24 (H.bl 0) rfl)) ?_
   have bw:=(aw).len_le
   refine g_val (e2==0) (gy_t rfl) (fun hg=>x_lenS T24.und (gd_of hg (ac)) aw)<|g_val (e2==0) (gy_t rfl) (fun hg=>x_ari (r:=(s_Marks.length:Int)-1) (gd_of hg (I (s_Marks.length:Int))) rfl rfl (by have ab:=ay.resolve_left (by rw [hg]; decide); first | exact ab | exact ab.1 | exact ab.2 | omega | (have ap:=hg; simp at ap; omega))) ?_;obtain ⟨r2,bf,hM⟩:=M.e_bind hM;refine t_gcall (e2==0) (gy_t rfl) cf70 (B r2) (fun _=>[I (marks.getD s2 0),I (last+1),I ((s_Marks.length:Int)-1)]) (fun hg=>lst3 (gd_of hg (I (marks.getD s2 0))) (gd_of hg (I (last+1))) (gd_of hg (I ((s_Marks.length:Int)-1)))) H (fun hg=>(zac (marks.getD s2 0) (last+1) ((s_Marks.length:Int)-1) (M.e_opt bf hg) _ (H.give (A:=[]) rfl)).mono fun v_ w_ ⟨y_,aq,aD,H_⟩=>by subst aq; exact ⟨aD,H.via H_⟩) ?_;intro bx H;refine g_val (e2==0) (gy_t rfl) (fun hg=>x_not (b:=r2) (gd_of hg (B r2)))<|s_val (x_pand (b:=e2==0) (r:=!r2) rfl (fun hb=>gd_of (c:=e2==0) (by first | exact hb | (rw [hb]; rfl) | simp_all) (B (!r2))) rfl)<|s_nil ?_
   refine W.cond ((e2==0)&&(!r2)) rfl (fun aE=>?_) (fun aE=>?_)
   ·replace hM:=M.e_t hM aE;refine W.region rfl<|zA (I 2) rfl<|s_nil<|W.region rfl<|zM (I (marks.getD s2 0)) rfl<|zA (I (marks.getD s2 0)) rfl<|s_nil<|W.region rfl<|zR (s2:Int) 1 ((s2:Int)+1) rfl rfl rfl (by omega)<|zM (I ((s2:Int)+1)) rfl ?_;refine s_nil ?_
    exact ⟨aQ,aR,2,marks.getD s2 0,s2+1,_,upds_of _ _ ⟨rfl,rfl,rfl,rfl,rfl,rfl,rfl,trivial⟩,M.e_inl hM aC,H⟩
   replace hM:=M.e_f hM aE;refine W.skip<|W.region rfl<|zM (I (marks.getD s2 0)) rfl<|zA (I (marks.getD s2 0)) rfl<|s_nil<|W.region rfl<|zR (s2:Int) 1 ((s2:Int)+1) rfl rfl rfl (by omega)<|zM (I ((s2:Int)+1)) rfl<|s_nil ?_
   exact ⟨aQ,aR,e2,marks.getD s2 0,s2+1,_,upds_of _ _ ⟨rfl,rfl,rfl,rfl,rfl,rfl,rfl,trivial⟩,M.e_inl hM aC,H⟩
  replace hM:=M.e_f hM ao
  replace ao:=dI ao
  refine W.exit ?_
  have bg:=M.e_inr hM aC
  subst bg;replace hM:=bb;(try dsimp only at hM);refine W.seq<|W.region rfl<|zM (.pointer none) rfl<|zM (I e2) rfl<|zA (.pointer none) rfl<|zA (I e2) rfl<|s_nil ?_;refine W.ret ?_
  have aq:=M.e_pure hM
  exact ⟨_,resE_tmp2 rfl,.inl (⟨e2,aq,rfl,(H.pk [])⟩)⟩
 subst a8;subst vq;(try dsimp only at hM);replace H:=H.bk ax;clear ax;refine zM (.tuple #[Pq ai,I av]) rfl<|zX [Pq ai,I av] (Pq ai) rfl rfl<|zX [Pq ai,I av] (I av) rfl rfl<|zA (Pq ai) rfl<|zA (I av) rfl<|s_nil<|W.seq<|W.region rfl<|zA (I (-1)) rfl<|s_nil ?_;refine W.seq<|W.seq<|W.region rfl<|zM aj rfl ?_
 have bz:=(ak).len_le
 refine s_val (x_lenS T28.und rfl ak)<|zM (I 0) rfl<|s_nil<|W.block ?_;obtain ⟨bh,aF,bi⟩:=M.e_bind hM
 obtain ⟨bc,aF⟩:=M.e_iter aF
 refine W.loop (fun m σ W=>∃ (e2:Int) (last:Int) (s2:Nat) (ρ:Env),σ=upds ρ [(2,Pq am),(6,Pq ai),(7,I e2),(8,I last),(16,aj),(17,I (marks.length:Int)),(18,I (s2:Int))]/\M.iterN (zaG s_Marks marks) m (e2,last,s2)=some bh/\St w W [cBlk ai [ae,ac,ag,.map (some aA)] 177,cMemI encSpt aA (zaa s_Sections s_Marks s_Reaches),cBlk am [ae,ac,ag] 27] R) ?_ ?_
 ·exact ⟨_,av,-1,0,_,upds_of _ _ ⟨rfl,rfl,rfl,rfl,rfl,rfl,rfl,trivial⟩,aF,H⟩
 rintro bA σ bB ⟨e2,last,s2,ρ,rfl,aS,H⟩
 obtain ⟨aT,aU,bC,hM,aG⟩:=M.e_iterN aS
 simp only [zaG] at hM
 clear aS;refine W.seq<|W.region rfl<|zC (s2:Int) (marks.length:Int) (decide ((s2:Int)<(marks.length:Int))) rfl rfl rfl<|s_nil<|W.seq ?_
 refine W.cond (decide ((s2:Int)<(marks.length:Int))) rfl (fun au=>?_) (fun au=>?_)
 ·replace hM:=M.e_t hM au
  replace au:=dI au
  refine W.skip<|W.seq<|W.block<|W.seq<|W.region rfl ?_;obtain ⟨bD,hM⟩:=M.e_gd hM;refine s_val (x_ix (v:=vat aj 1 (Int.toNat (s2:Int))) rfl rfl (Sl.ix (α:=Int) T28.und T28.size ak (by omega) (by omega)))<|s_val (x_ld (v:=I (marks.getD s2 0)) rfl (ld_sc Sc3 (At.mono (Int_at ak (i:=(s2:Int)) (by omega) (by omega)) (aM.at H))))<|zA (I (marks.getD s2 0)) rfl<|s_nil<|W.seq<|W.seq<|W.region rfl<|zM (I e2) rfl<|zC e2 0 (e2==0) rfl rfl rfl<|zM (B (e2==0)) rfl ?_;refine g_val (e2==0) (gy_t rfl) (fun hg=>x_mv (v:=I (marks.getD s2 0)) rfl)<|g_val (e2==0) (gy_t rfl) (fun hg=>x_mv (v:=I last) rfl) ?_;obtain ⟨az,hM⟩:=M.e_grd hM
  replace az:=M.imp_of az
  simp only [Bool.and_eq_true,decide_eq_true_eq] at az
  refine g_val (e2==0) (gy_t rfl) (fun hg=>x_ari (r:=last+1) (gd_of hg (I last)) rfl rfl (by have ab:=az.resolve_left (by rw [hg]; decide); first | exact ab | exact ab.1 | exact ab.2 | omega | (have ap:=hg; simp at ap; omega)))<|g_val (e2==0) (gy_t rfl) (fun hg=>x_fa (v:=Oq am 1) rfl (fa_blk (o:=0) Fd27_1 Sz24))<|g_val (e2==0) (gy_t rfl) (fun hg=>x_ld (v:=ac) (gd_of hg (Oq am 1)) (ldb_sc Sc24 (H.bl 2) rfl)) ?_
  have bE:=(aw).len_le
  refine g_val (e2==0) (gy_t rfl) (fun hg=>x_lenS T24.und (gd_of hg (ac)) aw)<|g_val (e2==0) (gy_t rfl) (fun hg=>x_ari (r:=(s_Marks.length:Int)-1) (gd_of hg (I (s_Marks.length:Int))) rfl rfl (by have ab:=az.resolve_left (by rw [hg]; decide); first | exact ab | exact ab.1 | exact ab.2 | omega | (have ap:=hg; simp at ap; omega))) ?_;obtain ⟨r2,bj,hM⟩:=M.e_bind hM;refine t_gcall (e2==0) (gy_t rfl) cf70 (B r2) (fun _=>[I (marks.getD s2 0),I (last+1),I ((s_Marks.length:Int)-1)]) (fun hg=>lst3 (gd_of hg (I (marks.getD s2 0))) (gd_of hg (I (last+1))) (gd_of hg (I ((s_Marks.length:Int)-1)))) H (fun hg=>(zac (marks.getD s2 0) (last+1) ((s_Marks.length:Int)-1) (M.e_opt bj hg) _ (H.give (A:=[]) rfl)).mono fun v_ w_ ⟨y_,aq,aD,H_⟩=>by subst aq; exact ⟨aD,H.via H_⟩) ?_;intro bF H;refine g_val (e2==0) (gy_t rfl) (fun hg=>x_not (b:=r2) (gd_of hg (B r2)))<|s_val (x_pand (b:=e2==0) (r:=!r2) rfl (fun hb=>gd_of (c:=e2==0) (by first | exact hb | (rw [hb]; rfl) | simp_all) (B (!r2))) rfl)<|s_nil ?_
  refine W.cond ((e2==0)&&(!r2)) rfl (fun aH=>?_) (fun aH=>?_)
  ·replace hM:=M.e_t hM aH;refine W.region rfl<|zA (I 2) rfl<|s_nil<|W.region rfl<|zM (I (marks.getD s2 0)) rfl<|zA (I (marks.getD s2 0)) rfl<|s_nil<|W.region rfl<|zR (s2:Int) 1 ((s2:Int)+1) rfl rfl rfl (by omega)<|zM (I ((s2:Int)+1)) rfl ?_;refine s_nil ?_
   exact ⟨aT,aU,2,marks.getD s2 0,s2+1,_,upds_of _ _ ⟨rfl,rfl,rfl,rfl,rfl,rfl,rfl,trivial⟩,M.e_inl hM aG,H⟩
  replace hM:=M.e_f hM aH;refine W.skip<|W.region rfl<|zM (I (marks.getD s2 0)) rfl<|zA (I (marks.getD s2 0)) rfl<|s_nil<|W.region rfl<|zR (s2:Int) 1 ((s2:Int)+1) rfl rfl rfl (by omega)<|zM (I ((s2:Int)+1)) rfl<|s_nil ?_
  exact ⟨aT,aU,e2,marks.getD s2 0,s2+1,_,upds_of _ _ ⟨rfl,rfl,rfl,rfl,rfl,rfl,rfl,trivial⟩,M.e_inl hM aG,H⟩
 replace hM:=M.e_f hM au
 replace au:=dI au
 refine W.exit ?_
 have bm:=M.e_inr hM aG
 subst bm;replace hM:=bi;(try dsimp only at hM);refine W.seq<|W.region rfl<|zM (Pq ai) rfl<|zM (I e2) rfl<|zA (Pq ai) rfl<|zA (I e2) rfl<|s_nil ?_;refine W.ret ?_
 have aq:=M.e_pure hM
 exact ⟨_,resE_tmp2 rfl,.inr (⟨e2,ai,aA,aq,rfl,(H.pk [0,1])⟩)⟩

def zam (s_Sections:List Sect) (s_Marks:List Mrk) (s_Reaches:List Rch) (marks:List Int) (reach:Int):M ((Int × Int × Int × Int × Bool × Int) ⊕ (Int × Int × Int × Int × Bool × Int)) :=
  M.bind (zar s_Sections s_Marks s_Reaches marks) fun x_=>match x_ with
  | (.inl r1)=>(
  M.bind (M.opt (r1==0) (zab reach 0 ((s_Reaches.length:Int)-1)) false) fun r2 =>
  bif ((r1==0)&&(!r2)) then (
  M.pure (.inl (0,0,0,0,false,2)))
  else (
  bif r1 != 0 then (
  M.pure (.inl (0,0,0,0,false,r1)))
  else (
  M.grd (decide ((0:Int)<=reach)&&decide (reach<(s_Reaches.length:Int))) <|
  M.pure (.inl (((s_Reaches.getD (Int.toNat reach) default).up),((s_Reaches.getD (Int.toNat reach) default).down),((s_Reaches.getD (Int.toNat reach) default).lo),((s_Reaches.getD (Int.toNat reach) default).hi),((s_Reaches.getD (Int.toNat reach) default).narrow),0)))))
  | (.inr ab)=>(
  M.bind (M.opt (ab==0) (zab reach 0 ((s_Reaches.length:Int)-1)) false) fun r2 =>
  bif ((ab==0)&&(!r2)) then (
  M.pure (.inl (0,0,0,0,false,2)))
  else (
  bif ab != 0 then (
  M.pure (.inl (0,0,0,0,false,ab)))
  else (
  M.grd (decide ((0:Int)<=reach)&&decide (reach<(s_Reaches.length:Int))) <|
  M.pure (.inr (((s_Reaches.getD (Int.toNat reach) default).up),((s_Reaches.getD (Int.toNat reach) default).down),((s_Reaches.getD (Int.toNat reach) default).lo),((s_Reaches.getD (Int.toNat reach) default).hi),((s_Reaches.getD (Int.toNat reach) default).narrow),0)))))
theorem zda {R:List Chunk} {aB:Cells} {ai:Value} {aC:Cells} {aj:Value} {aD:Cells} {ac:Value} {aE:Cells} {av:Value} (s_Sections:List Sect) (s_Marks:List Mrk) (s_Reaches:List Rch) (marks:List Int) (reach:Int) (aJ:Reads R aB) (aK:Sl aB ai s_Sections) (aL:Reads R aC) (aM:Sl aC aj s_Marks) (aw:Reads R aD) (ak:Sl aD ac s_Reaches) (aN:Reads R aE) (aO:Sl aE av marks) {r:((Int × Int × Int × Int × Bool × Int) ⊕ (Int × Int × Int × Int × Bool × Int))} (hM:(zam s_Sections s_Marks s_Reaches marks reach).Ends r) (w:World) (H:St w w [] R):Ret Tryz.prog 65 #[.agg #[ai,aj,ac],av,I reach] w fun v w'=>(∃ (y0:Int) (y1:Int) (y2:Int) (y3:Int) (y4:Bool) (y5:Int),(.inl (y0,y1,y2,y3,y4,y5))=r/\v = .tuple #[.pointer none,.agg #[I y0,I y1,I y2,I y3,B y4],I y5]/\St w w' [] R)∨(∃ (y0:Int) (y1:Int) (y2:Int) (y3:Int) (y4:Bool) (y5:Int) (aF:Nat) (aG:Nat),(.inr (y0,y1,y2,y3,y4,y5))=r/\v = .tuple #[Pq aF,.agg #[I y0,I y1,I y2,I y3,B y4],I y5]/\St w w' [cBlk aF [ai,aj,ac,.map (some aG)] 177,cMemI encSpt aG (zaa s_Sections s_Marks s_Reaches)] R):=by
 refine ret_of_W Tryz.func65 rfl rfl rfl<|W.seq<|W.region rfl ?_;refine t_bx [ai,aj,ac] H rfl ?_;intro ao a6 H;refine zA (.pointer none) rfl ?_;refine t_alloc (cs:=[I 0,I 0,I 0,I 0,B false]) H Al58 rfl ?_;intro a7 a8 H;refine zA (I 0) rfl<|s_nil<|W.seq<|W.region rfl<|s_val (x_ld (v:=.agg #[ai,aj,ac]) rfl (ldb_ag (ds:=[ai,aj,ac]) Ag27 Sz27 (H.bl 1) rfl rfl))<|zM av rfl ?_;obtain ⟨ba,aP,hM⟩:=M.e_bind hM;refine s_call cf57 [.agg #[ai,aj,ac],av] rfl (zcM s_Sections s_Marks s_Reaches marks (aJ.app _) aK (aL.app _) aM (aw.app _) ak (aN.app _) aO aP _ (H.gt 2)) ?_
 rintro vq bb (⟨r1,aQ,hvq,au⟩ | ⟨ab,ag,ax,aR,hvq,au⟩)
 ·subst aQ;subst vq;(try dsimp only at hM);replace H:=H.bk au;clear au;refine zM (.tuple #[.pointer none,I r1]) rfl<|zX [.pointer none,I r1] (.pointer none) rfl rfl<|zX [.pointer none,I r1] (I r1) rfl rfl<|zA (.pointer none) rfl<|zA (I r1) rfl<|s_nil<|W.seq<|W.seq<|W.region rfl<|zM (I r1) rfl ?_;refine zC r1 0 (r1==0) rfl rfl rfl<|zM (B (r1==0)) rfl<|g_val (r1==0) (gy_t rfl) (fun hg=>x_mv (v:=I reach) rfl)<|g_val (r1==0) (gy_t rfl) (fun hg=>x_fa (v:=Oq ao 2) rfl (fa_blk (o:=0) Fd27_2 Sz25))<|g_val (r1==0) (gy_t rfl) (fun hg=>x_ld (v:=ac) (gd_of hg (Oq ao 2)) (ldb_sc Sc25 (H.bl 1) rfl)) ?_
  have bc:=(ak).len_le
  refine g_val (r1==0) (gy_t rfl) (fun hg=>x_lenS T25.und (gd_of hg (ac)) ak)<|g_val (r1==0) (gy_t rfl) (fun hg=>x_ari (r:=(s_Reaches.length:Int)-1) (gd_of hg (I (s_Reaches.length:Int))) rfl rfl (by first | omega | (have am:=hg; simp at am; omega))) ?_;obtain ⟨r2,aS,hM⟩:=M.e_bind hM;refine t_gcall (r1==0) (gy_t rfl) cf70 (B r2) (fun _=>[I reach,I 0,I ((s_Reaches.length:Int)-1)]) (fun hg=>lst3 (gd_of hg (I reach)) rfl (gd_of hg (I ((s_Reaches.length:Int)-1)))) H (fun hg=>(zac reach 0 ((s_Reaches.length:Int)-1) (M.e_opt aS hg) _ (H.give (A:=[]) rfl)).mono fun v_ w_ ⟨y_,ae,ay,H_⟩=>by subst ae; exact ⟨ay,H.via H_⟩) ?_;intro bf H;refine g_val (r1==0) (gy_t rfl) (fun hg=>x_not (b:=r2) (gd_of hg (B r2)))<|s_val (x_pand (b:=r1==0) (r:=!r2) rfl (fun hb=>gd_of (c:=r1==0) (by first | exact hb | (rw [hb]; rfl) | simp_all) (B (!r2))) rfl)<|s_nil ?_
  refine W.cond ((r1==0)&&(!r2)) rfl (fun az=>?_) (fun az=>?_)
  ·replace hM:=M.e_t hM az;refine W.region rfl<|zA (I 2) rfl<|s_nil<|W.seq<|W.seq<|W.region rfl<|zM (I 2) rfl<|zC 2 0 ((2:Int) != 0) rfl rfl rfl<|s_nil ?_
   refine W.cond ((2:Int) != 0) rfl (fun aH=>?_) (fun aH=>?_)
   ·skip
    refine W.seq<|W.region rfl<|s_val (x_bld (ps:=[]) (zs:=[I 0,I 0,I 0,I 0,B false]) (L':=[I 0,I 0,I 0,I 0,B false]) rfl Tryz.underlying58 Al58 rfl (Bd58 Tryz.underlying58) (.nil))<|zM (I 2) rfl<|zA (.pointer none) rfl ?_;refine t_sw 0 0 [I 0,I 0,I 0,I 0,B false] (.agg #[I 0,I 0,I 0,I 0,B false]) H rfl rfl Sz58 rfl rfl rfl rfl ?_;intro bg H;refine zA (I 2) rfl<|s_nil ?_;refine W.ret ?_
    have aT:=(H.bl 0)
    have ae:=M.e_pure hM
    exact ⟨_,(resE_ofn (vs:=[.pointer none,.agg #[I 0,I 0,I 0,I 0,B false],I 2]) rfl rfl (.tmp (v:=.pointer none) rfl<|.cell (v:=.agg #[I 0,I 0,I 0,I 0,B false]) rfl (run_loadVar_ag (ds:=[I 0,I 0,I 0,I 0,B false]) Ag58 Sz58 aT rfl rfl)<|.tmp (v:=I 2) rfl<|.nil)),.inl (⟨0,0,0,0,false,2,ae,rfl,(H.pk [])⟩)⟩
   skip
   exact absurd aH (by decide)
  replace hM:=M.e_f hM az;refine W.skip<|W.seq<|W.seq<|W.region rfl<|zM (I r1) rfl<|zC r1 0 (r1 != 0) rfl rfl rfl<|s_nil ?_
  refine W.cond (r1 != 0) rfl (fun ap=>?_) (fun ap=>?_)
  ·replace hM:=M.e_t hM ap
   replace ap:=dI ap
   refine W.seq<|W.region rfl<|s_val (x_bld (ps:=[]) (zs:=[I 0,I 0,I 0,I 0,B false]) (L':=[I 0,I 0,I 0,I 0,B false]) rfl Tryz.underlying58 Al58 rfl (Bd58 Tryz.underlying58) (.nil))<|zM (I r1) rfl<|zA (.pointer none) rfl ?_;refine t_sw 0 0 [I 0,I 0,I 0,I 0,B false] (.agg #[I 0,I 0,I 0,I 0,B false]) H rfl rfl Sz58 rfl rfl rfl rfl ?_;intro bh H;refine zA (I r1) rfl<|s_nil ?_;refine W.ret ?_
   have aU:=(H.bl 0)
   have ae:=M.e_pure hM
   exact ⟨_,(resE_ofn (vs:=[.pointer none,.agg #[I 0,I 0,I 0,I 0,B false],I r1]) rfl rfl (.tmp (v:=.pointer none) rfl<|.cell (v:=.agg #[I 0,I 0,I 0,I 0,B false]) rfl (run_loadVar_ag (ds:=[I 0,I 0,I 0,I 0,B false]) Ag58 Sz58 aU rfl rfl)<|.tmp (v:=I r1) rfl<|.nil)),.inl (⟨0,0,0,0,false,r1,ae,rfl,(H.pk [])⟩)⟩
  replace hM:=M.e_f hM ap
  replace ap:=dI ap
  refine W.skip<|W.seq ?_;refine W.draw (fun W=>St w W [cBlk ao [ai,aj,ac] 27] R) [(0,true),(1,true),(2,true),(3,true),(4,true),(5,true),(6,true),(7,false),(8,true)] mixed (by decide +kernel) rfl ?_;intro bi am;replace H:=H.ext am;clear am
  refine ⟨(H.pk [1]),?_⟩
  refine d_q rfl (fun w' H=>x_mv (v:=.pointer none) rfl)<|d_q rfl (fun w' H=>x_fa (v:=Oq ao 2) rfl (fa_blk (o:=0) Fd27_2 Sz25))<|d_q rfl (fun w' H=>x_ld (v:=ac) rfl (ldb_sc Sc25 (H.bl 0) rfl))<|d_q rfl (fun w' H=>x_mv (v:=I reach) rfl) ?_;obtain ⟨bj,hM⟩:=M.e_gd hM;refine d_q rfl (fun w' H=>x_ix (v:=vat ac 5 (Int.toNat reach)) rfl rfl (Sl.ix (α:=Rch) T25.und T25.size ak (by omega) (by omega)))<|d_q rfl (fun w' H=>x_ld (v:=.agg #[I ((s_Reaches.getD (Int.toNat reach) default).up),I ((s_Reaches.getD (Int.toNat reach) default).down),I ((s_Reaches.getD (Int.toNat reach) default).lo),I ((s_Reaches.getD (Int.toNat reach) default).hi),B ((s_Reaches.getD (Int.toNat reach) default).narrow)]) rfl (ld_ag Ag58 Sz58 (At.mono (Rch_atA ak (i:=reach) (by omega) (by omega)) (aw.at H))))<|d_q rfl (fun w' H=>x_as (v:=.pointer none) rfl)<|d_l rfl ?_;refine t_sw 0 0 [I ((s_Reaches.getD (Int.toNat reach) default).up),I ((s_Reaches.getD (Int.toNat reach) default).down),I ((s_Reaches.getD (Int.toNat reach) default).lo),I ((s_Reaches.getD (Int.toNat reach) default).hi),B ((s_Reaches.getD (Int.toNat reach) default).narrow)] (.agg #[I ((s_Reaches.getD (Int.toNat reach) default).up),I ((s_Reaches.getD (Int.toNat reach) default).down),I ((s_Reaches.getD (Int.toNat reach) default).lo),I ((s_Reaches.getD (Int.toNat reach) default).hi),B ((s_Reaches.getD (Int.toNat reach) default).narrow)]) H rfl rfl Sz58 rfl rfl rfl rfl ?_;intro bm H
  refine s_nil ⟨(H.pk [1]),?_⟩
  refine d_q rfl (fun w' H=>x_as (v:=I 0) rfl) ?_;refine d_nil ?_;refine W.ret ?_
  have aV:=(H.bl 0)
  have ae:=M.e_pure hM
  exact ⟨_,(resE_ofn (vs:=[.pointer none,.agg #[I ((s_Reaches.getD (Int.toNat reach) default).up),I ((s_Reaches.getD (Int.toNat reach) default).down),I ((s_Reaches.getD (Int.toNat reach) default).lo),I ((s_Reaches.getD (Int.toNat reach) default).hi),B ((s_Reaches.getD (Int.toNat reach) default).narrow)],I 0]) rfl rfl (.tmp (v:=.pointer none) rfl<|.cell (v:=.agg #[I ((s_Reaches.getD (Int.toNat reach) default).up),I ((s_Reaches.getD (Int.toNat reach) default).down),I ((s_Reaches.getD (Int.toNat reach) default).lo),I ((s_Reaches.getD (Int.toNat reach) default).hi),B ((s_Reaches.getD (Int.toNat reach) default).narrow)]) rfl (run_loadVar_ag (ds:=[I ((s_Reaches.getD (Int.toNat reach) default).up),I ((s_Reaches.getD (Int.toNat reach) default).down),I ((s_Reaches.getD (Int.toNat reach) default).lo),I ((s_Reaches.getD (Int.toNat reach) default).hi),B ((s_Reaches.getD (Int.toNat reach) default).narrow)]) Ag58 Sz58 aV rfl rfl)<|.tmp (v:=I 0) rfl<|.nil)),.inl (⟨((s_Reaches.getD (Int.toNat reach) default).up),((s_Reaches.getD (Int.toNat reach) default).down),((s_Reaches.getD (Int.toNat reach) default).lo),((s_Reaches.getD (Int.toNat reach) default).hi),((s_Reaches.getD (Int.toNat reach) default).narrow),0,ae,rfl,(H.pk [])⟩)⟩
 subst aR;subst vq;(try dsimp only at hM);replace H:=H.bk au;clear au;refine zM (.tuple #[Pq ag,I ab]) rfl<|zX [Pq ag,I ab] (Pq ag) rfl rfl<|zX [Pq ag,I ab] (I ab) rfl rfl<|zA (Pq ag) rfl<|zA (I ab) rfl<|s_nil<|W.seq<|W.seq<|W.region rfl<|zM (I ab) rfl ?_;refine zC ab 0 (ab==0) rfl rfl rfl<|zM (B (ab==0)) rfl<|g_val (ab==0) (gy_t rfl) (fun hg=>x_mv (v:=I reach) rfl)<|g_val (ab==0) (gy_t rfl) (fun hg=>x_fa (v:=Oq ao 2) rfl (fa_blk (o:=0) Fd27_2 Sz25))<|g_val (ab==0) (gy_t rfl) (fun hg=>x_ld (v:=ac) (gd_of hg (Oq ao 2)) (ldb_sc Sc25 (H.bl 3) rfl)) ?_
 have bn:=(ak).len_le
 refine g_val (ab==0) (gy_t rfl) (fun hg=>x_lenS T25.und (gd_of hg (ac)) ak)<|g_val (ab==0) (gy_t rfl) (fun hg=>x_ari (r:=(s_Reaches.length:Int)-1) (gd_of hg (I (s_Reaches.length:Int))) rfl rfl (by first | omega | (have am:=hg; simp at am; omega))) ?_;obtain ⟨r2,aW,hM⟩:=M.e_bind hM;refine t_gcall (ab==0) (gy_t rfl) cf70 (B r2) (fun _=>[I reach,I 0,I ((s_Reaches.length:Int)-1)]) (fun hg=>lst3 (gd_of hg (I reach)) rfl (gd_of hg (I ((s_Reaches.length:Int)-1)))) H (fun hg=>(zac reach 0 ((s_Reaches.length:Int)-1) (M.e_opt aW hg) _ (H.give (A:=[]) rfl)).mono fun v_ w_ ⟨y_,ae,ay,H_⟩=>by subst ae; exact ⟨ay,H.via H_⟩) ?_;intro bo H;refine g_val (ab==0) (gy_t rfl) (fun hg=>x_not (b:=r2) (gd_of hg (B r2)))<|s_val (x_pand (b:=ab==0) (r:=!r2) rfl (fun hb=>gd_of (c:=ab==0) (by first | exact hb | (rw [hb]; rfl) | simp_all) (B (!r2))) rfl)<|s_nil ?_
 refine W.cond ((ab==0)&&(!r2)) rfl (fun aA=>?_) (fun aA=>?_)
 ·replace hM:=M.e_t hM aA;refine W.region rfl<|zA (I 2) rfl<|s_nil<|W.seq<|W.seq<|W.region rfl<|zM (I 2) rfl<|zC 2 0 ((2:Int) != 0) rfl rfl rfl<|s_nil ?_
  refine W.cond ((2:Int) != 0) rfl (fun aI=>?_) (fun aI=>?_)
  ·skip
   refine W.seq<|W.region rfl<|s_val (x_bld (ps:=[]) (zs:=[I 0,I 0,I 0,I 0,B false]) (L':=[I 0,I 0,I 0,I 0,B false]) rfl Tryz.underlying58 Al58 rfl (Bd58 Tryz.underlying58) (.nil))<|zM (I 2) rfl<|zA (.pointer none) rfl ?_;refine t_sw 2 0 [I 0,I 0,I 0,I 0,B false] (.agg #[I 0,I 0,I 0,I 0,B false]) H rfl rfl Sz58 rfl rfl rfl rfl ?_;intro bp H;refine zA (I 2) rfl<|s_nil ?_;replace H:=H.pk [2];refine W.ret ?_
   have aX:=(H.bl 0)
   have ae:=M.e_pure hM
   exact ⟨_,(resE_ofn (vs:=[.pointer none,.agg #[I 0,I 0,I 0,I 0,B false],I 2]) rfl rfl (.tmp (v:=.pointer none) rfl<|.cell (v:=.agg #[I 0,I 0,I 0,I 0,B false]) rfl (run_loadVar_ag (ds:=[I 0,I 0,I 0,I 0,B false]) Ag58 Sz58 aX rfl rfl)<|.tmp (v:=I 2) rfl<|.nil)),.inl (⟨0,0,0,0,false,2,ae,rfl,(H.pk [])⟩)⟩
  skip
  exact absurd aI (by decide)
 replace hM:=M.e_f hM aA;refine W.skip<|W.seq<|W.seq<|W.region rfl<|zM (I ab) rfl<|zC ab 0 (ab != 0) rfl rfl rfl<|s_nil ?_
 refine W.cond (ab != 0) rfl (fun aq=>?_) (fun aq=>?_)
 ·replace hM:=M.e_t hM aq
  replace aq:=dI aq
  refine W.seq<|W.region rfl<|s_val (x_bld (ps:=[]) (zs:=[I 0,I 0,I 0,I 0,B false]) (L':=[I 0,I 0,I 0,I 0,B false]) rfl Tryz.underlying58 Al58 rfl (Bd58 Tryz.underlying58) (.nil))<|zM (I ab) rfl<|zA (.pointer none) rfl ?_;refine t_sw 2 0 [I 0,I 0,I 0,I 0,B false] (.agg #[I 0,I 0,I 0,I 0,B false]) H rfl rfl Sz58 rfl rfl rfl rfl ?_;intro bq H;refine zA (I ab) rfl<|s_nil ?_;replace H:=H.pk [2];refine W.ret ?_
  have aY:=(H.bl 0)
  have ae:=M.e_pure hM
  exact ⟨_,(resE_ofn (vs:=[.pointer none,.agg #[I 0,I 0,I 0,I 0,B false],I ab]) rfl rfl (.tmp (v:=.pointer none) rfl<|.cell (v:=.agg #[I 0,I 0,I 0,I 0,B false]) rfl (run_loadVar_ag (ds:=[I 0,I 0,I 0,I 0,B false]) Ag58 Sz58 aY rfl rfl)<|.tmp (v:=I ab) rfl<|.nil)),.inl (⟨0,0,0,0,false,ab,ae,rfl,(H.pk [])⟩)⟩
 replace hM:=M.e_f hM aq
 replace aq:=dI aq
 refine W.skip<|W.seq ?_;refine W.draw (fun W=>St w W [cBlk ag [ai,aj,ac,.map (some ax)] 177,cMemI encSpt ax (zaa s_Sections s_Marks s_Reaches),cBlk ao [ai,aj,ac] 27] R) [(0,true),(1,true),(2,true),(3,true),(4,true),(5,true),(6,true),(7,false),(8,true)] mixed (by decide +kernel) rfl ?_;intro br am;replace H:=H.ext am;clear am
 refine ⟨(H.pk [0,1,3]),?_⟩
 refine d_q rfl (fun w' H=>x_mv (v:=Pq ag) rfl)<|d_q rfl (fun w' H=>x_fa (v:=Oq ao 2) rfl (fa_blk (o:=0) Fd27_2 Sz25))<|d_q rfl (fun w' H=>x_ld (v:=ac) rfl (ldb_sc Sc25 (H.bl 2) rfl))<|d_q rfl (fun w' H=>x_mv (v:=I reach) rfl) ?_;obtain ⟨bt,hM⟩:=M.e_gd hM;refine d_q rfl (fun w' H=>x_ix (v:=vat ac 5 (Int.toNat reach)) rfl rfl (Sl.ix (α:=Rch) T25.und T25.size ak (by omega) (by omega)))<|d_q rfl (fun w' H=>x_ld (v:=.agg #[I ((s_Reaches.getD (Int.toNat reach) default).up),I ((s_Reaches.getD (Int.toNat reach) default).down),I ((s_Reaches.getD (Int.toNat reach) default).lo),I ((s_Reaches.getD (Int.toNat reach) default).hi),B ((s_Reaches.getD (Int.toNat reach) default).narrow)]) rfl (ld_ag Ag58 Sz58 (At.mono (Rch_atA ak (i:=reach) (by omega) (by omega)) (aw.at H))))<|d_q rfl (fun w' H=>x_as (v:=Pq ag) rfl)<|d_l rfl ?_;refine t_sw 2 0 [I ((s_Reaches.getD (Int.toNat reach) default).up),I ((s_Reaches.getD (Int.toNat reach) default).down),I ((s_Reaches.getD (Int.toNat reach) default).lo),I ((s_Reaches.getD (Int.toNat reach) default).hi),B ((s_Reaches.getD (Int.toNat reach) default).narrow)] (.agg #[I ((s_Reaches.getD (Int.toNat reach) default).up),I ((s_Reaches.getD (Int.toNat reach) default).down),I ((s_Reaches.getD (Int.toNat reach) default).lo),I ((s_Reaches.getD (Int.toNat reach) default).hi),B ((s_Reaches.getD (Int.toNat reach) default).narrow)]) H rfl rfl Sz58 rfl rfl rfl rfl ?_;intro bu H
 refine s_nil ⟨(H.pk [0,1,3]),?_⟩
 refine d_q rfl (fun w' H=>x_as (v:=I 0) rfl) ?_;refine d_nil ?_;refine W.ret ?_
 have aZ:=(H.bl 2)
 have ae:=M.e_pure hM
 exact ⟨_,(resE_ofn (vs:=[Pq ag,.agg #[I ((s_Reaches.getD (Int.toNat reach) default).up),I ((s_Reaches.getD (Int.toNat reach) default).down),I ((s_Reaches.getD (Int.toNat reach) default).lo),I ((s_Reaches.getD (Int.toNat reach) default).hi),B ((s_Reaches.getD (Int.toNat reach) default).narrow)],I 0]) rfl rfl (.tmp (v:=Pq ag) rfl<|.cell (v:=.agg #[I ((s_Reaches.getD (Int.toNat reach) default).up),I ((s_Reaches.getD (Int.toNat reach) default).down),I ((s_Reaches.getD (Int.toNat reach) default).lo),I ((s_Reaches.getD (Int.toNat reach) default).hi),B ((s_Reaches.getD (Int.toNat reach) default).narrow)]) rfl (run_loadVar_ag (ds:=[I ((s_Reaches.getD (Int.toNat reach) default).up),I ((s_Reaches.getD (Int.toNat reach) default).down),I ((s_Reaches.getD (Int.toNat reach) default).lo),I ((s_Reaches.getD (Int.toNat reach) default).hi),B ((s_Reaches.getD (Int.toNat reach) default).narrow)]) Ag58 Sz58 aZ rfl rfl)<|.tmp (v:=I 0) rfl<|.nil)),.inr (⟨((s_Reaches.getD (Int.toNat reach) default).up),((s_Reaches.getD (Int.toNat reach) default).down),((s_Reaches.getD (Int.toNat reach) default).lo),((s_Reaches.getD (Int.toNat reach) default).hi),((s_Reaches.getD (Int.toNat reach) default).narrow),0,ag,ax,ae,rfl,(H.pk [0,1])⟩)⟩

def zaJ (s:List Int) (f:Int->M Bool):Nat->M (Nat ⊕ (Int ⊕ Unit)):=fun s2 =>
  bif decide ((s2:Int)<(s.length:Int)) then (
  M.grd (decide ((s2:Int)<(s.length:Int))) <|
  M.bind (f (s.getD s2 0)) fun r2 =>
  bif r2 then (
  M.pure (.inr (.inl (s2:Int))))
  else (
  M.pure (.inl (s2+1))))
  else (
  M.pure (.inr (.inr ())))
def zcr (s:List Int) (f:Int->M Bool):M Int :=
  M.bind (M.iter (zaJ s f) 0) fun x_=>match x_ with
  | (.inl s3)=>(
  M.pure s3)
  | (.inr (_:Unit))=>(
  M.pure (-1))
theorem zev {R:List Chunk} {ao:Cells} {ac:Value} {ae:Value} (s:List Int) (f:Int->M Bool) (au:Reads R ao) (ag:Sl ao ac s) (av:FnM Tryz.prog R ae f) {r:Int} (hM:(zcr s f).Ends r) (w:World) (H:St w w [] R):Ret Tryz.prog 144 #[ac,ae] w fun v w'=>∃ (y0:Int),y0=r/\v=I y0/\St w w' [] R:=by
 refine ret_of_W Tryz.func144 rfl rfl rfl<|W.seq<|W.region rfl<|zA (I 0) rfl<|s_nil<|W.seq<|W.seq<|W.region rfl<|zM ac rfl ?_
 have aC:=(ag).len_le
 refine s_val (x_lenS T28.und rfl ag)<|zM (I 0) rfl<|s_nil<|W.block ?_;obtain ⟨aw,ai,ap⟩:=M.e_bind hM
 obtain ⟨aD,ai⟩:=M.e_iter ai
 refine W.loop (fun m σ W=>∃ (s2:Nat) (ρ:Env),σ=upds ρ [(0,ac),(1,ae),(7,I (s.length:Int)),(8,I (s2:Int))]/\M.iterN (zaJ s f) m s2=some aw/\St w W [] R) ?_ ?_
 ·exact ⟨_,0,_,upds_of _ _ ⟨rfl,rfl,rfl,rfl,trivial⟩,ai,H⟩
 rintro aE σ aF ⟨s2,ρ,rfl,aq,H⟩
 obtain ⟨ax,ay,aG,hM,aj⟩:=M.e_iterN aq
 simp only [zaJ] at hM
 clear aq;refine W.seq<|W.region rfl<|zC (s2:Int) (s.length:Int) (decide ((s2:Int)<(s.length:Int))) rfl rfl rfl<|s_nil<|W.seq ?_
 refine W.cond (decide ((s2:Int)<(s.length:Int))) rfl (fun ab=>?_) (fun ab=>?_)
 ·replace hM:=M.e_t hM ab
  replace ab:=dI ab
  refine W.skip<|W.seq<|W.block<|W.seq<|W.region rfl<|zM (I (s2:Int)) rfl<|zA (I (s2:Int)) rfl<|s_nil<|W.seq<|W.region rfl ?_;refine zM ae rfl<|zM ac rfl<|zM (I (s2:Int)) rfl ?_;obtain ⟨aH,hM⟩:=M.e_gd hM;refine s_val (x_ix (v:=vat ac 1 (Int.toNat (s2:Int))) rfl rfl (Sl.ix (α:=Int) T28.und T28.size ag (by omega) (by omega)))<|s_val (x_ld (v:=I (s.getD s2 0)) rfl (ld_sc Sc3 (At.mono (Int_at ag (i:=(s2:Int)) (by omega) (by omega)) (au.at H)))) ?_;obtain ⟨r2,az,hM⟩:=M.e_bind hM;refine t_callM H av rfl rfl (s.getD s2 0) Reads.none (Arg.mkI (fun _=>none) _) az ?_;intro aI H;refine s_nil ?_
  refine W.cond r2 rfl (fun ak=>?_) (fun ak=>?_)
  ·replace hM:=M.e_t hM ak;refine W.seq<|W.region rfl<|zM (I (s2:Int)) rfl<|zA (I (s2:Int)) rfl<|s_nil ?_;refine W.ret ?_
   have aA:=M.e_inr hM aj
   subst aA;replace hM:=ap;(try dsimp only at hM)
   have am:=M.e_pure hM
   exact ⟨_,resE_tmp rfl,⟨(s2:Int),am,rfl,H⟩⟩
  replace hM:=M.e_f hM ak;refine W.skip<|W.region rfl<|zR (s2:Int) 1 ((s2:Int)+1) rfl rfl rfl (by omega)<|zM (I ((s2:Int)+1)) rfl<|s_nil ?_
  exact ⟨ax,ay,s2+1,_,upds_of _ _ ⟨rfl,rfl,rfl,rfl,trivial⟩,M.e_inl hM aj,H⟩
 replace hM:=M.e_f hM ab
 replace ab:=dI ab
 refine W.exit ?_
 have aB:=M.e_inr hM aj
 subst aB;replace hM:=ap;(try dsimp only at hM);refine W.seq<|W.region rfl<|zA (I (-1)) rfl<|s_nil ?_;refine W.ret ?_
 have am:=M.e_pure hM
 exact ⟨_,resE_tmp rfl,⟨(-1),am,rfl,H⟩⟩

def zcF (s:List Int) (f:Int->M Bool):M Bool :=
  M.bind (zcr s f) fun r2 =>
  M.pure (decide (0<=r2))
theorem zef {R:List Chunk} {ae:Cells} {ab:Value} {ac:Value} (s:List Int) (f:Int->M Bool) (ai:Reads R ae) (aj:Sl ae ab s) (ak:FnM Tryz.prog R ac f) {r:Bool} (hM:(zcF s f).Ends r) (w:World) (H:St w w [] R):Ret Tryz.prog 132 #[ab,ac] w fun v w'=>∃ (y0:Bool),y0=r/\v=B y0/\St w w' [] R:=by
 refine ret_of_W Tryz.func132 rfl rfl rfl<|W.seq<|W.region rfl<|zA (B false) rfl<|s_nil<|W.seq<|W.region rfl<|zM ab rfl<|zM ac rfl ?_;obtain ⟨ap,am,hM⟩:=M.e_bind hM;refine s_call cf144 [ab,ac] rfl (zev s f (ai.app _) aj (ak.app _) am _ (H.gt 0)) ?_
 rintro vq aq ⟨r2,rfl,hvq,ag⟩
 subst vq;(try dsimp only at hM);replace H:=H.bk ag;clear ag;refine zC r2 0 (decide (0<=r2)) rfl rfl rfl<|zA (B (decide (0<=r2))) rfl<|s_nil ?_;refine W.ret ?_
 have ao:=M.e_pure hM
 exact ⟨_,resE_tmp rfl,⟨(decide (0<=r2)),ao,rfl,H⟩⟩

def zbw (x:Int) (ab:Int->M Bool):M Bool :=
  M.bind (ab x) fun r2 =>
  M.pure (!r2)
theorem zd5 {R:List Chunk} {ac:Nat} {ab:Value} (x:Int) (ae:Int->M Bool) (ag:FnM Tryz.prog R ab ae) (ai:Has R (cBlk ac [ab] 157)) {r:Bool} (hM:(zbw x ae).Ends r) (w:World) (H:St w w [] R):Ret Tryz.prog 133 #[I x,Pq ac] w fun v w'=>∃ (y0:Bool),y0=r/\v=B y0/\St w w' [] R:=by
 refine ret_of_W Tryz.func133 rfl rfl rfl<|W.seq<|W.region rfl<|zA (B false) rfl<|s_nil<|W.seq<|W.region rfl<|s_val (x_ld (v:=ab) rfl (ldb_sc Sc157 (ai.blk H) rfl))<|zM (I x) rfl ?_;obtain ⟨r2,aj,hM⟩:=M.e_bind hM;refine t_callM H ag rfl rfl x Reads.none (Arg.mkI (fun _=>none) _) aj ?_;intro am H;refine s_val (x_not (b:=r2) rfl)<|zA (B (!r2)) rfl<|s_nil ?_;refine W.ret ?_
 have ak:=M.e_pure hM
 exact ⟨_,resE_tmp rfl,⟨(!r2),ak,rfl,H⟩⟩

def zal (l:List Int) (so:Int->M Bool):M Bool :=
  M.bind (zcF l (fun ab=>zbw ab so)) fun r2 =>
  M.pure (!r2)
theorem zcp {R:List Chunk} {ai:Cells} {ab:Value} {ac:Value} (l:List Int) (so:Int->M Bool) (ao:Reads R ai) (ap:Sl ai ab l) (aj:FnM Tryz.prog R ac so) {r:Bool} (hM:(zal l so).Ends r) (w:World) (H:St w w [] R):Ret Tryz.prog 99 #[ab,ac] w fun v w'=>∃ (y0:Bool),y0=r/\v=B y0/\St w w' [] R:=by
 refine ret_of_W Tryz.func99 rfl rfl rfl<|W.seq<|W.region rfl ?_;refine t_box (v:=ac) (cs:=[ac]) H rfl (FnM.cells aj) ?_;intro ae aC H;refine zA (B false) rfl<|s_nil<|W.seq<|W.region rfl<|zM ab rfl<|s_val (x_mf (fs:=[]) (cs:=[Pq ae]) rfl rfl) ?_;obtain ⟨aD,aq,hM⟩:=M.e_bind hM;refine s_call cf132 [ab,.func (.func 133) #[] #[Pq ae]] rfl (zef l (fun ag=>zbw ag so) (ao.app _) ap ⟨133,[Pq ae],rfl,cf133,fun ak aE aF au ag aG av aH aw ax=>by obtain rfl:=Arg.int aw; exact (zd5 ag so (FnM.app (aj.app _) _) (Has.app (Has.here (k:=0) rfl) _) ax ak (St.refl av)).mono fun au ak ⟨aI,ay,az,aA⟩=>by subst ay; exact ⟨az,aA⟩⟩ aq _ (H.gt 1)) ?_
 rintro vq aJ ⟨r2,rfl,hvq,am⟩
 subst vq;(try dsimp only at hM);replace H:=H.bk am;clear am;refine s_val (x_not (b:=r2) rfl)<|zA (B (!r2)) rfl<|s_nil ?_;refine W.ret ?_
 have aB:=M.e_pure hM
 exact ⟨_,resE_tmp rfl,⟨(!r2),aB,rfl,(H.pk [])⟩⟩

def zaf (ac:List Sect) (ab:List Mrk) (ae:List Rch) (a b:Int):M Bool :=
  M.grd (decide ((0:Int)<=a)&&decide (a<(ab.length:Int))) <|
  M.grd (decide ((0:Int)<=b)&&decide (b<(ab.length:Int))) <|
  M.pure ((decide (((ab.getD (Int.toNat a) default).place)<=((ab.getD (Int.toNat b) default).place)))&&(decide (((ab.getD (Int.toNat a) default).hi)<((ab.getD (Int.toNat b) default).lo))))
theorem zaH {R:List Chunk} {ae:Nat} {am:Cells} {ao:Value} {ap:Cells} {ag:Value} {aq:Cells} {au:Value} {ax:Nat} (av:List Sect) (ab:List Mrk) (aw:List Rch) (a:Int) (b:Int) (az:Reads R am) (aA:Sl am ao av) (aj:Reads R ap) (ai:Sl ap ag ab) (aB:Reads R aq) (aC:Sl aq au aw) (ak:Has R (cBlk ae [ao,ag,au,.map (some ax)] 177)) {r:Bool} (hM:(zaf av ab aw a b).Ends r) (w:World) (H:St w w [] R):Ret Tryz.prog 51 #[Pq ae,I a,I b] w fun v w'=>∃ (y0:Bool),y0=r/\v=B y0/\St w w' [] R:=by
 refine ret_of_W Tryz.func51 rfl rfl rfl<|W.seq<|W.region rfl<|zA (B false) rfl<|s_nil<|W.seq ?_;refine W.draw (fun W=>St w W [] R) [(0,true),(1,true),(2,true),(3,true),(4,true),(5,true),(6,true),(7,true),(8,true),(9,true),(10,true),(11,true),(12,true),(13,true),(14,true),(15,true),(16,true),(17,true),(18,true),(19,true),(20,true),(21,true),(22,true),(23,true),(24,true),(25,true),(26,true),(27,true),(28,true),(29,true),(30,true),(31,true),(32,true),(33,true),(34,true),(35,true),(36,true),(37,true),(38,true),(39,true),(40,true),(41,true),(42,true)] mixed (by decide +kernel) rfl ?_;intro aD ac;replace H:=H.ext ac;clear ac
 refine ⟨(H.pk []),?_⟩
 refine d_q rfl (fun w' H=>x_mv (v:=Pq ae) rfl)<|d_q rfl (fun w' H=>x_nc (a:=⟨ae,0,none⟩) rfl)<|d_q rfl (fun w' H=>x_fa (v:=Pq ae) rfl (fa_blk (o:=0) Fd177_0 Sz27))<|d_q rfl (fun w' H=>x_fa (v:=Oq ae 1) rfl (fa_blk (o:=0) Fd27_1 Sz24))<|d_q rfl (fun w' H=>x_ld (v:=ag) rfl (ldb_sc Sc24 (ak.blk H) rfl))<|d_q rfl (fun w' H=>x_mv (v:=I a) rfl) ?_;obtain ⟨aE,hM⟩:=M.e_gd hM;refine d_q rfl (fun w' H=>x_ix (v:=vat ag 3 (Int.toNat a)) rfl rfl (Sl.ix (α:=Mrk) T24.und T24.size ai (by omega) (by omega)))<|d_q rfl (fun w' H=>x_fa (v:=fat (vat ag 3 (Int.toNat a)) 0) rfl (fa_pl Fd70_0 Sz3 (Sl.pl (i:=a) ai (by omega) (by omega))))<|d_q rfl (fun w' H=>x_ld (v:=I ((ab.getD (Int.toNat a) default).place)) rfl (ld_sc Sc3 (At.mono (Mrk_at0 ai (i:=a) (by omega) (by omega)) (aj.at H))))<|d_q rfl (fun w' H=>x_mv (v:=Pq ae) rfl)<|d_q rfl (fun w' H=>x_nc (a:=⟨ae,0,none⟩) rfl)<|d_q rfl (fun w' H=>x_fa (v:=Pq ae) rfl (fa_blk (o:=0) Fd177_0 Sz27))<|d_q rfl (fun w' H=>x_fa (v:=Oq ae 1) rfl (fa_blk (o:=0) Fd27_1 Sz24))<|d_q rfl (fun w' H=>x_ld (v:=ag) rfl (ldb_sc Sc24 (ak.blk H) rfl))<|d_q rfl (fun w' H=>x_mv (v:=I b) rfl) ?_;obtain ⟨aF,hM⟩:=M.e_gd hM;refine d_q rfl (fun w' H=>x_ix (v:=vat ag 3 (Int.toNat b)) rfl rfl (Sl.ix (α:=Mrk) T24.und T24.size ai (by omega) (by omega)))<|d_q rfl (fun w' H=>x_fa (v:=fat (vat ag 3 (Int.toNat b)) 0) rfl (fa_pl Fd70_0 Sz3 (Sl.pl (i:=b) ai (by omega) (by omega))))<|d_q rfl (fun w' H=>x_ld (v:=I ((ab.getD (Int.toNat b) default).place)) rfl (ld_sc Sc3 (At.mono (Mrk_at0 ai (i:=b) (by omega) (by omega)) (aj.at H))))<|d_q rfl (fun w' H=>x_cmp (kd:=.i64) (r:=decide (((ab.getD (Int.toNat a) default).place)<=((ab.getD (Int.toNat b) default).place))) rfl rfl rfl)<|d_q rfl (fun w' H=>x_mv (v:=B (decide (((ab.getD (Int.toNat a) default).place)<=((ab.getD (Int.toNat b) default).place)))) rfl)<|d_qg (decide (((ab.getD (Int.toNat a) default).place)<=((ab.getD (Int.toNat b) default).place))) rfl (gy_t rfl) (fun hg=>(fun w' H=>x_mv (v:=Pq ae) rfl))<|d_qg (decide (((ab.getD (Int.toNat a) default).place)<=((ab.getD (Int.toNat b) default).place))) rfl (gy_t rfl) (fun hg=>(fun w' H=>x_nc (a:=⟨ae,0,none⟩) (gd_of hg (Pq ae))))<|d_qg (decide (((ab.getD (Int.toNat a) default).place)<=((ab.getD (Int.toNat b) default).place))) rfl (gy_t rfl) (fun hg=>(fun w' H=>x_fa (v:=Pq ae) (gd_of hg (Pq ae)) (fa_blk (o:=0) Fd177_0 Sz27)))<|d_qg (decide (((ab.getD (Int.toNat a) default).place)<=((ab.getD (Int.toNat b) default).place))) rfl (gy_t rfl) (fun hg=>(fun w' H=>x_fa (v:=Oq ae 1) (gd_of hg (Pq ae)) (fa_blk (o:=0) Fd27_1 Sz24)))<|d_qg (decide (((ab.getD (Int.toNat a) default).place)<=((ab.getD (Int.toNat b) default).place))) rfl (gy_t rfl) (fun hg=>(fun w' H=>x_ld (v:=ag) (gd_of hg (Oq ae 1)) (ldb_sc Sc24 (ak.blk H) rfl))) ?_;refine d_qg (decide (((ab.getD (Int.toNat a) default).place)<=((ab.getD (Int.toNat b) default).place))) rfl (gy_t rfl) (fun hg=>(fun w' H=>x_mv (v:=I a) rfl))<|d_qg (decide (((ab.getD (Int.toNat a) default).place)<=((ab.getD (Int.toNat b) default).place))) rfl (gy_t rfl) (fun hg=>(fun w' H=>x_ix (v:=vat ag 3 (Int.toNat a)) (gd_of hg (ag)) (gd_of hg (I a)) (Sl.ix (α:=Mrk) T24.und T24.size ai (by first | omega | (have ac:=hg; simp at ac; omega)) (by first | omega | (have ac:=hg; simp at ac; omega)))))<|d_qg (decide (((ab.getD (Int.toNat a) default).place)<=((ab.getD (Int.toNat b) default).place))) rfl (gy_t rfl) (fun hg=>(fun w' H=>x_fa (v:=fat (vat ag 3 (Int.toNat a)) 1) (gd_of hg (vat ag 3 (Int.toNat a))) (fa_pl Fd70_1 Sz54 (Sl.pl (i:=a) ai (by first | omega | (have ac:=hg; simp at ac; omega)) (by first | omega | (have ac:=hg; simp at ac; omega))))))<|d_qg (decide (((ab.getD (Int.toNat a) default).place)<=((ab.getD (Int.toNat b) default).place))) rfl (gy_t rfl) (fun hg=>(fun w' H=>x_fa (v:=fat (vat ag 3 (Int.toNat a)) 2) (gd_of hg (fat (vat ag 3 (Int.toNat a)) 1)) (fa_pl2 (a:=1) (c:=2) Fd54_1 Sz3 (Sl.pl (i:=a) ai (by first | omega | (have ac:=hg; simp at ac; omega)) (by first | omega | (have ac:=hg; simp at ac; omega))) rfl)))<|d_qg (decide (((ab.getD (Int.toNat a) default).place)<=((ab.getD (Int.toNat b) default).place))) rfl (gy_t rfl) (fun hg=>(fun w' H=>x_ld (v:=I ((ab.getD (Int.toNat a) default).hi)) (gd_of hg (fat (vat ag 3 (Int.toNat a)) 2)) (ld_sc Sc3 (At.mono (Mrk_at2 ai (i:=a) (by first | omega | (have ac:=hg; simp at ac; omega)) (by first | omega | (have ac:=hg; simp at ac; omega))) (aj.at H)))))<|d_qg (decide (((ab.getD (Int.toNat a) default).place)<=((ab.getD (Int.toNat b) default).place))) rfl (gy_t rfl) (fun hg=>(fun w' H=>x_mv (v:=Pq ae) rfl))<|d_qg (decide (((ab.getD (Int.toNat a) default).place)<=((ab.getD (Int.toNat b) default).place))) rfl (gy_t rfl) (fun hg=>(fun w' H=>x_nc (a:=⟨ae,0,none⟩) (gd_of hg (Pq ae))))<|d_qg (decide (((ab.getD (Int.toNat a) default).place)<=((ab.getD (Int.toNat b) default).place))) rfl (gy_t rfl) (fun hg=>(fun w' H=>x_fa (v:=Pq ae) (gd_of hg (Pq ae)) (fa_blk (o:=0) Fd177_0 Sz27)))<|d_qg (decide (((ab.getD (Int.toNat a) default).place)<=((ab.getD (Int.toNat b) default).place))) rfl (gy_t rfl) (fun hg=>(fun w' H=>x_fa (v:=Oq ae 1) (gd_of hg (Pq ae)) (fa_blk (o:=0) Fd27_1 Sz24)))<|d_qg (decide (((ab.getD (Int.toNat a) default).place)<=((ab.getD (Int.toNat b) default).place))) rfl (gy_t rfl) (fun hg=>(fun w' H=>x_ld (v:=ag) (gd_of hg (Oq ae 1)) (ldb_sc Sc24 (ak.blk H) rfl))) ?_;refine d_qg (decide (((ab.getD (Int.toNat a) default).place)<=((ab.getD (Int.toNat b) default).place))) rfl (gy_t rfl) (fun hg=>(fun w' H=>x_mv (v:=I b) rfl))<|d_qg (decide (((ab.getD (Int.toNat a) default).place)<=((ab.getD (Int.toNat b) default).place))) rfl (gy_t rfl) (fun hg=>(fun w' H=>x_ix (v:=vat ag 3 (Int.toNat b)) (gd_of hg (ag)) (gd_of hg (I b)) (Sl.ix (α:=Mrk) T24.und T24.size ai (by first | omega | (have ac:=hg; simp at ac; omega)) (by first | omega | (have ac:=hg; simp at ac; omega)))))<|d_qg (decide (((ab.getD (Int.toNat a) default).place)<=((ab.getD (Int.toNat b) default).place))) rfl (gy_t rfl) (fun hg=>(fun w' H=>x_fa (v:=fat (vat ag 3 (Int.toNat b)) 1) (gd_of hg (vat ag 3 (Int.toNat b))) (fa_pl Fd70_1 Sz54 (Sl.pl (i:=b) ai (by first | omega | (have ac:=hg; simp at ac; omega)) (by first | omega | (have ac:=hg; simp at ac; omega))))))<|d_qg (decide (((ab.getD (Int.toNat a) default).place)<=((ab.getD (Int.toNat b) default).place))) rfl (gy_t rfl) (fun hg=>(fun w' H=>x_fa (v:=fat (vat ag 3 (Int.toNat b)) 1) (gd_of hg (fat (vat ag 3 (Int.toNat b)) 1)) (fa_pl2 (a:=1) (c:=1) Fd54_0 Sz3 (Sl.pl (i:=b) ai (by first | omega | (have ac:=hg; simp at ac; omega)) (by first | omega | (have ac:=hg; simp at ac; omega))) rfl)))<|d_qg (decide (((ab.getD (Int.toNat a) default).place)<=((ab.getD (Int.toNat b) default).place))) rfl (gy_t rfl) (fun hg=>(fun w' H=>x_ld (v:=I ((ab.getD (Int.toNat b) default).lo)) (gd_of hg (fat (vat ag 3 (Int.toNat b)) 1)) (ld_sc Sc3 (At.mono (Mrk_at1 ai (i:=b) (by first | omega | (have ac:=hg; simp at ac; omega)) (by first | omega | (have ac:=hg; simp at ac; omega))) (aj.at H)))))<|d_qg (decide (((ab.getD (Int.toNat a) default).place)<=((ab.getD (Int.toNat b) default).place))) rfl (gy_t rfl) (fun hg=>(fun w' H=>x_cmp (kd:=.i64) (r:=decide (((ab.getD (Int.toNat a) default).hi)<((ab.getD (Int.toNat b) default).lo))) (gd_of hg (I ((ab.getD (Int.toNat a) default).hi))) (gd_of hg (I ((ab.getD (Int.toNat b) default).lo))) rfl))<|d_q rfl (fun w' H=>x_pand (b:=decide (((ab.getD (Int.toNat a) default).place)<=((ab.getD (Int.toNat b) default).place))) (r:=decide (((ab.getD (Int.toNat a) default).hi)<((ab.getD (Int.toNat b) default).lo))) rfl (fun hb=>gd_of (c:=decide (((ab.getD (Int.toNat a) default).place)<=((ab.getD (Int.toNat b) default).place))) (by first | exact hb | (rw [hb]; rfl) | simp_all) (B (decide (((ab.getD (Int.toNat a) default).hi)<((ab.getD (Int.toNat b) default).lo))))) rfl)<|d_q rfl (fun w' H=>x_as (v:=B ((decide (((ab.getD (Int.toNat a) default).place)<=((ab.getD (Int.toNat b) default).place)))&&(decide (((ab.getD (Int.toNat a) default).hi)<((ab.getD (Int.toNat b) default).lo))))) rfl) ?_;refine d_nil ?_;refine W.ret ?_
 have ay:=M.e_pure hM
 exact ⟨_,resE_tmp rfl,⟨((decide (((ab.getD (Int.toNat a) default).place)<=((ab.getD (Int.toNat b) default).place)))&&(decide (((ab.getD (Int.toNat a) default).hi)<((ab.getD (Int.toNat b) default).lo)))),ay,rfl,H⟩⟩

def zaR (b:Int) (ab:List Sect) (ac:List Mrk) (ae:List Rch) (ag:Int):M Bool :=
  M.bind (zaf ab ac ae ag b) fun r2 =>
  M.pure (!r2)
theorem zdL {R:List Chunk} {aj:Nat} {ac:Nat} {ak:Cells} {am:Value} {ao:Cells} {ap:Value} {aq:Cells} {au:Value} {ax:Nat} {av:Nat} (b:Int) (ae:List Sect) (ag:List Mrk) (ai:List Rch) (ab:Int) (ay:Reads R ak) (az:Sl ak am ae) (aA:Reads R ao) (aB:Sl ao ap ag) (aC:Reads R aq) (aD:Sl aq au ai) (aE:Has R (cBlk ac [am,ap,au,.map (some ax)] 177)) (aF:Has R (cBlk aj [Pq ac] 112)) (aG:Has R (cBlk av [I ab] 3)) {r:Bool} (hM:(zaR b ae ag ai ab).Ends r) (w:World) (H:St w w [] R):Ret Tryz.prog 105 #[I b,Pq aj,Pq av] w fun v w'=>∃ (y0:Bool),y0=r/\v=B y0/\St w w' [] R:=by
 refine ret_of_W Tryz.func105 rfl rfl rfl<|W.seq<|W.region rfl<|zA (B false) rfl<|s_nil<|W.seq<|W.region rfl<|s_val (x_ld (v:=Pq ac) rfl (ldb_sc Sc112 (aF.blk H) rfl))<|s_val (x_ld (v:=I ab) rfl (ldb_sc Sc3 (aG.blk H) rfl))<|zM (I b) rfl ?_;obtain ⟨aJ,aH,hM⟩:=M.e_bind hM;refine s_call cf51 [Pq ac,I ab,I b] rfl (zaH ae ag ai ab b (ay.app _) az (aA.app _) aB (aC.app _) aD (aE.app _) aH _ (H.gt 0)) ?_
 rintro vq aK ⟨r2,rfl,hvq,aw⟩
 subst vq;(try dsimp only at hM);replace H:=H.bk aw;clear aw;refine s_val (x_not (b:=r2) rfl)<|zA (B (!r2)) rfl<|s_nil ?_;refine W.ret ?_
 have aI:=M.e_pure hM
 exact ⟨_,resE_tmp rfl,⟨(!r2),aI,rfl,H⟩⟩

def zaB (a:Int) (ab:List Int) (ac:List Sect) (ae:List Mrk) (ag:List Rch):M Bool :=
  M.bind (zal ab (fun ai=>zaR ai ac ae ag a)) fun r2 =>
  M.pure r2
theorem zeq {R:List Chunk} {ao:Nat} {ap:Cells} {ac:Value} {ab:Nat} {aq:Nat} {au:Cells} {av:Value} {aw:Cells} {ax:Value} {ay:Cells} {az:Value} {aC:Nat} (a:Int) (aj:List Int) (ae:List Sect) (ag:List Mrk) (ai:List Rch) (aD:Reads R ap) (aE:Sl ap ac aj) (aF:Has R (cBlk ao [ac] 28)) (aG:Reads R au) (aH:Sl au av ae) (aI:Reads R aw) (aJ:Sl aw ax ag) (aK:Reads R ay) (aL:Sl ay az ai) (aM:Has R (cBlk aq [av,ax,az,.map (some aC)] 177)) (aN:Has R (cBlk ab [Pq aq] 112)) {r:Bool} (hM:(zaB a aj ae ag ai).Ends r) (w:World) (H:St w w [] R):Ret Tryz.prog 104 #[I a,Pq ao,Pq ab] w fun v w'=>∃ (y0:Bool),y0=r/\v=B y0/\St w w' [] R:=by
 refine ret_of_W Tryz.func104 rfl rfl rfl<|W.seq<|W.region rfl ?_;refine t_b1 (I a) H rfl rfl ?_;intro ak aX H;refine zA (B false) rfl<|s_nil<|W.seq<|W.region rfl<|s_val (x_ld (v:=ac) rfl (ldb_sc Sc28 (aF.blk H) rfl))<|s_val (x_mf (fs:=[]) (cs:=[Pq ab,Pq ak]) rfl rfl) ?_;obtain ⟨aY,aO,hM⟩:=M.e_bind hM;refine s_call cf99 [ac,.func (.func 105) #[] #[Pq ab,Pq ak]] rfl (zcp aj (fun am=>zaR am ae ag ai a) (aD.app _) aE ⟨105,[Pq ab,Pq ak],rfl,cf105,fun aA aZ a6 aP am a7 aQ a8 aR aS=>by obtain rfl:=Arg.int aR; exact (zdL am ae ag ai a (Reads.app (aG.app _) _) aH (Reads.app (aI.app _) _) aJ (Reads.app (aK.app _) _) aL (Has.app (aM.app _) _) (Has.app (aN.app _) _) (Has.app (Has.here (k:=0) rfl) _) aS aA (St.refl aQ)).mono fun aP aA ⟨ba,aT,aU,aV⟩=>by subst aT; exact ⟨aU,aV⟩⟩ aO _ (H.gt 1)) ?_
 rintro vq bb ⟨r2,rfl,hvq,aB⟩
 subst vq;(try dsimp only at hM);replace H:=H.bk aB;clear aB;refine zA (B r2) rfl<|s_nil ?_;refine W.ret ?_
 have aW:=M.e_pure hM
 exact ⟨_,resE_tmp rfl,⟨r2,aW,rfl,(H.pk [])⟩⟩

def zai (ab:List Sect) (ac:List Mrk) (ae:List Rch) (marks:List Int):M Bool :=
  M.bind (zal marks (fun ag=>zaB ag marks ab ac ae)) fun r2 =>
  M.pure r2
theorem zbk {R:List Chunk} {ai:Nat} {ap:Cells} {aq:Value} {au:Cells} {av:Value} {aw:Cells} {ax:Value} {aC:Nat} {ay:Cells} {ab:Value} (ac:List Sect) (ae:List Mrk) (ag:List Rch) (marks:List Int) (aD:Reads R ap) (aE:Sl ap aq ac) (aF:Reads R au) (aG:Sl au av ae) (aH:Reads R aw) (aI:Sl aw ax ag) (aJ:Has R (cBlk ai [aq,av,ax,.map (some aC)] 177)) (az:Reads R ay) (aj:Sl ay ab marks) {r:Bool} (hM:(zai ac ae ag marks).Ends r) (w:World) (H:St w w [] R):Ret Tryz.prog 58 #[Pq ai,ab] w fun v w'=>∃ (y0:Bool),y0=r/\v=B y0/\St w w' [] R:=by
 refine ret_of_W Tryz.func58 rfl rfl rfl<|W.seq<|W.region rfl ?_;refine t_b1 (Pq ai) H rfl rfl ?_;intro ak aT H;refine t_box (v:=ab) (cs:=[ab]) H rfl (Sl.cells aj) ?_;intro am aU H;refine zA (B false) rfl<|s_nil<|W.seq<|W.region rfl<|s_val (x_ld (v:=ab) rfl (ldb_sc Sc28 (H.bl 0) rfl))<|s_val (x_mf (fs:=[]) (cs:=[Pq am,Pq ak]) rfl rfl) ?_;obtain ⟨aV,aK,hM⟩:=M.e_bind hM;refine s_call cf99 [ab,.func (.func 104) #[] #[Pq am,Pq ak]] rfl (zcp marks (fun ao=>zaB ao marks ac ae ag) (az.app _) aj ⟨104,[Pq am,Pq ak],rfl,cf104,fun aA aW aX aL ao aY aM aZ aN aO=>by obtain rfl:=Arg.int aN; exact (zeq ao marks ac ae ag (Reads.app (az.app _) _) aj (Has.app (Has.here (k:=0) rfl) _) (Reads.app (aD.app _) _) aE (Reads.app (aF.app _) _) aG (Reads.app (aH.app _) _) aI (Has.app (aJ.app _) _) (Has.app (Has.here (k:=1) rfl) _) aO aA (St.refl aM)).mono fun aL aA ⟨a6,aP,aQ,aR⟩=>by subst aP; exact ⟨aQ,aR⟩⟩ aK _ (H.gt 2)) ?_
 rintro vq a7 ⟨r2,rfl,hvq,aB⟩
 subst vq;(try dsimp only at hM);replace H:=H.bk aB;clear aB;refine zA (B r2) rfl<|s_nil ?_;replace H:=H.pk [];refine W.ret ?_
 have aS:=M.e_pure hM
 exact ⟨_,resE_tmp rfl,⟨r2,aS,rfl,H⟩⟩

def za0 (s_Sections:List Sect) (s_Marks:List Mrk) (s_Reaches:List Rch) (marks:List Int) (reach:Int):M (Int × Int × Int) :=
  M.bind (zam s_Sections s_Marks s_Reaches marks reach) fun x_=>match x_ with
  | (.inl (ak,am,ao,ap,aq,r2))=>(
  bif r2 != 0 then (
  M.pure (0,0,r2))
  else (
  M.fail))
  | (.inr (ab,ac,ae,ag,ai,aj))=>(
  bif aj != 0 then (
  M.fail)
  else (
  M.bind (zai s_Sections s_Marks s_Reaches marks) fun r3 =>
  bif !r3 then (
  M.pure (0,0,7))
  else (
  M.bind (zan s_Sections s_Marks s_Reaches marks (⟨(ab:Int),(ac:Int),(ae:Int),(ag:Int),ai⟩:Rch)) fun (r0,r1) =>
  M.pure (r0,r1,0))))
theorem zcJ {R:List Chunk} {aM:Cells} {ax:Value} {aN:Cells} {ay:Value} {aO:Cells} {az:Value} {aP:Cells} {ao:Value} (s_Sections:List Sect) (s_Marks:List Mrk) (s_Reaches:List Rch) (marks:List Int) (reach:Int) (aD:Reads R aM) (aE:Sl aM ax s_Sections) (aF:Reads R aN) (aG:Sl aN ay s_Marks) (aH:Reads R aO) (aI:Sl aO az s_Reaches) (aJ:Reads R aP) (aK:Sl aP ao marks) {r:(Int × Int × Int)} (hM:(za0 s_Sections s_Marks s_Reaches marks reach).Ends r) (w:World) (H:St w w [] R):Ret Tryz.prog 20 #[.agg #[ax,ay,az],ao,I reach] w fun v w'=>∃ (y0:Int) (y1:Int) (y2:Int),(y0,y1,y2)=r/\v = .tuple #[.agg #[I y0,I y1],I y2]/\St w w' [] R:=by
 refine ret_of_W Tryz.func20 rfl rfl rfl<|W.seq<|W.region rfl ?_;refine t_bx [ax,ay,az] H rfl ?_;intro aZ a6 H;refine t_alloc (cs:=[I 0,I 0]) H Al54 rfl ?_;intro a7 a8 H;refine zA (I 0) rfl<|s_nil<|W.seq<|W.region rfl<|s_val (x_ld (v:=.agg #[ax,ay,az]) rfl (ldb_ag (ds:=[ax,ay,az]) Ag27 Sz27 (H.bl 1) rfl rfl))<|zM ao rfl<|zM (I reach) rfl ?_;obtain ⟨ba,aQ,hM⟩:=M.e_bind hM;refine s_call cf65 [.agg #[ax,ay,az],ao,I reach] rfl (zda s_Sections s_Marks s_Reaches marks reach (aD.app _) aE (aF.app _) aG (aH.app _) aI (aJ.app _) aK aQ _ (H.gt 2)) ?_
 rintro vq bb (⟨ap,aq,au,av,aw,r2,aR,hvq,ab⟩ | ⟨ac,ae,ag,ai,aj,ak,am,bc,aS,hvq,ab⟩)
 ·subst aR;subst vq;(try dsimp only at hM);replace H:=H.bk ab;clear ab;refine zM (.tuple #[.pointer none,.agg #[I ap,I aq,I au,I av,B aw],I r2]) rfl<|zX [.pointer none,.agg #[I ap,I aq,I au,I av,B aw],I r2] (.pointer none) rfl rfl<|zX [.pointer none,.agg #[I ap,I aq,I au,I av,B aw],I r2] (.agg #[I ap,I aq,I au,I av,B aw]) rfl rfl<|zX [.pointer none,.agg #[I ap,I aq,I au,I av,B aw],I r2] (I r2) rfl rfl ?_;refine t_alloc (cs:=[I 0,I 0,I 0,I 0,B false]) H Al58 rfl ?_;intro aT bf H;refine zA (.pointer none) rfl ?_;refine t_sw 0 0 [I ap,I aq,I au,I av,B aw] (.agg #[I ap,I aq,I au,I av,B aw]) H rfl rfl Sz58 rfl rfl rfl rfl ?_;intro bg H;refine zA (I r2) rfl<|s_nil<|W.seq<|W.block<|W.seq<|W.region rfl<|zM (I r2) rfl<|zC r2 0 (r2 != 0) rfl rfl rfl<|zA (B (r2 != 0)) rfl<|s_nil ?_
  refine W.cond (r2 != 0) rfl (fun aA=>?_) (fun aA=>?_)
  ·replace hM:=M.e_t hM aA
   replace aA:=dI aA
   refine W.seq<|W.region rfl<|s_val (x_bld (ps:=[]) (zs:=[I 0,I 0]) (L':=[I 0,I 0]) rfl Tryz.underlying54 Al54 rfl (Bd54 Tryz.underlying54) (.nil))<|zM (I r2) rfl ?_;refine t_sw 1 0 [I 0,I 0] (.agg #[I 0,I 0]) H rfl rfl Sz54 rfl rfl rfl rfl ?_;intro bh H;refine zA (I r2) rfl<|s_nil ?_;replace H:=H.pk [1];refine W.ret ?_
   have aU:=(H.bl 0)
   have aB:=M.e_pure hM
   exact ⟨_,(resE_ofn (vs:=[.agg #[I 0,I 0],I r2]) rfl rfl (.cell (v:=.agg #[I 0,I 0]) rfl (run_loadVar_ag (ds:=[I 0,I 0]) Ag54 Sz54 aU rfl rfl)<|.tmp (v:=I r2) rfl<|.nil)),⟨0,0,r2,aB,rfl,(H.pk [])⟩⟩
  replace hM:=M.e_f hM aA
  exact (M.e_fail hM).elim
 subst aS;subst vq;(try dsimp only at hM);replace H:=H.bk ab;clear ab;refine zM (.tuple #[Pq am,.agg #[I ac,I ae,I ag,I ai,B aj],I ak]) rfl<|zX [Pq am,.agg #[I ac,I ae,I ag,I ai,B aj],I ak] (Pq am) rfl rfl<|zX [Pq am,.agg #[I ac,I ae,I ag,I ai,B aj],I ak] (.agg #[I ac,I ae,I ag,I ai,B aj]) rfl rfl<|zX [Pq am,.agg #[I ac,I ae,I ag,I ai,B aj],I ak] (I ak) rfl rfl ?_;refine t_alloc (cs:=[I 0,I 0,I 0,I 0,B false]) H Al58 rfl ?_;intro aT bi H;refine zA (Pq am) rfl ?_;refine t_sw 0 0 [I ac,I ae,I ag,I ai,B aj] (.agg #[I ac,I ae,I ag,I ai,B aj]) H rfl rfl Sz58 rfl rfl rfl rfl ?_;intro bj H;refine zA (I ak) rfl<|s_nil<|W.seq<|W.block<|W.seq<|W.region rfl<|zM (I ak) rfl<|zC ak 0 (ak != 0) rfl rfl rfl<|zA (B (ak != 0)) rfl<|s_nil ?_
 refine W.cond (ak != 0) rfl (fun aC=>?_) (fun aC=>?_)
 ·replace hM:=M.e_t hM aC
  exact (M.e_fail hM).elim
 replace hM:=M.e_f hM aC
 replace aC:=dI aC
 refine W.seq<|W.region rfl<|zM (Pq am) rfl<|zM ao rfl ?_;obtain ⟨bm,aV,hM⟩:=M.e_bind hM;refine s_call cf58 [Pq am,ao] rfl (zbk s_Sections s_Marks s_Reaches marks (aD.app _) aE (aF.app _) aG (aH.app _) aI (Has.here (k:=1) rfl) (aJ.app _) aK aV _ (H.gt 5)) ?_
 rintro vq bn ⟨r3,rfl,hvq,ab⟩
 subst vq;(try dsimp only at hM);replace H:=H.bk ab;clear ab;refine s_val (x_not (b:=r3) rfl)<|zA (B (!r3)) rfl<|s_nil ?_
 refine W.cond (!r3) rfl (fun aL=>?_) (fun aL=>?_)
 ·replace hM:=M.e_t hM aL;refine W.seq<|W.region rfl<|s_val (x_bld (ps:=[]) (zs:=[I 0,I 0]) (L':=[I 0,I 0]) rfl Tryz.underlying54 Al54 rfl (Bd54 Tryz.underlying54) (.nil)) ?_;refine t_sw 3 0 [I 0,I 0] (.agg #[I 0,I 0]) H rfl rfl Sz54 rfl rfl rfl rfl ?_;intro bo H;refine zA (I 7) rfl<|s_nil ?_;replace H:=H.pk [3];refine W.ret ?_
  have aW:=(H.bl 0)
  have aB:=M.e_pure hM
  exact ⟨_,(resE_ofn (vs:=[.agg #[I 0,I 0],I 7]) rfl rfl (.cell (v:=.agg #[I 0,I 0]) rfl (run_loadVar_ag (ds:=[I 0,I 0]) Ag54 Sz54 aW rfl rfl)<|.tmp (v:=I 7) rfl<|.nil)),⟨0,0,7,aB,rfl,(H.pk [])⟩⟩
 replace hM:=M.e_f hM aL;refine W.skip<|W.seq<|W.region rfl<|zM (Pq am) rfl<|zM ao rfl<|s_val (x_ld (v:=.agg #[I ac,I ae,I ag,I ai,B aj]) rfl (ldb_ag (ds:=[I ac,I ae,I ag,I ai,B aj]) Ag58 Sz58 (H.bl 0) rfl rfl)) ?_;obtain ⟨bp,aX,hM⟩:=M.e_bind hM;refine s_call cf66 [Pq am,ao,.agg #[I ac,I ae,I ag,I ai,B aj]] rfl (zcA s_Sections s_Marks s_Reaches marks (⟨(ac:Int),(ae:Int),(ag:Int),(ai:Int),aj⟩:Rch) (aD.app _) aE (aF.app _) aG (aH.app _) aI (Has.here (k:=1) rfl) (aJ.app _) aK aX _ ((H.pk [2,0,1,3,4]).gt 4)) ?_
 rintro vq bq ⟨r0,r1,rfl,hvq,ab⟩
 subst vq;(try dsimp only at hM)
 replace H:=H.pk [2,0,1,3,4] |>.bk ab
 clear ab;refine t_sw 3 0 [I r0,I r1] (.agg #[I r0,I r1]) H rfl rfl Sz54 rfl rfl rfl rfl ?_;intro br H;refine zA (I 0) rfl<|s_nil ?_;replace H:=H.pk [3];refine W.ret ?_
 have aY:=(H.bl 0)
 have aB:=M.e_pure hM
 exact ⟨_,(resE_ofn (vs:=[.agg #[I r0,I r1],I 0]) rfl rfl (.cell (v:=.agg #[I r0,I r1]) rfl (run_loadVar_ag (ds:=[I r0,I r1]) Ag54 Sz54 aY rfl rfl)<|.tmp (v:=I 0) rfl<|.nil)),⟨r0,r1,0,aB,rfl,(H.pk [])⟩⟩

def zb9 (c:Cas) (r_:Rch):M Bool :=
  M.bind (zab c.up 0 2000) fun r2 =>
  M.bind (M.opt r2 (zab c.down 0 c.up) false) fun r3 =>
  M.bind (M.opt (r2&&r3) (zab c.roughup r_.lo r_.hi) false) fun r4 =>
  M.bind (M.opt ((r2&&r3)&&r4) (zab c.roughdown r_.lo r_.hi) false) fun r5 =>
  M.pure (((r2&&r3)&&r4)&&r5)
theorem zei {R:List Chunk}  (c:Cas) (r_:Rch)  {r:Bool} (hM:(zb9 c r_).Ends r) (w:World) (H:St w w [] R):Ret Tryz.prog 71 #[.agg #[I c.up,I c.down,I c.roughup,I c.roughdown],.agg #[I r_.up,I r_.down,I r_.lo,I r_.hi,B r_.narrow]] w fun v w'=>∃ (y0:Bool),y0=r/\v=B y0/\St w w' [] R:=by
 refine ret_of_W Tryz.func71 rfl rfl rfl<|W.seq<|W.region rfl ?_;refine t_bx [I c.up,I c.down,I c.roughup,I c.roughdown] H rfl ?_;intro ac ap H;refine t_bx [I r_.up,I r_.down,I r_.lo,I r_.hi,B r_.narrow] H rfl ?_;intro ab aq H;refine zA (B false) rfl<|s_nil<|W.seq<|W.region rfl<|s_val (x_fa (v:=Pq ac) rfl (fa_blk (o:=0) Fd61_0 Sz3))<|s_val (x_ld (v:=I c.up) rfl (ldb_sc Sc3 (H.bl 1) rfl)) ?_;obtain ⟨au,aj,hM⟩:=M.e_bind hM;refine s_call cf70 [I c.up,I 0,I 2000] rfl (zac c.up 0 2000 aj _ (H.gt 2)) ?_
 rintro vq av ⟨r2,rfl,hvq,ai⟩
 subst vq;(try dsimp only at hM);replace H:=H.bk ai;clear ai;refine zM (B r2) rfl<|g_val r2 (gy_t rfl) (fun hg=>x_fa (v:=Oq ac 1) rfl (fa_blk (o:=0) Fd61_1 Sz3))<|g_val r2 (gy_t rfl) (fun hg=>x_ld (v:=I c.down) (gd_of hg (Oq ac 1)) (ldb_sc Sc3 (H.bl 1) rfl))<|g_val r2 (gy_t rfl) (fun hg=>x_fa (v:=Pq ac) rfl (fa_blk (o:=0) Fd61_0 Sz3))<|g_val r2 (gy_t rfl) (fun hg=>x_ld (v:=I c.up) (gd_of hg (Pq ac)) (ldb_sc Sc3 (H.bl 1) rfl)) ?_;obtain ⟨r3,ak,hM⟩:=M.e_bind hM;refine t_gcall r2 (gy_t rfl) cf70 (B r3) (fun _=>[I c.down,I 0,I c.up]) (fun hg=>lst3 (gd_of hg (I c.down)) rfl (gd_of hg (I c.up))) H (fun hg=>(zac c.down 0 c.up (M.e_opt ak hg) _ (H.give (A:=[]) rfl)).mono fun v_ w_ ⟨y_,ae,ag,H_⟩=>by subst ae; exact ⟨ag,H.via H_⟩) ?_;intro aw H;refine s_val (x_pand (b:=r2) (r:=r3) rfl (fun hb=>gd_of (c:=r2) (by first | exact hb | (rw [hb]; rfl) | simp_all) (B r3)) rfl)<|zM (B (r2&&r3)) rfl<|g_val (r2&&r3) (gy_t rfl) (fun hg=>x_fa (v:=Oq ac 2) rfl (fa_blk (o:=0) Fd61_2 Sz3))<|g_val (r2&&r3) (gy_t rfl) (fun hg=>x_ld (v:=I c.roughup) (gd_of hg (Oq ac 2)) (ldb_sc Sc3 (H.bl 1) rfl))<|g_val (r2&&r3) (gy_t rfl) (fun hg=>x_fa (v:=Oq ab 2) rfl (fa_blk (o:=0) Fd58_2 Sz54))<|g_val (r2&&r3) (gy_t rfl) (fun hg=>x_fa (v:=Oq ab 2) (gd_of hg (Oq ab 2)) (fa_blk (o:=2) Fd54_0 Sz3))<|g_val (r2&&r3) (gy_t rfl) (fun hg=>x_ld (v:=I r_.lo) (gd_of hg (Oq ab 2)) (ldb_sc Sc3 (H.bl 0) rfl))<|g_val (r2&&r3) (gy_t rfl) (fun hg=>x_fa (v:=Oq ab 2) rfl (fa_blk (o:=0) Fd58_2 Sz54))<|g_val (r2&&r3) (gy_t rfl) (fun hg=>x_fa (v:=Oq ab 3) (gd_of hg (Oq ab 2)) (fa_blk (o:=2) Fd54_1 Sz3))<|g_val (r2&&r3) (gy_t rfl) (fun hg=>x_ld (v:=I r_.hi) (gd_of hg (Oq ab 3)) (ldb_sc Sc3 (H.bl 0) rfl)) ?_;obtain ⟨r4,am,hM⟩:=M.e_bind hM;refine t_gcall (r2&&r3) (gy_t rfl) cf70 (B r4) (fun _=>[I c.roughup,I r_.lo,I r_.hi]) (fun hg=>lst3 (gd_of hg (I c.roughup)) (gd_of hg (I r_.lo)) (gd_of hg (I r_.hi))) H (fun hg=>(zac c.roughup r_.lo r_.hi (M.e_opt am hg) _ (H.give (A:=[]) rfl)).mono fun v_ w_ ⟨y_,ae,ag,H_⟩=>by subst ae; exact ⟨ag,H.via H_⟩) ?_;intro ax H;refine s_val (x_pand (b:=(r2&&r3)) (r:=r4) rfl (fun hb=>gd_of (c:=(r2&&r3)) (by first | exact hb | (rw [hb]; rfl) | simp_all) (B r4)) rfl)<|zM (B ((r2&&r3)&&r4)) rfl<|g_val ((r2&&r3)&&r4) (gy_t rfl) (fun hg=>x_fa (v:=Oq ac 3) rfl (fa_blk (o:=0) Fd61_3 Sz3))<|g_val ((r2&&r3)&&r4) (gy_t rfl) (fun hg=>x_ld (v:=I c.roughdown) (gd_of hg (Oq ac 3)) (ldb_sc Sc3 (H.bl 1) rfl))<|g_val ((r2&&r3)&&r4) (gy_t rfl) (fun hg=>x_fa (v:=Oq ab 2) rfl (fa_blk (o:=0) Fd58_2 Sz54))<|g_val ((r2&&r3)&&r4) (gy_t rfl) (fun hg=>x_fa (v:=Oq ab 2) (gd_of hg (Oq ab 2)) (fa_blk (o:=2) Fd54_0 Sz3))<|g_val ((r2&&r3)&&r4) (gy_t rfl) (fun hg=>x_ld (v:=I r_.lo) (gd_of hg (Oq ab 2)) (ldb_sc Sc3 (H.bl 0) rfl))<|g_val ((r2&&r3)&&r4) (gy_t rfl) (fun hg=>x_fa (v:=Oq ab 2) rfl (fa_blk (o:=0) Fd58_2 Sz54))<|g_val ((r2&&r3)&&r4) (gy_t rfl) (fun hg=>x_fa (v:=Oq ab 3) (gd_of hg (Oq ab 2)) (fa_blk (o:=2) Fd54_1 Sz3))<|g_val ((r2&&r3)&&r4) (gy_t rfl) (fun hg=>x_ld (v:=I r_.hi) (gd_of hg (Oq ab 3)) (ldb_sc Sc3 (H.bl 0) rfl)) ?_;obtain ⟨r5,ao,hM⟩:=M.e_bind hM;refine t_gcall ((r2&&r3)&&r4) (gy_t rfl) cf70 (B r5) (fun _=>[I c.roughdown,I r_.lo,I r_.hi]) (fun hg=>lst3 (gd_of hg (I c.roughdown)) (gd_of hg (I r_.lo)) (gd_of hg (I r_.hi))) H (fun hg=>(zac c.roughdown r_.lo r_.hi (M.e_opt ao hg) _ (H.give (A:=[]) rfl)).mono fun v_ w_ ⟨y_,ae,ag,H_⟩=>by subst ae; exact ⟨ag,H.via H_⟩) ?_;intro ay H;refine s_val (x_pand (b:=((r2&&r3)&&r4)) (r:=r5) rfl (fun hb=>gd_of (c:=((r2&&r3)&&r4)) (by first | exact hb | (rw [hb]; rfl) | simp_all) (B r5)) rfl)<|zA (B (((r2&&r3)&&r4)&&r5)) rfl<|s_nil ?_;replace H:=H.pk [];refine W.ret ?_
 have ae:=M.e_pure hM
 exact ⟨_,resE_tmp rfl,⟨(((r2&&r3)&&r4)&&r5),ae,rfl,H⟩⟩

def zbL (s_Sections:List Sect) (s_Marks:List Mrk) (s_Reaches:List Rch) (reach:Int) (c:Cas):M (Int × Int) :=
  M.bind (zah s_Sections s_Marks s_Reaches) fun x_=>match x_ with
  | (.inl r1)=>(
  bif r1 != 0 then (
  M.pure (0,r1))
  else (
  M.fail))
  | (.inr ab)=>(
  bif ab != 0 then (
  M.fail)
  else (
  M.bind (zab reach 0 ((s_Reaches.length:Int)-1)) fun r2 =>
  bif !r2 then (
  M.pure (0,2))
  else (
  M.grd (decide ((0:Int)<=reach)&&decide (reach<(s_Reaches.length:Int))) <|
  M.bind (zb9 c (s_Reaches.getD (Int.toNat reach) default)) fun r3 =>
  bif !r3 then (
  M.pure (0,4))
  else (
  M.bind (zaZ s_Sections s_Marks s_Reaches (s_Reaches.getD (Int.toNat reach) default) c) fun r4 =>
  M.pure (r4,0)))))
theorem zdr {R:List Chunk} {az:Cells} {ae:Value} {aA:Cells} {ag:Value} {aB:Cells} {ab:Value} (s_Sections:List Sect) (s_Marks:List Mrk) (s_Reaches:List Rch) (reach:Int) (c:Cas) (aC:Reads R az) (aD:Sl az ae s_Sections) (aE:Reads R aA) (aF:Sl aA ag s_Marks) (av:Reads R aB) (ak:Sl aB ab s_Reaches) {r:(Int × Int)} (hM:(zbL s_Sections s_Marks s_Reaches reach c).Ends r) (w:World) (H:St w w [] R):Ret Tryz.prog 22 #[.agg #[ae,ag,ab],I reach,.agg #[I c.up,I c.down,I c.roughup,I c.roughdown]] w fun v w'=>∃ (y0:Int) (y1:Int),(y0,y1)=r/\v = .tuple #[I y0,I y1]/\St w w' [] R:=by
 refine ret_of_W Tryz.func22 rfl rfl rfl<|W.seq<|W.region rfl ?_;refine t_bx [ae,ag,ab] H rfl ?_;intro ao aN H;refine t_bx [I c.up,I c.down,I c.roughup,I c.roughdown] H rfl ?_;intro aG aO H;refine zA (I 0) rfl<|zA (I 0) rfl<|s_nil<|W.seq<|W.region rfl<|s_val (x_ld (v:=.agg #[ae,ag,ab]) rfl (ldb_ag (ds:=[ae,ag,ab]) Ag27 Sz27 (H.bl 1) rfl rfl)) ?_;obtain ⟨aP,aH,hM⟩:=M.e_bind hM;refine s_call cf49 [.agg #[ae,ag,ab]] rfl (zbB s_Sections s_Marks s_Reaches (aC.app _) aD (aE.app _) aF (av.app _) ak aH _ (H.gt 2)) ?_
 rintro vq aQ (⟨r1,aI,hvq,ac⟩ | ⟨ai,aj,aw,aJ,hvq,ac⟩)
 ·subst aI;subst vq;(try dsimp only at hM);replace H:=H.bk ac;clear ac;refine zM (.tuple #[.pointer none,I r1]) rfl<|zX [.pointer none,I r1] (.pointer none) rfl rfl<|zX [.pointer none,I r1] (I r1) rfl rfl<|zA (.pointer none) rfl<|zA (I r1) rfl<|s_nil<|W.seq<|W.block<|W.seq<|W.region rfl ?_;refine zM (I r1) rfl<|zC r1 0 (r1 != 0) rfl rfl rfl<|zA (B (r1 != 0)) rfl<|s_nil ?_
  refine W.cond (r1 != 0) rfl (fun ap=>?_) (fun ap=>?_)
  ·replace hM:=M.e_t hM ap
   replace ap:=dI ap
   refine W.seq<|W.region rfl<|zM (I r1) rfl<|zA (I 0) rfl<|zA (I r1) rfl<|s_nil ?_;replace H:=H.pk [];refine W.ret ?_
   have am:=M.e_pure hM
   exact ⟨_,resE_tmp2 rfl,⟨0,r1,am,rfl,H⟩⟩
  replace hM:=M.e_f hM ap
  exact (M.e_fail hM).elim
 subst aJ;subst vq;(try dsimp only at hM);replace H:=H.bk ac;clear ac;refine zM (.tuple #[Pq aj,I ai]) rfl<|zX [Pq aj,I ai] (Pq aj) rfl rfl<|zX [Pq aj,I ai] (I ai) rfl rfl<|zA (Pq aj) rfl<|zA (I ai) rfl<|s_nil<|W.seq<|W.block<|W.seq<|W.region rfl ?_;refine zM (I ai) rfl<|zC ai 0 (ai != 0) rfl rfl rfl<|zA (B (ai != 0)) rfl<|s_nil ?_
 refine W.cond (ai != 0) rfl (fun aq=>?_) (fun aq=>?_)
 ·replace hM:=M.e_t hM aq
  exact (M.e_fail hM).elim
 replace hM:=M.e_f hM aq
 replace aq:=dI aq
 refine W.seq<|W.region rfl<|zM (I reach) rfl<|s_val (x_fa (v:=Oq ao 2) rfl (fa_blk (o:=0) Fd27_2 Sz25))<|s_val (x_ld (v:=ab) rfl (ldb_sc Sc25 (H.bl 3) rfl)) ?_
 have aR:=(ak).len_le
 refine s_val (x_lenS T25.und rfl ak)<|zR (s_Reaches.length:Int) 1 ((s_Reaches.length:Int)-1) rfl rfl rfl (by omega) ?_;obtain ⟨aS,aK,hM⟩:=M.e_bind hM;refine s_call cf70 [I reach,I 0,I ((s_Reaches.length:Int)-1)] rfl (zac reach 0 ((s_Reaches.length:Int)-1) aK _ (H.gt 4)) ?_
 rintro vq aT ⟨r2,rfl,hvq,ac⟩
 subst vq;(try dsimp only at hM);replace H:=H.bk ac;clear ac;refine s_val (x_not (b:=r2) rfl)<|zA (B (!r2)) rfl<|s_nil ?_
 refine W.cond (!r2) rfl (fun ax=>?_) (fun ax=>?_)
 ·replace hM:=M.e_t hM ax;refine W.seq<|W.region rfl<|zA (I 0) rfl<|zA (I 2) rfl<|s_nil ?_;replace H:=H.pk [];refine W.ret ?_
  have am:=M.e_pure hM
  exact ⟨_,resE_tmp2 rfl,⟨0,2,am,rfl,H⟩⟩
 replace hM:=M.e_f hM ax;refine W.seq ?_;refine W.draw (fun W=>St w W [cBlk aj [ae,ag,ab,.map (some aw)] 177,cMemI encSpt aw (zaa s_Sections s_Marks s_Reaches),cBlk aG [I c.up,I c.down,I c.roughup,I c.roughdown] 61,cBlk ao [ae,ag,ab] 27] R) [(0,true),(1,true),(2,true),(3,true),(4,true),(5,true),(6,false),(7,true),(8,true)] mixed (by decide +kernel) rfl ?_;intro aU au;replace H:=H.ext au;clear au
 refine ⟨(H.pk [0,1,2,3]),?_⟩
 refine d_q rfl (fun w' H=>x_ld (v:=.agg #[I c.up,I c.down,I c.roughup,I c.roughdown]) rfl (ldb_ag (ds:=[I c.up,I c.down,I c.roughup,I c.roughdown]) Ag61 Sz61 (H.bl 2) rfl rfl))<|d_q rfl (fun w' H=>x_fa (v:=Oq ao 2) rfl (fa_blk (o:=0) Fd27_2 Sz25))<|d_q rfl (fun w' H=>x_ld (v:=ab) rfl (ldb_sc Sc25 (H.bl 3) rfl))<|d_q rfl (fun w' H=>x_mv (v:=I reach) rfl) ?_;obtain ⟨aV,hM⟩:=M.e_gd hM;refine d_q rfl (fun w' H=>x_ix (v:=vat ab 5 (Int.toNat reach)) rfl rfl (Sl.ix (α:=Rch) T25.und T25.size ak (by omega) (by omega)))<|d_q rfl (fun w' H=>x_ld (v:=.agg #[I ((s_Reaches.getD (Int.toNat reach) default).up),I ((s_Reaches.getD (Int.toNat reach) default).down),I ((s_Reaches.getD (Int.toNat reach) default).lo),I ((s_Reaches.getD (Int.toNat reach) default).hi),B ((s_Reaches.getD (Int.toNat reach) default).narrow)]) rfl (ld_ag Ag58 Sz58 (At.mono (Rch_atA ak (i:=reach) (by omega) (by omega)) (av.at H))))<|d_l rfl ?_;obtain ⟨aW,aL,hM⟩:=M.e_bind hM;refine s_call cf71 [.agg #[I c.up,I c.down,I c.roughup,I c.roughdown],.agg #[I ((s_Reaches.getD (Int.toNat reach) default).up),I ((s_Reaches.getD (Int.toNat reach) default).down),I ((s_Reaches.getD (Int.toNat reach) default).lo),I ((s_Reaches.getD (Int.toNat reach) default).hi),B ((s_Reaches.getD (Int.toNat reach) default).narrow)]] rfl (zei c (s_Reaches.getD (Int.toNat reach) default) aL _ (H.gt 4)) ?_
 rintro vq aX ⟨r3,rfl,hvq,ac⟩
 subst vq;(try dsimp only at hM);replace H:=H.bk ac;clear ac
 refine s_nil ⟨(H.pk [0,1,2,3]),?_⟩
 refine d_q rfl (fun w' H=>x_not (b:=r3) rfl)<|d_q rfl (fun w' H=>x_as (v:=B (!r3)) rfl) ?_;refine d_nil ?_
 refine W.cond (!r3) rfl (fun ay=>?_) (fun ay=>?_)
 ·replace hM:=M.e_t hM ay;refine W.seq<|W.region rfl<|zA (I 0) rfl<|zA (I 4) rfl<|s_nil ?_;replace H:=H.pk [];refine W.ret ?_
  have am:=M.e_pure hM
  exact ⟨_,resE_tmp2 rfl,⟨0,4,am,rfl,H⟩⟩
 replace hM:=M.e_f hM ay;refine W.skip<|W.seq ?_;refine W.draw (fun W=>St w W [cBlk aj [ae,ag,ab,.map (some aw)] 177,cBlk aG [I c.up,I c.down,I c.roughup,I c.roughdown] 61,cBlk ao [ae,ag,ab] 27] R) [(0,true),(1,true),(2,true),(3,true),(4,true),(5,true),(6,true),(7,false),(8,true),(9,true)] mixed (by decide +kernel) rfl ?_;intro aY au;replace H:=H.ext au;clear au
 refine ⟨(H.pk [0,2,3]),?_⟩
 refine d_q rfl (fun w' H=>x_mv (v:=Pq aj) rfl)<|d_q rfl (fun w' H=>x_fa (v:=Oq ao 2) rfl (fa_blk (o:=0) Fd27_2 Sz25))<|d_q rfl (fun w' H=>x_ld (v:=ab) rfl (ldb_sc Sc25 (H.bl 2) rfl))<|d_q rfl (fun w' H=>x_mv (v:=I reach) rfl)<|d_q rfl (fun w' H=>x_ix (v:=vat ab 5 (Int.toNat reach)) rfl rfl (Sl.ix (α:=Rch) T25.und T25.size ak (by omega) (by omega)))<|d_q rfl (fun w' H=>x_ld (v:=.agg #[I ((s_Reaches.getD (Int.toNat reach) default).up),I ((s_Reaches.getD (Int.toNat reach) default).down),I ((s_Reaches.getD (Int.toNat reach) default).lo),I ((s_Reaches.getD (Int.toNat reach) default).hi),B ((s_Reaches.getD (Int.toNat reach) default).narrow)]) rfl (ld_ag Ag58 Sz58 (At.mono (Rch_atA ak (i:=reach) (by omega) (by omega)) (av.at H))))<|d_q rfl (fun w' H=>x_ld (v:=.agg #[I c.up,I c.down,I c.roughup,I c.roughdown]) rfl (ldb_ag (ds:=[I c.up,I c.down,I c.roughup,I c.roughdown]) Ag61 Sz61 (H.bl 1) rfl rfl))<|d_l rfl ?_;obtain ⟨aZ,aM,hM⟩:=M.e_bind hM;refine s_call cf72 [Pq aj,.agg #[I ((s_Reaches.getD (Int.toNat reach) default).up),I ((s_Reaches.getD (Int.toNat reach) default).down),I ((s_Reaches.getD (Int.toNat reach) default).lo),I ((s_Reaches.getD (Int.toNat reach) default).hi),B ((s_Reaches.getD (Int.toNat reach) default).narrow)],.agg #[I c.up,I c.down,I c.roughup,I c.roughdown]] rfl (zcR s_Sections s_Marks s_Reaches (s_Reaches.getD (Int.toNat reach) default) c (aC.app _) aD (aE.app _) aF (av.app _) ak (Has.here (k:=0) rfl) aM _ ((H.pk [1,0,2,3]).gt 3)) ?_
 rintro vq a6 ⟨r4,rfl,hvq,ac⟩
 subst vq;(try dsimp only at hM)
 replace H:=H.pk [1,0,2,3] |>.bk ac
 clear ac
 refine s_nil ⟨(H.pk [1,2,3]),?_⟩
 refine d_q rfl (fun w' H=>x_as (v:=I r4) rfl)<|d_q rfl (fun w' H=>x_as (v:=I 0) rfl) ?_;refine d_nil ?_;replace H:=H.pk [];refine W.ret ?_
 have am:=M.e_pure hM
 exact ⟨_,resE_tmp2 rfl,⟨r4,0,am,rfl,H⟩⟩

def zbG (s_Sections:List Sect) (s_Marks:List Mrk) (s_Reaches:List Rch) (marks:List Int):(Nat × (List Span))->M ((Nat × (List Span)) ⊕ ((List Span) × (List Span))):=fun (s2,l) =>
  bif decide ((s2:Int)<(s_Sections.length:Int)) then (
  M.bind (zap s_Sections s_Marks s_Reaches marks (s2:Int)) fun (r0,ab) =>
  M.grd (decide ((l.length+([(⟨(r0:Int),(ab:Int)⟩:Span)]).length)*16<=140737488355328)) <|
  M.pure (.inl (s2+1,l++([(⟨(r0:Int),(ab:Int)⟩:Span)]))))
  else (
  M.pure (.inr (l,l)))
def zaq (s_Sections:List Sect) (s_Marks:List Mrk) (s_Reaches:List Rch) (marks:List Int):M ((List Span) × Int) :=
  M.bind (zar s_Sections s_Marks s_Reaches marks) fun x_=>match x_ with
  | (.inl r1)=>(
  bif r1 != 0 then (
  M.pure (([]),r1))
  else (
  M.fail))
  | (.inr ab)=>(
  bif ab != 0 then (
  M.pure (([]),ab))
  else (
  M.bind (zai s_Sections s_Marks s_Reaches marks) fun r2 =>
  bif !r2 then (
  M.pure (([]),7))
  else (
  M.bind (M.iter (zbG s_Sections s_Marks s_Reaches marks) (0,[])) fun (l2,l3) =>
  M.pure (l3,0))))
theorem zdi {R:List Chunk} {aG:Cells} {ai:Value} {aH:Cells} {aj:Value} {aI:Cells} {ak:Value} {aJ:Cells} {ag:Value} (s_Sections:List Sect) (s_Marks:List Mrk) (s_Reaches:List Rch) (marks:List Int) (ax:Reads R aG) (aw:Sl aG ai s_Sections) (ay:Reads R aH) (az:Sl aH aj s_Marks) (aA:Reads R aI) (aB:Sl aI ak s_Reaches) (aC:Reads R aJ) (aD:Sl aJ ag marks) {r:((List Span) × Int)} (hM:(zaq s_Sections s_Marks s_Reaches marks).Ends r) (w:World) (H:St w w [] R):Ret Tryz.prog 13 #[.agg #[ai,aj,ak],ag] w fun v w'=>∃ (y0:List Span) (y1:Int) (u0:Value),(y0,y1)=r/\v = .tuple #[u0,I y1]/\St w w' [cOwn (α:=Span) 54 u0 y0] R:=by
 refine ret_of_W Tryz.func13 rfl rfl rfl<|W.seq<|W.region rfl ?_;refine t_bx [ai,aj,ak] H rfl ?_;intro aK a6 H;refine zA (.slice none 0 0) rfl<|zA (I 0) rfl<|s_nil<|W.seq<|W.region rfl<|s_val (x_ld (v:=.agg #[ai,aj,ak]) rfl (ldb_ag (ds:=[ai,aj,ak]) Ag27 Sz27 (H.bl 0) rfl rfl))<|zM ag rfl ?_;obtain ⟨a7,aP,hM⟩:=M.e_bind hM;refine s_call cf57 [.agg #[ai,aj,ak],ag] rfl (zcM s_Sections s_Marks s_Reaches marks (ax.app _) aw (ay.app _) az (aA.app _) aB (aC.app _) aD aP _ (H.gt 1)) ?_
 rintro vq a8 (⟨r1,aQ,hvq,ac⟩ | ⟨ab,ae,aL,aR,hvq,ac⟩)
 ·subst aQ;subst vq;(try dsimp only at hM);replace H:=H.bk ac;clear ac;refine zM (.tuple #[.pointer none,I r1]) rfl<|zX [.pointer none,I r1] (.pointer none) rfl rfl<|zX [.pointer none,I r1] (I r1) rfl rfl<|zA (.pointer none) rfl<|zA (I r1) rfl<|s_nil<|W.seq<|W.block<|W.seq<|W.region rfl ?_;refine zM (I r1) rfl<|zC r1 0 (r1 != 0) rfl rfl rfl<|zA (B (r1 != 0)) rfl<|s_nil ?_
  refine W.cond (r1 != 0) rfl (fun am=>?_) (fun am=>?_)
  ·replace hM:=M.e_t hM am
   replace am:=dI am
   refine W.seq<|W.region rfl<|zM (I r1) rfl<|zA (.slice none 0 0) rfl<|zA (I r1) rfl<|s_nil ?_;refine W.ret ?_
   have ao:=M.e_pure hM
   replace H:=H.nilOwn (α:=Span) 54
   exact ⟨_,resE_tmp2 rfl,⟨([]),r1,(.slice none 0 0),ao,rfl,(H.pk [0])⟩⟩
  replace hM:=M.e_f hM am
  replace am:=dI am
  refine W.seq<|W.region rfl<|zM (.pointer none) rfl<|zM ag rfl ?_
  exact (M.e_fail hM).elim
 subst aR;subst vq;(try dsimp only at hM);replace H:=H.bk ac;clear ac;refine zM (.tuple #[Pq ae,I ab]) rfl<|zX [Pq ae,I ab] (Pq ae) rfl rfl<|zX [Pq ae,I ab] (I ab) rfl rfl<|zA (Pq ae) rfl<|zA (I ab) rfl<|s_nil<|W.seq<|W.block<|W.seq<|W.region rfl ?_;refine zM (I ab) rfl<|zC ab 0 (ab != 0) rfl rfl rfl<|zA (B (ab != 0)) rfl<|s_nil ?_
 refine W.cond (ab != 0) rfl (fun ap=>?_) (fun ap=>?_)
 ·replace hM:=M.e_t hM ap
  replace ap:=dI ap
  refine W.seq<|W.region rfl<|zM (I ab) rfl<|zA (.slice none 0 0) rfl<|zA (I ab) rfl<|s_nil ?_;replace H:=H.pk [];refine W.ret ?_
  have ao:=M.e_pure hM
  replace H:=H.nilOwn (α:=Span) 54
  exact ⟨_,resE_tmp2 rfl,⟨([]),ab,(.slice none 0 0),ao,rfl,H⟩⟩
 replace hM:=M.e_f hM ap
 replace ap:=dI ap
 refine W.seq<|W.region rfl<|zM (Pq ae) rfl<|zM ag rfl ?_;obtain ⟨ba,aS,hM⟩:=M.e_bind hM;refine s_call cf58 [Pq ae,ag] rfl (zbk s_Sections s_Marks s_Reaches marks (ax.app _) aw (ay.app _) az (aA.app _) aB (Has.here (k:=0) rfl) (aC.app _) aD aS _ (H.gt 3)) ?_
 rintro vq bb ⟨r2,rfl,hvq,ac⟩
 subst vq;(try dsimp only at hM);replace H:=H.bk ac;clear ac;refine s_val (x_not (b:=r2) rfl)<|zA (B (!r2)) rfl<|s_nil ?_
 refine W.cond (!r2) rfl (fun aE=>?_) (fun aE=>?_)
 ·replace hM:=M.e_t hM aE;refine W.seq<|W.region rfl<|zA (.slice none 0 0) rfl<|zA (I 7) rfl<|s_nil ?_;replace H:=H.pk [];refine W.ret ?_
  have ao:=M.e_pure hM
  replace H:=H.nilOwn (α:=Span) 54
  exact ⟨_,resE_tmp2 rfl,⟨([]),7,(.slice none 0 0),ao,rfl,H⟩⟩
 replace hM:=M.e_f hM aE;refine W.skip<|W.seq<|W.region rfl<|zA (.slice none 0 0) rfl<|s_nil<|W.seq<|W.seq<|W.region rfl<|s_val (x_fa (v:=Pq aK) rfl (fa_blk (o:=0) Fd27_0 Sz23))<|s_val (x_ld (v:=ai) rfl (ldb_sc Sc23 (H.bl 2) rfl)) ?_
 have bc:=(aw).len_le
 refine s_val (x_lenS T23.und rfl aw)<|zM (I 0) rfl<|s_nil<|W.block ?_
 replace H:=H.nilOwn (α:=Span) 54
 obtain ⟨aT,aF,aU⟩:=M.e_bind hM
 obtain ⟨bf,aF⟩:=M.e_iter aF
 refine W.loop (fun m σ W=>∃ (s2:Nat) (l:List Span) (aq:Value) (ρ:Env),σ=upds ρ [(1,ag),(6,Pq ae),(8,aq),(27,I (s_Sections.length:Int)),(28,I (s2:Int))]/\M.iterN (zbG s_Sections s_Marks s_Reaches marks) m (s2,l)=some aT/\St w W [cOwn (α:=Span) 54 aq l,cBlk ae [ai,aj,ak,.map (some aL)] 177,cMemI encSpt aL (zaa s_Sections s_Marks s_Reaches),cBlk aK [ai,aj,ak] 27] R) ?_ ?_
 ·exact ⟨_,0,[],(.slice none 0 0),_,upds_of _ _ ⟨rfl,rfl,rfl,rfl,rfl,trivial⟩,aF,H⟩
 rintro bg σ bh ⟨s2,l,aq,ρ,rfl,aM,H⟩
 obtain ⟨aV,aW,bi,hM,aN⟩:=M.e_iterN aM
 simp only [zbG] at hM
 clear aM;refine W.seq<|W.region rfl<|zC (s2:Int) (s_Sections.length:Int) (decide ((s2:Int)<(s_Sections.length:Int))) rfl rfl rfl<|s_nil<|W.seq ?_
 refine W.cond (decide ((s2:Int)<(s_Sections.length:Int))) rfl (fun au=>?_) (fun au=>?_)
 ·replace hM:=M.e_t hM au
  replace au:=dI au
  refine W.skip<|W.seq<|W.block<|W.seq<|W.region rfl<|zM (I (s2:Int)) rfl<|zA (I (s2:Int)) rfl<|s_nil<|W.region rfl<|zM aq rfl ?_;refine zM (Pq ae) rfl<|zM ag rfl<|zM (I (s2:Int)) rfl ?_;obtain ⟨bj,aX,hM⟩:=M.e_bind hM;refine s_call cf59 [Pq ae,ag,I (s2:Int)] rfl (zbF s_Sections s_Marks s_Reaches marks (s2:Int) (ax.app _) aw (ay.app _) az (aA.app _) aB (Has.here (k:=1) rfl) (aC.app _) aD aX _ (H.gt 4)) ?_
  rintro vq bm ⟨r0,av,rfl,hvq,ac⟩
  subst vq;(try dsimp only at hM);replace H:=H.bk ac;clear ac;refine t_bs (α:=Span) T43 [.agg #[I r0,I av]] [(⟨(r0:Int),(av:Int)⟩:Span)] H rfl (.cons rfl (Flat.rep_enc _ (⟨(r0:Int),(av:Int)⟩:Span))<|.nil) rfl rfl rfl ?_;intro aY bn H;obtain ⟨bo,hM⟩:=M.e_gd hM;refine t_app (α:=Span) (k:=1) (l:=l) (l2:=[(⟨(r0:Int),(av:Int)⟩:Span)]) (l':=l++([(⟨(r0:Int),(av:Int)⟩:Span)])) (vy:=aY) T43 rfl H rfl rfl rfl (H.os 0) (H.ol 0) (rfl) (by first | omega | (simp only [List.length_nil] at *; omega)) ?_;intro aO bp H;replace H:=H.nf;refine zA aO rfl<|s_nil<|W.region rfl<|zR (s2:Int) 1 ((s2:Int)+1) rfl rfl rfl (by omega)<|zM (I ((s2:Int)+1)) rfl<|s_nil ?_
  exact ⟨aV,aW,s2+1,l++([(⟨(r0:Int),(av:Int)⟩:Span)]),aO,_,upds_of _ _ ⟨rfl,rfl,rfl,rfl,rfl,trivial⟩,M.e_inl hM aN,(H.pk [1,2,3,4])⟩
 replace hM:=M.e_f hM au
 replace au:=dI au
 refine W.exit ?_
 have aZ:=M.e_inr hM aN
 subst aZ;replace hM:=aU;(try dsimp only at hM);replace H:=H.pk [0];refine W.seq<|W.region rfl<|zM aq rfl<|zA aq rfl<|zA (I 0) rfl<|s_nil ?_;refine W.ret ?_
 have ao:=M.e_pure hM
 exact ⟨_,resE_tmp2 rfl,⟨l,0,aq,ao,rfl,H⟩⟩

end Go.Proofs.YtlemgioaakecpaaGreat
end
section
set_option maxRecDepth 100000
set_option maxHeartbeats 16000000
namespace Go.Proofs.YtlemgioaakecpaaGreat
open Go Go.Nm
def zdB (s_Sections:List Sect) (s_Marks:List Mrk) (s_Reaches:List Rch) (a b:Int):M (Bool × Int) :=
  M.bind (zah s_Sections s_Marks s_Reaches) fun x_=>match x_ with
  | (.inl r1)=>(
  bif r1 != 0 then (
  M.pure (false,r1))
  else (
  M.fail))
  | (.inr ab)=>(
  bif ab != 0 then (
  M.fail)
  else (
  M.bind (zab a 0 ((s_Marks.length:Int)-1)) fun r2 =>
  M.bind (M.opt (!(!r2)) (zab b 0 ((s_Marks.length:Int)-1)) false) fun r3 =>
  bif ((!r2)||(!r3)) then (
  M.pure (false,2))
  else (
  M.bind (zaf s_Sections s_Marks s_Reaches a b) fun r4 =>
  M.bind (M.opt (!r4) (zaf s_Sections s_Marks s_Reaches b a) false) fun r5 =>
  M.pure ((r4||r5),0))))
theorem zed {R:List Chunk} {aB:Cells} {ak:Value} {aC:Cells} {ag:Value} {aD:Cells} {am:Value} (s_Sections:List Sect) (s_Marks:List Mrk) (s_Reaches:List Rch) (a:Int) (b:Int) (aq:Reads R aB) (au:Sl aB ak s_Sections) (av:Reads R aC) (aj:Sl aC ag s_Marks) (aw:Reads R aD) (ax:Sl aD am s_Reaches) {r:(Bool × Int)} (hM:(zdB s_Sections s_Marks s_Reaches a b).Ends r) (w:World) (H:St w w [] R):Ret Tryz.prog 30 #[.agg #[ak,ag,am],I a,I b] w fun v w'=>∃ (y0:Bool) (y1:Int),(y0,y1)=r/\v = .tuple #[B y0,I y1]/\St w w' [] R:=by
 refine ret_of_W Tryz.func30 rfl rfl rfl<|W.seq<|W.region rfl ?_;refine t_bx [ak,ag,am] H rfl ?_;intro ay aM H;refine zA (B false) rfl<|zA (I 0) rfl<|s_nil<|W.seq<|W.region rfl<|s_val (x_ld (v:=.agg #[ak,ag,am]) rfl (ldb_ag (ds:=[ak,ag,am]) Ag27 Sz27 (H.bl 0) rfl rfl)) ?_;obtain ⟨aN,aE,hM⟩:=M.e_bind hM;refine s_call cf49 [.agg #[ak,ag,am]] rfl (zbB s_Sections s_Marks s_Reaches (aq.app _) au (av.app _) aj (aw.app _) ax aE _ (H.gt 1)) ?_
 rintro vq aO (⟨r1,aF,hvq,ab⟩ | ⟨ac,ae,aP,aG,hvq,ab⟩)
 ·subst aF;subst vq;(try dsimp only at hM);replace H:=H.bk ab;clear ab;refine zM (.tuple #[.pointer none,I r1]) rfl<|zX [.pointer none,I r1] (.pointer none) rfl rfl<|zX [.pointer none,I r1] (I r1) rfl rfl<|zA (.pointer none) rfl<|zA (I r1) rfl<|s_nil<|W.seq<|W.block<|W.seq<|W.region rfl ?_;refine zM (I r1) rfl<|zC r1 0 (r1 != 0) rfl rfl rfl<|zA (B (r1 != 0)) rfl<|s_nil ?_
  refine W.cond (r1 != 0) rfl (fun ao=>?_) (fun ao=>?_)
  ·replace hM:=M.e_t hM ao
   replace ao:=dI ao
   refine W.seq<|W.region rfl<|zM (I r1) rfl<|zA (B false) rfl<|zA (I r1) rfl<|s_nil ?_;refine W.ret ?_
   have ai:=M.e_pure hM
   exact ⟨_,resE_tmp2 rfl,⟨false,r1,ai,rfl,(H.pk [])⟩⟩
  replace hM:=M.e_f hM ao
  exact (M.e_fail hM).elim
 subst aG;subst vq;(try dsimp only at hM);replace H:=H.bk ab;clear ab;refine zM (.tuple #[Pq ae,I ac]) rfl<|zX [Pq ae,I ac] (Pq ae) rfl rfl<|zX [Pq ae,I ac] (I ac) rfl rfl<|zA (Pq ae) rfl<|zA (I ac) rfl<|s_nil<|W.seq<|W.block<|W.seq<|W.region rfl ?_;refine zM (I ac) rfl<|zC ac 0 (ac != 0) rfl rfl rfl<|zA (B (ac != 0)) rfl<|s_nil ?_
 refine W.cond (ac != 0) rfl (fun ap=>?_) (fun ap=>?_)
 ·replace hM:=M.e_t hM ap
  exact (M.e_fail hM).elim
 replace hM:=M.e_f hM ap
 replace ap:=dI ap
 refine W.seq<|W.region rfl<|zM (I a) rfl<|s_val (x_fa (v:=Oq ay 1) rfl (fa_blk (o:=0) Fd27_1 Sz24))<|s_val (x_ld (v:=ag) rfl (ldb_sc Sc24 (H.bl 2) rfl)) ?_
 have aQ:=(aj).len_le
 refine s_val (x_lenS T24.und rfl aj)<|zR (s_Marks.length:Int) 1 ((s_Marks.length:Int)-1) rfl rfl rfl (by omega) ?_;obtain ⟨aR,aH,hM⟩:=M.e_bind hM;refine s_call cf70 [I a,I 0,I ((s_Marks.length:Int)-1)] rfl (zac a 0 ((s_Marks.length:Int)-1) aH _ (H.gt 3)) ?_
 rintro vq aS ⟨r2,rfl,hvq,ab⟩
 subst vq;(try dsimp only at hM);replace H:=H.bk ab;clear ab;refine s_val (x_not (b:=r2) rfl)<|zM (B (!r2)) rfl<|g_val (!(!r2)) (gy_f rfl) (fun hg=>x_mv (v:=I b) rfl)<|g_val (!(!r2)) (gy_f rfl) (fun hg=>x_fa (v:=Oq ay 1) rfl (fa_blk (o:=0) Fd27_1 Sz24))<|g_val (!(!r2)) (gy_f rfl) (fun hg=>x_ld (v:=ag) (gd_of hg (Oq ay 1)) (ldb_sc Sc24 (H.bl 2) rfl)) ?_
 have aT:=(aj).len_le
 refine g_val (!(!r2)) (gy_f rfl) (fun hg=>x_lenS T24.und (gd_of hg (ag)) aj)<|g_val (!(!r2)) (gy_f rfl) (fun hg=>x_ari (r:=(s_Marks.length:Int)-1) (gd_of hg (I (s_Marks.length:Int))) rfl rfl (by first | omega | (have aI:=hg; simp at aI; omega))) ?_;obtain ⟨r3,aJ,hM⟩:=M.e_bind hM;refine t_gcall (!(!r2)) (gy_f rfl) cf70 (B r3) (fun _=>[I b,I 0,I ((s_Marks.length:Int)-1)]) (fun hg=>lst3 (gd_of hg (I b)) rfl (gd_of hg (I ((s_Marks.length:Int)-1)))) H (fun hg=>(zac b 0 ((s_Marks.length:Int)-1) (M.e_opt aJ hg) _ (H.give (A:=[]) rfl)).mono fun v_ w_ ⟨y_,ai,az,H_⟩=>by subst ai; exact ⟨az,H.via H_⟩) ?_;intro aU H;refine g_val (!(!r2)) (gy_f rfl) (fun hg=>x_not (b:=r3) (gd_of hg (B r3)))<|s_val (x_por (b:=!r2) (r:=!r3) rfl rfl (fun hb=>gd_of (c:=!(!r2)) (by first | exact hb | (rw [hb]; rfl) | simp_all) (B (!r3))))<|zA (B ((!r2)||(!r3))) rfl<|s_nil ?_
 refine W.cond ((!r2)||(!r3)) rfl (fun aA=>?_) (fun aA=>?_)
 ·replace hM:=M.e_t hM aA;refine W.seq<|W.region rfl<|zA (B false) rfl<|zA (I 2) rfl<|s_nil ?_;replace H:=H.pk [];refine W.ret ?_
  have ai:=M.e_pure hM
  exact ⟨_,resE_tmp2 rfl,⟨false,2,ai,rfl,H⟩⟩
 replace hM:=M.e_f hM aA;refine W.skip<|W.seq<|W.region rfl<|zM (Pq ae) rfl<|zM (I a) rfl<|zM (I b) rfl ?_;obtain ⟨aV,aK,hM⟩:=M.e_bind hM;refine s_call cf51 [Pq ae,I a,I b] rfl (zaH s_Sections s_Marks s_Reaches a b (aq.app _) au (av.app _) aj (aw.app _) ax (Has.here (k:=0) rfl) aK _ (H.gt 3)) ?_
 rintro vq aW ⟨r4,rfl,hvq,ab⟩
 subst vq;(try dsimp only at hM);replace H:=H.bk ab;clear ab;refine zM (B r4) rfl<|g_val (!r4) (gy_f rfl) (fun hg=>x_mv (v:=Pq ae) rfl)<|g_val (!r4) (gy_f rfl) (fun hg=>x_mv (v:=I b) rfl)<|g_val (!r4) (gy_f rfl) (fun hg=>x_mv (v:=I a) rfl) ?_;obtain ⟨r5,aL,hM⟩:=M.e_bind hM;refine t_gcall (!r4) (gy_f rfl) cf51 (B r5) (fun _=>[Pq ae,I b,I a]) (fun hg=>lst3 (gd_of hg (Pq ae)) (gd_of hg (I b)) (gd_of hg (I a))) H (fun hg=>(zaH s_Sections s_Marks s_Reaches b a (aq.app _) au (av.app _) aj (aw.app _) ax (Has.here (k:=0) rfl) (M.e_opt aL hg) _ (H.give (A:=[]) rfl)).mono fun v_ w_ ⟨y_,ai,az,H_⟩=>by subst ai; exact ⟨az,H.via H_⟩) ?_;intro aX H;refine s_val (x_por (b:=r4) (r:=r5) rfl rfl (fun hb=>gd_of (c:=!r4) (by first | exact hb | (rw [hb]; rfl) | simp_all) (B r5)))<|zA (B (r4||r5)) rfl<|zA (I 0) rfl<|s_nil ?_;replace H:=H.pk [];refine W.ret ?_
 have ai:=M.e_pure hM
 exact ⟨_,resE_tmp2 rfl,⟨(r4||r5),0,ai,rfl,H⟩⟩

end Go.Proofs.YtlemgioaakecpaaGreat
end
namespace Go.Nm
namespace Fl
/-- Sections that are right. -/
structure Secs (S:List Sect):Prop where
  n:2<=S.length/\S.length<=6
  rows:∀ i,i<S.length->Rows (S.getD i default).rows/\2<=(S.getD i default).rows.length/\(S.getD i default).rows.length<=8
  place:∀ i,i<S.length->0<=(S.getD i default).place/\(S.getD i default).place<=10000
  up:∀ i j,i<j->j<S.length->(S.getD i default).place<(S.getD j default).place
structure Rok (S:List Sect) (r:Rch):Prop where
  u0:0<=r.up
  ud:r.up<r.down
  d1:r.down<S.length
  l1:1<=r.lo
  lh:r.lo<=r.hi
  h4:r.hi<=400
structure Mok (m:Mrk):Prop where
  p0:0<=m.place
  p1:m.place<=10000
  l0:0<=m.lo
  lh:m.lo<=m.hi
  h2:m.hi<=2000
structure Site (S:List Sect) (M:List Mrk) (R:List Rch):Prop where
  s:Secs S
  m:1<=M.length/\M.length<=16
  r:1<=R.length/\R.length<=6
  mks:∀ x∈M,Mok x
  rks:∀ x∈R,Rok S x
/-- The flow of a case. -/
def fl (S:List Sect) (r:Rch) (c:Cas):Int :=
  let a:=car (S.getD (Int.toNat r.up) default).rows c.up
  let b:=car (S.getD (Int.toNat r.down) default).rows c.down
  rt (10000*(bif r.narrow then b else a)*b*(c.up-c.down) / ((bif r.narrow then c.roughdown else c.roughup)*c.roughdown*((S.getD (Int.toNat r.down) default).place-(S.getD (Int.toNat r.up) default).place)))
/-- A case that lies in bounds. -/
structure Cok (c:Cas):Prop where
  d0:0<=c.down
  du:c.down<=c.up
  u2:c.up<=2000
  r1:1<=c.roughup
  r2:1<=c.roughdown
  r3:c.roughup<=400
  r4:c.roughdown<=400
theorem num_bd {a b d:Int} (ha:0<=a/\a<=100000) (hb:0<=b/\b<=100000) (hd:0<=d/\d<=2000) :
    0<=10000*a*b/\10000*a*b<=100000000000000/\0<=10000*a*b*d/\10000*a*b*d<=200000000000000000:=by
  have h1:0<=10000*a*b:=Int.mul_nonneg (by omega) hb.1
  have h2:10000*a*b<=1000000000*100000:=Int.mul_le_mul (by omega) hb.2 hb.1 (by omega)
  have h3:0<=10000*a*b*d:=Int.mul_nonneg h1 hd.1
  have h4:10000*a*b*d<=100000000000000*2000:=Int.mul_le_mul (by omega) hd.2 hd.1 (by omega)
  omega
theorem den_bd {a b d:Int} (ha:1<=a/\a<=400) (hb:1<=b/\b<=400) (hd:1<=d/\d<=10000):1<=a*b/\a*b<=160000/\1<=a*b*d/\a*b*d<=1600000000:=by
  have h1:1*1<=a*b:=Int.mul_le_mul ha.1 hb.1 (by omega) (by omega)
  have h2:a*b<=400*400:=Int.mul_le_mul ha.2 hb.2 (by omega) (by omega)
  have h3:1*1<=a*b*d:=Int.mul_le_mul (by omega) hd.1 (by omega) (by omega)
  have h4:a*b*d<=160000*10000:=Int.mul_le_mul (by omega) hd.2 (by omega) (by omega)
  omega
section
variable {S:List Sect} {r:Rch}
theorem Rok.iu (h:Rok S r):Int.toNat r.up<S.length:=by have:=h.u0; have:=h.ud; have:=h.d1; omega
theorem Rok.id (h:Rok S r):Int.toNat r.down<S.length:=by have:=h.u0; have:=h.ud; have:=h.d1; omega
theorem far (hS:Secs S) (h:Rok S r):1<=(S.getD (Int.toNat r.down) default).place-(S.getD (Int.toNat r.up) default).place/\(S.getD (Int.toNat r.down) default).place-(S.getD (Int.toNat r.up) default).place<=10000:=by
  have h1:=hS.up (Int.toNat r.up) (Int.toNat r.down) (by have:=h.u0; have:=h.ud; omega) h.id
  have h2:=hS.place _ h.id
  have h3:=hS.place _ h.iu
  omega
theorem carU (hS:Secs S) (h:Rok S r) (s:Int):0<=car (S.getD (Int.toNat r.up) default).rows s/\car (S.getD (Int.toNat r.up) default).rows s<=100000:=by
  have:=car_mono (hS.rows _ h.iu).1 (Int.le_refl s)
  omega
theorem carD (hS:Secs S) (h:Rok S r) (s:Int):0<=car (S.getD (Int.toNat r.down) default).rows s/\car (S.getD (Int.toNat r.down) default).rows s<=100000:=by
  have:=car_mono (hS.rows _ h.id).1 (Int.le_refl s)
  omega
theorem fl_nn (c:Cas):0<=fl S r c:=rt_nn _
/-- A flow rises with the upper stage, and falls with both roughnesses. -/
theorem fl_mono (hS:Secs S) (h:Rok S r) {c e:Cas} (hc:Cok c) (he:Cok e) (hd:c.down=e.down) (hu:c.up<=e.up) (h1:e.roughup<=c.roughup) (h2:e.roughdown<=c.roughdown):fl S r c<=fl S r e:=by
  have k1:=car_mono (hS.rows _ h.iu).1 hu
  have k2:=carD hS h c.down
  have k3:=far hS h
  have q1:=hc.du
  have q2:=he.u2
  have q3:=hc.d0
  have q4:=he.r1
  have q5:=he.r2
  have q6:=hc.r3
  have q7:=hc.r4
  unfold fl
  dsimp only
  rw [← hd]
  generalize car (S.getD (Int.toNat r.up) default).rows c.up=a at k1 ⊢
  generalize car (S.getD (Int.toNat r.up) default).rows e.up=a' at k1 ⊢
  generalize car (S.getD (Int.toNat r.down) default).rows c.down=b at k2 ⊢
  generalize (S.getD (Int.toNat r.down) default).place-(S.getD (Int.toNat r.up) default).place=f at k3 ⊢
  cases r.narrow with
  | true =>
    dsimp only [cond]
    have n:=num_bd k2 k2 (d:=c.up-c.down) (by omega)
    have n':=num_bd k2 k2 (d:=e.up-c.down) (by omega)
    have le:10000*b*b*(c.up-c.down)<=10000*b*b*(e.up-c.down):=Int.mul_le_mul_of_nonneg_left (by omega) n.1
    have d:=den_bd (a:=e.roughdown) (b:=e.roughdown) (d:=f) (by omega) (by omega) k3
    have dl:e.roughdown*e.roughdown*f<=c.roughdown*c.roughdown*f:=Int.mul_le_mul_of_nonneg_right (sq_mono (by omega) h2) (by omega)
    exact rt_mono (Int.ediv_nonneg n.2.2.1 (by omega)) (div_mono n.2.2.1 le (by omega) dl)
  | false =>
    dsimp only [cond]
    have n:=num_bd (a:=a) (b:=b) (by omega) k2 (d:=c.up-c.down) (by omega)
    have n':=num_bd (a:=a') (b:=b) (by omega) k2 (d:=e.up-c.down) (by omega)
    have l1:10000*a*b<=10000*a'*b:=Int.mul_le_mul_of_nonneg_right (by omega) k2.1
    have le:10000*a*b*(c.up-c.down)<=10000*a'*b*(e.up-c.down):=Int.mul_le_mul l1 (by omega) (by omega) n'.1
    have d:=den_bd (a:=e.roughup) (b:=e.roughdown) (d:=f) (by omega) (by omega) k3
    have l2:e.roughup*e.roughdown<=c.roughup*c.roughdown:=Int.mul_le_mul h1 h2 (by omega) (by omega)
    have dl:e.roughup*e.roughdown*f<=c.roughup*c.roughdown*f:=Int.mul_le_mul_of_nonneg_right l2 (by omega)
    exact rt_mono (Int.ediv_nonneg n.2.2.1 (by omega)) (div_mono n.2.2.1 le (by omega) dl)
end
def stLo (M:List Mrk) (ms:List Int) (p:Int):Int:=ms.foldl (fun a k=>if p<=(M.getD (Int.toNat k) default).place then max a (M.getD (Int.toNat k) default).lo else a) 0
def stHi (M:List Mrk) (ms:List Int) (p:Int):Int:=ms.foldl (fun a k=>if (M.getD (Int.toNat k) default).place<=p then min a (M.getD (Int.toNat k) default).hi else a) 2000
end Fl
end Go.Nm
namespace Go.Proofs.YtlemgioaakecpaaGreat
open Go Go.Nm
theorem flow_ends {S:List Sect} {M':List Mrk} {R':List Rch} {r:Rch} {c:Cas} (hS:Fl.Secs S) (h:Fl.Rok S r) (hc:Fl.Cok c):(zaZ S M' R' r c).Ends (Fl.fl S r c):=by
  have hu:=hS.rows _ h.iu
  have hd:=hS.rows _ h.id
  have k1:=Fl.carU hS h c.up
  have k2:=Fl.carD hS h c.down
  have k3:=Fl.far hS h
  have h0:=h.u0
  have h1:=h.ud
  have h2:=h.d1
  obtain ⟨c1,c2,c3,c4,c5,c6,c7⟩:=hc
  unfold zaZ
  refine M.i_bind (carry_ends (by omega) (by omega) hu.1 (by intro e; rw [e] at hu; simp at hu) (by omega) (by omega)) (M.i_bind (carry_ends (by omega) (by omega) hd.1 (by intro e; rw [e] at hd; simp at hd) (by omega) (by omega)) ?_)
  unfold Fl.fl
  dsimp only
  generalize Fl.car (S.getD (Int.toNat r.up) default).rows c.up=a at k1 ⊢
  generalize Fl.car (S.getD (Int.toNat r.down) default).rows c.down=b at k2 ⊢
  have key:∀ s a:Int,(0<=a/\a<=100000)->(1<=s/\s<=400)->(zaP S M' R' r c b s a).Ends (Fl.rt (10000*a*b*(c.up-c.down) / (s*c.roughdown*((S.getD (Int.toNat r.down) default).place-(S.getD (Int.toNat r.up) default).place)))):=fun s a ha hs=>by
    unfold zaP
    have n:=Fl.num_bd ha k2 (d:=c.up-c.down) (by omega)
    have d:=Fl.den_bd hs (b:=c.roughdown) (by omega) k3
    refine M.i_grd (gA2 (by omega) (by omega)) (M.i_grd (gA2 (by omega) (by omega)) (M.i_grd (gA2 (by omega) (by omega)) ?_))
    generalize (S.getD (Int.toNat r.down) default).place-(S.getD (Int.toNat r.up) default).place=f at d k3 ⊢
    refine M.i_grd (gA2 (by omega) (by omega)) (M.i_grd (gA2 (by omega) (by omega)) (M.i_grd (gA2 (by omega) (by omega)) (M.i_grd (gA2 (by omega) (by omega)) (M.i_grd (gA2 (by omega) (by omega)) (M.i_grd (gA2 (by omega) (by omega)) (M.i_grd (gA3 (by omega) (by omega) (by omega)) (M.i_bind (root_ends (Int.ediv_nonneg n.2.2.1 (by omega)) ?_) M.i_pure)))))))
    have:=Fl.div_mono n.2.2.1 (Int.le_refl _) (by decide:(0:Int)<1) (by omega:(1:Int)<=s*c.roughdown*f)
    rw [Int.ediv_one] at this
    omega
  cases hn:r.narrow with
  | true=>exact key _ _ k2 ⟨c5,c7⟩
  | false=>exact key _ _ k1 ⟨c4,c6⟩
theorem least_ends (a b:Int):(zay a [b]).Ends (min a b):=by
  unfold zay
  refine M.i_bind (M.i_next (s':=(min a b,1)) ?_ (M.i_stop ?_)) M.i_pure
  · simp only [zbi]
    exact M.i_t (by simp) (M.i_grd (by simp) M.i_pure)
  · simp only [zbi]
    exact M.i_f (by simp) M.i_pure
theorem stages_ends {S:List Sect} {M':List Mrk} {R':List Rch} {ms:List Int} {i:Int} (hm:∀ k∈ms,0<=k/\k<M'.length) (h0:0<=i) (h1:i<S.length) :
    (zap S M' R' ms i).Ends (Fl.stLo M' ms (S.getD (Int.toNat i) default).place,Fl.stHi M' ms (S.getD (Int.toNat i) default).place):=by
  unfold zap
  refine M.i_bind (a:=(Fl.stLo M' ms (S.getD (Int.toNat i) default).place,Fl.stHi M' ms (S.getD (Int.toNat i) default).place)) ?_ M.i_pure
  refine M.i_for (fun j=>(Fl.stLo M' (ms.take j) (S.getD (Int.toNat i) default).place,Fl.stHi M' (ms.take j) (S.getD (Int.toNat i) default).place,j)) ms.length (fun j hj=>?_) ?_
  · have hk:=hm (ms.getD j 0) (by rw [getD_el ms hj]; exact List.getElem_mem hj)
    simp only [zbC]
    refine M.i_t (decide_eq_true (by omega)) (M.i_grd (decide_eq_true (by omega)) (M.i_grd (gA2 hk.1 hk.2) (M.i_grd (gA2 h0 h1) ?_)))
    have el:Fl.stLo M' (ms.take (j+1)) (S.getD (Int.toNat i) default).place=if (S.getD (Int.toNat i) default).place<=(M'.getD (Int.toNat (ms.getD j 0)) default).place then max (Fl.stLo M' (ms.take j) (S.getD (Int.toNat i) default).place) (M'.getD (Int.toNat (ms.getD j 0)) default).lo else Fl.stLo M' (ms.take j) (S.getD (Int.toNat i) default).place:=by
      rw [← take_succ_D ms j hj 0]
      unfold Fl.stLo
      rw [List.foldl_append]
      rfl
    have eh:Fl.stHi M' (ms.take (j+1)) (S.getD (Int.toNat i) default).place=if (M'.getD (Int.toNat (ms.getD j 0)) default).place<=(S.getD (Int.toNat i) default).place then min (Fl.stHi M' (ms.take j) (S.getD (Int.toNat i) default).place) (M'.getD (Int.toNat (ms.getD j 0)) default).hi else Fl.stHi M' (ms.take j) (S.getD (Int.toNat i) default).place:=by
      rw [← take_succ_D ms j hj 0]
      unfold Fl.stHi
      rw [List.foldl_append]
      rfl
    rw [el,eh]
    refine M.i_if (fun hc=>?_) (fun hc=>?_)
    · have hc:=of_decide_eq_true hc
      rw [if_pos hc]
      refine M.i_bind (least_ends _ _) (M.i_if (fun hd=>?_) (fun hd=>?_))
      · rw [if_pos (of_decide_eq_true hd)]; exact M.i_pure
      · rw [if_neg (of_decide_eq_false hd)]; exact M.i_pure
    · have hc:=of_decide_eq_false hc
      rw [if_neg hc]
      refine M.i_if (fun hd=>?_) (fun hd=>?_)
      · rw [if_pos (of_decide_eq_true hd)]; exact M.i_pure
      · rw [if_neg (of_decide_eq_false hd)]; exact M.i_pure
  · simp only [zbC]
    rw [List.take_length]
    exact M.i_f (decide_eq_false (by omega)) M.i_pure
theorem nums_out {T X:Type} {bd:T->Int->M (T ⊕ X)} {lo hi:Int} (J:Int->T->Prop) (hl:lo<=hi+1) (h1:hi<=1000000) (h2:-1000000<=lo) {s0:T} (h0:J lo s0)
    (step:∀ x s,lo<=x->x<=hi->J x s->(bd s x).Out (fun r=>match r with | .inl s'=>J (x+1) s' | .inr _=>False)) :
    (zak (M.yl bd) (.inl s0) lo hi).Out (fun r=>match r with | .inl s=>J (hi+1) s | .inr _=>False):=by
  unfold zak
  refine M.o_bind (P:=fun (x:(T ⊕ X) ⊕ (T ⊕ X))=>∃ s,x = .inr (.inl s)/\J (hi+1) s) ?_ ?_
  · refine M.o_iter (fun m (x:Int × (T ⊕ X))=>∃ s,x.2 = .inl s/\lo<=x.1/\x.1<=hi+1/\m=(hi+1-x.1).toNat/\J x.1 s) ?_ _ (lo,.inl s0) ⟨s0,rfl,Int.le_refl _,hl,rfl,h0⟩
    rintro m ⟨n,t⟩ ⟨s,rfl,a,b,rfl,hj⟩
    dsimp only at a b hj ⊢
    simp only [za5]
    refine M.o_if (fun hb=>?_) (fun hb=>?_)
    · have hb:=of_decide_eq_true hb
      refine M.o_bind (P:=fun (y:Bool × (T ⊕ X))=>y.1=true/\∃ s',y.2 = .inl s'/\J (n+1) s') ?_ ?_
      · unfold M.yl
        refine M.o_bind (step n s a hb hj) ?_
        intro r hr
        cases r with
        | inl s'=>exact M.o_pure ⟨rfl,s',rfl,hr⟩
        | inr x=>exact hr.elim
      · rintro ⟨g,t⟩ ⟨h1',s',h2',hj'⟩
        dsimp only at h1' h2' ⊢
        subst h1' h2'
        refine M.o_f rfl (M.o_grd (gA2 (by omega) (by omega)) (M.o_pure ⟨(hi+1-(n+1)).toNat,by omega,s',rfl,by dsimp only; omega,by dsimp only; omega,rfl,hj'⟩))
    · have hb:=of_decide_eq_false hb
      obtain rfl:n=hi+1:=by omega
      exact M.o_pure ⟨s,rfl,hj⟩
  · rintro _ ⟨s,rfl,hj⟩
    exact M.o_pure hj
end Go.Proofs.YtlemgioaakecpaaGreat
namespace Go.Nm
namespace Fl
section
variable {M:List Mrk} {p:Int}
theorem lo_fold:∀ (ms:List Int) (a:Int),a<=ms.foldl (fun a k=>if p<=(M.getD (Int.toNat k) default).place then max a (M.getD (Int.toNat k) default).lo else a) a ∧
    (∀ k∈ms,p<=(M.getD (Int.toNat k) default).place->(M.getD (Int.toNat k) default).lo<=ms.foldl (fun a k=>if p<=(M.getD (Int.toNat k) default).place then max a (M.getD (Int.toNat k) default).lo else a) a) ∧
    (ms.foldl (fun a k=>if p<=(M.getD (Int.toNat k) default).place then max a (M.getD (Int.toNat k) default).lo else a) a=a∨∃ k∈ms,p<=(M.getD (Int.toNat k) default).place/\ms.foldl (fun a k=>if p<=(M.getD (Int.toNat k) default).place then max a (M.getD (Int.toNat k) default).lo else a) a=(M.getD (Int.toNat k) default).lo)
  | [],a=>⟨Int.le_refl _,fun k hk=>(List.not_mem_nil hk).elim,.inl rfl⟩
  | k :: ms,a=>by
    rw [List.foldl_cons]
    obtain ⟨h1,h2,h3⟩:=lo_fold ms (if p<=(M.getD (Int.toNat k) default).place then max a (M.getD (Int.toNat k) default).lo else a)
    by_cases hp:p<=(M.getD (Int.toNat k) default).place
    · rw [if_pos hp] at h1 h2 h3 ⊢
      refine ⟨by omega,fun j hj hpj=>?_,?_⟩
      · rcases List.mem_cons.1 hj with rfl | hj
        · omega
        · exact h2 j hj hpj
      · rcases h3 with h3 | ⟨j,hj,hpj,e⟩
        · rcases Int.le_total (M.getD (Int.toNat k) default).lo a with e | e
          · left; omega
          · right; exact ⟨k,by simp,hp,by omega⟩
        · right; exact ⟨j,by simp [hj],hpj,e⟩
    · rw [if_neg hp] at h1 h2 h3 ⊢
      refine ⟨h1,fun j hj hpj=>?_,?_⟩
      · rcases List.mem_cons.1 hj with rfl | hj
        · exact absurd hpj hp
        · exact h2 j hj hpj
      · rcases h3 with h3 | ⟨j,hj,hpj,e⟩
        · exact .inl h3
        · right; exact ⟨j,by simp [hj],hpj,e⟩
theorem hi_fold:∀ (ms:List Int) (a:Int),ms.foldl (fun a k=>if (M.getD (Int.toNat k) default).place<=p then min a (M.getD (Int.toNat k) default).hi else a) a<=a ∧
    (∀ k∈ms,(M.getD (Int.toNat k) default).place<=p->ms.foldl (fun a k=>if (M.getD (Int.toNat k) default).place<=p then min a (M.getD (Int.toNat k) default).hi else a) a<=(M.getD (Int.toNat k) default).hi) ∧
    (ms.foldl (fun a k=>if (M.getD (Int.toNat k) default).place<=p then min a (M.getD (Int.toNat k) default).hi else a) a=a∨∃ k∈ms,(M.getD (Int.toNat k) default).place<=p/\ms.foldl (fun a k=>if (M.getD (Int.toNat k) default).place<=p then min a (M.getD (Int.toNat k) default).hi else a) a=(M.getD (Int.toNat k) default).hi)
  | [],a=>⟨Int.le_refl _,fun k hk=>(List.not_mem_nil hk).elim,.inl rfl⟩
  | k :: ms,a=>by
    rw [List.foldl_cons]
    obtain ⟨h1,h2,h3⟩:=hi_fold ms (if (M.getD (Int.toNat k) default).place<=p then min a (M.getD (Int.toNat k) default).hi else a)
    by_cases hp:(M.getD (Int.toNat k) default).place<=p
    · rw [if_pos hp] at h1 h2 h3 ⊢
      refine ⟨by omega,fun j hj hpj=>?_,?_⟩
      · rcases List.mem_cons.1 hj with rfl | hj
        · omega
        · exact h2 j hj hpj
      · rcases h3 with h3 | ⟨j,hj,hpj,e⟩
        · rcases Int.le_total a (M.getD (Int.toNat k) default).hi with e | e
          · left; omega
          · right; exact ⟨k,by simp,hp,by omega⟩
        · right; exact ⟨j,by simp [hj],hpj,e⟩
    · rw [if_neg hp] at h1 h2 h3 ⊢
      refine ⟨h1,fun j hj hpj=>?_,?_⟩
      · rcases List.mem_cons.1 hj with rfl | hj
        · exact absurd hpj hp
        · exact h2 j hj hpj
      · rcases h3 with h3 | ⟨j,hj,hpj,e⟩
        · exact .inl h3
        · right; exact ⟨j,by simp [hj],hpj,e⟩
theorem stLo_nn (ms:List Int):0<=stLo M ms p:=(lo_fold ms 0).1
theorem stLo_ge {ms:List Int} {k:Int} (h:k∈ms) (hp:p<=(M.getD (Int.toNat k) default).place):(M.getD (Int.toNat k) default).lo<=stLo M ms p:=(lo_fold ms 0).2.1 k h hp
theorem stLo_ex (ms:List Int):stLo M ms p=0∨∃ k∈ms,p<=(M.getD (Int.toNat k) default).place/\stLo M ms p=(M.getD (Int.toNat k) default).lo:=(lo_fold ms 0).2.2
theorem stHi_le (ms:List Int):stHi M ms p<=2000:=(hi_fold ms 2000).1
theorem stHi_ge {ms:List Int} {k:Int} (h:k∈ms) (hp:(M.getD (Int.toNat k) default).place<=p):stHi M ms p<=(M.getD (Int.toNat k) default).hi:=(hi_fold ms 2000).2.1 k h hp
theorem stHi_ex (ms:List Int):stHi M ms p=2000∨∃ k∈ms,(M.getD (Int.toNat k) default).place<=p/\stHi M ms p=(M.getD (Int.toNat k) default).hi:=(hi_fold ms 2000).2.2
end
/-- Marks that are true together. -/
def Tog (M:List Mrk) (ms:List Int):Prop:=∀ a∈ms,∀ b∈ms,¬((M.getD (Int.toNat a) default).place<=(M.getD (Int.toNat b) default).place/\(M.getD (Int.toNat a) default).hi<(M.getD (Int.toNat b) default).lo)
def Ixs (M:List Mrk) (ms:List Int):Prop:=∀ k∈ms,0<=k/\k<M.length
theorem Ixs.mok {M:List Mrk} {ms:List Int} (hk:∀ x∈M,Mok x) (h:Ixs M ms) {k:Int} (hm:k∈ms):Mok (M.getD (Int.toNat k) default):=by
  have:=h k hm
  have hl:Int.toNat k<M.length:=by omega
  rw [getD_el M hl]
  exact hk _ (List.getElem_mem hl)
/-- What lies further up is bounded by no less from above. -/
theorem st_le {M:List Mrk} {ms:List Int} (hk:∀ x∈M,Mok x) (h:Ixs M ms) (ht:Tog M ms) {p q:Int} (hpq:q<=p):stLo M ms p<=stHi M ms q:=by
  rcases stLo_ex (M:=M) (p:=p) ms with e | ⟨a,ha,hpa,e⟩ <;> rcases stHi_ex (M:=M) (p:=q) ms with e' | ⟨b,hb,hpb,e'⟩
  · omega
  · have k1:=(h.mok hk hb).lh
    have k2:=(h.mok hk hb).l0
    omega
  · have:=(h.mok hk ha).lh
    have:=(h.mok hk ha).h2
    omega
  · have:=ht b hb a ha
    rw [e,e']
    rcases Int.lt_or_le (M.getD (Int.toNat b) default).hi (M.getD (Int.toNat a) default).lo with k | k
    · exact absurd ⟨by omega,k⟩ this
    · exact k
section
variable (S:List Sect) (M:List Mrk) (ms:List Int) (r:Rch)
def pu:Int:=(S.getD (Int.toNat r.up) default).place
def pd:Int:=(S.getD (Int.toNat r.down) default).place
/-- The lower stages that there can be. -/
def Dn (x:Int):Prop:=stLo M ms (pd S r)<=x/\x<=min (stHi M ms (pd S r)) (stHi M ms (pu S r))
def lc (x:Int):Cas:=⟨max (stLo M ms (pu S r)) x,x,r.hi,r.hi⟩
def hc (x:Int):Cas:=⟨stHi M ms (pu S r),x,r.lo,r.lo⟩
def IsLow (c:Cas) (n:Int):Prop:=∃ x,Dn S M ms r x/\c=lc S M ms r x/\n=fl S r c/\∀ y,Dn S M ms r y->n<=fl S r (lc S M ms r y)
def IsHigh (c:Cas) (n:Int):Prop:=∃ x,Dn S M ms r x/\c=hc S M ms r x/\n=fl S r c/\∀ y,Dn S M ms r y->fl S r (hc S M ms r y)<=n
end
section
variable {S:List Sect} {M:List Mrk} {ms:List Int} {r:Rch}
theorem lc_ok (hr:Rok S r) (hk:∀ x∈M,Mok x) (h:Ixs M ms) (ht:Tog M ms) {x:Int} (hx:Dn S M ms r x):Cok (lc S M ms r x):=by
  have h1:=stLo_nn (M:=M) (p:=pu S r) ms
  have h2:=stLo_nn (M:=M) (p:=pd S r) ms
  have h3:=stHi_le (M:=M) (p:=pu S r) ms
  have h4:=st_le hk h ht (Int.le_refl (pu S r))
  obtain ⟨a,b⟩:=hx
  have:=hr.l1
  have:=hr.lh
  have:=hr.h4
  unfold lc
  constructor <;> dsimp only <;> omega
theorem hc_ok (hr:Rok S r) {x:Int} (hx:Dn S M ms r x):Cok (hc S M ms r x):=by
  have h2:=stLo_nn (M:=M) (p:=pd S r) ms
  have h3:=stHi_le (M:=M) (p:=pu S r) ms
  obtain ⟨a,b⟩:=hx
  have:=hr.l1
  have:=hr.lh
  have:=hr.h4
  unfold hc
  constructor <;> dsimp only <;> omega
theorem pu_pd (hS:Secs S) (hr:Rok S r):pu S r<pd S r:=by
  have:=far hS hr
  unfold pu pd
  omega
theorem Dn.ne (hS:Secs S) (hr:Rok S r) (hk:∀ x∈M,Mok x) (h:Ixs M ms) (ht:Tog M ms):Dn S M ms r (stLo M ms (pd S r)):=by
  have h1:=st_le hk h ht (Int.le_refl (pd S r))
  have h2:=st_le hk h ht (Int.le_of_lt (pu_pd hS hr))
  exact ⟨Int.le_refl _,by omega⟩
end
end Fl
end Go.Nm
namespace Go.Proofs.YtlemgioaakecpaaGreat
open Go Go.Nm
section
variable {S:List Sect} {M':List Mrk} {R':List Rch} {ms:List Int} {r:Rch}
theorem bestL_out (hS:Fl.Secs S) (hr:Fl.Rok S r) (hk:∀ x∈M',Fl.Mok x) (h:Fl.Ixs M' ms) (ht:Fl.Tog M' ms) :
    (zaS S M' R' ms r).Out (fun x=>Fl.IsLow S M' ms r ⟨x.1,x.2.1,x.2.2.1,x.2.2.2.1⟩ x.2.2.2.2):=by
  have hne:=Fl.Dn.ne hS hr hk h ht
  have b1:=Fl.stLo_nn (M:=M') (p:=Fl.pd S r) ms
  have b2:=Fl.stHi_le (M:=M') (p:=Fl.pu S r) ms
  have hlo:=hr.l1
  have hlh:=hr.lh
  unfold zaS
  have h0:=hr.u0
  have h1:=hr.ud
  have h2:=hr.d1
  refine M.o_bindE (stages_ends h (by omega) (by omega)) (M.o_bindE (stages_ends h (by omega) (by omega)) (M.o_bindE (a:=false) (by unfold zbg; exact M.i_pure) (M.o_t rfl (M.o_bindE (least_ends _ _) (M.o_bindE (by unfold zau; exact M.i_pure) ?_)))))
  dsimp only
  refine M.o_bind (nums_out (lo:=Fl.stLo M' ms (Fl.pd S r)) (hi:=min (Fl.stHi M' ms (Fl.pd S r)) (Fl.stHi M' ms (Fl.pu S r))) (fun x (s:Int × Int × Int × Int × Int)=>(x=Fl.stLo M' ms (Fl.pd S r)/\s=(0,0,0,0,0))∨∃ y,Fl.Dn S M' ms r y/\y<x/\s=(Fl.fl S r (Fl.lc S M' ms r y),(Fl.lc S M' ms r y).up,(Fl.lc S M' ms r y).down,(Fl.lc S M' ms r y).roughup,(Fl.lc S M' ms r y).roughdown)/\∀ z,Fl.stLo M' ms (Fl.pd S r)<=z->z<x->Fl.fl S r (Fl.lc S M' ms r y)<=Fl.fl S r (Fl.lc S M' ms r z)) (by have:=hne.2; omega) (by omega) (by have:=hne.1; omega) (.inl ⟨rfl,rfl⟩) ?_) ?_
  · rintro x ⟨n,a,b,c,d⟩ hx1 hx2 hj
    have hx:Fl.Dn S M' ms r x:=⟨hx1,hx2⟩
    simp only [zaE]
    refine M.o_f rfl (M.o_bindE (flow_ends hS hr (Fl.lc_ok hr hk h ht hx)) ?_)
    rcases hj with ⟨rfl,e⟩ | ⟨y,hy,hyx,e,hz⟩
    · obtain ⟨rfl,rfl,rfl,rfl,rfl⟩:n=0/\a=0/\b=0/\c=0/\d=0:=by simpa using e
      refine M.o_bindE (M.i_opt (r:=false) (fun hc=>by simp at hc) (fun _=>rfl)) (M.o_t (by simp) (M.o_pure (.inr ⟨_,hx,by omega,rfl,fun z h1 h2=>?_⟩)))
      rw [show z=Fl.stLo M' ms (Fl.pd S r) by omega]
      exact Int.le_refl _
    · obtain ⟨e1,e2,e3,e4,e5⟩:n=Fl.fl S r (Fl.lc S M' ms r y)/\a=(Fl.lc S M' ms r y).up/\b=(Fl.lc S M' ms r y).down/\c=(Fl.lc S M' ms r y).roughup/\d=(Fl.lc S M' ms r y).roughdown:=by simpa only [Prod.mk.injEq] using e
      rw [e1,e2,e3,e4,e5]
      have hd:decide ((⟨(Fl.lc S M' ms r y).up,(Fl.lc S M' ms r y).down,(Fl.lc S M' ms r y).roughup,(Fl.lc S M' ms r y).roughdown⟩:Cas)=⟨0,0,0,0⟩)=false:=decide_eq_false (fun e=>by
        have:(Fl.lc S M' ms r y).roughup=0:=congrArg Cas.roughup e
        have e2:(Fl.lc S M' ms r y).roughup=r.hi:=rfl
        omega)
      refine M.o_bindE (M.i_opt (r:=decide (Fl.fl S r (Fl.lc S M' ms r x)<Fl.fl S r (Fl.lc S M' ms r y))) (fun _=>by unfold zbg; exact M.i_pure) (fun hc=>by rw [hd] at hc; cases hc)) ?_
      refine M.o_if (fun hc=>?_) (fun hc=>?_)
      · rw [hd,Bool.false_or] at hc
        have hc:=of_decide_eq_true hc
        refine M.o_pure (.inr ⟨x,hx,by omega,rfl,fun z h1 h2=>?_⟩)
        by_cases e:z<x
        · have:=hz z h1 e
          omega
        · rw [show z=x by omega]
          exact Int.le_refl _
      · rw [hd,Bool.false_or] at hc
        have hc:=of_decide_eq_false hc
        refine M.o_pure (.inr ⟨y,hy,by omega,rfl,fun z h1 h2=>?_⟩)
        by_cases e:z<x
        · exact hz z h1 e
        · rw [show z=x by omega]
          omega
  · intro s hs
    cases s with
    | inr _=>exact hs.elim
    | inl s =>
      rcases hs with ⟨e,_⟩ | ⟨y,hy,_,rfl,hz⟩
      · have:=hne.2
        omega
      · exact M.o_pure ⟨y,hy,rfl,rfl,fun z hz'=>hz z hz'.1 (by have:=hz'.2; omega)⟩
theorem bestH_out (hS:Fl.Secs S) (hr:Fl.Rok S r) (hk:∀ x∈M',Fl.Mok x) (h:Fl.Ixs M' ms) (ht:Fl.Tog M' ms) :
    (zaX S M' R' ms r).Out (fun x=>Fl.IsHigh S M' ms r ⟨x.1,x.2.1,x.2.2.1,x.2.2.2.1⟩ x.2.2.2.2):=by
  have hne:=Fl.Dn.ne hS hr hk h ht
  have b1:=Fl.stLo_nn (M:=M') (p:=Fl.pd S r) ms
  have b2:=Fl.stHi_le (M:=M') (p:=Fl.pu S r) ms
  have hlo:=hr.l1
  have hlh:=hr.lh
  unfold zaX
  have h0:=hr.u0
  have h1:=hr.ud
  have h2:=hr.d1
  refine M.o_bindE (stages_ends h (by omega) (by omega)) (M.o_bindE (stages_ends h (by omega) (by omega)) (M.o_bindE (a:=true) (by unfold zbq; exact M.i_pure) (M.o_f rfl (M.o_bindE (least_ends _ _) (M.o_bindE (by unfold zau; exact M.i_pure) ?_)))))
  dsimp only
  refine M.o_bind (nums_out (lo:=Fl.stLo M' ms (Fl.pd S r)) (hi:=min (Fl.stHi M' ms (Fl.pd S r)) (Fl.stHi M' ms (Fl.pu S r))) (fun x (s:Int × Int × Int × Int × Int)=>(x=Fl.stLo M' ms (Fl.pd S r)/\s=(0,0,0,0,0))∨∃ y,Fl.Dn S M' ms r y/\y<x/\s=(Fl.fl S r (Fl.hc S M' ms r y),(Fl.hc S M' ms r y).up,(Fl.hc S M' ms r y).down,(Fl.hc S M' ms r y).roughup,(Fl.hc S M' ms r y).roughdown)/\∀ z,Fl.stLo M' ms (Fl.pd S r)<=z->z<x->Fl.fl S r (Fl.hc S M' ms r z)<=Fl.fl S r (Fl.hc S M' ms r y)) (by have:=hne.2; omega) (by omega) (by have:=hne.1; omega) (.inl ⟨rfl,rfl⟩) ?_) ?_
  · rintro x ⟨n,a,b,c,d⟩ hx1 hx2 hj
    have hx:Fl.Dn S M' ms r x:=⟨hx1,hx2⟩
    simp only [zaF]
    refine M.o_t rfl (M.o_bindE (flow_ends hS hr (Fl.hc_ok hr hx)) ?_)
    rcases hj with ⟨rfl,e⟩ | ⟨y,hy,hyx,e,hz⟩
    · obtain ⟨rfl,rfl,rfl,rfl,rfl⟩:n=0/\a=0/\b=0/\c=0/\d=0:=by simpa using e
      refine M.o_bindE (M.i_opt (r:=false) (fun hc=>by simp at hc) (fun _=>rfl)) (M.o_t (by simp) (M.o_pure (.inr ⟨_,hx,by omega,rfl,fun z h1 h2=>?_⟩)))
      rw [show z=Fl.stLo M' ms (Fl.pd S r) by omega]
      exact Int.le_refl _
    · obtain ⟨e1,e2,e3,e4,e5⟩:n=Fl.fl S r (Fl.hc S M' ms r y)/\a=(Fl.hc S M' ms r y).up/\b=(Fl.hc S M' ms r y).down/\c=(Fl.hc S M' ms r y).roughup/\d=(Fl.hc S M' ms r y).roughdown:=by simpa only [Prod.mk.injEq] using e
      rw [e1,e2,e3,e4,e5]
      have hd:decide ((⟨(Fl.hc S M' ms r y).up,(Fl.hc S M' ms r y).down,(Fl.hc S M' ms r y).roughup,(Fl.hc S M' ms r y).roughdown⟩:Cas)=⟨0,0,0,0⟩)=false:=decide_eq_false (fun e=>by
        have:(Fl.hc S M' ms r y).roughup=0:=congrArg Cas.roughup e
        have e2:(Fl.hc S M' ms r y).roughup=r.lo:=rfl
        omega)
      refine M.o_bindE (M.i_opt (r:=decide (Fl.fl S r (Fl.hc S M' ms r y)<Fl.fl S r (Fl.hc S M' ms r x))) (fun _=>by unfold zbq; exact M.i_pure) (fun hc=>by rw [hd] at hc; cases hc)) ?_
      refine M.o_if (fun hc=>?_) (fun hc=>?_)
      · rw [hd,Bool.false_or] at hc
        have hc:=of_decide_eq_true hc
        refine M.o_pure (.inr ⟨x,hx,by omega,rfl,fun z h1 h2=>?_⟩)
        by_cases e:z<x
        · have:=hz z h1 e
          omega
        · rw [show z=x by omega]
          exact Int.le_refl _
      · rw [hd,Bool.false_or] at hc
        have hc:=of_decide_eq_false hc
        refine M.o_pure (.inr ⟨y,hy,by omega,rfl,fun z h1 h2=>?_⟩)
        by_cases e:z<x
        · exact hz z h1 e
        · rw [show z=x by omega]
          omega
  · intro s hs
    cases s with
    | inr _=>exact hs.elim
    | inl s =>
      rcases hs with ⟨e,_⟩ | ⟨y,hy,_,rfl,hz⟩
      · have:=hne.2
        omega
      · exact M.o_pure ⟨y,hy,rfl,rfl,fun z hz'=>hz z hz'.1 (by have:=hz'.2; omega)⟩
theorem peak_out (hS:Fl.Secs S) (hr:Fl.Rok S r) (hk:∀ x∈M',Fl.Mok x) (h:Fl.Ixs M' ms) (ht:Fl.Tog M' ms) :
    (zan S M' R' ms r).Out (fun x=>(∃ c,Fl.IsLow S M' ms r c x.1)/\∃ c,Fl.IsHigh S M' ms r c x.2):=by
  unfold zan
  refine M.o_bindE (by unfold zbu; exact M.i_pure) (M.o_bind (bestL_out hS hr hk h ht) ?_)
  rintro ⟨a,b,c,d,n⟩ h1
  refine M.o_bindE (by unfold zbK; exact M.i_pure) (M.o_bind (bestH_out hS hr hk h ht) ?_)
  rintro ⟨a',b',c',d',n'⟩ h2
  exact M.o_pure ⟨⟨_,h1⟩,⟨_,h2⟩⟩
end
end Go.Proofs.YtlemgioaakecpaaGreat
namespace Go.Nm
namespace Fl
theorem Rows.cle {l:List FRow} (h:Rows l) {i j:Nat} (hij:i<=j) (hj:j<l.length):(l.getD i default).carry<=(l.getD j default).carry:=by
  induction j with
  | zero=>rw [show i=0 by omega]; exact Int.le_refl _
  | succ j ih =>
    rcases Nat.lt_or_eq_of_le hij with e | rfl
    · have:=ih (by omega) (by omega)
      have:=h.cm j hj
      omega
    · exact Int.le_refl _
/-- Marks, one behind the other. -/
def Inc (M:List Mrk) (ms:List Int):Prop:=ms.Pairwise (· < ·)/\Ixs M ms
end Fl
end Go.Nm
namespace Go.Proofs.YtlemgioaakecpaaGreat
open Go Go.Nm
theorem in_true {n a b:Int} (h1:a<=n) (h2:n<=b):(zab n a b).Ends true:=by
  have:(zab n a b).Ends (decide (a<=n)&&decide (n<=b)):=M.i_pure
  rwa [gA2 h1 h2] at this
theorem every_sect (l:List Sect) (so:Sect->M Bool) (h:∀ t∈l,(so t).Ends true):(za3 l so).Ends true:=by
  unfold za3 zct zci
  refine M.i_bind (a:=false) (M.i_bind (a:=-1) (M.i_bind (a:=(.inr ():Int ⊕ Unit)) ?_ M.i_pure) M.i_pure) M.i_pure
  refine M.i_for (fun i=>i) l.length (fun i hi=>?_) ?_
  · simp only [zat]
    have hm:l.getD i default∈l:=by rw [getD_el l hi]; exact List.getElem_mem hi
    refine M.i_t (decide_eq_true (by omega)) (M.i_grd (decide_eq_true (by omega)) (M.i_bind (a:=false) ?_ (M.i_f rfl M.i_pure)))
    unfold zbb
    exact M.i_bind (h _ hm) M.i_pure
  · simp only [zat]
    exact M.i_f (decide_eq_false (by omega)) M.i_pure
theorem every_mark (l:List Mrk) (so:Mrk->M Bool) (h:∀ t∈l,(so t).Ends true):(zaU l so).Ends true:=by
  unfold zaU zcw zb8
  refine M.i_bind (a:=false) (M.i_bind (a:=-1) (M.i_bind (a:=(.inr ():Int ⊕ Unit)) ?_ M.i_pure) M.i_pure) M.i_pure
  refine M.i_for (fun i=>i) l.length (fun i hi=>?_) ?_
  · simp only [zaD]
    have hm:l.getD i default∈l:=by rw [getD_el l hi]; exact List.getElem_mem hi
    refine M.i_t (decide_eq_true (by omega)) (M.i_grd (decide_eq_true (by omega)) (M.i_bind (a:=false) ?_ (M.i_f rfl M.i_pure)))
    unfold zbM
    exact M.i_bind (h _ hm) M.i_pure
  · simp only [zaD]
    exact M.i_f (decide_eq_false (by omega)) M.i_pure
theorem every_reach (l:List Rch) (so:Rch->M Bool) (h:∀ t∈l,(so t).Ends true):(zaM l so).Ends true:=by
  unfold zaM zcd zcz
  refine M.i_bind (a:=false) (M.i_bind (a:=-1) (M.i_bind (a:=(.inr ():Int ⊕ Unit)) ?_ M.i_pure) M.i_pure) M.i_pure
  refine M.i_for (fun i=>i) l.length (fun i hi=>?_) ?_
  · simp only [zaw]
    have hm:l.getD i default∈l:=by rw [getD_el l hi]; exact List.getElem_mem hi
    refine M.i_t (decide_eq_true (by omega)) (M.i_grd (decide_eq_true (by omega)) (M.i_bind (a:=false) ?_ (M.i_f rfl M.i_pure)))
    unfold zbv
    exact M.i_bind (h _ hm) M.i_pure
  · simp only [zaw]
    exact M.i_f (decide_eq_false (by omega)) M.i_pure
theorem every_int (l:List Int) (so:Int->M Bool) (h:∀ t∈l,(so t).Ends true):(zal l so).Ends true:=by
  unfold zal zcF zcr
  refine M.i_bind (a:=false) (M.i_bind (a:=-1) (M.i_bind (a:=(.inr ():Int ⊕ Unit)) ?_ M.i_pure) M.i_pure) M.i_pure
  refine M.i_for (fun i=>i) l.length (fun i hi=>?_) ?_
  · simp only [zaJ]
    have hm:l.getD i 0∈l:=by rw [getD_el l hi]; exact List.getElem_mem hi
    refine M.i_t (decide_eq_true (by omega)) (M.i_grd (decide_eq_true (by omega)) (M.i_bind (a:=false) ?_ (M.i_f rfl M.i_pure)))
    unfold zbw
    exact M.i_bind (h _ hm) M.i_pure
  · simp only [zaJ]
    exact M.i_f (decide_eq_false (by omega)) M.i_pure
theorem sright_ends {x:Sect} (hr:Fl.Rows x.rows) (h0:0<=x.place) (h1:x.place<=10000):(za2 x).Ends true:=by
  refine M.Out.ends ?_
  unfold za2
  refine M.o_bind (P:=fun z=>match z with | .inl _=>False | .inr (_:Int × Int)=>True) ?_ ?_
  · refine M.o_for x.rows.length (fun i (s:Int × Int × Nat)=>s.2.2=i/\-1<=s.1/\s.1<=2000/\(∀ j,i<=j->j<x.rows.length->s.1<(x.rows.getD j default).stage)/\∀ j,i<=j->j<x.rows.length->s.2.1<=(x.rows.getD j default).carry) ?_ ?_ (s:=(-1,0,0)) ⟨rfl,by decide,by decide,fun j _ hj=>by have:=hr.el j hj; dsimp only; omega,fun j _ hj=>by have:=hr.el j hj; dsimp only; omega⟩
    · rintro i ⟨a,b,_⟩ hi ⟨rfl,h2,h3,h4,h5⟩
      dsimp only at hi h2 h3 h4 h5 ⊢
      have e:=hr.el _ hi
      have k1:=h4 _ (Nat.le_refl _) hi
      have k2:=h5 _ (Nat.le_refl _) hi
      simp only [zaz]
      refine M.o_t (decide_eq_true (by omega)) (M.o_grd (decide_eq_true (by omega)) (M.o_grd (gA2 (by omega) (by omega)) (M.o_bindE (in_true (by omega) (by omega)) (M.o_bindE (M.i_opt (fun _=>in_true (by omega) (by omega)) (fun h=>by cases h)) (M.o_f rfl (M.o_pure ⟨rfl,by dsimp only; omega,by dsimp only; omega,fun j hj hj'=>hr.lt hj hj',fun j hj hj'=>hr.cle (by omega) hj'⟩))))))
    · rintro ⟨a,b,_⟩ ⟨rfl,_⟩
      simp only [zaz]
      exact M.o_f (decide_eq_false (by omega)) (M.o_pure trivial)
  · intro z hz
    cases z with
    | inl _=>exact hz.elim
    | inr _=>exact M.o_bindE (in_true h0 h1) (M.o_pure rfl)
theorem mright_ends {m:Mrk} (h:Fl.Mok m):(zao m).Ends true:=by
  obtain ⟨h1,h2,h3,h4,h5⟩:=h
  unfold zao zaA
  exact M.i_bind (in_true h1 h2) (M.i_bind (M.i_opt (fun _=>M.i_bind (in_true h3 (by dsimp only; omega)) (M.i_bind (M.i_opt (fun _=>in_true h4 h5) (fun h=>by cases h)) M.i_pure)) (fun h=>by cases h)) M.i_pure)
theorem rright_ends {S:List Sect} {r:Rch} (hn:S.length<=6) (h:Fl.Rok S r):(zaL r (S.length:Int)).Ends true:=by
  obtain ⟨h1,h2,h3,h4,h5,h6⟩:=h
  unfold zaL zaA
  refine M.i_grd (gA2 (by omega) (by omega)) (M.i_bind (in_true h1 (by omega)) (M.i_grd (gOr2 (by omega) (by omega)) (M.i_bind (M.i_opt (fun _=>in_true (by omega) (by omega)) (fun h=>by cases h)) (M.i_bind (M.i_opt (fun _=>M.i_bind (in_true h4 (by dsimp only; omega)) (M.i_bind (M.i_opt (fun _=>in_true h5 h6) (fun h=>by cases h)) M.i_pure)) (fun h=>by cases h)) M.i_pure))))
section
variable {S:List Sect} {M':List Mrk} {R':List Rch} {ms:List Int} {r:Rch}
theorem check_ends (h:Fl.Site S M' R'):(zav S M' R').Ends 0:=by
  obtain ⟨hS,hm,hr,hmk,hrk⟩:=h
  obtain ⟨hn,hrows,hpl,hup⟩:=hS
  unfold zav
  refine M.i_bind (in_true (by omega) (by omega)) (M.i_bind (M.i_opt (fun _=>in_true (by omega) (by omega)) (fun h=>by cases h)) (M.i_bind (M.i_opt (fun _=>in_true (by omega) (by omega)) (fun h=>by cases h)) (M.i_bind (M.i_opt (fun _=>every_sect _ _ fun x hx=>?_) (fun h=>by cases h)) (M.i_f rfl ?_))))
  · obtain ⟨i,hi,rfl⟩:=mem_getD hx default
    unfold zaW
    have:=hrows i hi
    exact M.i_bind (in_true (by omega) (by omega)) M.i_pure
  · refine M.Out.ends (M.o_bind (P:=fun z=>match z with | .inl _=>False | .inr (_:Unit)=>True) ?_ ?_)
    · refine M.o_for S.length (fun i (s:Int × Nat)=>s.2=i/\∀ j,i<=j->j<S.length->s.1<(S.getD j default).place) ?_ ?_ (s:=(-1,0)) ⟨rfl,fun j _ hj=>by have:=hpl j hj; dsimp only; omega⟩
      · rintro i ⟨a,_⟩ hi ⟨rfl,h2⟩
        dsimp only at hi h2 ⊢
        have e:=hpl _ hi
        have k1:=h2 _ (Nat.le_refl _) hi
        simp only [zaC]
        exact M.o_t (decide_eq_true (by omega)) (M.o_grd (decide_eq_true (by omega)) (M.o_bindE (sright_ends (hrows _ hi).1 e.1 e.2) (M.o_f (decide_eq_false (p:=(S.getD _ default).place<=a) (by omega)) (M.o_pure ⟨rfl,fun j hj hj'=>hup _ _ hj hj'⟩))))
      · rintro ⟨a,_⟩ ⟨rfl,_⟩
        simp only [zaC]
        exact M.o_f (decide_eq_false (by omega)) (M.o_pure trivial)
    · intro z hz
      cases z with
      | inl _=>exact hz.elim
      | inr _ =>
        refine M.o_bindE (every_mark _ _ fun x hx=>mright_ends (hmk x hx)) (M.o_bindE (M.i_opt (fun _=>every_reach _ _ fun x hx=>?_) (fun h=>by cases h)) (M.o_f rfl (M.o_pure rfl)))
        unfold zaN
        exact M.i_bind (rright_ends hn.2 (hrk x hx)) M.i_pure
theorem opened_ends (h:Fl.Site S M' R'):(zah S M' R').Ends (.inr 0):=by
  unfold zah
  exact M.i_bind (check_ends h) (M.i_f rfl M.i_pure)
theorem chosen_ends (h:Fl.Site S M' R') (hc:Fl.Inc M' ms):(zar S M' R' ms).Ends (.inr 0):=by
  unfold zar
  refine M.i_bind (opened_ends h) (M.i_bind (a:=0) (M.Out.ends ?_) M.i_pure)
  have hm:=h.m
  refine M.o_for ms.length (fun i (s:Int × Int × Nat)=>s.1=0/\s.2.2=i/\-1<=s.2.1/\s.2.1<=16/\∀ j,i<=j->j<ms.length->s.2.1<ms.getD j 0) ?_ ?_ (s:=(0,-1,0)) ⟨rfl,rfl,by decide,by decide,fun j _ hj=>by have:=hc.2 (ms.getD j 0) (by rw [getD_el ms hj]; exact List.getElem_mem hj); dsimp only; omega⟩
  · rintro i ⟨_,a,_⟩ hi ⟨rfl,rfl,h2,h3,h4⟩
    dsimp only at hi h2 h3 h4 ⊢
    have e:=hc.2 (ms.getD _ 0) (by rw [getD_el ms hi]; exact List.getElem_mem hi)
    have k1:=h4 _ (Nat.le_refl _) hi
    simp only [zaG]
    refine M.o_t (decide_eq_true (by omega)) (M.o_grd (decide_eq_true (by omega)) (M.o_grd (gOr2 (by omega) (by omega)) (M.o_bindE (M.i_opt (fun _=>in_true (by omega) (by omega)) (fun h=>by cases h)) (M.o_f rfl (M.o_pure ⟨rfl,rfl,by dsimp only; omega,by dsimp only; omega,fun j hj hj'=>?_⟩)))))
    rw [getD_el ms hi,getD_el ms hj']
    exact List.pairwise_iff_getElem.1 hc.1 _ _ hi hj' hj
  · rintro ⟨_,a,_⟩ ⟨rfl,rfl,_⟩
    simp only [zaG]
    exact M.o_f (decide_eq_false (by omega)) (M.o_pure rfl)
theorem asked_ends (h:Fl.Site S M' R') (hc:Fl.Inc M' ms) {i:Int} (h0:0<=i) (h1:i<R'.length) :
    (zam S M' R' ms i).Ends (.inr ((R'.getD (Int.toNat i) default).up,(R'.getD (Int.toNat i) default).down,(R'.getD (Int.toNat i) default).lo,(R'.getD (Int.toNat i) default).hi,(R'.getD (Int.toNat i) default).narrow,0)):=by
  unfold zam
  exact M.i_bind (chosen_ends h hc) (M.i_bind (M.i_opt (fun _=>in_true h0 (by omega)) (fun h=>by cases h)) (M.i_f rfl (M.i_f rfl (M.i_grd (gA2 h0 h1) M.i_pure))))
theorem ahead_ends {a b:Int} (ha:0<=a/\a<M'.length) (hb:0<=b/\b<M'.length) :
    (zaf S M' R' a b).Ends (decide ((M'.getD (Int.toNat a) default).place<=(M'.getD (Int.toNat b) default).place)&&decide ((M'.getD (Int.toNat a) default).hi<(M'.getD (Int.toNat b) default).lo)):=by
  unfold zaf
  exact M.i_grd (gA2 ha.1 ha.2) (M.i_grd (gA2 hb.1 hb.2) M.i_pure)
theorem ahead_false {a b:Int} (hx:Fl.Ixs M' ms) (ht:Fl.Tog M' ms) (ha:a∈ms) (hb:b∈ms):(zaf S M' R' a b).Ends false:=by
  have:=ahead_ends (S:=S) (R':=R') (hx a ha) (hx b hb)
  rwa [show (decide ((M'.getD (Int.toNat a) default).place<=(M'.getD (Int.toNat b) default).place)&&decide ((M'.getD (Int.toNat a) default).hi<(M'.getD (Int.toNat b) default).lo))=false by
    rw [Bool.and_eq_false_iff,decide_eq_false_iff_not,decide_eq_false_iff_not]
    have:=ht a ha b hb
    omega] at this
theorem together_ends (hx:Fl.Ixs M' ms) (ht:Fl.Tog M' ms):(zai S M' R' ms).Ends true:=by
  unfold zai
  refine M.i_bind (every_int _ _ fun a ha=>?_) M.i_pure
  unfold zaB
  refine M.i_bind (every_int _ _ fun b hb=>?_) M.i_pure
  unfold zaR
  exact M.i_bind (ahead_false hx ht ha hb) M.i_pure
end
end Go.Proofs.YtlemgioaakecpaaGreat
namespace Go.Nm
namespace Fl
/-- As many numbers below n as there are of a kind. -/
def cnt (p:Nat->Bool):Nat->Nat
  | 0=>0
  | n+1=>cnt p n+(if p n=true then 1 else 0)
theorem cnt_le {p q:Nat->Bool}:∀ n,(∀ b,b<n->p b=true->q b=true)->cnt p n<=cnt q n
  | 0,_=>Nat.le_refl _
  | n+1,h=>by
    have h1:=cnt_le n (fun b hb=>h b (by omega))
    unfold cnt
    by_cases e:p n=true
    · rw [if_pos e,if_pos (h n (by omega) e)]; omega
    · rw [if_neg e]; omega
theorem cnt_lt {p q:Nat->Bool}:∀ n,(∀ b,b<n->p b=true->q b=true)->∀ x,x<n->p x=false->q x=true->cnt p n<cnt q n
  | 0,_,_,h,_,_=>by omega
  | n+1,h,x,hx,h1,h2=>by
    unfold cnt
    by_cases e:x=n
    · subst e
      have h3:=cnt_le x (fun b hb=>h b (by omega))
      rw [h1,h2]
      simp
      omega
    · have h3:=cnt_lt n (fun b hb=>h b (by omega)) x (by omega) h1 h2
      by_cases e:p n=true
      · rw [if_pos e,if_pos (h n (by omega) e)]; omega
      · rw [if_neg e]; omega
section
variable {M:List Mrk}
/-- A mark contradicts another one that lies no less far downstream. -/
def ah (M:List Mrk) (a b:Nat):Prop:=(M.getD a default).place<=(M.getD b default).place/\(M.getD a default).hi<(M.getD b default).lo
instance (a b:Nat):Decidable (ah M a b):=inferInstanceAs (Decidable (_/\_))
theorem mk_lh (hk:∀ x∈M,Mok x) {b:Nat} (hb:b<M.length):(M.getD b default).lo<=(M.getD b default).hi:=by
  rw [getD_el M hb]
  exact (hk _ (List.getElem_mem hb)).lh
theorem ah_trans (hk:∀ x∈M,Mok x) {a b c:Nat} (hb:b<M.length) (h1:ah M a b) (h2:ah M b c):ah M a c:=by
  have:=mk_lh hk hb
  obtain ⟨a1,a2⟩:=h1
  obtain ⟨b1,b2⟩:=h2
  exact ⟨Int.le_trans a1 b1,by omega⟩
theorem ah_irr (hk:∀ x∈M,Mok x) {a:Nat} (ha:a<M.length):¬ah M a a:=fun h=>by
  have:=mk_lh hk ha
  have:=h.2
  omega
/-- What was met. -/
def met (mp:Int->Option Bool) (b:Nat):Bool:=(mp (b:Int)).getD false
theorem met_upd {mp:Int->Option Bool} {i b:Nat}:met (updF mp (i:Int) true) b=true↔b=i∨met mp b=true:=by
  unfold met updF
  by_cases e:(b:Int)=(i:Int)
  · rw [if_pos e]
    have:b=i:=by omega
    simp [this]
  · rw [if_neg e]
    have:b ≠ i:=by omega
    simp [this]
/-- Which mark follows each one in its row, and which one it follows. -/
structure Mtc (M:List Mrk) (nx ls:List Int):Prop where
  n1:nx.length=16
  l1:ls.length=16
  l:∀ b,b<M.length->ls.getD b 0 = -1∨∃ c,c<M.length/\ls.getD b 0=(c:Int)/\ah M c b/\nx.getD c 0=(b:Int)
  n:∀ c,c<M.length->nx.getD c 0 = -1∨∃ b,b<M.length/\nx.getD c 0=(b:Int)/\ls.getD b 0=(c:Int)
/-- Marks each of which follows one, all that this one contradicts among them. -/
def Cl (M:List Mrk) (K:Nat->Prop) (ls:List Int):Prop:=∀ b,K b->b<M.length/\∃ c,c<M.length/\ls.getD b 0=(c:Int)/\∀ x,x<M.length->ah M c x->K x
/-- Rows that were made one more link long. -/
structure Sc (M:List Mrk) (K:Nat->Prop) (a:Nat) (mp:Int->Option Bool) (nx ls nx' ls':List Int):Prop where
  n1:nx'.length=16
  l1:ls'.length=16
  ex:∃ b,b<M.length/\met mp b=false/\¬K b/\ah M a b/\nx'.getD a 0=(b:Int)/\ls'.getD b 0=(a:Int)
  l:∀ x,x<M.length->ls.getD x 0 ≠ (a:Int)->ls'.getD x 0 = -1∨∃ c,c<M.length/\ls'.getD x 0=(c:Int)/\ah M c x/\nx'.getD c 0=(x:Int)
  n:∀ c,c<M.length->nx'.getD c 0 = -1∨∃ x,x<M.length/\nx'.getD c 0=(x:Int)/\ls'.getD x 0=(c:Int)
  fr:∀ x,x<M.length->(met mp x=true∨K x)->ls'.getD x 0=ls.getD x 0
  k1:∀ c,c<M.length->c ≠ a->(nx'.getD c 0 = -1↔nx.getD c 0 = -1)
  fn:∀ c,c<M.length->c ≠ a->∀ y,y<M.length->ls.getD y 0=(c:Int)->met mp y=true->nx'.getD c 0=nx.getD c 0
/-- What a search that finds nothing has met. -/
structure Ps (M:List Mrk) (a i:Nat) (mp mp':Int->Option Bool) (ls:List Int):Prop where
  le:∀ b,met mp b=true->met mp' b=true
  nb:∀ c,c<i->ah M a c->met mp' c=true
  nw:∀ b,met mp' b=true->met mp b=false->b<M.length/\∃ c,c<M.length/\ls.getD b 0=(c:Int)/\∀ x,x<M.length->ah M c x->met mp' x=true
variable {K:Nat->Prop} {a i s:Nat} {mp mp1 mp2:Int->Option Bool} {nx ls nx' ls':List Int}
theorem Ps.zero:Ps M a 0 mp mp ls:=⟨fun _ h=>h,fun c h=>by omega,fun b h1 h2=>by rw [h1] at h2; cases h2⟩
theorem Ps.skip (h:Ps M a i mp mp1 ls) (hs:ah M a i->met mp1 i=true):Ps M a (i+1) mp mp1 ls :=
  ⟨h.le,fun c hc ha=>by
    by_cases e:c=i
    · subst e; exact hs ha
    · exact h.nb c (by omega) ha,h.nw⟩
theorem Ps.fail (h:Ps M a i mp mp1 ls) (hi:i<M.length) {c:Nat} (hc:c<M.length) (e:ls.getD i 0=(c:Int)) (h2:Ps M c M.length (updF mp1 (i:Int) true) mp2 ls):Ps M a (i+1) mp mp2 ls:=by
  have u:∀ b,met mp1 b=true->met mp2 b=true:=fun b hb=>h2.le b (met_upd.2 (.inr hb))
  have ui:met mp2 i=true:=h2.le i (met_upd.2 (.inl rfl))
  refine ⟨fun b hb=>u b (h.le b hb),fun x hx ha=>?_,fun b h1 h0=>?_⟩
  · by_cases k:x=i
    · subst k; exact ui
    · exact u x (h.nb x (by omega) ha)
  · by_cases k1 : met mp1 b = true
    · obtain ⟨hb,d,hd,e1,e2⟩:=h.nw b k1 h0
      exact ⟨hb,d,hd,e1,fun x hx ha=>u x (e2 x hx ha)⟩
    · by_cases k2:b=i
      · subst k2
        exact ⟨hi,c,hc,e,fun x hx ha=>h2.nb x hx ha⟩
      · refine h2.nw b h1 ?_
        cases hm:met (updF mp1 (i:Int) true) b with
        | false=>rfl
        | true => rcases met_upd.1 hm with k | k
                  · exact absurd k k2
                  · exact absurd k k1
theorem Sc.free (hM:Mtc M nx ls) (hK:Cl M K ls) (hn:M.length<=16) (ha:a<M.length) (hs:s<M.length) (hm:met mp s=false) (hah:ah M a s) (e:ls.getD s 0 = -1):Sc M K a mp nx ls (nx.set a (s:Int)) (ls.set s (a:Int)):=by
  have n1:=hM.n1
  have l1:=hM.l1
  have gn:∀ c,(nx.set a (s:Int)).getD c 0=if c=a then (s:Int) else nx.getD c 0:=fun c=>gset nx a c _ 0 (by omega)
  have gl:∀ c,(ls.set s (a:Int)).getD c 0=if c=s then (a:Int) else ls.getD c 0:=fun c=>gset ls s c _ 0 (by omega)
  have ks:¬K s:=fun k=>by
    obtain ⟨_,c,_,h,_⟩:=hK s k
    omega
  refine ⟨by simp [n1],by simp [l1],⟨s,hs,hm,ks,hah,by rw [gn,if_pos rfl],by rw [gl,if_pos rfl]⟩,fun x hx hne=>?_,fun c hc=>?_,fun x hx h=>?_,fun c hc hca=>?_,fun c hc hca y hy e1 e2=>?_⟩
  · by_cases k:x=s
    · subst k
      exact .inr ⟨a,ha,by rw [gl,if_pos rfl],hah,by rw [gn,if_pos rfl]⟩
    · rw [gl,if_neg k]
      rcases hM.l x hx with h | ⟨c,hc,h1,h2,h3⟩
      · exact .inl h
      · refine .inr ⟨c,hc,h1,h2,?_⟩
        rw [gn,if_neg (fun k'=>hne (by rw [h1,k']))]
        exact h3
  · by_cases k:c=a
    · subst k
      exact .inr ⟨s,hs,by rw [gn,if_pos rfl],by rw [gl,if_pos rfl]⟩
    · rw [gn,if_neg k]
      rcases hM.n c hc with h | ⟨b,hb,h1,h2⟩
      · exact .inl h
      · refine .inr ⟨b,hb,h1,?_⟩
        rw [gl,if_neg (fun k'=>by subst k'; omega)]
        exact h2
  · rw [gl,if_neg]
    rintro rfl
    rcases h with h | h
    · rw [h] at hm; cases hm
    · exact ks h
  · rw [gn,if_neg hca]
  · rw [gn,if_neg hca]
theorem Sc.sub (hM:Mtc M nx ls) (hK:Cl M K ls) (hn:M.length<=16) (ha:a<M.length) (hs:s<M.length) (hah:ah M a s) (hle:∀ b,met mp b=true->met mp1 b=true) (hm:met mp1 s=false) (hp:∀ b,b<M.length->ls.getD b 0=(a:Int)->met mp b=true) {c:Nat} (hc:c<M.length) (e:ls.getD s 0=(c:Int))
    (h:Sc M K c (updF mp1 (s:Int) true) nx ls nx' ls'):Sc M K a mp nx ls (nx'.set a (s:Int)) (ls'.set s (a:Int)):=by
  have n1:=h.n1
  have l1:=h.l1
  have gn:∀ x,(nx'.set a (s:Int)).getD x 0=if x=a then (s:Int) else nx'.getD x 0:=fun x=>gset nx' a x _ 0 (by omega)
  have gl:∀ x,(ls'.set s (a:Int)).getD x 0=if x=s then (a:Int) else ls'.getD x 0:=fun x=>gset ls' s x _ 0 (by omega)
  obtain ⟨b',hb',m',k',ah',nb',lb'⟩:=h.ex
  have ks:¬K s:=fun k=>by
    obtain ⟨_,d,hd,h1,h2⟩:=hK s k
    obtain rfl:c=d:=by omega
    exact k' (h2 b' hb' ah')
  have m0:met mp s=false:=by
    cases q:met mp s with
    | false=>rfl
    | true=>rw [hle s q] at hm; cases hm
  have ca:c ≠ a:=fun k=>by
    subst k
    rw [hp s hs e] at m0; cases m0
  have us:met (updF mp1 (s:Int) true) s=true:=met_upd.2 (.inl rfl)
  have up:∀ b,met mp b=true->met (updF mp1 (s:Int) true) b=true:=fun b hb=>met_upd.2 (.inr (hle b hb))
  have fs:=h.fr s hs (.inl us)
  have ns:nx.getD c 0=(s:Int):=by
    rcases hM.l s hs with q | ⟨d,hd,q1,q2,q3⟩
    · omega
    · obtain rfl:c=d:=by omega
      exact q3
  have only:∀ x,x<M.length->ls.getD x 0=(c:Int)->x=s:=fun x hx q=>by
    rcases hM.l x hx with q' | ⟨d,hd,q1,q2,q3⟩
    · omega
    · obtain rfl:c=d:=by omega
      omega
  have bs:b' ≠ s:=fun k=>by
    subst k
    rw [us] at m'; cases m'
  -- the mark that asks stays as it was
  have na:nx'.getD a 0=nx.getD a 0:=by
    rcases hM.n a ha with q | ⟨y,hy,q1,q2⟩
    · rw [q]; exact (h.k1 a ha (fun k=>ca k.symm)).2 q
    · exact h.fn a ha (fun k=>ca k.symm) y hy q2 (up y (hp y hy q2))
  refine ⟨by simp [n1],by simp [l1],⟨s,hs,m0,ks,hah,by rw [gn,if_pos rfl],by rw [gl,if_pos rfl]⟩,fun x hx hne=>?_,fun d hd=>?_,fun x hx hq=>?_,fun d hd hda=>?_,fun d hd hda y hy e1 e2=>?_⟩
  · by_cases k:x=s
    · subst k
      exact .inr ⟨a,ha,by rw [gl,if_pos rfl],hah,by rw [gn,if_pos rfl]⟩
    · rw [gl,if_neg k]
      rcases h.l x hx (fun q=>k (only x hx q)) with q | ⟨d,hd,q1,q2,q3⟩
      · exact .inl q
      · refine .inr ⟨d,hd,q1,q2,?_⟩
        rw [gn,if_neg]
        · exact q3
        · rintro rfl
          rw [na] at q3
          rcases hM.n d hd with q | ⟨y,hy,q4,q5⟩
          · omega
          · obtain rfl:x=y:=by omega
            exact hne q5
  · by_cases k:d=a
    · subst k
      exact .inr ⟨s,hs,by rw [gn,if_pos rfl],by rw [gl,if_pos rfl]⟩
    · rw [gn,if_neg k]
      rcases h.n d hd with q | ⟨x,hx,q1,q2⟩
      · exact .inl q
      · refine .inr ⟨x,hx,q1,?_⟩
        rw [gl,if_neg]
        · exact q2
        · rintro rfl
          rw [fs,e] at q2
          obtain rfl:c=d:=by omega
          omega
  · rw [gl,if_neg]
    · refine h.fr x hx ?_
      rcases hq with q | q
      · exact .inl (up x q)
      · exact .inr q
    · rintro rfl
      rcases hq with q | q
      · rw [q] at m0; cases m0
      · exact ks q
  · rw [gn,if_neg hda]
    by_cases k:d=c
    · subst k
      constructor <;> intro q <;> omega
    · exact h.k1 d hd k
  · rw [gn,if_neg hda]
    by_cases k:d=c
    · subst k
      obtain rfl:=only y hy e1
      rw [e2] at m0; cases m0
    · exact h.fn d hd k y hy e1 (up y e2)
/-- Where the search for each mark begins: what was done of those ahead of it. -/
structure Tp (M:List Mrk) (K:Nat->Prop) (i:Nat) (nx ls:List Int):Prop where
  m:Mtc M nx ls
  fr:∀ j,i<=j->j<M.length->nx.getD j 0 = -1
  cl:Cl M K ls
  k:∀ a,a<i->nx.getD a 0 = -1->∀ c,c<M.length->ah M a c->K c
theorem Tp.no (h:Tp M K i nx ls) (hi:i<M.length):∀ x,x<M.length->ls.getD x 0 ≠ (i:Int):=fun x hx e=>by
  have:=h.fr i (Nat.le_refl _) hi
  rcases h.m.l x hx with q | ⟨d,hd,q1,q2,q3⟩
  · omega
  · obtain rfl:i=d:=by omega
    omega
theorem Tp.ok (h:Tp M K i nx ls) (hi:i<M.length) (hz:Sc M K i mp nx ls nx' ls'):Tp M K (i+1) nx' ls':=by
  refine ⟨⟨hz.n1,hz.l1,fun x hx=>hz.l x hx (h.no hi x hx),hz.n⟩,fun j hj hj'=>(hz.k1 j hj' (by omega)).2 (h.fr j (by omega) hj'),fun b kb=>?_,fun a ha e c hc hac=>?_⟩
  · obtain ⟨hb,c,hc,e,q⟩:=h.cl b kb
    exact ⟨hb,c,hc,by rw [hz.fr b hb (.inr kb)]; exact e,q⟩
  · obtain ⟨b,_,_,_,_,e1,_⟩:=hz.ex
    have hai:a ≠ i:=fun k=>by subst k; omega
    exact h.k a (by omega) ((hz.k1 a (by omega) hai).1 e) c hc hac
end
end Fl
end Go.Nm
namespace Go.Nm
open Go
/-- Whatever was known of memory is still so. -/
def Later (w w':World):Prop:=∀ (w0:World) (L R:List Chunk),St w0 w L R->St w0 w' L R
def RetE (R:Value->World->Prop):Ending->World->Prop:=fun e w=>∃ v,e = .returned v/\R v w
/-- From here to the function's end, with nothing deferred so far. -/
def WB (P:Program) (fn:Func) (n:Nat) (c:Code) (R:Value->World->Prop) (σ:Env) (w:World):Prop :=
  ∀ a,Fr [] n σ a->c.wp P (bodyPostD P fn (RetE R)) a w
/-- The end of a function that has deferred a call which leaves memory as it was. -/
def bodyQd (P:Program) (fn:Func) (R:Value->World->Prop):Post
  | .normal,σ,w | .ret,σ,w=>∀ w',Later w w'->∃ v,resE P fn σ w' v/\R v w'
  | _,_,_=>False
section
variable {P:Program} {fn:Func} {n:Nat} {R:Value->World->Prop} {σ:Env} {w:World}
theorem ret_of_WB {f:FuncId} {c:Code} {args:Array Value}
    (hf:P.funcs[f]?=some fn) (hb:fn.body=some c) (hn:fn.ntmps=n) (hle':Nat.ble args.size n=true)
    (h:WB P fn n c R (argE args) w):Ret P f args w R:=by
  have hle:=Nat.le_of_ble_eq_true hle'
  subst hn
  refine calls_of_wp_defers hf hb (h _ ⟨rfl,?_,fun k=>?_⟩)
  · simp; omega
  · simp only [argE,Array.getD_eq_getD_getElem?,Array.getElem?_append]
    by_cases hk:k<args.size
    · simp [hk]
    · rw [if_neg hk]
      simp only [Array.getElem?_replicate]
      have:args[k]?=none:=by simp; omega
      rw [this]
      split <;> rfl
theorem WB.seq {x y:Code} (h:W P n x (thenQ (WB P fn n y R) (bodyQ P fn R)) σ w):WB P fn n (.seq x y) R σ w:=by
  intro a ha
  refine wp_seq (wp_mono ((wpIn_wide (n:=0)).1 (h [] a ha)) ?_)
  rintro e a' w' ⟨s,hs,h'⟩
  cases e with
  | normal=>exact h' a' hs
  | ret =>
    obtain ⟨v,hr,hR⟩:=h'
    show Leaves P fn a'.tmps (RetE R) a'.defers .returning w'
    rw [hs.df]
    exact ⟨v,hr _ hs.get,v,rfl,hR⟩
  | _=>exact h'.elim
theorem WB.defer {id:Nat} {o1 o2:Oper} {y:Code} {d:Nat} {v:Value} {fv:Fn} {cap:Array Value} {f:FuncId} {args:Array Value}
    (hd:Nat.blt d n=true) (hd1:o1.dst=some d) (hg1:o1.guard=none) (hd2:o2.dst=none) (hg2:o2.guard=none)
    (h1:∀ w,(execOp (ev σ) o1).run P w = .ok (.value v) w) (h2:∀ w,(execOp (ev (upd σ d v)) o2).run P w = .ok (.defer { target:=.fn fv cap,args:=#[] }) w)
    (hi:∀ w,(invoke (.fn fv cap) #[]).run P w = .ok (.enter f args) w)
    (hc:∀ w,CallsD P f args .returning w fun e u' w'=>(∃ v,e = .returned v)/\u' = .returning/\Later w w')
    (hk:W P n y (bodyQd P fn R) (upd σ d v) w):WB P fn n (.seq (.region id #[o1,o2] false) y) R σ w:=by
  intro a ha
  refine wp_seq (wp_region ?_)
  have hd':d<n:=Nat.lt_of_lt_of_le (Nat.lt_succ_self d) (Nat.le_of_ble_eq_true hd)
  have h2':(execOp (a.put (some d) v).eval o2).run P w = .ok (.defer { target:=.fn fv cap,args:=#[] }) w:=by
    rw [(ha.put hd' v).eval]
    exact h2 w
  have hr:List.range (#[o1,o2]:Array Oper).size=[0,1]:=rfl
  rw [hr]
  simp only [wpOps,List.getElem?_toArray,List.getElem?_cons_zero,List.getElem?_cons_succ,Region.wanted,hg1,hg2,if_true,Oper.wp,ha.eval,h1,hd1,Oper.upon,h2',hd2]
  refine .inl (.inl ?_)
  have ha':Fr [{ target:=.fn fv cap,args:=#[] }] n (upd σ d v) ({ a.put (some d) v with defers:={ target:=.fn fv cap,args:=#[] } :: (a.put (some d) v).defers }.put none undef):=by
    have h3:=ha.put hd' v
    exact ⟨by show _ :: (a.put (some d) v).defers=_; rw [h3.df],h3.sz,h3.get⟩
  refine wp_mono ((wpIn_wide (n:=0)).1 (hk _ _ ha')) ?_
  rintro e a' w' ⟨s,hs,h'⟩
  have fin:(∀ w'',Later w' w''->∃ v,resE P fn s w'' v/\R v w'')->Leaves P fn a'.tmps (RetE R) a'.defers .returning w':=fun h'=>by
    rw [hs.df]
    refine leaves_cons (by simp) (hi w') ((hc w').mono ?_)
    rintro e u' w'' ⟨⟨v,rfl⟩,rfl,hl⟩
    obtain ⟨v',hr,hR⟩:=h' w'' hl
    exact ⟨v',hr _ hs.get,v',rfl,hR⟩
  cases e with
  | normal=>exact fin h'
  | ret=>exact fin h'
  | _=>exact h'.elim
theorem x_defer {x:Operand} {fv:Fn} {cap:Array Value} {ty:TypeId} {pos:String} {af:Array Edge} (hx:ev σ x = .func fv #[] cap) (w:World) :
    (execOp (ev σ) ⟨none,.defer { callee:=.value x,args:=#[],argTypes:=#[] },ty,pos,af,none⟩).run P w = .ok (.defer { target:=.fn fv cap,args:=#[] }) w:=by
  simp [execOp,resolve,hx,Deferred.ofValue]
theorem x_invoke {f:FuncId} (hcf:CF P f) {cap:Array Value} (w:World):(invoke (.fn (.func f) cap) #[]).run P w = .ok (.enter f cap) w:=by
  simp [invoke,run_callFunc hcf]
end
end Go.Nm
namespace Go.Proofs.YtlemgioaakecpaaGreat
open Go Go.Nm
theorem ta_nil (w:World):(Instr.typeAssert .nilIface 20 119 true).run Tryz.prog w = .ok (.tuple #[.agg #[I 0],.bool false]) w:=by
  simp [Instr.typeAssert,go_sem]
set_option maxRecDepth 20000 in
theorem catch_idle (p q:Value) (w:World):CallsD Tryz.prog 53 #[p,q] .returning w fun e u' w'=>(∃ v,e = .returned v)/\u' = .returning/\Later w w':=by
  refine callsD_of_wpS Tryz.func53 rfl fun c₀ cs hu=>?_
  apply wpS_seq
  apply wpS_region
  simp [wpOpsS,go_sem,recoverD,hu,Exit.thenS,ta_nil]
  apply wpS_seq
  apply wpS_region
  simp [wpOpsS,go_sem,Exit.thenS]
  refine wpS_cond (t:=false) (by simp [Act.eval,Array.replicate]) ?_
  simp only [Bool.false_eq_true,if_false]
  refine wpS_of_wp (wp_skip ?_)
  cases c₀
  simp_all [bodyPostS,results,Tryz.results53]
  exact fun w0 L R H=>H.ext (New.alloc ..).ext
end Go.Proofs.YtlemgioaakecpaaGreat
section
set_option maxRecDepth 100000
set_option maxHeartbeats 16000000
namespace Go.Proofs.YtlemgioaakecpaaGreat
open Go Go.Nm
def zcC (a:Int) (aj:List Sect) (ab:List Mrk) (ak:List Rch) (ac:List Sect) (ae:List Mrk) (ag:List Rch) (am:(Int × (List Sect) × (List Mrk) × (List Rch) × (List Sect) × (List Mrk) × (List Rch) × (Int->Option Bool) × (List Int) × (List Int))->M (Bool × (Int->Option Bool) × (List Int) × (List Int))):(Nat × (Int->Option Bool) × (List Int) × (List Int))->M ((Nat × (Int->Option Bool) × (List Int) × (List Int)) ⊕ (((Int->Option Bool) × (List Int) × (List Int)) ⊕ ((Int->Option Bool) × (List Int) × (List Int)))):=fun (s,mp,s2,s3) =>
  bif decide ((s:Int)<(ab.length:Int)) then (
  M.bind (zaf ac ae ag a (s:Int)) fun r2 =>
  bif ((!r2)||((mp (s:Int)).getD false)) then (
  M.pure (.inl (s+1,mp,s2,s3)))
  else (
  M.grd (decide ((0:Int)<=(s:Int))&&decide ((s:Int)<(16:Int))) <|
  bif !((s3.getD s 0)==(-1)) then (
  M.bind (am ((s3.getD s 0),aj,ab,ak,ac,ae,ag,(updF mp (s:Int) true),s2,s3)) fun (r3,ai,q0,q1) =>
  bif (((s3.getD s 0)==(-1))||r3) then (
  M.grd (decide ((0:Int)<=a)&&decide (a<(16:Int))) <|
  M.pure (.inr (.inl (ai,q0.set (Int.toNat a) (s:Int),q1.set s a))))
  else (
  M.pure (.inl (s+1,ai,q0,q1))))
  else (
  bif (((s3.getD s 0)==(-1))||false) then (
  M.grd (decide ((0:Int)<=a)&&decide (a<(16:Int))) <|
  M.pure (.inr (.inl (updF mp (s:Int) true,s2.set (Int.toNat a) (s:Int),s3.set s a))))
  else (
  M.pure (.inl (s+1,updF mp (s:Int) true,s2,s3))))))
  else (
  M.pure (.inr (.inr (mp,s2,s3))))
def zbc (ab:(Int × (List Sect) × (List Mrk) × (List Rch) × (List Sect) × (List Mrk) × (List Rch) × (Int->Option Bool) × (List Int) × (List Int))->M (Bool × (Int->Option Bool) × (List Int) × (List Int))):(Int × (List Sect) × (List Mrk) × (List Rch) × (List Sect) × (List Mrk) × (List Rch) × (Int->Option Bool) × (List Int) × (List Int))->M (Bool × (Int->Option Bool) × (List Int) × (List Int)):=fun (a,ac,ae,ag,ai,aj,ak,am,ao,ap) =>
  M.bind (M.iter (zcC a ac ae ag ai aj ak ab) (0,am,ao,ap)) fun x_=>match x_ with
  | (.inl (aq,l,l2))=>(
  M.pure (true,aq,l,l2))
  | (.inr (au,l3,l4))=>(
  M.pure (false,au,l3,l4))
theorem zet  : M.Mon zbc:=by
  intro n f g h a
  obtain ⟨a,ab,ac,ae,ag,ai,aj,ak,am,ao⟩:=a
  simp only [zbc,zcC]
  repeat' (first | exact M.le_same _ _ | exact h _ | refine M.le_grd ?_ | refine M.le_if ?_ ?_ | refine M.le_bind ?_ (fun x=>?_) | refine M.le_opt ?_ | refine M.le_iter (fun x=>?_) _ | refine zdZ (M.le_yl (fun s_ a_=>?_)) _ _ _ | (rename_i x; cases x) | (rename_i x; obtain ⟨_,_⟩:=x))
def zdn (a:Int) (ab:List Sect) (ac:List Mrk) (ae:List Rch) (ag:List Sect) (ai:List Mrk) (aj:List Rch) (ak:Int->Option Bool) (am ao:List Int):M (Bool × (Int->Option Bool) × (List Int) × (List Int)):=M.fix zbc zet (a,ab,ac,ae,ag,ai,aj,ak,am,ao)
theorem zea (n_:Nat):∀ {R:List Chunk} {av:Nat} {aj:Nat} {aP:Cells} {aQ:Value} {aR:Cells} {aG:Value} {aS:Cells} {aT:Value} {bm:Nat} {ak:Nat} {aA:Nat} {aU:Cells} {aV:Value} {aW:Cells} {aX:Value} {aY:Cells} {aZ:Value} {bn:Nat} {am:Nat} {ac:Nat} {ao:Nat} {ab:Nat} {ap:Nat} (a:Int) (aB:List Sect) (ag:List Mrk) (aC:List Rch) (aw:List Sect) (ax:List Mrk) (ay:List Rch) (aH:Int->Option Bool) (aD:List Int) (aE:List Int) (bo:Reads R aP) (bp:Sl aP aQ aB) (bq:Reads R aR) (aI:Sl aR aG ag) (br:Reads R aS) (bt:Sl aS aT aC) (a6:Has R (cBlk aj [aQ,aG,aT,.map (some bm)] 177)) (a7:Has R (cBlk av [Pq aj] 112)) (a8:Reads R aU) (ba:Sl aU aV aw) (bb:Reads R aW) (bc:Sl aW aX ax) (bf:Reads R aY) (bg:Sl aY aZ ay) (bh:Has R (cBlk aA [aV,aX,aZ,.map (some bn)] 177)) (bi:Has R (cBlk ak [.func (.func 51) #[Pq aA] #[]] 116)) (aJ:Has R (cBlk am [.map (some ac)] 191)) (bu:aD.length=16) (bv:aE.length=16) (ai:Has R (cBlk ao [Pq ab] 178)) (bj:Has R (cBlk ap [.func (.func 120) #[] #[Pq av,Pq ak,Pq am,Pq ao,Pq ap]] 157)) {r:(Bool × (Int->Option Bool) × (List Int) × (List Int))} (hM:(M.fixN zbc n_ (a,aB,ag,aC,aw,ax,ay,aH,aD,aE)).Ends r) (w:World) (H:St w w [cMap I B ac aH,cBlk ab (List.flatten [[],encF (α:=Int) aD,encF (α:=Int) aE]) 182] R),Ret Tryz.prog 120 #[I a,Pq av,Pq ak,Pq am,Pq ao,Pq ap] w fun v w'=>∃ (y0:Bool) (y1:Int->Option Bool) (y2:List Int) (y3:List Int),(y0,y1,y2,y3)=r/\v=B y0/\St w w' [cMap I B ac y1,cBlk ab (List.flatten [[],encF (α:=Int) y2,encF (α:=Int) y3]) 182] R/\y2.length=16/\y3.length=16:=by
  induction n_ with
  | zero=>intro R av aj aP aQ aR aG aS aT bm ak aA aU aV aW aX aY aZ bn am ac ao ab ap a aB ag aC aw ax ay aH aD aE bo bp bq aI br bt a6 a7 a8 ba bb bc bf bg bh bi aJ bu bv ai bj r hM w H; exact (M.e_fail hM).elim
  | succ n_ ih =>
    intro R av aj aP aQ aR aG aS aT bm ak aA aU aV aW aX aY aZ bn am ac ao ab ap a aB ag aC aw ax ay aH aD aE bo bp bq aI br bt a6 a7 a8 ba bb bc bf bg bh bi aJ bu bv ai bj r hM w H;refine ret_of_W Tryz.func120 rfl rfl rfl<|W.seq<|W.region rfl<|zA (B false) rfl<|s_nil<|W.seq<|W.seq<|W.region rfl<|s_val (x_ld (v:=Pq aj) rfl (ldb_sc Sc112 (a7.blk H) rfl))<|s_val (x_nc (a:=⟨aj,0,none⟩) rfl)<|s_val (x_fa (v:=Pq aj) rfl (fa_blk (o:=0) Fd177_0 Sz27)) ?_;refine s_val (x_fa (v:=Oq aj 1) rfl (fa_blk (o:=0) Fd27_1 Sz24))<|s_val (x_ld (v:=aG) rfl (ldb_sc Sc24 (a6.blk H) rfl)) ?_
    have bR:=(aI).len_le
    refine s_val (x_lenS T24.und rfl aI)<|zM (I 0) rfl<|s_nil<|W.block ?_;obtain ⟨bJ,bw,bx⟩:=M.e_bind hM
    obtain ⟨bS,bw⟩:=M.e_iter bw
    refine W.loop (fun m σ W=>∃ (s:Nat) (mp:Int->Option Bool) (s2:List Int) (s3:List Int) (ρ:Env),σ=upds ρ [(0,I a),(2,Pq ak),(3,Pq am),(4,Pq ao),(5,Pq ap),(14,I (ag.length:Int)),(15,I (s:Int))]/\M.iterN (zcC a aB ag aC aw ax ay (M.fixN zbc n_)) m (s,mp,s2,s3)=some bJ/\St w W [cMap I B ac mp,cBlk ab (List.flatten [[],encF (α:=Int) s2,encF (α:=Int) s3]) 182] R/\s2.length=16/\s3.length=16) ?_ ?_
    ·exact ⟨_,0,aH,aD,aE,_,upds_of _ _ ⟨rfl,rfl,rfl,rfl,rfl,rfl,rfl,trivial⟩,bw,H,bu,bv⟩
    rintro bT σ bU ⟨s,mp,s2,s3,ρ,rfl,bG,H,aq,au⟩
    obtain ⟨bz,bA,bV,hM,aF⟩:=M.e_iterN bG
    simp only [zcC] at hM
    clear bG;refine W.seq<|W.region rfl<|zC (s:Int) (ag.length:Int) (decide ((s:Int)<(ag.length:Int))) rfl rfl rfl<|s_nil<|W.seq ?_
    refine W.cond (decide ((s:Int)<(ag.length:Int))) rfl (fun az=>?_) (fun az=>?_)
    ·replace hM:=M.e_t hM az
     replace az:=dI az
     refine W.skip<|W.seq<|W.block<|W.seq<|W.region rfl<|zM (I (s:Int)) rfl<|zA (I (s:Int)) rfl<|s_nil<|W.seq<|W.seq ?_;refine W.region rfl<|s_val (x_ld (v:=.func (.func 51) #[Pq aA] #[]) rfl (ldb_sc Sc116 (bi.blk H) rfl))<|zM (I a) rfl<|zM (I (s:Int)) rfl ?_;obtain ⟨bW,bK,hM⟩:=M.e_bind hM;refine s_callm (f:=51) (fs:=[Pq aA]) rfl cf51 [I a,I (s:Int)] rfl (zaH aw ax ay a (s:Int) (a8.app _) ba (bb.app _) bc (bf.app _) bg (bh.app _) bK _ (H.gt 2)) ?_
     rintro vq bX ⟨r2,rfl,hvq,aK⟩
     subst vq;(try dsimp only at hM);replace H:=H.bk aK;clear aK;refine s_val (x_not (b:=r2) rfl)<|zM (B (!r2)) rfl<|g_val (!(!r2)) (gy_f rfl) (fun hg=>x_ld (v:=.map (some ac)) rfl (ldb_sc Sc191 (aJ.blk H) rfl))<|g_val (!(!r2)) (gy_f rfl) (fun hg=>x_mv (v:=I (s:Int)) rfl)<|g_val (!(!r2)) (gy_f rfl) (fun hg=>q_look (kenc:=I) (venc:=B) (f:=mp) (k:=(s:Int)) (v:=B ((mp (s:Int)).getD false)) keyIntB Tryz.underlying191 Al4 (by exact (gd_of hg (.map (some ac)))) (by exact (gd_of hg (I (s:Int)))) (H.get (k:=0) rfl) false (by rw [if_neg (by decide),bool_val]))<|s_val (x_por (b:=!r2) (r:=(mp (s:Int)).getD false) rfl rfl (fun hb=>gd_of (c:=!(!r2)) (by first | exact hb | (rw [hb]; rfl) | simp_all) (B ((mp (s:Int)).getD false))))<|s_nil ?_
     refine W.cond ((!r2)||((mp (s:Int)).getD false)) rfl (fun bB=>?_) (fun bB=>?_)
     ·replace hM:=M.e_t hM bB;refine W.exit<|W.region rfl<|zR (s:Int) 1 ((s:Int)+1) rfl rfl rfl (by omega)<|zM (I ((s:Int)+1)) rfl<|s_nil ?_
      exact ⟨bz,bA,s+1,mp,s2,s3,_,upds_of _ _ ⟨rfl,rfl,rfl,rfl,rfl,rfl,rfl,trivial⟩,M.e_inl hM aF,H,aq,au⟩
     replace hM:=M.e_f hM bB;refine W.skip<|W.seq<|W.region rfl<|s_val (x_ld (v:=.map (some ac)) rfl (ldb_sc Sc191 (aJ.blk H) rfl))<|zM (I (s:Int)) rfl ?_;refine t_mapu (i:=0) (kenc:=I) (venc:=B) (f:=mp) (k:=(s:Int)) (v:=true) (L':=[cMap I B ac (updF mp (s:Int) true),cBlk ab (List.flatten [[],encF (α:=Int) s2,encF (α:=Int) s3]) 182]) keyIntB Tryz.underlying191 H rfl rfl rfl rfl rfl ?_;intro bY H;refine s_nil<|W.seq ?_;refine W.draw (fun W=>St w W [] R) [(0,true),(1,true),(2,true),(3,true),(4,true),(5,false),(6,true),(7,true),(8,true),(9,true),(10,true),(11,true),(12,true),(13,true),(14,false),(15,false),(16,true)] mixed (by decide +kernel) rfl ?_;intro bZ ae;replace H:=H.ext ae;clear ae
     refine ⟨(H.pk []),?_⟩
     refine d_q rfl (fun w' H=>x_ld (v:=Pq ab) rfl (ldb_sc Sc178 (ai.blk H) rfl))<|d_q rfl (fun w' H=>x_mv (v:=I (s:Int)) rfl)<|d_q rfl (fun w' H=>x_nc (a:=⟨ab,0,none⟩) rfl)<|d_q rfl (fun w' H=>x_fa (v:=Oq ab 16) rfl (fa_blk (o:=0) Fd182_1 Sz180)) ?_;obtain ⟨b4,hM⟩:=M.e_gd hM;refine d_q rfl (fun w' H=>x_ix (v:=.pointer (some ⟨ab,16+Int.toNat (s:Int)*1,none⟩)) rfl rfl (run_indexS Tryz.underlying180 Sz3 (by omega) (by omega)))<|d_l rfl<|s_val (x_ld (v:=I (s3.getD s 0)) rfl (ldS (α:=Int) (k:=2) (off:=16) (i:=s) (f:=0) (sz:=1) 0 Sc3 (H.bl 1) rfl (sgo2 aq rfl) rfl (by decide) (by have aL:=au; omega) (by omega) rfl)) ?_
     refine s_nil ⟨(H.pk []),?_⟩
     refine d_q rfl (fun w' H=>x_cmp (kd:=.i64) (r:=(s3.getD s 0)==(-1)) rfl rfl rfl)<|d_q rfl (fun w' H=>x_mv (v:=B ((s3.getD s 0)==(-1))) rfl)<|d_qg (!((s3.getD s 0)==(-1))) rfl (gy_f rfl) (fun hg=>(fun w' H=>x_ld (v:=.func (.func 120) #[] #[Pq av,Pq ak,Pq am,Pq ao,Pq ap]) rfl (ldb_sc Sc157 (bj.blk H) rfl)))<|d_qg (!((s3.getD s 0)==(-1))) rfl (gy_f rfl) (fun hg=>(fun w' H=>x_ld (v:=Pq ab) rfl (ldb_sc Sc178 (ai.blk H) rfl)))<|d_qg (!((s3.getD s 0)==(-1))) rfl (gy_f rfl) (fun hg=>(fun w' H=>x_mv (v:=I (s:Int)) rfl))<|d_qg (!((s3.getD s 0)==(-1))) rfl (gy_f rfl) (fun hg=>(fun w' H=>x_nc (a:=⟨ab,0,none⟩) (gd_of hg (Pq ab))))<|d_qg (!((s3.getD s 0)==(-1))) rfl (gy_f rfl) (fun hg=>(fun w' H=>x_fa (v:=Oq ab 16) (gd_of hg (Pq ab)) (fa_blk (o:=0) Fd182_1 Sz180)))<|d_qg (!((s3.getD s 0)==(-1))) rfl (gy_f rfl) (fun hg=>(fun w' H=>x_ix (v:=.pointer (some ⟨ab,16+Int.toNat (s:Int)*1,none⟩)) (gd_of hg (Oq ab 16)) (gd_of hg (I (s:Int))) (run_indexS Tryz.underlying180 Sz3 (by first | omega | (have ae:=hg; simp at ae; omega)) (by first | omega | (have ae:=hg; simp at ae; omega)))))<|d_l rfl<|g_val (!((s3.getD s 0)==(-1))) (gy_f rfl) (fun hg=>x_ld (v:=I (s3.getD s 0)) (gd_of hg (.pointer (some ⟨ab,16+Int.toNat (s:Int)*1,none⟩))) (ldS (α:=Int) (k:=2) (off:=16) (i:=s) (f:=0) (sz:=1) 0 Sc3 (H.bl 1) rfl (sgo2 aq rfl) rfl (by decide) (by have aL:=au; first | omega | (have ae:=hg; simp at ae; omega)) (by omega) rfl)) ?_
     refine s_nil ⟨(H.pk []),?_⟩
     refine d_l rfl ?_
     refine g_splitV (!((s3.getD s 0)==(-1))) (B false) (gy_f rfl) (fun aM=>?_) (fun aM=>?_)
     ·replace hM:=M.e_t hM aM;obtain ⟨b5,bL,hM⟩:=M.e_bind hM;refine s_callv (f:=120) (by exact (gd_of (c:=!((s3.getD s 0)==(-1))) aM (.func (.func 120) #[] #[Pq av,Pq ak,Pq am,Pq ao,Pq ap]))) cf120 [I (s3.getD s 0)] (by exact (lst1 (gd_of (c:=!((s3.getD s 0)==(-1))) aM (I (s3.getD s 0))))) (ih (s3.getD s 0) aB ag aC aw ax ay (updF mp (s:Int) true) s2 s3 (bo.app _) bp (bq.app _) aI (br.app _) bt (a6.app _) (a7.app _) (a8.app _) ba (bb.app _) bc (bf.app _) bg (bh.app _) (bi.app _) (aJ.app _) aq au (ai.app _) (bj.app _) bL _ (H.gt 0)) ?_
      rintro vq b6 ⟨r3,aN,q0,q1,rfl,hvq,aK,bC,bD⟩
      subst vq;(try dsimp only at hM);replace H:=H.bk aK;clear aK
      refine s_nil ⟨(H.pk []),?_⟩
      refine d_q rfl (fun w' H=>x_por (b:=(s3.getD s 0)==(-1)) (r:=r3) rfl rfl (fun _=>rfl)) ?_;refine d_nil ?_
      refine W.cond (((s3.getD s 0)==(-1))||r3) rfl (fun bE=>?_) (fun bE=>?_)
      ·replace hM:=M.e_t hM bE;refine W.seq ?_;refine W.draw (fun W=>St w W [cMap I B ac aN] R) [(0,true),(1,true),(2,true),(3,true),(4,true),(5,true),(6,true),(7,true),(8,true),(10,true),(11,true),(9,false),(12,true),(13,false)] mixed (by decide +kernel) rfl ?_;intro b7 ae;replace H:=H.ext ae;clear ae
       refine ⟨(H.pk [0]),?_⟩
       refine d_q rfl (fun w' H=>x_ld (v:=Pq ab) rfl (ldb_sc Sc178 (ai.blk H) rfl))<|d_q rfl (fun w' H=>x_mv (v:=I a) rfl)<|d_q rfl (fun w' H=>x_ld (v:=Pq ab) rfl (ldb_sc Sc178 (ai.blk H) rfl))<|d_q rfl (fun w' H=>x_mv (v:=I (s:Int)) rfl)<|d_q rfl (fun w' H=>x_mv (v:=I (s:Int)) rfl)<|d_q rfl (fun w' H=>x_mv (v:=I a) rfl)<|d_q rfl (fun w' H=>x_nc (a:=⟨ab,0,none⟩) rfl)<|d_q rfl (fun w' H=>x_fa (v:=Pq ab) rfl (fa_blk (o:=0) Fd182_0 Sz180)) ?_;obtain ⟨b8,hM⟩:=M.e_gd hM;refine d_q rfl (fun w' H=>x_ix (v:=.pointer (some ⟨ab,0+Int.toNat a*1,none⟩)) rfl rfl (run_indexS Tryz.underlying180 Sz3 (by omega) (by omega)))<|d_q rfl (fun w' H=>x_nc (a:=⟨ab,0,none⟩) rfl)<|d_q rfl (fun w' H=>x_fa (v:=Oq ab 16) rfl (fa_blk (o:=0) Fd182_1 Sz180))<|d_l rfl ?_;refine t_stS (α:=Int) (kc:=1) (b:=ab) (k:=1) (off:=0) (i:=(Int.toNat a)) (f:=0) (sz:=1) (segs:=[[],encF (α:=Int) q0,encF (α:=Int) q1]) (segs':=[[],encF (α:=Int) (q0.set (Int.toNat a) (s:Int)),encF (α:=Int) q1]) (l:=q0) (l':=q0.set (Int.toNat a) (s:Int)) (vs:=[I (s:Int)]) (L':=[cMap I B ac aN,cBlk ab (List.flatten [[],encF (α:=Int) (q0.set (Int.toNat a) (s:Int)),encF (α:=Int) q1]) 182]) H rfl rfl rfl Sz3 rfl rfl rfl rfl (sgo1 rfl) rfl rfl (by have aL:=bC; omega) (by omega) 0 (s:Int) rfl rfl rfl rfl ?_;intro b9 H
       have bH:(q0.set (Int.toNat a) (s:Int)).length=16:=List.length_set.trans bC
       refine s_nil ⟨(H.pk [0]),?_⟩
       refine d_q rfl (fun w' H=>x_ix (v:=.pointer (some ⟨ab,16+Int.toNat (s:Int)*1,none⟩)) rfl rfl (run_indexS Tryz.underlying180 Sz3 (by omega) (by omega)))<|d_l rfl ?_;refine t_stS (α:=Int) (kc:=1) (b:=ab) (k:=2) (off:=16) (i:=s) (f:=0) (sz:=1) (segs:=[[],encF (α:=Int) (q0.set (Int.toNat a) (s:Int)),encF (α:=Int) q1]) (segs':=[[],encF (α:=Int) (q0.set (Int.toNat a) (s:Int)),encF (α:=Int) (q1.set s a)]) (l:=q1) (l':=q1.set s a) (vs:=[I a]) (L':=[cMap I B ac aN,cBlk ab (List.flatten [[],encF (α:=Int) (q0.set (Int.toNat a) (s:Int)),encF (α:=Int) (q1.set s a)]) 182]) H rfl rfl rfl Sz3 rfl rfl rfl rfl (sgo2 bH rfl) rfl rfl (by have aL:=bD; omega) (by omega) 0 a rfl rfl rfl rfl ?_;intro cb H
       have bM:(q1.set s a).length=16:=List.length_set.trans bD
       refine s_nil ⟨(H.pk [0]),?_⟩
       refine d_nil<|W.seq<|W.region rfl<|zA (B true) rfl<|s_nil ?_;refine W.ret ?_
       have bN:=M.e_inr hM aF
       subst bN;replace hM:=bx;(try dsimp only at hM)
       have aO:=M.e_pure hM
       exact ⟨_,resE_tmp rfl,⟨true,aN,(q0.set (Int.toNat a) (s:Int)),(q1.set s a),aO,rfl,H,bH,bM⟩⟩
      replace hM:=M.e_f hM bE;refine W.skip<|W.region rfl<|zR (s:Int) 1 ((s:Int)+1) rfl rfl rfl (by omega)<|zM (I ((s:Int)+1)) rfl<|s_nil ?_
      exact ⟨bz,bA,s+1,aN,q0,q1,_,upds_of _ _ ⟨rfl,rfl,rfl,rfl,rfl,rfl,rfl,trivial⟩,M.e_inl hM aF,H,bC,bD⟩
     replace hM:=M.e_f hM aM
     refine s_nil ⟨(H.pk []),?_⟩
     refine d_q rfl (fun w' H=>x_por (b:=(s3.getD s 0)==(-1)) (r:=false) rfl rfl (fun hb=>gd_of (c:=!((s3.getD s 0)==(-1))) (by first | exact hb | (rw [hb]; rfl) | simp_all) (B false))) ?_;refine d_nil ?_
     refine W.cond (((s3.getD s 0)==(-1))||false) rfl (fun bF=>?_) (fun bF=>?_)
     ·replace hM:=M.e_t hM bF;refine W.seq ?_;refine W.draw (fun W=>St w W [cMap I B ac (updF mp (s:Int) true)] R) [(0,true),(1,true),(2,true),(3,true),(4,true),(5,true),(6,true),(7,true),(8,true),(10,true),(11,true),(9,false),(12,true),(13,false)] mixed (by decide +kernel) rfl ?_;intro cc ae;replace H:=H.ext ae;clear ae
      refine ⟨(H.pk [0]),?_⟩
      refine d_q rfl (fun w' H=>x_ld (v:=Pq ab) rfl (ldb_sc Sc178 (ai.blk H) rfl))<|d_q rfl (fun w' H=>x_mv (v:=I a) rfl)<|d_q rfl (fun w' H=>x_ld (v:=Pq ab) rfl (ldb_sc Sc178 (ai.blk H) rfl))<|d_q rfl (fun w' H=>x_mv (v:=I (s:Int)) rfl)<|d_q rfl (fun w' H=>x_mv (v:=I (s:Int)) rfl)<|d_q rfl (fun w' H=>x_mv (v:=I a) rfl)<|d_q rfl (fun w' H=>x_nc (a:=⟨ab,0,none⟩) rfl)<|d_q rfl (fun w' H=>x_fa (v:=Pq ab) rfl (fa_blk (o:=0) Fd182_0 Sz180)) ?_;obtain ⟨cd,hM⟩:=M.e_gd hM;refine d_q rfl (fun w' H=>x_ix (v:=.pointer (some ⟨ab,0+Int.toNat a*1,none⟩)) rfl rfl (run_indexS Tryz.underlying180 Sz3 (by omega) (by omega)))<|d_q rfl (fun w' H=>x_nc (a:=⟨ab,0,none⟩) rfl)<|d_q rfl (fun w' H=>x_fa (v:=Oq ab 16) rfl (fa_blk (o:=0) Fd182_1 Sz180))<|d_l rfl ?_;refine t_stS (α:=Int) (kc:=1) (b:=ab) (k:=1) (off:=0) (i:=(Int.toNat a)) (f:=0) (sz:=1) (segs:=[[],encF (α:=Int) s2,encF (α:=Int) s3]) (segs':=[[],encF (α:=Int) (s2.set (Int.toNat a) (s:Int)),encF (α:=Int) s3]) (l:=s2) (l':=s2.set (Int.toNat a) (s:Int)) (vs:=[I (s:Int)]) (L':=[cMap I B ac (updF mp (s:Int) true),cBlk ab (List.flatten [[],encF (α:=Int) (s2.set (Int.toNat a) (s:Int)),encF (α:=Int) s3]) 182]) H rfl rfl rfl Sz3 rfl rfl rfl rfl (sgo1 rfl) rfl rfl (by have aL:=aq; omega) (by omega) 0 (s:Int) rfl rfl rfl rfl ?_;intro ce H
      have bI:(s2.set (Int.toNat a) (s:Int)).length=16:=List.length_set.trans aq
      refine s_nil ⟨(H.pk [0]),?_⟩
      refine d_q rfl (fun w' H=>x_ix (v:=.pointer (some ⟨ab,16+Int.toNat (s:Int)*1,none⟩)) rfl rfl (run_indexS Tryz.underlying180 Sz3 (by omega) (by omega)))<|d_l rfl ?_;refine t_stS (α:=Int) (kc:=1) (b:=ab) (k:=2) (off:=16) (i:=s) (f:=0) (sz:=1) (segs:=[[],encF (α:=Int) (s2.set (Int.toNat a) (s:Int)),encF (α:=Int) s3]) (segs':=[[],encF (α:=Int) (s2.set (Int.toNat a) (s:Int)),encF (α:=Int) (s3.set s a)]) (l:=s3) (l':=s3.set s a) (vs:=[I a]) (L':=[cMap I B ac (updF mp (s:Int) true),cBlk ab (List.flatten [[],encF (α:=Int) (s2.set (Int.toNat a) (s:Int)),encF (α:=Int) (s3.set s a)]) 182]) H rfl rfl rfl Sz3 rfl rfl rfl rfl (sgo2 bI rfl) rfl rfl (by have aL:=au; omega) (by omega) 0 a rfl rfl rfl rfl ?_;intro cf H
      have bO:(s3.set s a).length=16:=List.length_set.trans au
      refine s_nil ⟨(H.pk [0]),?_⟩
      refine d_nil<|W.seq<|W.region rfl<|zA (B true) rfl<|s_nil ?_;refine W.ret ?_
      have bP:=M.e_inr hM aF
      subst bP;replace hM:=bx;(try dsimp only at hM)
      have aO:=M.e_pure hM
      exact ⟨_,resE_tmp rfl,⟨true,(updF mp (s:Int) true),(s2.set (Int.toNat a) (s:Int)),(s3.set s a),aO,rfl,H,bI,bO⟩⟩
     replace hM:=M.e_f hM bF;refine W.skip<|W.region rfl<|zR (s:Int) 1 ((s:Int)+1) rfl rfl rfl (by omega)<|zM (I ((s:Int)+1)) rfl<|s_nil ?_
     exact ⟨bz,bA,s+1,updF mp (s:Int) true,s2,s3,_,upds_of _ _ ⟨rfl,rfl,rfl,rfl,rfl,rfl,rfl,trivial⟩,M.e_inl hM aF,H,aq,au⟩
    replace hM:=M.e_f hM az
    replace az:=dI az
    refine W.exit ?_
    have bQ:=M.e_inr hM aF
    subst bQ;replace hM:=bx;(try dsimp only at hM);refine W.seq<|W.region rfl<|zA (B false) rfl<|s_nil ?_;refine W.ret ?_
    have aO:=M.e_pure hM
    exact ⟨_,resE_tmp rfl,⟨false,mp,s2,s3,aO,rfl,H,aq,au⟩⟩
theorem zeh {R:List Chunk} {ae:Nat} {az:Nat} {aA:Cells} {aB:Value} {aC:Cells} {aD:Value} {aE:Cells} {aF:Value} {aN:Nat} {ag:Nat} {aG:Nat} {aH:Cells} {aI:Value} {aJ:Cells} {aK:Value} {aL:Cells} {aM:Value} {aO:Nat} {ai:Nat} {aj:Nat} {ak:Nat} {am:Nat} {ao:Nat} (a:Int) (ap:List Sect) (aq:List Mrk) (au:List Rch) (av:List Sect) (aw:List Mrk) (ax:List Rch) (ay:Int->Option Bool) (ab:List Int) (ac:List Int) (aP:Reads R aA) (aQ:Sl aA aB ap) (aR:Reads R aC) (aS:Sl aC aD aq) (aT:Reads R aE) (aU:Sl aE aF au) (aV:Has R (cBlk az [aB,aD,aF,.map (some aN)] 177)) (aW:Has R (cBlk ae [Pq az] 112)) (aX:Reads R aH) (aY:Sl aH aI av) (aZ:Reads R aJ) (a6:Sl aJ aK aw) (a7:Reads R aL) (a8:Sl aL aM ax) (ba:Has R (cBlk aG [aI,aK,aM,.map (some aO)] 177)) (bb:Has R (cBlk ag [.func (.func 51) #[Pq aG] #[]] 116)) (bc:Has R (cBlk ai [.map (some aj)] 191)) (bf:ab.length=16) (bg:ac.length=16) (bh:Has R (cBlk ak [Pq am] 178)) (bi:Has R (cBlk ao [.func (.func 120) #[] #[Pq ae,Pq ag,Pq ai,Pq ak,Pq ao]] 157)) {r:(Bool × (Int->Option Bool) × (List Int) × (List Int))} (hM:(zdn a ap aq au av aw ax ay ab ac).Ends r) (w:World) (H:St w w [cMap I B aj ay,cBlk am (List.flatten [[],encF (α:=Int) ab,encF (α:=Int) ac]) 182] R):Ret Tryz.prog 120 #[I a,Pq ae,Pq ag,Pq ai,Pq ak,Pq ao] w fun v w'=>∃ (y0:Bool) (y1:Int->Option Bool) (y2:List Int) (y3:List Int),(y0,y1,y2,y3)=r/\v=B y0/\St w w' [cMap I B aj y1,cBlk am (List.flatten [[],encF (α:=Int) y2,encF (α:=Int) y3]) 182] R/\y2.length=16/\y3.length=16:=by
  obtain ⟨n_,hM⟩:=M.e_fix hM
  exact zea n_ a ap aq au av aw ax ay ab ac aP aQ aR aS aT aU aV aW aX aY aZ a6 a7 a8 ba bb bc bf bg bh bi hM w H

def zcI  : ((List Int) × (List Int) × Nat)->M (((List Int) × (List Int) × Nat) ⊕ ((List Int) × (List Int))):=fun (s,s2,s3) =>
  bif decide ((s3:Int)<16) then (
  M.grd (decide ((0:Int)<=(s3:Int))&&decide ((s3:Int)<(16:Int))) <|
  M.pure (.inl (s.set s3 (-1),s2.set s3 (-1),s3+1)))
  else (
  M.pure (.inr (s,s2)))
def zc9 (ac:List Sect) (ab:List Mrk) (ae:List Rch):((List Int) × (List Int) × Nat)->M (((List Int) × (List Int) × Nat) ⊕ ((List Int) × (List Int))):=fun (s4,s5,s6) =>
  bif decide ((s6:Int)<(ab.length:Int)) then (
  M.bind (zdn (s6:Int) ac ab ae ac ab ae (fun _=>none) s4 s5) fun (r2,ag,q0,q1) =>
  M.pure (.inl (q0,q1,s6+1)))
  else (
  M.pure (.inr (s4,s5)))
def zdy (ab:List Sect) (ac:List Mrk) (ae:List Rch):M ((List Int) × (List Int)) :=
  M.bind (M.iter (zcI) (List.replicate 16 0,List.replicate 16 0,0)) fun (l,l2) =>
  M.bind (M.iter (zc9 ab ac ae) (l,l2,0)) fun (l3,l4) =>
  M.pure (l3,l4)
theorem zdT {R:List Chunk} {ac:Nat} {aC:Cells} {aD:Value} {aE:Cells} {aw:Value} {aF:Cells} {aG:Value} {aX:Nat} (ao:List Sect) (ai:List Mrk) (ap:List Rch) (aH:Reads R aC) (aI:Sl aC aD ao) (aJ:Reads R aE) (aq:Sl aE aw ai) (aK:Reads R aF) (aL:Sl aF aG ap) (ax:Has R (cBlk ac [aD,aw,aG,.map (some aX)] 177)) {r:((List Int) × (List Int))} (hM:(zdy ao ai ap).Ends r) (w:World) (H:St w w [] R):Ret Tryz.prog 96 #[Pq ac] w fun v w'=>∃ (y0:List Int) (y1:List Int) (aM:Nat),(y0,y1)=r/\v=Pq aM/\St w w' [cBlk aM (List.flatten [[],encF (α:=Int) y0,encF (α:=Int) y1]) 182] R/\y0.length=16/\y1.length=16:=by
 refine ret_of_W Tryz.func96 rfl rfl rfl<|W.seq<|W.region rfl ?_;refine t_b1 (Pq ac) H rfl rfl ?_;intro ae bq H;refine zA (.pointer none) rfl<|s_nil<|W.seq<|W.region rfl<|s_val (x_bld (ps:=[]) (zs:=(List.flatten [[],encF (α:=Int) (List.replicate 16 0),encF (α:=Int) (List.replicate 16 0)])) (L':=(List.flatten [[],encF (α:=Int) (List.replicate 16 0),encF (α:=Int) (List.replicate 16 0)])) rfl Tryz.underlying182 Al182 rfl (Bd182 Tryz.underlying182) (.nil)) ?_;refine t_box (v:=.agg (List.flatten [[],encF (α:=Int) (List.replicate 16 0),encF (α:=Int) (List.replicate 16 0)]).toArray) (cs:=(List.flatten [[],encF (α:=Int) (List.replicate 16 0),encF (α:=Int) (List.replicate 16 0)])) H rfl rfl ?_;intro ab br H;refine t_alloc (cs:=[.pointer none]) H Al178 rfl ?_;intro ag bt H;refine t_sw 0 0 [Pq ab] (Pq ab) H rfl rfl Sz178 rfl rfl rfl rfl ?_;intro bu H;refine s_nil<|W.seq<|W.seq<|W.region rfl<|zM (I 0) rfl<|s_nil<|W.block ?_;obtain ⟨aY,ay,aZ⟩:=M.e_bind hM
 obtain ⟨a6,ay⟩:=M.e_iter ay
 refine W.loop (fun m σ W=>∃ (s:List Int) (s2:List Int) (s3:Nat) (ρ:Env),σ=upds ρ [(1,Pq ae),(3,Pq ag),(11,I (s3:Int))]/\M.iterN (zcI) m (s,s2,s3)=some aY/\St w W [cBlk ag [Pq ab] 178,cBlk ab (List.flatten [[],encF (α:=Int) s,encF (α:=Int) s2]) 182,cBlk ae [Pq ac] 112] R/\s.length=16/\s2.length=16) ?_ ?_
 ·exact ⟨_,List.replicate 16 0,List.replicate 16 0,0,_,upds_of _ _ ⟨rfl,rfl,rfl,trivial⟩,ay,H,List.length_replicate,List.length_replicate⟩
 rintro bv σ bw ⟨s,s2,s3,ρ,rfl,aN,H,az,aA⟩
 obtain ⟨a7,a8,bx,hM,aO⟩:=M.e_iterN aN
 simp only [zcI] at hM
 clear aN;refine W.seq<|W.region rfl<|zC (s3:Int) 16 (decide ((s3:Int)<16)) rfl rfl rfl<|s_nil<|W.seq ?_
 refine W.cond (decide ((s3:Int)<16)) rfl (fun aj=>?_) (fun aj=>?_)
 ·replace hM:=M.e_t hM aj
  replace aj:=dI aj
  refine W.skip<|W.seq<|W.block<|W.seq<|W.region rfl<|zM (I (s3:Int)) rfl<|zA (I (s3:Int)) rfl<|s_nil ?_;refine W.draw (fun W=>St w W [cBlk ag [Pq ab] 178,cBlk ae [Pq ac] 112] R) [(0,true),(1,true),(2,true),(3,true),(4,true),(5,true),(6,true),(8,true),(9,true),(7,false),(10,true),(11,false)] mixed (by decide +kernel) rfl ?_;intro bz aP;replace H:=H.ext aP;clear aP
  refine ⟨(H.pk [0,2]),?_⟩
  refine d_q rfl (fun w' H=>x_ld (v:=Pq ab) rfl (ldb_sc Sc178 (H.bl 0) rfl))<|d_q rfl (fun w' H=>x_mv (v:=I (s3:Int)) rfl)<|d_q rfl (fun w' H=>x_ld (v:=Pq ab) rfl (ldb_sc Sc178 (H.bl 0) rfl))<|d_q rfl (fun w' H=>x_mv (v:=I (s3:Int)) rfl)<|d_q rfl (fun w' H=>x_nc (a:=⟨ab,0,none⟩) rfl)<|d_q rfl (fun w' H=>x_fa (v:=Pq ab) rfl (fa_blk (o:=0) Fd182_0 Sz180)) ?_;obtain ⟨bA,hM⟩:=M.e_gd hM;refine d_q rfl (fun w' H=>x_ix (v:=.pointer (some ⟨ab,0+Int.toNat (s3:Int)*1,none⟩)) rfl rfl (run_indexS Tryz.underlying180 Sz3 (by omega) (by omega)))<|d_q rfl (fun w' H=>x_nc (a:=⟨ab,0,none⟩) rfl)<|d_q rfl (fun w' H=>x_fa (v:=Oq ab 16) rfl (fa_blk (o:=0) Fd182_1 Sz180))<|d_l rfl ?_;refine t_stS (α:=Int) (kc:=1) (b:=ab) (k:=1) (off:=0) (i:=s3) (f:=0) (sz:=1) (segs:=[[],encF (α:=Int) s,encF (α:=Int) s2]) (segs':=[[],encF (α:=Int) (s.set s3 (-1)),encF (α:=Int) s2]) (l:=s) (l':=s.set s3 (-1)) (vs:=[I (-1)]) (L':=[cBlk ag [Pq ab] 178,cBlk ab (List.flatten [[],encF (α:=Int) (s.set s3 (-1)),encF (α:=Int) s2]) 182,cBlk ae [Pq ac] 112]) H rfl rfl rfl Sz3 rfl rfl rfl rfl (sgo1 rfl) rfl rfl (by have ba:=az; omega) (by omega) 0 (-1) rfl rfl rfl rfl ?_;intro bB H
  have aQ:(s.set s3 (-1)).length=16:=List.length_set.trans az
  refine s_nil ⟨(H.pk [0,2]),?_⟩
  refine d_q rfl (fun w' H=>x_ix (v:=.pointer (some ⟨ab,16+Int.toNat (s3:Int)*1,none⟩)) rfl rfl (run_indexS Tryz.underlying180 Sz3 (by omega) (by omega)))<|d_l rfl ?_;refine t_stS (α:=Int) (kc:=1) (b:=ab) (k:=2) (off:=16) (i:=s3) (f:=0) (sz:=1) (segs:=[[],encF (α:=Int) (s.set s3 (-1)),encF (α:=Int) s2]) (segs':=[[],encF (α:=Int) (s.set s3 (-1)),encF (α:=Int) (s2.set s3 (-1))]) (l:=s2) (l':=s2.set s3 (-1)) (vs:=[I (-1)]) (L':=[cBlk ag [Pq ab] 178,cBlk ab (List.flatten [[],encF (α:=Int) (s.set s3 (-1)),encF (α:=Int) (s2.set s3 (-1))]) 182,cBlk ae [Pq ac] 112]) H rfl rfl rfl Sz3 rfl rfl rfl rfl (sgo2 aQ rfl) rfl rfl (by have ba:=aA; omega) (by omega) 0 (-1) rfl rfl rfl rfl ?_;intro bC H
  have bb:(s2.set s3 (-1)).length=16:=List.length_set.trans aA
  refine s_nil ⟨(H.pk [0,2]),?_⟩
  refine d_nil<|W.region rfl<|zR (s3:Int) 1 ((s3:Int)+1) rfl rfl rfl (by omega)<|zM (I ((s3:Int)+1)) rfl<|s_nil ?_
  exact ⟨a7,a8,s.set s3 (-1),s2.set s3 (-1),s3+1,_,upds_of _ _ ⟨rfl,rfl,rfl,trivial⟩,M.e_inl hM aO,H,aQ,bb⟩
 replace hM:=M.e_f hM aj
 replace aj:=dI aj
 refine W.exit ?_
 have bc:=M.e_inr hM aO
 subst bc;replace hM:=aZ;(try dsimp only at hM);refine W.seq<|W.region rfl<|s_val (x_ld (v:=Pq ac) rfl (ldb_sc Sc112 (H.bl 2) rfl))<|s_val (x_mf (fs:=[Pq ac]) (cs:=[]) rfl rfl) ?_;refine t_alloc (cs:=[.nilFunc]) H Al116 rfl ?_;intro am bD H;refine t_sw 0 0 [.func (.func 51) #[Pq ac] #[]] (.func (.func 51) #[Pq ac] #[]) H rfl rfl Sz116 rfl rfl rfl rfl ?_;intro bE H;refine s_nil<|W.seq<|W.seq<|W.region rfl<|s_val (x_ld (v:=Pq ac) rfl (ldb_sc Sc112 (H.bl 3) rfl))<|s_val (x_nc (a:=⟨ac,0,none⟩) rfl)<|s_val (x_fa (v:=Pq ac) rfl (fa_blk (o:=0) Fd177_0 Sz27))<|s_val (x_fa (v:=Oq ac 1) rfl (fa_blk (o:=0) Fd27_1 Sz24))<|s_val (x_ld (v:=aw) rfl (ldb_sc Sc24 (ax.blk H) rfl)) ?_
 have bF:=(aq).len_le
 refine s_val (x_lenS T24.und rfl aq)<|zM (I 0) rfl<|s_nil<|W.block ?_;obtain ⟨bf,aB,bg⟩:=M.e_bind hM
 obtain ⟨a6,aB⟩:=M.e_iter aB
 refine W.loop (fun m σ W=>∃ (s4:List Int) (s5:List Int) (s6:Nat) (ρ:Env),σ=upds ρ [(1,Pq ae),(3,Pq ag),(5,Pq am),(32,I (ai.length:Int)),(33,I (s6:Int))]/\M.iterN (zc9 ao ai ap) m (s4,s5,s6)=some bf/\St w W [cBlk am [.func (.func 51) #[Pq ac] #[]] 116,cBlk ag [Pq ab] 178,cBlk ab (List.flatten [[],encF (α:=Int) s4,encF (α:=Int) s5]) 182,cBlk ae [Pq ac] 112] R/\s4.length=16/\s5.length=16) ?_ ?_
 ·exact ⟨_,s,s2,0,_,upds_of _ _ ⟨rfl,rfl,rfl,rfl,rfl,trivial⟩,aB,H,az,aA⟩
 rintro bG σ bH ⟨s4,s5,s6,ρ,rfl,aR,H,aS,aT⟩
 obtain ⟨bh,bi,bI,hM,aU⟩:=M.e_iterN aR
 simp only [zc9] at hM
 clear aR;refine W.seq<|W.region rfl<|zC (s6:Int) (ai.length:Int) (decide ((s6:Int)<(ai.length:Int))) rfl rfl rfl<|s_nil<|W.seq ?_
 refine W.cond (decide ((s6:Int)<(ai.length:Int))) rfl (fun ak=>?_) (fun ak=>?_)
 ·replace hM:=M.e_t hM ak
  replace ak:=dI ak
  refine W.skip<|W.seq<|W.block<|W.seq<|W.region rfl<|zM (I (s6:Int)) rfl<|zA (I (s6:Int)) rfl<|s_nil<|W.seq<|W.region rfl ?_;refine t_mkmap (κ:=Int) (ν:=Bool) I B H ?_;intro aV bJ H;refine t_alloc (cs:=[.map none]) H Al191 rfl ?_;intro au bK H;refine t_sw 0 0 [.map (some aV)] (.map (some aV)) H rfl rfl Sz191 rfl rfl rfl rfl ?_;intro bL H;refine s_nil<|W.seq<|W.region rfl ?_;refine t_alloc (cs:=[.nilFunc]) H Al157 rfl ?_;intro av bM H;refine s_nil<|W.seq<|W.region rfl<|s_val (x_mf (fs:=[]) (cs:=[Pq ae,Pq am,Pq au,Pq ag,Pq av]) rfl rfl) ?_;refine t_sw 0 0 [.func (.func 120) #[] #[Pq ae,Pq am,Pq au,Pq ag,Pq av]] (.func (.func 120) #[] #[Pq ae,Pq am,Pq au,Pq ag,Pq av]) H rfl rfl Sz157 rfl rfl rfl rfl ?_;intro bN H;refine s_nil<|W.region rfl<|s_val (x_ld (v:=.func (.func 120) #[] #[Pq ae,Pq am,Pq au,Pq ag,Pq av]) rfl (ldb_sc Sc157 (H.bl 0) rfl))<|zM (I (s6:Int)) rfl ?_;obtain ⟨bO,bj,hM⟩:=M.e_bind hM;refine s_callv (f:=120) rfl cf120 [I (s6:Int)] rfl (zeh (s6:Int) ao ai ap ao ai ap (fun _=>none) s4 s5 (aH.app _) aI (aJ.app _) aq (aK.app _) aL (ax.app _) (Has.here (k:=4) rfl) (aH.app _) aI (aJ.app _) aq (aK.app _) aL (ax.app _) (Has.here (k:=2) rfl) (Has.here (k:=1) rfl) aS aT (Has.here (k:=3) rfl) (Has.here (k:=0) rfl) bj _ ((H.pk [2,5,0,1,3,4,6]).gt 5)) ?_
  rintro vq bP ⟨r2,bQ,q0,q1,rfl,hvq,aW,bm,bn⟩
  subst vq;(try dsimp only at hM)
  replace H:=H.pk [2,5,0,1,3,4,6] |>.bk aW
  clear aW;refine s_nil ?_;replace H:=H.pk [1,4,5,6];refine W.region rfl<|zR (s6:Int) 1 ((s6:Int)+1) rfl rfl rfl (by omega)<|zM (I ((s6:Int)+1)) rfl<|s_nil ?_
  exact ⟨bh,bi,q0,q1,s6+1,_,upds_of _ _ ⟨rfl,rfl,rfl,rfl,rfl,trivial⟩,M.e_inl hM aU,(H.pk [1,2,0,3]),bm,bn⟩
 replace hM:=M.e_f hM ak
 replace ak:=dI ak
 refine W.exit ?_
 have bo:=M.e_inr hM aU
 subst bo;replace hM:=bg;(try dsimp only at hM);replace H:=H.pk [1,2];refine W.seq<|W.region rfl<|s_val (x_ld (v:=Pq ab) rfl (ldb_sc Sc178 (H.bl 0) rfl))<|zA (Pq ab) rfl<|s_nil ?_;refine W.ret ?_
 have bp:=M.e_pure hM
 exact ⟨_,resE_tmp rfl,⟨s4,s5,ab,bp,rfl,(H.pk [1]),aS,aT⟩⟩

def zcK (r0:List Int):(Int × (List Int))->M ((Int × (List Int)) ⊕ ((List Int) × (List Int))):=fun (s,l) =>
  bif s != (-1) then (
  M.grd (decide ((l.length+([(s:Int)]).length)*8<=140737488355328)) <|
  M.grd (decide ((0:Int)<=s)&&decide (s<(16:Int))) <|
  M.pure (.inl (r0.getD (Int.toNat s) 0,l++([(s:Int)]))))
  else (
  M.pure (.inr (l,l)))
def zcZ (ab:List Mrk) (r0 r1:List Int):(Nat × (List (List Int)))->M ((Nat × (List (List Int))) ⊕ ((List (List Int)) × (List (List Int)))):=fun (s2,l4) =>
  bif decide ((s2:Int)<(ab.length:Int)) then (
  M.grd (decide ((0:Int)<=(s2:Int))&&decide ((s2:Int)<(16:Int))) <|
  bif (r1.getD s2 0) != (-1) then (
  M.pure (.inl (s2+1,l4)))
  else (
  M.bind (M.iter (zcK r0) ((s2:Int),[])) fun (l2,l3) =>
  M.grd (decide ((l4.length+([l3]).length)*24<=140737488355328)) <|
  M.pure (.inl (s2+1,l4++([l3])))))
  else (
  M.pure (.inr (l4,l4)))
def zdh (ac:List Sect) (ab:List Mrk) (ae:List Rch):M (List (List Int)) :=
  M.bind (zdy ac ab ae) fun (r0,r1) =>
  M.bind (M.iter (zcZ ab r0 r1) (0,[])) fun (l5,l6) =>
  M.pure l6
theorem zdH {R:List Chunk} {ai:Nat} {aD:Cells} {aE:Value} {aF:Cells} {aw:Value} {aG:Cells} {aH:Value} {aV:Nat} (ax:List Sect) (ae:List Mrk) (ay:List Rch) (aW:Reads R aD) (aX:Sl aD aE ax) (aY:Reads R aF) (az:Sl aF aw ae) (aZ:Reads R aG) (a6:Sl aG aH ay) (aI:Has R (cBlk ai [aE,aw,aH,.map (some aV)] 177)) {r:(List (List Int))} (hM:(zdh ax ae ay).Ends r) (w:World) (H:St w w [] R):Ret Tryz.prog 50 #[Pq ai] w fun v w'=>∃ (y0:List (List Int)) (u0:Value) (rr1:List (Raw 0)) (aJ:Base),y0=r/\v=u0/\St w w' [cOwn (α:=Raw 0) 28 u0 rr1,cRo aJ] R/\RepR (α:=List Int) aJ.cells rr1 y0:=by
 refine ret_of_W Tryz.func50 rfl rfl rfl<|W.seq<|W.region rfl<|zA (.slice none 0 0) rfl<|s_nil<|W.seq<|W.region rfl<|zM (Pq ai) rfl ?_;obtain ⟨bC,a7,hM⟩:=M.e_bind hM;refine s_call cf96 [Pq ai] rfl (zdT ax ae ay (aW.app _) aX (aY.app _) az (aZ.app _) a6 (aI.app _) a7 _ (H.gt 0)) ?_
 rintro vq bD ⟨r0,r1,ab,rfl,hvq,aK,aL,a8⟩
 subst vq;(try dsimp only at hM);replace H:=H.bk aK;clear aK;refine zA (Pq ab) rfl<|s_nil<|W.seq<|W.region rfl<|zA (.slice none 0 0) rfl<|s_nil<|W.seq<|W.seq<|W.region rfl<|zM (Pq ai) rfl ?_;refine s_val (x_nc (a:=⟨ai,0,none⟩) rfl)<|s_val (x_fa (v:=Pq ai) rfl (fa_blk (o:=0) Fd177_0 Sz27))<|s_val (x_fa (v:=Oq ai 1) rfl (fa_blk (o:=0) Fd27_1 Sz24))<|s_val (x_ld (v:=aw) rfl (ldb_sc Sc24 (aI.blk H) rfl)) ?_
 have bE:=(az).len_le
 refine s_val (x_lenS T24.und rfl az)<|zM (I 0) rfl<|s_nil<|W.block ?_
 obtain ⟨aM,H⟩:=H.emptyE
 replace H:=H.nilOwn (α:=Raw 0) 28
 have ba:RepR (α:=List Int) (n:=0) aM.cells [] []:=.nil
 obtain ⟨bb,aA,bc⟩:=M.e_bind hM
 obtain ⟨bf,aA⟩:=M.e_iter aA
 refine W.loop (fun m σ W=>∃ (s2:Nat) (l4:List (List Int)) (ac:Value) (ag:List (Raw 0)) (B_l4:Base) (ρ:Env),σ=upds ρ [(3,Pq ab),(4,ac),(15,I (ae.length:Int)),(16,I (s2:Int))]/\M.iterN (zcZ ae r0 r1) m (s2,l4)=some bb/\St w W [cOwn (α:=Raw 0) 28 ac ag,cRo B_l4,cBlk ab (List.flatten [[],encF (α:=Int) r0,encF (α:=Int) r1]) 182] R/\RepR (α:=List Int) B_l4.cells ag l4) ?_ ?_
 ·exact ⟨_,0,[],(.slice none 0 0),[],aM,_,upds_of _ _ ⟨rfl,rfl,rfl,rfl,trivial⟩,aA,H,ba⟩
 rintro bF σ bG ⟨s2,l4,ac,ag,B_l4,ρ,rfl,aN,H,aq⟩
 obtain ⟨aO,aP,bH,hM,aB⟩:=M.e_iterN aN
 simp only [zcZ] at hM
 clear aN;refine W.seq<|W.region rfl<|zC (s2:Int) (ae.length:Int) (decide ((s2:Int)<(ae.length:Int))) rfl rfl rfl<|s_nil<|W.seq ?_
 refine W.cond (decide ((s2:Int)<(ae.length:Int))) rfl (fun ak=>?_) (fun ak=>?_)
 ·replace hM:=M.e_t hM ak
  replace ak:=dI ak
  refine W.skip<|W.seq<|W.block<|W.seq<|W.region rfl<|zM (I (s2:Int)) rfl<|zA (I (s2:Int)) rfl<|s_nil<|W.seq<|W.seq ?_;refine W.region rfl<|zM (Pq ab) rfl<|zM (I (s2:Int)) rfl<|s_val (x_nc (a:=⟨ab,0,none⟩) rfl)<|s_val (x_fa (v:=Oq ab 16) rfl (fa_blk (o:=0) Fd182_1 Sz180)) ?_;obtain ⟨bI,hM⟩:=M.e_gd hM;refine s_val (x_ix (v:=.pointer (some ⟨ab,16+Int.toNat (s2:Int)*1,none⟩)) rfl rfl (run_indexS Tryz.underlying180 Sz3 (by omega) (by omega)))<|s_val (x_ld (v:=I (r1.getD s2 0)) rfl (ldS (α:=Int) (k:=2) (off:=16) (i:=s2) (f:=0) (sz:=1) 0 Sc3 (H.bl 2) rfl (sgo2 aL rfl) rfl (by decide) (by have bg:=a8; omega) (by omega) rfl))<|zC (r1.getD s2 0) (-1) ((r1.getD s2 0) != (-1)) rfl rfl rfl<|s_nil ?_
  refine W.cond ((r1.getD s2 0) != (-1)) rfl (fun am=>?_) (fun am=>?_)
  ·replace hM:=M.e_t hM am
   replace am:=dI am
   refine W.exit<|W.region rfl<|zR (s2:Int) 1 ((s2:Int)+1) rfl rfl rfl (by omega)<|zM (I ((s2:Int)+1)) rfl<|s_nil ?_
   exact ⟨aO,aP,s2+1,l4,ac,ag,B_l4,_,upds_of _ _ ⟨rfl,rfl,rfl,rfl,trivial⟩,M.e_inl hM aB,H,aq⟩
  replace hM:=M.e_f hM am
  replace am:=dI am
  refine W.skip<|W.seq<|W.region rfl<|zA (.slice none 0 0) rfl<|s_nil<|W.seq<|W.seq<|W.region rfl<|zM (I (s2:Int)) rfl<|zA (I (s2:Int)) rfl ?_;refine s_nil<|W.block ?_
  replace H:=H.nilOwn (α:=Int) 3
  obtain ⟨bh,aC,bi⟩:=M.e_bind hM
  obtain ⟨bf,aC⟩:=M.e_iter aC
  refine W.loop (fun m σ W=>∃ (s:Int) (l:List Int) (aj:Value) (ρ:Env),σ=upds ρ [(3,Pq ab),(4,ac),(6,aj),(7,I s),(15,I (ae.length:Int)),(16,I (s2:Int))]/\M.iterN (zcK r0) m (s,l)=some bh/\St w W [cOwn (α:=Int) 3 aj l,cOwn (α:=Raw 0) 28 ac ag,cRo B_l4,cBlk ab (List.flatten [[],encF (α:=Int) r0,encF (α:=Int) r1]) 182] R) ?_ ?_
  ·exact ⟨_,(s2:Int),[],(.slice none 0 0),_,upds_of _ _ ⟨rfl,rfl,rfl,rfl,rfl,rfl,trivial⟩,aC,H⟩
  rintro bJ σ bK ⟨s,l,aj,ρ,rfl,aQ,H⟩
  obtain ⟨bj,bm,bL,hM,aR⟩:=M.e_iterN aQ
  simp only [zcK] at hM
  clear aQ;refine W.seq<|W.seq<|W.region rfl<|zM (I s) rfl<|zC s (-1) (s != (-1)) rfl rfl rfl<|s_nil ?_
  refine W.cond (s != (-1)) rfl (fun ao=>?_) (fun ao=>?_)
  ·replace hM:=M.e_t hM ao
   replace ao:=dI ao
   refine W.skip<|W.seq<|W.block<|W.region rfl<|zM aj rfl<|zM (I s) rfl ?_;refine t_bs (α:=Int) T28 [I s] [(s:Int)] H rfl (.cons rfl (Flat.rep_enc _ (s:Int))<|.nil) rfl rfl rfl ?_;intro bn bM H;obtain ⟨bN,hM⟩:=M.e_gd hM;refine t_app (α:=Int) (k:=1) (l:=l) (l2:=[(s:Int)]) (l':=l++([(s:Int)])) (vy:=bn) T28 rfl H rfl rfl rfl (H.os 0) (H.ol 0) (rfl) (by first | omega | (simp only [List.length_nil] at *; omega)) ?_;intro aS bO H;replace H:=H.nf;refine zA aS rfl<|s_nil<|W.region rfl<|zM (Pq ab) rfl<|zM (I s) rfl<|s_val (x_nc (a:=⟨ab,0,none⟩) rfl)<|s_val (x_fa (v:=Pq ab) rfl (fa_blk (o:=0) Fd182_0 Sz180)) ?_;obtain ⟨bP,hM⟩:=M.e_gd hM;refine s_val (x_ix (v:=.pointer (some ⟨ab,0+Int.toNat s*1,none⟩)) rfl rfl (run_indexS Tryz.underlying180 Sz3 (by omega) (by omega)))<|s_val (x_ld (v:=I (r0.getD (Int.toNat s) 0)) rfl (ldS (α:=Int) (k:=1) (off:=0) (i:=(Int.toNat s)) (f:=0) (sz:=1) 0 Sc3 (H.bl 4) rfl (sgo1 rfl) rfl (by decide) (by have bg:=aL; omega) (by omega) rfl))<|zA (I (r0.getD (Int.toNat s) 0)) rfl<|s_nil ?_
   exact ⟨bj,bm,r0.getD (Int.toNat s) 0,l++([(s:Int)]),aS,_,upds_of _ _ ⟨rfl,rfl,rfl,rfl,rfl,rfl,trivial⟩,M.e_inl hM aR,(H.pk [1,2,3,4])⟩
  replace hM:=M.e_f hM ao
  replace ao:=dI ao
  refine W.exit ?_
  have bo:=M.e_inr hM aR
  subst bo;replace hM:=bi;(try dsimp only at hM);refine W.region rfl<|zM ac rfl<|zM aj rfl ?_
  obtain ⟨bQ,H⟩:=H.emptyE
  obtain ⟨bR,H,bp⟩:=H.freezeE (k:=1) rfl
  replace H:=H.nf
  have au:=bp
  obtain ⟨bq,H,bS,br⟩:=H.joinE (i:=0) (j:=1) rfl rfl
  replace au:=au.mono br
  obtain ⟨ap,aT⟩:∃ r:Raw 0,r.cs=[aj]:=⟨Raw.of [aj] rfl (by simp only [List.all_cons,List.all_nil,Bool.true_and,Bool.and_true,Sl.oc au]; try rfl),rfl⟩
  have bt:RepR (α:=List Int) bq.cells [ap] [l]:=.cons (by rw [aT]; exact ⟨_,rfl,au⟩)<|.nil
  refine t_bs (α:=Raw 0) T38 [aj] [ap] H rfl (.cons (by rw [show (Flat.enc ap:List Value)=ap.cs from rfl,aT]; exact Sl.cells au) (Flat.rep_enc _ _)<|.nil) rfl rfl rfl ?_;intro bu bT H;replace H:=H.nf;obtain ⟨bU,hM⟩:=M.e_gd hM
  have av:=bt
  obtain ⟨bv,H,bw,bx⟩:=H.joinE (i:=5) (j:=1) rfl rfl
  replace aq:=aq.mono bw
  replace av:=av.mono bx
  have bz:=aq.app av
  refine t_app (α:=Raw 0) (k:=5) (l:=ag) (l2:=[ap]) (l':=ag++([ap])) (vy:=bu) T38 rfl H rfl rfl rfl (H.os 1) (H.ol 1) (rfl) (by have a_:=aq.len; have b_:=av.len; (try simp only [List.length_nil] at *); first | omega | (rw [a_,b_]; omega)) ?_;intro aU bV H;replace H:=H.nf;refine zA aU rfl<|s_nil ?_;replace H:=H.pk [0,5,6,7];refine W.region rfl<|zR (s2:Int) 1 ((s2:Int)+1) rfl rfl rfl (by omega)<|zM (I ((s2:Int)+1)) rfl<|s_nil ?_
  exact ⟨aO,aP,s2+1,l4++([l]),aU,ag++([ap]),bv,_,upds_of _ _ ⟨rfl,rfl,rfl,rfl,trivial⟩,M.e_inl hM aB,(H.pk [1,0,3]),bz⟩
 replace hM:=M.e_f hM ak
 replace ak:=dI ak
 refine W.exit ?_
 have bA:=M.e_inr hM aB
 subst bA;replace hM:=bc;(try dsimp only at hM);refine W.seq<|W.region rfl<|zM ac rfl<|zA ac rfl<|s_nil ?_;refine W.ret ?_
 have bB:=M.e_pure hM
 exact ⟨_,resE_tmp rfl,⟨l4,ac,ag,B_l4,bB,rfl,(H.pk [0,1]),aq⟩⟩

def zcU (s_Sections:List Sect) (s_Marks:List Mrk) (s_Reaches:List Rch) (r2:List (List Int)) (l6:List Int) (s3:Nat):Nat->M (Nat ⊕ (Unit ⊕ Unit)):=fun s2 =>
  bif decide ((s2:Int)<(r2.length:Int)) then (
  M.grd (decide ((s2:Int)<(r2.length:Int))) <|
  M.grd ((!((s3:Int) != (s2:Int))||(decide ((s3:Int)<(l6.length:Int))))) <|
  M.grd ((!(((s3:Int) != (s2:Int))&&(decide ((l6.getD s3 0)<((r2.getD s3 ([])).length:Int))))||(decide ((s2:Int)<(l6.length:Int))))) <|
  M.grd ((!((((s3:Int) != (s2:Int))&&(decide ((l6.getD s3 0)<((r2.getD s3 ([])).length:Int))))&&(decide ((l6.getD s2 0)<((r2.getD s2 ([])).length:Int))))||(decide ((s3:Int)<(l6.length:Int))))) <|
  M.grd ((!((((s3:Int) != (s2:Int))&&(decide ((l6.getD s3 0)<((r2.getD s3 ([])).length:Int))))&&(decide ((l6.getD s2 0)<((r2.getD s2 ([])).length:Int))))||(decide ((0:Int)<=(l6.getD s3 0))&&decide ((l6.getD s3 0)<((r2.getD s3 ([])).length:Int))))) <|
  M.grd ((!((((s3:Int) != (s2:Int))&&(decide ((l6.getD s3 0)<((r2.getD s3 ([])).length:Int))))&&(decide ((l6.getD s2 0)<((r2.getD s2 ([])).length:Int))))||(decide ((s2:Int)<(l6.length:Int))))) <|
  M.grd ((!((((s3:Int) != (s2:Int))&&(decide ((l6.getD s3 0)<((r2.getD s3 ([])).length:Int))))&&(decide ((l6.getD s2 0)<((r2.getD s2 ([])).length:Int))))||(decide ((0:Int)<=(l6.getD s2 0))&&decide ((l6.getD s2 0)<((r2.getD s2 ([])).length:Int))))) <|
  M.bind (M.opt ((((s3:Int) != (s2:Int))&&(decide ((l6.getD s3 0)<((r2.getD s3 ([])).length:Int))))&&(decide ((l6.getD s2 0)<((r2.getD s2 ([])).length:Int)))) (zaf s_Sections s_Marks s_Reaches ((r2.getD s3 ([])).getD (Int.toNat (l6.getD s3 0)) 0) ((r2.getD s2 ([])).getD (Int.toNat (l6.getD s2 0)) 0)) false) fun r3 =>
  bif (((((s3:Int) != (s2:Int))&&(decide ((l6.getD s3 0)<((r2.getD s3 ([])).length:Int))))&&(decide ((l6.getD s2 0)<((r2.getD s2 ([])).length:Int))))&&r3) then (
  M.grd (decide ((s3:Int)<(l6.length:Int))) <|
  M.grd (decide ((-9223372036854775808:Int)<=((l6.getD s3 0)+1))&&decide (((l6.getD s3 0)+1)<=(9223372036854775807:Int))) <|
  M.pure (.inr (.inl ())))
  else (
  M.pure (.inl (s2+1))))
  else (
  M.pure (.inr (.inr ())))
def zcG (s_Sections:List Sect) (s_Marks:List Mrk) (s_Reaches:List Rch) (r2:List (List Int)) (l6:List Int):Nat->M (Nat ⊕ (((List Int) × (List Int)) ⊕ Unit)):=fun s3 =>
  bif decide ((s3:Int)<(r2.length:Int)) then (
  M.grd (decide ((s3:Int)<(r2.length:Int))) <|
  M.bind (M.iter (zcU s_Sections s_Marks s_Reaches r2 l6 s3) 0) fun x_=>match x_ with
  | (.inl (_:Unit))=>(
  M.pure (.inr (.inl (l6.set s3 ((l6.getD s3 0)+1:Int),l6.set s3 ((l6.getD s3 0)+1:Int)))))
  | (.inr (_:Unit))=>(
  M.pure (.inl (s3+1))))
  else (
  M.pure (.inr (.inr ())))
def zc6 (r2:List (List Int)) (l6:List Int):(Nat × (List Int))->M ((Nat × (List Int)) ⊕ ((List Int) × (List Int))):=fun (s4,l3) =>
  bif decide ((s4:Int)<(r2.length:Int)) then (
  M.grd (decide ((s4:Int)<(r2.length:Int))) <|
  M.grd (decide ((s4:Int)<(l6.length:Int))) <|
  bif decide ((l6.getD s4 0)<((r2.getD s4 ([])).length:Int)) then (
  M.grd (decide ((0:Int)<=(l6.getD s4 0))&&decide ((l6.getD s4 0)<((r2.getD s4 ([])).length:Int))) <|
  M.grd (decide ((l3.length+([((r2.getD s4 ([])).getD (Int.toNat (l6.getD s4 0)) 0:Int)]).length)*8<=140737488355328)) <|
  M.pure (.inl (s4+1,l3++([((r2.getD s4 ([])).getD (Int.toNat (l6.getD s4 0)) 0:Int)]))))
  else (
  M.pure (.inl (s4+1,l3))))
  else (
  M.pure (.inr (l3,l3)))
def zcL (s_Sections:List Sect) (s_Marks:List Mrk) (s_Reaches:List Rch) (r2:List (List Int)):(List Int)->M ((List Int) ⊕ ((List Int) × (List Int))):=fun l6 =>
  M.bind (M.iter (zcG s_Sections s_Marks s_Reaches r2 l6) 0) fun x_=>match x_ with
  | (.inl (l,l2))=>(
  M.pure (.inl l2))
  | (.inr (_:Unit))=>(
  M.bind (M.iter (zc6 r2 l6) (0,[])) fun (l4,l5) =>
  M.grd (decide (l5.length<=1000000)) <|
  M.pure (.inr (isort l5,l6)))
def zdl (s_Sections:List Sect) (s_Marks:List Mrk) (s_Reaches:List Rch):M ((List Int) × Int) :=
  M.bind (zah s_Sections s_Marks s_Reaches) fun x_=>match x_ with
  | (.inl r1)=>(
  bif r1 != 0 then (
  M.pure (([]),r1))
  else (
  M.fail))
  | (.inr ab)=>(
  bif ab != 0 then (
  M.fail)
  else (
  M.bind (zdh s_Sections s_Marks s_Reaches) fun r2 =>
  M.grd (decide ((0:Int)<=(r2.length:Int))&&decide ((8:Int)*(r2.length:Int)<=281474976710656)&&decide ((r2.length:Int)<=(9223372036854775807:Int))) <|
  M.bind (M.iter (zcL s_Sections s_Marks s_Reaches r2) (List.replicate (r2.length) (0:Int))) fun (l7,l8) =>
  M.pure (l7,0)))
theorem zd1 {R:List Chunk} {bj:Cells} {ao:Value} {bm:Cells} {ap:Value} {bn:Cells} {aq:Value} (s_Sections:List Sect) (s_Marks:List Mrk) (s_Reaches:List Rch) (aV:Reads R bj) (aW:Sl bj ao s_Sections) (aX:Reads R bm) (aY:Sl bm ap s_Marks) (aZ:Reads R bn) (a6:Sl bn aq s_Reaches) {r:((List Int) × Int)} (hM:(zdl s_Sections s_Marks s_Reaches).Ends r) (w:World) (H:St w w [] R):Ret Tryz.prog 10 #[.agg #[ao,ap,aq]] w fun v w'=>∃ (y0:List Int) (y1:Int) (u0:Value),(y0,y1)=r/\v = .tuple #[u0,I y1]/\St w w' [cOwn (α:=Int) 3 u0 y0] R:=by
 refine ret_of_W Tryz.func10 rfl rfl rfl<|W.seq<|W.region rfl ?_;refine t_bx [ao,ap,aq] H rfl ?_;intro aM cc H;refine zA (.slice none 0 0) rfl<|zA (I 0) rfl<|s_nil ?_;refine W.jumpS 0 rfl<|W.seq<|W.region rfl<|s_val (x_ld (v:=.agg #[ao,ap,aq]) rfl (ldb_ag (ds:=[ao,ap,aq]) Ag27 Sz27 (H.bl 0) rfl rfl)) ?_;obtain ⟨cd,bE,hM⟩:=M.e_bind hM;refine s_call cf49 [.agg #[ao,ap,aq]] rfl (zbB s_Sections s_Marks s_Reaches (aV.app _) aW (aX.app _) aY (aZ.app _) a6 bE _ (H.gt 1)) ?_
 rintro vq ce (⟨r1,bF,hvq,aD⟩ | ⟨aB,ak,ax,bG,hvq,aD⟩)
 ·subst bF;subst vq;(try dsimp only at hM);replace H:=H.bk aD;clear aD;refine zM (.tuple #[.pointer none,I r1]) rfl<|zX [.pointer none,I r1] (.pointer none) rfl rfl<|zX [.pointer none,I r1] (I r1) rfl rfl<|zA (.pointer none) rfl<|zA (I r1) rfl<|s_nil<|W.seq<|W.seq<|W.region rfl<|zM (I r1) rfl ?_;refine zC r1 0 (r1 != 0) rfl rfl rfl<|s_nil ?_
  refine W.cond (r1 != 0) rfl (fun aS=>?_) (fun aS=>?_)
  ·replace hM:=M.e_t hM aS
   replace aS:=dI aS
   refine W.seq<|W.region rfl<|zM (I r1) rfl<|zA (.slice none 0 0) rfl<|zA (I r1) rfl<|s_nil ?_;refine W.ret ?_
   have aT:=M.e_pure hM
   replace H:=H.nilOwn (α:=Int) 3
   exact ⟨_,resE_tmp2 rfl,⟨([]),r1,(.slice none 0 0),aT,rfl,(H.pk [0])⟩⟩
  replace hM:=M.e_f hM aS
  exact (M.e_fail hM).elim
 subst bG;subst vq;(try dsimp only at hM);replace H:=H.bk aD;clear aD;refine zM (.tuple #[Pq ak,I aB]) rfl<|zX [Pq ak,I aB] (Pq ak) rfl rfl<|zX [Pq ak,I aB] (I aB) rfl rfl<|zA (Pq ak) rfl<|zA (I aB) rfl<|s_nil<|W.seq<|W.seq<|W.region rfl<|zM (I aB) rfl ?_;refine zC aB 0 (aB != 0) rfl rfl rfl<|s_nil ?_
 refine W.cond (aB != 0) rfl (fun aU=>?_) (fun aU=>?_)
 ·replace hM:=M.e_t hM aU
  exact (M.e_fail hM).elim
 replace hM:=M.e_f hM aU
 replace aU:=dI aU
 refine W.skip<|W.seq<|W.region rfl<|zM (Pq ak) rfl ?_;obtain ⟨cf,bH,hM⟩:=M.e_bind hM;refine s_call cf50 [Pq ak] rfl (zdH s_Sections s_Marks s_Reaches (aV.app _) aW (aX.app _) aY (aZ.app _) a6 (Has.here (k:=0) rfl) bH _ (H.gt 3)) ?_
 rintro vq cg ⟨r2,aj,aN,aO,rfl,hvq,aD,aw⟩
 subst vq;(try dsimp only at hM);replace H:=H.bk aD;clear aD;refine zA aj rfl<|s_nil<|W.seq<|W.region rfl<|zM aj rfl ?_
 have cj:=((rowSl rfl (H.get (k:=0) rfl) (roLe _ (H.get (k:=1) rfl)) aw)).len_le
 refine s_val (x_lenS T38.und rfl (rowSl rfl (H.get (k:=0) rfl) (roLe _ (H.get (k:=1) rfl)) aw)) ?_;obtain ⟨co,hM⟩:=M.e_gd hM;refine t_mk (α:=Int) T28 (0:Int) rfl (n:=(r2.length:Int)) H rfl rfl (by omega) (by omega) (by omega) ?_;intro bo cp H;replace H:=H.nf;refine zA bo rfl<|s_nil ?_;obtain ⟨bI,a7,bJ⟩:=M.e_bind hM
 obtain ⟨a8,a7⟩:=M.e_iter a7
 refine W.jumpL (fun m σ W=>∃ (l6:List Int) (ag:Value) (ρ:Env),σ=upds ρ [(4,Pq ak),(6,aj),(7,ag)]/\M.iterN (zcL s_Sections s_Marks s_Reaches r2) m l6=some bI/\St w W [cOwn (α:=Int) 3 ag l6,cOwn (α:=Raw 0) 28 aj aN,cRo aO,cBlk ak [ao,ap,aq,.map (some ax)] 177,cMemI encSpt ax (zaa s_Sections s_Marks s_Reaches),cBlk aM [ao,ap,aq] 27] R) ?_ ?_
 ·exact ⟨_,List.replicate (r2.length) (0:Int),bo,_,upds_of _ _ ⟨rfl,rfl,rfl,trivial⟩,a7,H⟩
 rintro cq σ cr ⟨l6,ag,ρ,rfl,bp,H⟩
 obtain ⟨bK,bL,ct,hM,bq⟩:=M.e_iterN bp
 simp only [zcL] at hM
 clear bp;refine W.seq<|W.seq<|W.region rfl<|zM aj rfl ?_
 have cu:=((rowSl rfl (H.get (k:=1) rfl) (roLe _ (H.get (k:=2) rfl)) aw)).len_le
 refine s_val (x_lenS T38.und rfl (rowSl rfl (H.get (k:=1) rfl) (roLe _ (H.get (k:=2) rfl)) aw))<|zM (I 0) rfl<|s_nil<|W.block ?_;obtain ⟨bM,ba,br⟩:=M.e_bind hM
 obtain ⟨a8,ba⟩:=M.e_iter ba
 refine W.loop (fun m σ W=>∃ (s3:Nat) (ρ:Env),σ=upds ρ [(4,Pq ak),(6,aj),(7,ag),(28,aj),(29,I (r2.length:Int)),(30,I (s3:Int))]/\M.iterN (zcG s_Sections s_Marks s_Reaches r2 l6) m s3=some bM/\St w W [cOwn (α:=Int) 3 ag l6,cOwn (α:=Raw 0) 28 aj aN,cRo aO,cBlk ak [ao,ap,aq,.map (some ax)] 177,cMemI encSpt ax (zaa s_Sections s_Marks s_Reaches),cBlk aM [ao,ap,aq] 27] R) ?_ ?_
 ·exact ⟨_,0,_,upds_of _ _ ⟨rfl,rfl,rfl,rfl,rfl,rfl,trivial⟩,ba,H⟩
 rintro cv σ cw ⟨s3,ρ,rfl,bt,H⟩
 obtain ⟨bN,bO,cx,hM,bb⟩:=M.e_iterN bt
 simp only [zcG] at hM
 clear bt;refine W.seq<|W.region rfl<|zC (s3:Int) (r2.length:Int) (decide ((s3:Int)<(r2.length:Int))) rfl rfl rfl<|s_nil<|W.seq ?_
 refine W.cond (decide ((s3:Int)<(r2.length:Int))) rfl (fun aE=>?_) (fun aE=>?_)
 ·replace hM:=M.e_t hM aE
  replace aE:=dI aE
  refine W.skip<|W.seq<|W.block<|W.seq<|W.region rfl<|zM (I (s3:Int)) rfl ?_;obtain ⟨cy,hM⟩:=M.e_gd hM;refine s_val (x_ix (v:=vat aj 1 (Int.toNat (s3:Int))) rfl rfl (Sl.ix (α:=List Int) T38.und T38.size (rowSl rfl (H.get (k:=1) rfl) (roLe _ (H.get (k:=2) rfl)) aw) (by omega) (by omega))) ?_
  obtain ⟨aA,bP,aP⟩:=List_at (rowSl rfl (H.get (k:=1) rfl) (roLe _ (H.get (k:=2) rfl)) aw) (i:=(s3:Int)) (by omega) (by omega)
  replace aP:Sl _ aA (r2.getD s3 ([])):=aP
  have cz:=aP.len_le
  refine s_val (x_ld (v:=aA) rfl (ld_sc Sc28 (At.mono (bP) (Cells.sup_le (H.ol 1) (roLe _ (H.get (k:=2) rfl))))))<|zA (I (s3:Int)) rfl<|zA aA rfl<|s_nil<|W.seq<|W.region rfl<|zM aj rfl ?_
  have cA:=((rowSl rfl (H.get (k:=1) rfl) (roLe _ (H.get (k:=2) rfl)) aw)).len_le
  refine s_val (x_lenS T38.und rfl (rowSl rfl (H.get (k:=1) rfl) (roLe _ (H.get (k:=2) rfl)) aw))<|zM (I 0) rfl<|s_nil<|W.block ?_;obtain ⟨bQ,bc,bu⟩:=M.e_bind hM
  obtain ⟨a8,bc⟩:=M.e_iter bc
  refine W.loop (fun m σ W=>∃ (s2:Nat) (ρ:Env),σ=upds ρ [(4,Pq ak),(6,aj),(7,ag),(8,I (s3:Int)),(9,aA),(28,aj),(29,I (r2.length:Int)),(30,I (s3:Int)),(35,aj),(36,I (r2.length:Int)),(37,I (s2:Int))]/\M.iterN (zcU s_Sections s_Marks s_Reaches r2 l6 s3) m s2=some bQ/\St w W [cOwn (α:=Int) 3 ag l6,cOwn (α:=Raw 0) 28 aj aN,cRo aO,cBlk ak [ao,ap,aq,.map (some ax)] 177,cMemI encSpt ax (zaa s_Sections s_Marks s_Reaches),cBlk aM [ao,ap,aq] 27] R) ?_ ?_
  ·exact ⟨_,0,_,upds_of _ _ ⟨rfl,rfl,rfl,rfl,rfl,rfl,rfl,rfl,rfl,rfl,rfl,trivial⟩,bc,H⟩
  rintro cB σ cC ⟨s2,ρ,rfl,bv,H⟩
  obtain ⟨bR,bS,cD,hM,bf⟩:=M.e_iterN bv
  simp only [zcU] at hM
  clear bv;refine W.seq<|W.region rfl<|zC (s2:Int) (r2.length:Int) (decide ((s2:Int)<(r2.length:Int))) rfl rfl rfl<|s_nil<|W.seq ?_
  refine W.cond (decide ((s2:Int)<(r2.length:Int))) rfl (fun aF=>?_) (fun aF=>?_)
  ·replace hM:=M.e_t hM aF
   replace aF:=dI aF
   refine W.skip<|W.seq<|W.block<|W.seq<|W.region rfl<|zM (I (s2:Int)) rfl ?_;obtain ⟨cE,hM⟩:=M.e_gd hM;refine s_val (x_ix (v:=vat aj 1 (Int.toNat (s2:Int))) rfl rfl (Sl.ix (α:=List Int) T38.und T38.size (rowSl rfl (H.get (k:=1) rfl) (roLe _ (H.get (k:=2) rfl)) aw) (by omega) (by omega))) ?_
   obtain ⟨aC,bT,aQ⟩:=List_at (rowSl rfl (H.get (k:=1) rfl) (roLe _ (H.get (k:=2) rfl)) aw) (i:=(s2:Int)) (by omega) (by omega)
   replace aQ:Sl _ aC (r2.getD s2 ([])):=aQ
   have cF:=aQ.len_le
   refine s_val (x_ld (v:=aC) rfl (ld_sc Sc28 (At.mono (bT) (Cells.sup_le (H.ol 1) (roLe _ (H.get (k:=2) rfl))))))<|zA (I (s2:Int)) rfl<|zA aC rfl<|s_nil<|W.seq ?_;refine W.draw (fun W=>St w W [cOwn (α:=Int) 3 ag l6,cOwn (α:=Raw 0) 28 aj aN,cRo aO,cBlk ak [ao,ap,aq,.map (some ax)] 177,cMemI encSpt ax (zaa s_Sections s_Marks s_Reaches),cBlk aM [ao,ap,aq] 27] R) [(0,true),(1,true),(2,true),(3,true),(4,true),(5,true),(6,true),(7,true),(8,true),(9,true),(10,true),(11,true),(12,true),(13,true),(14,true),(15,true),(16,true),(17,true),(18,true),(19,true),(20,true),(21,true),(22,true),(23,true),(24,true),(25,true),(26,true),(27,true),(28,true),(29,true),(30,true),(31,true),(32,true),(33,true),(34,true),(35,true),(36,true),(37,false),(38,true)] mixed (by decide +kernel) rfl ?_;intro cG ac;replace H:=H.ext ac;clear ac
   refine ⟨(H.pk [0,1,2,3,4,5]),?_⟩
   refine d_q rfl (fun w' H=>x_mv (v:=I (s3:Int)) rfl)<|d_q rfl (fun w' H=>x_mv (v:=I (s2:Int)) rfl)<|d_q rfl (fun w' H=>x_cmp (kd:=.i64) (r:=(s3:Int) != (s2:Int)) rfl rfl rfl)<|d_q rfl (fun w' H=>x_mv (v:=B ((s3:Int) != (s2:Int))) rfl)<|d_qg ((s3:Int) != (s2:Int)) rfl (gy_t rfl) (fun hg=>(fun w' H=>x_mv (v:=ag) rfl))<|d_qg ((s3:Int) != (s2:Int)) rfl (gy_t rfl) (fun hg=>(fun w' H=>x_mv (v:=I (s3:Int)) rfl)) ?_;obtain ⟨aG,hM⟩:=M.e_grd hM
   replace aG:=M.imp_of aG
   simp only [Bool.and_eq_true,decide_eq_true_eq] at aG
   refine d_qg ((s3:Int) != (s2:Int)) rfl (gy_t rfl) (fun hg=>(fun w' H=>x_ix (v:=vat ag 1 (Int.toNat (s3:Int))) (gd_of hg (ag)) (gd_of hg (I (s3:Int))) (Sl.ix (α:=Int) T28.und T28.size (H.os 0) (by have ab:=aG.resolve_left (by rw [hg]; decide); first | exact ab | exact ab.1 | exact ab.2 | omega | (have ac:=hg; simp at ac; omega)) (by have ab:=aG.resolve_left (by rw [hg]; decide); first | exact ab | exact ab.1 | exact ab.2 | omega | (have ac:=hg; simp at ac; omega)))))<|d_qg ((s3:Int) != (s2:Int)) rfl (gy_t rfl) (fun hg=>(fun w' H=>x_ld (v:=I (l6.getD s3 0)) (gd_of hg (vat ag 1 (Int.toNat (s3:Int)))) (ld_sc Sc3 (At.mono (Int_at (H.os 0) (i:=(s3:Int)) (by have ab:=aG.resolve_left (by rw [hg]; decide); first | exact ab | exact ab.1 | exact ab.2 | omega | (have ac:=hg; simp at ac; omega)) (by have ab:=aG.resolve_left (by rw [hg]; decide); first | exact ab | exact ab.1 | exact ab.2 | omega | (have ac:=hg; simp at ac; omega))) (H.ol 0)))))<|d_qg ((s3:Int) != (s2:Int)) rfl (gy_t rfl) (fun hg=>(fun w' H=>x_mv (v:=aA) rfl))<|d_qg ((s3:Int) != (s2:Int)) rfl (gy_t rfl) (fun hg=>(fun w' H=>x_lenS T28.und (gd_of hg (aA)) aP))<|d_qg ((s3:Int) != (s2:Int)) rfl (gy_t rfl) (fun hg=>(fun w' H=>x_cmp (kd:=.i64) (r:=decide ((l6.getD s3 0)<((r2.getD s3 ([])).length:Int))) (gd_of hg (I (l6.getD s3 0))) (gd_of hg (I ((r2.getD s3 ([])).length:Int))) rfl))<|d_q rfl (fun w' H=>x_pand (b:=(s3:Int) != (s2:Int)) (r:=decide ((l6.getD s3 0)<((r2.getD s3 ([])).length:Int))) rfl (fun hb=>gd_of (c:=(s3:Int) != (s2:Int)) (by first | exact hb | (rw [hb]; rfl) | simp_all) (B (decide ((l6.getD s3 0)<((r2.getD s3 ([])).length:Int))))) rfl)<|d_q rfl (fun w' H=>x_mv (v:=B (((s3:Int) != (s2:Int))&&(decide ((l6.getD s3 0)<((r2.getD s3 ([])).length:Int))))) rfl)<|d_qg (((s3:Int) != (s2:Int))&&(decide ((l6.getD s3 0)<((r2.getD s3 ([])).length:Int)))) rfl (gy_t rfl) (fun hg=>(fun w' H=>x_mv (v:=ag) rfl))<|d_qg (((s3:Int) != (s2:Int))&&(decide ((l6.getD s3 0)<((r2.getD s3 ([])).length:Int)))) rfl (gy_t rfl) (fun hg=>(fun w' H=>x_mv (v:=I (s2:Int)) rfl)) ?_;obtain ⟨aH,hM⟩:=M.e_grd hM
   replace aH:=M.imp_of aH
   simp only [Bool.and_eq_true,decide_eq_true_eq] at aH
   refine d_qg (((s3:Int) != (s2:Int))&&(decide ((l6.getD s3 0)<((r2.getD s3 ([])).length:Int)))) rfl (gy_t rfl) (fun hg=>(fun w' H=>x_ix (v:=vat ag 1 (Int.toNat (s2:Int))) (gd_of hg (ag)) (gd_of hg (I (s2:Int))) (Sl.ix (α:=Int) T28.und T28.size (H.os 0) (by have ab:=aH.resolve_left (by rw [hg]; decide); first | exact ab | exact ab.1 | exact ab.2 | omega | (have ac:=hg; simp at ac; omega)) (by have ab:=aH.resolve_left (by rw [hg]; decide); first | exact ab | exact ab.1 | exact ab.2 | omega | (have ac:=hg; simp at ac; omega)))))<|d_qg (((s3:Int) != (s2:Int))&&(decide ((l6.getD s3 0)<((r2.getD s3 ([])).length:Int)))) rfl (gy_t rfl) (fun hg=>(fun w' H=>x_ld (v:=I (l6.getD s2 0)) (gd_of hg (vat ag 1 (Int.toNat (s2:Int)))) (ld_sc Sc3 (At.mono (Int_at (H.os 0) (i:=(s2:Int)) (by have ab:=aH.resolve_left (by rw [hg]; decide); first | exact ab | exact ab.1 | exact ab.2 | omega | (have ac:=hg; simp at ac; omega)) (by have ab:=aH.resolve_left (by rw [hg]; decide); first | exact ab | exact ab.1 | exact ab.2 | omega | (have ac:=hg; simp at ac; omega))) (H.ol 0)))))<|d_qg (((s3:Int) != (s2:Int))&&(decide ((l6.getD s3 0)<((r2.getD s3 ([])).length:Int)))) rfl (gy_t rfl) (fun hg=>(fun w' H=>x_mv (v:=aC) rfl))<|d_qg (((s3:Int) != (s2:Int))&&(decide ((l6.getD s3 0)<((r2.getD s3 ([])).length:Int)))) rfl (gy_t rfl) (fun hg=>(fun w' H=>x_lenS T28.und (gd_of hg (aC)) aQ))<|d_qg (((s3:Int) != (s2:Int))&&(decide ((l6.getD s3 0)<((r2.getD s3 ([])).length:Int)))) rfl (gy_t rfl) (fun hg=>(fun w' H=>x_cmp (kd:=.i64) (r:=decide ((l6.getD s2 0)<((r2.getD s2 ([])).length:Int))) (gd_of hg (I (l6.getD s2 0))) (gd_of hg (I ((r2.getD s2 ([])).length:Int))) rfl))<|d_q rfl (fun w' H=>x_pand (b:=(((s3:Int) != (s2:Int))&&(decide ((l6.getD s3 0)<((r2.getD s3 ([])).length:Int))))) (r:=decide ((l6.getD s2 0)<((r2.getD s2 ([])).length:Int))) rfl (fun hb=>gd_of (c:=(((s3:Int) != (s2:Int))&&(decide ((l6.getD s3 0)<((r2.getD s3 ([])).length:Int))))) (by first | exact hb | (rw [hb]; rfl) | simp_all) (B (decide ((l6.getD s2 0)<((r2.getD s2 ([])).length:Int))))) rfl)<|d_q rfl (fun w' H=>x_mv (v:=B ((((s3:Int) != (s2:Int))&&(decide ((l6.getD s3 0)<((r2.getD s3 ([])).length:Int))))&&(decide ((l6.getD s2 0)<((r2.getD s2 ([])).length:Int))))) rfl)<|d_qg ((((s3:Int) != (s2:Int))&&(decide ((l6.getD s3 0)<((r2.getD s3 ([])).length:Int))))&&(decide ((l6.getD s2 0)<((r2.getD s2 ([])).length:Int)))) rfl (gy_t rfl) (fun hg=>(fun w' H=>x_mv (v:=Pq ak) rfl))<|d_qg ((((s3:Int) != (s2:Int))&&(decide ((l6.getD s3 0)<((r2.getD s3 ([])).length:Int))))&&(decide ((l6.getD s2 0)<((r2.getD s2 ([])).length:Int)))) rfl (gy_t rfl) (fun hg=>(fun w' H=>x_mv (v:=aA) rfl))<|d_qg ((((s3:Int) != (s2:Int))&&(decide ((l6.getD s3 0)<((r2.getD s3 ([])).length:Int))))&&(decide ((l6.getD s2 0)<((r2.getD s2 ([])).length:Int)))) rfl (gy_t rfl) (fun hg=>(fun w' H=>x_mv (v:=ag) rfl)) ?_;refine d_qg ((((s3:Int) != (s2:Int))&&(decide ((l6.getD s3 0)<((r2.getD s3 ([])).length:Int))))&&(decide ((l6.getD s2 0)<((r2.getD s2 ([])).length:Int)))) rfl (gy_t rfl) (fun hg=>(fun w' H=>x_mv (v:=I (s3:Int)) rfl)) ?_;obtain ⟨am,hM⟩:=M.e_grd hM
   replace am:=M.imp_of am
   simp only [Bool.and_eq_true,decide_eq_true_eq] at am
   refine d_qg ((((s3:Int) != (s2:Int))&&(decide ((l6.getD s3 0)<((r2.getD s3 ([])).length:Int))))&&(decide ((l6.getD s2 0)<((r2.getD s2 ([])).length:Int)))) rfl (gy_t rfl) (fun hg=>(fun w' H=>x_ix (v:=vat ag 1 (Int.toNat (s3:Int))) (gd_of hg (ag)) (gd_of hg (I (s3:Int))) (Sl.ix (α:=Int) T28.und T28.size (H.os 0) (by have ab:=am.resolve_left (by rw [hg]; decide); first | exact ab | exact ab.1 | exact ab.2 | omega | (have ac:=hg; simp at ac; omega)) (by have ab:=am.resolve_left (by rw [hg]; decide); first | exact ab | exact ab.1 | exact ab.2 | omega | (have ac:=hg; simp at ac; omega)))))<|d_qg ((((s3:Int) != (s2:Int))&&(decide ((l6.getD s3 0)<((r2.getD s3 ([])).length:Int))))&&(decide ((l6.getD s2 0)<((r2.getD s2 ([])).length:Int)))) rfl (gy_t rfl) (fun hg=>(fun w' H=>x_ld (v:=I (l6.getD s3 0)) (gd_of hg (vat ag 1 (Int.toNat (s3:Int)))) (ld_sc Sc3 (At.mono (Int_at (H.os 0) (i:=(s3:Int)) (by have ab:=am.resolve_left (by rw [hg]; decide); first | exact ab | exact ab.1 | exact ab.2 | omega | (have ac:=hg; simp at ac; omega)) (by have ab:=am.resolve_left (by rw [hg]; decide); first | exact ab | exact ab.1 | exact ab.2 | omega | (have ac:=hg; simp at ac; omega))) (H.ol 0))))) ?_;obtain ⟨au,hM⟩:=M.e_grd hM
   replace au:=M.imp_of au
   simp only [Bool.and_eq_true,decide_eq_true_eq] at au
   refine d_qg ((((s3:Int) != (s2:Int))&&(decide ((l6.getD s3 0)<((r2.getD s3 ([])).length:Int))))&&(decide ((l6.getD s2 0)<((r2.getD s2 ([])).length:Int)))) rfl (gy_t rfl) (fun hg=>(fun w' H=>x_ix (v:=vat aA 1 (Int.toNat (l6.getD s3 0))) (gd_of hg (aA)) (gd_of hg (I (l6.getD s3 0))) (Sl.ix (α:=Int) T28.und T28.size aP (by have ab:=am.resolve_left (by rw [hg]; decide); have ae:=au.resolve_left (by rw [hg]; decide); first | exact ab | exact ab.1 | exact ab.2 | exact ae | exact ae.1 | exact ae.2 | omega | (have ac:=hg; simp at ac; omega)) (by have ab:=am.resolve_left (by rw [hg]; decide); have ae:=au.resolve_left (by rw [hg]; decide); first | exact ab | exact ab.1 | exact ab.2 | exact ae | exact ae.1 | exact ae.2 | omega | (have ac:=hg; simp at ac; omega)))))<|d_qg ((((s3:Int) != (s2:Int))&&(decide ((l6.getD s3 0)<((r2.getD s3 ([])).length:Int))))&&(decide ((l6.getD s2 0)<((r2.getD s2 ([])).length:Int)))) rfl (gy_t rfl) (fun hg=>(fun w' H=>x_ld (v:=I ((r2.getD s3 ([])).getD (Int.toNat (l6.getD s3 0)) 0)) (gd_of hg (vat aA 1 (Int.toNat (l6.getD s3 0)))) (ld_sc Sc3 (At.mono (Int_at aP (i:=l6.getD s3 0) (by have ab:=am.resolve_left (by rw [hg]; decide); have ae:=au.resolve_left (by rw [hg]; decide); first | exact ab | exact ab.1 | exact ab.2 | exact ae | exact ae.1 | exact ae.2 | omega | (have ac:=hg; simp at ac; omega)) (by have ab:=am.resolve_left (by rw [hg]; decide); have ae:=au.resolve_left (by rw [hg]; decide); first | exact ab | exact ab.1 | exact ab.2 | exact ae | exact ae.1 | exact ae.2 | omega | (have ac:=hg; simp at ac; omega))) (Cells.sup_le (H.ol 1) (roLe _ (H.get (k:=2) rfl)))))))<|d_qg ((((s3:Int) != (s2:Int))&&(decide ((l6.getD s3 0)<((r2.getD s3 ([])).length:Int))))&&(decide ((l6.getD s2 0)<((r2.getD s2 ([])).length:Int)))) rfl (gy_t rfl) (fun hg=>(fun w' H=>x_mv (v:=aC) rfl))<|d_qg ((((s3:Int) != (s2:Int))&&(decide ((l6.getD s3 0)<((r2.getD s3 ([])).length:Int))))&&(decide ((l6.getD s2 0)<((r2.getD s2 ([])).length:Int)))) rfl (gy_t rfl) (fun hg=>(fun w' H=>x_mv (v:=ag) rfl))<|d_qg ((((s3:Int) != (s2:Int))&&(decide ((l6.getD s3 0)<((r2.getD s3 ([])).length:Int))))&&(decide ((l6.getD s2 0)<((r2.getD s2 ([])).length:Int)))) rfl (gy_t rfl) (fun hg=>(fun w' H=>x_mv (v:=I (s2:Int)) rfl)) ?_;obtain ⟨ay,hM⟩:=M.e_grd hM
   replace ay:=M.imp_of ay
   simp only [Bool.and_eq_true,decide_eq_true_eq] at ay
   refine d_qg ((((s3:Int) != (s2:Int))&&(decide ((l6.getD s3 0)<((r2.getD s3 ([])).length:Int))))&&(decide ((l6.getD s2 0)<((r2.getD s2 ([])).length:Int)))) rfl (gy_t rfl) (fun hg=>(fun w' H=>x_ix (v:=vat ag 1 (Int.toNat (s2:Int))) (gd_of hg (ag)) (gd_of hg (I (s2:Int))) (Sl.ix (α:=Int) T28.und T28.size (H.os 0) (by have ab:=am.resolve_left (by rw [hg]; decide); have ae:=au.resolve_left (by rw [hg]; decide); have ai:=ay.resolve_left (by rw [hg]; decide); first | exact ab | exact ab.1 | exact ab.2 | exact ae | exact ae.1 | exact ae.2 | exact ai | exact ai.1 | exact ai.2 | omega | (have ac:=hg; simp at ac; omega)) (by have ab:=am.resolve_left (by rw [hg]; decide); have ae:=au.resolve_left (by rw [hg]; decide); have ai:=ay.resolve_left (by rw [hg]; decide); first | exact ab | exact ab.1 | exact ab.2 | exact ae | exact ae.1 | exact ae.2 | exact ai | exact ai.1 | exact ai.2 | omega | (have ac:=hg; simp at ac; omega)))))<|d_qg ((((s3:Int) != (s2:Int))&&(decide ((l6.getD s3 0)<((r2.getD s3 ([])).length:Int))))&&(decide ((l6.getD s2 0)<((r2.getD s2 ([])).length:Int)))) rfl (gy_t rfl) (fun hg=>(fun w' H=>x_ld (v:=I (l6.getD s2 0)) (gd_of hg (vat ag 1 (Int.toNat (s2:Int)))) (ld_sc Sc3 (At.mono (Int_at (H.os 0) (i:=(s2:Int)) (by have ab:=am.resolve_left (by rw [hg]; decide); have ae:=au.resolve_left (by rw [hg]; decide); have ai:=ay.resolve_left (by rw [hg]; decide); first | exact ab | exact ab.1 | exact ab.2 | exact ae | exact ae.1 | exact ae.2 | exact ai | exact ai.1 | exact ai.2 | omega | (have ac:=hg; simp at ac; omega)) (by have ab:=am.resolve_left (by rw [hg]; decide); have ae:=au.resolve_left (by rw [hg]; decide); have ai:=ay.resolve_left (by rw [hg]; decide); first | exact ab | exact ab.1 | exact ab.2 | exact ae | exact ae.1 | exact ae.2 | exact ai | exact ai.1 | exact ai.2 | omega | (have ac:=hg; simp at ac; omega))) (H.ol 0))))) ?_;obtain ⟨aI,hM⟩:=M.e_grd hM
   replace aI:=M.imp_of aI
   simp only [Bool.and_eq_true,decide_eq_true_eq] at aI
   refine d_qg ((((s3:Int) != (s2:Int))&&(decide ((l6.getD s3 0)<((r2.getD s3 ([])).length:Int))))&&(decide ((l6.getD s2 0)<((r2.getD s2 ([])).length:Int)))) rfl (gy_t rfl) (fun hg=>(fun w' H=>x_ix (v:=vat aC 1 (Int.toNat (l6.getD s2 0))) (gd_of hg (aC)) (gd_of hg (I (l6.getD s2 0))) (Sl.ix (α:=Int) T28.und T28.size aQ (by have ab:=am.resolve_left (by rw [hg]; decide); have ae:=au.resolve_left (by rw [hg]; decide); have ai:=ay.resolve_left (by rw [hg]; decide); have av:=aI.resolve_left (by rw [hg]; decide); first | exact ab | exact ab.1 | exact ab.2 | exact ae | exact ae.1 | exact ae.2 | exact ai | exact ai.1 | exact ai.2 | exact av | exact av.1 | exact av.2 | omega | (have ac:=hg; simp at ac; omega)) (by have ab:=am.resolve_left (by rw [hg]; decide); have ae:=au.resolve_left (by rw [hg]; decide); have ai:=ay.resolve_left (by rw [hg]; decide); have av:=aI.resolve_left (by rw [hg]; decide); first | exact ab | exact ab.1 | exact ab.2 | exact ae | exact ae.1 | exact ae.2 | exact ai | exact ai.1 | exact ai.2 | exact av | exact av.1 | exact av.2 | omega | (have ac:=hg; simp at ac; omega)))))<|d_qg ((((s3:Int) != (s2:Int))&&(decide ((l6.getD s3 0)<((r2.getD s3 ([])).length:Int))))&&(decide ((l6.getD s2 0)<((r2.getD s2 ([])).length:Int)))) rfl (gy_t rfl) (fun hg=>(fun w' H=>x_ld (v:=I ((r2.getD s2 ([])).getD (Int.toNat (l6.getD s2 0)) 0)) (gd_of hg (vat aC 1 (Int.toNat (l6.getD s2 0)))) (ld_sc Sc3 (At.mono (Int_at aQ (i:=l6.getD s2 0) (by have ab:=am.resolve_left (by rw [hg]; decide); have ae:=au.resolve_left (by rw [hg]; decide); have ai:=ay.resolve_left (by rw [hg]; decide); have av:=aI.resolve_left (by rw [hg]; decide); first | exact ab | exact ab.1 | exact ab.2 | exact ae | exact ae.1 | exact ae.2 | exact ai | exact ai.1 | exact ai.2 | exact av | exact av.1 | exact av.2 | omega | (have ac:=hg; simp at ac; omega)) (by have ab:=am.resolve_left (by rw [hg]; decide); have ae:=au.resolve_left (by rw [hg]; decide); have ai:=ay.resolve_left (by rw [hg]; decide); have av:=aI.resolve_left (by rw [hg]; decide); first | exact ab | exact ab.1 | exact ab.2 | exact ae | exact ae.1 | exact ae.2 | exact ai | exact ai.1 | exact ai.2 | exact av | exact av.1 | exact av.2 | omega | (have ac:=hg; simp at ac; omega))) (Cells.sup_le (H.ol 1) (roLe _ (H.get (k:=2) rfl)))))))<|d_l rfl ?_;obtain ⟨r3,bU,hM⟩:=M.e_bind hM;refine t_gcall ((((s3:Int) != (s2:Int))&&(decide ((l6.getD s3 0)<((r2.getD s3 ([])).length:Int))))&&(decide ((l6.getD s2 0)<((r2.getD s2 ([])).length:Int)))) (gy_t rfl) cf51 (B r3) (fun _=>[Pq ak,I ((r2.getD s3 ([])).getD (Int.toNat (l6.getD s3 0)) 0),I ((r2.getD s2 ([])).getD (Int.toNat (l6.getD s2 0)) 0)]) (fun hg=>lst3 (gd_of hg (Pq ak)) (gd_of hg (I ((r2.getD s3 ([])).getD (Int.toNat (l6.getD s3 0)) 0))) (gd_of hg (I ((r2.getD s2 ([])).getD (Int.toNat (l6.getD s2 0)) 0)))) H (fun hg=>(zaH s_Sections s_Marks s_Reaches ((r2.getD s3 ([])).getD (Int.toNat (l6.getD s3 0)) 0) ((r2.getD s2 ([])).getD (Int.toNat (l6.getD s2 0)) 0) (aV.app _) aW (aX.app _) aY (aZ.app _) a6 (Has.here (k:=3) rfl) (M.e_opt bU hg) _ (H.give (A:=[]) rfl)).mono fun v_ w_ ⟨y_,aT,bV,H_⟩=>by subst aT; exact ⟨bV,H.via H_⟩) ?_;intro cH H
   refine s_nil ⟨(H.pk [0,1,2,3,4,5]),?_⟩
   refine d_q rfl (fun w' H=>x_pand (b:=((((s3:Int) != (s2:Int))&&(decide ((l6.getD s3 0)<((r2.getD s3 ([])).length:Int))))&&(decide ((l6.getD s2 0)<((r2.getD s2 ([])).length:Int))))) (r:=r3) rfl (fun hb=>gd_of (c:=((((s3:Int) != (s2:Int))&&(decide ((l6.getD s3 0)<((r2.getD s3 ([])).length:Int))))&&(decide ((l6.getD s2 0)<((r2.getD s2 ([])).length:Int))))) (by first | exact hb | (rw [hb]; rfl) | simp_all) (B r3)) rfl) ?_;refine d_nil ?_
   refine W.cond (((((s3:Int) != (s2:Int))&&(decide ((l6.getD s3 0)<((r2.getD s3 ([])).length:Int))))&&(decide ((l6.getD s2 0)<((r2.getD s2 ([])).length:Int))))&&r3) rfl (fun bg=>?_) (fun bg=>?_)
   ·replace hM:=M.e_t hM bg;refine W.seq<|W.region rfl<|zM ag rfl<|zM (I (s3:Int)) rfl ?_;obtain ⟨cI,hM⟩:=M.e_gd hM;refine s_val (x_ix (v:=vat ag 1 (Int.toNat (s3:Int))) rfl rfl (Sl.ix (α:=Int) T28.und T28.size (H.os 0) (by omega) (by omega)))<|s_val (x_ld (v:=I (l6.getD s3 0)) rfl (ld_sc Sc3 (At.mono (Int_at (H.os 0) (i:=(s3:Int)) (by omega) (by omega)) (H.ol 0)))) ?_;obtain ⟨cJ,hM⟩:=M.e_gd hM;refine zR (l6.getD s3 0) 1 ((l6.getD s3 0)+1) rfl rfl rfl (by omega)<|s_val (x_ix (v:=vat ag 1 (Int.toNat (s3:Int))) rfl rfl (Sl.ix (α:=Int) T28.und T28.size (H.os 0) (by omega) (by omega))) ?_;refine t_ow 0 (s3:Int) ((l6.getD s3 0)+1:Int) H Sz3 (by omega) (by omega) rfl rfl rfl ?_;intro cK H;refine s_nil ?_;refine W.goto ?_
    have bW:=M.e_inr hM bf
    subst bW;replace hM:=bu;(try dsimp only at hM)
    have bX:=M.e_inr hM bb
    subst bX;replace hM:=br;(try dsimp only at hM)
    exact ⟨rfl,bK,bL,l6.set s3 ((l6.getD s3 0)+1:Int),ag,_,upds_of _ _ ⟨rfl,rfl,rfl,trivial⟩,M.e_inl hM bq,H⟩
   replace hM:=M.e_f hM bg;refine W.skip<|W.region rfl<|zR (s2:Int) 1 ((s2:Int)+1) rfl rfl rfl (by omega)<|zM (I ((s2:Int)+1)) rfl<|s_nil ?_
   exact ⟨bR,bS,s2+1,_,upds_of _ _ ⟨rfl,rfl,rfl,rfl,rfl,rfl,rfl,rfl,rfl,rfl,rfl,trivial⟩,M.e_inl hM bf,H⟩
  replace hM:=M.e_f hM aF
  replace aF:=dI aF
  refine W.exit ?_
  have bY:=M.e_inr hM bf
  subst bY;replace hM:=bu;(try dsimp only at hM);refine W.region rfl<|zR (s3:Int) 1 ((s3:Int)+1) rfl rfl rfl (by omega)<|zM (I ((s3:Int)+1)) rfl<|s_nil ?_
  exact ⟨bN,bO,s3+1,_,upds_of _ _ ⟨rfl,rfl,rfl,rfl,rfl,rfl,trivial⟩,M.e_inl hM bb,H⟩
 replace hM:=M.e_f hM aE
 replace aE:=dI aE
 refine W.exit ?_
 have bZ:=M.e_inr hM bb
 subst bZ;replace hM:=br;(try dsimp only at hM);refine W.seq<|W.region rfl<|zA (.slice none 0 0) rfl<|s_nil<|W.seq<|W.seq<|W.region rfl<|zM aj rfl ?_
 have cL:=((rowSl rfl (H.get (k:=1) rfl) (roLe _ (H.get (k:=2) rfl)) aw)).len_le
 refine s_val (x_lenS T38.und rfl (rowSl rfl (H.get (k:=1) rfl) (roLe _ (H.get (k:=2) rfl)) aw))<|zM (I 0) rfl<|s_nil<|W.block ?_
 replace H:=H.nilOwn (α:=Int) 3
 obtain ⟨b4,bh,b5⟩:=M.e_bind hM
 obtain ⟨a8,bh⟩:=M.e_iter bh
 refine W.loop (fun m σ W=>∃ (s4:Nat) (l3:List Int) (az:Value) (ρ:Env),σ=upds ρ [(7,ag),(12,az),(89,aj),(90,I (r2.length:Int)),(91,I (s4:Int))]/\M.iterN (zc6 r2 l6) m (s4,l3)=some b4/\St w W [cOwn (α:=Int) 3 az l3,cOwn (α:=Int) 3 ag l6,cOwn (α:=Raw 0) 28 aj aN,cRo aO,cBlk ak [ao,ap,aq,.map (some ax)] 177,cMemI encSpt ax (zaa s_Sections s_Marks s_Reaches),cBlk aM [ao,ap,aq] 27] R) ?_ ?_
 ·exact ⟨_,0,[],(.slice none 0 0),_,upds_of _ _ ⟨rfl,rfl,rfl,rfl,rfl,trivial⟩,bh,H⟩
 rintro cM σ cN ⟨s4,l3,az,ρ,rfl,bw,H⟩
 obtain ⟨bx,bz,cO,hM,bi⟩:=M.e_iterN bw
 simp only [zc6] at hM
 clear bw;refine W.seq<|W.region rfl<|zC (s4:Int) (r2.length:Int) (decide ((s4:Int)<(r2.length:Int))) rfl rfl rfl<|s_nil<|W.seq ?_
 refine W.cond (decide ((s4:Int)<(r2.length:Int))) rfl (fun aJ=>?_) (fun aJ=>?_)
 ·replace hM:=M.e_t hM aJ
  replace aJ:=dI aJ
  refine W.skip<|W.seq<|W.block<|W.seq<|W.region rfl<|zM (I (s4:Int)) rfl ?_;obtain ⟨cP,hM⟩:=M.e_gd hM;refine s_val (x_ix (v:=vat aj 1 (Int.toNat (s4:Int))) rfl rfl (Sl.ix (α:=List Int) T38.und T38.size (rowSl rfl (H.get (k:=2) rfl) (roLe _ (H.get (k:=3) rfl)) aw) (by omega) (by omega))) ?_
  obtain ⟨aR,b6,aK⟩:=List_at (rowSl rfl (H.get (k:=2) rfl) (roLe _ (H.get (k:=3) rfl)) aw) (i:=(s4:Int)) (by omega) (by omega)
  replace aK:Sl _ aR (r2.getD s4 ([])):=aK
  have cQ:=aK.len_le
  refine s_val (x_ld (v:=aR) rfl (ld_sc Sc28 (At.mono (b6) (Cells.sup_le (H.ol 2) (roLe _ (H.get (k:=3) rfl))))))<|zA (I (s4:Int)) rfl<|zA aR rfl<|s_nil<|W.seq<|W.region rfl<|zM ag rfl<|zM (I (s4:Int)) rfl ?_;obtain ⟨cR,hM⟩:=M.e_gd hM;refine s_val (x_ix (v:=vat ag 1 (Int.toNat (s4:Int))) rfl rfl (Sl.ix (α:=Int) T28.und T28.size (H.os 1) (by omega) (by omega)))<|s_val (x_ld (v:=I (l6.getD s4 0)) rfl (ld_sc Sc3 (At.mono (Int_at (H.os 1) (i:=(s4:Int)) (by omega) (by omega)) (H.ol 1))))<|zM aR rfl ?_
  have cS:=(aK).len_le
  refine s_val (x_lenS T28.und rfl aK)<|zC (l6.getD s4 0) ((r2.getD s4 ([])).length:Int) (decide ((l6.getD s4 0)<((r2.getD s4 ([])).length:Int))) rfl rfl rfl<|s_nil ?_
  refine W.cond (decide ((l6.getD s4 0)<((r2.getD s4 ([])).length:Int))) rfl (fun aL=>?_) (fun aL=>?_)
  ·replace hM:=M.e_t hM aL
   replace aL:=dI aL
   refine W.region rfl<|zM az rfl<|zM aR rfl<|zM ag rfl<|zM (I (s4:Int)) rfl<|s_val (x_ix (v:=vat ag 1 (Int.toNat (s4:Int))) rfl rfl (Sl.ix (α:=Int) T28.und T28.size (H.os 1) (by omega) (by omega)))<|s_val (x_ld (v:=I (l6.getD s4 0)) rfl (ld_sc Sc3 (At.mono (Int_at (H.os 1) (i:=(s4:Int)) (by omega) (by omega)) (H.ol 1)))) ?_;obtain ⟨cT,hM⟩:=M.e_gd hM;refine s_val (x_ix (v:=vat aR 1 (Int.toNat (l6.getD s4 0))) rfl rfl (Sl.ix (α:=Int) T28.und T28.size aK (by omega) (by omega)))<|s_val (x_ld (v:=I ((r2.getD s4 ([])).getD (Int.toNat (l6.getD s4 0)) 0)) rfl (ld_sc Sc3 (At.mono (Int_at aK (i:=l6.getD s4 0) (by omega) (by omega)) (Cells.sup_le (H.ol 2) (roLe _ (H.get (k:=3) rfl)))))) ?_;refine t_bs (α:=Int) T28 [I ((r2.getD s4 ([])).getD (Int.toNat (l6.getD s4 0)) 0)] [((r2.getD s4 ([])).getD (Int.toNat (l6.getD s4 0)) 0:Int)] H rfl (.cons rfl (Flat.rep_enc _ ((r2.getD s4 ([])).getD (Int.toNat (l6.getD s4 0)) 0:Int))<|.nil) rfl rfl rfl ?_;intro b7 cU H;obtain ⟨cV,hM⟩:=M.e_gd hM;refine t_app (α:=Int) (k:=1) (l:=l3) (l2:=[((r2.getD s4 ([])).getD (Int.toNat (l6.getD s4 0)) 0:Int)]) (l':=l3++([((r2.getD s4 ([])).getD (Int.toNat (l6.getD s4 0)) 0:Int)])) (vy:=b7) T28 rfl H rfl rfl rfl (H.os 0) (H.ol 0) (rfl) (by first | omega | (simp only [List.length_nil] at *; omega)) ?_;intro bA cW H;replace H:=H.nf;refine zA bA rfl<|s_nil<|W.region rfl<|zR (s4:Int) 1 ((s4:Int)+1) rfl rfl rfl (by omega)<|zM (I ((s4:Int)+1)) rfl<|s_nil ?_
   exact ⟨bx,bz,s4+1,l3++([((r2.getD s4 ([])).getD (Int.toNat (l6.getD s4 0)) 0:Int)]),bA,_,upds_of _ _ ⟨rfl,rfl,rfl,rfl,rfl,trivial⟩,M.e_inl hM bi,(H.pk [1,2,3,4,5,6,7])⟩
  replace hM:=M.e_f hM aL
  replace aL:=dI aL
  refine W.skip<|W.region rfl<|zR (s4:Int) 1 ((s4:Int)+1) rfl rfl rfl (by omega)<|zM (I ((s4:Int)+1)) rfl<|s_nil ?_
  exact ⟨bx,bz,s4+1,l3,az,_,upds_of _ _ ⟨rfl,rfl,rfl,rfl,rfl,trivial⟩,M.e_inl hM bi,H⟩
 replace hM:=M.e_f hM aJ
 replace aJ:=dI aJ
 refine W.exit ?_
 have b8:=M.e_inr hM bi
 subst b8;replace hM:=b5;(try dsimp only at hM);refine W.seq<|W.region rfl<|zM az rfl ?_;obtain ⟨cX,hM⟩:=M.e_gd hM;refine s_call cf52 [az] rfl (sort_any (H.get (k:=0) rfl) (by omega)) ?_
 rintro _ b9 ⟨rfl,bB,bC,bD⟩
 replace H:St w b9 [cOwn (α:=Int) 3 az (isort l3),cOwn (α:=Int) 3 ag l6,cOwn (α:=Raw 0) 28 aj aN,cRo aO,cBlk ak [ao,ap,aq,.map (some ax)] 177,cMemI encSpt ax (zaa s_Sections s_Marks s_Reaches),cBlk aM [ao,ap,aq] 27] R:=H.sorted (k:=0) rfl bB bC bD rfl
 clear bB bC bD
 refine s_nil<|W.seq<|W.region rfl<|zM az rfl<|zA az rfl<|zA (I 0) rfl<|s_nil ?_;refine W.ret ?_
 have cb:=M.e_inr hM bq
 subst cb;replace hM:=bJ;(try dsimp only at hM)
 have aT:=M.e_pure hM
 exact ⟨_,resE_tmp2 rfl,⟨(isort l3),0,az,aT,rfl,(H.pk [0])⟩⟩

def zcW (i:Int) (ac:List Sect) (ab:List Mrk) (ae:List Rch):M Bool :=
  M.bind (zab i 0 ((ab.length:Int)-1)) fun r2 =>
  M.pure r2
theorem zem {R:List Chunk} {ag:Nat} {ab:Nat} {ai:Cells} {aj:Value} {ak:Cells} {ae:Value} {am:Cells} {ao:Value} {aw:Nat} (i:Int) (ap:List Sect) (ac:List Mrk) (aq:List Rch) (aB:Reads R ai) (aC:Sl ai aj ap) (aD:Reads R ak) (au:Sl ak ae ac) (aE:Reads R am) (aF:Sl am ao aq) (ax:Has R (cBlk ab [aj,ae,ao,.map (some aw)] 177)) (ay:Has R (cBlk ag [Pq ab] 112)) {r:Bool} (hM:(zcW i ap ac aq).Ends r) (w:World) (H:St w w [] R):Ret Tryz.prog 100 #[I i,Pq ag] w fun v w'=>∃ (y0:Bool),y0=r/\v=B y0/\St w w' [] R:=by
 refine ret_of_W Tryz.func100 rfl rfl rfl<|W.seq<|W.region rfl<|zA (B false) rfl<|s_nil<|W.seq<|W.region rfl<|zM (I i) rfl<|s_val (x_ld (v:=Pq ab) rfl (ldb_sc Sc112 (ay.blk H) rfl))<|s_val (x_nc (a:=⟨ab,0,none⟩) rfl)<|s_val (x_fa (v:=Pq ab) rfl (fa_blk (o:=0) Fd177_0 Sz27)) ?_;refine s_val (x_fa (v:=Oq ab 1) rfl (fa_blk (o:=0) Fd27_1 Sz24))<|s_val (x_ld (v:=ae) rfl (ldb_sc Sc24 (ax.blk H) rfl)) ?_
 have aG:=(au).len_le
 refine s_val (x_lenS T24.und rfl au)<|zR (ac.length:Int) 1 ((ac.length:Int)-1) rfl rfl rfl (by omega) ?_;obtain ⟨aH,az,hM⟩:=M.e_bind hM;refine s_call cf70 [I i,I 0,I ((ac.length:Int)-1)] rfl (zac i 0 ((ac.length:Int)-1) az _ (H.gt 0)) ?_
 rintro vq aI ⟨r2,rfl,hvq,av⟩
 subst vq;(try dsimp only at hM);replace H:=H.bk av;clear av;refine zA (B r2) rfl<|s_nil ?_;refine W.ret ?_
 have aA:=M.e_pure hM
 exact ⟨_,resE_tmp rfl,⟨r2,aA,rfl,H⟩⟩

def zcP (j:Int) (ab:List Sect) (ac:List Mrk) (ae:List Rch) (ag:Int):M Bool :=
  M.bind (zaf ab ac ae ag j) fun r2 =>
  M.bind (M.opt (!r2) (zaf ab ac ae j ag) false) fun r3 =>
  M.pure (r2||r3)
theorem zec {R:List Chunk} {ak:Nat} {ac:Nat} {am:Cells} {ao:Value} {ap:Cells} {aq:Value} {au:Cells} {av:Value} {aH:Nat} {aw:Nat} (j:Int) (ae:List Sect) (ag:List Mrk) (ai:List Rch) (ab:Int) (ax:Reads R am) (ay:Sl am ao ae) (az:Reads R ap) (aA:Sl ap aq ag) (aB:Reads R au) (aC:Sl au av ai) (aD:Has R (cBlk ac [ao,aq,av,.map (some aH)] 177)) (aE:Has R (cBlk ak [Pq ac] 112)) (aF:Has R (cBlk aw [I ab] 3)) {r:Bool} (hM:(zcP j ae ag ai ab).Ends r) (w:World) (H:St w w [] R):Ret Tryz.prog 101 #[I j,Pq ak,Pq aw] w fun v w'=>∃ (y0:Bool),y0=r/\v=B y0/\St w w' [] R:=by
 refine ret_of_W Tryz.func101 rfl rfl rfl<|W.seq<|W.region rfl<|zA (B false) rfl<|s_nil<|W.seq<|W.region rfl<|s_val (x_ld (v:=Pq ac) rfl (ldb_sc Sc112 (aE.blk H) rfl))<|s_val (x_ld (v:=I ab) rfl (ldb_sc Sc3 (aF.blk H) rfl))<|zM (I j) rfl ?_;obtain ⟨aL,aI,hM⟩:=M.e_bind hM;refine s_call cf51 [Pq ac,I ab,I j] rfl (zaH ae ag ai ab j (ax.app _) ay (az.app _) aA (aB.app _) aC (aD.app _) aI _ (H.gt 0)) ?_
 rintro vq aM ⟨r2,rfl,hvq,aG⟩
 subst vq;(try dsimp only at hM);replace H:=H.bk aG;clear aG;refine zM (B r2) rfl<|g_val (!r2) (gy_f rfl) (fun hg=>x_ld (v:=Pq ac) rfl (ldb_sc Sc112 (aE.blk H) rfl))<|g_val (!r2) (gy_f rfl) (fun hg=>x_mv (v:=I j) rfl)<|g_val (!r2) (gy_f rfl) (fun hg=>x_ld (v:=I ab) rfl (ldb_sc Sc3 (aF.blk H) rfl)) ?_;obtain ⟨r3,aJ,hM⟩:=M.e_bind hM;refine t_gcall (!r2) (gy_f rfl) cf51 (B r3) (fun _=>[Pq ac,I j,I ab]) (fun hg=>lst3 (gd_of hg (Pq ac)) (gd_of hg (I j)) (gd_of hg (I ab))) H (fun hg=>(zaH ae ag ai j ab (ax.app _) ay (az.app _) aA (aB.app _) aC (aD.app _) (M.e_opt aJ hg) _ (H.give (A:=[]) rfl)).mono fun v_ w_ ⟨y_,aj,aK,H_⟩=>by subst aj; exact ⟨aK,H.via H_⟩) ?_;intro aN H;refine s_val (x_por (b:=r2) (r:=r3) rfl rfl (fun hb=>gd_of (c:=!r2) (by first | exact hb | (rw [hb]; rfl) | simp_all) (B r3)))<|zA (B (r2||r3)) rfl<|s_nil ?_;refine W.ret ?_
 have aj:=M.e_pure hM
 exact ⟨_,resE_tmp rfl,⟨(r2||r3),aj,rfl,H⟩⟩

def zc7 (ab:List Sect) (ac:List Mrk) (ae:List Rch) (row:List Int):((List Bool) × Bool × Nat)->M (((List Bool) × Bool × Nat) ⊕ (Bool × (List Bool))):=fun (ar,out,s) =>
  bif decide ((s:Int)<(row.length:Int)) then (
  M.grd (decide ((s:Int)<(row.length:Int))) <|
  M.grd (decide ((0:Int)<=(row.getD s 0))&&decide ((row.getD s 0)<(16:Int))) <|
  M.bind (M.opt out (zal (row.take s) (fun ag=>zcP ag ab ac ae (row.getD s 0))) false) fun r3 =>
  M.pure (.inl (ar.set (Int.toNat (row.getD s 0)) true,(out&&r3),s+1)))
  else (
  M.pure (.inr (out,ar)))
def zdm (ab:List Sect) (ac:List Mrk) (ae:List Rch) (row:List Int) (met:List Bool):M (Bool × (List Bool)) :=
  M.bind (M.opt (!((row.length:Int)==0)) (zal row (fun ag=>zcW ag ab ac ae)) false) fun r2 =>
  bif (((row.length:Int)==0)||(!r2)) then (
  M.fail)
  else (
  M.bind (M.iter (zc7 ab ac ae row) (met,true,0)) fun (out2,ai) =>
  M.pure (out2,ai))
theorem zeu {R:List Chunk} {ap:Nat} {aL:Cells} {aM:Value} {aN:Cells} {aO:Value} {aP:Cells} {aQ:Value} {a7:Nat} {aR:Cells} {ab:Value} {ae:Nat} (ai:List Sect) (aj:List Mrk) (ak:List Rch) (row:List Int) (met:List Bool) (aS:Reads R aL) (aT:Sl aL aM ai) (aU:Reads R aN) (aV:Sl aN aO aj) (aW:Reads R aP) (aX:Sl aP aQ ak) (aY:Has R (cBlk ap [aM,aO,aQ,.map (some a7)] 177)) (ay:Reads R aR) (ag:Sl aR ab row) (a8:met.length=16) {r:(Bool × (List Bool))} (hM:(zdm ai aj ak row met).Ends r) (w:World) (H:St w w [cBlk ae (encB met) 121] R):Ret Tryz.prog 54 #[Pq ap,ab,Pq ae] w fun v w'=>∃ (y0:Bool) (y1:List Bool),(y0,y1)=r/\v=B y0/\St w w' [cBlk ae (encB y1) 121] R/\y1.length=16:=by
 refine ret_of_W Tryz.func54 rfl rfl rfl<|W.seq<|W.region rfl ?_;refine t_b1 (Pq ap) H rfl rfl ?_;intro ac bt H;refine zA (B false) rfl<|s_nil<|W.seq<|W.seq<|W.region rfl<|zM ab rfl ?_
 have bu:=(ag).len_le
 refine s_val (x_lenS T28.und rfl ag)<|zC (row.length:Int) 0 ((row.length:Int)==0) rfl rfl rfl<|zM (B ((row.length:Int)==0)) rfl<|g_val (!((row.length:Int)==0)) (gy_f rfl) (fun hg=>x_mv (v:=ab) rfl)<|g_val (!((row.length:Int)==0)) (gy_f rfl) (fun hg=>x_mf (fs:=[]) (cs:=[Pq ac]) rfl rfl) ?_;obtain ⟨r2,ba,hM⟩:=M.e_bind hM;refine t_gcall (!((row.length:Int)==0)) (gy_f rfl) cf99 (B r2) (fun _=>[ab,.func (.func 100) #[] #[Pq ac]]) (fun hg=>lst2 (gd_of hg (ab)) (gd_of hg (.func (.func 100) #[] #[Pq ac]))) H (fun hg=>(zcp row (fun am=>zcW am ai aj ak) (ay.app _) ag ⟨100,[Pq ac],rfl,cf100,fun av bb bc az am bf aA bg aB aC=>by obtain rfl:=Arg.int aB; exact (zem am ai aj ak (Reads.app (aS.app _) _) aT (Reads.app (aU.app _) _) aV (Reads.app (aW.app _) _) aX (Has.app (aY.app _) _) (Has.app (Has.here (k:=0) rfl) _) aC av (St.refl aA)).mono fun az av ⟨bh,aD,aE,aF⟩=>by subst aD; exact ⟨aE,aF⟩⟩ (M.e_opt ba hg) _ (H.give (A:=[]) rfl)).mono fun v_ w_ ⟨y_,aw,aG,H_⟩=>by subst aw; exact ⟨aG,H.via H_⟩) ?_;intro bv H;refine g_val (!((row.length:Int)==0)) (gy_f rfl) (fun hg=>x_not (b:=r2) (gd_of hg (B r2)))<|s_val (x_por (b:=(row.length:Int)==0) (r:=!r2) rfl rfl (fun hb=>gd_of (c:=!((row.length:Int)==0)) (by first | exact hb | (rw [hb]; rfl) | simp_all) (B (!r2))))<|s_nil ?_
 refine W.cond (((row.length:Int)==0)||(!r2)) rfl (fun aH=>?_) (fun aH=>?_)
 ·replace hM:=M.e_t hM aH;refine W.region rfl ?_
  exact (M.e_fail hM).elim
 replace hM:=M.e_f hM aH;refine W.skip<|W.seq<|W.region rfl<|zA (B true) rfl<|s_nil<|W.seq<|W.seq<|W.region rfl<|zM ab rfl ?_
 have bw:=(ag).len_le
 refine s_val (x_lenS T28.und rfl ag)<|zM (I 0) rfl<|s_nil<|W.block ?_;obtain ⟨bi,aI,bj⟩:=M.e_bind hM
 obtain ⟨bx,aI⟩:=M.e_iter aI
 refine W.loop (fun m σ W=>∃ (ar:List Bool) (out:Bool) (s:Nat) (ρ:Env),σ=upds ρ [(1,ab),(2,Pq ae),(3,Pq ac),(7,B out),(21,ab),(22,I (row.length:Int)),(23,I (s:Int))]/\M.iterN (zc7 ai aj ak row) m (ar,out,s)=some bi/\St w W [cBlk ac [Pq ap] 112,cBlk ae (encB ar) 121] R/\ar.length=16) ?_ ?_
 ·exact ⟨_,met,true,0,_,upds_of _ _ ⟨rfl,rfl,rfl,rfl,rfl,rfl,rfl,trivial⟩,aI,H,a8⟩
 rintro bz σ bA ⟨ar,out,s,ρ,rfl,aZ,H,aJ⟩
 obtain ⟨bm,bn,bB,hM,a6⟩:=M.e_iterN aZ
 simp only [zc7] at hM
 clear aZ;refine W.seq<|W.region rfl<|zC (s:Int) (row.length:Int) (decide ((s:Int)<(row.length:Int))) rfl rfl rfl<|s_nil<|W.seq ?_
 refine W.cond (decide ((s:Int)<(row.length:Int))) rfl (fun ao=>?_) (fun ao=>?_)
 ·replace hM:=M.e_t hM ao
  replace ao:=dI ao
  refine W.skip<|W.seq<|W.block<|W.seq<|W.region rfl<|zM (I (s:Int)) rfl ?_;obtain ⟨bC,hM⟩:=M.e_gd hM;refine s_val (x_ix (v:=vat ab 1 (Int.toNat (s:Int))) rfl rfl (Sl.ix (α:=Int) T28.und T28.size ag (by omega) (by omega)))<|s_val (x_ld (v:=I (row.getD s 0)) rfl (ld_sc Sc3 (At.mono (Int_at ag (i:=(s:Int)) (by omega) (by omega)) (ay.at H)))) ?_;refine t_alloc (cs:=[I 0]) H Al3 rfl ?_;intro aq bD H;refine zA (I (s:Int)) rfl ?_;refine t_sw 0 0 [I (row.getD s 0)] (I (row.getD s 0)) H rfl rfl Sz3 rfl rfl rfl rfl ?_;intro bE H;refine s_nil<|W.seq ?_;refine W.draw (fun W=>St w W [cBlk aq [I (row.getD s 0)] 3,cBlk ac [Pq ap] 112] R) [(0,true),(1,true),(2,true),(3,true),(4,false)] mixed (by decide +kernel) rfl ?_;intro bF au;replace H:=H.ext au;clear au
  refine ⟨(H.pk [0,1]),?_⟩
  refine d_q rfl (fun w' H=>x_mv (v:=Pq ae) rfl)<|d_q rfl (fun w' H=>x_ld (v:=I (row.getD s 0)) rfl (ldb_sc Sc3 (H.bl 0) rfl))<|d_q rfl (fun w' H=>x_nc (a:=⟨ae,0,none⟩) rfl) ?_;obtain ⟨bG,hM⟩:=M.e_gd hM;refine d_q rfl (fun w' H=>x_ix (v:=.pointer (some ⟨ae,0+Int.toNat (row.getD s 0),none⟩)) rfl rfl (run_indexArr Tryz.underlying121 Sz4 (by omega) (by omega)))<|d_l rfl ?_;refine t_stArr (k:=2) (b:=ae) (l:=ar) (l':=ar.set (Int.toNat (row.getD s 0)) true) (i:=row.getD s 0) (v:=true) (L':=[cBlk aq [I (row.getD s 0)] 3,cBlk ac [Pq ap] 112,cBlk ae (encB (ar.set (Int.toNat (row.getD s 0)) true)) 121]) H rfl rfl rfl Sz4 (by omega) (by have bH:=aJ; omega) rfl rfl ?_;intro bI H
  have bo:(ar.set (Int.toNat (row.getD s 0)) true).length=16:=List.length_set.trans aJ
  refine s_nil ⟨(H.pk [0,1]),?_⟩
  refine d_nil<|W.region rfl<|zM (B out) rfl<|zM (B out) rfl<|g_val out (gy_t rfl) (fun hg=>x_mv (v:=ab) rfl)<|g_val out (gy_t rfl) (fun hg=>x_mv (v:=I (s:Int)) rfl) ?_
  obtain ⟨ax,bp,aK⟩:=gd_ex (c:=out) fun hg=>sl_hi T28.und T28.size ag (j:=(s:Int)) (by first | omega | (have au:=hg; simp at au; omega)) (by first | omega | (have au:=hg; simp at au; omega))
  replace aK:out=true->Sl _ ax (row.take s):=aK
  refine g_val out (gy_t rfl) (fun hg=>x_sl (v:=ab) (u:=ax) (lo':=none) (hi':=some (I (s:Int))) (mx':=none) (gd_of hg (ab)) rfl (congrArg some (gd_of hg (I (s:Int)))) rfl (bp hg _))<|g_val out (gy_t rfl) (fun hg=>x_mf (fs:=[]) (cs:=[Pq ac,Pq aq]) rfl rfl) ?_;obtain ⟨r3,bq,hM⟩:=M.e_bind hM;refine t_gcall out (gy_t rfl) cf99 (B r3) (fun _=>[ax,.func (.func 101) #[] #[Pq ac,Pq aq]]) (fun hg=>lst2 (gd_of hg (ax)) (gd_of hg (.func (.func 101) #[] #[Pq ac,Pq aq]))) H (fun hg=>(zcp (row.take s) (fun am=>zcP am ai aj ak (row.getD s 0)) (ay.app _) (aK hg) ⟨101,[Pq ac,Pq aq],rfl,cf101,fun av bb bc az am bf aA bg aB aC=>by obtain rfl:=Arg.int aB; exact (zec am ai aj ak (row.getD s 0) (Reads.app (aS.app _) _) aT (Reads.app (aU.app _) _) aV (Reads.app (aW.app _) _) aX (Has.app (aY.app _) _) (Has.app (Has.here (k:=1) rfl) _) (Has.app (Has.here (k:=0) rfl) _) aC av (St.refl aA)).mono fun az av ⟨bh,aD,aE,aF⟩=>by subst aD; exact ⟨aE,aF⟩⟩ (M.e_opt bq hg) _ (H.give (A:=[]) rfl)).mono fun v_ w_ ⟨y_,aw,aG,H_⟩=>by subst aw; exact ⟨aG,H.via H_⟩) ?_;intro bJ H;refine s_val (x_pand (b:=out) (r:=r3) rfl (fun hb=>gd_of (c:=out) (by first | exact hb | (rw [hb]; rfl) | simp_all) (B r3)) rfl)<|zA (B (out&&r3)) rfl<|s_nil<|W.region rfl<|zR (s:Int) 1 ((s:Int)+1) rfl rfl rfl (by omega)<|zM (I ((s:Int)+1)) rfl<|s_nil ?_
  exact ⟨bm,bn,ar.set (Int.toNat (row.getD s 0)) true,(out&&r3),s+1,_,upds_of _ _ ⟨rfl,rfl,rfl,rfl,rfl,rfl,rfl,trivial⟩,M.e_inl hM a6,(H.pk [1,2]),bo⟩
 replace hM:=M.e_f hM ao
 replace ao:=dI ao
 refine W.exit ?_
 have br:=M.e_inr hM a6
 subst br;replace hM:=bj;(try dsimp only at hM);refine W.seq<|W.region rfl<|zM (B out) rfl<|zA (B out) rfl<|s_nil ?_;refine W.ret ?_
 have aw:=M.e_pure hM
 exact ⟨_,resE_tmp rfl,⟨out,ar,aw,rfl,(H.pk [1]),aJ⟩⟩

def zcT (s:List Bool) (f:Bool->M Bool):Nat->M (Nat ⊕ (Int ⊕ Unit)):=fun s2 =>
  bif decide ((s2:Int)<(s.length:Int)) then (
  M.grd (decide ((s2:Int)<(s.length:Int))) <|
  M.bind (f (s.getD s2 false)) fun r2 =>
  bif r2 then (
  M.pure (.inr (.inl (s2:Int))))
  else (
  M.pure (.inl (s2+1))))
  else (
  M.pure (.inr (.inr ())))
def zdq (s:List Bool) (f:Bool->M Bool):M Int :=
  M.bind (M.iter (zcT s f) 0) fun x_=>match x_ with
  | (.inl s3)=>(
  M.pure s3)
  | (.inr (_:Unit))=>(
  M.pure (-1))
theorem zex {R:List Chunk} {ao:Cells} {ac:Value} {ae:Value} (s:List Bool) (f:Bool->M Bool) (au:Reads R ao) (ag:Sl ao ac s) (av:FnM Tryz.prog R ae f) {r:Int} (hM:(zdq s f).Ends r) (w:World) (H:St w w [] R):Ret Tryz.prog 134 #[ac,ae] w fun v w'=>∃ (y0:Int),y0=r/\v=I y0/\St w w' [] R:=by
 refine ret_of_W Tryz.func134 rfl rfl rfl<|W.seq<|W.region rfl<|zA (I 0) rfl<|s_nil<|W.seq<|W.seq<|W.region rfl<|zM ac rfl ?_
 have aC:=(ag).len_le
 refine s_val (x_lenS T59.und rfl ag)<|zM (I 0) rfl<|s_nil<|W.block ?_;obtain ⟨aw,ai,ap⟩:=M.e_bind hM
 obtain ⟨aD,ai⟩:=M.e_iter ai
 refine W.loop (fun m σ W=>∃ (s2:Nat) (ρ:Env),σ=upds ρ [(0,ac),(1,ae),(7,I (s.length:Int)),(8,I (s2:Int))]/\M.iterN (zcT s f) m s2=some aw/\St w W [] R) ?_ ?_
 ·exact ⟨_,0,_,upds_of _ _ ⟨rfl,rfl,rfl,rfl,trivial⟩,ai,H⟩
 rintro aE σ aF ⟨s2,ρ,rfl,aq,H⟩
 obtain ⟨ax,ay,aG,hM,aj⟩:=M.e_iterN aq
 simp only [zcT] at hM
 clear aq;refine W.seq<|W.region rfl<|zC (s2:Int) (s.length:Int) (decide ((s2:Int)<(s.length:Int))) rfl rfl rfl<|s_nil<|W.seq ?_
 refine W.cond (decide ((s2:Int)<(s.length:Int))) rfl (fun ab=>?_) (fun ab=>?_)
 ·replace hM:=M.e_t hM ab
  replace ab:=dI ab
  refine W.skip<|W.seq<|W.block<|W.seq<|W.region rfl<|zM (I (s2:Int)) rfl<|zA (I (s2:Int)) rfl<|s_nil<|W.seq<|W.region rfl ?_;refine zM ae rfl<|zM ac rfl<|zM (I (s2:Int)) rfl ?_;obtain ⟨aH,hM⟩:=M.e_gd hM;refine s_val (x_ix (v:=vat ac 1 (Int.toNat (s2:Int))) rfl rfl (Sl.ix (α:=Bool) T59.und T59.size ag (by omega) (by omega)))<|s_val (x_ld (v:=B (s.getD s2 false)) rfl (ld_sc Sc4 (At.mono (Bool_at ag (i:=(s2:Int)) (by omega) (by omega)) (au.at H)))) ?_;obtain ⟨r2,az,hM⟩:=M.e_bind hM;refine t_callM H av rfl rfl (s.getD s2 false) Reads.none (show Arg (fun _=>none) (B (s.getD s2 false)) (s.getD s2 false) from ⟨[B (s.getD s2 false)],rfl,rfl⟩) az ?_;intro aI H;refine s_nil ?_
  refine W.cond r2 rfl (fun ak=>?_) (fun ak=>?_)
  ·replace hM:=M.e_t hM ak;refine W.seq<|W.region rfl<|zM (I (s2:Int)) rfl<|zA (I (s2:Int)) rfl<|s_nil ?_;refine W.ret ?_
   have aA:=M.e_inr hM aj
   subst aA;replace hM:=ap;(try dsimp only at hM)
   have am:=M.e_pure hM
   exact ⟨_,resE_tmp rfl,⟨(s2:Int),am,rfl,H⟩⟩
  replace hM:=M.e_f hM ak;refine W.skip<|W.region rfl<|zR (s2:Int) 1 ((s2:Int)+1) rfl rfl rfl (by omega)<|zM (I ((s2:Int)+1)) rfl<|s_nil ?_
  exact ⟨ax,ay,s2+1,_,upds_of _ _ ⟨rfl,rfl,rfl,rfl,trivial⟩,M.e_inl hM aj,H⟩
 replace hM:=M.e_f hM ab
 replace ab:=dI ab
 refine W.exit ?_
 have aB:=M.e_inr hM aj
 subst aB;replace hM:=ap;(try dsimp only at hM);refine W.seq<|W.region rfl<|zA (I (-1)) rfl<|s_nil ?_;refine W.ret ?_
 have am:=M.e_pure hM
 exact ⟨_,resE_tmp rfl,⟨(-1),am,rfl,H⟩⟩

def zdw (s:List Bool) (f:Bool->M Bool):M Bool :=
  M.bind (zdq s f) fun r2 =>
  M.pure (decide (0<=r2))
theorem zdW {R:List Chunk} {ae:Cells} {ab:Value} {ac:Value} (s:List Bool) (f:Bool->M Bool) (ai:Reads R ae) (aj:Sl ae ab s) (ak:FnM Tryz.prog R ac f) {r:Bool} (hM:(zdw s f).Ends r) (w:World) (H:St w w [] R):Ret Tryz.prog 102 #[ab,ac] w fun v w'=>∃ (y0:Bool),y0=r/\v=B y0/\St w w' [] R:=by
 refine ret_of_W Tryz.func102 rfl rfl rfl<|W.seq<|W.region rfl<|zA (B false) rfl<|s_nil<|W.seq<|W.region rfl<|zM ab rfl<|zM ac rfl ?_;obtain ⟨ap,am,hM⟩:=M.e_bind hM;refine s_call cf134 [ab,ac] rfl (zex s f (ai.app _) aj (ak.app _) am _ (H.gt 0)) ?_
 rintro vq aq ⟨r2,rfl,hvq,ag⟩
 subst vq;(try dsimp only at hM);replace H:=H.bk ag;clear ag;refine zC r2 0 (decide (0<=r2)) rfl rfl rfl<|zA (B (decide (0<=r2))) rfl<|s_nil ?_;refine W.ret ?_
 have ao:=M.e_pure hM
 exact ⟨_,resE_tmp rfl,⟨(decide (0<=r2)),ao,rfl,H⟩⟩

def zcY (x:Bool) (ab:Bool->M Bool):M Bool :=
  M.bind (ab x) fun r2 =>
  M.pure (!r2)
theorem zeg {R:List Chunk} {ac:Nat} {ab:Value} (x:Bool) (ae:Bool->M Bool) (ag:FnM Tryz.prog R ab ae) (ai:Has R (cBlk ac [ab] 125)) {r:Bool} (hM:(zcY x ae).Ends r) (w:World) (H:St w w [] R):Ret Tryz.prog 103 #[B x,Pq ac] w fun v w'=>∃ (y0:Bool),y0=r/\v=B y0/\St w w' [] R:=by
 refine ret_of_W Tryz.func103 rfl rfl rfl<|W.seq<|W.region rfl<|zA (B false) rfl<|s_nil<|W.seq<|W.region rfl<|s_val (x_ld (v:=ab) rfl (ldb_sc Sc125 (ai.blk H) rfl))<|zM (B x) rfl ?_;obtain ⟨r2,aj,hM⟩:=M.e_bind hM;refine t_callM H ag rfl rfl x Reads.none (show Arg (fun _=>none) (B x) x from ⟨[B x],rfl,rfl⟩) aj ?_;intro am H;refine s_val (x_not (b:=r2) rfl)<|zA (B (!r2)) rfl<|s_nil ?_;refine W.ret ?_
 have ak:=M.e_pure hM
 exact ⟨_,resE_tmp rfl,⟨(!r2),ak,rfl,H⟩⟩

def zdo (l:List Bool) (so:Bool->M Bool):M Bool :=
  M.bind (zdw l (fun ab=>zcY ab so)) fun r2 =>
  M.pure (!r2)
theorem zeo {R:List Chunk} {ai:Cells} {ab:Value} {ac:Value} (l:List Bool) (so:Bool->M Bool) (ao:Reads R ai) (ap:Sl ai ab l) (aj:FnM Tryz.prog R ac so) {r:Bool} (hM:(zdo l so).Ends r) (w:World) (H:St w w [] R):Ret Tryz.prog 55 #[ab,ac] w fun v w'=>∃ (y0:Bool),y0=r/\v=B y0/\St w w' [] R:=by
 refine ret_of_W Tryz.func55 rfl rfl rfl<|W.seq<|W.region rfl ?_;refine t_box (v:=ac) (cs:=[ac]) H rfl (FnM.cells aj) ?_;intro ae aC H;refine zA (B false) rfl<|s_nil<|W.seq<|W.region rfl<|zM ab rfl<|s_val (x_mf (fs:=[]) (cs:=[Pq ae]) rfl rfl) ?_;obtain ⟨aD,aq,hM⟩:=M.e_bind hM;refine s_call cf102 [ab,.func (.func 103) #[] #[Pq ae]] rfl (zdW l (fun ag=>zcY ag so) (ao.app _) ap ⟨103,[Pq ae],rfl,cf103,fun ak aE aF au ag aG av aH aw ax=>by obtain ⟨_,rfl,rfl⟩:=aw; exact (zeg ag so (FnM.app (aj.app _) _) (Has.app (Has.here (k:=0) rfl) _) ax ak (St.refl av)).mono fun au ak ⟨aI,ay,az,aA⟩=>by subst ay; exact ⟨az,aA⟩⟩ aq _ (H.gt 1)) ?_
 rintro vq aJ ⟨r2,rfl,hvq,am⟩
 subst vq;(try dsimp only at hM);replace H:=H.bk am;clear am;refine s_val (x_not (b:=r2) rfl)<|zA (B (!r2)) rfl<|s_nil ?_;refine W.ret ?_
 have aB:=M.e_pure hM
 exact ⟨_,resE_tmp rfl,⟨(!r2),aB,rfl,(H.pk [])⟩⟩

def zdb (x:Bool):M Bool :=
  M.pure x
theorem zdQ {R:List Chunk}  (x:Bool)  {r:Bool} (hM:(zdb x).Ends r) (w:World) (H:St w w [] R):Ret Tryz.prog 56 #[B x] w fun v w'=>∃ (y0:Bool),y0=r/\v=B y0/\St w w' [] R:=by
 refine ret_of_W Tryz.func56 rfl rfl rfl<|W.seq<|W.region rfl<|zA (B false) rfl<|s_nil<|W.seq<|W.region rfl<|zM (B x) rfl<|zA (B x) rfl<|s_nil ?_;refine W.ret ?_
 have ab:=M.e_pure hM
 exact ⟨_,resE_tmp rfl,⟨x,ab,rfl,H⟩⟩

def zcN (s_Sections:List Sect) (s_Marks:List Mrk) (s_Reaches:List Rch) (rows:List (List Int)):(Bool × (List Bool) × Nat)->M ((Bool × (List Bool) × Nat) ⊕ (Bool × (List Bool))):=fun (s2,ar,s3) =>
  bif decide ((s3:Int)<(rows.length:Int)) then (
  M.grd (decide ((s3:Int)<(rows.length:Int))) <|
  M.bind (zdm s_Sections s_Marks s_Reaches (rows.getD s3 ([])) ar) fun (r2,ab) =>
  bif !r2 then (
  M.pure (.inl (false,ab,s3+1)))
  else (
  M.pure (.inl (s2,ab,s3+1))))
  else (
  M.pure (.inr (s2,ar)))
def zds (s_Sections:List Sect) (s_Marks:List Mrk) (s_Reaches:List Rch) (many:Int) (rows:List (List Int)):M (Bool × Int) :=
  M.bind (zah s_Sections s_Marks s_Reaches) fun x_=>match x_ with
  | (.inl r1)=>(
  bif r1 != 0 then (
  M.pure (false,r1))
  else (
  M.fail))
  | (.inr ab)=>(
  bif ab != 0 then (
  M.fail)
  else (
  bif decide (16<(rows.length:Int)) then (
  M.pure (false,3))
  else (
  M.bind (M.iter (zcN s_Sections s_Marks s_Reaches rows) (decide ((rows.length:Int)<=many),List.replicate 16 false,0)) fun (s4,ac) =>
  M.grd ((!s4||(decide ((0:Int)<=(s_Marks.length:Int))&&decide ((s_Marks.length:Int)<=(16:Int))))) <|
  M.bind (M.opt s4 (zdo (ac.take (Int.toNat (s_Marks.length:Int))) (fun ae=>zdb ae)) false) fun r3 =>
  M.pure ((s4&&r3),0))))
theorem zeA {R:List Chunk} {aK:Cells} {ai:Value} {aL:Cells} {ae:Value} {aM:Cells} {aj:Value} {aN:Cells} {au:Value} (s_Sections:List Sect) (s_Marks:List Mrk) (s_Reaches:List Rch) (many:Int) (rows:List (List Int)) (aO:Reads R aK) (aP:Sl aK ai s_Sections) (aQ:Reads R aL) (aE:Sl aL ae s_Marks) (aR:Reads R aM) (aS:Sl aM aj s_Reaches) (aT:Reads R aN) (ao:Sl aN au rows) {r:(Bool × Int)} (hM:(zds s_Sections s_Marks s_Reaches many rows).Ends r) (w:World) (H:St w w [] R):Ret Tryz.prog 12 #[.agg #[ai,ae,aj],I many,au] w fun v w'=>∃ (y0:Bool) (y1:Int),(y0,y1)=r/\v = .tuple #[B y0,I y1]/\St w w' [] R:=by
 refine ret_of_WB Tryz.func12 rfl rfl rfl ?_;refine WB.seq<|W.region rfl ?_;refine t_bx [ai,ae,aj] H rfl ?_;intro aA bJ H;refine t_alloc (cs:=[B false]) H Al4 rfl ?_;intro ay bK H;refine t_alloc (cs:=[I 0]) H Al35 rfl ?_;intro az bL H;refine s_nil ?_;refine WB.seq<|W.region rfl<|s_val (x_ld (v:=.agg #[ai,ae,aj]) rfl (ldb_ag (ds:=[ai,ae,aj]) Ag27 Sz27 (H.bl 2) rfl rfl)) ?_;obtain ⟨bM,a8,hM⟩:=M.e_bind hM;refine s_call cf49 [.agg #[ai,ae,aj]] rfl (zbB s_Sections s_Marks s_Reaches (aO.app _) aP (aQ.app _) aE (aR.app _) aS a8 _ (H.gt 3)) ?_
 rintro vq bN (⟨r1,ba,hvq,ap⟩ | ⟨ac,ak,aU,bb,hvq,ap⟩)
 ·subst ba;subst vq;(try dsimp only at hM);replace H:=H.bk ap;clear ap;refine zM (.tuple #[.pointer none,I r1]) rfl<|zX [.pointer none,I r1] (.pointer none) rfl rfl<|zX [.pointer none,I r1] (I r1) rfl rfl<|zA (.pointer none) rfl ?_;refine t_sw 0 0 [I r1] (I r1) H rfl rfl Sz35 rfl rfl rfl rfl ?_;intro bO H;refine s_nil ?_;refine WB.seq<|W.block<|W.seq<|W.region rfl<|s_val (x_ld (v:=I r1) rfl (ldb_sc Sc35 (H.bl 0) rfl))<|zC r1 0 (r1 != 0) rfl rfl rfl<|zA (B (r1 != 0)) rfl<|s_nil ?_
  refine W.cond (r1 != 0) rfl (fun aB=>?_) (fun aB=>?_)
  ·replace hM:=M.e_t hM aB
   replace aB:=dI aB
   refine W.seq ?_;refine W.drawT (fun W=>St w W [cBlk aA [ai,ae,aj] 27] R) (.l2 0 (.l 1 (.l 2 .nil)) 1 (.l 0 (.l 2 .nil))) mixed (by decide +kernel) rfl ?_;intro bP ag;replace H:=H.ext ag;clear ag
   refine ⟨(H.pk [2]),?_⟩
   refine t_l2 rfl rfl ?_ ?_
   ·skip
    refine s_val (x_ld (v:=I r1) rfl (ldb_sc Sc35 (H.bl 0) rfl)) ?_
    refine s_nil ⟨(H.pk [2]),?_⟩
    refine t_l rfl ?_;refine t_sw 1 0 [B false] (B false) H rfl rfl Sz4 rfl rfl rfl rfl ?_;intro bQ H
    refine s_nil ⟨(H.pk [2]),?_⟩
    refine t_l rfl ?_;refine t_sw 0 0 [I r1] (I r1) H rfl rfl Sz35 rfl rfl rfl rfl ?_;intro bR H
    refine s_nil ⟨(H.pk [2]),?_⟩
    refine t_nil ?_;refine W.ret ?_
    have bc:=(H.bl 1)
    have bf:=(H.bl 0)
    have am:=M.e_pure hM
    exact ⟨_,(resE_ofn (vs:=[B false,I r1]) rfl rfl (.cell (v:=B false) rfl (run_loadVar_sc Sc4 bc rfl)<|.cell (v:=I r1) rfl (run_loadVar_sc Sc35 bf rfl)<|.nil)),⟨false,r1,am,rfl,(H.pk [])⟩⟩
   skip
   refine t_sw 1 0 [B false] (B false) H rfl rfl Sz4 rfl rfl rfl rfl ?_;intro bS H
   refine s_nil ⟨(H.pk [2]),?_⟩
   refine t_l rfl<|s_val (x_ld (v:=I r1) rfl (ldb_sc Sc35 (H.bl 0) rfl)) ?_
   refine s_nil ⟨(H.pk [2]),?_⟩
   refine t_l rfl ?_;refine t_sw 0 0 [I r1] (I r1) H rfl rfl Sz35 rfl rfl rfl rfl ?_;intro bT H
   refine s_nil ⟨(H.pk [2]),?_⟩
   refine t_nil ?_;refine W.ret ?_
   have bg:=(H.bl 1)
   have bh:=(H.bl 0)
   have am:=M.e_pure hM
   exact ⟨_,(resE_ofn (vs:=[B false,I r1]) rfl rfl (.cell (v:=B false) rfl (run_loadVar_sc Sc4 bg rfl)<|.cell (v:=I r1) rfl (run_loadVar_sc Sc35 bh rfl)<|.nil)),⟨false,r1,am,rfl,(H.pk [])⟩⟩
  replace hM:=M.e_f hM aB
  exact (M.e_fail hM).elim
 subst bb;subst vq;(try dsimp only at hM);replace H:=H.bk ap;clear ap;refine zM (.tuple #[Pq ak,I ac]) rfl<|zX [Pq ak,I ac] (Pq ak) rfl rfl<|zX [Pq ak,I ac] (I ac) rfl rfl<|zA (Pq ak) rfl ?_;refine t_sw 2 0 [I ac] (I ac) H rfl rfl Sz35 rfl rfl rfl rfl ?_;intro bU H;refine s_nil ?_;refine WB.seq<|W.block<|W.seq<|W.region rfl<|s_val (x_ld (v:=I ac) rfl (ldb_sc Sc35 (H.bl 2) rfl))<|zC ac 0 (ac != 0) rfl rfl rfl<|zA (B (ac != 0)) rfl<|s_nil ?_
 refine W.cond (ac != 0) rfl (fun aC=>?_) (fun aC=>?_)
 ·replace hM:=M.e_t hM aC
  exact (M.e_fail hM).elim
 replace hM:=M.e_f hM aC
 replace aC:=dI aC
 refine W.seq<|W.region rfl<|zM au rfl ?_
 have bV:=(ao).len_le
 refine s_val (x_lenS T38.und rfl ao)<|zC (rows.length:Int) 16 (decide (16<(rows.length:Int))) rfl rfl rfl<|zA (B (decide (16<(rows.length:Int)))) rfl<|s_nil ?_
 refine W.cond (decide (16<(rows.length:Int))) rfl (fun av=>?_) (fun av=>?_)
 ·replace hM:=M.e_t hM av
  replace av:=dI av
  refine W.seq<|W.region rfl ?_;refine t_sw 3 0 [B false] (B false) H rfl rfl Sz4 rfl rfl rfl rfl ?_;intro bW H;refine t_sw 2 0 [I 3] (I 3) H rfl rfl Sz35 rfl rfl rfl rfl ?_;intro bX H;refine s_nil ?_;replace H:=H.pk [2,3];refine W.ret ?_
  have bi:=(H.bl 1)
  have bj:=(H.bl 0)
  have am:=M.e_pure hM
  exact ⟨_,(resE_ofn (vs:=[B false,I 3]) rfl rfl (.cell (v:=B false) rfl (run_loadVar_sc Sc4 bi rfl)<|.cell (v:=I 3) rfl (run_loadVar_sc Sc35 bj rfl)<|.nil)),⟨false,3,am,rfl,(H.pk [])⟩⟩
 replace hM:=M.e_f hM av
 replace av:=dI av
 refine W.skip ?_;refine WB.defer (d:=25) (v:=.func (.func 53) #[] #[Pq ay,Pq az]) (fv:=.func 53) (cap:=#[Pq ay,Pq az]) (f:=53) (args:=#[Pq ay,Pq az]) rfl rfl rfl rfl rfl (fun _=>x_mf (fs:=[]) (cs:=[Pq ay,Pq az]) rfl rfl) (x_defer rfl) (x_invoke cf53) (fun w_=>catch_idle _ _ w_)<|W.seq<|W.region rfl ?_;refine t_alloc (cs:=encB (List.replicate 16 false)) H Al121 rfl ?_;intro aq bY H
 have bm:(List.replicate 16 false).length=16:=by simp
 refine s_nil<|W.seq<|W.region rfl<|zM au rfl ?_
 have bZ:=(ao).len_le
 refine s_val (x_lenS T38.und rfl ao)<|zM (I many) rfl<|zC (rows.length:Int) many (decide ((rows.length:Int)<=many)) rfl rfl rfl ?_;refine t_sw 4 0 [B (decide ((rows.length:Int)<=many))] (B (decide ((rows.length:Int)<=many))) H rfl rfl Sz4 rfl rfl rfl rfl ?_;intro b4 H;refine s_nil<|W.seq<|W.seq<|W.region rfl<|zM au rfl ?_
 have b5:=(ao).len_le
 refine s_val (x_lenS T38.und rfl ao)<|zM (I 0) rfl<|s_nil<|W.block ?_;obtain ⟨bn,aG,bo⟩:=M.e_bind hM
 obtain ⟨b6,aG⟩:=M.e_iter aG
 refine W.loop (fun m σ W=>∃ (s2:Bool) (ar:List Bool) (s3:Nat) (ρ:Env),σ=upds ρ [(3,Pq aA),(6,Pq ay),(7,Pq az),(8,Pq ak),(9,Pq aq),(30,au),(31,I (rows.length:Int)),(32,I (s3:Int))]/\M.iterN (zcN s_Sections s_Marks s_Reaches rows) m (s2,ar,s3)=some bn/\St w W [cBlk aq (encB ar) 121,cBlk ak [ai,ae,aj,.map (some aU)] 177,cMemI encSpt aU (zaa s_Sections s_Marks s_Reaches),cBlk az [I ac] 35,cBlk ay [B s2] 4,cBlk aA [ai,ae,aj] 27] R/\ar.length=16) ?_ ?_
 ·exact ⟨_,decide ((rows.length:Int)<=many),List.replicate 16 false,0,_,upds_of _ _ ⟨rfl,rfl,rfl,rfl,rfl,rfl,rfl,rfl,trivial⟩,aG,H,bm⟩
 rintro b7 σ b8 ⟨s2,ar,s3,ρ,rfl,aV,H,aW⟩
 obtain ⟨aX,aY,b9,hM,aH⟩:=M.e_iterN aV
 simp only [zcN] at hM
 clear aV;refine W.seq<|W.region rfl<|zC (s3:Int) (rows.length:Int) (decide ((s3:Int)<(rows.length:Int))) rfl rfl rfl<|s_nil<|W.seq ?_
 refine W.cond (decide ((s3:Int)<(rows.length:Int))) rfl (fun aw=>?_) (fun aw=>?_)
 ·replace hM:=M.e_t hM aw
  replace aw:=dI aw
  refine W.skip<|W.seq<|W.block<|W.seq<|W.region rfl ?_;obtain ⟨cb,hM⟩:=M.e_gd hM;refine s_val (x_ix (v:=vat au 1 (Int.toNat (s3:Int))) rfl rfl (Sl.ix (α:=List Int) T38.und T38.size ao (by omega) (by omega))) ?_
  obtain ⟨aD,bp,aF⟩:=List_at ao (i:=(s3:Int)) (by omega) (by omega)
  replace aF:Sl _ aD (rows.getD s3 ([])):=aF
  have cc:=aF.len_le
  refine s_val (x_ld (v:=aD) rfl (ld_sc Sc28 (At.mono (bp) (aT.at H))))<|zA aD rfl<|s_nil<|W.seq<|W.region rfl<|zM (Pq ak) rfl<|zM aD rfl ?_;obtain ⟨cd,bq,hM⟩:=M.e_bind hM;refine s_call cf54 [Pq ak,aD,Pq aq] rfl (zeu s_Sections s_Marks s_Reaches (rows.getD s3 ([])) ar (aO.app _) aP (aQ.app _) aE (aR.app _) aS (Has.here (k:=0) rfl) (aT.app _) aF aW bq _ (H.gt 5)) ?_
  rintro vq ce ⟨r2,aZ,rfl,hvq,ap,a6⟩
  subst vq;(try dsimp only at hM);replace H:=H.bk ap;clear ap;refine s_val (x_not (b:=r2) rfl)<|s_nil ?_
  refine W.cond (!r2) rfl (fun aI=>?_) (fun aI=>?_)
  ·replace hM:=M.e_t hM aI;refine W.region rfl ?_;refine t_sw 4 0 [B false] (B false) H rfl rfl Sz4 rfl rfl rfl rfl ?_;intro cf H;refine s_nil<|W.region rfl<|zR (s3:Int) 1 ((s3:Int)+1) rfl rfl rfl (by omega)<|zM (I ((s3:Int)+1)) rfl<|s_nil ?_
   exact ⟨aX,aY,false,aZ,s3+1,_,upds_of _ _ ⟨rfl,rfl,rfl,rfl,rfl,rfl,rfl,rfl,trivial⟩,M.e_inl hM aH,H,a6⟩
  replace hM:=M.e_f hM aI;refine W.skip<|W.region rfl<|zR (s3:Int) 1 ((s3:Int)+1) rfl rfl rfl (by omega)<|zM (I ((s3:Int)+1)) rfl<|s_nil ?_
  exact ⟨aX,aY,s2,aZ,s3+1,_,upds_of _ _ ⟨rfl,rfl,rfl,rfl,rfl,rfl,rfl,rfl,trivial⟩,M.e_inl hM aH,H,a6⟩
 replace hM:=M.e_f hM aw
 replace aw:=dI aw
 refine W.exit ?_
 have br:=M.e_inr hM aH
 subst br;replace hM:=bo;(try dsimp only at hM);replace H:=H.pk [0,3,4,5];refine W.seq<|W.region rfl<|s_val (x_ld (v:=B s2) rfl (ldb_sc Sc4 (H.bl 2) rfl))<|zM (B s2) rfl<|g_val s2 (gy_t rfl) (fun hg=>x_fa (v:=Oq aA 1) rfl (fa_blk (o:=0) Fd27_1 Sz24))<|g_val s2 (gy_t rfl) (fun hg=>x_ld (v:=ae) (gd_of hg (Oq aA 1)) (ldb_sc Sc24 (H.bl 3) rfl)) ?_
 have cg:=(aE).len_le
 refine g_val s2 (gy_t rfl) (fun hg=>x_lenS T24.und (gd_of hg (ae)) aE) ?_;obtain ⟨ax,hM⟩:=M.e_grd hM
 replace ax:=M.imp_of ax
 simp only [Bool.and_eq_true,decide_eq_true_eq] at ax
 obtain ⟨bt,H,bu⟩:=St.freezeB H (k:=0) (n:=16) rfl (by have h_:=aW; omega) (by omega)
 replace H:=H.nf
 have bv:s2=true->Sl bt.cells (.slice (some ⟨aq,0,none⟩) (Int.toNat (s_Marks.length:Int)) 16) (ar.take (Int.toNat (s_Marks.length:Int))):=fun hg=>bu (s_Marks.length:Int) (by have ab:=ax.resolve_left (by rw [hg]; decide); first | exact ab | exact ab.1 | exact ab.2 | omega | (have ag:=hg; simp at ag; omega)) (by have ab:=ax.resolve_left (by rw [hg]; decide); first | exact ab | exact ab.1 | exact ab.2 | omega | (have ag:=hg; simp at ag; omega))
 refine g_val s2 (gy_t rfl) (fun hg=>x_sl (v:=Pq aq) (u:=(.slice (some ⟨aq,0,none⟩) (Int.toNat (s_Marks.length:Int)) 16)) (lo':=none) (hi':=some (I (s_Marks.length:Int))) (mx':=none) rfl rfl (congrArg some (gd_of hg (I (s_Marks.length:Int)))) rfl (run_sliceB Tryz.underlying121 Sz4 (by have ab:=ax.resolve_left (by rw [hg]; decide); first | exact ab | exact ab.1 | exact ab.2 | omega | (have ag:=hg; simp at ag; omega)) (by have ab:=ax.resolve_left (by rw [hg]; decide); first | exact ab | exact ab.1 | exact ab.2 | omega | (have ag:=hg; simp at ag; omega)))) ?_;obtain ⟨r3,bw,hM⟩:=M.e_bind hM;refine t_gcall s2 (gy_t rfl) cf55 (B r3) (fun _=>[(.slice (some ⟨aq,0,none⟩) (Int.toNat (s_Marks.length:Int)) 16),.func (.func 56) #[] #[]]) (fun hg=>lst2 (gd_of hg ((.slice (some ⟨aq,0,none⟩) (Int.toNat (s_Marks.length:Int)) 16))) rfl) H (fun hg=>(zeo (ar.take (Int.toNat (s_Marks.length:Int))) (fun aJ=>zdb aJ) (Reads.of (k:=0) rfl roLe) (bv hg) ⟨56,[],rfl,cf56,fun a7 cj co bx aJ cp bz cq bA bB=>by obtain ⟨_,rfl,rfl⟩:=bA; exact (zdQ aJ bB a7 (St.refl bz)).mono fun bx a7 ⟨cr,bC,bD,bE⟩=>by subst bC; exact ⟨bD,bE⟩⟩ (M.e_opt bw hg) _ (H.give (A:=[]) rfl)).mono fun v_ w_ ⟨y_,am,bF,H_⟩=>by subst am; exact ⟨bF,H.via H_⟩) ?_;intro ct H;refine s_val (x_pand (b:=s2) (r:=r3) rfl (fun hb=>gd_of (c:=s2) (by first | exact hb | (rw [hb]; rfl) | simp_all) (B r3)) rfl) ?_;refine t_sw 2 0 [B (s2&&r3)] (B (s2&&r3)) H rfl rfl Sz4 rfl rfl rfl rfl ?_;intro cu H;refine t_sw 1 0 [I 0] (I 0) H rfl rfl Sz35 rfl rfl rfl rfl ?_;intro cv H;refine s_nil ?_;replace H:=H.pk [1,2];refine W.ret ?_;intro cw bG
 replace H:=bG _ _ _ H
 replace H:=H.nf
 have bH:=(H.bl 1)
 have bI:=(H.bl 0)
 have am:=M.e_pure hM
 exact ⟨_,(resE_ofn (vs:=[B (s2&&r3),I 0]) rfl rfl (.cell (v:=B (s2&&r3)) rfl (run_loadVar_sc Sc4 bH rfl)<|.cell (v:=I 0) rfl (run_loadVar_sc Sc35 bI rfl)<|.nil)),⟨(s2&&r3),0,am,rfl,(H.pk [])⟩⟩

end Go.Proofs.YtlemgioaakecpaaGreat
end
namespace Go.Proofs.YtlemgioaakecpaaGreat
open Go Go.Nm
section
variable {S:List Sect} {M':List Mrk} {R':List Rch}
theorem ahN_ends {a b:Nat} (ha:a<M'.length) (hb:b<M'.length):(zaf S M' R' (a:Int) (b:Int)).Ends (decide (Fl.ah M' a b)):=by
  have:=ahead_ends (S:=S) (M':=M') (R':=R') (a:=(a:Int)) (b:=(b:Int)) (by omega) (by omega)
  rw [Int.toNat_natCast,Int.toNat_natCast] at this
  have e:(decide ((M'.getD a default).place<=(M'.getD b default).place)&&decide ((M'.getD a default).hi<(M'.getD b default).lo))=decide (Fl.ah M' a b):=by
    rw [Bool.eq_iff_iff,Bool.and_eq_true,decide_eq_true_iff,decide_eq_true_iff,decide_eq_true_iff]
    exact Iff.rfl
  rwa [e] at this
end
end Go.Proofs.YtlemgioaakecpaaGreat
