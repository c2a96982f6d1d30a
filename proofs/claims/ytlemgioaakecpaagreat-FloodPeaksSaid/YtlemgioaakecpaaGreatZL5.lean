/- Part 5 of the texts on which the proof rests. Conditions: none. -/
import Derived.Test.YtlemgioaakecpaaGreatZL4
set_option linter.unusedVariables false
set_option linter.unusedSimpArgs false
set_option linter.unusedSectionVars false
section
set_option maxRecDepth 100000
set_option maxHeartbeats 16000000
namespace Go.Proofs.YtlemgioaakecpaaGreat
open Go Go.Nm
def zbP (r_:Rch) (c:Cas):M Bool :=
  M.bind (zad c.up 0 2000) fun r2 =>
  M.bind (M.opt (!r2) (zad c.down 0 2000) false) fun r3 =>
  M.bind (M.opt (!((r2||r3)||(decide (c.up<c.down)))) (zad c.roughup r_.lo r_.hi) false) fun r4 =>
  M.bind (M.opt (!(((r2||r3)||(decide (c.up<c.down)))||r4)) (zad c.roughdown r_.lo r_.hi) false) fun r5 =>
  M.pure ((((r2||r3)||(decide (c.up<c.down)))||r4)||r5)
theorem zdk {R:List Chunk}  (r_:Rch) (c:Cas)  {r:Bool} (hM:(zbP r_ c).Ends r) (w:World) (H:St w w [] R):Ret Tryz.prog 91 #[.agg #[I r_.up,I r_.down,I r_.lo,I r_.hi,B r_.narrow],.agg #[I c.up,I c.down,I c.roughup,I c.roughdown]] w fun v w'=>∃ (y0:Bool),y0=r/\v=B y0/\St w w' [] R:=by
 refine ret_of_W Tryz.func91 rfl rfl rfl<|W.seq<|W.region rfl ?_;refine t_bx [I r_.up,I r_.down,I r_.lo,I r_.hi,B r_.narrow] H rfl ?_;intro ab ap H;refine t_bx [I c.up,I c.down,I c.roughup,I c.roughdown] H rfl ?_;intro ac aq H;refine zA (B false) rfl<|s_nil<|W.seq<|W.region rfl<|s_val (x_fa (v:=Pq ac) rfl (fa_blk (o:=0) Fd99_0 Sz3))<|s_val (x_ld (v:=I c.up) rfl (ldb_sc Sc3 (H.bl 0) rfl)) ?_;obtain ⟨au,aj,hM⟩:=M.e_bind hM;refine s_call cf82 [I c.up,I 0,I 2000] rfl (zae c.up 0 2000 aj _ (H.gt 2)) ?_
 rintro vq av ⟨r2,rfl,hvq,ai⟩
 subst vq;(try dsimp only at hM);replace H:=H.bk ai;clear ai;refine zM (B r2) rfl<|g_val (!r2) (gy_f rfl) (fun hg=>x_fa (v:=Oq ac 1) rfl (fa_blk (o:=0) Fd99_1 Sz3))<|g_val (!r2) (gy_f rfl) (fun hg=>x_ld (v:=I c.down) (gd_of hg (Oq ac 1)) (ldb_sc Sc3 (H.bl 0) rfl)) ?_;obtain ⟨r3,ak,hM⟩:=M.e_bind hM;refine t_gcall (!r2) (gy_f rfl) cf82 (B r3) (fun _=>[I c.down,I 0,I 2000]) (fun hg=>lst3 (gd_of hg (I c.down)) rfl rfl) H (fun hg=>(zae c.down 0 2000 (M.e_opt ak hg) _ (H.give (A:=[]) rfl)).mono fun v_ w_ ⟨y_,ae,ag,H_⟩=>by subst ae; exact ⟨ag,H.via H_⟩) ?_;intro aw H;refine s_val (x_por (b:=r2) (r:=r3) rfl rfl (fun hb=>gd_of (c:=!r2) (by first | exact hb | (rw [hb]; rfl) | simp_all) (B r3)))<|zM (B (r2||r3)) rfl<|g_val (!(r2||r3)) (gy_f rfl) (fun hg=>x_fa (v:=Oq ac 1) rfl (fa_blk (o:=0) Fd99_1 Sz3))<|g_val (!(r2||r3)) (gy_f rfl) (fun hg=>x_ld (v:=I c.down) (gd_of hg (Oq ac 1)) (ldb_sc Sc3 (H.bl 0) rfl))<|g_val (!(r2||r3)) (gy_f rfl) (fun hg=>x_fa (v:=Pq ac) rfl (fa_blk (o:=0) Fd99_0 Sz3))<|g_val (!(r2||r3)) (gy_f rfl) (fun hg=>x_ld (v:=I c.up) (gd_of hg (Pq ac)) (ldb_sc Sc3 (H.bl 0) rfl))<|g_val (!(r2||r3)) (gy_f rfl) (fun hg=>x_cmp (kd:=.i64) (r:=decide (c.up<c.down)) (gd_of hg (I c.down)) (gd_of hg (I c.up)) rfl)<|s_val (x_por (b:=(r2||r3)) (r:=decide (c.up<c.down)) rfl rfl (fun hb=>gd_of (c:=!(r2||r3)) (by first | exact hb | (rw [hb]; rfl) | simp_all) (B (decide (c.up<c.down)))))<|zM (B ((r2||r3)||(decide (c.up<c.down)))) rfl<|g_val (!((r2||r3)||(decide (c.up<c.down)))) (gy_f rfl) (fun hg=>x_fa (v:=Oq ac 2) rfl (fa_blk (o:=0) Fd99_2 Sz3)) ?_;refine g_val (!((r2||r3)||(decide (c.up<c.down)))) (gy_f rfl) (fun hg=>x_ld (v:=I c.roughup) (gd_of hg (Oq ac 2)) (ldb_sc Sc3 (H.bl 0) rfl))<|g_val (!((r2||r3)||(decide (c.up<c.down)))) (gy_f rfl) (fun hg=>x_fa (v:=Oq ab 2) rfl (fa_blk (o:=0) Fd151_2 Sz54))<|g_val (!((r2||r3)||(decide (c.up<c.down)))) (gy_f rfl) (fun hg=>x_fa (v:=Oq ab 2) (gd_of hg (Oq ab 2)) (fa_blk (o:=2) Fd54_0 Sz3))<|g_val (!((r2||r3)||(decide (c.up<c.down)))) (gy_f rfl) (fun hg=>x_ld (v:=I r_.lo) (gd_of hg (Oq ab 2)) (ldb_sc Sc3 (H.bl 1) rfl))<|g_val (!((r2||r3)||(decide (c.up<c.down)))) (gy_f rfl) (fun hg=>x_fa (v:=Oq ab 2) rfl (fa_blk (o:=0) Fd151_2 Sz54))<|g_val (!((r2||r3)||(decide (c.up<c.down)))) (gy_f rfl) (fun hg=>x_fa (v:=Oq ab 3) (gd_of hg (Oq ab 2)) (fa_blk (o:=2) Fd54_1 Sz3))<|g_val (!((r2||r3)||(decide (c.up<c.down)))) (gy_f rfl) (fun hg=>x_ld (v:=I r_.hi) (gd_of hg (Oq ab 3)) (ldb_sc Sc3 (H.bl 1) rfl)) ?_;obtain ⟨r4,am,hM⟩:=M.e_bind hM;refine t_gcall (!((r2||r3)||(decide (c.up<c.down)))) (gy_f rfl) cf82 (B r4) (fun _=>[I c.roughup,I r_.lo,I r_.hi]) (fun hg=>lst3 (gd_of hg (I c.roughup)) (gd_of hg (I r_.lo)) (gd_of hg (I r_.hi))) H (fun hg=>(zae c.roughup r_.lo r_.hi (M.e_opt am hg) _ (H.give (A:=[]) rfl)).mono fun v_ w_ ⟨y_,ae,ag,H_⟩=>by subst ae; exact ⟨ag,H.via H_⟩) ?_;intro ax H;refine s_val (x_por (b:=((r2||r3)||(decide (c.up<c.down)))) (r:=r4) rfl rfl (fun hb=>gd_of (c:=!((r2||r3)||(decide (c.up<c.down)))) (by first | exact hb | (rw [hb]; rfl) | simp_all) (B r4)))<|zM (B (((r2||r3)||(decide (c.up<c.down)))||r4)) rfl<|g_val (!(((r2||r3)||(decide (c.up<c.down)))||r4)) (gy_f rfl) (fun hg=>x_fa (v:=Oq ac 3) rfl (fa_blk (o:=0) Fd99_3 Sz3))<|g_val (!(((r2||r3)||(decide (c.up<c.down)))||r4)) (gy_f rfl) (fun hg=>x_ld (v:=I c.roughdown) (gd_of hg (Oq ac 3)) (ldb_sc Sc3 (H.bl 0) rfl))<|g_val (!(((r2||r3)||(decide (c.up<c.down)))||r4)) (gy_f rfl) (fun hg=>x_fa (v:=Oq ab 2) rfl (fa_blk (o:=0) Fd151_2 Sz54))<|g_val (!(((r2||r3)||(decide (c.up<c.down)))||r4)) (gy_f rfl) (fun hg=>x_fa (v:=Oq ab 2) (gd_of hg (Oq ab 2)) (fa_blk (o:=2) Fd54_0 Sz3))<|g_val (!(((r2||r3)||(decide (c.up<c.down)))||r4)) (gy_f rfl) (fun hg=>x_ld (v:=I r_.lo) (gd_of hg (Oq ab 2)) (ldb_sc Sc3 (H.bl 1) rfl))<|g_val (!(((r2||r3)||(decide (c.up<c.down)))||r4)) (gy_f rfl) (fun hg=>x_fa (v:=Oq ab 2) rfl (fa_blk (o:=0) Fd151_2 Sz54))<|g_val (!(((r2||r3)||(decide (c.up<c.down)))||r4)) (gy_f rfl) (fun hg=>x_fa (v:=Oq ab 3) (gd_of hg (Oq ab 2)) (fa_blk (o:=2) Fd54_1 Sz3))<|g_val (!(((r2||r3)||(decide (c.up<c.down)))||r4)) (gy_f rfl) (fun hg=>x_ld (v:=I r_.hi) (gd_of hg (Oq ab 3)) (ldb_sc Sc3 (H.bl 1) rfl)) ?_;obtain ⟨r5,ao,hM⟩:=M.e_bind hM;refine t_gcall (!(((r2||r3)||(decide (c.up<c.down)))||r4)) (gy_f rfl) cf82 (B r5) (fun _=>[I c.roughdown,I r_.lo,I r_.hi]) (fun hg=>lst3 (gd_of hg (I c.roughdown)) (gd_of hg (I r_.lo)) (gd_of hg (I r_.hi))) H (fun hg=>(zae c.roughdown r_.lo r_.hi (M.e_opt ao hg) _ (H.give (A:=[]) rfl)).mono fun v_ w_ ⟨y_,ae,ag,H_⟩=>by subst ae; exact ⟨ag,H.via H_⟩) ?_;intro ay H;refine s_val (x_por (b:=(((r2||r3)||(decide (c.up<c.down)))||r4)) (r:=r5) rfl rfl (fun hb=>gd_of (c:=!(((r2||r3)||(decide (c.up<c.down)))||r4)) (by first | exact hb | (rw [hb]; rfl) | simp_all) (B r5)))<|zA (B ((((r2||r3)||(decide (c.up<c.down)))||r4)||r5)) rfl<|s_nil ?_;replace H:=H.pk [];refine W.ret ?_
 have ae:=M.e_pure hM
 exact ⟨_,resE_tmp rfl,⟨((((r2||r3)||(decide (c.up<c.down)))||r4)||r5),ae,rfl,H⟩⟩

def zbd (x:Sect) (stage:Int):(Int × Nat)->M ((Int × Nat) ⊕ Int):=fun (n,k) =>
  bif decide ((k:Int)<(x.rows.length:Int)) then (
  M.grd (decide ((k:Int)<(x.rows.length:Int))) <|
  bif decide (((x.rows.getD k default).stage)<=stage) then (
  M.grd ((!(decide (((k:Int)+1)<(x.rows.length:Int)))||(decide ((0:Int)<=((k:Int)+1))&&decide (((k:Int)+1)<(x.rows.length:Int))))) <|
  bif ((decide (((k:Int)+1)<(x.rows.length:Int)))&&(decide (stage<((x.rows.getD (Int.toNat ((k:Int)+1)) default).stage)))) then (
  M.grd (decide ((0:Int)<=((k:Int)+1))&&decide (((k:Int)+1)<(x.rows.length:Int))) <|
  M.grd (decide ((-9223372036854775808:Int)<=(((x.rows.getD (Int.toNat ((k:Int)+1)) default).carry)-((x.rows.getD k default).carry)))&&decide ((((x.rows.getD (Int.toNat ((k:Int)+1)) default).carry)-((x.rows.getD k default).carry))<=(9223372036854775807:Int))) <|
  M.grd (decide ((-9223372036854775808:Int)<=(stage-((x.rows.getD k default).stage)))&&decide ((stage-((x.rows.getD k default).stage))<=(9223372036854775807:Int))) <|
  M.grd (decide ((-9223372036854775808:Int)<=((((x.rows.getD (Int.toNat ((k:Int)+1)) default).carry)-((x.rows.getD k default).carry))*(stage-((x.rows.getD k default).stage))))&&decide (((((x.rows.getD (Int.toNat ((k:Int)+1)) default).carry)-((x.rows.getD k default).carry))*(stage-((x.rows.getD k default).stage)))<=(9223372036854775807:Int))) <|
  M.grd (decide ((-9223372036854775808:Int)<=(((x.rows.getD (Int.toNat ((k:Int)+1)) default).stage)-((x.rows.getD k default).stage)))&&decide ((((x.rows.getD (Int.toNat ((k:Int)+1)) default).stage)-((x.rows.getD k default).stage))<=(9223372036854775807:Int))) <|
  M.grd (decide (0<=((((x.rows.getD (Int.toNat ((k:Int)+1)) default).carry)-((x.rows.getD k default).carry))*(stage-((x.rows.getD k default).stage))))&&decide (((((x.rows.getD (Int.toNat ((k:Int)+1)) default).carry)-((x.rows.getD k default).carry))*(stage-((x.rows.getD k default).stage)))<=(9223372036854775807:Int))&&decide ((0:Int)<(((x.rows.getD (Int.toNat ((k:Int)+1)) default).stage)-((x.rows.getD k default).stage)))) <|
  M.grd (decide ((-9223372036854775808:Int)<=(((x.rows.getD k default).carry)+(((((x.rows.getD (Int.toNat ((k:Int)+1)) default).carry)-((x.rows.getD k default).carry))*(stage-((x.rows.getD k default).stage))) / (((x.rows.getD (Int.toNat ((k:Int)+1)) default).stage)-((x.rows.getD k default).stage)))))&&decide ((((x.rows.getD k default).carry)+(((((x.rows.getD (Int.toNat ((k:Int)+1)) default).carry)-((x.rows.getD k default).carry))*(stage-((x.rows.getD k default).stage))) / (((x.rows.getD (Int.toNat ((k:Int)+1)) default).stage)-((x.rows.getD k default).stage))))<=(9223372036854775807:Int))) <|
  M.pure (.inl (((x.rows.getD k default).carry)+(((((x.rows.getD (Int.toNat ((k:Int)+1)) default).carry)-((x.rows.getD k default).carry))*(stage-((x.rows.getD k default).stage))) / (((x.rows.getD (Int.toNat ((k:Int)+1)) default).stage)-((x.rows.getD k default).stage))),k+1)))
  else (
  M.pure (.inl ((x.rows.getD k default).carry,k+1))))
  else (
  M.pure (.inl (n,k+1))))
  else (
  M.pure (.inr n))
def zbp (x:Sect) (stage:Int):M Int :=
  M.bind (M.iter (zbd x stage) (0,0)) fun n2 =>
  M.pure n2
theorem zdj {R:List Chunk} {ax:Cells} {ab:Value} (x:Sect) (stage:Int) (ak:Reads R ax) (ac:Sl ax ab x.rows) {r:Int} (hM:(zbp x stage).Ends r) (w:World) (H:St w w [] R):Ret Tryz.prog 84 #[.agg #[I x.place,ab],I stage] w fun v w'=>∃ (y0:Int),y0=r/\v=I y0/\St w w' [] R:=by
 refine ret_of_W Tryz.func84 rfl rfl rfl<|W.seq<|W.region rfl ?_;refine t_bx [I x.place,ab] H rfl ?_;intro ai aD H;refine zA (I 0) rfl<|s_nil<|W.seq<|W.region rfl<|zA (I 0) rfl<|s_nil<|W.seq<|W.seq<|W.region rfl<|zA (I 0) rfl ?_;refine s_nil<|W.block ?_;obtain ⟨az,aq,aA⟩:=M.e_bind hM
 obtain ⟨aE,aq⟩:=M.e_iter aq
 refine W.loop (fun m σ W=>∃ (n:Int) (k:Nat) (ρ:Env),σ=upds ρ [(1,I stage),(2,Pq ai),(5,I n),(6,I (k:Int))]/\M.iterN (zbd x stage) m (n,k)=some az/\St w W [cBlk ai [I x.place,ab] 148] R) ?_ ?_
 ·exact ⟨_,0,0,_,upds_of _ _ ⟨rfl,rfl,rfl,rfl,trivial⟩,aq,H⟩
 rintro aF σ aG ⟨n,k,ρ,rfl,ay,H⟩
 obtain ⟨au,av,aH,hM,ap⟩:=M.e_iterN ay
 simp only [zbd] at hM
 clear ay;refine W.seq<|W.seq<|W.region rfl<|zM (I (k:Int)) rfl<|s_val (x_fa (v:=Oq ai 1) rfl (fa_blk (o:=0) Fd148_1 Sz146))<|s_val (x_ld (v:=ab) rfl (ldb_sc Sc146 (H.bl 0) rfl)) ?_
 have aI:=(ac).len_le
 refine s_val (x_lenS T146.und rfl ac)<|zC (k:Int) (x.rows.length:Int) (decide ((k:Int)<(x.rows.length:Int))) rfl rfl rfl<|s_nil ?_
 refine W.cond (decide ((k:Int)<(x.rows.length:Int))) rfl (fun am=>?_) (fun am=>?_)
 ·replace hM:=M.e_t hM am
  replace am:=dI am
  refine W.skip<|W.seq<|W.block<|W.seq<|W.region rfl<|s_val (x_fa (v:=Oq ai 1) rfl (fa_blk (o:=0) Fd148_1 Sz146))<|s_val (x_ld (v:=ab) rfl (ldb_sc Sc146 (H.bl 0) rfl))<|zM (I (k:Int)) rfl ?_;obtain ⟨aJ,hM⟩:=M.e_gd hM;refine s_val (x_ix (v:=vat ab 2 (Int.toNat (k:Int))) rfl rfl (Sl.ix (α:=FRow) T146.und T146.size ac (by omega) (by omega)))<|s_val (x_fa (v:=fat (vat ab 2 (Int.toNat (k:Int))) 0) rfl (fa_pl Fd149_0 Sz3 (Sl.pl (i:=(k:Int)) ac (by omega) (by omega))))<|s_val (x_ld (v:=I ((x.rows.getD k default).stage)) rfl (ld_sc Sc3 (At.mono (FRow_at0 ac (i:=(k:Int)) (by omega) (by omega)) (ak.at H))))<|zM (I stage) rfl<|zC ((x.rows.getD k default).stage) stage (decide (((x.rows.getD k default).stage)<=stage)) rfl rfl rfl<|s_nil ?_
  refine W.cond (decide (((x.rows.getD k default).stage)<=stage)) rfl (fun ao=>?_) (fun ao=>?_)
  ·replace hM:=M.e_t hM ao
   replace ao:=dI ao
   refine W.seq<|W.region rfl<|s_val (x_fa (v:=Oq ai 1) rfl (fa_blk (o:=0) Fd148_1 Sz146))<|s_val (x_ld (v:=ab) rfl (ldb_sc Sc146 (H.bl 0) rfl))<|zM (I (k:Int)) rfl<|s_val (x_ix (v:=vat ab 2 (Int.toNat (k:Int))) rfl rfl (Sl.ix (α:=FRow) T146.und T146.size ac (by omega) (by omega)))<|s_val (x_fa (v:=fat (vat ab 2 (Int.toNat (k:Int))) 1) rfl (fa_pl Fd149_1 Sz3 (Sl.pl (i:=(k:Int)) ac (by omega) (by omega))))<|s_val (x_ld (v:=I ((x.rows.getD k default).carry)) rfl (ld_sc Sc3 (At.mono (FRow_at1 ac (i:=(k:Int)) (by omega) (by omega)) (ak.at H))))<|zA (I ((x.rows.getD k default).carry)) rfl<|s_nil ?_;refine W.seq<|W.region rfl<|zM (I (k:Int)) rfl<|zR (k:Int) 1 ((k:Int)+1) rfl rfl rfl (by omega)<|s_val (x_fa (v:=Oq ai 1) rfl (fa_blk (o:=0) Fd148_1 Sz146))<|s_val (x_ld (v:=ab) rfl (ldb_sc Sc146 (H.bl 0) rfl)) ?_
   have aK:=(ac).len_le
   refine s_val (x_lenS T146.und rfl ac)<|zC ((k:Int)+1) (x.rows.length:Int) (decide (((k:Int)+1)<(x.rows.length:Int))) rfl rfl rfl<|zM (B (decide (((k:Int)+1)<(x.rows.length:Int)))) rfl<|g_val (decide (((k:Int)+1)<(x.rows.length:Int))) (gy_t rfl) (fun hg=>x_fa (v:=Oq ai 1) rfl (fa_blk (o:=0) Fd148_1 Sz146))<|g_val (decide (((k:Int)+1)<(x.rows.length:Int))) (gy_t rfl) (fun hg=>x_ld (v:=ab) (gd_of hg (Oq ai 1)) (ldb_sc Sc146 (H.bl 0) rfl))<|g_val (decide (((k:Int)+1)<(x.rows.length:Int))) (gy_t rfl) (fun hg=>x_mv (v:=I (k:Int)) rfl)<|g_val (decide (((k:Int)+1)<(x.rows.length:Int))) (gy_t rfl) (fun hg=>x_ari (r:=(k:Int)+1) (gd_of hg (I (k:Int))) rfl rfl (by first | omega | (have ag:=hg; simp at ag; omega))) ?_;obtain ⟨aj,hM⟩:=M.e_grd hM
   replace aj:=M.imp_of aj
   simp only [Bool.and_eq_true,decide_eq_true_eq] at aj
   refine g_val (decide (((k:Int)+1)<(x.rows.length:Int))) (gy_t rfl) (fun hg=>x_ix (v:=vat ab 2 (Int.toNat ((k:Int)+1))) (gd_of hg (ab)) (gd_of hg (I ((k:Int)+1))) (Sl.ix (α:=FRow) T146.und T146.size ac (by have ae:=aj.resolve_left (by rw [hg]; decide); first | exact ae | exact ae.1 | exact ae.2 | omega | (have ag:=hg; simp at ag; omega)) (by have ae:=aj.resolve_left (by rw [hg]; decide); first | exact ae | exact ae.1 | exact ae.2 | omega | (have ag:=hg; simp at ag; omega))))<|g_val (decide (((k:Int)+1)<(x.rows.length:Int))) (gy_t rfl) (fun hg=>x_fa (v:=fat (vat ab 2 (Int.toNat ((k:Int)+1))) 0) (gd_of hg (vat ab 2 (Int.toNat ((k:Int)+1)))) (fa_pl Fd149_0 Sz3 (Sl.pl (i:=(k:Int)+1) ac (by have ae:=aj.resolve_left (by rw [hg]; decide); first | exact ae | exact ae.1 | exact ae.2 | omega | (have ag:=hg; simp at ag; omega)) (by have ae:=aj.resolve_left (by rw [hg]; decide); first | exact ae | exact ae.1 | exact ae.2 | omega | (have ag:=hg; simp at ag; omega)))))<|g_val (decide (((k:Int)+1)<(x.rows.length:Int))) (gy_t rfl) (fun hg=>x_ld (v:=I ((x.rows.getD (Int.toNat ((k:Int)+1)) default).stage)) (gd_of hg (fat (vat ab 2 (Int.toNat ((k:Int)+1))) 0)) (ld_sc Sc3 (At.mono (FRow_at0 ac (i:=(k:Int)+1) (by have ae:=aj.resolve_left (by rw [hg]; decide); first | exact ae | exact ae.1 | exact ae.2 | omega | (have ag:=hg; simp at ag; omega)) (by have ae:=aj.resolve_left (by rw [hg]; decide); first | exact ae | exact ae.1 | exact ae.2 | omega | (have ag:=hg; simp at ag; omega))) (ak.at H))))<|g_val (decide (((k:Int)+1)<(x.rows.length:Int))) (gy_t rfl) (fun hg=>x_mv (v:=I stage) rfl)<|g_val (decide (((k:Int)+1)<(x.rows.length:Int))) (gy_t rfl) (fun hg=>x_cmp (kd:=.i64) (r:=decide (stage<((x.rows.getD (Int.toNat ((k:Int)+1)) default).stage))) (gd_of hg (I ((x.rows.getD (Int.toNat ((k:Int)+1)) default).stage))) (gd_of hg (I stage)) rfl)<|s_val (x_pand (b:=decide (((k:Int)+1)<(x.rows.length:Int))) (r:=decide (stage<((x.rows.getD (Int.toNat ((k:Int)+1)) default).stage))) rfl (fun hb=>gd_of (c:=decide (((k:Int)+1)<(x.rows.length:Int))) (by first | exact hb | (rw [hb]; rfl) | simp_all) (B (decide (stage<((x.rows.getD (Int.toNat ((k:Int)+1)) default).stage))))) rfl)<|s_nil ?_
   refine W.cond ((decide (((k:Int)+1)<(x.rows.length:Int)))&&(decide (stage<((x.rows.getD (Int.toNat ((k:Int)+1)) default).stage)))) rfl (fun aw=>?_) (fun aw=>?_)
   ·replace hM:=M.e_t hM aw;refine W.draw (fun W=>St w W [cBlk ai [I x.place,ab] 148] R) [(0,true),(1,true),(2,true),(3,true),(4,true),(5,true),(6,true),(7,true),(8,true),(9,true),(10,true),(11,true),(12,true),(13,true),(14,true),(15,true),(16,true),(17,true),(18,true),(19,true),(20,true),(21,true),(22,true),(23,true),(24,true),(25,true),(26,true),(27,true),(28,true),(29,true),(30,true),(31,true),(32,true),(33,true),(34,true),(35,true)] mixed (by decide +kernel) rfl ?_;intro aL ag;replace H:=H.ext ag;clear ag
    refine ⟨(H.pk [0]),?_⟩
    refine d_q rfl (fun w' H=>x_mv (v:=I ((x.rows.getD k default).carry)) rfl)<|d_q rfl (fun w' H=>x_fa (v:=Oq ai 1) rfl (fa_blk (o:=0) Fd148_1 Sz146))<|d_q rfl (fun w' H=>x_ld (v:=ab) rfl (ldb_sc Sc146 (H.bl 0) rfl))<|d_q rfl (fun w' H=>x_mv (v:=I (k:Int)) rfl)<|d_q rfl (fun w' H=>x_ari (r:=(k:Int)+1) rfl rfl rfl (by omega)) ?_;obtain ⟨aM,hM⟩:=M.e_gd hM;refine d_q rfl (fun w' H=>x_ix (v:=vat ab 2 (Int.toNat ((k:Int)+1))) rfl rfl (Sl.ix (α:=FRow) T146.und T146.size ac (by omega) (by omega)))<|d_q rfl (fun w' H=>x_fa (v:=fat (vat ab 2 (Int.toNat ((k:Int)+1))) 1) rfl (fa_pl Fd149_1 Sz3 (Sl.pl (i:=(k:Int)+1) ac (by omega) (by omega))))<|d_q rfl (fun w' H=>x_ld (v:=I ((x.rows.getD (Int.toNat ((k:Int)+1)) default).carry)) rfl (ld_sc Sc3 (At.mono (FRow_at1 ac (i:=(k:Int)+1) (by omega) (by omega)) (ak.at H))))<|d_q rfl (fun w' H=>x_mv (v:=I ((x.rows.getD k default).carry)) rfl) ?_;obtain ⟨aN,hM⟩:=M.e_gd hM;refine d_q rfl (fun w' H=>x_ari (r:=((x.rows.getD (Int.toNat ((k:Int)+1)) default).carry)-((x.rows.getD k default).carry)) rfl rfl rfl (by omega))<|d_q rfl (fun w' H=>x_mv (v:=I stage) rfl)<|d_q rfl (fun w' H=>x_fa (v:=Oq ai 1) rfl (fa_blk (o:=0) Fd148_1 Sz146))<|d_q rfl (fun w' H=>x_ld (v:=ab) rfl (ldb_sc Sc146 (H.bl 0) rfl))<|d_q rfl (fun w' H=>x_mv (v:=I (k:Int)) rfl)<|d_q rfl (fun w' H=>x_ix (v:=vat ab 2 (Int.toNat (k:Int))) rfl rfl (Sl.ix (α:=FRow) T146.und T146.size ac (by omega) (by omega)))<|d_q rfl (fun w' H=>x_fa (v:=fat (vat ab 2 (Int.toNat (k:Int))) 0) rfl (fa_pl Fd149_0 Sz3 (Sl.pl (i:=(k:Int)) ac (by omega) (by omega))))<|d_q rfl (fun w' H=>x_ld (v:=I ((x.rows.getD k default).stage)) rfl (ld_sc Sc3 (At.mono (FRow_at0 ac (i:=(k:Int)) (by omega) (by omega)) (ak.at H)))) ?_;obtain ⟨aO,hM⟩:=M.e_gd hM;refine d_q rfl (fun w' H=>x_ari (r:=stage-((x.rows.getD k default).stage)) rfl rfl rfl (by omega)) ?_;obtain ⟨aP,hM⟩:=M.e_gd hM;refine d_q rfl (fun w' H=>x_ari (r:=(((x.rows.getD (Int.toNat ((k:Int)+1)) default).carry)-((x.rows.getD k default).carry))*(stage-((x.rows.getD k default).stage))) rfl rfl rfl (by omega))<|d_q rfl (fun w' H=>x_fa (v:=Oq ai 1) rfl (fa_blk (o:=0) Fd148_1 Sz146))<|d_q rfl (fun w' H=>x_ld (v:=ab) rfl (ldb_sc Sc146 (H.bl 0) rfl))<|d_q rfl (fun w' H=>x_mv (v:=I (k:Int)) rfl)<|d_q rfl (fun w' H=>x_ari (r:=(k:Int)+1) rfl rfl rfl (by omega))<|d_q rfl (fun w' H=>x_ix (v:=vat ab 2 (Int.toNat ((k:Int)+1))) rfl rfl (Sl.ix (α:=FRow) T146.und T146.size ac (by omega) (by omega)))<|d_q rfl (fun w' H=>x_fa (v:=fat (vat ab 2 (Int.toNat ((k:Int)+1))) 0) rfl (fa_pl Fd149_0 Sz3 (Sl.pl (i:=(k:Int)+1) ac (by omega) (by omega))))<|d_q rfl (fun w' H=>x_ld (v:=I ((x.rows.getD (Int.toNat ((k:Int)+1)) default).stage)) rfl (ld_sc Sc3 (At.mono (FRow_at0 ac (i:=(k:Int)+1) (by omega) (by omega)) (ak.at H))))<|d_q rfl (fun w' H=>x_fa (v:=Oq ai 1) rfl (fa_blk (o:=0) Fd148_1 Sz146))<|d_q rfl (fun w' H=>x_ld (v:=ab) rfl (ldb_sc Sc146 (H.bl 0) rfl)) ?_;refine d_q rfl (fun w' H=>x_mv (v:=I (k:Int)) rfl)<|d_q rfl (fun w' H=>x_ix (v:=vat ab 2 (Int.toNat (k:Int))) rfl rfl (Sl.ix (α:=FRow) T146.und T146.size ac (by omega) (by omega)))<|d_q rfl (fun w' H=>x_fa (v:=fat (vat ab 2 (Int.toNat (k:Int))) 0) rfl (fa_pl Fd149_0 Sz3 (Sl.pl (i:=(k:Int)) ac (by omega) (by omega))))<|d_q rfl (fun w' H=>x_ld (v:=I ((x.rows.getD k default).stage)) rfl (ld_sc Sc3 (At.mono (FRow_at0 ac (i:=(k:Int)) (by omega) (by omega)) (ak.at H)))) ?_;obtain ⟨aQ,hM⟩:=M.e_gd hM;refine d_q rfl (fun w' H=>x_ari (r:=((x.rows.getD (Int.toNat ((k:Int)+1)) default).stage)-((x.rows.getD k default).stage)) rfl rfl rfl (by omega)) ?_;obtain ⟨aR,hM⟩:=M.e_gd hM;refine d_q rfl (fun w' H=>x_quo (a:=(((x.rows.getD (Int.toNat ((k:Int)+1)) default).carry)-((x.rows.getD k default).carry))*(stage-((x.rows.getD k default).stage))) (b:=((x.rows.getD (Int.toNat ((k:Int)+1)) default).stage)-((x.rows.getD k default).stage)) rfl rfl (by omega)) ?_;obtain ⟨aS,hM⟩:=M.e_gd hM;refine d_q rfl (fun w' H=>x_ari (r:=((x.rows.getD k default).carry)+(((((x.rows.getD (Int.toNat ((k:Int)+1)) default).carry)-((x.rows.getD k default).carry))*(stage-((x.rows.getD k default).stage))) / (((x.rows.getD (Int.toNat ((k:Int)+1)) default).stage)-((x.rows.getD k default).stage)))) rfl rfl rfl (by omega))<|d_q rfl (fun w' H=>x_as (v:=I (((x.rows.getD k default).carry)+(((((x.rows.getD (Int.toNat ((k:Int)+1)) default).carry)-((x.rows.getD k default).carry))*(stage-((x.rows.getD k default).stage))) / (((x.rows.getD (Int.toNat ((k:Int)+1)) default).stage)-((x.rows.getD k default).stage))))) rfl) ?_;refine d_nil<|W.region rfl<|zM (I (k:Int)) rfl<|zR (k:Int) 1 ((k:Int)+1) rfl rfl rfl (by omega)<|zA (I ((k:Int)+1)) rfl<|s_nil ?_
    exact ⟨au,av,((x.rows.getD k default).carry)+(((((x.rows.getD (Int.toNat ((k:Int)+1)) default).carry)-((x.rows.getD k default).carry))*(stage-((x.rows.getD k default).stage))) / (((x.rows.getD (Int.toNat ((k:Int)+1)) default).stage)-((x.rows.getD k default).stage))),k+1,_,upds_of _ _ ⟨rfl,rfl,rfl,rfl,trivial⟩,M.e_inl hM ap,H⟩
   replace hM:=M.e_f hM aw;refine W.skip<|W.region rfl<|zM (I (k:Int)) rfl<|zR (k:Int) 1 ((k:Int)+1) rfl rfl rfl (by omega)<|zA (I ((k:Int)+1)) rfl<|s_nil ?_
   exact ⟨au,av,(x.rows.getD k default).carry,k+1,_,upds_of _ _ ⟨rfl,rfl,rfl,rfl,trivial⟩,M.e_inl hM ap,H⟩
  replace hM:=M.e_f hM ao
  replace ao:=dI ao
  refine W.skip<|W.region rfl<|zM (I (k:Int)) rfl<|zR (k:Int) 1 ((k:Int)+1) rfl rfl rfl (by omega)<|zA (I ((k:Int)+1)) rfl<|s_nil ?_
  exact ⟨au,av,n,k+1,_,upds_of _ _ ⟨rfl,rfl,rfl,rfl,trivial⟩,M.e_inl hM ap,H⟩
 replace hM:=M.e_f hM am
 replace am:=dI am
 refine W.exit ?_
 have aB:=M.e_inr hM ap
 subst aB;replace hM:=aA;(try dsimp only at hM);refine W.seq<|W.region rfl<|zM (I n) rfl<|zA (I n) rfl<|s_nil ?_;refine W.ret ?_
 have aC:=M.e_pure hM
 exact ⟨_,resE_tmp rfl,⟨n,aC,rfl,(H.pk [])⟩⟩

def zbI (s_Sections:List Sect) (r_:Rch) (c:Cas) (r3 a p:Int):(Int × Int)->M ((Int × Int) ⊕ Int):=fun (out,bit) =>
  bif decide (0<bit) then (
  M.grd (decide ((-9223372036854775808:Int)<=(out+bit))&&decide ((out+bit)<=(9223372036854775807:Int))) <|
  M.grd (decide ((-9223372036854775808:Int)<=((out+bit)*(out+bit)))&&decide (((out+bit)*(out+bit))<=(9223372036854775807:Int))) <|
  bif decide (((out+bit)*(out+bit))<=((((10000*a)*r3)*(c.up-c.down)) / ((p*c.roughdown)*(((s_Sections.getD (Int.toNat r_.down) default).place)-((s_Sections.getD (Int.toNat r_.up) default).place))))) then (
  M.grd (decide (0<=bit)&&decide (bit<=(9223372036854775807:Int))&&decide ((0:Int)<2)) <|
  M.pure (.inl (out+bit,bit / 2)))
  else (
  M.grd (decide (0<=bit)&&decide (bit<=(9223372036854775807:Int))&&decide ((0:Int)<2)) <|
  M.pure (.inl (out,bit / 2))))
  else (
  M.pure (.inr out))
def zaV (s_Sections:List Sect) (r_:Rch) (c:Cas) (r3 a p:Int):M Int :=
  M.grd (decide ((-9223372036854775808:Int)<=(10000*a))&&decide ((10000*a)<=(9223372036854775807:Int))) <|
  M.grd (decide ((-9223372036854775808:Int)<=((10000*a)*r3))&&decide (((10000*a)*r3)<=(9223372036854775807:Int))) <|
  M.grd (decide ((-9223372036854775808:Int)<=(c.up-c.down))&&decide ((c.up-c.down)<=(9223372036854775807:Int))) <|
  M.grd (decide ((-9223372036854775808:Int)<=(((10000*a)*r3)*(c.up-c.down)))&&decide ((((10000*a)*r3)*(c.up-c.down))<=(9223372036854775807:Int))) <|
  M.grd (decide ((-9223372036854775808:Int)<=(p*c.roughdown))&&decide ((p*c.roughdown)<=(9223372036854775807:Int))) <|
  M.grd (decide ((-9223372036854775808:Int)<=(((s_Sections.getD (Int.toNat r_.down) default).place)-((s_Sections.getD (Int.toNat r_.up) default).place)))&&decide ((((s_Sections.getD (Int.toNat r_.down) default).place)-((s_Sections.getD (Int.toNat r_.up) default).place))<=(9223372036854775807:Int))) <|
  M.grd (decide ((-9223372036854775808:Int)<=((p*c.roughdown)*(((s_Sections.getD (Int.toNat r_.down) default).place)-((s_Sections.getD (Int.toNat r_.up) default).place))))&&decide (((p*c.roughdown)*(((s_Sections.getD (Int.toNat r_.down) default).place)-((s_Sections.getD (Int.toNat r_.up) default).place)))<=(9223372036854775807:Int))) <|
  M.grd (decide (0<=(((10000*a)*r3)*(c.up-c.down)))&&decide ((((10000*a)*r3)*(c.up-c.down))<=(9223372036854775807:Int))&&decide ((0:Int)<((p*c.roughdown)*(((s_Sections.getD (Int.toNat r_.down) default).place)-((s_Sections.getD (Int.toNat r_.up) default).place))))) <|
  M.bind (M.iter (zbI s_Sections r_ c r3 a p) (0,1073741824)) fun out2 =>
  M.pure out2
def zas (s_Sections:List Sect) (s_Marks:List Mrk) (s_Reaches:List Rch) (r_:Rch) (c:Cas):M Int :=
  M.grd (decide ((0:Int)<=r_.up)&&decide (r_.up<(s_Sections.length:Int))) <|
  M.grd (decide ((0:Int)<=r_.down)&&decide (r_.down<(s_Sections.length:Int))) <|
  M.bind (zbp (s_Sections.getD (Int.toNat r_.up) default) c.up) fun r2 =>
  M.bind (zbp (s_Sections.getD (Int.toNat r_.down) default) c.down) fun r3 =>
  bif r_.narrow then (
  zaV s_Sections r_ c r3 r3 c.roughdown)
  else (
  zaV s_Sections r_ c r3 r2 c.roughup)
theorem zcH {R:List Chunk} {aC:Cells} {ab:Value} {aD:Cells} {ak:Value} {aE:Cells} {am:Value} (s_Sections:List Sect) (s_Marks:List Mrk) (s_Reaches:List Rch) (r_:Rch) (c:Cas) (aq:Reads R aC) (ae:Sl aC ab s_Sections) (aQ:Reads R aD) (aR:Sl aD ak s_Marks) (aS:Reads R aE) (aT:Sl aE am s_Reaches) {r:Int} (hM:(zas s_Sections s_Marks s_Reaches r_ c).Ends r) (w:World) (H:St w w [] R):Ret Tryz.prog 92 #[.agg #[ab,ak,am],.agg #[I r_.up,I r_.down,I r_.lo,I r_.hi,B r_.narrow],.agg #[I c.up,I c.down,I c.roughup,I c.roughdown]] w fun v w'=>∃ (y0:Int),y0=r/\v=I y0/\St w w' [] R:=by
 refine ret_of_W Tryz.func92 rfl rfl rfl<|W.seq<|W.region rfl ?_;refine t_bx [ab,ak,am] H rfl ?_;intro ai aU H;refine t_bx [I r_.up,I r_.down,I r_.lo,I r_.hi,B r_.narrow] H rfl ?_;intro ag aV H;refine t_bx [I c.up,I c.down,I c.roughup,I c.roughdown] H rfl ?_;intro ac aW H;refine zA (I 0) rfl<|s_nil<|W.seq ?_;refine W.draw (fun W=>St w W [cBlk ac [I c.up,I c.down,I c.roughup,I c.roughdown] 99,cBlk ag [I r_.up,I r_.down,I r_.lo,I r_.hi,B r_.narrow] 151,cBlk ai [ab,ak,am] 81] R) [(0,true),(1,true),(2,true),(3,true),(4,true),(5,true),(6,true),(7,true),(9,true),(10,true),(11,true),(12,true),(13,true),(14,true),(15,true),(16,true),(8,false),(17,false),(18,true),(19,true)] mixed (by decide +kernel) rfl ?_;intro aX aj;replace H:=H.ext aj;clear aj
 refine ⟨(H.pk [0,1,2]),?_⟩
 refine d_q rfl (fun w' H=>x_fa (v:=Pq ai) rfl (fa_blk (o:=0) Fd81_0 Sz77))<|d_q rfl (fun w' H=>x_ld (v:=ab) rfl (ldb_sc Sc77 (H.bl 2) rfl))<|d_q rfl (fun w' H=>x_fa (v:=Pq ag) rfl (fa_blk (o:=0) Fd151_0 Sz3))<|d_q rfl (fun w' H=>x_ld (v:=I r_.up) rfl (ldb_sc Sc3 (H.bl 1) rfl)) ?_;obtain ⟨aY,hM⟩:=M.e_gd hM;refine d_q rfl (fun w' H=>x_ix (v:=vat ab 2 (Int.toNat r_.up)) rfl rfl (Sl.ix (α:=Sect) T77.und T77.size ae (by omega) (by omega))) ?_
 obtain ⟨ax,aI,av⟩:=Sect_atA ae (i:=r_.up) (by omega) (by omega)
 replace av:Sl _ ax (s_Sections.getD (Int.toNat r_.up) default).rows:=av
 have aZ:=av.len_le
 refine d_q rfl (fun w' H=>x_ld (v:=.agg #[I ((s_Sections.getD (Int.toNat r_.up) default).place),ax]) rfl (ld_ag Ag148 Sz148 (At.mono aI (aq.at H))))<|d_q rfl (fun w' H=>x_fa (v:=Pq ac) rfl (fa_blk (o:=0) Fd99_0 Sz3))<|d_q rfl (fun w' H=>x_ld (v:=I c.up) rfl (ldb_sc Sc3 (H.bl 0) rfl))<|d_q rfl (fun w' H=>x_fa (v:=Pq ai) rfl (fa_blk (o:=0) Fd81_0 Sz77))<|d_q rfl (fun w' H=>x_ld (v:=ab) rfl (ldb_sc Sc77 (H.bl 2) rfl))<|d_q rfl (fun w' H=>x_fa (v:=Oq ag 1) rfl (fa_blk (o:=0) Fd151_1 Sz3))<|d_q rfl (fun w' H=>x_ld (v:=I r_.down) rfl (ldb_sc Sc3 (H.bl 1) rfl)) ?_;obtain ⟨a6,hM⟩:=M.e_gd hM;refine d_q rfl (fun w' H=>x_ix (v:=vat ab 2 (Int.toNat r_.down)) rfl rfl (Sl.ix (α:=Sect) T77.und T77.size ae (by omega) (by omega))) ?_
 obtain ⟨ay,aJ,aw⟩:=Sect_atA ae (i:=r_.down) (by omega) (by omega)
 replace aw:Sl _ ay (s_Sections.getD (Int.toNat r_.down) default).rows:=aw
 have a7:=aw.len_le
 refine d_q rfl (fun w' H=>x_ld (v:=.agg #[I ((s_Sections.getD (Int.toNat r_.down) default).place),ay]) rfl (ld_ag Ag148 Sz148 (At.mono aJ (aq.at H))))<|d_q rfl (fun w' H=>x_fa (v:=Oq ac 1) rfl (fa_blk (o:=0) Fd99_1 Sz3))<|d_q rfl (fun w' H=>x_ld (v:=I c.down) rfl (ldb_sc Sc3 (H.bl 0) rfl))<|d_l rfl ?_;obtain ⟨a8,aK,hM⟩:=M.e_bind hM;refine s_call cf84 [.agg #[I ((s_Sections.getD (Int.toNat r_.up) default).place),ax],I c.up] rfl (zdj (s_Sections.getD (Int.toNat r_.up) default) c.up (aq.app _) av aK _ (H.gt 3)) ?_
 rintro vq ba ⟨r2,rfl,hvq,au⟩
 subst vq;(try dsimp only at hM);replace H:=H.bk au;clear au
 refine s_nil ⟨(H.pk [0,1,2]),?_⟩
 refine d_l rfl ?_;obtain ⟨bb,aL,hM⟩:=M.e_bind hM;refine s_call cf84 [.agg #[I ((s_Sections.getD (Int.toNat r_.down) default).place),ay],I c.down] rfl (zdj (s_Sections.getD (Int.toNat r_.down) default) c.down (aq.app _) aw aL _ (H.gt 3)) ?_
 rintro vq bc ⟨r3,rfl,hvq,au⟩
 subst vq;(try dsimp only at hM);replace H:=H.bk au;clear au
 refine s_nil ⟨(H.pk [0,1,2]),?_⟩
 refine d_q rfl (fun w' H=>x_as (v:=I r2) rfl)<|d_q rfl (fun w' H=>x_as (v:=I r3) rfl) ?_;refine d_nil<|W.seq ?_;refine W.draw (fun W=>St w W [cBlk ac [I c.up,I c.down,I c.roughup,I c.roughdown] 99,cBlk ag [I r_.up,I r_.down,I r_.lo,I r_.hi,B r_.narrow] 151,cBlk ai [ab,ak,am] 81] R) [(0,true),(1,true),(2,true),(3,true),(4,true),(5,true)] mixed (by decide +kernel) rfl ?_;intro bf aj;replace H:=H.ext aj;clear aj
 refine ⟨(H.pk [0,1,2]),?_⟩
 refine d_q rfl (fun w' H=>x_fa (v:=Oq ac 2) rfl (fa_blk (o:=0) Fd99_2 Sz3))<|d_q rfl (fun w' H=>x_ld (v:=I c.roughup) rfl (ldb_sc Sc3 (H.bl 0) rfl))<|d_q rfl (fun w' H=>x_fa (v:=Oq ac 3) rfl (fa_blk (o:=0) Fd99_3 Sz3))<|d_q rfl (fun w' H=>x_ld (v:=I c.roughdown) rfl (ldb_sc Sc3 (H.bl 0) rfl))<|d_q rfl (fun w' H=>x_as (v:=I c.roughup) rfl)<|d_q rfl (fun w' H=>x_as (v:=I c.roughdown) rfl) ?_;refine d_nil ?_;refine W.seqJ (fun σ W=>∃ (a:Int) (p:Int) (ρ:Env),σ=upds ρ [(3,Pq ai),(4,Pq ag),(5,Pq ac),(7,I a),(8,I r3),(9,I p),(10,I c.roughdown)]/\(zaV s_Sections r_ c r3 a p).Ends r/\St w W [cBlk ac [I c.up,I c.down,I c.roughup,I c.roughdown] 99,cBlk ag [I r_.up,I r_.down,I r_.lo,I r_.hi,B r_.narrow] 151,cBlk ai [ab,ak,am] 81] R) ?_ ?_
 ·skip
  refine W.seq<|W.region rfl<|s_val (x_fa (v:=Oq ag 4) rfl (fa_blk (o:=0) Fd151_3 Sz4))<|s_val (x_ld (v:=B r_.narrow) rfl (ldb_sc Sc4 (H.bl 1) rfl))<|s_nil ?_
  refine W.cond r_.narrow rfl (fun az=>?_) (fun az=>?_)
  ·replace hM:=M.e_t hM az;refine W.region rfl<|zM (I r3) rfl<|zM (I c.roughdown) rfl<|zA (I r3) rfl<|zA (I c.roughdown) rfl<|s_nil ?_
   exact ⟨r3,c.roughdown,_,upds_of _ _ ⟨rfl,rfl,rfl,rfl,rfl,rfl,rfl,trivial⟩,hM,H⟩
  replace hM:=M.e_f hM az;refine W.skip ?_
  exact ⟨r2,c.roughup,_,upds_of _ _ ⟨rfl,rfl,rfl,rfl,rfl,rfl,rfl,trivial⟩,hM,H⟩
 rintro _ bg ⟨a,p,ρ,rfl,hM,H⟩
 unfold zaV at hM
 refine W.seq ?_;refine W.draw (fun W=>St w W [cBlk ac [I c.up,I c.down,I c.roughup,I c.roughdown] 99,cBlk ag [I r_.up,I r_.down,I r_.lo,I r_.hi,B r_.narrow] 151,cBlk ai [ab,ak,am] 81] R) [(0,true),(1,true),(2,true),(3,true),(4,true),(5,true),(6,true),(7,true),(8,true),(9,true),(10,true),(11,true),(12,true),(13,true),(14,true),(15,true),(16,true),(17,true),(18,true),(19,true),(20,true),(21,true),(22,true),(23,true),(24,true),(25,true),(26,true),(27,true),(28,true),(29,true),(30,true)] mixed (by decide +kernel) rfl ?_;intro bh aj;replace H:=H.ext aj;clear aj
 refine ⟨(H.pk [0,1,2]),?_⟩
 refine d_q rfl (fun w' H=>x_mv (v:=I a) rfl) ?_;obtain ⟨bi,hM⟩:=M.e_gd hM;refine d_q rfl (fun w' H=>x_ari (r:=10000*a) rfl rfl rfl (by omega))<|d_q rfl (fun w' H=>x_mv (v:=I r3) rfl) ?_;obtain ⟨bj,hM⟩:=M.e_gd hM;refine d_q rfl (fun w' H=>x_ari (r:=(10000*a)*r3) rfl rfl rfl (by omega))<|d_q rfl (fun w' H=>x_fa (v:=Pq ac) rfl (fa_blk (o:=0) Fd99_0 Sz3))<|d_q rfl (fun w' H=>x_ld (v:=I c.up) rfl (ldb_sc Sc3 (H.bl 0) rfl))<|d_q rfl (fun w' H=>x_fa (v:=Oq ac 1) rfl (fa_blk (o:=0) Fd99_1 Sz3))<|d_q rfl (fun w' H=>x_ld (v:=I c.down) rfl (ldb_sc Sc3 (H.bl 0) rfl)) ?_;obtain ⟨bm,hM⟩:=M.e_gd hM;refine d_q rfl (fun w' H=>x_ari (r:=c.up-c.down) rfl rfl rfl (by omega)) ?_;obtain ⟨bn,hM⟩:=M.e_gd hM;refine d_q rfl (fun w' H=>x_ari (r:=((10000*a)*r3)*(c.up-c.down)) rfl rfl rfl (by omega))<|d_q rfl (fun w' H=>x_mv (v:=I p) rfl)<|d_q rfl (fun w' H=>x_mv (v:=I c.roughdown) rfl) ?_;obtain ⟨bo,hM⟩:=M.e_gd hM;refine d_q rfl (fun w' H=>x_ari (r:=p*c.roughdown) rfl rfl rfl (by omega))<|d_q rfl (fun w' H=>x_fa (v:=Pq ai) rfl (fa_blk (o:=0) Fd81_0 Sz77))<|d_q rfl (fun w' H=>x_ld (v:=ab) rfl (ldb_sc Sc77 (H.bl 2) rfl))<|d_q rfl (fun w' H=>x_fa (v:=Oq ag 1) rfl (fa_blk (o:=0) Fd151_1 Sz3))<|d_q rfl (fun w' H=>x_ld (v:=I r_.down) rfl (ldb_sc Sc3 (H.bl 1) rfl))<|d_q rfl (fun w' H=>x_ix (v:=vat ab 2 (Int.toNat r_.down)) rfl rfl (Sl.ix (α:=Sect) T77.und T77.size ae (by omega) (by omega)))<|d_q rfl (fun w' H=>x_fa (v:=fat (vat ab 2 (Int.toNat r_.down)) 0) rfl (fa_pl Fd148_0 Sz3 (Sl.pl (i:=r_.down) ae (by omega) (by omega))))<|d_q rfl (fun w' H=>x_ld (v:=I ((s_Sections.getD (Int.toNat r_.down) default).place)) rfl (ld_sc Sc3 (At.mono (Sect_at0 ae (i:=r_.down) (by omega) (by omega)) (aq.at H))))<|d_q rfl (fun w' H=>x_fa (v:=Pq ai) rfl (fa_blk (o:=0) Fd81_0 Sz77))<|d_q rfl (fun w' H=>x_ld (v:=ab) rfl (ldb_sc Sc77 (H.bl 2) rfl)) ?_;refine d_q rfl (fun w' H=>x_fa (v:=Pq ag) rfl (fa_blk (o:=0) Fd151_0 Sz3))<|d_q rfl (fun w' H=>x_ld (v:=I r_.up) rfl (ldb_sc Sc3 (H.bl 1) rfl))<|d_q rfl (fun w' H=>x_ix (v:=vat ab 2 (Int.toNat r_.up)) rfl rfl (Sl.ix (α:=Sect) T77.und T77.size ae (by omega) (by omega)))<|d_q rfl (fun w' H=>x_fa (v:=fat (vat ab 2 (Int.toNat r_.up)) 0) rfl (fa_pl Fd148_0 Sz3 (Sl.pl (i:=r_.up) ae (by omega) (by omega))))<|d_q rfl (fun w' H=>x_ld (v:=I ((s_Sections.getD (Int.toNat r_.up) default).place)) rfl (ld_sc Sc3 (At.mono (Sect_at0 ae (i:=r_.up) (by omega) (by omega)) (aq.at H)))) ?_;obtain ⟨bp,hM⟩:=M.e_gd hM;refine d_q rfl (fun w' H=>x_ari (r:=((s_Sections.getD (Int.toNat r_.down) default).place)-((s_Sections.getD (Int.toNat r_.up) default).place)) rfl rfl rfl (by omega)) ?_;obtain ⟨bq,hM⟩:=M.e_gd hM;refine d_q rfl (fun w' H=>x_ari (r:=(p*c.roughdown)*(((s_Sections.getD (Int.toNat r_.down) default).place)-((s_Sections.getD (Int.toNat r_.up) default).place))) rfl rfl rfl (by omega)) ?_;obtain ⟨br,hM⟩:=M.e_gd hM;refine d_q rfl (fun w' H=>x_quo (a:=((10000*a)*r3)*(c.up-c.down)) (b:=(p*c.roughdown)*(((s_Sections.getD (Int.toNat r_.down) default).place)-((s_Sections.getD (Int.toNat r_.up) default).place))) rfl rfl (by omega))<|d_q rfl (fun w' H=>x_as (v:=I ((((10000*a)*r3)*(c.up-c.down)) / ((p*c.roughdown)*(((s_Sections.getD (Int.toNat r_.down) default).place)-((s_Sections.getD (Int.toNat r_.up) default).place))))) rfl) ?_;refine d_nil ?_;replace H:=H.pk [];refine W.seq<|W.region rfl<|zA (I 0) rfl<|s_nil<|W.seq<|W.seq<|W.region rfl<|zA (I 1073741824) rfl<|s_nil<|W.block ?_;obtain ⟨aM,aA,aN⟩:=M.e_bind hM
 obtain ⟨bt,aA⟩:=M.e_iter aA
 refine W.loop (fun m σ W=>∃ (out:Int) (bit:Int) (ρ:Env),σ=upds ρ [(11,I ((((10000*a)*r3)*(c.up-c.down)) / ((p*c.roughdown)*(((s_Sections.getD (Int.toNat r_.down) default).place)-((s_Sections.getD (Int.toNat r_.up) default).place))))),(12,I out),(13,I bit)]/\M.iterN (zbI s_Sections r_ c r3 a p) m (out,bit)=some aM/\St w W [] R) ?_ ?_
 ·exact ⟨_,0,1073741824,_,upds_of _ _ ⟨rfl,rfl,rfl,trivial⟩,aA,H⟩
 rintro bu σ bv ⟨out,bit,ρ,rfl,aF,H⟩
 obtain ⟨aG,aH,bw,hM,aB⟩:=M.e_iterN aF
 simp only [zbI] at hM
 clear aF;refine W.seq<|W.seq<|W.region rfl<|zM (I bit) rfl<|zC bit 0 (decide (0<bit)) rfl rfl rfl<|s_nil ?_
 refine W.cond (decide (0<bit)) rfl (fun ao=>?_) (fun ao=>?_)
 ·replace hM:=M.e_t hM ao
  replace ao:=dI ao
  refine W.skip<|W.seq<|W.block<|W.seq<|W.region rfl<|zM (I out) rfl<|zM (I bit) rfl ?_;obtain ⟨bx,hM⟩:=M.e_gd hM;refine zR out bit (out+bit) rfl rfl rfl (by omega)<|zM (I out) rfl<|zM (I bit) rfl<|zR out bit (out+bit) rfl rfl rfl (by omega) ?_;obtain ⟨bz,hM⟩:=M.e_gd hM;refine zR (out+bit) (out+bit) ((out+bit)*(out+bit)) rfl rfl rfl (by omega)<|zM (I ((((10000*a)*r3)*(c.up-c.down)) / ((p*c.roughdown)*(((s_Sections.getD (Int.toNat r_.down) default).place)-((s_Sections.getD (Int.toNat r_.up) default).place))))) rfl<|zC ((out+bit)*(out+bit)) ((((10000*a)*r3)*(c.up-c.down)) / ((p*c.roughdown)*(((s_Sections.getD (Int.toNat r_.down) default).place)-((s_Sections.getD (Int.toNat r_.up) default).place)))) (decide (((out+bit)*(out+bit))<=((((10000*a)*r3)*(c.up-c.down)) / ((p*c.roughdown)*(((s_Sections.getD (Int.toNat r_.down) default).place)-((s_Sections.getD (Int.toNat r_.up) default).place)))))) rfl rfl rfl<|s_nil ?_
  refine W.cond (decide (((out+bit)*(out+bit))<=((((10000*a)*r3)*(c.up-c.down)) / ((p*c.roughdown)*(((s_Sections.getD (Int.toNat r_.down) default).place)-((s_Sections.getD (Int.toNat r_.up) default).place)))))) rfl (fun ap=>?_) (fun ap=>?_)
  ·replace hM:=M.e_t hM ap
   replace ap:=dI ap
   refine W.region rfl<|zM (I out) rfl<|zM (I bit) rfl<|zR out bit (out+bit) rfl rfl rfl (by omega)<|zA (I (out+bit)) rfl<|s_nil<|W.region rfl<|zM (I bit) rfl ?_;obtain ⟨bA,hM⟩:=M.e_gd hM;refine s_val (x_quo (a:=bit) (b:=2) rfl rfl (by omega))<|zA (I (bit / 2)) rfl<|s_nil ?_
   exact ⟨aG,aH,out+bit,bit / 2,_,upds_of _ _ ⟨rfl,rfl,rfl,trivial⟩,M.e_inl hM aB,H⟩
  replace hM:=M.e_f hM ap
  replace ap:=dI ap
  refine W.skip<|W.region rfl<|zM (I bit) rfl ?_;obtain ⟨bB,hM⟩:=M.e_gd hM;refine s_val (x_quo (a:=bit) (b:=2) rfl rfl (by omega))<|zA (I (bit / 2)) rfl<|s_nil ?_
  exact ⟨aG,aH,out,bit / 2,_,upds_of _ _ ⟨rfl,rfl,rfl,trivial⟩,M.e_inl hM aB,H⟩
 replace hM:=M.e_f hM ao
 replace ao:=dI ao
 refine W.exit ?_
 have aO:=M.e_inr hM aB
 subst aO;replace hM:=aN;(try dsimp only at hM);refine W.seq<|W.region rfl<|zM (I out) rfl<|zA (I out) rfl<|s_nil ?_;refine W.ret ?_
 have aP:=M.e_pure hM
 exact ⟨_,resE_tmp rfl,⟨out,aP,rfl,H⟩⟩

def zbX (s_Sections:List Sect) (s_Marks:List Mrk) (s_Reaches:List Rch) (reach:Int) (c:Cas):M (Int × Int) :=
  M.bind (za6 s_Sections s_Marks s_Reaches) fun r2 =>
  bif r2 != 0 then (
  M.pure (0,r2))
  else (
  M.bind (zad reach 0 ((s_Reaches.length:Int)-1)) fun r3 =>
  bif r3 then (
  M.pure (0,2))
  else (
  M.grd (decide ((0:Int)<=reach)&&decide (reach<(s_Reaches.length:Int))) <|
  M.bind (zbP (s_Reaches.getD (Int.toNat reach) default) c) fun r4 =>
  bif r4 then (
  M.pure (0,4))
  else (
  M.bind (zas s_Sections s_Marks s_Reaches (s_Reaches.getD (Int.toNat reach) default) c) fun r5 =>
  M.pure (r5,0))))
theorem zdg {R:List Chunk} {av:Cells} {ac:Value} {aw:Cells} {ae:Value} {ax:Cells} {ab:Value} (s_Sections:List Sect) (s_Marks:List Mrk) (s_Reaches:List Rch) (reach:Int) (c:Cas) (ay:Reads R av) (az:Sl av ac s_Sections) (aA:Reads R aw) (aB:Sl aw ae s_Marks) (ap:Reads R ax) (ai:Sl ax ab s_Reaches) {r:(Int × Int)} (hM:(zbX s_Sections s_Marks s_Reaches reach c).Ends r) (w:World) (H:St w w [] R):Ret Tryz.prog 40 #[.agg #[ac,ae,ab],I reach,.agg #[I c.up,I c.down,I c.roughup,I c.roughdown]] w fun v w'=>∃ (y0:Int) (y1:Int),(y0,y1)=r/\v = .tuple #[I y0,I y1]/\St w w' [] R:=by
 refine ret_of_W Tryz.func40 rfl rfl rfl<|W.seq<|W.region rfl ?_;refine t_bx [ac,ae,ab] H rfl ?_;intro am aH H;refine t_bx [I c.up,I c.down,I c.roughup,I c.roughdown] H rfl ?_;intro aC aI H;refine zA (I 0) rfl<|zA (I 0) rfl<|s_nil<|W.seq<|W.seq<|W.region rfl<|s_val (x_ld (v:=.agg #[ac,ae,ab]) rfl (ldb_ag (ds:=[ac,ae,ab]) Ag81 Sz81 (H.bl 1) rfl rfl)) ?_;obtain ⟨aJ,aD,hM⟩:=M.e_bind hM;refine s_call cf27 [.agg #[ac,ae,ab]] rfl (zdt s_Sections s_Marks s_Reaches (ay.app _) az (aA.app _) aB (ap.app _) ai aD _ (H.gt 2)) ?_
 rintro vq aK ⟨r2,rfl,hvq,ag⟩
 subst vq;(try dsimp only at hM);replace H:=H.bk ag;clear ag;refine zA (I r2) rfl<|s_nil<|W.seq<|W.region rfl<|zM (I r2) rfl<|zC r2 0 (r2 != 0) rfl rfl rfl<|s_nil ?_
 refine W.cond (r2 != 0) rfl (fun aj=>?_) (fun aj=>?_)
 ·replace hM:=M.e_t hM aj
  replace aj:=dI aj
  refine W.seq<|W.region rfl<|zM (I r2) rfl<|zA (I 0) rfl<|zA (I r2) rfl<|s_nil ?_;replace H:=H.pk [];refine W.ret ?_
  have ak:=M.e_pure hM
  exact ⟨_,resE_tmp2 rfl,⟨0,r2,ak,rfl,H⟩⟩
 replace hM:=M.e_f hM aj
 replace aj:=dI aj
 refine W.skip<|W.seq<|W.seq<|W.region rfl<|zM (I reach) rfl<|s_val (x_fa (v:=Oq am 2) rfl (fa_blk (o:=0) Fd81_2 Sz79))<|s_val (x_ld (v:=ab) rfl (ldb_sc Sc79 (H.bl 1) rfl)) ?_
 have aL:=(ai).len_le
 refine s_val (x_lenS T79.und rfl ai)<|zR (s_Reaches.length:Int) 1 ((s_Reaches.length:Int)-1) rfl rfl rfl (by omega) ?_;obtain ⟨aM,aE,hM⟩:=M.e_bind hM;refine s_call cf82 [I reach,I 0,I ((s_Reaches.length:Int)-1)] rfl (zae reach 0 ((s_Reaches.length:Int)-1) aE _ (H.gt 2)) ?_
 rintro vq aN ⟨r3,rfl,hvq,ag⟩
 subst vq;(try dsimp only at hM);replace H:=H.bk ag;clear ag;refine s_nil ?_
 refine W.cond r3 rfl (fun aq=>?_) (fun aq=>?_)
 ·replace hM:=M.e_t hM aq;refine W.seq<|W.region rfl<|zA (I 0) rfl<|zA (I 2) rfl<|s_nil ?_;replace H:=H.pk [];refine W.ret ?_
  have ak:=M.e_pure hM
  exact ⟨_,resE_tmp2 rfl,⟨0,2,ak,rfl,H⟩⟩
 replace hM:=M.e_f hM aq;refine W.skip<|W.seq<|W.seq ?_;refine W.draw (fun W=>St w W [cBlk aC [I c.up,I c.down,I c.roughup,I c.roughdown] 99,cBlk am [ac,ae,ab] 81] R) [(0,true),(1,true),(2,true),(3,true),(4,true),(5,true),(6,false)] mixed (by decide +kernel) rfl ?_;intro aO ao;replace H:=H.ext ao;clear ao
 refine ⟨(H.pk [0,1]),?_⟩
 refine d_q rfl (fun w' H=>x_fa (v:=Oq am 2) rfl (fa_blk (o:=0) Fd81_2 Sz79))<|d_q rfl (fun w' H=>x_ld (v:=ab) rfl (ldb_sc Sc79 (H.bl 1) rfl))<|d_q rfl (fun w' H=>x_mv (v:=I reach) rfl) ?_;obtain ⟨aP,hM⟩:=M.e_gd hM;refine d_q rfl (fun w' H=>x_ix (v:=vat ab 5 (Int.toNat reach)) rfl rfl (Sl.ix (α:=Rch) T79.und T79.size ai (by omega) (by omega)))<|d_q rfl (fun w' H=>x_ld (v:=.agg #[I ((s_Reaches.getD (Int.toNat reach) default).up),I ((s_Reaches.getD (Int.toNat reach) default).down),I ((s_Reaches.getD (Int.toNat reach) default).lo),I ((s_Reaches.getD (Int.toNat reach) default).hi),B ((s_Reaches.getD (Int.toNat reach) default).narrow)]) rfl (ld_ag Ag151 Sz151 (At.mono (Rch_atA ai (i:=reach) (by omega) (by omega)) (ap.at H))))<|d_q rfl (fun w' H=>x_ld (v:=.agg #[I c.up,I c.down,I c.roughup,I c.roughdown]) rfl (ldb_ag (ds:=[I c.up,I c.down,I c.roughup,I c.roughdown]) Ag99 Sz99 (H.bl 0) rfl rfl))<|d_l rfl ?_;obtain ⟨aQ,aF,hM⟩:=M.e_bind hM;refine s_call cf91 [.agg #[I ((s_Reaches.getD (Int.toNat reach) default).up),I ((s_Reaches.getD (Int.toNat reach) default).down),I ((s_Reaches.getD (Int.toNat reach) default).lo),I ((s_Reaches.getD (Int.toNat reach) default).hi),B ((s_Reaches.getD (Int.toNat reach) default).narrow)],.agg #[I c.up,I c.down,I c.roughup,I c.roughdown]] rfl (zdk (s_Reaches.getD (Int.toNat reach) default) c aF _ (H.gt 2)) ?_
 rintro vq aR ⟨r4,rfl,hvq,ag⟩
 subst vq;(try dsimp only at hM);replace H:=H.bk ag;clear ag
 refine s_nil ⟨(H.pk [0,1]),?_⟩
 refine d_nil ?_
 refine W.cond r4 rfl (fun au=>?_) (fun au=>?_)
 ·replace hM:=M.e_t hM au;refine W.seq<|W.region rfl<|zA (I 0) rfl<|zA (I 4) rfl<|s_nil ?_;replace H:=H.pk [];refine W.ret ?_
  have ak:=M.e_pure hM
  exact ⟨_,resE_tmp2 rfl,⟨0,4,ak,rfl,H⟩⟩
 replace hM:=M.e_f hM au;refine W.skip<|W.seq ?_;refine W.draw (fun W=>St w W [cBlk aC [I c.up,I c.down,I c.roughup,I c.roughdown] 99,cBlk am [ac,ae,ab] 81] R) [(0,true),(1,true),(2,true),(3,true),(4,true),(5,true),(6,true),(7,false),(8,true),(9,true)] mixed (by decide +kernel) rfl ?_;intro aS ao;replace H:=H.ext ao;clear ao
 refine ⟨(H.pk [0,1]),?_⟩
 refine d_q rfl (fun w' H=>x_ld (v:=.agg #[ac,ae,ab]) rfl (ldb_ag (ds:=[ac,ae,ab]) Ag81 Sz81 (H.bl 1) rfl rfl))<|d_q rfl (fun w' H=>x_fa (v:=Oq am 2) rfl (fa_blk (o:=0) Fd81_2 Sz79))<|d_q rfl (fun w' H=>x_ld (v:=ab) rfl (ldb_sc Sc79 (H.bl 1) rfl))<|d_q rfl (fun w' H=>x_mv (v:=I reach) rfl)<|d_q rfl (fun w' H=>x_ix (v:=vat ab 5 (Int.toNat reach)) rfl rfl (Sl.ix (α:=Rch) T79.und T79.size ai (by omega) (by omega)))<|d_q rfl (fun w' H=>x_ld (v:=.agg #[I ((s_Reaches.getD (Int.toNat reach) default).up),I ((s_Reaches.getD (Int.toNat reach) default).down),I ((s_Reaches.getD (Int.toNat reach) default).lo),I ((s_Reaches.getD (Int.toNat reach) default).hi),B ((s_Reaches.getD (Int.toNat reach) default).narrow)]) rfl (ld_ag Ag151 Sz151 (At.mono (Rch_atA ai (i:=reach) (by omega) (by omega)) (ap.at H))))<|d_q rfl (fun w' H=>x_ld (v:=.agg #[I c.up,I c.down,I c.roughup,I c.roughdown]) rfl (ldb_ag (ds:=[I c.up,I c.down,I c.roughup,I c.roughdown]) Ag99 Sz99 (H.bl 0) rfl rfl))<|d_l rfl ?_;obtain ⟨aT,aG,hM⟩:=M.e_bind hM;refine s_call cf92 [.agg #[ac,ae,ab],.agg #[I ((s_Reaches.getD (Int.toNat reach) default).up),I ((s_Reaches.getD (Int.toNat reach) default).down),I ((s_Reaches.getD (Int.toNat reach) default).lo),I ((s_Reaches.getD (Int.toNat reach) default).hi),B ((s_Reaches.getD (Int.toNat reach) default).narrow)],.agg #[I c.up,I c.down,I c.roughup,I c.roughdown]] rfl (zcH s_Sections s_Marks s_Reaches (s_Reaches.getD (Int.toNat reach) default) c (ay.app _) az (aA.app _) aB (ap.app _) ai aG _ (H.gt 2)) ?_
 rintro vq aU ⟨r5,rfl,hvq,ag⟩
 subst vq;(try dsimp only at hM);replace H:=H.bk ag;clear ag
 refine s_nil ⟨(H.pk [0,1]),?_⟩
 refine d_q rfl (fun w' H=>x_as (v:=I r5) rfl)<|d_q rfl (fun w' H=>x_as (v:=I 0) rfl) ?_;refine d_nil ?_;replace H:=H.pk [];refine W.ret ?_
 have ak:=M.e_pure hM
 exact ⟨_,resE_tmp2 rfl,⟨r5,0,ak,rfl,H⟩⟩

def zb3 (ab:List Span):Nat->M (Nat ⊕ (Unit ⊕ Unit)):=fun i =>
  bif decide ((i:Int)<(ab.length:Int)) then (
  M.grd (decide ((i:Int)<(ab.length:Int))) <|
  M.grd (decide ((-9223372036854775808:Int)<=(((ab.getD i default).hi)-((ab.getD i default).lo)))&&decide ((((ab.getD i default).hi)-((ab.getD i default).lo))<=(9223372036854775807:Int))) <|
  bif decide (60<(((ab.getD i default).hi)-((ab.getD i default).lo))) then (
  M.pure (.inr (.inl ())))
  else (
  M.pure (.inl (i+1))))
  else (
  M.pure (.inr (.inr ())))
def zcD (s_Sections:List Sect) (s_Marks:List Mrk) (s_Reaches:List Rch) (marks:List Int):M Bool :=
  M.bind (zbD s_Sections s_Marks s_Reaches) fun (r0,r1,r2) =>
  M.bind (zbY r0 r1 r2 marks) fun (ab,ac) =>
  bif ac != 0 then (
  M.pure false)
  else (
  M.bind (M.iter (zb3 ab) 0) fun x_=>match x_ with
  | (.inl (_:Unit))=>(
  M.pure true)
  | (.inr (_:Unit))=>(
  M.pure false))
theorem zd4 {R:List Chunk} {ax:Cells} {ak:Value} {ay:Cells} {am:Value} {az:Cells} {ao:Value} {aA:Cells} {au:Value} (s_Sections:List Sect) (s_Marks:List Mrk) (s_Reaches:List Rch) (marks:List Int) (aE:Reads R ax) (aF:Sl ax ak s_Sections) (aG:Reads R ay) (aH:Sl ay am s_Marks) (aI:Reads R az) (aJ:Sl az ao s_Reaches) (aK:Reads R aA) (aL:Sl aA au marks) {r:Bool} (hM:(zcD s_Sections s_Marks s_Reaches marks).Ends r) (w:World) (H:St w w [] R):Ret Tryz.prog 41 #[.agg #[ak,am,ao],au] w fun v w'=>∃ (y0:Bool),y0=r/\v=B y0/\St w w' [] R:=by
 refine ret_of_W Tryz.func41 rfl rfl rfl<|W.seq<|W.region rfl ?_;refine t_bx [ak,am,ao] H rfl ?_;intro aX aY H;refine zA (B false) rfl<|s_nil<|W.seq<|W.region rfl<|s_val (x_ld (v:=.agg #[ak,am,ao]) rfl (ldb_ag (ds:=[ak,am,ao]) Ag27 Sz27 (H.bl 0) rfl rfl)) ?_;obtain ⟨aZ,aM,hM⟩:=M.e_bind hM;refine s_call cf25 [.agg #[ak,am,ao]] rfl (zdF s_Sections s_Marks s_Reaches (aE.app _) aF (aG.app _) aH (aI.app _) aJ aM _ (H.gt 1)) ?_
 rintro vq a6 ⟨r0,r1,r2,aN,a7,a8,aO,aP,rfl,hvq,ap,aQ⟩
 subst vq;(try dsimp only at hM);replace H:=H.bk ap;clear ap;refine zM au rfl ?_;obtain ⟨ba,aR,hM⟩:=M.e_bind hM;refine s_call cf38 [.agg #[aN,aO,aP],au] rfl (zde r0 r1 r2 marks (Reads.sup (rdo 0) (Reads.of (k:=1) rfl roLe)) (rowSl rfl (H.get (k:=0) rfl) (roLe _ (H.get (k:=1) rfl)) aQ) (rdo 2) (H.os 2) (rdo 3) (H.os 3) (aK.app _) aL aR _ (H.gt 5)) ?_
 rintro vq bb ⟨ac,ae,ab,rfl,hvq,ap⟩
 subst vq;(try dsimp only at hM);replace H:=H.bk ap;clear ap;refine zM (.tuple #[ab,I ae]) rfl<|zX [ab,I ae] ab rfl rfl<|zX [ab,I ae] (I ae) rfl rfl<|zA ab rfl<|zA (I ae) rfl<|s_nil ?_;replace H:=H.pk [0];refine W.seq<|W.seq<|W.region rfl<|zM (I ae) rfl<|zC ae 0 (ae != 0) rfl rfl rfl<|s_nil ?_
 refine W.cond (ae != 0) rfl (fun ag=>?_) (fun ag=>?_)
 ·replace hM:=M.e_t hM ag
  replace ag:=dI ag
  refine W.seq<|W.region rfl<|zA (B false) rfl<|s_nil ?_;refine W.ret ?_
  have aq:=M.e_pure hM
  exact ⟨_,resE_tmp rfl,⟨false,aq,rfl,(H.pk [])⟩⟩
 replace hM:=M.e_f hM ag
 replace ag:=dI ag
 refine W.skip<|W.seq<|W.seq<|W.region rfl<|zA (I 0) rfl<|s_nil<|W.block ?_;obtain ⟨aS,av,aB⟩:=M.e_bind hM
 obtain ⟨bc,av⟩:=M.e_iter av
 refine W.loop (fun m σ W=>∃ (i:Nat) (ρ:Env),σ=upds ρ [(5,ab),(7,I (i:Int))]/\M.iterN (zb3 ac) m i=some aS/\St w W [cOwn (α:=Span) 54 ab ac] R) ?_ ?_
 ·exact ⟨_,0,_,upds_of _ _ ⟨rfl,rfl,trivial⟩,av,H⟩
 rintro bf σ bg ⟨i,ρ,rfl,aC,H⟩
 obtain ⟨aT,aU,bh,hM,aw⟩:=M.e_iterN aC
 simp only [zb3] at hM
 clear aC;refine W.seq<|W.seq<|W.region rfl<|zM (I (i:Int)) rfl<|zM ab rfl ?_
 have bi:=((H.os 0)).len_le
 refine s_val (x_lenS T43.und rfl (H.os 0))<|zC (i:Int) (ac.length:Int) (decide ((i:Int)<(ac.length:Int))) rfl rfl rfl<|s_nil ?_
 refine W.cond (decide ((i:Int)<(ac.length:Int))) rfl (fun ai=>?_) (fun ai=>?_)
 ·replace hM:=M.e_t hM ai
  replace ai:=dI ai
  refine W.skip<|W.seq<|W.block<|W.seq ?_;refine W.draw (fun W=>St w W [cOwn (α:=Span) 54 ab ac] R) [(0,true),(1,true),(2,true),(3,true),(4,true),(5,true),(6,true),(7,true),(8,true),(9,true),(10,true),(11,true)] mixed (by decide +kernel) rfl ?_;intro bj aD;replace H:=H.ext aD;clear aD
  refine ⟨(H.pk [0]),?_⟩
  refine d_q rfl (fun w' H=>x_mv (v:=ab) rfl)<|d_q rfl (fun w' H=>x_mv (v:=I (i:Int)) rfl) ?_;obtain ⟨bm,hM⟩:=M.e_gd hM;refine d_q rfl (fun w' H=>x_ix (v:=vat ab 2 (Int.toNat (i:Int))) rfl rfl (Sl.ix (α:=Span) T43.und T43.size (H.os 0) (by omega) (by omega)))<|d_q rfl (fun w' H=>x_fa (v:=fat (vat ab 2 (Int.toNat (i:Int))) 1) rfl (fa_pl Fd54_1 Sz3 (Sl.pl (i:=(i:Int)) (H.os 0) (by omega) (by omega))))<|d_q rfl (fun w' H=>x_ld (v:=I ((ac.getD i default).hi)) rfl (ld_sc Sc3 (At.mono (Span_at1 (H.os 0) (i:=(i:Int)) (by omega) (by omega)) (H.ol 0))))<|d_q rfl (fun w' H=>x_mv (v:=ab) rfl)<|d_q rfl (fun w' H=>x_mv (v:=I (i:Int)) rfl)<|d_q rfl (fun w' H=>x_ix (v:=vat ab 2 (Int.toNat (i:Int))) rfl rfl (Sl.ix (α:=Span) T43.und T43.size (H.os 0) (by omega) (by omega)))<|d_q rfl (fun w' H=>x_fa (v:=fat (vat ab 2 (Int.toNat (i:Int))) 0) rfl (fa_pl Fd54_0 Sz3 (Sl.pl (i:=(i:Int)) (H.os 0) (by omega) (by omega))))<|d_q rfl (fun w' H=>x_ld (v:=I ((ac.getD i default).lo)) rfl (ld_sc Sc3 (At.mono (Span_at0 (H.os 0) (i:=(i:Int)) (by omega) (by omega)) (H.ol 0)))) ?_;obtain ⟨bn,hM⟩:=M.e_gd hM;refine d_q rfl (fun w' H=>x_ari (r:=((ac.getD i default).hi)-((ac.getD i default).lo)) rfl rfl rfl (by omega))<|d_q rfl (fun w' H=>x_cmp (kd:=.i64) (r:=decide (60<(((ac.getD i default).hi)-((ac.getD i default).lo)))) rfl rfl rfl) ?_;refine d_nil ?_
  refine W.cond (decide (60<(((ac.getD i default).hi)-((ac.getD i default).lo)))) rfl (fun aj=>?_) (fun aj=>?_)
  ·replace hM:=M.e_t hM aj
   replace aj:=dI aj
   refine W.seq<|W.region rfl<|zA (B true) rfl<|s_nil ?_;refine W.ret ?_
   have aV:=M.e_inr hM aw
   subst aV;replace hM:=aB;(try dsimp only at hM)
   have aq:=M.e_pure hM
   exact ⟨_,resE_tmp rfl,⟨true,aq,rfl,(H.pk [])⟩⟩
  replace hM:=M.e_f hM aj
  replace aj:=dI aj
  refine W.skip<|W.region rfl<|zM (I (i:Int)) rfl<|zR (i:Int) 1 ((i:Int)+1) rfl rfl rfl (by omega)<|zA (I ((i:Int)+1)) rfl<|s_nil ?_
  exact ⟨aT,aU,i+1,_,upds_of _ _ ⟨rfl,rfl,trivial⟩,M.e_inl hM aw,H⟩
 replace hM:=M.e_f hM ai
 replace ai:=dI ai
 refine W.exit ?_
 have aW:=M.e_inr hM aw
 subst aW;replace hM:=aB;(try dsimp only at hM);refine W.seq<|W.region rfl<|zA (B false) rfl<|s_nil ?_;refine W.ret ?_
 have aq:=M.e_pure hM
 exact ⟨_,resE_tmp rfl,⟨false,aq,rfl,(H.pk [])⟩⟩

def zaY (s_Sections:List Sect) (s_Marks:List Mrk) (s_Reaches:List Rch) (marks:List Int) (reach:Int):M Int :=
  M.bind (zbV s_Sections s_Marks s_Reaches marks) fun r2 =>
  bif r2 != 0 then (
  M.pure r2)
  else (
  M.bind (zad reach 0 ((s_Reaches.length:Int)-1)) fun r3 =>
  bif r3 then (
  M.pure 2)
  else (
  M.bind (zbn s_Sections s_Marks s_Reaches marks) fun r4 =>
  bif !r4 then (
  M.pure 7)
  else (
  M.pure 0)))
theorem zc4 {R:List Chunk} {aq:Cells} {ac:Value} {au:Cells} {ae:Value} {av:Cells} {ab:Value} {aw:Cells} {ak:Value} (s_Sections:List Sect) (s_Marks:List Mrk) (s_Reaches:List Rch) (marks:List Int) (reach:Int) (ax:Reads R aq) (ay:Sl aq ac s_Sections) (az:Reads R au) (aA:Sl au ae s_Marks) (aB:Reads R av) (am:Sl av ab s_Reaches) (aC:Reads R aw) (aD:Sl aw ak marks) {r:Int} (hM:(zaY s_Sections s_Marks s_Reaches marks reach).Ends r) (w:World) (H:St w w [] R):Ret Tryz.prog 93 #[.agg #[ac,ae,ab],ak,I reach] w fun v w'=>∃ (y0:Int),y0=r/\v=I y0/\St w w' [] R:=by
 refine ret_of_W Tryz.func93 rfl rfl rfl<|W.seq<|W.region rfl ?_;refine t_bx [ac,ae,ab] H rfl ?_;intro aE aI H;refine zA (I 0) rfl<|s_nil<|W.seq<|W.seq<|W.region rfl<|s_val (x_ld (v:=.agg #[ac,ae,ab]) rfl (ldb_ag (ds:=[ac,ae,ab]) Ag81 Sz81 (H.bl 0) rfl rfl))<|zM ak rfl ?_;obtain ⟨aJ,aF,hM⟩:=M.e_bind hM;refine s_call cf89 [.agg #[ac,ae,ab],ak] rfl (zdz s_Sections s_Marks s_Reaches marks (ax.app _) ay (az.app _) aA (aB.app _) am (aC.app _) aD aF _ (H.gt 1)) ?_
 rintro vq aK ⟨r2,rfl,hvq,ag⟩
 subst vq;(try dsimp only at hM);replace H:=H.bk ag;clear ag;refine zA (I r2) rfl<|s_nil<|W.seq<|W.region rfl<|zM (I r2) rfl<|zC r2 0 (r2 != 0) rfl rfl rfl<|s_nil ?_
 refine W.cond (r2 != 0) rfl (fun ai=>?_) (fun ai=>?_)
 ·replace hM:=M.e_t hM ai
  replace ai:=dI ai
  refine W.seq<|W.region rfl<|zM (I r2) rfl<|zA (I r2) rfl<|s_nil ?_;refine W.ret ?_
  have aj:=M.e_pure hM
  exact ⟨_,resE_tmp rfl,⟨r2,aj,rfl,(H.pk [])⟩⟩
 replace hM:=M.e_f hM ai
 replace ai:=dI ai
 refine W.skip<|W.seq<|W.seq<|W.region rfl<|zM (I reach) rfl<|s_val (x_fa (v:=Oq aE 2) rfl (fa_blk (o:=0) Fd81_2 Sz79))<|s_val (x_ld (v:=ab) rfl (ldb_sc Sc79 (H.bl 0) rfl)) ?_
 have aL:=(am).len_le
 refine s_val (x_lenS T79.und rfl am)<|zR (s_Reaches.length:Int) 1 ((s_Reaches.length:Int)-1) rfl rfl rfl (by omega) ?_;obtain ⟨aM,aG,hM⟩:=M.e_bind hM;refine s_call cf82 [I reach,I 0,I ((s_Reaches.length:Int)-1)] rfl (zae reach 0 ((s_Reaches.length:Int)-1) aG _ (H.gt 1)) ?_
 rintro vq aN ⟨r3,rfl,hvq,ag⟩
 subst vq;(try dsimp only at hM);replace H:=H.bk ag;clear ag;refine s_nil ?_
 refine W.cond r3 rfl (fun ao=>?_) (fun ao=>?_)
 ·replace hM:=M.e_t hM ao;refine W.seq<|W.region rfl<|zA (I 2) rfl<|s_nil ?_;refine W.ret ?_
  have aj:=M.e_pure hM
  exact ⟨_,resE_tmp rfl,⟨2,aj,rfl,(H.pk [])⟩⟩
 replace hM:=M.e_f hM ao;refine W.skip<|W.seq<|W.seq<|W.region rfl<|s_val (x_ld (v:=.agg #[ac,ae,ab]) rfl (ldb_ag (ds:=[ac,ae,ab]) Ag81 Sz81 (H.bl 0) rfl rfl))<|zM ak rfl ?_;obtain ⟨aO,aH,hM⟩:=M.e_bind hM;refine s_call cf34 [.agg #[ac,ae,ab],ak] rfl (zdD s_Sections s_Marks s_Reaches marks (ax.app _) ay (az.app _) aA (aB.app _) am (aC.app _) aD aH _ (H.gt 1)) ?_
 rintro vq aP ⟨r4,rfl,hvq,ag⟩
 subst vq;(try dsimp only at hM);replace H:=H.bk ag;clear ag;refine s_val (x_not (b:=r4) rfl)<|s_nil ?_
 refine W.cond (!r4) rfl (fun ap=>?_) (fun ap=>?_)
 ·replace hM:=M.e_t hM ap;refine W.seq<|W.region rfl<|zA (I 7) rfl<|s_nil ?_;refine W.ret ?_
  have aj:=M.e_pure hM
  exact ⟨_,resE_tmp rfl,⟨7,aj,rfl,(H.pk [])⟩⟩
 replace hM:=M.e_f hM ap;refine W.skip<|W.seq<|W.region rfl<|zA (I 0) rfl<|s_nil ?_;refine W.ret ?_
 have aj:=M.e_pure hM
 exact ⟨_,resE_tmp rfl,⟨0,aj,rfl,(H.pk [])⟩⟩

def zbT (s_Sections:List Sect) (s_Marks:List Mrk) (s_Reaches:List Rch) (r_:Rch) (r2 r3:List Int) (i:Nat):(Int × Int × Nat)->M ((Int × Int × Nat) ⊕ (Int × Int)):=fun (s3,s4,k) =>
  M.grd ((!(decide ((k:Int)<(r3.length:Int)))||(decide ((k:Int)<(r3.length:Int))))) <|
  M.grd ((!(decide ((k:Int)<(r3.length:Int)))||(decide ((i:Int)<(r2.length:Int))))) <|
  bif ((decide ((k:Int)<(r3.length:Int)))&&(decide ((r3.getD k 0)<=(r2.getD i 0)))) then (
  M.grd (decide ((i:Int)<(r2.length:Int))) <|
  M.grd (decide ((k:Int)<(r3.length:Int))) <|
  M.bind (zas s_Sections s_Marks s_Reaches r_ (⟨(r2.getD i 0:Int),(r3.getD k 0:Int),(r_.hi:Int),(r_.hi:Int)⟩:Cas)) fun r4 =>
  M.bind (zas s_Sections s_Marks s_Reaches r_ (⟨(r2.getD i 0:Int),(r3.getD k 0:Int),(r_.lo:Int),(r_.lo:Int)⟩:Cas)) fun r5 =>
  bif ((decide (s3<0))||(decide (r4<s3))) then (
  bif decide (s4<r5) then (
  M.pure (.inl (r4,r5,k+1)))
  else (
  M.pure (.inl (r4,s4,k+1))))
  else (
  bif decide (s4<r5) then (
  M.pure (.inl (s3,r5,k+1)))
  else (
  M.pure (.inl (s3,s4,k+1)))))
  else (
  M.pure (.inr (s3,s4)))
def zbZ (s_Sections:List Sect) (s_Marks:List Mrk) (s_Reaches:List Rch) (r_:Rch) (r2 r3:List Int):(Int × Int × Nat)->M ((Int × Int × Nat) ⊕ (Int × Int)):=fun (s7,s8,i) =>
  bif decide ((i:Int)<(r2.length:Int)) then (
  M.bind (M.iter (zbT s_Sections s_Marks s_Reaches r_ r2 r3 i) (s7,s8,0)) fun (s5,s6) =>
  M.pure (.inl (s5,s6,i+1)))
  else (
  M.pure (.inr (s7,s8)))
def za1 (s_Sections:List Sect) (s_Marks:List Mrk) (s_Reaches:List Rch) (marks:List Int) (r_:Rch):M (Int × Int) :=
  M.bind (zaQ s_Sections s_Marks s_Reaches marks r_.up) fun r2 =>
  M.bind (zaQ s_Sections s_Marks s_Reaches marks r_.down) fun r3 =>
  M.bind (M.iter (zbZ s_Sections s_Marks s_Reaches r_ r2 r3) (-1,0,0)) fun (s9,ab) =>
  M.pure (s9,ab)
theorem zcg {R:List Chunk} {aP:Cells} {ae:Value} {aQ:Cells} {ag:Value} {aR:Cells} {ai:Value} {aS:Cells} {aB:Value} (s_Sections:List Sect) (s_Marks:List Mrk) (s_Reaches:List Rch) (marks:List Int) (r_:Rch) (aD:Reads R aP) (aE:Sl aP ae s_Sections) (aF:Reads R aQ) (aG:Sl aQ ag s_Marks) (aH:Reads R aR) (aI:Sl aR ai s_Reaches) (aT:Reads R aS) (aU:Sl aS aB marks) {r:(Int × Int)} (hM:(za1 s_Sections s_Marks s_Reaches marks r_).Ends r) (w:World) (H:St w w [] R):Ret Tryz.prog 94 #[.agg #[ae,ag,ai],aB,.agg #[I r_.up,I r_.down,I r_.lo,I r_.hi,B r_.narrow]] w fun v w'=>∃ (y0:Int) (y1:Int),(y0,y1)=r/\v = .agg #[I y0,I y1]/\St w w' [] R:=by
 refine ret_of_W Tryz.func94 rfl rfl rfl<|W.seq<|W.region rfl ?_;refine t_bx [ae,ag,ai] H rfl ?_;intro av bo H;refine t_bx [I r_.up,I r_.down,I r_.lo,I r_.hi,B r_.narrow] H rfl ?_;intro aj bp H;refine t_alloc (cs:=[I 0,I 0]) H Al54 rfl ?_;intro aw bq H;refine s_nil<|W.seq ?_;refine W.draw (fun W=>St w W [cBlk aw [I 0,I 0] 54,cBlk aj [I r_.up,I r_.down,I r_.lo,I r_.hi,B r_.narrow] 151,cBlk av [ae,ag,ai] 81] R) [(0,true),(1,true),(2,true),(3,true),(5,true),(6,true),(7,true),(8,true),(4,false),(9,false),(10,true),(11,true)] mixed (by decide +kernel) rfl ?_;intro br ac;replace H:=H.ext ac;clear ac
 refine ⟨(H.pk [0,1,2]),?_⟩
 refine d_q rfl (fun w' H=>x_ld (v:=.agg #[ae,ag,ai]) rfl (ldb_ag (ds:=[ae,ag,ai]) Ag81 Sz81 (H.bl 2) rfl rfl))<|d_q rfl (fun w' H=>x_mv (v:=aB) rfl)<|d_q rfl (fun w' H=>x_fa (v:=Pq aj) rfl (fa_blk (o:=0) Fd151_0 Sz3))<|d_q rfl (fun w' H=>x_ld (v:=I r_.up) rfl (ldb_sc Sc3 (H.bl 1) rfl))<|d_q rfl (fun w' H=>x_ld (v:=.agg #[ae,ag,ai]) rfl (ldb_ag (ds:=[ae,ag,ai]) Ag81 Sz81 (H.bl 2) rfl rfl))<|d_q rfl (fun w' H=>x_mv (v:=aB) rfl)<|d_q rfl (fun w' H=>x_fa (v:=Oq aj 1) rfl (fa_blk (o:=0) Fd151_1 Sz3))<|d_q rfl (fun w' H=>x_ld (v:=I r_.down) rfl (ldb_sc Sc3 (H.bl 1) rfl))<|d_l rfl ?_;obtain ⟨bt,aY,hM⟩:=M.e_bind hM;refine s_call cf90 [.agg #[ae,ag,ai],aB,I r_.up] rfl (zcQ s_Sections s_Marks s_Reaches marks r_.up (aD.app _) aE (aF.app _) aG (aH.app _) aI (aT.app _) aU aY _ (H.gt 3)) ?_
 rintro vq bu ⟨r2,ak,rfl,hvq,aq⟩
 subst vq;(try dsimp only at hM);replace H:=H.bk aq;clear aq
 have bv:=Sl.cells (H.os 0)
 have bw:=Sl.oc (H.os 0)
 refine s_nil ⟨(H.pk [1,2,3]),?_⟩
 refine d_l rfl ?_;obtain ⟨bx,aZ,hM⟩:=M.e_bind hM;refine s_call cf90 [.agg #[ae,ag,ai],aB,I r_.down] rfl (zcQ s_Sections s_Marks s_Reaches marks r_.down (aD.app _) aE (aF.app _) aG (aH.app _) aI (aT.app _) aU aZ _ (H.gt 4)) ?_
 rintro vq bz ⟨r3,am,rfl,hvq,aq⟩
 subst vq;(try dsimp only at hM);replace H:=H.bk aq;clear aq
 have bA:=Sl.cells (H.os 0)
 have bB:=Sl.oc (H.os 0)
 refine s_nil ⟨(H.pk [2,3,4]),?_⟩
 refine d_q rfl (fun w' H=>x_as (v:=ak) rfl)<|d_q rfl (fun w' H=>x_as (v:=am) rfl) ?_;refine d_nil<|W.seq<|W.region rfl<|s_val (x_bld (ps:=[(0,I (-1))]) (zs:=[I 0,I 0]) (L':=[I (-1),I 0]) rfl Tryz.underlying54 Al54 rfl (Bd54 Tryz.underlying54) (.cons (cs:=[I (-1)]) rfl rfl rfl rfl rfl<|.nil)) ?_;refine t_alloc (cs:=[I 0,I 0]) H Al54 rfl ?_;intro ao bC H;refine t_sw 0 0 [I (-1),I 0] (.agg #[I (-1),I 0]) H rfl rfl Sz54 rfl rfl rfl rfl ?_;intro bD H;refine s_nil<|W.seq<|W.seq<|W.region rfl<|zA (I 0) rfl<|s_nil<|W.block ?_;obtain ⟨a6,aL,a7⟩:=M.e_bind hM
 obtain ⟨a8,aL⟩:=M.e_iter aL
 refine W.loop (fun m σ W=>∃ (s7:Int) (s8:Int) (i:Nat) (ρ:Env),σ=upds ρ [(3,Pq av),(5,Pq aj),(6,Pq aw),(7,ak),(8,am),(9,Pq ao),(10,I (i:Int))]/\M.iterN (zbZ s_Sections s_Marks s_Reaches r_ r2 r3) m (s7,s8,i)=some a6/\St w W [cBlk ao [I s7,I s8] 54,cOwn (α:=Int) 3 am r3,cOwn (α:=Int) 3 ak r2,cBlk aw [I 0,I 0] 54,cBlk aj [I r_.up,I r_.down,I r_.lo,I r_.hi,B r_.narrow] 151,cBlk av [ae,ag,ai] 81] R) ?_ ?_
 ·exact ⟨_,-1,0,0,_,upds_of _ _ ⟨rfl,rfl,rfl,rfl,rfl,rfl,rfl,trivial⟩,aL,H⟩
 rintro bE σ bF ⟨s7,s8,i,ρ,rfl,aV,H⟩
 obtain ⟨ba,bb,bG,hM,aW⟩:=M.e_iterN aV
 simp only [zbZ] at hM
 clear aV;refine W.seq<|W.seq<|W.region rfl<|zM (I (i:Int)) rfl<|zM ak rfl ?_
 have bH:=((H.os 2)).len_le
 refine s_val (x_lenS T28.und rfl (H.os 2))<|zC (i:Int) (r2.length:Int) (decide ((i:Int)<(r2.length:Int))) rfl rfl rfl<|s_nil ?_
 refine W.cond (decide ((i:Int)<(r2.length:Int))) rfl (fun ax=>?_) (fun ax=>?_)
 ·replace hM:=M.e_t hM ax
  replace ax:=dI ax
  refine W.skip<|W.seq<|W.block<|W.seq<|W.region rfl<|zA (I 0) rfl<|s_nil<|W.block ?_;obtain ⟨bc,aM,bf⟩:=M.e_bind hM
  obtain ⟨a8,aM⟩:=M.e_iter aM
  refine W.loop (fun m σ W=>∃ (s3:Int) (s4:Int) (k:Nat) (ρ:Env),σ=upds ρ [(3,Pq av),(5,Pq aj),(6,Pq aw),(7,ak),(8,am),(9,Pq ao),(10,I (i:Int)),(11,I (k:Int))]/\M.iterN (zbT s_Sections s_Marks s_Reaches r_ r2 r3 i) m (s3,s4,k)=some bc/\St w W [cBlk ao [I s3,I s4] 54,cOwn (α:=Int) 3 am r3,cOwn (α:=Int) 3 ak r2,cBlk aw [I 0,I 0] 54,cBlk aj [I r_.up,I r_.down,I r_.lo,I r_.hi,B r_.narrow] 151,cBlk av [ae,ag,ai] 81] R) ?_ ?_
  ·exact ⟨_,s7,s8,0,_,upds_of _ _ ⟨rfl,rfl,rfl,rfl,rfl,rfl,rfl,rfl,trivial⟩,aM,H⟩
  rintro bI σ bJ ⟨s3,s4,k,ρ,rfl,aX,H⟩
  obtain ⟨aJ,aK,bK,hM,aC⟩:=M.e_iterN aX
  simp only [zbT] at hM
  clear aX;refine W.seq<|W.seq ?_;refine W.draw (fun W=>St w W [cBlk ao [I s3,I s4] 54,cOwn (α:=Int) 3 am r3,cOwn (α:=Int) 3 ak r2,cBlk aw [I 0,I 0] 54,cBlk aj [I r_.up,I r_.down,I r_.lo,I r_.hi,B r_.narrow] 151,cBlk av [ae,ag,ai] 81] R) [(0,true),(1,true),(2,true),(3,true),(4,true),(5,true),(6,true),(7,true),(8,true),(9,true),(10,true),(11,true),(12,true),(13,true),(14,true)] mixed (by decide +kernel) rfl ?_;intro bL ac;replace H:=H.ext ac;clear ac
  refine ⟨(H.pk [0,1,2,3,4,5]),?_⟩
  refine d_q rfl (fun w' H=>x_mv (v:=I (k:Int)) rfl)<|d_q rfl (fun w' H=>x_mv (v:=am) rfl) ?_
  have bM:=((H.os 1)).len_le
  refine d_q rfl (fun w' H=>x_lenS T28.und rfl (H.os 1))<|d_q rfl (fun w' H=>x_cmp (kd:=.i64) (r:=decide ((k:Int)<(r3.length:Int))) rfl rfl rfl)<|d_q rfl (fun w' H=>x_mv (v:=B (decide ((k:Int)<(r3.length:Int)))) rfl)<|d_qg (decide ((k:Int)<(r3.length:Int))) rfl (gy_t rfl) (fun hg=>(fun w' H=>x_mv (v:=am) rfl))<|d_qg (decide ((k:Int)<(r3.length:Int))) rfl (gy_t rfl) (fun hg=>(fun w' H=>x_mv (v:=I (k:Int)) rfl)) ?_;obtain ⟨au,hM⟩:=M.e_grd hM
  replace au:=M.imp_of au
  simp only [Bool.and_eq_true,decide_eq_true_eq] at au
  refine d_qg (decide ((k:Int)<(r3.length:Int))) rfl (gy_t rfl) (fun hg=>(fun w' H=>x_ix (v:=vat am 1 (Int.toNat (k:Int))) (gd_of hg (am)) (gd_of hg (I (k:Int))) (Sl.ix (α:=Int) T28.und T28.size (H.os 1) (by have ab:=au.resolve_left (by rw [hg]; decide); first | exact ab | exact ab.1 | exact ab.2 | omega | (have ac:=hg; simp at ac; omega)) (by have ab:=au.resolve_left (by rw [hg]; decide); first | exact ab | exact ab.1 | exact ab.2 | omega | (have ac:=hg; simp at ac; omega)))))<|d_qg (decide ((k:Int)<(r3.length:Int))) rfl (gy_t rfl) (fun hg=>(fun w' H=>x_ld (v:=I (r3.getD k 0)) (gd_of hg (vat am 1 (Int.toNat (k:Int)))) (ld_sc Sc3 (At.mono (Int_at (H.os 1) (i:=(k:Int)) (by have ab:=au.resolve_left (by rw [hg]; decide); first | exact ab | exact ab.1 | exact ab.2 | omega | (have ac:=hg; simp at ac; omega)) (by have ab:=au.resolve_left (by rw [hg]; decide); first | exact ab | exact ab.1 | exact ab.2 | omega | (have ac:=hg; simp at ac; omega))) (H.ol 1)))))<|d_qg (decide ((k:Int)<(r3.length:Int))) rfl (gy_t rfl) (fun hg=>(fun w' H=>x_mv (v:=ak) rfl))<|d_qg (decide ((k:Int)<(r3.length:Int))) rfl (gy_t rfl) (fun hg=>(fun w' H=>x_mv (v:=I (i:Int)) rfl)) ?_;obtain ⟨ay,hM⟩:=M.e_grd hM
  replace ay:=M.imp_of ay
  simp only [Bool.and_eq_true,decide_eq_true_eq] at ay
  refine d_qg (decide ((k:Int)<(r3.length:Int))) rfl (gy_t rfl) (fun hg=>(fun w' H=>x_ix (v:=vat ak 1 (Int.toNat (i:Int))) (gd_of hg (ak)) (gd_of hg (I (i:Int))) (Sl.ix (α:=Int) T28.und T28.size (H.os 2) (by have ab:=au.resolve_left (by rw [hg]; decide); have ap:=ay.resolve_left (by rw [hg]; decide); first | exact ab | exact ab.1 | exact ab.2 | exact ap | exact ap.1 | exact ap.2 | omega | (have ac:=hg; simp at ac; omega)) (by have ab:=au.resolve_left (by rw [hg]; decide); have ap:=ay.resolve_left (by rw [hg]; decide); first | exact ab | exact ab.1 | exact ab.2 | exact ap | exact ap.1 | exact ap.2 | omega | (have ac:=hg; simp at ac; omega)))))<|d_qg (decide ((k:Int)<(r3.length:Int))) rfl (gy_t rfl) (fun hg=>(fun w' H=>x_ld (v:=I (r2.getD i 0)) (gd_of hg (vat ak 1 (Int.toNat (i:Int)))) (ld_sc Sc3 (At.mono (Int_at (H.os 2) (i:=(i:Int)) (by have ab:=au.resolve_left (by rw [hg]; decide); have ap:=ay.resolve_left (by rw [hg]; decide); first | exact ab | exact ab.1 | exact ab.2 | exact ap | exact ap.1 | exact ap.2 | omega | (have ac:=hg; simp at ac; omega)) (by have ab:=au.resolve_left (by rw [hg]; decide); have ap:=ay.resolve_left (by rw [hg]; decide); first | exact ab | exact ab.1 | exact ab.2 | exact ap | exact ap.1 | exact ap.2 | omega | (have ac:=hg; simp at ac; omega))) (H.ol 2)))))<|d_qg (decide ((k:Int)<(r3.length:Int))) rfl (gy_t rfl) (fun hg=>(fun w' H=>x_cmp (kd:=.i64) (r:=decide ((r3.getD k 0)<=(r2.getD i 0))) (gd_of hg (I (r3.getD k 0))) (gd_of hg (I (r2.getD i 0))) rfl))<|d_q rfl (fun w' H=>x_pand (b:=decide ((k:Int)<(r3.length:Int))) (r:=decide ((r3.getD k 0)<=(r2.getD i 0))) rfl (fun hb=>gd_of (c:=decide ((k:Int)<(r3.length:Int))) (by first | exact hb | (rw [hb]; rfl) | simp_all) (B (decide ((r3.getD k 0)<=(r2.getD i 0))))) rfl) ?_;refine d_nil ?_
  refine W.cond ((decide ((k:Int)<(r3.length:Int)))&&(decide ((r3.getD k 0)<=(r2.getD i 0)))) rfl (fun aN=>?_) (fun aN=>?_)
  ·replace hM:=M.e_t hM aN;refine W.skip<|W.seq<|W.block<|W.seq ?_;refine W.draw (fun W=>St w W [cBlk ao [I s3,I s4] 54,cOwn (α:=Int) 3 am r3,cOwn (α:=Int) 3 ak r2,cBlk aw [I 0,I 0] 54,cBlk aj [I r_.up,I r_.down,I r_.lo,I r_.hi,B r_.narrow] 151,cBlk av [ae,ag,ai] 81] R) [(0,true),(1,true),(2,true),(3,true),(4,true),(5,true),(6,true),(7,true),(8,true),(9,true),(10,true),(11,true),(12,true),(13,true),(14,true),(15,true),(16,true),(17,false),(18,true)] mixed (by decide +kernel) rfl ?_;intro bN ac;replace H:=H.ext ac;clear ac
   refine ⟨(H.pk [0,1,2,3,4,5]),?_⟩
   refine d_q rfl (fun w' H=>x_ld (v:=.agg #[ae,ag,ai]) rfl (ldb_ag (ds:=[ae,ag,ai]) Ag81 Sz81 (H.bl 5) rfl rfl))<|d_q rfl (fun w' H=>x_ld (v:=.agg #[I r_.up,I r_.down,I r_.lo,I r_.hi,B r_.narrow]) rfl (ldb_ag (ds:=[I r_.up,I r_.down,I r_.lo,I r_.hi,B r_.narrow]) Ag151 Sz151 (H.bl 4) rfl rfl))<|d_q rfl (fun w' H=>x_mv (v:=ak) rfl)<|d_q rfl (fun w' H=>x_mv (v:=I (i:Int)) rfl) ?_;obtain ⟨bO,hM⟩:=M.e_gd hM;refine d_q rfl (fun w' H=>x_ix (v:=vat ak 1 (Int.toNat (i:Int))) rfl rfl (Sl.ix (α:=Int) T28.und T28.size (H.os 2) (by omega) (by omega)))<|d_q rfl (fun w' H=>x_ld (v:=I (r2.getD i 0)) rfl (ld_sc Sc3 (At.mono (Int_at (H.os 2) (i:=(i:Int)) (by omega) (by omega)) (H.ol 2))))<|d_q rfl (fun w' H=>x_mv (v:=am) rfl)<|d_q rfl (fun w' H=>x_mv (v:=I (k:Int)) rfl) ?_;obtain ⟨bP,hM⟩:=M.e_gd hM;refine d_q rfl (fun w' H=>x_ix (v:=vat am 1 (Int.toNat (k:Int))) rfl rfl (Sl.ix (α:=Int) T28.und T28.size (H.os 1) (by omega) (by omega)))<|d_q rfl (fun w' H=>x_ld (v:=I (r3.getD k 0)) rfl (ld_sc Sc3 (At.mono (Int_at (H.os 1) (i:=(k:Int)) (by omega) (by omega)) (H.ol 1))))<|d_q rfl (fun w' H=>x_fa (v:=Oq aj 2) rfl (fa_blk (o:=0) Fd151_2 Sz54))<|d_q rfl (fun w' H=>x_fa (v:=Oq aj 3) rfl (fa_blk (o:=2) Fd54_1 Sz3))<|d_q rfl (fun w' H=>x_ld (v:=I r_.hi) rfl (ldb_sc Sc3 (H.bl 4) rfl))<|d_q rfl (fun w' H=>x_fa (v:=Oq aj 2) rfl (fa_blk (o:=0) Fd151_2 Sz54))<|d_q rfl (fun w' H=>x_fa (v:=Oq aj 3) rfl (fa_blk (o:=2) Fd54_1 Sz3))<|d_q rfl (fun w' H=>x_ld (v:=I r_.hi) rfl (ldb_sc Sc3 (H.bl 4) rfl))<|d_q rfl (fun w' H=>x_bld (ps:=[(0,I (r2.getD i 0)),(1,I (r3.getD k 0)),(2,I r_.hi),(3,I r_.hi)]) (zs:=[I 0,I 0,I 0,I 0]) (L':=[I (r2.getD i 0),I (r3.getD k 0),I r_.hi,I r_.hi]) rfl Tryz.underlying99 Al99 rfl (Bd99 Tryz.underlying99) (.cons (cs:=[I (r2.getD i 0)]) rfl rfl rfl rfl rfl<|.cons (cs:=[I (r3.getD k 0)]) rfl rfl rfl rfl rfl<|.cons (cs:=[I r_.hi]) rfl rfl rfl rfl rfl<|.cons (cs:=[I r_.hi]) rfl rfl rfl rfl rfl<|.nil))<|d_l rfl ?_;obtain ⟨bQ,bg,hM⟩:=M.e_bind hM;refine s_call cf92 [.agg #[ae,ag,ai],.agg #[I r_.up,I r_.down,I r_.lo,I r_.hi,B r_.narrow],.agg #[I (r2.getD i 0),I (r3.getD k 0),I r_.hi,I r_.hi]] rfl (zcH s_Sections s_Marks s_Reaches r_ (⟨(r2.getD i 0:Int),(r3.getD k 0:Int),(r_.hi:Int),(r_.hi:Int)⟩:Cas) (aD.app _) aE (aF.app _) aG (aH.app _) aI bg _ (H.gt 6)) ?_
   rintro vq bR ⟨r4,rfl,hvq,aq⟩
   subst vq;(try dsimp only at hM);replace H:=H.bk aq;clear aq
   refine s_nil ⟨(H.pk [0,1,2,3,4,5]),?_⟩
   refine d_q rfl (fun w' H=>x_as (v:=I r4) rfl) ?_;refine d_nil<|W.seq ?_;refine W.draw (fun W=>St w W [cBlk ao [I s3,I s4] 54,cOwn (α:=Int) 3 am r3,cOwn (α:=Int) 3 ak r2,cBlk aw [I 0,I 0] 54,cBlk aj [I r_.up,I r_.down,I r_.lo,I r_.hi,B r_.narrow] 151,cBlk av [ae,ag,ai] 81] R) [(0,true),(1,true),(2,true),(3,true),(4,true),(5,true),(6,true),(7,true),(8,true),(9,true),(10,true),(11,true),(12,true),(13,true),(14,true),(15,true),(16,true),(17,false),(18,true)] mixed (by decide +kernel) rfl ?_;intro bS ac;replace H:=H.ext ac;clear ac
   refine ⟨(H.pk [0,1,2,3,4,5]),?_⟩
   refine d_q rfl (fun w' H=>x_ld (v:=.agg #[ae,ag,ai]) rfl (ldb_ag (ds:=[ae,ag,ai]) Ag81 Sz81 (H.bl 5) rfl rfl))<|d_q rfl (fun w' H=>x_ld (v:=.agg #[I r_.up,I r_.down,I r_.lo,I r_.hi,B r_.narrow]) rfl (ldb_ag (ds:=[I r_.up,I r_.down,I r_.lo,I r_.hi,B r_.narrow]) Ag151 Sz151 (H.bl 4) rfl rfl))<|d_q rfl (fun w' H=>x_mv (v:=ak) rfl)<|d_q rfl (fun w' H=>x_mv (v:=I (i:Int)) rfl)<|d_q rfl (fun w' H=>x_ix (v:=vat ak 1 (Int.toNat (i:Int))) rfl rfl (Sl.ix (α:=Int) T28.und T28.size (H.os 2) (by omega) (by omega)))<|d_q rfl (fun w' H=>x_ld (v:=I (r2.getD i 0)) rfl (ld_sc Sc3 (At.mono (Int_at (H.os 2) (i:=(i:Int)) (by omega) (by omega)) (H.ol 2))))<|d_q rfl (fun w' H=>x_mv (v:=am) rfl)<|d_q rfl (fun w' H=>x_mv (v:=I (k:Int)) rfl)<|d_q rfl (fun w' H=>x_ix (v:=vat am 1 (Int.toNat (k:Int))) rfl rfl (Sl.ix (α:=Int) T28.und T28.size (H.os 1) (by omega) (by omega)))<|d_q rfl (fun w' H=>x_ld (v:=I (r3.getD k 0)) rfl (ld_sc Sc3 (At.mono (Int_at (H.os 1) (i:=(k:Int)) (by omega) (by omega)) (H.ol 1)))) ?_;refine d_q rfl (fun w' H=>x_fa (v:=Oq aj 2) rfl (fa_blk (o:=0) Fd151_2 Sz54))<|d_q rfl (fun w' H=>x_fa (v:=Oq aj 2) rfl (fa_blk (o:=2) Fd54_0 Sz3))<|d_q rfl (fun w' H=>x_ld (v:=I r_.lo) rfl (ldb_sc Sc3 (H.bl 4) rfl))<|d_q rfl (fun w' H=>x_fa (v:=Oq aj 2) rfl (fa_blk (o:=0) Fd151_2 Sz54))<|d_q rfl (fun w' H=>x_fa (v:=Oq aj 2) rfl (fa_blk (o:=2) Fd54_0 Sz3))<|d_q rfl (fun w' H=>x_ld (v:=I r_.lo) rfl (ldb_sc Sc3 (H.bl 4) rfl))<|d_q rfl (fun w' H=>x_bld (ps:=[(0,I (r2.getD i 0)),(1,I (r3.getD k 0)),(2,I r_.lo),(3,I r_.lo)]) (zs:=[I 0,I 0,I 0,I 0]) (L':=[I (r2.getD i 0),I (r3.getD k 0),I r_.lo,I r_.lo]) rfl Tryz.underlying99 Al99 rfl (Bd99 Tryz.underlying99) (.cons (cs:=[I (r2.getD i 0)]) rfl rfl rfl rfl rfl<|.cons (cs:=[I (r3.getD k 0)]) rfl rfl rfl rfl rfl<|.cons (cs:=[I r_.lo]) rfl rfl rfl rfl rfl<|.cons (cs:=[I r_.lo]) rfl rfl rfl rfl rfl<|.nil))<|d_l rfl ?_;obtain ⟨bT,bh,hM⟩:=M.e_bind hM;refine s_call cf92 [.agg #[ae,ag,ai],.agg #[I r_.up,I r_.down,I r_.lo,I r_.hi,B r_.narrow],.agg #[I (r2.getD i 0),I (r3.getD k 0),I r_.lo,I r_.lo]] rfl (zcH s_Sections s_Marks s_Reaches r_ (⟨(r2.getD i 0:Int),(r3.getD k 0:Int),(r_.lo:Int),(r_.lo:Int)⟩:Cas) (aD.app _) aE (aF.app _) aG (aH.app _) aI bh _ (H.gt 6)) ?_
   rintro vq bU ⟨r5,rfl,hvq,aq⟩
   subst vq;(try dsimp only at hM);replace H:=H.bk aq;clear aq
   refine s_nil ⟨(H.pk [0,1,2,3,4,5]),?_⟩
   refine d_q rfl (fun w' H=>x_as (v:=I r5) rfl) ?_;refine d_nil<|W.seq<|W.seq<|W.region rfl<|s_val (x_fa (v:=Pq ao) rfl (fa_blk (o:=0) Fd54_0 Sz3))<|s_val (x_ld (v:=I s3) rfl (ldb_sc Sc3 (H.bl 0) rfl))<|zC s3 0 (decide (s3<0)) rfl rfl rfl<|zM (B (decide (s3<0))) rfl<|g_val (!(decide (s3<0))) (gy_f rfl) (fun hg=>x_mv (v:=I r4) rfl)<|g_val (!(decide (s3<0))) (gy_f rfl) (fun hg=>x_fa (v:=Pq ao) rfl (fa_blk (o:=0) Fd54_0 Sz3))<|g_val (!(decide (s3<0))) (gy_f rfl) (fun hg=>x_ld (v:=I s3) (gd_of hg (Pq ao)) (ldb_sc Sc3 (H.bl 0) rfl)) ?_;refine g_val (!(decide (s3<0))) (gy_f rfl) (fun hg=>x_cmp (kd:=.i64) (r:=decide (r4<s3)) (gd_of hg (I r4)) (gd_of hg (I s3)) rfl)<|s_val (x_por (b:=decide (s3<0)) (r:=decide (r4<s3)) rfl rfl (fun hb=>gd_of (c:=!(decide (s3<0))) (by first | exact hb | (rw [hb]; rfl) | simp_all) (B (decide (r4<s3)))))<|s_nil ?_
   refine W.cond ((decide (s3<0))||(decide (r4<s3))) rfl (fun aO=>?_) (fun aO=>?_)
   ·replace hM:=M.e_t hM aO;refine W.region rfl<|zM (I r4) rfl<|s_val (x_fa (v:=Pq ao) rfl (fa_blk (o:=0) Fd54_0 Sz3)) ?_;refine t_sw 0 0 [I r4] (I r4) H rfl rfl Sz3 rfl rfl rfl rfl ?_;intro bV H;refine s_nil<|W.seq<|W.region rfl<|zM (I r5) rfl<|s_val (x_fa (v:=Oq ao 1) rfl (fa_blk (o:=0) Fd54_1 Sz3))<|s_val (x_ld (v:=I s4) rfl (ldb_sc Sc3 (H.bl 0) rfl))<|zC r5 s4 (decide (s4<r5)) rfl rfl rfl<|s_nil ?_
    refine W.cond (decide (s4<r5)) rfl (fun az=>?_) (fun az=>?_)
    ·replace hM:=M.e_t hM az
     replace az:=dI az
     refine W.region rfl<|zM (I r5) rfl<|s_val (x_fa (v:=Oq ao 1) rfl (fa_blk (o:=0) Fd54_1 Sz3)) ?_;refine t_sw 0 1 [I r5] (I r5) H rfl rfl Sz3 rfl rfl rfl rfl ?_;intro bW H;refine s_nil<|W.region rfl<|zM (I (k:Int)) rfl<|zR (k:Int) 1 ((k:Int)+1) rfl rfl rfl (by omega)<|zA (I ((k:Int)+1)) rfl<|s_nil ?_
     exact ⟨aJ,aK,r4,r5,k+1,_,upds_of _ _ ⟨rfl,rfl,rfl,rfl,rfl,rfl,rfl,rfl,trivial⟩,M.e_inl hM aC,H⟩
    replace hM:=M.e_f hM az
    replace az:=dI az
    refine W.skip<|W.region rfl<|zM (I (k:Int)) rfl<|zR (k:Int) 1 ((k:Int)+1) rfl rfl rfl (by omega)<|zA (I ((k:Int)+1)) rfl<|s_nil ?_
    exact ⟨aJ,aK,r4,s4,k+1,_,upds_of _ _ ⟨rfl,rfl,rfl,rfl,rfl,rfl,rfl,rfl,trivial⟩,M.e_inl hM aC,H⟩
   replace hM:=M.e_f hM aO;refine W.skip<|W.seq<|W.region rfl<|zM (I r5) rfl<|s_val (x_fa (v:=Oq ao 1) rfl (fa_blk (o:=0) Fd54_1 Sz3))<|s_val (x_ld (v:=I s4) rfl (ldb_sc Sc3 (H.bl 0) rfl))<|zC r5 s4 (decide (s4<r5)) rfl rfl rfl<|s_nil ?_
   refine W.cond (decide (s4<r5)) rfl (fun aA=>?_) (fun aA=>?_)
   ·replace hM:=M.e_t hM aA
    replace aA:=dI aA
    refine W.region rfl<|zM (I r5) rfl<|s_val (x_fa (v:=Oq ao 1) rfl (fa_blk (o:=0) Fd54_1 Sz3)) ?_;refine t_sw 0 1 [I r5] (I r5) H rfl rfl Sz3 rfl rfl rfl rfl ?_;intro bX H;refine s_nil<|W.region rfl<|zM (I (k:Int)) rfl<|zR (k:Int) 1 ((k:Int)+1) rfl rfl rfl (by omega)<|zA (I ((k:Int)+1)) rfl<|s_nil ?_
    exact ⟨aJ,aK,s3,r5,k+1,_,upds_of _ _ ⟨rfl,rfl,rfl,rfl,rfl,rfl,rfl,rfl,trivial⟩,M.e_inl hM aC,H⟩
   replace hM:=M.e_f hM aA
   replace aA:=dI aA
   refine W.skip<|W.region rfl<|zM (I (k:Int)) rfl<|zR (k:Int) 1 ((k:Int)+1) rfl rfl rfl (by omega)<|zA (I ((k:Int)+1)) rfl<|s_nil ?_
   exact ⟨aJ,aK,s3,s4,k+1,_,upds_of _ _ ⟨rfl,rfl,rfl,rfl,rfl,rfl,rfl,rfl,trivial⟩,M.e_inl hM aC,H⟩
  replace hM:=M.e_f hM aN;refine W.exit ?_
  have bi:=M.e_inr hM aC
  subst bi;replace hM:=bf;(try dsimp only at hM);refine W.region rfl<|zM (I (i:Int)) rfl<|zR (i:Int) 1 ((i:Int)+1) rfl rfl rfl (by omega)<|zA (I ((i:Int)+1)) rfl<|s_nil ?_
  exact ⟨ba,bb,s3,s4,i+1,_,upds_of _ _ ⟨rfl,rfl,rfl,rfl,rfl,rfl,rfl,trivial⟩,M.e_inl hM aW,H⟩
 replace hM:=M.e_f hM ax
 replace ax:=dI ax
 refine W.exit ?_
 have bj:=M.e_inr hM aW
 subst bj;replace hM:=a7;(try dsimp only at hM);replace H:=H.pk [0,3];refine W.seq<|W.region rfl<|s_val (x_ld (v:=.agg #[I s7,I s8]) rfl (ldb_ag (ds:=[I s7,I s8]) Ag54 Sz54 (H.bl 0) rfl rfl)) ?_;refine t_sw 1 0 [I s7,I s8] (.agg #[I s7,I s8]) H rfl rfl Sz54 rfl rfl rfl rfl ?_;intro bY H;refine s_nil ?_;refine W.ret ?_
 have bm:=(H.bl 1)
 have bn:=M.e_pure hM
 exact ⟨_,(resE_of1 (v:=.agg #[I s7,I s8]) rfl (.cell (v:=.agg #[I s7,I s8]) rfl (run_loadVar_ag (ds:=[I s7,I s8]) Ag54 Sz54 bm rfl rfl)<|.nil)),⟨s7,s8,bn,rfl,(H.pk [])⟩⟩

def zch (s_Sections:List Sect) (s_Marks:List Mrk) (s_Reaches:List Rch) (marks:List Int) (reach:Int):M (Int × Int × Int) :=
  M.bind (zaY s_Sections s_Marks s_Reaches marks reach) fun r2 =>
  bif r2 != 0 then (
  M.pure (0,0,r2))
  else (
  M.grd (decide ((0:Int)<=reach)&&decide (reach<(s_Reaches.length:Int))) <|
  M.bind (za1 s_Sections s_Marks s_Reaches marks (s_Reaches.getD (Int.toNat reach) default)) fun (r0,r1) =>
  M.pure (r0,r1,0))
theorem zep {R:List Chunk} {ap:Cells} {ac:Value} {aq:Cells} {ae:Value} {au:Cells} {ab:Value} {av:Cells} {ai:Value} (s_Sections:List Sect) (s_Marks:List Mrk) (s_Reaches:List Rch) (marks:List Int) (reach:Int) (aw:Reads R ap) (ax:Sl ap ac s_Sections) (ay:Reads R aq) (az:Sl aq ae s_Marks) (am:Reads R au) (ak:Sl au ab s_Reaches) (aA:Reads R av) (aB:Sl av ai marks) {r:(Int × Int × Int)} (hM:(zch s_Sections s_Marks s_Reaches marks reach).Ends r) (w:World) (H:St w w [] R):Ret Tryz.prog 42 #[.agg #[ac,ae,ab],ai,I reach] w fun v w'=>∃ (y0:Int) (y1:Int) (y2:Int),(y0,y1,y2)=r/\v = .tuple #[.agg #[I y0,I y1],I y2]/\St w w' [] R:=by
 refine ret_of_W Tryz.func42 rfl rfl rfl<|W.seq<|W.region rfl ?_;refine t_bx [ac,ae,ab] H rfl ?_;intro aC aI H;refine t_alloc (cs:=[I 0,I 0]) H Al54 rfl ?_;intro aJ aK H;refine zA (I 0) rfl<|s_nil<|W.seq<|W.seq<|W.region rfl<|s_val (x_ld (v:=.agg #[ac,ae,ab]) rfl (ldb_ag (ds:=[ac,ae,ab]) Ag81 Sz81 (H.bl 1) rfl rfl))<|zM ai rfl<|zM (I reach) rfl ?_;obtain ⟨aL,aE,hM⟩:=M.e_bind hM;refine s_call cf93 [.agg #[ac,ae,ab],ai,I reach] rfl (zc4 s_Sections s_Marks s_Reaches marks reach (aw.app _) ax (ay.app _) az (am.app _) ak (aA.app _) aB aE _ (H.gt 2)) ?_
 rintro vq aM ⟨r2,rfl,hvq,aj⟩
 subst vq;(try dsimp only at hM);replace H:=H.bk aj;clear aj;refine zA (I r2) rfl<|s_nil<|W.seq<|W.region rfl<|zM (I r2) rfl<|zC r2 0 (r2 != 0) rfl rfl rfl<|s_nil ?_
 refine W.cond (r2 != 0) rfl (fun ag=>?_) (fun ag=>?_)
 ·replace hM:=M.e_t hM ag
  replace ag:=dI ag
  refine W.seq<|W.region rfl<|s_val (x_bld (ps:=[]) (zs:=[I 0,I 0]) (L':=[I 0,I 0]) rfl Tryz.underlying54 Al54 rfl (Bd54 Tryz.underlying54) (.nil))<|zM (I r2) rfl ?_;refine t_sw 0 0 [I 0,I 0] (.agg #[I 0,I 0]) H rfl rfl Sz54 rfl rfl rfl rfl ?_;intro aN H;refine zA (I r2) rfl<|s_nil ?_;refine W.ret ?_
  have aF:=(H.bl 0)
  have ao:=M.e_pure hM
  exact ⟨_,(resE_ofn (vs:=[.agg #[I 0,I 0],I r2]) rfl rfl (.cell (v:=.agg #[I 0,I 0]) rfl (run_loadVar_ag (ds:=[I 0,I 0]) Ag54 Sz54 aF rfl rfl)<|.tmp (v:=I r2) rfl<|.nil)),⟨0,0,r2,ao,rfl,(H.pk [])⟩⟩
 replace hM:=M.e_f hM ag
 replace ag:=dI ag
 refine W.skip<|W.seq ?_;refine W.draw (fun W=>St w W [cBlk aC [ac,ae,ab] 81] R) [(0,true),(1,true),(2,true),(3,true),(4,true),(5,true),(6,true),(7,false),(8,false),(9,true)] mixed (by decide +kernel) rfl ?_;intro aO aD;replace H:=H.ext aD;clear aD
 refine ⟨(H.pk [1]),?_⟩
 refine d_q rfl (fun w' H=>x_ld (v:=.agg #[ac,ae,ab]) rfl (ldb_ag (ds:=[ac,ae,ab]) Ag81 Sz81 (H.bl 0) rfl rfl))<|d_q rfl (fun w' H=>x_mv (v:=ai) rfl)<|d_q rfl (fun w' H=>x_fa (v:=Oq aC 2) rfl (fa_blk (o:=0) Fd81_2 Sz79))<|d_q rfl (fun w' H=>x_ld (v:=ab) rfl (ldb_sc Sc79 (H.bl 0) rfl))<|d_q rfl (fun w' H=>x_mv (v:=I reach) rfl) ?_;obtain ⟨aP,hM⟩:=M.e_gd hM;refine d_q rfl (fun w' H=>x_ix (v:=vat ab 5 (Int.toNat reach)) rfl rfl (Sl.ix (α:=Rch) T79.und T79.size ak (by omega) (by omega)))<|d_q rfl (fun w' H=>x_ld (v:=.agg #[I ((s_Reaches.getD (Int.toNat reach) default).up),I ((s_Reaches.getD (Int.toNat reach) default).down),I ((s_Reaches.getD (Int.toNat reach) default).lo),I ((s_Reaches.getD (Int.toNat reach) default).hi),B ((s_Reaches.getD (Int.toNat reach) default).narrow)]) rfl (ld_ag Ag151 Sz151 (At.mono (Rch_atA ak (i:=reach) (by omega) (by omega)) (am.at H))))<|d_l rfl ?_;obtain ⟨aQ,aG,hM⟩:=M.e_bind hM;refine s_call cf94 [.agg #[ac,ae,ab],ai,.agg #[I ((s_Reaches.getD (Int.toNat reach) default).up),I ((s_Reaches.getD (Int.toNat reach) default).down),I ((s_Reaches.getD (Int.toNat reach) default).lo),I ((s_Reaches.getD (Int.toNat reach) default).hi),B ((s_Reaches.getD (Int.toNat reach) default).narrow)]] rfl (zcg s_Sections s_Marks s_Reaches marks (s_Reaches.getD (Int.toNat reach) default) (aw.app _) ax (ay.app _) az (am.app _) ak (aA.app _) aB aG _ (H.gt 2)) ?_
 rintro vq aR ⟨r0,r1,rfl,hvq,aj⟩
 subst vq;(try dsimp only at hM);replace H:=H.bk aj;clear aj
 refine s_nil ⟨(H.pk [1]),?_⟩
 refine d_l rfl ?_;refine t_sw 0 0 [I r0,I r1] (.agg #[I r0,I r1]) H rfl rfl Sz54 rfl rfl rfl rfl ?_;intro aS H
 refine s_nil ⟨(H.pk [1]),?_⟩
 refine d_q rfl (fun w' H=>x_as (v:=I 0) rfl) ?_;refine d_nil ?_;refine W.ret ?_
 have aH:=(H.bl 0)
 have ao:=M.e_pure hM
 exact ⟨_,(resE_ofn (vs:=[.agg #[I r0,I r1],I 0]) rfl rfl (.cell (v:=.agg #[I r0,I r1]) rfl (run_loadVar_ag (ds:=[I r0,I r1]) Ag54 Sz54 aH rfl rfl)<|.tmp (v:=I 0) rfl<|.nil)),⟨r0,r1,0,ao,rfl,(H.pk [])⟩⟩

def zcx (s_Sections:List Sect) (s_Marks:List Mrk) (s_Reaches:List Rch) (marks:List Int) (reach:Int) (most:Bool):M (Int × Int × Int × Int × Int) :=
  M.bind (zam s_Sections s_Marks s_Reaches marks reach) fun x_=>match x_ with
  | (.inl (aq,au,av,aw,ax,r2))=>(
  bif r2 != 0 then (
  M.pure (0,0,0,0,r2))
  else (
  M.fail))
  | (.inr (ai,aj,ak,am,ao,ap))=>(
  bif ap != 0 then (
  M.fail)
  else (
  M.bind (zai s_Sections s_Marks s_Reaches marks) fun r3 =>
  bif !r3 then (
  M.pure (0,0,0,0,7))
  else (
  M.bind (zbu) fun (_:Unit) =>
  bif most then (
  M.bind (zbK) fun (_:Unit) =>
  M.bind (zaX s_Sections s_Marks s_Reaches marks (⟨(ai:Int),(aj:Int),(ak:Int),(am:Int),ao⟩:Rch)) fun (ab,ac,ae,ag,r1) =>
  M.pure (ab,ac,ae,ag,0))
  else (
  M.bind (zaS s_Sections s_Marks s_Reaches marks (⟨(ai:Int),(aj:Int),(ak:Int),(am:Int),ao⟩:Rch)) fun (ab,ac,ae,ag,r1) =>
  M.pure (ab,ac,ae,ag,0)))))
theorem zdS {R:List Chunk} {aR:Cells} {aC:Value} {aS:Cells} {aD:Value} {aT:Cells} {aE:Value} {aU:Cells} {av:Value} (s_Sections:List Sect) (s_Marks:List Mrk) (s_Reaches:List Rch) (marks:List Int) (reach:Int) (most:Bool) (aH:Reads R aR) (aI:Sl aR aC s_Sections) (aJ:Reads R aS) (aK:Sl aS aD s_Marks) (aL:Reads R aT) (aM:Sl aT aE s_Reaches) (aN:Reads R aU) (aO:Sl aU av marks) {r:(Int × Int × Int × Int × Int)} (hM:(zcx s_Sections s_Marks s_Reaches marks reach most).Ends r) (w:World) (H:St w w [] R):Ret Tryz.prog 21 #[.agg #[aC,aD,aE],av,I reach,B most] w fun v w'=>∃ (y0:Int) (y1:Int) (y2:Int) (y3:Int) (y4:Int),(y0,y1,y2,y3,y4)=r/\v = .tuple #[.agg #[I y0,I y1,I y2,I y3],I y4]/\St w w' [] R:=by
 refine ret_of_W Tryz.func21 rfl rfl rfl<|W.seq<|W.region rfl ?_;refine t_bx [aC,aD,aE] H rfl ?_;intro bi bj H;refine t_alloc (cs:=[I 0,I 0,I 0,I 0]) H Al61 rfl ?_;intro bm bn H;refine zA (I 0) rfl<|s_nil<|W.seq<|W.region rfl<|s_val (x_ld (v:=.agg #[aC,aD,aE]) rfl (ldb_ag (ds:=[aC,aD,aE]) Ag27 Sz27 (H.bl 1) rfl rfl))<|zM av rfl<|zM (I reach) rfl ?_;obtain ⟨bo,aV,hM⟩:=M.e_bind hM;refine s_call cf65 [.agg #[aC,aD,aE],av,I reach] rfl (zda s_Sections s_Marks s_Reaches marks reach (aH.app _) aI (aJ.app _) aK (aL.app _) aM (aN.app _) aO aV _ (H.gt 2)) ?_
 rintro vq bp (⟨aw,ax,ay,az,aA,r2,aW,hvq,ai⟩ | ⟨aj,ak,am,ao,ap,au,aq,bq,aX,hvq,ai⟩)
 ·subst aW;subst vq;(try dsimp only at hM);replace H:=H.bk ai;clear ai;refine zM (.tuple #[.pointer none,.agg #[I aw,I ax,I ay,I az,B aA],I r2]) rfl<|zX [.pointer none,.agg #[I aw,I ax,I ay,I az,B aA],I r2] (.pointer none) rfl rfl<|zX [.pointer none,.agg #[I aw,I ax,I ay,I az,B aA],I r2] (.agg #[I aw,I ax,I ay,I az,B aA]) rfl rfl<|zX [.pointer none,.agg #[I aw,I ax,I ay,I az,B aA],I r2] (I r2) rfl rfl ?_;refine t_alloc (cs:=[I 0,I 0,I 0,I 0,B false]) H Al58 rfl ?_;intro aY br H;refine zA (.pointer none) rfl ?_;refine t_sw 0 0 [I aw,I ax,I ay,I az,B aA] (.agg #[I aw,I ax,I ay,I az,B aA]) H rfl rfl Sz58 rfl rfl rfl rfl ?_;intro bt H;refine zA (I r2) rfl<|s_nil<|W.seq<|W.block<|W.seq<|W.region rfl<|zM (I r2) rfl<|zC r2 0 (r2 != 0) rfl rfl rfl<|zA (B (r2 != 0)) rfl<|s_nil ?_
  refine W.cond (r2 != 0) rfl (fun aF=>?_) (fun aF=>?_)
  ·replace hM:=M.e_t hM aF
   replace aF:=dI aF
   refine W.seq<|W.region rfl<|s_val (x_bld (ps:=[]) (zs:=[I 0,I 0,I 0,I 0]) (L':=[I 0,I 0,I 0,I 0]) rfl Tryz.underlying61 Al61 rfl (Bd61 Tryz.underlying61) (.nil))<|zM (I r2) rfl ?_;refine t_sw 1 0 [I 0,I 0,I 0,I 0] (.agg #[I 0,I 0,I 0,I 0]) H rfl rfl Sz61 rfl rfl rfl rfl ?_;intro bu H;refine zA (I r2) rfl<|s_nil ?_;replace H:=H.pk [1];refine W.ret ?_
   have aZ:=(H.bl 0)
   have aB:=M.e_pure hM
   exact ⟨_,(resE_ofn (vs:=[.agg #[I 0,I 0,I 0,I 0],I r2]) rfl rfl (.cell (v:=.agg #[I 0,I 0,I 0,I 0]) rfl (run_loadVar_ag (ds:=[I 0,I 0,I 0,I 0]) Ag61 Sz61 aZ rfl rfl)<|.tmp (v:=I r2) rfl<|.nil)),⟨0,0,0,0,r2,aB,rfl,(H.pk [])⟩⟩
  replace hM:=M.e_f hM aF
  exact (M.e_fail hM).elim
 subst aX;subst vq;(try dsimp only at hM);replace H:=H.bk ai;clear ai;refine zM (.tuple #[Pq aq,.agg #[I aj,I ak,I am,I ao,B ap],I au]) rfl<|zX [Pq aq,.agg #[I aj,I ak,I am,I ao,B ap],I au] (Pq aq) rfl rfl<|zX [Pq aq,.agg #[I aj,I ak,I am,I ao,B ap],I au] (.agg #[I aj,I ak,I am,I ao,B ap]) rfl rfl<|zX [Pq aq,.agg #[I aj,I ak,I am,I ao,B ap],I au] (I au) rfl rfl ?_;refine t_alloc (cs:=[I 0,I 0,I 0,I 0,B false]) H Al58 rfl ?_;intro aY bv H;refine zA (Pq aq) rfl ?_;refine t_sw 0 0 [I aj,I ak,I am,I ao,B ap] (.agg #[I aj,I ak,I am,I ao,B ap]) H rfl rfl Sz58 rfl rfl rfl rfl ?_;intro bw H;refine zA (I au) rfl<|s_nil<|W.seq<|W.block<|W.seq<|W.region rfl<|zM (I au) rfl<|zC au 0 (au != 0) rfl rfl rfl<|zA (B (au != 0)) rfl<|s_nil ?_
 refine W.cond (au != 0) rfl (fun aG=>?_) (fun aG=>?_)
 ·replace hM:=M.e_t hM aG
  exact (M.e_fail hM).elim
 replace hM:=M.e_f hM aG
 replace aG:=dI aG
 refine W.seq<|W.region rfl<|zM (Pq aq) rfl<|zM av rfl ?_;obtain ⟨bx,a6,hM⟩:=M.e_bind hM;refine s_call cf58 [Pq aq,av] rfl (zbk s_Sections s_Marks s_Reaches marks (aH.app _) aI (aJ.app _) aK (aL.app _) aM (Has.here (k:=1) rfl) (aN.app _) aO a6 _ (H.gt 5)) ?_
 rintro vq bz ⟨r3,rfl,hvq,ai⟩
 subst vq;(try dsimp only at hM);replace H:=H.bk ai;clear ai;refine s_val (x_not (b:=r3) rfl)<|zA (B (!r3)) rfl<|s_nil ?_
 refine W.cond (!r3) rfl (fun aP=>?_) (fun aP=>?_)
 ·replace hM:=M.e_t hM aP;refine W.seq<|W.region rfl<|s_val (x_bld (ps:=[]) (zs:=[I 0,I 0,I 0,I 0]) (L':=[I 0,I 0,I 0,I 0]) rfl Tryz.underlying61 Al61 rfl (Bd61 Tryz.underlying61) (.nil)) ?_;refine t_sw 3 0 [I 0,I 0,I 0,I 0] (.agg #[I 0,I 0,I 0,I 0]) H rfl rfl Sz61 rfl rfl rfl rfl ?_;intro bA H;refine zA (I 7) rfl<|s_nil ?_;replace H:=H.pk [3];refine W.ret ?_
  have a7:=(H.bl 0)
  have aB:=M.e_pure hM
  exact ⟨_,(resE_ofn (vs:=[.agg #[I 0,I 0,I 0,I 0],I 7]) rfl rfl (.cell (v:=.agg #[I 0,I 0,I 0,I 0]) rfl (run_loadVar_ag (ds:=[I 0,I 0,I 0,I 0]) Ag61 Sz61 a7 rfl rfl)<|.tmp (v:=I 7) rfl<|.nil)),⟨0,0,0,0,7,aB,rfl,(H.pk [])⟩⟩
 replace hM:=M.e_f hM aP;refine W.skip<|W.seq<|W.region rfl ?_;obtain ⟨bB,a8,hM⟩:=M.e_bind hM;refine s_call cf67 [] rfl (zc1 a8 _ (H.gt 5)) ?_
 rintro vq bC ⟨rfl,hvq,ai⟩
 subst vq;(try dsimp only at hM);replace H:=H.bk ai;clear ai;refine t_alloc (cs:=[.nilFunc]) H Al138 rfl ?_;intro bD bE H;refine t_sw 0 0 [.func (.func 106) #[] #[]] (.agg #[.func (.func 106) #[] #[]]) H rfl rfl Sz138 rfl rfl rfl rfl ?_;intro bF H;refine s_nil<|W.seq<|W.seq<|W.region rfl<|zM (B most) rfl<|s_nil ?_
 refine W.cond most rfl (fun aQ=>?_) (fun aQ=>?_)
 ·replace hM:=M.e_t hM aQ;refine W.region rfl ?_;obtain ⟨bG,ba,hM⟩:=M.e_bind hM;refine s_call cf68 [] rfl (zaI ba _ (H.gt 6)) ?_
  rintro vq bH ⟨rfl,hvq,ai⟩
  subst vq;(try dsimp only at hM);replace H:=H.bk ai;clear ai;refine t_sw 0 0 [.func (.func 107) #[] #[]] (.agg #[.func (.func 107) #[] #[]]) H rfl rfl Sz138 rfl rfl rfl rfl ?_;intro bI H;refine s_nil<|W.seq<|W.region rfl<|zM (Pq aq) rfl<|zM av rfl<|s_val (x_ld (v:=.agg #[I aj,I ak,I am,I ao,B ap]) rfl (ldb_ag (ds:=[I aj,I ak,I am,I ao,B ap]) Ag58 Sz58 (H.bl 1) rfl rfl))<|s_val (x_ld (v:=.agg #[.func (.func 107) #[] #[]]) rfl (ldb_ag (ds:=[.func (.func 107) #[] #[]]) Ag138 Sz138 (H.bl 0) rfl rfl)) ?_;obtain ⟨bJ,bb,hM⟩:=M.e_bind hM;refine s_call cf69 [Pq aq,av,.agg #[I aj,I ak,I am,I ao,B ap],.agg #[.func (.func 107) #[] #[]]] rfl (zaj s_Sections s_Marks s_Reaches marks (⟨(aj:Int),(ak:Int),(am:Int),(ao:Int),ap⟩:Rch) (aH.app _) aI (aJ.app _) aK (aL.app _) aM (Has.here (k:=2) rfl) (aN.app _) aO bb _ ((H.pk [3,0,1,2,4,5]).gt 5)) ?_
  rintro vq bK ⟨ab,ac,ae,ag,r1,rfl,hvq,ai⟩
  subst vq;(try dsimp only at hM)
  replace H:=H.pk [3,0,1,2,4,5] |>.bk ai
  clear ai;refine zM (.tuple #[.agg #[I ab,I ac,I ae,I ag],I r1]) rfl<|zX [.agg #[I ab,I ac,I ae,I ag],I r1] (.agg #[I ab,I ac,I ae,I ag]) rfl rfl<|zX [.agg #[I ab,I ac,I ae,I ag],I r1] (I r1) rfl rfl ?_;refine t_alloc (cs:=[I 0,I 0,I 0,I 0]) H Al61 rfl ?_;intro bc bL H;refine t_sw 0 0 [I ab,I ac,I ae,I ag] (.agg #[I ab,I ac,I ae,I ag]) H rfl rfl Sz61 rfl rfl rfl rfl ?_;intro bM H;refine zA (I r1) rfl<|s_nil ?_;replace H:=H.pk [0,5];refine W.seq<|W.region rfl<|s_val (x_ld (v:=.agg #[I ab,I ac,I ae,I ag]) rfl (ldb_ag (ds:=[I ab,I ac,I ae,I ag]) Ag61 Sz61 (H.bl 0) rfl rfl)) ?_;refine t_sw 1 0 [I ab,I ac,I ae,I ag] (.agg #[I ab,I ac,I ae,I ag]) H rfl rfl Sz61 rfl rfl rfl rfl ?_;intro bN H;refine zA (I 0) rfl<|s_nil ?_;refine W.ret ?_
  have bf:=(H.bl 1)
  have aB:=M.e_pure hM
  exact ⟨_,(resE_ofn (vs:=[.agg #[I ab,I ac,I ae,I ag],I 0]) rfl rfl (.cell (v:=.agg #[I ab,I ac,I ae,I ag]) rfl (run_loadVar_ag (ds:=[I ab,I ac,I ae,I ag]) Ag61 Sz61 bf rfl rfl)<|.tmp (v:=I 0) rfl<|.nil)),⟨ab,ac,ae,ag,0,aB,rfl,(H.pk [])⟩⟩
 replace hM:=M.e_f hM aQ;refine W.skip<|W.seq<|W.region rfl<|zM (Pq aq) rfl<|zM av rfl<|s_val (x_ld (v:=.agg #[I aj,I ak,I am,I ao,B ap]) rfl (ldb_ag (ds:=[I aj,I ak,I am,I ao,B ap]) Ag58 Sz58 (H.bl 1) rfl rfl))<|s_val (x_ld (v:=.agg #[.func (.func 106) #[] #[]]) rfl (ldb_ag (ds:=[.func (.func 106) #[] #[]]) Ag138 Sz138 (H.bl 0) rfl rfl)) ?_;obtain ⟨bO,bg,hM⟩:=M.e_bind hM;refine s_call cf69 [Pq aq,av,.agg #[I aj,I ak,I am,I ao,B ap],.agg #[.func (.func 106) #[] #[]]] rfl (zcb s_Sections s_Marks s_Reaches marks (⟨(aj:Int),(ak:Int),(am:Int),(ao:Int),ap⟩:Rch) (aH.app _) aI (aJ.app _) aK (aL.app _) aM (Has.here (k:=2) rfl) (aN.app _) aO bg _ ((H.pk [3,0,1,2,4,5]).gt 5)) ?_
 rintro vq bP ⟨ab,ac,ae,ag,r1,rfl,hvq,ai⟩
 subst vq;(try dsimp only at hM)
 replace H:=H.pk [3,0,1,2,4,5] |>.bk ai
 clear ai;refine zM (.tuple #[.agg #[I ab,I ac,I ae,I ag],I r1]) rfl<|zX [.agg #[I ab,I ac,I ae,I ag],I r1] (.agg #[I ab,I ac,I ae,I ag]) rfl rfl<|zX [.agg #[I ab,I ac,I ae,I ag],I r1] (I r1) rfl rfl ?_;refine t_alloc (cs:=[I 0,I 0,I 0,I 0]) H Al61 rfl ?_;intro bc bQ H;refine t_sw 0 0 [I ab,I ac,I ae,I ag] (.agg #[I ab,I ac,I ae,I ag]) H rfl rfl Sz61 rfl rfl rfl rfl ?_;intro bR H;refine zA (I r1) rfl<|s_nil ?_;replace H:=H.pk [0,5];refine W.seq<|W.region rfl<|s_val (x_ld (v:=.agg #[I ab,I ac,I ae,I ag]) rfl (ldb_ag (ds:=[I ab,I ac,I ae,I ag]) Ag61 Sz61 (H.bl 0) rfl rfl)) ?_;refine t_sw 1 0 [I ab,I ac,I ae,I ag] (.agg #[I ab,I ac,I ae,I ag]) H rfl rfl Sz61 rfl rfl rfl rfl ?_;intro bS H;refine zA (I 0) rfl<|s_nil ?_;refine W.ret ?_
 have bh:=(H.bl 1)
 have aB:=M.e_pure hM
 exact ⟨_,(resE_ofn (vs:=[.agg #[I ab,I ac,I ae,I ag],I 0]) rfl rfl (.cell (v:=.agg #[I ab,I ac,I ae,I ag]) rfl (run_loadVar_ag (ds:=[I ab,I ac,I ae,I ag]) Ag61 Sz61 bh rfl rfl)<|.tmp (v:=I 0) rfl<|.nil)),⟨ab,ac,ae,ag,0,aB,rfl,(H.pk [])⟩⟩

end Go.Proofs.YtlemgioaakecpaaGreat
end
section
set_option maxRecDepth 100000
set_option maxHeartbeats 16000000
namespace Go.Proofs.YtlemgioaakecpaaGreat
open Go Go.Nm
def zbQ (s_Sections:List Sect) (s_Marks:List Mrk) (s_Reaches:List Rch) (marks:List Int) (reach:Int) (c:Cas):Nat->M (Nat ⊕ (Unit ⊕ Unit)):=fun i =>
  bif decide ((i:Int)<(marks.length:Int)) then (
  M.grd (decide ((i:Int)<(marks.length:Int))) <|
  M.grd (decide ((0:Int)<=(marks.getD i 0))&&decide ((marks.getD i 0)<(s_Marks.length:Int))) <|
  M.bind (zaK (⟨((s_Sections.getD (Int.toNat ((s_Reaches.getD (Int.toNat reach) default).up)) default).place:Int),(c.up:Int),(c.up:Int)⟩:Mrk) (s_Marks.getD (Int.toNat (marks.getD i 0)) default)) fun r3 =>
  M.bind (M.opt (!r3) (zaK (⟨((s_Sections.getD (Int.toNat ((s_Reaches.getD (Int.toNat reach) default).down)) default).place:Int),(c.down:Int),(c.down:Int)⟩:Mrk) (s_Marks.getD (Int.toNat (marks.getD i 0)) default)) false) fun r4 =>
  bif (r3||r4) then (
  M.pure (.inr (.inl ())))
  else (
  M.pure (.inl (i+1))))
  else (
  M.pure (.inr (.inr ())))
def zcO (s_Sections:List Sect) (s_Marks:List Mrk) (s_Reaches:List Rch) (marks:List Int) (reach:Int) (c:Cas):M Bool :=
  M.bind (M.iter (zbQ s_Sections s_Marks s_Reaches marks reach c) 0) fun x_=>match x_ with
  | (.inl (_:Unit))=>(
  M.pure false)
  | (.inr (_:Unit))=>(
  M.pure true)
def zce (s_Sections:List Sect) (s_Marks:List Mrk) (s_Reaches:List Rch) (marks:List Int) (reach:Int) (c:Cas):M Bool :=
  M.grd (decide ((0:Int)<=reach)&&decide (reach<(s_Reaches.length:Int))) <|
  M.bind (zbP (s_Reaches.getD (Int.toNat reach) default) c) fun r2 =>
  bif r2 then (
  M.pure false)
  else (
  M.grd (decide ((0:Int)<=((s_Reaches.getD (Int.toNat reach) default).up))&&decide (((s_Reaches.getD (Int.toNat reach) default).up)<(s_Sections.length:Int))) <|
  M.grd (decide ((0:Int)<=((s_Reaches.getD (Int.toNat reach) default).down))&&decide (((s_Reaches.getD (Int.toNat reach) default).down)<(s_Sections.length:Int))) <|
  zcO s_Sections s_Marks s_Reaches marks reach c)
theorem zdO {R:List Chunk} {aD:Cells} {ac:Value} {aE:Cells} {ae:Value} {aF:Cells} {am:Value} {aG:Cells} {ai:Value} (s_Sections:List Sect) (s_Marks:List Mrk) (s_Reaches:List Rch) (marks:List Int) (reach:Int) (c:Cas) (aH:Reads R aD) (aq:Sl aD ac s_Sections) (aI:Reads R aE) (ax:Sl aE ae s_Marks) (aN:Reads R aF) (aJ:Sl aF am s_Reaches) (aK:Reads R aG) (au:Sl aG ai marks) {r:Bool} (hM:(zce s_Sections s_Marks s_Reaches marks reach c).Ends r) (w:World) (H:St w w [] R):Ret Tryz.prog 43 #[.agg #[ac,ae,am],ai,I reach,.agg #[I c.up,I c.down,I c.roughup,I c.roughdown]] w fun v w'=>∃ (y0:Bool),y0=r/\v=B y0/\St w w' [] R:=by
 refine ret_of_W Tryz.func43 rfl rfl rfl<|W.seq<|W.region rfl ?_;refine t_bx [ac,ae,am] H rfl ?_;intro ag aX H;refine t_bx [I c.up,I c.down,I c.roughup,I c.roughdown] H rfl ?_;intro av aY H;refine zA (B false) rfl<|s_nil<|W.seq<|W.region rfl<|s_val (x_fa (v:=Oq ag 2) rfl (fa_blk (o:=0) Fd81_2 Sz79))<|s_val (x_ld (v:=am) rfl (ldb_sc Sc79 (H.bl 1) rfl))<|zM (I reach) rfl ?_;obtain ⟨aZ,hM⟩:=M.e_gd hM;refine s_val (x_ix (v:=vat am 5 (Int.toNat reach)) rfl rfl (Sl.ix (α:=Rch) T79.und T79.size aJ (by omega) (by omega)))<|s_val (x_ld (v:=.agg #[I ((s_Reaches.getD (Int.toNat reach) default).up),I ((s_Reaches.getD (Int.toNat reach) default).down),I ((s_Reaches.getD (Int.toNat reach) default).lo),I ((s_Reaches.getD (Int.toNat reach) default).hi),B ((s_Reaches.getD (Int.toNat reach) default).narrow)]) rfl (ld_ag Ag151 Sz151 (At.mono (Rch_atA aJ (i:=reach) (by omega) (by omega)) (aN.at H)))) ?_;refine t_alloc (cs:=[I 0,I 0,I 0,I 0,B false]) H Al151 rfl ?_;intro ay a6 H;refine t_sw 0 0 [I ((s_Reaches.getD (Int.toNat reach) default).up),I ((s_Reaches.getD (Int.toNat reach) default).down),I ((s_Reaches.getD (Int.toNat reach) default).lo),I ((s_Reaches.getD (Int.toNat reach) default).hi),B ((s_Reaches.getD (Int.toNat reach) default).narrow)] (.agg #[I ((s_Reaches.getD (Int.toNat reach) default).up),I ((s_Reaches.getD (Int.toNat reach) default).down),I ((s_Reaches.getD (Int.toNat reach) default).lo),I ((s_Reaches.getD (Int.toNat reach) default).hi),B ((s_Reaches.getD (Int.toNat reach) default).narrow)]) H rfl rfl Sz151 rfl rfl rfl rfl ?_;intro a7 H;refine s_nil<|W.seq<|W.seq<|W.region rfl<|s_val (x_ld (v:=.agg #[I ((s_Reaches.getD (Int.toNat reach) default).up),I ((s_Reaches.getD (Int.toNat reach) default).down),I ((s_Reaches.getD (Int.toNat reach) default).lo),I ((s_Reaches.getD (Int.toNat reach) default).hi),B ((s_Reaches.getD (Int.toNat reach) default).narrow)]) rfl (ldb_ag (ds:=[I ((s_Reaches.getD (Int.toNat reach) default).up),I ((s_Reaches.getD (Int.toNat reach) default).down),I ((s_Reaches.getD (Int.toNat reach) default).lo),I ((s_Reaches.getD (Int.toNat reach) default).hi),B ((s_Reaches.getD (Int.toNat reach) default).narrow)]) Ag151 Sz151 (H.bl 0) rfl rfl))<|s_val (x_ld (v:=.agg #[I c.up,I c.down,I c.roughup,I c.roughdown]) rfl (ldb_ag (ds:=[I c.up,I c.down,I c.roughup,I c.roughdown]) Ag99 Sz99 (H.bl 1) rfl rfl)) ?_;obtain ⟨a8,aO,hM⟩:=M.e_bind hM;refine s_call cf91 [.agg #[I ((s_Reaches.getD (Int.toNat reach) default).up),I ((s_Reaches.getD (Int.toNat reach) default).down),I ((s_Reaches.getD (Int.toNat reach) default).lo),I ((s_Reaches.getD (Int.toNat reach) default).hi),B ((s_Reaches.getD (Int.toNat reach) default).narrow)],.agg #[I c.up,I c.down,I c.roughup,I c.roughdown]] rfl (zdk (s_Reaches.getD (Int.toNat reach) default) c aO _ (H.gt 3)) ?_
 rintro vq ba ⟨r2,rfl,hvq,aw⟩
 subst vq;(try dsimp only at hM);replace H:=H.bk aw;clear aw;refine s_nil ?_
 refine W.cond r2 rfl (fun az=>?_) (fun az=>?_)
 ·replace hM:=M.e_t hM az;refine W.seq<|W.region rfl<|zA (B false) rfl<|s_nil ?_;replace H:=H.pk [];refine W.ret ?_
  have ao:=M.e_pure hM
  exact ⟨_,resE_tmp rfl,⟨false,ao,rfl,H⟩⟩
 replace hM:=M.e_f hM az;refine W.skip ?_;refine W.seqJ (fun σ W=>∃ (aj:Nat) (ak:Nat) (ρ:Env),σ=upds ρ [(1,ai),(4,Pq ag),(10,Pq aj),(11,Pq ak)]/\(zcO s_Sections s_Marks s_Reaches marks reach c).Ends r/\St w W [cBlk ak [I ((s_Sections.getD (Int.toNat ((s_Reaches.getD (Int.toNat reach) default).down)) default).place),I c.down,I c.down] 150,cBlk aj [I ((s_Sections.getD (Int.toNat ((s_Reaches.getD (Int.toNat reach) default).up)) default).place),I c.up,I c.up] 150,cBlk ay [I ((s_Reaches.getD (Int.toNat reach) default).up),I ((s_Reaches.getD (Int.toNat reach) default).down),I ((s_Reaches.getD (Int.toNat reach) default).lo),I ((s_Reaches.getD (Int.toNat reach) default).hi),B ((s_Reaches.getD (Int.toNat reach) default).narrow)] 151,cBlk av [I c.up,I c.down,I c.roughup,I c.roughdown] 99,cBlk ag [ac,ae,am] 81] R) ?_ ?_
 ·skip
  refine W.drawT (fun W=>St w W [cBlk ay [I ((s_Reaches.getD (Int.toNat reach) default).up),I ((s_Reaches.getD (Int.toNat reach) default).down),I ((s_Reaches.getD (Int.toNat reach) default).lo),I ((s_Reaches.getD (Int.toNat reach) default).hi),B ((s_Reaches.getD (Int.toNat reach) default).narrow)] 151,cBlk av [I c.up,I c.down,I c.roughup,I c.roughdown] 99,cBlk ag [ac,ae,am] 81] R) (.q 0 (.q 1 (.q 2 (.q 3 (.q 4 (.q 5 (.q 6 (.q 7 (.q 8 (.q 9 (.q 10 (.q 11 (.q 12 (.q 13 (.q 14 (.q 15 (.q 16 (.q 17 (.q 18 (.q 19 (.q 20 (.q 21 (.q 22 (.q 23 (.q 24 (.q 25 (.l2 26 (.l 27 (.l 28 (.l 29 .nil))) 27 (.l 26 (.l 28 (.l 29 .nil)))))))))))))))))))))))))))))) mixed (by decide +kernel) rfl ?_;intro bb ab;replace H:=H.ext ab;clear ab
  refine ⟨(H.pk [0,1,2]),?_⟩
  refine t_q rfl (fun w' H=>x_fa (v:=Pq ag) rfl (fa_blk (o:=0) Fd81_0 Sz77))<|t_q rfl (fun w' H=>x_ld (v:=ac) rfl (ldb_sc Sc77 (H.bl 2) rfl))<|t_q rfl (fun w' H=>x_fa (v:=Pq ay) rfl (fa_blk (o:=0) Fd151_0 Sz3))<|t_q rfl (fun w' H=>x_ld (v:=I ((s_Reaches.getD (Int.toNat reach) default).up)) rfl (ldb_sc Sc3 (H.bl 0) rfl)) ?_;obtain ⟨bc,hM⟩:=M.e_gd hM;refine t_q rfl (fun w' H=>x_ix (v:=vat ac 2 (Int.toNat ((s_Reaches.getD (Int.toNat reach) default).up))) rfl rfl (Sl.ix (α:=Sect) T77.und T77.size aq (by omega) (by omega)))<|t_q rfl (fun w' H=>x_fa (v:=fat (vat ac 2 (Int.toNat ((s_Reaches.getD (Int.toNat reach) default).up))) 0) rfl (fa_pl Fd148_0 Sz3 (Sl.pl (i:=(s_Reaches.getD (Int.toNat reach) default).up) aq (by omega) (by omega))))<|t_q rfl (fun w' H=>x_ld (v:=I ((s_Sections.getD (Int.toNat ((s_Reaches.getD (Int.toNat reach) default).up)) default).place)) rfl (ld_sc Sc3 (At.mono (Sect_at0 aq (i:=(s_Reaches.getD (Int.toNat reach) default).up) (by omega) (by omega)) (aH.at H))))<|t_q rfl (fun w' H=>x_fa (v:=Pq av) rfl (fa_blk (o:=0) Fd99_0 Sz3))<|t_q rfl (fun w' H=>x_ld (v:=I c.up) rfl (ldb_sc Sc3 (H.bl 1) rfl))<|t_q rfl (fun w' H=>x_fa (v:=Pq av) rfl (fa_blk (o:=0) Fd99_0 Sz3))<|t_q rfl (fun w' H=>x_ld (v:=I c.up) rfl (ldb_sc Sc3 (H.bl 1) rfl))<|t_q rfl (fun w' H=>x_bld (ps:=[(0,I c.up),(1,I c.up)]) (zs:=[I 0,I 0]) (L':=[I c.up,I c.up]) rfl Tryz.underlying54 Al54 rfl (Bd54 Tryz.underlying54) (.cons (cs:=[I c.up]) rfl rfl rfl rfl rfl<|.cons (cs:=[I c.up]) rfl rfl rfl rfl rfl<|.nil))<|t_q rfl (fun w' H=>x_bld (ps:=[(0,I ((s_Sections.getD (Int.toNat ((s_Reaches.getD (Int.toNat reach) default).up)) default).place)),(1,.agg #[I c.up,I c.up])]) (zs:=[I 0,I 0,I 0]) (L':=[I ((s_Sections.getD (Int.toNat ((s_Reaches.getD (Int.toNat reach) default).up)) default).place),I c.up,I c.up]) rfl Tryz.underlying150 Al150 rfl (Bd150 Tryz.underlying150) (.cons (cs:=[I ((s_Sections.getD (Int.toNat ((s_Reaches.getD (Int.toNat reach) default).up)) default).place)]) rfl rfl rfl rfl rfl<|.cons (cs:=[I c.up,I c.up]) rfl rfl rfl rfl rfl<|.nil))<|t_q rfl (fun w' H=>x_fa (v:=Pq ag) rfl (fa_blk (o:=0) Fd81_0 Sz77)) ?_;refine t_q rfl (fun w' H=>x_ld (v:=ac) rfl (ldb_sc Sc77 (H.bl 2) rfl))<|t_q rfl (fun w' H=>x_fa (v:=Oq ay 1) rfl (fa_blk (o:=0) Fd151_1 Sz3))<|t_q rfl (fun w' H=>x_ld (v:=I ((s_Reaches.getD (Int.toNat reach) default).down)) rfl (ldb_sc Sc3 (H.bl 0) rfl)) ?_;obtain ⟨bf,hM⟩:=M.e_gd hM;refine t_q rfl (fun w' H=>x_ix (v:=vat ac 2 (Int.toNat ((s_Reaches.getD (Int.toNat reach) default).down))) rfl rfl (Sl.ix (α:=Sect) T77.und T77.size aq (by omega) (by omega)))<|t_q rfl (fun w' H=>x_fa (v:=fat (vat ac 2 (Int.toNat ((s_Reaches.getD (Int.toNat reach) default).down))) 0) rfl (fa_pl Fd148_0 Sz3 (Sl.pl (i:=(s_Reaches.getD (Int.toNat reach) default).down) aq (by omega) (by omega))))<|t_q rfl (fun w' H=>x_ld (v:=I ((s_Sections.getD (Int.toNat ((s_Reaches.getD (Int.toNat reach) default).down)) default).place)) rfl (ld_sc Sc3 (At.mono (Sect_at0 aq (i:=(s_Reaches.getD (Int.toNat reach) default).down) (by omega) (by omega)) (aH.at H))))<|t_q rfl (fun w' H=>x_fa (v:=Oq av 1) rfl (fa_blk (o:=0) Fd99_1 Sz3))<|t_q rfl (fun w' H=>x_ld (v:=I c.down) rfl (ldb_sc Sc3 (H.bl 1) rfl))<|t_q rfl (fun w' H=>x_fa (v:=Oq av 1) rfl (fa_blk (o:=0) Fd99_1 Sz3))<|t_q rfl (fun w' H=>x_ld (v:=I c.down) rfl (ldb_sc Sc3 (H.bl 1) rfl))<|t_q rfl (fun w' H=>x_bld (ps:=[(0,I c.down),(1,I c.down)]) (zs:=[I 0,I 0]) (L':=[I c.down,I c.down]) rfl Tryz.underlying54 Al54 rfl (Bd54 Tryz.underlying54) (.cons (cs:=[I c.down]) rfl rfl rfl rfl rfl<|.cons (cs:=[I c.down]) rfl rfl rfl rfl rfl<|.nil))<|t_q rfl (fun w' H=>x_bld (ps:=[(0,I ((s_Sections.getD (Int.toNat ((s_Reaches.getD (Int.toNat reach) default).down)) default).place)),(1,.agg #[I c.down,I c.down])]) (zs:=[I 0,I 0,I 0]) (L':=[I ((s_Sections.getD (Int.toNat ((s_Reaches.getD (Int.toNat reach) default).down)) default).place),I c.down,I c.down]) rfl Tryz.underlying150 Al150 rfl (Bd150 Tryz.underlying150) (.cons (cs:=[I ((s_Sections.getD (Int.toNat ((s_Reaches.getD (Int.toNat reach) default).down)) default).place)]) rfl rfl rfl rfl rfl<|.cons (cs:=[I c.down,I c.down]) rfl rfl rfl rfl rfl<|.nil)) ?_;refine t_l2 rfl rfl ?_ ?_
  ·skip
   refine t_alloc (cs:=[I 0,I 0,I 0]) H Al150 rfl ?_;intro aj bg H
   refine s_nil ⟨(H.pk [1,2,3]),?_⟩
   refine t_l rfl ?_;refine t_alloc (cs:=[I 0,I 0,I 0]) H Al150 rfl ?_;intro ak bh H
   refine s_nil ⟨(H.pk [2,3,4]),?_⟩
   refine t_l rfl ?_;refine t_sw 1 0 [I ((s_Sections.getD (Int.toNat ((s_Reaches.getD (Int.toNat reach) default).up)) default).place),I c.up,I c.up] (.agg #[I ((s_Sections.getD (Int.toNat ((s_Reaches.getD (Int.toNat reach) default).up)) default).place),I c.up,I c.up]) H rfl rfl Sz150 rfl rfl rfl rfl ?_;intro bi H
   refine s_nil ⟨(H.pk [2,3,4]),?_⟩
   refine t_l rfl ?_;refine t_sw 0 0 [I ((s_Sections.getD (Int.toNat ((s_Reaches.getD (Int.toNat reach) default).down)) default).place),I c.down,I c.down] (.agg #[I ((s_Sections.getD (Int.toNat ((s_Reaches.getD (Int.toNat reach) default).down)) default).place),I c.down,I c.down]) H rfl rfl Sz150 rfl rfl rfl rfl ?_;intro bj H
   refine s_nil ⟨(H.pk [2,3,4]),?_⟩
   refine t_nil ?_
   exact ⟨aj,ak,_,upds_of _ _ ⟨rfl,rfl,rfl,rfl,trivial⟩,hM,H⟩
  skip
  refine t_alloc (cs:=[I 0,I 0,I 0]) H Al150 rfl ?_;intro ak bm H
  refine s_nil ⟨(H.pk [1,2,3]),?_⟩
  refine t_l rfl ?_;refine t_alloc (cs:=[I 0,I 0,I 0]) H Al150 rfl ?_;intro aj bn H
  refine s_nil ⟨(H.pk [2,3,4]),?_⟩
  refine t_l rfl ?_;refine t_sw 0 0 [I ((s_Sections.getD (Int.toNat ((s_Reaches.getD (Int.toNat reach) default).up)) default).place),I c.up,I c.up] (.agg #[I ((s_Sections.getD (Int.toNat ((s_Reaches.getD (Int.toNat reach) default).up)) default).place),I c.up,I c.up]) H rfl rfl Sz150 rfl rfl rfl rfl ?_;intro bo H
  refine s_nil ⟨(H.pk [2,3,4]),?_⟩
  refine t_l rfl ?_;refine t_sw 1 0 [I ((s_Sections.getD (Int.toNat ((s_Reaches.getD (Int.toNat reach) default).down)) default).place),I c.down,I c.down] (.agg #[I ((s_Sections.getD (Int.toNat ((s_Reaches.getD (Int.toNat reach) default).down)) default).place),I c.down,I c.down]) H rfl rfl Sz150 rfl rfl rfl rfl ?_;intro bp H
  refine s_nil ⟨(H.pk [2,3,4]),?_⟩
  refine t_nil ?_
  exact ⟨aj,ak,_,upds_of _ _ ⟨rfl,rfl,rfl,rfl,trivial⟩,hM,(H.pk [1,0,2,3,4])⟩
 rintro _ bq ⟨aj,ak,ρ,rfl,hM,H⟩
 unfold zcO at hM
 refine W.seq<|W.seq<|W.region rfl<|zA (I 0) rfl<|s_nil ?_;replace H:=H.pk [0,1,4];refine W.block ?_;obtain ⟨aP,aA,aL⟩:=M.e_bind hM
 obtain ⟨br,aA⟩:=M.e_iter aA
 refine W.loop (fun m σ W=>∃ (i:Nat) (ρ:Env),σ=upds ρ [(1,ai),(4,Pq ag),(10,Pq aj),(11,Pq ak),(12,I (i:Int))]/\M.iterN (zbQ s_Sections s_Marks s_Reaches marks reach c) m i=some aP/\St w W [cBlk ak [I ((s_Sections.getD (Int.toNat ((s_Reaches.getD (Int.toNat reach) default).down)) default).place),I c.down,I c.down] 150,cBlk aj [I ((s_Sections.getD (Int.toNat ((s_Reaches.getD (Int.toNat reach) default).up)) default).place),I c.up,I c.up] 150,cBlk ag [ac,ae,am] 81] R) ?_ ?_
 ·exact ⟨_,0,_,upds_of _ _ ⟨rfl,rfl,rfl,rfl,rfl,trivial⟩,aA,H⟩
 rintro bt σ bu ⟨i,ρ,rfl,aM,H⟩
 obtain ⟨aQ,aR,bv,hM,aB⟩:=M.e_iterN aM
 simp only [zbQ] at hM
 clear aM;refine W.seq<|W.seq<|W.region rfl<|zM (I (i:Int)) rfl<|zM ai rfl ?_
 have bw:=(au).len_le
 refine s_val (x_lenS T28.und rfl au)<|zC (i:Int) (marks.length:Int) (decide ((i:Int)<(marks.length:Int))) rfl rfl rfl<|s_nil ?_
 refine W.cond (decide ((i:Int)<(marks.length:Int))) rfl (fun ap=>?_) (fun ap=>?_)
 ·replace hM:=M.e_t hM ap
  replace ap:=dI ap
  refine W.skip<|W.seq<|W.block<|W.seq ?_;refine W.draw (fun W=>St w W [cBlk ak [I ((s_Sections.getD (Int.toNat ((s_Reaches.getD (Int.toNat reach) default).down)) default).place),I c.down,I c.down] 150,cBlk aj [I ((s_Sections.getD (Int.toNat ((s_Reaches.getD (Int.toNat reach) default).up)) default).place),I c.up,I c.up] 150,cBlk ag [ac,ae,am] 81] R) [(0,true),(1,true),(2,true),(3,true),(4,true),(5,true),(6,true),(7,true),(8,true),(9,false),(10,true),(11,true),(12,true),(13,true),(14,true),(15,true),(16,true),(17,true),(18,true),(19,true),(20,false),(21,true)] mixed (by decide +kernel) rfl ?_;intro bx ab;replace H:=H.ext ab;clear ab
  refine ⟨(H.pk [0,1,2]),?_⟩
  refine d_q rfl (fun w' H=>x_ld (v:=.agg #[I ((s_Sections.getD (Int.toNat ((s_Reaches.getD (Int.toNat reach) default).up)) default).place),I c.up,I c.up]) rfl (ldb_ag (ds:=[I ((s_Sections.getD (Int.toNat ((s_Reaches.getD (Int.toNat reach) default).up)) default).place),I c.up,I c.up]) Ag150 Sz150 (H.bl 1) rfl rfl))<|d_q rfl (fun w' H=>x_fa (v:=Oq ag 1) rfl (fa_blk (o:=0) Fd81_1 Sz78))<|d_q rfl (fun w' H=>x_ld (v:=ae) rfl (ldb_sc Sc78 (H.bl 2) rfl))<|d_q rfl (fun w' H=>x_mv (v:=ai) rfl)<|d_q rfl (fun w' H=>x_mv (v:=I (i:Int)) rfl) ?_;obtain ⟨bz,hM⟩:=M.e_gd hM;refine d_q rfl (fun w' H=>x_ix (v:=vat ai 1 (Int.toNat (i:Int))) rfl rfl (Sl.ix (α:=Int) T28.und T28.size au (by omega) (by omega)))<|d_q rfl (fun w' H=>x_ld (v:=I (marks.getD i 0)) rfl (ld_sc Sc3 (At.mono (Int_at au (i:=(i:Int)) (by omega) (by omega)) (aK.at H)))) ?_;obtain ⟨bA,hM⟩:=M.e_gd hM;refine d_q rfl (fun w' H=>x_ix (v:=vat ae 3 (Int.toNat (marks.getD i 0))) rfl rfl (Sl.ix (α:=Mrk) T78.und T78.size ax (by omega) (by omega)))<|d_q rfl (fun w' H=>x_ld (v:=.agg #[I ((s_Marks.getD (Int.toNat (marks.getD i 0)) default).place),I ((s_Marks.getD (Int.toNat (marks.getD i 0)) default).lo),I ((s_Marks.getD (Int.toNat (marks.getD i 0)) default).hi)]) rfl (ld_ag Ag150 Sz150 (At.mono (Mrk_atA ax (i:=marks.getD i 0) (by omega) (by omega)) (aI.at H))))<|d_l rfl ?_;obtain ⟨bB,aS,hM⟩:=M.e_bind hM;refine s_call cf85 [.agg #[I ((s_Sections.getD (Int.toNat ((s_Reaches.getD (Int.toNat reach) default).up)) default).place),I c.up,I c.up],.agg #[I ((s_Marks.getD (Int.toNat (marks.getD i 0)) default).place),I ((s_Marks.getD (Int.toNat (marks.getD i 0)) default).lo),I ((s_Marks.getD (Int.toNat (marks.getD i 0)) default).hi)]] rfl (zcB (⟨((s_Sections.getD (Int.toNat ((s_Reaches.getD (Int.toNat reach) default).up)) default).place:Int),(c.up:Int),(c.up:Int)⟩:Mrk) (s_Marks.getD (Int.toNat (marks.getD i 0)) default) aS _ (H.gt 3)) ?_
  rintro vq bC ⟨r3,rfl,hvq,aw⟩
  subst vq;(try dsimp only at hM);replace H:=H.bk aw;clear aw
  refine s_nil ⟨(H.pk [0,1,2]),?_⟩
  refine d_q rfl (fun w' H=>x_mv (v:=B r3) rfl)<|d_qg (!r3) rfl (gy_f rfl) (fun hg=>(fun w' H=>x_ld (v:=.agg #[I ((s_Sections.getD (Int.toNat ((s_Reaches.getD (Int.toNat reach) default).down)) default).place),I c.down,I c.down]) rfl (ldb_ag (ds:=[I ((s_Sections.getD (Int.toNat ((s_Reaches.getD (Int.toNat reach) default).down)) default).place),I c.down,I c.down]) Ag150 Sz150 (H.bl 0) rfl rfl)))<|d_qg (!r3) rfl (gy_f rfl) (fun hg=>(fun w' H=>x_fa (v:=Oq ag 1) rfl (fa_blk (o:=0) Fd81_1 Sz78)))<|d_qg (!r3) rfl (gy_f rfl) (fun hg=>(fun w' H=>x_ld (v:=ae) (gd_of hg (Oq ag 1)) (ldb_sc Sc78 (H.bl 2) rfl)))<|d_qg (!r3) rfl (gy_f rfl) (fun hg=>(fun w' H=>x_mv (v:=ai) rfl))<|d_qg (!r3) rfl (gy_f rfl) (fun hg=>(fun w' H=>x_mv (v:=I (i:Int)) rfl))<|d_qg (!r3) rfl (gy_f rfl) (fun hg=>(fun w' H=>x_ix (v:=vat ai 1 (Int.toNat (i:Int))) (gd_of hg (ai)) (gd_of hg (I (i:Int))) (Sl.ix (α:=Int) T28.und T28.size au (by first | omega | (have ab:=hg; simp at ab; omega)) (by first | omega | (have ab:=hg; simp at ab; omega)))))<|d_qg (!r3) rfl (gy_f rfl) (fun hg=>(fun w' H=>x_ld (v:=I (marks.getD i 0)) (gd_of hg (vat ai 1 (Int.toNat (i:Int)))) (ld_sc Sc3 (At.mono (Int_at au (i:=(i:Int)) (by first | omega | (have ab:=hg; simp at ab; omega)) (by first | omega | (have ab:=hg; simp at ab; omega))) (aK.at H)))))<|d_qg (!r3) rfl (gy_f rfl) (fun hg=>(fun w' H=>x_ix (v:=vat ae 3 (Int.toNat (marks.getD i 0))) (gd_of hg (ae)) (gd_of hg (I (marks.getD i 0))) (Sl.ix (α:=Mrk) T78.und T78.size ax (by first | omega | (have ab:=hg; simp at ab; omega)) (by first | omega | (have ab:=hg; simp at ab; omega)))))<|d_qg (!r3) rfl (gy_f rfl) (fun hg=>(fun w' H=>x_ld (v:=.agg #[I ((s_Marks.getD (Int.toNat (marks.getD i 0)) default).place),I ((s_Marks.getD (Int.toNat (marks.getD i 0)) default).lo),I ((s_Marks.getD (Int.toNat (marks.getD i 0)) default).hi)]) (gd_of hg (vat ae 3 (Int.toNat (marks.getD i 0)))) (ld_ag Ag150 Sz150 (At.mono (Mrk_atA ax (i:=marks.getD i 0) (by first | omega | (have ab:=hg; simp at ab; omega)) (by first | omega | (have ab:=hg; simp at ab; omega))) (aI.at H))))) ?_;refine d_l rfl ?_;obtain ⟨r4,aT,hM⟩:=M.e_bind hM;refine t_gcall (!r3) (gy_f rfl) cf85 (B r4) (fun _=>[.agg #[I ((s_Sections.getD (Int.toNat ((s_Reaches.getD (Int.toNat reach) default).down)) default).place),I c.down,I c.down],.agg #[I ((s_Marks.getD (Int.toNat (marks.getD i 0)) default).place),I ((s_Marks.getD (Int.toNat (marks.getD i 0)) default).lo),I ((s_Marks.getD (Int.toNat (marks.getD i 0)) default).hi)]]) (fun hg=>lst2 (gd_of hg (.agg #[I ((s_Sections.getD (Int.toNat ((s_Reaches.getD (Int.toNat reach) default).down)) default).place),I c.down,I c.down])) (gd_of hg (.agg #[I ((s_Marks.getD (Int.toNat (marks.getD i 0)) default).place),I ((s_Marks.getD (Int.toNat (marks.getD i 0)) default).lo),I ((s_Marks.getD (Int.toNat (marks.getD i 0)) default).hi)]))) H (fun hg=>(zcB (⟨((s_Sections.getD (Int.toNat ((s_Reaches.getD (Int.toNat reach) default).down)) default).place:Int),(c.down:Int),(c.down:Int)⟩:Mrk) (s_Marks.getD (Int.toNat (marks.getD i 0)) default) (M.e_opt aT hg) _ (H.give (A:=[]) rfl)).mono fun v_ w_ ⟨y_,ao,aU,H_⟩=>by subst ao; exact ⟨aU,H.via H_⟩) ?_;intro bD H
  refine s_nil ⟨(H.pk [0,1,2]),?_⟩
  refine d_q rfl (fun w' H=>x_por (b:=r3) (r:=r4) rfl rfl (fun hb=>gd_of (c:=!r3) (by first | exact hb | (rw [hb]; rfl) | simp_all) (B r4))) ?_;refine d_nil ?_
  refine W.cond (r3||r4) rfl (fun aC=>?_) (fun aC=>?_)
  ·replace hM:=M.e_t hM aC;refine W.seq<|W.region rfl<|zA (B false) rfl<|s_nil ?_;refine W.ret ?_
   have aV:=M.e_inr hM aB
   subst aV;replace hM:=aL;(try dsimp only at hM)
   have ao:=M.e_pure hM
   exact ⟨_,resE_tmp rfl,⟨false,ao,rfl,(H.pk [])⟩⟩
  replace hM:=M.e_f hM aC;refine W.skip<|W.region rfl<|zM (I (i:Int)) rfl<|zR (i:Int) 1 ((i:Int)+1) rfl rfl rfl (by omega)<|zA (I ((i:Int)+1)) rfl<|s_nil ?_
  exact ⟨aQ,aR,i+1,_,upds_of _ _ ⟨rfl,rfl,rfl,rfl,rfl,trivial⟩,M.e_inl hM aB,H⟩
 replace hM:=M.e_f hM ap
 replace ap:=dI ap
 refine W.exit ?_
 have aW:=M.e_inr hM aB
 subst aW;replace hM:=aL;(try dsimp only at hM);replace H:=H.pk [];refine W.seq<|W.region rfl<|zA (B true) rfl<|s_nil ?_;refine W.ret ?_
 have ao:=M.e_pure hM
 exact ⟨_,resE_tmp rfl,⟨true,ao,rfl,H⟩⟩

def zbA (s_Sections:List Sect) (s_Marks:List Mrk) (s_Reaches:List Rch) (marks:List Int):(Int × Int × Nat)->M ((Int × Int × Nat) ⊕ (Int × Int)):=fun (s2,s3,s4) =>
  bif decide ((s4:Int)<(s_Reaches.length:Int)) then (
  M.grd (decide ((s4:Int)<(s_Reaches.length:Int))) <|
  M.bind (zan s_Sections s_Marks s_Reaches marks (s_Reaches.getD s4 default)) fun (ab,ac) =>
  M.bind (zay s3 ([(ac:Int)])) fun r3 =>
  M.pure (.inl (max s2 ab,r3,s4+1)))
  else (
  M.pure (.inr (s2,s3)))
def zb4 (s_Sections:List Sect) (s_Marks:List Mrk) (s_Reaches:List Rch) (marks:List Int):M (Int × Int × Int) :=
  M.bind (zar s_Sections s_Marks s_Reaches marks) fun x_=>match x_ with
  | (.inl r1)=>(
  bif r1 != 0 then (
  M.pure (0,0,r1))
  else (
  M.fail))
  | (.inr ab)=>(
  bif ab != 0 then (
  M.pure (0,0,ab))
  else (
  M.bind (zai s_Sections s_Marks s_Reaches marks) fun r2 =>
  bif !r2 then (
  M.pure (0,0,7))
  else (
  M.grd (decide (0<(s_Reaches.length:Int))) <|
  M.bind (zan s_Sections s_Marks s_Reaches marks (s_Reaches.getD 0 default)) fun (r0,ac) =>
  M.bind (M.iter (zbA s_Sections s_Marks s_Reaches marks) (r0,ac,0)) fun (s5,s6) =>
  bif decide (s6<s5) then (
  M.pure (0,0,5))
  else (
  M.pure (s5,s6,0)))))
theorem zew {R:List Chunk} {aR:Cells} {am:Value} {aS:Cells} {ao:Value} {aT:Cells} {ag:Value} {aU:Cells} {ak:Value} (s_Sections:List Sect) (s_Marks:List Mrk) (s_Reaches:List Rch) (marks:List Int) (aD:Reads R aR) (aE:Sl aR am s_Sections) (aF:Reads R aS) (aG:Sl aS ao s_Marks) (aB:Reads R aT) (ap:Sl aT ag s_Reaches) (aH:Reads R aU) (aI:Sl aU ak marks) {r:(Int × Int × Int)} (hM:(zb4 s_Sections s_Marks s_Reaches marks).Ends r) (w:World) (H:St w w [] R):Ret Tryz.prog 23 #[.agg #[am,ao,ag],ak] w fun v w'=>∃ (y0:Int) (y1:Int) (y2:Int),(y0,y1,y2)=r/\v = .tuple #[.agg #[I y0,I y1],I y2]/\St w w' [] R:=by
 refine ret_of_W Tryz.func23 rfl rfl rfl<|W.seq<|W.region rfl ?_;refine t_bx [am,ao,ag] H rfl ?_;intro aJ bB H;refine t_alloc (cs:=[I 0,I 0]) H Al54 rfl ?_;intro aL bC H;refine zA (I 0) rfl<|s_nil<|W.seq<|W.region rfl<|s_val (x_ld (v:=.agg #[am,ao,ag]) rfl (ldb_ag (ds:=[am,ao,ag]) Ag27 Sz27 (H.bl 1) rfl rfl))<|zM ak rfl ?_;obtain ⟨bD,aY,hM⟩:=M.e_bind hM;refine s_call cf57 [.agg #[am,ao,ag],ak] rfl (zcM s_Sections s_Marks s_Reaches marks (aD.app _) aE (aF.app _) aG (aB.app _) ap (aH.app _) aI aY _ (H.gt 2)) ?_
 rintro vq bE (⟨r1,aZ,hvq,ac⟩ | ⟨ai,aj,aK,a6,hvq,ac⟩)
 ·subst aZ;subst vq;(try dsimp only at hM);replace H:=H.bk ac;clear ac;refine zM (.tuple #[.pointer none,I r1]) rfl<|zX [.pointer none,I r1] (.pointer none) rfl rfl<|zX [.pointer none,I r1] (I r1) rfl rfl<|zA (.pointer none) rfl<|zA (I r1) rfl<|s_nil<|W.seq<|W.block<|W.seq<|W.region rfl ?_;refine zM (I r1) rfl<|zC r1 0 (r1 != 0) rfl rfl rfl<|zA (B (r1 != 0)) rfl<|s_nil ?_
  refine W.cond (r1 != 0) rfl (fun ax=>?_) (fun ax=>?_)
  ·replace hM:=M.e_t hM ax
   replace ax:=dI ax
   refine W.seq<|W.region rfl<|s_val (x_bld (ps:=[]) (zs:=[I 0,I 0]) (L':=[I 0,I 0]) rfl Tryz.underlying54 Al54 rfl (Bd54 Tryz.underlying54) (.nil))<|zM (I r1) rfl ?_;refine t_sw 0 0 [I 0,I 0] (.agg #[I 0,I 0]) H rfl rfl Sz54 rfl rfl rfl rfl ?_;intro bF H;refine zA (I r1) rfl<|s_nil ?_;refine W.ret ?_
   have a7:=(H.bl 0)
   have aq:=M.e_pure hM
   exact ⟨_,(resE_ofn (vs:=[.agg #[I 0,I 0],I r1]) rfl rfl (.cell (v:=.agg #[I 0,I 0]) rfl (run_loadVar_ag (ds:=[I 0,I 0]) Ag54 Sz54 a7 rfl rfl)<|.tmp (v:=I r1) rfl<|.nil)),⟨0,0,r1,aq,rfl,(H.pk [])⟩⟩
  replace hM:=M.e_f hM ax
  replace ax:=dI ax
  refine W.seq<|W.region rfl<|zM (.pointer none) rfl<|zM ak rfl ?_
  exact (M.e_fail hM).elim
 subst a6;subst vq;(try dsimp only at hM);replace H:=H.bk ac;clear ac;refine zM (.tuple #[Pq aj,I ai]) rfl<|zX [Pq aj,I ai] (Pq aj) rfl rfl<|zX [Pq aj,I ai] (I ai) rfl rfl<|zA (Pq aj) rfl<|zA (I ai) rfl<|s_nil<|W.seq<|W.block<|W.seq<|W.region rfl ?_;refine zM (I ai) rfl<|zC ai 0 (ai != 0) rfl rfl rfl<|zA (B (ai != 0)) rfl<|s_nil ?_
 refine W.cond (ai != 0) rfl (fun ay=>?_) (fun ay=>?_)
 ·replace hM:=M.e_t hM ay
  replace ay:=dI ay
  refine W.seq<|W.region rfl<|s_val (x_bld (ps:=[]) (zs:=[I 0,I 0]) (L':=[I 0,I 0]) rfl Tryz.underlying54 Al54 rfl (Bd54 Tryz.underlying54) (.nil))<|zM (I ai) rfl ?_;refine t_sw 2 0 [I 0,I 0] (.agg #[I 0,I 0]) H rfl rfl Sz54 rfl rfl rfl rfl ?_;intro bG H;refine zA (I ai) rfl<|s_nil ?_;replace H:=H.pk [2];refine W.ret ?_
  have a8:=(H.bl 0)
  have aq:=M.e_pure hM
  exact ⟨_,(resE_ofn (vs:=[.agg #[I 0,I 0],I ai]) rfl rfl (.cell (v:=.agg #[I 0,I 0]) rfl (run_loadVar_ag (ds:=[I 0,I 0]) Ag54 Sz54 a8 rfl rfl)<|.tmp (v:=I ai) rfl<|.nil)),⟨0,0,ai,aq,rfl,(H.pk [])⟩⟩
 replace hM:=M.e_f hM ay
 replace ay:=dI ay
 refine W.seq<|W.region rfl<|zM (Pq aj) rfl<|zM ak rfl ?_;obtain ⟨bH,ba,hM⟩:=M.e_bind hM;refine s_call cf58 [Pq aj,ak] rfl (zbk s_Sections s_Marks s_Reaches marks (aD.app _) aE (aF.app _) aG (aB.app _) ap (Has.here (k:=0) rfl) (aH.app _) aI ba _ (H.gt 4)) ?_
 rintro vq bI ⟨r2,rfl,hvq,ac⟩
 subst vq;(try dsimp only at hM);replace H:=H.bk ac;clear ac;refine s_val (x_not (b:=r2) rfl)<|zA (B (!r2)) rfl<|s_nil ?_
 refine W.cond (!r2) rfl (fun aM=>?_) (fun aM=>?_)
 ·replace hM:=M.e_t hM aM;refine W.seq<|W.region rfl<|s_val (x_bld (ps:=[]) (zs:=[I 0,I 0]) (L':=[I 0,I 0]) rfl Tryz.underlying54 Al54 rfl (Bd54 Tryz.underlying54) (.nil)) ?_;refine t_sw 2 0 [I 0,I 0] (.agg #[I 0,I 0]) H rfl rfl Sz54 rfl rfl rfl rfl ?_;intro bJ H;refine zA (I 7) rfl<|s_nil ?_;replace H:=H.pk [2];refine W.ret ?_
  have bb:=(H.bl 0)
  have aq:=M.e_pure hM
  exact ⟨_,(resE_ofn (vs:=[.agg #[I 0,I 0],I 7]) rfl rfl (.cell (v:=.agg #[I 0,I 0]) rfl (run_loadVar_ag (ds:=[I 0,I 0]) Ag54 Sz54 bb rfl rfl)<|.tmp (v:=I 7) rfl<|.nil)),⟨0,0,7,aq,rfl,(H.pk [])⟩⟩
 replace hM:=M.e_f hM aM;refine W.skip<|W.seq<|W.region rfl<|zM (Pq aj) rfl<|zM ak rfl<|s_val (x_fa (v:=Oq aJ 2) rfl (fa_blk (o:=0) Fd27_2 Sz25))<|s_val (x_ld (v:=ag) rfl (ldb_sc Sc25 (H.bl 3) rfl)) ?_;obtain ⟨bK,hM⟩:=M.e_gd hM;refine s_val (x_ix (v:=vat ag 5 (Int.toNat 0)) rfl rfl (Sl.ix (α:=Rch) T25.und T25.size ap (by omega) (by omega)))<|s_val (x_ld (v:=.agg #[I ((s_Reaches.getD 0 default).up),I ((s_Reaches.getD 0 default).down),I ((s_Reaches.getD 0 default).lo),I ((s_Reaches.getD 0 default).hi),B ((s_Reaches.getD 0 default).narrow)]) rfl (ld_ag Ag58 Sz58 (At.mono (Rch_atA ap (i:=0) (by omega) (by omega)) (aB.at H)))) ?_;obtain ⟨bL,bc,hM⟩:=M.e_bind hM;refine s_call cf66 [Pq aj,ak,.agg #[I ((s_Reaches.getD 0 default).up),I ((s_Reaches.getD 0 default).down),I ((s_Reaches.getD 0 default).lo),I ((s_Reaches.getD 0 default).hi),B ((s_Reaches.getD 0 default).narrow)]] rfl (zcA s_Sections s_Marks s_Reaches marks (s_Reaches.getD 0 default) (aD.app _) aE (aF.app _) aG (aB.app _) ap (Has.here (k:=0) rfl) (aH.app _) aI bc _ ((H.pk [1,0,2,3]).gt 3)) ?_
 rintro vq bM ⟨r0,aN,rfl,hvq,ac⟩
 subst vq;(try dsimp only at hM)
 replace H:=H.pk [1,0,2,3] |>.bk ac
 clear ac;refine t_alloc (cs:=[I 0,I 0]) H Al54 rfl ?_;intro aC bN H;refine t_sw 0 0 [I r0,I aN] (.agg #[I r0,I aN]) H rfl rfl Sz54 rfl rfl rfl rfl ?_;intro bO H;refine s_nil<|W.seq<|W.seq<|W.region rfl<|s_val (x_fa (v:=Oq aJ 2) rfl (fa_blk (o:=0) Fd27_2 Sz25))<|s_val (x_ld (v:=ag) rfl (ldb_sc Sc25 (H.bl 4) rfl)) ?_
 have bP:=(ap).len_le
 refine s_val (x_lenS T25.und rfl ap)<|zM (I 0) rfl<|s_nil<|W.block ?_;obtain ⟨bf,aO,bg⟩:=M.e_bind hM
 obtain ⟨bQ,aO⟩:=M.e_iter aO
 refine W.loop (fun m σ W=>∃ (s2:Int) (s3:Int) (s4:Nat) (ρ:Env),σ=upds ρ [(1,ak),(4,Pq aL),(6,Pq aj),(8,Pq aC),(37,ag),(38,I (s_Reaches.length:Int)),(39,I (s4:Int))]/\M.iterN (zbA s_Sections s_Marks s_Reaches marks) m (s2,s3,s4)=some bf/\St w W [cBlk aC [I s2,I s3] 54,cMemI encSpt aK (zaa s_Sections s_Marks s_Reaches),cBlk aj [am,ao,ag,.map (some aK)] 177,cBlk aL [I 0,I 0] 54,cBlk aJ [am,ao,ag] 27] R) ?_ ?_
 ·exact ⟨_,r0,aN,0,_,upds_of _ _ ⟨rfl,rfl,rfl,rfl,rfl,rfl,rfl,trivial⟩,aO,H⟩
 rintro bR σ bS ⟨s2,s3,s4,ρ,rfl,aV,H⟩
 obtain ⟨av,aw,bT,hM,au⟩:=M.e_iterN aV
 simp only [zbA] at hM
 clear aV;refine W.seq<|W.region rfl<|zC (s4:Int) (s_Reaches.length:Int) (decide ((s4:Int)<(s_Reaches.length:Int))) rfl rfl rfl<|s_nil<|W.seq ?_
 refine W.cond (decide ((s4:Int)<(s_Reaches.length:Int))) rfl (fun az=>?_) (fun az=>?_)
 ·replace hM:=M.e_t hM az
  replace az:=dI az
  refine W.skip<|W.seq<|W.block<|W.seq<|W.region rfl ?_;obtain ⟨bU,hM⟩:=M.e_gd hM;refine s_val (x_ix (v:=vat ag 5 (Int.toNat (s4:Int))) rfl rfl (Sl.ix (α:=Rch) T25.und T25.size ap (by omega) (by omega)))<|s_val (x_ld (v:=.agg #[I ((s_Reaches.getD s4 default).up),I ((s_Reaches.getD s4 default).down),I ((s_Reaches.getD s4 default).lo),I ((s_Reaches.getD s4 default).hi),B ((s_Reaches.getD s4 default).narrow)]) rfl (ld_ag Ag58 Sz58 (At.mono (Rch_atA ap (i:=(s4:Int)) (by omega) (by omega)) (aB.at H)))) ?_;refine t_alloc (cs:=[I 0,I 0,I 0,I 0,B false]) H Al58 rfl ?_;intro bh bV H;refine t_sw 0 0 [I ((s_Reaches.getD s4 default).up),I ((s_Reaches.getD s4 default).down),I ((s_Reaches.getD s4 default).lo),I ((s_Reaches.getD s4 default).hi),B ((s_Reaches.getD s4 default).narrow)] (.agg #[I ((s_Reaches.getD s4 default).up),I ((s_Reaches.getD s4 default).down),I ((s_Reaches.getD s4 default).lo),I ((s_Reaches.getD s4 default).hi),B ((s_Reaches.getD s4 default).narrow)]) H rfl rfl Sz58 rfl rfl rfl rfl ?_;intro bW H;refine s_nil<|W.seq<|W.region rfl<|zM (Pq aj) rfl<|zM ak rfl<|s_val (x_ld (v:=.agg #[I ((s_Reaches.getD s4 default).up),I ((s_Reaches.getD s4 default).down),I ((s_Reaches.getD s4 default).lo),I ((s_Reaches.getD s4 default).hi),B ((s_Reaches.getD s4 default).narrow)]) rfl (ldb_ag (ds:=[I ((s_Reaches.getD s4 default).up),I ((s_Reaches.getD s4 default).down),I ((s_Reaches.getD s4 default).lo),I ((s_Reaches.getD s4 default).hi),B ((s_Reaches.getD s4 default).narrow)]) Ag58 Sz58 (H.bl 0) rfl rfl)) ?_;obtain ⟨bX,bi,hM⟩:=M.e_bind hM;refine s_call cf66 [Pq aj,ak,.agg #[I ((s_Reaches.getD s4 default).up),I ((s_Reaches.getD s4 default).down),I ((s_Reaches.getD s4 default).lo),I ((s_Reaches.getD s4 default).hi),B ((s_Reaches.getD s4 default).narrow)]] rfl (zcA s_Sections s_Marks s_Reaches marks (s_Reaches.getD s4 default) (aD.app _) aE (aF.app _) aG (aB.app _) ap (Has.here (k:=2) rfl) (aH.app _) aI bi _ ((H.pk [2,0,1,3,4,5]).gt 5)) ?_
  rintro vq bY ⟨ab,ae,rfl,hvq,ac⟩
  subst vq;(try dsimp only at hM)
  replace H:=H.pk [2,0,1,3,4,5] |>.bk ac
  clear ac;refine t_alloc (cs:=[I 0,I 0]) H Al54 rfl ?_;intro aP bZ H;refine t_sw 0 0 [I ab,I ae] (.agg #[I ab,I ae]) H rfl rfl Sz54 rfl rfl rfl rfl ?_;intro b4 H;refine s_nil ?_;refine W.drawT (fun W=>St w W [cBlk aP [I ab,I ae] 54,cMemI encSpt aK (zaa s_Sections s_Marks s_Reaches),cBlk bh [I ((s_Reaches.getD s4 default).up),I ((s_Reaches.getD s4 default).down),I ((s_Reaches.getD s4 default).lo),I ((s_Reaches.getD s4 default).hi),B ((s_Reaches.getD s4 default).narrow)] 58,cBlk aj [am,ao,ag,.map (some aK)] 177,cBlk aL [I 0,I 0] 54,cBlk aJ [am,ao,ag] 27] R) (.q 0 (.q 2 (.q 3 (.q 5 (.q 7 (.q 8 (.l3 1 (.q 4 (.l2 6 (.l 9 (.l 10 (.q 11 (.l 12 .nil)))) 9 (.l 6 (.l 10 (.q 11 (.l 12 .nil)))))) 6 (.l2 1 (.q 4 (.l 9 (.l 10 (.q 11 (.l 12 .nil))))) 9 (.l2 1 (.q 4 (.l 10 (.q 11 (.l 12 .nil)))) 10 (.l 1 (.q 4 (.q 11 (.l 12 .nil)))))) 9 (.l2 1 (.q 4 (.l 6 (.l 10 (.q 11 (.l 12 .nil))))) 6 (.l2 1 (.q 4 (.l 10 (.q 11 (.l 12 .nil)))) 10 (.l 1 (.q 4 (.q 11 (.l 12 .nil))))))))))))) mixed (by decide +kernel) rfl ?_;intro b5 aW;replace H:=H.ext aW;clear aW
  refine ⟨(H.pk [0,1,2,4,5,6]),?_⟩
  refine t_q rfl (fun w' H=>x_fa (v:=Pq aC) rfl (fa_blk (o:=0) Fd54_0 Sz3))<|t_q rfl (fun w' H=>x_fa (v:=Pq aP) rfl (fa_blk (o:=0) Fd54_0 Sz3))<|t_q rfl (fun w' H=>x_ld (v:=I ab) rfl (ldb_sc Sc3 (H.bl 0) rfl))<|t_q rfl (fun w' H=>x_fa (v:=Oq aC 1) rfl (fa_blk (o:=0) Fd54_1 Sz3))<|t_q rfl (fun w' H=>x_fa (v:=Oq aP 1) rfl (fa_blk (o:=0) Fd54_1 Sz3))<|t_q rfl (fun w' H=>x_ld (v:=I ae) rfl (ldb_sc Sc3 (H.bl 0) rfl)) ?_;refine t_l3 rfl rfl rfl ?_ ?_ ?_
  ·skip
   refine s_val (x_ld (v:=I s2) rfl (ldb_sc Sc3 (H.bl 3) rfl)) ?_
   refine s_nil ⟨(H.pk [0,1,2,4,5,6]),?_⟩
   refine t_q rfl (fun w' H=>x_max (kd:=.i64) (a:=s2) (b:=ab) rfl rfl) ?_;refine t_l2 rfl rfl ?_ ?_
   ·skip
    refine s_val (x_ld (v:=I s3) rfl (ldb_sc Sc3 (H.bl 3) rfl)) ?_
    refine s_nil ⟨(H.pk [0,1,2,4,5,6]),?_⟩
    refine t_l rfl ?_;refine t_bs (α:=Int) T28 [I ae] [(ae:Int)] H rfl (.cons rfl (Flat.rep_enc _ (ae:Int))<|.nil) rfl rfl rfl ?_;intro bj b6 H
    have b7:=Sl.cells (H.os 0)
    have b8:=Sl.oc (H.os 0)
    refine s_nil ⟨(H.pk [1,2,3,5,6,7]),?_⟩
    refine t_l rfl ?_;obtain ⟨b9,bm,hM⟩:=M.e_bind hM;refine s_call cf73 [I s3,bj] rfl (zag s3 ([(ae:Int)]) (rdo 0) (H.os 0) bm _ (H.gt 8)) ?_
    rintro vq cb ⟨r3,rfl,hvq,ac⟩
    subst vq;(try dsimp only at hM);replace H:=H.bk ac;clear ac
    refine s_nil ⟨(H.pk [1,2,3,5,6,7]),?_⟩
    refine t_q rfl (fun w' H=>x_bld (ps:=[(0,I (max s2 ab)),(1,I r3)]) (zs:=[I 0,I 0]) (L':=[I (max s2 ab),I r3]) rfl Tryz.underlying54 Al54 rfl (Bd54 Tryz.underlying54) (.cons (cs:=[I (max s2 ab)]) rfl rfl rfl rfl rfl<|.cons (cs:=[I r3]) rfl rfl rfl rfl rfl<|.nil))<|t_l rfl ?_;refine t_sw 4 0 [I (max s2 ab),I r3] (.agg #[I (max s2 ab),I r3]) H rfl rfl Sz54 rfl rfl rfl rfl ?_;intro cc H
    refine s_nil ⟨(H.pk [1,2,3,5,6,7]),?_⟩
    refine t_nil ?_;replace H:=H.pk [2,4,5,6,7];refine W.region rfl<|zR (s4:Int) 1 ((s4:Int)+1) rfl rfl rfl (by omega)<|zM (I ((s4:Int)+1)) rfl<|s_nil ?_
    exact ⟨av,aw,max s2 ab,r3,s4+1,_,upds_of _ _ ⟨rfl,rfl,rfl,rfl,rfl,rfl,rfl,trivial⟩,M.e_inl hM au,(H.pk [1,0,2,3,4])⟩
   skip
   refine t_bs (α:=Int) T28 [I ae] [(ae:Int)] H rfl (.cons rfl (Flat.rep_enc _ (ae:Int))<|.nil) rfl rfl rfl ?_;intro bn cd H
   have ce:=Sl.cells (H.os 0)
   have cf:=Sl.oc (H.os 0)
   refine s_nil ⟨(H.pk [1,2,3,5,6,7]),?_⟩
   refine t_l rfl<|s_val (x_ld (v:=I s3) rfl (ldb_sc Sc3 (H.bl 4) rfl)) ?_
   refine s_nil ⟨(H.pk [1,2,3,5,6,7]),?_⟩
   refine t_l rfl ?_;obtain ⟨cg,bo,hM⟩:=M.e_bind hM;refine s_call cf73 [I s3,bn] rfl (zag s3 ([(ae:Int)]) (rdo 0) (H.os 0) bo _ (H.gt 8)) ?_
   rintro vq cj ⟨r3,rfl,hvq,ac⟩
   subst vq;(try dsimp only at hM);replace H:=H.bk ac;clear ac
   refine s_nil ⟨(H.pk [1,2,3,5,6,7]),?_⟩
   refine t_q rfl (fun w' H=>x_bld (ps:=[(0,I (max s2 ab)),(1,I r3)]) (zs:=[I 0,I 0]) (L':=[I (max s2 ab),I r3]) rfl Tryz.underlying54 Al54 rfl (Bd54 Tryz.underlying54) (.cons (cs:=[I (max s2 ab)]) rfl rfl rfl rfl rfl<|.cons (cs:=[I r3]) rfl rfl rfl rfl rfl<|.nil))<|t_l rfl ?_;refine t_sw 4 0 [I (max s2 ab),I r3] (.agg #[I (max s2 ab),I r3]) H rfl rfl Sz54 rfl rfl rfl rfl ?_;intro co H
   refine s_nil ⟨(H.pk [1,2,3,5,6,7]),?_⟩
   refine t_nil ?_;replace H:=H.pk [2,4,5,6,7];refine W.region rfl<|zR (s4:Int) 1 ((s4:Int)+1) rfl rfl rfl (by omega)<|zM (I ((s4:Int)+1)) rfl<|s_nil ?_
   exact ⟨av,aw,max s2 ab,r3,s4+1,_,upds_of _ _ ⟨rfl,rfl,rfl,rfl,rfl,rfl,rfl,trivial⟩,M.e_inl hM au,(H.pk [1,0,2,3,4])⟩
  ·skip
   refine s_val (x_ld (v:=I s3) rfl (ldb_sc Sc3 (H.bl 3) rfl)) ?_
   refine s_nil ⟨(H.pk [0,1,2,4,5,6]),?_⟩
   refine t_l2 rfl rfl ?_ ?_
   ·skip
    refine s_val (x_ld (v:=I s2) rfl (ldb_sc Sc3 (H.bl 3) rfl)) ?_
    refine s_nil ⟨(H.pk [0,1,2,4,5,6]),?_⟩
    refine t_q rfl (fun w' H=>x_max (kd:=.i64) (a:=s2) (b:=ab) rfl rfl)<|t_l rfl ?_;refine t_bs (α:=Int) T28 [I ae] [(ae:Int)] H rfl (.cons rfl (Flat.rep_enc _ (ae:Int))<|.nil) rfl rfl rfl ?_;intro bp cp H
    have cq:=Sl.cells (H.os 0)
    have cr:=Sl.oc (H.os 0)
    refine s_nil ⟨(H.pk [1,2,3,5,6,7]),?_⟩
    refine t_l rfl ?_;obtain ⟨ct,bq,hM⟩:=M.e_bind hM;refine s_call cf73 [I s3,bp] rfl (zag s3 ([(ae:Int)]) (rdo 0) (H.os 0) bq _ (H.gt 8)) ?_
    rintro vq cu ⟨r3,rfl,hvq,ac⟩
    subst vq;(try dsimp only at hM);replace H:=H.bk ac;clear ac
    refine s_nil ⟨(H.pk [1,2,3,5,6,7]),?_⟩
    refine t_q rfl (fun w' H=>x_bld (ps:=[(0,I (max s2 ab)),(1,I r3)]) (zs:=[I 0,I 0]) (L':=[I (max s2 ab),I r3]) rfl Tryz.underlying54 Al54 rfl (Bd54 Tryz.underlying54) (.cons (cs:=[I (max s2 ab)]) rfl rfl rfl rfl rfl<|.cons (cs:=[I r3]) rfl rfl rfl rfl rfl<|.nil))<|t_l rfl ?_;refine t_sw 4 0 [I (max s2 ab),I r3] (.agg #[I (max s2 ab),I r3]) H rfl rfl Sz54 rfl rfl rfl rfl ?_;intro cv H
    refine s_nil ⟨(H.pk [1,2,3,5,6,7]),?_⟩
    refine t_nil ?_;replace H:=H.pk [2,4,5,6,7];refine W.region rfl<|zR (s4:Int) 1 ((s4:Int)+1) rfl rfl rfl (by omega)<|zM (I ((s4:Int)+1)) rfl<|s_nil ?_
    exact ⟨av,aw,max s2 ab,r3,s4+1,_,upds_of _ _ ⟨rfl,rfl,rfl,rfl,rfl,rfl,rfl,trivial⟩,M.e_inl hM au,(H.pk [1,0,2,3,4])⟩
   skip
   refine t_bs (α:=Int) T28 [I ae] [(ae:Int)] H rfl (.cons rfl (Flat.rep_enc _ (ae:Int))<|.nil) rfl rfl rfl ?_;intro aX cw H
   have cx:=Sl.cells (H.os 0)
   have cy:=Sl.oc (H.os 0)
   refine s_nil ⟨(H.pk [1,2,3,5,6,7]),?_⟩
   refine t_l2 rfl rfl ?_ ?_
   ·skip
    refine s_val (x_ld (v:=I s2) rfl (ldb_sc Sc3 (H.bl 4) rfl)) ?_
    refine s_nil ⟨(H.pk [1,2,3,5,6,7]),?_⟩
    refine t_q rfl (fun w' H=>x_max (kd:=.i64) (a:=s2) (b:=ab) rfl rfl)<|t_l rfl ?_;obtain ⟨cz,br,hM⟩:=M.e_bind hM;refine s_call cf73 [I s3,aX] rfl (zag s3 ([(ae:Int)]) (rdo 0) (H.os 0) br _ (H.gt 8)) ?_
    rintro vq cA ⟨r3,rfl,hvq,ac⟩
    subst vq;(try dsimp only at hM);replace H:=H.bk ac;clear ac
    refine s_nil ⟨(H.pk [1,2,3,5,6,7]),?_⟩
    refine t_q rfl (fun w' H=>x_bld (ps:=[(0,I (max s2 ab)),(1,I r3)]) (zs:=[I 0,I 0]) (L':=[I (max s2 ab),I r3]) rfl Tryz.underlying54 Al54 rfl (Bd54 Tryz.underlying54) (.cons (cs:=[I (max s2 ab)]) rfl rfl rfl rfl rfl<|.cons (cs:=[I r3]) rfl rfl rfl rfl rfl<|.nil))<|t_l rfl ?_;refine t_sw 4 0 [I (max s2 ab),I r3] (.agg #[I (max s2 ab),I r3]) H rfl rfl Sz54 rfl rfl rfl rfl ?_;intro cB H
    refine s_nil ⟨(H.pk [1,2,3,5,6,7]),?_⟩
    refine t_nil ?_;replace H:=H.pk [2,4,5,6,7];refine W.region rfl<|zR (s4:Int) 1 ((s4:Int)+1) rfl rfl rfl (by omega)<|zM (I ((s4:Int)+1)) rfl<|s_nil ?_
    exact ⟨av,aw,max s2 ab,r3,s4+1,_,upds_of _ _ ⟨rfl,rfl,rfl,rfl,rfl,rfl,rfl,trivial⟩,M.e_inl hM au,(H.pk [1,0,2,3,4])⟩
   skip
   obtain ⟨cC,bt,hM⟩:=M.e_bind hM;refine s_call cf73 [I s3,aX] rfl (zag s3 ([(ae:Int)]) (rdo 0) (H.os 0) bt _ (H.gt 8)) ?_
   rintro vq cD ⟨r3,rfl,hvq,ac⟩
   subst vq;(try dsimp only at hM);replace H:=H.bk ac;clear ac
   refine s_nil ⟨(H.pk [1,2,3,5,6,7]),?_⟩
   refine t_l rfl<|s_val (x_ld (v:=I s2) rfl (ldb_sc Sc3 (H.bl 4) rfl)) ?_
   refine s_nil ⟨(H.pk [1,2,3,5,6,7]),?_⟩
   refine t_q rfl (fun w' H=>x_max (kd:=.i64) (a:=s2) (b:=ab) rfl rfl)<|t_q rfl (fun w' H=>x_bld (ps:=[(0,I (max s2 ab)),(1,I r3)]) (zs:=[I 0,I 0]) (L':=[I (max s2 ab),I r3]) rfl Tryz.underlying54 Al54 rfl (Bd54 Tryz.underlying54) (.cons (cs:=[I (max s2 ab)]) rfl rfl rfl rfl rfl<|.cons (cs:=[I r3]) rfl rfl rfl rfl rfl<|.nil))<|t_l rfl ?_;refine t_sw 4 0 [I (max s2 ab),I r3] (.agg #[I (max s2 ab),I r3]) H rfl rfl Sz54 rfl rfl rfl rfl ?_;intro cE H
   refine s_nil ⟨(H.pk [1,2,3,5,6,7]),?_⟩
   refine t_nil ?_;replace H:=H.pk [2,4,5,6,7];refine W.region rfl<|zR (s4:Int) 1 ((s4:Int)+1) rfl rfl rfl (by omega)<|zM (I ((s4:Int)+1)) rfl<|s_nil ?_
   exact ⟨av,aw,max s2 ab,r3,s4+1,_,upds_of _ _ ⟨rfl,rfl,rfl,rfl,rfl,rfl,rfl,trivial⟩,M.e_inl hM au,(H.pk [1,0,2,3,4])⟩
  skip
  refine t_bs (α:=Int) T28 [I ae] [(ae:Int)] H rfl (.cons rfl (Flat.rep_enc _ (ae:Int))<|.nil) rfl rfl rfl ?_;intro aQ cF H
  have cG:=Sl.cells (H.os 0)
  have cH:=Sl.oc (H.os 0)
  refine s_nil ⟨(H.pk [1,2,3,5,6,7]),?_⟩
  refine t_l2 rfl rfl ?_ ?_
  ·skip
   refine s_val (x_ld (v:=I s2) rfl (ldb_sc Sc3 (H.bl 4) rfl)) ?_
   refine s_nil ⟨(H.pk [1,2,3,5,6,7]),?_⟩
   refine t_q rfl (fun w' H=>x_max (kd:=.i64) (a:=s2) (b:=ab) rfl rfl)<|t_l rfl<|s_val (x_ld (v:=I s3) rfl (ldb_sc Sc3 (H.bl 4) rfl)) ?_
   refine s_nil ⟨(H.pk [1,2,3,5,6,7]),?_⟩
   refine t_l rfl ?_;obtain ⟨cI,bu,hM⟩:=M.e_bind hM;refine s_call cf73 [I s3,aQ] rfl (zag s3 ([(ae:Int)]) (rdo 0) (H.os 0) bu _ (H.gt 8)) ?_
   rintro vq cJ ⟨r3,rfl,hvq,ac⟩
   subst vq;(try dsimp only at hM);replace H:=H.bk ac;clear ac
   refine s_nil ⟨(H.pk [1,2,3,5,6,7]),?_⟩
   refine t_q rfl (fun w' H=>x_bld (ps:=[(0,I (max s2 ab)),(1,I r3)]) (zs:=[I 0,I 0]) (L':=[I (max s2 ab),I r3]) rfl Tryz.underlying54 Al54 rfl (Bd54 Tryz.underlying54) (.cons (cs:=[I (max s2 ab)]) rfl rfl rfl rfl rfl<|.cons (cs:=[I r3]) rfl rfl rfl rfl rfl<|.nil))<|t_l rfl ?_;refine t_sw 4 0 [I (max s2 ab),I r3] (.agg #[I (max s2 ab),I r3]) H rfl rfl Sz54 rfl rfl rfl rfl ?_;intro cK H
   refine s_nil ⟨(H.pk [1,2,3,5,6,7]),?_⟩
   refine t_nil ?_;replace H:=H.pk [2,4,5,6,7];refine W.region rfl<|zR (s4:Int) 1 ((s4:Int)+1) rfl rfl rfl (by omega)<|zM (I ((s4:Int)+1)) rfl<|s_nil ?_
   exact ⟨av,aw,max s2 ab,r3,s4+1,_,upds_of _ _ ⟨rfl,rfl,rfl,rfl,rfl,rfl,rfl,trivial⟩,M.e_inl hM au,(H.pk [1,0,2,3,4])⟩
  skip
  refine s_val (x_ld (v:=I s3) rfl (ldb_sc Sc3 (H.bl 4) rfl)) ?_
  refine s_nil ⟨(H.pk [1,2,3,5,6,7]),?_⟩
  refine t_l2 rfl rfl ?_ ?_
  ·skip
   refine s_val (x_ld (v:=I s2) rfl (ldb_sc Sc3 (H.bl 4) rfl)) ?_
   refine s_nil ⟨(H.pk [1,2,3,5,6,7]),?_⟩
   refine t_q rfl (fun w' H=>x_max (kd:=.i64) (a:=s2) (b:=ab) rfl rfl)<|t_l rfl ?_;obtain ⟨cL,bv,hM⟩:=M.e_bind hM;refine s_call cf73 [I s3,aQ] rfl (zag s3 ([(ae:Int)]) (rdo 0) (H.os 0) bv _ (H.gt 8)) ?_
   rintro vq cM ⟨r3,rfl,hvq,ac⟩
   subst vq;(try dsimp only at hM);replace H:=H.bk ac;clear ac
   refine s_nil ⟨(H.pk [1,2,3,5,6,7]),?_⟩
   refine t_q rfl (fun w' H=>x_bld (ps:=[(0,I (max s2 ab)),(1,I r3)]) (zs:=[I 0,I 0]) (L':=[I (max s2 ab),I r3]) rfl Tryz.underlying54 Al54 rfl (Bd54 Tryz.underlying54) (.cons (cs:=[I (max s2 ab)]) rfl rfl rfl rfl rfl<|.cons (cs:=[I r3]) rfl rfl rfl rfl rfl<|.nil))<|t_l rfl ?_;refine t_sw 4 0 [I (max s2 ab),I r3] (.agg #[I (max s2 ab),I r3]) H rfl rfl Sz54 rfl rfl rfl rfl ?_;intro cN H
   refine s_nil ⟨(H.pk [1,2,3,5,6,7]),?_⟩
   refine t_nil ?_;replace H:=H.pk [2,4,5,6,7];refine W.region rfl<|zR (s4:Int) 1 ((s4:Int)+1) rfl rfl rfl (by omega)<|zM (I ((s4:Int)+1)) rfl<|s_nil ?_
   exact ⟨av,aw,max s2 ab,r3,s4+1,_,upds_of _ _ ⟨rfl,rfl,rfl,rfl,rfl,rfl,rfl,trivial⟩,M.e_inl hM au,(H.pk [1,0,2,3,4])⟩
  skip
  obtain ⟨cO,bw,hM⟩:=M.e_bind hM;refine s_call cf73 [I s3,aQ] rfl (zag s3 ([(ae:Int)]) (rdo 0) (H.os 0) bw _ (H.gt 8)) ?_
  rintro vq cP ⟨r3,rfl,hvq,ac⟩
  subst vq;(try dsimp only at hM);replace H:=H.bk ac;clear ac
  refine s_nil ⟨(H.pk [1,2,3,5,6,7]),?_⟩
  refine t_l rfl<|s_val (x_ld (v:=I s2) rfl (ldb_sc Sc3 (H.bl 4) rfl)) ?_
  refine s_nil ⟨(H.pk [1,2,3,5,6,7]),?_⟩
  refine t_q rfl (fun w' H=>x_max (kd:=.i64) (a:=s2) (b:=ab) rfl rfl)<|t_q rfl (fun w' H=>x_bld (ps:=[(0,I (max s2 ab)),(1,I r3)]) (zs:=[I 0,I 0]) (L':=[I (max s2 ab),I r3]) rfl Tryz.underlying54 Al54 rfl (Bd54 Tryz.underlying54) (.cons (cs:=[I (max s2 ab)]) rfl rfl rfl rfl rfl<|.cons (cs:=[I r3]) rfl rfl rfl rfl rfl<|.nil))<|t_l rfl ?_;refine t_sw 4 0 [I (max s2 ab),I r3] (.agg #[I (max s2 ab),I r3]) H rfl rfl Sz54 rfl rfl rfl rfl ?_;intro cQ H
  refine s_nil ⟨(H.pk [1,2,3,5,6,7]),?_⟩
  refine t_nil ?_;replace H:=H.pk [2,4,5,6,7];refine W.region rfl<|zR (s4:Int) 1 ((s4:Int)+1) rfl rfl rfl (by omega)<|zM (I ((s4:Int)+1)) rfl<|s_nil ?_
  exact ⟨av,aw,max s2 ab,r3,s4+1,_,upds_of _ _ ⟨rfl,rfl,rfl,rfl,rfl,rfl,rfl,trivial⟩,M.e_inl hM au,(H.pk [1,0,2,3,4])⟩
 replace hM:=M.e_f hM az
 replace az:=dI az
 refine W.exit ?_
 have bx:=M.e_inr hM au
 subst bx;replace hM:=bg;(try dsimp only at hM);replace H:=H.pk [0,3];refine W.seq<|W.seq<|W.region rfl<|s_val (x_fa (v:=Pq aC) rfl (fa_blk (o:=0) Fd54_0 Sz3))<|s_val (x_ld (v:=I s2) rfl (ldb_sc Sc3 (H.bl 0) rfl))<|s_val (x_fa (v:=Oq aC 1) rfl (fa_blk (o:=0) Fd54_1 Sz3))<|s_val (x_ld (v:=I s3) rfl (ldb_sc Sc3 (H.bl 0) rfl))<|zC s2 s3 (decide (s3<s2)) rfl rfl rfl<|s_nil ?_
 refine W.cond (decide (s3<s2)) rfl (fun aA=>?_) (fun aA=>?_)
 ·replace hM:=M.e_t hM aA
  replace aA:=dI aA
  refine W.seq<|W.region rfl<|s_val (x_bld (ps:=[]) (zs:=[I 0,I 0]) (L':=[I 0,I 0]) rfl Tryz.underlying54 Al54 rfl (Bd54 Tryz.underlying54) (.nil)) ?_;refine t_sw 1 0 [I 0,I 0] (.agg #[I 0,I 0]) H rfl rfl Sz54 rfl rfl rfl rfl ?_;intro cR H;refine zA (I 5) rfl<|s_nil ?_;refine W.ret ?_
  have bz:=(H.bl 1)
  have aq:=M.e_pure hM
  exact ⟨_,(resE_ofn (vs:=[.agg #[I 0,I 0],I 5]) rfl rfl (.cell (v:=.agg #[I 0,I 0]) rfl (run_loadVar_ag (ds:=[I 0,I 0]) Ag54 Sz54 bz rfl rfl)<|.tmp (v:=I 5) rfl<|.nil)),⟨0,0,5,aq,rfl,(H.pk [])⟩⟩
 replace hM:=M.e_f hM aA
 replace aA:=dI aA
 refine W.skip<|W.seq<|W.region rfl<|s_val (x_ld (v:=.agg #[I s2,I s3]) rfl (ldb_ag (ds:=[I s2,I s3]) Ag54 Sz54 (H.bl 0) rfl rfl)) ?_;refine t_sw 1 0 [I s2,I s3] (.agg #[I s2,I s3]) H rfl rfl Sz54 rfl rfl rfl rfl ?_;intro cS H;refine zA (I 0) rfl<|s_nil ?_;refine W.ret ?_
 have bA:=(H.bl 1)
 have aq:=M.e_pure hM
 exact ⟨_,(resE_ofn (vs:=[.agg #[I s2,I s3],I 0]) rfl rfl (.cell (v:=.agg #[I s2,I s3]) rfl (run_loadVar_ag (ds:=[I s2,I s3]) Ag54 Sz54 bA rfl rfl)<|.tmp (v:=I 0) rfl<|.nil)),⟨s2,s3,0,aq,rfl,(H.pk [])⟩⟩

def za9 (s_Sections:List Sect) (s_Marks:List Mrk) (s_Reaches:List Rch) (marks:List Int):(Int × Int × Nat)->M ((Int × Int × Nat) ⊕ (Int × Int)):=fun (s2,s3,i) =>
  bif decide ((i:Int)<(s_Reaches.length:Int)) then (
  M.grd (decide ((i:Int)<(s_Reaches.length:Int))) <|
  M.bind (za1 s_Sections s_Marks s_Reaches marks (s_Reaches.getD i default)) fun (r0,r1) =>
  M.pure (.inl (max s2 r0,min s3 r1,i+1)))
  else (
  M.pure (.inr (s2,s3)))
def zcq (s_Sections:List Sect) (s_Marks:List Mrk) (s_Reaches:List Rch) (marks:List Int):M (Int × Int × Int) :=
  M.bind (zaY s_Sections s_Marks s_Reaches marks 0) fun r2 =>
  bif r2 != 0 then (
  M.pure (0,0,r2))
  else (
  M.bind (M.iter (za9 s_Sections s_Marks s_Reaches marks) (0,1099511627776,0)) fun (s4,s5) =>
  bif decide (s5<s4) then (
  M.pure (0,0,5))
  else (
  M.pure (s4,s5,0)))
theorem zdU {R:List Chunk} {aG:Cells} {ac:Value} {aH:Cells} {ae:Value} {aI:Cells} {ab:Value} {aJ:Cells} {ai:Value} (s_Sections:List Sect) (s_Marks:List Mrk) (s_Reaches:List Rch) (marks:List Int) (ax:Reads R aG) (ay:Sl aG ac s_Sections) (az:Reads R aH) (aA:Sl aH ae s_Marks) (aw:Reads R aI) (ak:Sl aI ab s_Reaches) (aB:Reads R aJ) (aC:Sl aJ ai marks) {r:(Int × Int × Int)} (hM:(zcq s_Sections s_Marks s_Reaches marks).Ends r) (w:World) (H:St w w [] R):Ret Tryz.prog 44 #[.agg #[ac,ae,ab],ai] w fun v w'=>∃ (y0:Int) (y1:Int) (y2:Int),(y0,y1,y2)=r/\v = .tuple #[.agg #[I y0,I y1],I y2]/\St w w' [] R:=by
 refine ret_of_W Tryz.func44 rfl rfl rfl<|W.seq<|W.region rfl ?_;refine t_bx [ac,ae,ab] H rfl ?_;intro aq aX H;refine t_alloc (cs:=[I 0,I 0]) H Al54 rfl ?_;intro aD aY H;refine zA (I 0) rfl<|s_nil<|W.seq<|W.seq<|W.region rfl<|s_val (x_ld (v:=.agg #[ac,ae,ab]) rfl (ldb_ag (ds:=[ac,ae,ab]) Ag81 Sz81 (H.bl 1) rfl rfl))<|zM ai rfl ?_;obtain ⟨aZ,aO,hM⟩:=M.e_bind hM;refine s_call cf93 [.agg #[ac,ae,ab],ai,I 0] rfl (zc4 s_Sections s_Marks s_Reaches marks 0 (ax.app _) ay (az.app _) aA (aw.app _) ak (aB.app _) aC aO _ (H.gt 2)) ?_
 rintro vq a6 ⟨r2,rfl,hvq,aj⟩
 subst vq;(try dsimp only at hM);replace H:=H.bk aj;clear aj;refine zA (I r2) rfl<|s_nil<|W.seq<|W.region rfl<|zM (I r2) rfl<|zC r2 0 (r2 != 0) rfl rfl rfl<|s_nil ?_
 refine W.cond (r2 != 0) rfl (fun am=>?_) (fun am=>?_)
 ·replace hM:=M.e_t hM am
  replace am:=dI am
  refine W.seq<|W.region rfl<|s_val (x_bld (ps:=[]) (zs:=[I 0,I 0]) (L':=[I 0,I 0]) rfl Tryz.underlying54 Al54 rfl (Bd54 Tryz.underlying54) (.nil))<|zM (I r2) rfl ?_;refine t_sw 0 0 [I 0,I 0] (.agg #[I 0,I 0]) H rfl rfl Sz54 rfl rfl rfl rfl ?_;intro a7 H;refine zA (I r2) rfl<|s_nil ?_;refine W.ret ?_
  have aP:=(H.bl 0)
  have au:=M.e_pure hM
  exact ⟨_,(resE_ofn (vs:=[.agg #[I 0,I 0],I r2]) rfl rfl (.cell (v:=.agg #[I 0,I 0]) rfl (run_loadVar_ag (ds:=[I 0,I 0]) Ag54 Sz54 aP rfl rfl)<|.tmp (v:=I r2) rfl<|.nil)),⟨0,0,r2,au,rfl,(H.pk [])⟩⟩
 replace hM:=M.e_f hM am
 replace am:=dI am
 refine W.skip<|W.seq<|W.region rfl<|s_val (x_bld (ps:=[(1,I 1099511627776)]) (zs:=[I 0,I 0]) (L':=[I 0,I 1099511627776]) rfl Tryz.underlying54 Al54 rfl (Bd54 Tryz.underlying54) (.cons (cs:=[I 1099511627776]) rfl rfl rfl rfl rfl<|.nil)) ?_;refine t_alloc (cs:=[I 0,I 0]) H Al54 rfl ?_;intro ag a8 H;refine t_sw 0 0 [I 0,I 1099511627776] (.agg #[I 0,I 1099511627776]) H rfl rfl Sz54 rfl rfl rfl rfl ?_;intro ba H;refine s_nil<|W.seq<|W.seq<|W.region rfl<|zA (I 0) rfl<|s_nil<|W.block ?_;obtain ⟨aQ,aE,aR⟩:=M.e_bind hM
 obtain ⟨bb,aE⟩:=M.e_iter aE
 refine W.loop (fun m σ W=>∃ (s2:Int) (s3:Int) (i:Nat) (ρ:Env),σ=upds ρ [(1,ai),(2,Pq aq),(4,Pq aD),(7,Pq ag),(8,I (i:Int))]/\M.iterN (za9 s_Sections s_Marks s_Reaches marks) m (s2,s3,i)=some aQ/\St w W [cBlk ag [I s2,I s3] 54,cBlk aD [I 0,I 0] 54,cBlk aq [ac,ae,ab] 81] R) ?_ ?_
 ·exact ⟨_,0,1099511627776,0,_,upds_of _ _ ⟨rfl,rfl,rfl,rfl,rfl,trivial⟩,aE,H⟩
 rintro bc σ bf ⟨s2,s3,i,ρ,rfl,aK,H⟩
 obtain ⟨aL,aM,bg,hM,aF⟩:=M.e_iterN aK
 simp only [za9] at hM
 clear aK;refine W.seq<|W.seq<|W.region rfl<|zM (I (i:Int)) rfl<|s_val (x_fa (v:=Oq aq 2) rfl (fa_blk (o:=0) Fd81_2 Sz79))<|s_val (x_ld (v:=ab) rfl (ldb_sc Sc79 (H.bl 2) rfl)) ?_
 have bh:=(ak).len_le
 refine s_val (x_lenS T79.und rfl ak)<|zC (i:Int) (s_Reaches.length:Int) (decide ((i:Int)<(s_Reaches.length:Int))) rfl rfl rfl<|s_nil ?_
 refine W.cond (decide ((i:Int)<(s_Reaches.length:Int))) rfl (fun ao=>?_) (fun ao=>?_)
 ·replace hM:=M.e_t hM ao
  replace ao:=dI ao
  refine W.skip<|W.seq<|W.block<|W.seq ?_;refine W.drawT (fun W=>St w W [cBlk ag [I s2,I s3] 54,cBlk aD [I 0,I 0] 54,cBlk aq [ac,ae,ab] 81] R) (.q 0 (.q 1 (.q 2 (.q 3 (.q 4 (.q 5 (.q 6 (.l2 7 (.l 8 (.l 9 .nil)) 8 (.l 7 (.l 9 .nil)))))))))) mixed (by decide +kernel) rfl ?_;intro bi aN;replace H:=H.ext aN;clear aN
  refine ⟨(H.pk [0,1,2]),?_⟩
  refine t_q rfl (fun w' H=>x_ld (v:=.agg #[ac,ae,ab]) rfl (ldb_ag (ds:=[ac,ae,ab]) Ag81 Sz81 (H.bl 2) rfl rfl))<|t_q rfl (fun w' H=>x_mv (v:=ai) rfl)<|t_q rfl (fun w' H=>x_fa (v:=Oq aq 2) rfl (fa_blk (o:=0) Fd81_2 Sz79))<|t_q rfl (fun w' H=>x_ld (v:=ab) rfl (ldb_sc Sc79 (H.bl 2) rfl))<|t_q rfl (fun w' H=>x_mv (v:=I (i:Int)) rfl) ?_;obtain ⟨bj,hM⟩:=M.e_gd hM;refine t_q rfl (fun w' H=>x_ix (v:=vat ab 5 (Int.toNat (i:Int))) rfl rfl (Sl.ix (α:=Rch) T79.und T79.size ak (by omega) (by omega)))<|t_q rfl (fun w' H=>x_ld (v:=.agg #[I ((s_Reaches.getD i default).up),I ((s_Reaches.getD i default).down),I ((s_Reaches.getD i default).lo),I ((s_Reaches.getD i default).hi),B ((s_Reaches.getD i default).narrow)]) rfl (ld_ag Ag151 Sz151 (At.mono (Rch_atA ak (i:=(i:Int)) (by omega) (by omega)) (aw.at H)))) ?_;refine t_l2 rfl rfl ?_ ?_
  ·skip
   obtain ⟨bm,aS,hM⟩:=M.e_bind hM;refine s_call cf94 [.agg #[ac,ae,ab],ai,.agg #[I ((s_Reaches.getD i default).up),I ((s_Reaches.getD i default).down),I ((s_Reaches.getD i default).lo),I ((s_Reaches.getD i default).hi),B ((s_Reaches.getD i default).narrow)]] rfl (zcg s_Sections s_Marks s_Reaches marks (s_Reaches.getD i default) (ax.app _) ay (az.app _) aA (aw.app _) ak (aB.app _) aC aS _ (H.gt 3)) ?_
   rintro vq bn ⟨r0,r1,rfl,hvq,aj⟩
   subst vq;(try dsimp only at hM);replace H:=H.bk aj;clear aj
   refine s_nil ⟨(H.pk [0,1,2]),?_⟩
   refine t_l rfl ?_;refine t_alloc (cs:=[I 0,I 0]) H Al54 rfl ?_;intro av bo H
   refine s_nil ⟨(H.pk [1,2,3]),?_⟩
   refine t_l rfl ?_;refine t_sw 0 0 [I r0,I r1] (.agg #[I r0,I r1]) H rfl rfl Sz54 rfl rfl rfl rfl ?_;intro bp H
   refine s_nil ⟨(H.pk [1,2,3]),?_⟩
   refine t_nil<|W.region rfl<|s_val (x_fa (v:=Pq ag) rfl (fa_blk (o:=0) Fd54_0 Sz3))<|s_val (x_ld (v:=I s2) rfl (ldb_sc Sc3 (H.bl 1) rfl))<|s_val (x_fa (v:=Pq av) rfl (fa_blk (o:=0) Fd54_0 Sz3))<|s_val (x_ld (v:=I r0) rfl (ldb_sc Sc3 (H.bl 0) rfl))<|s_val (x_max (kd:=.i64) (a:=s2) (b:=r0) rfl rfl)<|s_val (x_fa (v:=Oq ag 1) rfl (fa_blk (o:=0) Fd54_1 Sz3))<|s_val (x_ld (v:=I s3) rfl (ldb_sc Sc3 (H.bl 1) rfl))<|s_val (x_fa (v:=Oq av 1) rfl (fa_blk (o:=0) Fd54_1 Sz3))<|s_val (x_ld (v:=I r1) rfl (ldb_sc Sc3 (H.bl 0) rfl)) ?_;refine s_val (x_min (kd:=.i64) (a:=s3) (b:=r1) rfl rfl)<|s_val (x_bld (ps:=[(0,I (max s2 r0)),(1,I (min s3 r1))]) (zs:=[I 0,I 0]) (L':=[I (max s2 r0),I (min s3 r1)]) rfl Tryz.underlying54 Al54 rfl (Bd54 Tryz.underlying54) (.cons (cs:=[I (max s2 r0)]) rfl rfl rfl rfl rfl<|.cons (cs:=[I (min s3 r1)]) rfl rfl rfl rfl rfl<|.nil)) ?_;refine t_sw 1 0 [I (max s2 r0),I (min s3 r1)] (.agg #[I (max s2 r0),I (min s3 r1)]) H rfl rfl Sz54 rfl rfl rfl rfl ?_;intro bq H;refine s_nil<|W.region rfl<|zM (I (i:Int)) rfl<|zR (i:Int) 1 ((i:Int)+1) rfl rfl rfl (by omega)<|zA (I ((i:Int)+1)) rfl<|s_nil ?_
   exact ⟨aL,aM,max s2 r0,min s3 r1,i+1,_,upds_of _ _ ⟨rfl,rfl,rfl,rfl,rfl,trivial⟩,M.e_inl hM aF,(H.pk [1,2,3])⟩
  skip
  refine t_alloc (cs:=[I 0,I 0]) H Al54 rfl ?_;intro av br H
  refine s_nil ⟨(H.pk [1,2,3]),?_⟩
  refine t_l rfl ?_;obtain ⟨bt,aT,hM⟩:=M.e_bind hM;refine s_call cf94 [.agg #[ac,ae,ab],ai,.agg #[I ((s_Reaches.getD i default).up),I ((s_Reaches.getD i default).down),I ((s_Reaches.getD i default).lo),I ((s_Reaches.getD i default).hi),B ((s_Reaches.getD i default).narrow)]] rfl (zcg s_Sections s_Marks s_Reaches marks (s_Reaches.getD i default) (ax.app _) ay (az.app _) aA (aw.app _) ak (aB.app _) aC aT _ (H.gt 4)) ?_
  rintro vq bu ⟨r0,r1,rfl,hvq,aj⟩
  subst vq;(try dsimp only at hM);replace H:=H.bk aj;clear aj
  refine s_nil ⟨(H.pk [1,2,3]),?_⟩
  refine t_l rfl ?_;refine t_sw 0 0 [I r0,I r1] (.agg #[I r0,I r1]) H rfl rfl Sz54 rfl rfl rfl rfl ?_;intro bv H
  refine s_nil ⟨(H.pk [1,2,3]),?_⟩
  refine t_nil<|W.region rfl<|s_val (x_fa (v:=Pq ag) rfl (fa_blk (o:=0) Fd54_0 Sz3))<|s_val (x_ld (v:=I s2) rfl (ldb_sc Sc3 (H.bl 1) rfl))<|s_val (x_fa (v:=Pq av) rfl (fa_blk (o:=0) Fd54_0 Sz3))<|s_val (x_ld (v:=I r0) rfl (ldb_sc Sc3 (H.bl 0) rfl))<|s_val (x_max (kd:=.i64) (a:=s2) (b:=r0) rfl rfl)<|s_val (x_fa (v:=Oq ag 1) rfl (fa_blk (o:=0) Fd54_1 Sz3))<|s_val (x_ld (v:=I s3) rfl (ldb_sc Sc3 (H.bl 1) rfl))<|s_val (x_fa (v:=Oq av 1) rfl (fa_blk (o:=0) Fd54_1 Sz3))<|s_val (x_ld (v:=I r1) rfl (ldb_sc Sc3 (H.bl 0) rfl)) ?_;refine s_val (x_min (kd:=.i64) (a:=s3) (b:=r1) rfl rfl)<|s_val (x_bld (ps:=[(0,I (max s2 r0)),(1,I (min s3 r1))]) (zs:=[I 0,I 0]) (L':=[I (max s2 r0),I (min s3 r1)]) rfl Tryz.underlying54 Al54 rfl (Bd54 Tryz.underlying54) (.cons (cs:=[I (max s2 r0)]) rfl rfl rfl rfl rfl<|.cons (cs:=[I (min s3 r1)]) rfl rfl rfl rfl rfl<|.nil)) ?_;refine t_sw 1 0 [I (max s2 r0),I (min s3 r1)] (.agg #[I (max s2 r0),I (min s3 r1)]) H rfl rfl Sz54 rfl rfl rfl rfl ?_;intro bw H;refine s_nil<|W.region rfl<|zM (I (i:Int)) rfl<|zR (i:Int) 1 ((i:Int)+1) rfl rfl rfl (by omega)<|zA (I ((i:Int)+1)) rfl<|s_nil ?_
  exact ⟨aL,aM,max s2 r0,min s3 r1,i+1,_,upds_of _ _ ⟨rfl,rfl,rfl,rfl,rfl,trivial⟩,M.e_inl hM aF,(H.pk [1,2,3])⟩
 replace hM:=M.e_f hM ao
 replace ao:=dI ao
 refine W.exit ?_
 have aU:=M.e_inr hM aF
 subst aU;replace hM:=aR;(try dsimp only at hM);refine W.seq<|W.seq<|W.region rfl<|s_val (x_fa (v:=Pq ag) rfl (fa_blk (o:=0) Fd54_0 Sz3))<|s_val (x_ld (v:=I s2) rfl (ldb_sc Sc3 (H.bl 0) rfl))<|s_val (x_fa (v:=Oq ag 1) rfl (fa_blk (o:=0) Fd54_1 Sz3))<|s_val (x_ld (v:=I s3) rfl (ldb_sc Sc3 (H.bl 0) rfl))<|zC s2 s3 (decide (s3<s2)) rfl rfl rfl<|s_nil ?_
 refine W.cond (decide (s3<s2)) rfl (fun ap=>?_) (fun ap=>?_)
 ·replace hM:=M.e_t hM ap
  replace ap:=dI ap
  refine W.seq<|W.region rfl<|s_val (x_bld (ps:=[]) (zs:=[I 0,I 0]) (L':=[I 0,I 0]) rfl Tryz.underlying54 Al54 rfl (Bd54 Tryz.underlying54) (.nil)) ?_;refine t_sw 1 0 [I 0,I 0] (.agg #[I 0,I 0]) H rfl rfl Sz54 rfl rfl rfl rfl ?_;intro bx H;refine zA (I 5) rfl<|s_nil ?_;replace H:=H.pk [1];refine W.ret ?_
  have aV:=(H.bl 0)
  have au:=M.e_pure hM
  exact ⟨_,(resE_ofn (vs:=[.agg #[I 0,I 0],I 5]) rfl rfl (.cell (v:=.agg #[I 0,I 0]) rfl (run_loadVar_ag (ds:=[I 0,I 0]) Ag54 Sz54 aV rfl rfl)<|.tmp (v:=I 5) rfl<|.nil)),⟨0,0,5,au,rfl,(H.pk [])⟩⟩
 replace hM:=M.e_f hM ap
 replace ap:=dI ap
 refine W.skip<|W.seq<|W.region rfl<|s_val (x_ld (v:=.agg #[I s2,I s3]) rfl (ldb_ag (ds:=[I s2,I s3]) Ag54 Sz54 (H.bl 0) rfl rfl)) ?_;refine t_sw 1 0 [I s2,I s3] (.agg #[I s2,I s3]) H rfl rfl Sz54 rfl rfl rfl rfl ?_;intro bz H;refine zA (I 0) rfl<|s_nil ?_;replace H:=H.pk [1];refine W.ret ?_
 have aW:=(H.bl 0)
 have au:=M.e_pure hM
 exact ⟨_,(resE_ofn (vs:=[.agg #[I s2,I s3],I 0]) rfl rfl (.cell (v:=.agg #[I s2,I s3]) rfl (run_loadVar_ag (ds:=[I s2,I s3]) Ag54 Sz54 aW rfl rfl)<|.tmp (v:=I 0) rfl<|.nil)),⟨s2,s3,0,au,rfl,(H.pk [])⟩⟩

def zbS (a b:List Mrk):Nat->M (Nat ⊕ (Unit ⊕ Unit)):=fun i =>
  bif decide ((i:Int)<(a.length:Int)) then (
  M.grd (decide ((i:Int)<(a.length:Int))) <|
  M.grd (decide ((i:Int)<(b.length:Int))) <|
  bif !(decide ((a.getD i default)=(b.getD i default))) then (
  M.pure (.inr (.inl ())))
  else (
  M.pure (.inl (i+1))))
  else (
  M.pure (.inr (.inr ())))
def zb6 (a b:List Mrk):M Bool :=
  bif (a.length:Int) != (b.length:Int) then (
  M.pure false)
  else (
  M.bind (M.iter (zbS a b) 0) fun x_=>match x_ with
  | (.inl (_:Unit))=>(
  M.pure false)
  | (.inr (_:Unit))=>(
  M.pure true))
theorem zdR {R:List Chunk} {aq:Cells} {ab:Value} {au:Cells} {ag:Value} (a:List Mrk) (b:List Mrk) (ay:Reads R aq) (ai:Sl aq ab a) (az:Reads R au) (ak:Sl au ag b) {r:Bool} (hM:(zb6 a b).Ends r) (w:World) (H:St w w [] R):Ret Tryz.prog 86 #[ab,ag] w fun v w'=>∃ (y0:Bool),y0=r/\v=B y0/\St w w' [] R:=by
 refine ret_of_W Tryz.func86 rfl rfl rfl<|W.seq<|W.region rfl<|zA (B false) rfl<|s_nil<|W.seq<|W.seq<|W.region rfl<|zM ab rfl ?_
 have aF:=(ai).len_le
 refine s_val (x_lenS T24.und rfl ai)<|zM ag rfl ?_
 have aG:=(ak).len_le
 refine s_val (x_lenS T24.und rfl ak)<|zC (a.length:Int) (b.length:Int) ((a.length:Int) != (b.length:Int)) rfl rfl rfl<|s_nil ?_
 refine W.cond ((a.length:Int) != (b.length:Int)) rfl (fun ac=>?_) (fun ac=>?_)
 ·replace hM:=M.e_t hM ac
  replace ac:=dI ac
  refine W.seq<|W.region rfl<|zA (B false) rfl<|s_nil ?_;refine W.ret ?_
  have aj:=M.e_pure hM
  exact ⟨_,resE_tmp rfl,⟨false,aj,rfl,H⟩⟩
 replace hM:=M.e_f hM ac
 replace ac:=dI ac
 refine W.skip<|W.seq<|W.seq<|W.region rfl<|zA (I 0) rfl<|s_nil<|W.block ?_;obtain ⟨aA,am,av⟩:=M.e_bind hM
 obtain ⟨aH,am⟩:=M.e_iter am
 refine W.loop (fun m σ W=>∃ (i:Nat) (ρ:Env),σ=upds ρ [(0,ab),(1,ag),(5,I (i:Int))]/\M.iterN (zbS a b) m i=some aA/\St w W [] R) ?_ ?_
 ·exact ⟨_,0,_,upds_of _ _ ⟨rfl,rfl,rfl,trivial⟩,am,H⟩
 rintro aI σ aJ ⟨i,ρ,rfl,aw,H⟩
 obtain ⟨aB,aC,aK,hM,ao⟩:=M.e_iterN aw
 simp only [zbS] at hM
 clear aw;refine W.seq<|W.seq<|W.region rfl<|zM (I (i:Int)) rfl<|zM ab rfl ?_
 have aL:=(ai).len_le
 refine s_val (x_lenS T24.und rfl ai)<|zC (i:Int) (a.length:Int) (decide ((i:Int)<(a.length:Int))) rfl rfl rfl<|s_nil ?_
 refine W.cond (decide ((i:Int)<(a.length:Int))) rfl (fun ae=>?_) (fun ae=>?_)
 ·replace hM:=M.e_t hM ae
  replace ae:=dI ae
  refine W.skip<|W.seq<|W.block<|W.seq ?_;refine W.draw (fun W=>St w W [] R) [(0,true),(1,true),(2,true),(3,true),(4,true),(5,true),(6,true),(7,true),(8,true)] mixed (by decide +kernel) rfl ?_;intro aM ax;replace H:=H.ext ax;clear ax
  refine ⟨(H.pk []),?_⟩
  refine d_q rfl (fun w' H=>x_mv (v:=ab) rfl)<|d_q rfl (fun w' H=>x_mv (v:=I (i:Int)) rfl) ?_;obtain ⟨aN,hM⟩:=M.e_gd hM;refine d_q rfl (fun w' H=>x_ix (v:=vat ab 3 (Int.toNat (i:Int))) rfl rfl (Sl.ix (α:=Mrk) T24.und T24.size ai (by omega) (by omega)))<|d_q rfl (fun w' H=>x_ld (v:=.agg #[I ((a.getD i default).place),I ((a.getD i default).lo),I ((a.getD i default).hi)]) rfl (ld_ag Ag70 Sz70 (At.mono (Mrk_atA ai (i:=(i:Int)) (by omega) (by omega)) (ay.at H))))<|d_q rfl (fun w' H=>x_mv (v:=ag) rfl)<|d_q rfl (fun w' H=>x_mv (v:=I (i:Int)) rfl) ?_;obtain ⟨aO,hM⟩:=M.e_gd hM;refine d_q rfl (fun w' H=>x_ix (v:=vat ag 3 (Int.toNat (i:Int))) rfl rfl (Sl.ix (α:=Mrk) T24.und T24.size ak (by omega) (by omega)))<|d_q rfl (fun w' H=>x_ld (v:=.agg #[I ((b.getD i default).place),I ((b.getD i default).lo),I ((b.getD i default).hi)]) rfl (ld_ag Ag70 Sz70 (At.mono (Mrk_atA ak (i:=(i:Int)) (by omega) (by omega)) (az.at H))))<|d_q rfl (fun w' H=>x_neS (eqT70 (a.getD i default) (b.getD i default) _) gdT70 rfl rfl) ?_;refine d_nil ?_
  refine W.cond (!(decide ((a.getD i default)=(b.getD i default)))) rfl (fun ap=>?_) (fun ap=>?_)
  ·replace hM:=M.e_t hM ap;refine W.seq<|W.region rfl<|zA (B false) rfl<|s_nil ?_;refine W.ret ?_
   have aD:=M.e_inr hM ao
   subst aD;replace hM:=av;(try dsimp only at hM)
   have aj:=M.e_pure hM
   exact ⟨_,resE_tmp rfl,⟨false,aj,rfl,H⟩⟩
  replace hM:=M.e_f hM ap;refine W.skip<|W.region rfl<|zM (I (i:Int)) rfl<|zR (i:Int) 1 ((i:Int)+1) rfl rfl rfl (by omega)<|zA (I ((i:Int)+1)) rfl<|s_nil ?_
  exact ⟨aB,aC,i+1,_,upds_of _ _ ⟨rfl,rfl,rfl,trivial⟩,M.e_inl hM ao,H⟩
 replace hM:=M.e_f hM ae
 replace ae:=dI ae
 refine W.exit ?_
 have aE:=M.e_inr hM ao
 subst aE;replace hM:=av;(try dsimp only at hM);refine W.seq<|W.region rfl<|zA (B true) rfl<|s_nil ?_;refine W.ret ?_
 have aj:=M.e_pure hM
 exact ⟨_,resE_tmp rfl,⟨true,aj,rfl,H⟩⟩

def zbr (a b:List Rch):Nat->M (Nat ⊕ (Unit ⊕ Unit)):=fun i =>
  bif decide ((i:Int)<(a.length:Int)) then (
  M.grd (decide ((i:Int)<(a.length:Int))) <|
  M.grd (decide ((i:Int)<(b.length:Int))) <|
  bif !(decide ((a.getD i default)=(b.getD i default))) then (
  M.pure (.inr (.inl ())))
  else (
  M.pure (.inl (i+1))))
  else (
  M.pure (.inr (.inr ())))
def zcs (a b:List Rch):M Bool :=
  bif (a.length:Int) != (b.length:Int) then (
  M.pure false)
  else (
  M.bind (M.iter (zbr a b) 0) fun x_=>match x_ with
  | (.inl (_:Unit))=>(
  M.pure false)
  | (.inr (_:Unit))=>(
  M.pure true))
theorem zdI {R:List Chunk} {aq:Cells} {ab:Value} {au:Cells} {ag:Value} (a:List Rch) (b:List Rch) (ay:Reads R aq) (ai:Sl aq ab a) (az:Reads R au) (ak:Sl au ag b) {r:Bool} (hM:(zcs a b).Ends r) (w:World) (H:St w w [] R):Ret Tryz.prog 87 #[ab,ag] w fun v w'=>∃ (y0:Bool),y0=r/\v=B y0/\St w w' [] R:=by
 refine ret_of_W Tryz.func87 rfl rfl rfl<|W.seq<|W.region rfl<|zA (B false) rfl<|s_nil<|W.seq<|W.seq<|W.region rfl<|zM ab rfl ?_
 have aF:=(ai).len_le
 refine s_val (x_lenS T25.und rfl ai)<|zM ag rfl ?_
 have aG:=(ak).len_le
 refine s_val (x_lenS T25.und rfl ak)<|zC (a.length:Int) (b.length:Int) ((a.length:Int) != (b.length:Int)) rfl rfl rfl<|s_nil ?_
 refine W.cond ((a.length:Int) != (b.length:Int)) rfl (fun ac=>?_) (fun ac=>?_)
 ·replace hM:=M.e_t hM ac
  replace ac:=dI ac
  refine W.seq<|W.region rfl<|zA (B false) rfl<|s_nil ?_;refine W.ret ?_
  have aj:=M.e_pure hM
  exact ⟨_,resE_tmp rfl,⟨false,aj,rfl,H⟩⟩
 replace hM:=M.e_f hM ac
 replace ac:=dI ac
 refine W.skip<|W.seq<|W.seq<|W.region rfl<|zA (I 0) rfl<|s_nil<|W.block ?_;obtain ⟨aA,am,av⟩:=M.e_bind hM
 obtain ⟨aH,am⟩:=M.e_iter am
 refine W.loop (fun m σ W=>∃ (i:Nat) (ρ:Env),σ=upds ρ [(0,ab),(1,ag),(5,I (i:Int))]/\M.iterN (zbr a b) m i=some aA/\St w W [] R) ?_ ?_
 ·exact ⟨_,0,_,upds_of _ _ ⟨rfl,rfl,rfl,trivial⟩,am,H⟩
 rintro aI σ aJ ⟨i,ρ,rfl,aw,H⟩
 obtain ⟨aB,aC,aK,hM,ao⟩:=M.e_iterN aw
 simp only [zbr] at hM
 clear aw;refine W.seq<|W.seq<|W.region rfl<|zM (I (i:Int)) rfl<|zM ab rfl ?_
 have aL:=(ai).len_le
 refine s_val (x_lenS T25.und rfl ai)<|zC (i:Int) (a.length:Int) (decide ((i:Int)<(a.length:Int))) rfl rfl rfl<|s_nil ?_
 refine W.cond (decide ((i:Int)<(a.length:Int))) rfl (fun ae=>?_) (fun ae=>?_)
 ·replace hM:=M.e_t hM ae
  replace ae:=dI ae
  refine W.skip<|W.seq<|W.block<|W.seq ?_;refine W.draw (fun W=>St w W [] R) [(0,true),(1,true),(2,true),(3,true),(4,true),(5,true),(6,true),(7,true),(8,true)] mixed (by decide +kernel) rfl ?_;intro aM ax;replace H:=H.ext ax;clear ax
  refine ⟨(H.pk []),?_⟩
  refine d_q rfl (fun w' H=>x_mv (v:=ab) rfl)<|d_q rfl (fun w' H=>x_mv (v:=I (i:Int)) rfl) ?_;obtain ⟨aN,hM⟩:=M.e_gd hM;refine d_q rfl (fun w' H=>x_ix (v:=vat ab 5 (Int.toNat (i:Int))) rfl rfl (Sl.ix (α:=Rch) T25.und T25.size ai (by omega) (by omega)))<|d_q rfl (fun w' H=>x_ld (v:=.agg #[I ((a.getD i default).up),I ((a.getD i default).down),I ((a.getD i default).lo),I ((a.getD i default).hi),B ((a.getD i default).narrow)]) rfl (ld_ag Ag58 Sz58 (At.mono (Rch_atA ai (i:=(i:Int)) (by omega) (by omega)) (ay.at H))))<|d_q rfl (fun w' H=>x_mv (v:=ag) rfl)<|d_q rfl (fun w' H=>x_mv (v:=I (i:Int)) rfl) ?_;obtain ⟨aO,hM⟩:=M.e_gd hM;refine d_q rfl (fun w' H=>x_ix (v:=vat ag 5 (Int.toNat (i:Int))) rfl rfl (Sl.ix (α:=Rch) T25.und T25.size ak (by omega) (by omega)))<|d_q rfl (fun w' H=>x_ld (v:=.agg #[I ((b.getD i default).up),I ((b.getD i default).down),I ((b.getD i default).lo),I ((b.getD i default).hi),B ((b.getD i default).narrow)]) rfl (ld_ag Ag58 Sz58 (At.mono (Rch_atA ak (i:=(i:Int)) (by omega) (by omega)) (az.at H))))<|d_q rfl (fun w' H=>x_neS (eqT58 (a.getD i default) (b.getD i default) _) gdT58 rfl rfl) ?_;refine d_nil ?_
  refine W.cond (!(decide ((a.getD i default)=(b.getD i default)))) rfl (fun ap=>?_) (fun ap=>?_)
  ·replace hM:=M.e_t hM ap;refine W.seq<|W.region rfl<|zA (B false) rfl<|s_nil ?_;refine W.ret ?_
   have aD:=M.e_inr hM ao
   subst aD;replace hM:=av;(try dsimp only at hM)
   have aj:=M.e_pure hM
   exact ⟨_,resE_tmp rfl,⟨false,aj,rfl,H⟩⟩
  replace hM:=M.e_f hM ap;refine W.skip<|W.region rfl<|zM (I (i:Int)) rfl<|zR (i:Int) 1 ((i:Int)+1) rfl rfl rfl (by omega)<|zA (I ((i:Int)+1)) rfl<|s_nil ?_
  exact ⟨aB,aC,i+1,_,upds_of _ _ ⟨rfl,rfl,rfl,trivial⟩,M.e_inl hM ao,H⟩
 replace hM:=M.e_f hM ae
 replace ae:=dI ae
 refine W.exit ?_
 have aE:=M.e_inr hM ao
 subst aE;replace hM:=av;(try dsimp only at hM);refine W.seq<|W.region rfl<|zA (B true) rfl<|s_nil ?_;refine W.ret ?_
 have aj:=M.e_pure hM
 exact ⟨_,resE_tmp rfl,⟨true,aj,rfl,H⟩⟩

def za4 (a b:List FRow):Nat->M (Nat ⊕ (Unit ⊕ Unit)):=fun i =>
  bif decide ((i:Int)<(a.length:Int)) then (
  M.grd (decide ((i:Int)<(a.length:Int))) <|
  M.grd (decide ((i:Int)<(b.length:Int))) <|
  bif !(decide ((a.getD i default)=(b.getD i default))) then (
  M.pure (.inr (.inl ())))
  else (
  M.pure (.inl (i+1))))
  else (
  M.pure (.inr (.inr ())))
def zcn (a b:List FRow):M Bool :=
  bif (a.length:Int) != (b.length:Int) then (
  M.pure false)
  else (
  M.bind (M.iter (za4 a b) 0) fun x_=>match x_ with
  | (.inl (_:Unit))=>(
  M.pure false)
  | (.inr (_:Unit))=>(
  M.pure true))
theorem zdK {R:List Chunk} {aq:Cells} {ab:Value} {au:Cells} {ag:Value} (a:List FRow) (b:List FRow) (ay:Reads R aq) (ai:Sl aq ab a) (az:Reads R au) (ak:Sl au ag b) {r:Bool} (hM:(zcn a b).Ends r) (w:World) (H:St w w [] R):Ret Tryz.prog 88 #[ab,ag] w fun v w'=>∃ (y0:Bool),y0=r/\v=B y0/\St w w' [] R:=by
 refine ret_of_W Tryz.func88 rfl rfl rfl<|W.seq<|W.region rfl<|zA (B false) rfl<|s_nil<|W.seq<|W.seq<|W.region rfl<|zM ab rfl ?_
 have aF:=(ai).len_le
 refine s_val (x_lenS T66.und rfl ai)<|zM ag rfl ?_
 have aG:=(ak).len_le
 refine s_val (x_lenS T66.und rfl ak)<|zC (a.length:Int) (b.length:Int) ((a.length:Int) != (b.length:Int)) rfl rfl rfl<|s_nil ?_
 refine W.cond ((a.length:Int) != (b.length:Int)) rfl (fun ac=>?_) (fun ac=>?_)
 ·replace hM:=M.e_t hM ac
  replace ac:=dI ac
  refine W.seq<|W.region rfl<|zA (B false) rfl<|s_nil ?_;refine W.ret ?_
  have aj:=M.e_pure hM
  exact ⟨_,resE_tmp rfl,⟨false,aj,rfl,H⟩⟩
 replace hM:=M.e_f hM ac
 replace ac:=dI ac
 refine W.skip<|W.seq<|W.seq<|W.region rfl<|zA (I 0) rfl<|s_nil<|W.block ?_;obtain ⟨aA,am,av⟩:=M.e_bind hM
 obtain ⟨aH,am⟩:=M.e_iter am
 refine W.loop (fun m σ W=>∃ (i:Nat) (ρ:Env),σ=upds ρ [(0,ab),(1,ag),(5,I (i:Int))]/\M.iterN (za4 a b) m i=some aA/\St w W [] R) ?_ ?_
 ·exact ⟨_,0,_,upds_of _ _ ⟨rfl,rfl,rfl,trivial⟩,am,H⟩
 rintro aI σ aJ ⟨i,ρ,rfl,aw,H⟩
 obtain ⟨aB,aC,aK,hM,ao⟩:=M.e_iterN aw
 simp only [za4] at hM
 clear aw;refine W.seq<|W.seq<|W.region rfl<|zM (I (i:Int)) rfl<|zM ab rfl ?_
 have aL:=(ai).len_le
 refine s_val (x_lenS T66.und rfl ai)<|zC (i:Int) (a.length:Int) (decide ((i:Int)<(a.length:Int))) rfl rfl rfl<|s_nil ?_
 refine W.cond (decide ((i:Int)<(a.length:Int))) rfl (fun ae=>?_) (fun ae=>?_)
 ·replace hM:=M.e_t hM ae
  replace ae:=dI ae
  refine W.skip<|W.seq<|W.block<|W.seq ?_;refine W.draw (fun W=>St w W [] R) [(0,true),(1,true),(2,true),(3,true),(4,true),(5,true),(6,true),(7,true),(8,true)] mixed (by decide +kernel) rfl ?_;intro aM ax;replace H:=H.ext ax;clear ax
  refine ⟨(H.pk []),?_⟩
  refine d_q rfl (fun w' H=>x_mv (v:=ab) rfl)<|d_q rfl (fun w' H=>x_mv (v:=I (i:Int)) rfl) ?_;obtain ⟨aN,hM⟩:=M.e_gd hM;refine d_q rfl (fun w' H=>x_ix (v:=vat ab 2 (Int.toNat (i:Int))) rfl rfl (Sl.ix (α:=FRow) T66.und T66.size ai (by omega) (by omega)))<|d_q rfl (fun w' H=>x_ld (v:=.agg #[I ((a.getD i default).stage),I ((a.getD i default).carry)]) rfl (ld_ag Ag109 Sz109 (At.mono (FRow_atA ai (i:=(i:Int)) (by omega) (by omega)) (ay.at H))))<|d_q rfl (fun w' H=>x_mv (v:=ag) rfl)<|d_q rfl (fun w' H=>x_mv (v:=I (i:Int)) rfl) ?_;obtain ⟨aO,hM⟩:=M.e_gd hM;refine d_q rfl (fun w' H=>x_ix (v:=vat ag 2 (Int.toNat (i:Int))) rfl rfl (Sl.ix (α:=FRow) T66.und T66.size ak (by omega) (by omega)))<|d_q rfl (fun w' H=>x_ld (v:=.agg #[I ((b.getD i default).stage),I ((b.getD i default).carry)]) rfl (ld_ag Ag109 Sz109 (At.mono (FRow_atA ak (i:=(i:Int)) (by omega) (by omega)) (az.at H))))<|d_q rfl (fun w' H=>x_neS (eqT109 (a.getD i default) (b.getD i default) _) gdT109 rfl rfl) ?_;refine d_nil ?_
  refine W.cond (!(decide ((a.getD i default)=(b.getD i default)))) rfl (fun ap=>?_) (fun ap=>?_)
  ·replace hM:=M.e_t hM ap;refine W.seq<|W.region rfl<|zA (B false) rfl<|s_nil ?_;refine W.ret ?_
   have aD:=M.e_inr hM ao
   subst aD;replace hM:=av;(try dsimp only at hM)
   have aj:=M.e_pure hM
   exact ⟨_,resE_tmp rfl,⟨false,aj,rfl,H⟩⟩
  replace hM:=M.e_f hM ap;refine W.skip<|W.region rfl<|zM (I (i:Int)) rfl<|zR (i:Int) 1 ((i:Int)+1) rfl rfl rfl (by omega)<|zA (I ((i:Int)+1)) rfl<|s_nil ?_
  exact ⟨aB,aC,i+1,_,upds_of _ _ ⟨rfl,rfl,rfl,trivial⟩,M.e_inl hM ao,H⟩
 replace hM:=M.e_f hM ae
 replace ae:=dI ae
 refine W.exit ?_
 have aE:=M.e_inr hM ao
 subst aE;replace hM:=av;(try dsimp only at hM);refine W.seq<|W.region rfl<|zA (B true) rfl<|s_nil ?_;refine W.ret ?_
 have aj:=M.e_pure hM
 exact ⟨_,resE_tmp rfl,⟨true,aj,rfl,H⟩⟩

def zbU (ab ac:List Sect):Nat->M (Nat ⊕ (Unit ⊕ Unit)):=fun i =>
  bif decide ((i:Int)<(ab.length:Int)) then (
  M.grd (decide ((i:Int)<(ab.length:Int))) <|
  M.grd (decide ((i:Int)<(ac.length:Int))) <|
  M.bind (M.opt (!(((ab.getD i default).place) != ((ac.getD i default).place))) (zcn ((ab.getD i default).rows) ((ac.getD i default).rows)) false) fun r4 =>
  bif ((((ab.getD i default).place) != ((ac.getD i default).place))||(!r4)) then (
  M.pure (.inr (.inl ())))
  else (
  M.pure (.inl (i+1))))
  else (
  M.pure (.inr (.inr ())))
def za8 (ab:List Sect) (ae:List Mrk) (ag:List Rch) (ac:List Sect) (ai:List Mrk) (aj:List Rch):M Bool :=
  M.bind (M.opt (!((ab.length:Int) != (ac.length:Int))) (zb6 ae ai) false) fun r2 =>
  M.bind (M.opt (!(((ab.length:Int) != (ac.length:Int))||(!r2))) (zcs ag aj) false) fun r3 =>
  bif ((((ab.length:Int) != (ac.length:Int))||(!r2))||(!r3)) then (
  M.pure false)
  else (
  M.bind (M.iter (zbU ab ac) 0) fun x_=>match x_ with
  | (.inl (_:Unit))=>(
  M.pure false)
  | (.inr (_:Unit))=>(
  M.pure true))
theorem zdd {R:List Chunk} {aN:Cells} {ag:Value} {aO:Cells} {ap:Value} {aP:Cells} {aq:Value} {aQ:Cells} {ai:Value} {aR:Cells} {au:Value} {aS:Cells} {av:Value} (ab:List Sect) (aB:List Mrk) (aC:List Rch) (ac:List Sect) (aD:List Mrk) (aE:List Rch) (aF:Reads R aN) (ao:Sl aN ag ab) (aV:Reads R aO) (aW:Sl aO ap aB) (aX:Reads R aP) (aY:Sl aP aq aC) (aG:Reads R aQ) (aw:Sl aQ ai ac) (aZ:Reads R aR) (a6:Sl aR au aD) (a7:Reads R aS) (a8:Sl aS av aE) {r:Bool} (hM:(za8 ab aB aC ac aD aE).Ends r) (w:World) (H:St w w [] R):Ret Tryz.prog 35 #[.agg #[ag,ap,aq],.agg #[ai,au,av]] w fun v w'=>∃ (y0:Bool),y0=r/\v=B y0/\St w w' [] R:=by
 refine ret_of_W Tryz.func35 rfl rfl rfl<|W.seq<|W.region rfl ?_;refine t_bx [ag,ap,aq] H rfl ?_;intro aj bo H;refine t_bx [ai,au,av] H rfl ?_;intro ak bp H;refine zA (B false) rfl<|s_nil<|W.seq<|W.seq<|W.region rfl<|s_val (x_fa (v:=Pq aj) rfl (fa_blk (o:=0) Fd27_0 Sz23))<|s_val (x_ld (v:=ag) rfl (ldb_sc Sc23 (H.bl 1) rfl)) ?_
 have bq:=(ao).len_le
 refine s_val (x_lenS T23.und rfl ao)<|s_val (x_fa (v:=Pq ak) rfl (fa_blk (o:=0) Fd27_0 Sz23))<|s_val (x_ld (v:=ai) rfl (ldb_sc Sc23 (H.bl 0) rfl)) ?_
 have br:=(aw).len_le
 refine s_val (x_lenS T23.und rfl aw)<|zC (ab.length:Int) (ac.length:Int) ((ab.length:Int) != (ac.length:Int)) rfl rfl rfl<|zM (B ((ab.length:Int) != (ac.length:Int))) rfl<|g_val (!((ab.length:Int) != (ac.length:Int))) (gy_f rfl) (fun hg=>x_fa (v:=Oq aj 1) rfl (fa_blk (o:=0) Fd27_1 Sz24))<|g_val (!((ab.length:Int) != (ac.length:Int))) (gy_f rfl) (fun hg=>x_ld (v:=ap) (gd_of hg (Oq aj 1)) (ldb_sc Sc24 (H.bl 1) rfl))<|g_val (!((ab.length:Int) != (ac.length:Int))) (gy_f rfl) (fun hg=>x_fa (v:=Oq ak 1) rfl (fa_blk (o:=0) Fd27_1 Sz24))<|g_val (!((ab.length:Int) != (ac.length:Int))) (gy_f rfl) (fun hg=>x_ld (v:=au) (gd_of hg (Oq ak 1)) (ldb_sc Sc24 (H.bl 0) rfl)) ?_;obtain ⟨r2,ba,hM⟩:=M.e_bind hM;refine t_gcall (!((ab.length:Int) != (ac.length:Int))) (gy_f rfl) cf86 (B r2) (fun _=>[ap,au]) (fun hg=>lst2 (gd_of hg (ap)) (gd_of hg (au))) H (fun hg=>(zdR aB aD (aV.app _) aW (aZ.app _) a6 (M.e_opt ba hg) _ (H.give (A:=[]) rfl)).mono fun v_ w_ ⟨y_,am,ay,H_⟩=>by subst am; exact ⟨ay,H.via H_⟩) ?_;intro bt H;refine g_val (!((ab.length:Int) != (ac.length:Int))) (gy_f rfl) (fun hg=>x_not (b:=r2) (gd_of hg (B r2)))<|s_val (x_por (b:=(ab.length:Int) != (ac.length:Int)) (r:=!r2) rfl rfl (fun hb=>gd_of (c:=!((ab.length:Int) != (ac.length:Int))) (by first | exact hb | (rw [hb]; rfl) | simp_all) (B (!r2))))<|zM (B (((ab.length:Int) != (ac.length:Int))||(!r2))) rfl<|g_val (!(((ab.length:Int) != (ac.length:Int))||(!r2))) (gy_f rfl) (fun hg=>x_fa (v:=Oq aj 2) rfl (fa_blk (o:=0) Fd27_2 Sz25))<|g_val (!(((ab.length:Int) != (ac.length:Int))||(!r2))) (gy_f rfl) (fun hg=>x_ld (v:=aq) (gd_of hg (Oq aj 2)) (ldb_sc Sc25 (H.bl 1) rfl))<|g_val (!(((ab.length:Int) != (ac.length:Int))||(!r2))) (gy_f rfl) (fun hg=>x_fa (v:=Oq ak 2) rfl (fa_blk (o:=0) Fd27_2 Sz25))<|g_val (!(((ab.length:Int) != (ac.length:Int))||(!r2))) (gy_f rfl) (fun hg=>x_ld (v:=av) (gd_of hg (Oq ak 2)) (ldb_sc Sc25 (H.bl 0) rfl)) ?_;obtain ⟨r3,bb,hM⟩:=M.e_bind hM;refine t_gcall (!(((ab.length:Int) != (ac.length:Int))||(!r2))) (gy_f rfl) cf87 (B r3) (fun _=>[aq,av]) (fun hg=>lst2 (gd_of hg (aq)) (gd_of hg (av))) H (fun hg=>(zdI aC aE (aX.app _) aY (a7.app _) a8 (M.e_opt bb hg) _ (H.give (A:=[]) rfl)).mono fun v_ w_ ⟨y_,am,ay,H_⟩=>by subst am; exact ⟨ay,H.via H_⟩) ?_;intro bu H;refine g_val (!(((ab.length:Int) != (ac.length:Int))||(!r2))) (gy_f rfl) (fun hg=>x_not (b:=r3) (gd_of hg (B r3)))<|s_val (x_por (b:=(((ab.length:Int) != (ac.length:Int))||(!r2))) (r:=!r3) rfl rfl (fun hb=>gd_of (c:=!(((ab.length:Int) != (ac.length:Int))||(!r2))) (by first | exact hb | (rw [hb]; rfl) | simp_all) (B (!r3))))<|s_nil ?_
 refine W.cond ((((ab.length:Int) != (ac.length:Int))||(!r2))||(!r3)) rfl (fun aH=>?_) (fun aH=>?_)
 ·replace hM:=M.e_t hM aH;refine W.seq<|W.region rfl<|zA (B false) rfl<|s_nil ?_;replace H:=H.pk [];refine W.ret ?_
  have am:=M.e_pure hM
  exact ⟨_,resE_tmp rfl,⟨false,am,rfl,H⟩⟩
 replace hM:=M.e_f hM aH;refine W.skip<|W.seq<|W.seq<|W.region rfl<|zA (I 0) rfl<|s_nil<|W.block ?_;obtain ⟨bc,aI,aT⟩:=M.e_bind hM
 obtain ⟨bv,aI⟩:=M.e_iter aI
 refine W.loop (fun m σ W=>∃ (i:Nat) (ρ:Env),σ=upds ρ [(2,Pq aj),(3,Pq ak),(5,I (i:Int))]/\M.iterN (zbU ab ac) m i=some bc/\St w W [cBlk ak [ai,au,av] 27,cBlk aj [ag,ap,aq] 27] R) ?_ ?_
 ·exact ⟨_,0,_,upds_of _ _ ⟨rfl,rfl,rfl,trivial⟩,aI,H⟩
 rintro bw σ bx ⟨i,ρ,rfl,aU,H⟩
 obtain ⟨bf,bg,bz,hM,aJ⟩:=M.e_iterN aU
 simp only [zbU] at hM
 clear aU;refine W.seq<|W.seq<|W.region rfl<|zM (I (i:Int)) rfl<|s_val (x_fa (v:=Pq aj) rfl (fa_blk (o:=0) Fd27_0 Sz23))<|s_val (x_ld (v:=ag) rfl (ldb_sc Sc23 (H.bl 1) rfl)) ?_
 have bA:=(ao).len_le
 refine s_val (x_lenS T23.und rfl ao)<|zC (i:Int) (ab.length:Int) (decide ((i:Int)<(ab.length:Int))) rfl rfl rfl<|s_nil ?_
 refine W.cond (decide ((i:Int)<(ab.length:Int))) rfl (fun ax=>?_) (fun ax=>?_)
 ·replace hM:=M.e_t hM ax
  replace ax:=dI ax
  refine W.skip<|W.seq<|W.block<|W.seq ?_;refine W.draw (fun W=>St w W [cBlk ak [ai,au,av] 27,cBlk aj [ag,ap,aq] 27] R) [(0,true),(1,true),(2,true),(3,true),(4,true),(5,true),(6,true),(7,true),(8,true),(9,true),(10,true),(11,true),(12,true),(13,true),(14,true),(15,true),(16,true),(17,true),(18,true),(19,true),(20,true),(21,true),(22,true),(23,true),(24,true),(25,true),(26,false),(27,true),(28,true)] mixed (by decide +kernel) rfl ?_;intro bB ae;replace H:=H.ext ae;clear ae
  refine ⟨(H.pk [0,1]),?_⟩
  refine d_q rfl (fun w' H=>x_fa (v:=Pq aj) rfl (fa_blk (o:=0) Fd27_0 Sz23))<|d_q rfl (fun w' H=>x_ld (v:=ag) rfl (ldb_sc Sc23 (H.bl 1) rfl))<|d_q rfl (fun w' H=>x_mv (v:=I (i:Int)) rfl) ?_;obtain ⟨bC,hM⟩:=M.e_gd hM;refine d_q rfl (fun w' H=>x_ix (v:=vat ag 2 (Int.toNat (i:Int))) rfl rfl (Sl.ix (α:=Sect) T23.und T23.size ao (by omega) (by omega)))<|d_q rfl (fun w' H=>x_fa (v:=fat (vat ag 2 (Int.toNat (i:Int))) 0) rfl (fa_pl Fd68_0 Sz3 (Sl.pl (i:=(i:Int)) ao (by omega) (by omega))))<|d_q rfl (fun w' H=>x_ld (v:=I ((ab.getD i default).place)) rfl (ld_sc Sc3 (At.mono (Sect_at0 ao (i:=(i:Int)) (by omega) (by omega)) (aF.at H))))<|d_q rfl (fun w' H=>x_fa (v:=Pq ak) rfl (fa_blk (o:=0) Fd27_0 Sz23))<|d_q rfl (fun w' H=>x_ld (v:=ai) rfl (ldb_sc Sc23 (H.bl 0) rfl))<|d_q rfl (fun w' H=>x_mv (v:=I (i:Int)) rfl) ?_;obtain ⟨bD,hM⟩:=M.e_gd hM;refine d_q rfl (fun w' H=>x_ix (v:=vat ai 2 (Int.toNat (i:Int))) rfl rfl (Sl.ix (α:=Sect) T23.und T23.size aw (by omega) (by omega)))<|d_q rfl (fun w' H=>x_fa (v:=fat (vat ai 2 (Int.toNat (i:Int))) 0) rfl (fa_pl Fd68_0 Sz3 (Sl.pl (i:=(i:Int)) aw (by omega) (by omega))))<|d_q rfl (fun w' H=>x_ld (v:=I ((ac.getD i default).place)) rfl (ld_sc Sc3 (At.mono (Sect_at0 aw (i:=(i:Int)) (by omega) (by omega)) (aG.at H))))<|d_q rfl (fun w' H=>x_cmp (kd:=.i64) (r:=((ab.getD i default).place) != ((ac.getD i default).place)) rfl rfl rfl)<|d_q rfl (fun w' H=>x_mv (v:=B (((ab.getD i default).place) != ((ac.getD i default).place))) rfl)<|d_qg (!(((ab.getD i default).place) != ((ac.getD i default).place))) rfl (gy_f rfl) (fun hg=>(fun w' H=>x_fa (v:=Pq aj) rfl (fa_blk (o:=0) Fd27_0 Sz23)))<|d_qg (!(((ab.getD i default).place) != ((ac.getD i default).place))) rfl (gy_f rfl) (fun hg=>(fun w' H=>x_ld (v:=ag) (gd_of hg (Pq aj)) (ldb_sc Sc23 (H.bl 1) rfl)))<|d_qg (!(((ab.getD i default).place) != ((ac.getD i default).place))) rfl (gy_f rfl) (fun hg=>(fun w' H=>x_mv (v:=I (i:Int)) rfl))<|d_qg (!(((ab.getD i default).place) != ((ac.getD i default).place))) rfl (gy_f rfl) (fun hg=>(fun w' H=>x_ix (v:=vat ag 2 (Int.toNat (i:Int))) (gd_of hg (ag)) (gd_of hg (I (i:Int))) (Sl.ix (α:=Sect) T23.und T23.size ao (by first | omega | (have ae:=hg; simp at ae; omega)) (by first | omega | (have ae:=hg; simp at ae; omega)))))<|d_qg (!(((ab.getD i default).place) != ((ac.getD i default).place))) rfl (gy_f rfl) (fun hg=>(fun w' H=>x_fa (v:=fat (vat ag 2 (Int.toNat (i:Int))) 1) (gd_of hg (vat ag 2 (Int.toNat (i:Int)))) (fa_pl Fd68_1 Sz66 (Sl.pl (i:=(i:Int)) ao (by first | omega | (have ae:=hg; simp at ae; omega)) (by first | omega | (have ae:=hg; simp at ae; omega)))))) ?_
  obtain ⟨az,bh,aK⟩:=gd_ex (c:=!(((ab.getD i default).place) != ((ac.getD i default).place))) fun hg=>Sect_at1 ao (i:=(i:Int)) (by first | omega | (have ae:=hg; simp at ae; omega)) (by first | omega | (have ae:=hg; simp at ae; omega))
  replace aK:(!(((ab.getD i default).place) != ((ac.getD i default).place)))=true->Sl _ az (ab.getD i default).rows:=aK
  refine d_qg (!(((ab.getD i default).place) != ((ac.getD i default).place))) rfl (gy_f rfl) (fun hg=>(fun w' H=>x_ld (v:=az) (gd_of hg (fat (vat ag 2 (Int.toNat (i:Int))) 1)) (ld_sc Sc66 (At.mono (bh hg) (aF.at H)))))<|d_qg (!(((ab.getD i default).place) != ((ac.getD i default).place))) rfl (gy_f rfl) (fun hg=>(fun w' H=>x_fa (v:=Pq ak) rfl (fa_blk (o:=0) Fd27_0 Sz23)))<|d_qg (!(((ab.getD i default).place) != ((ac.getD i default).place))) rfl (gy_f rfl) (fun hg=>(fun w' H=>x_ld (v:=ai) (gd_of hg (Pq ak)) (ldb_sc Sc23 (H.bl 0) rfl)))<|d_qg (!(((ab.getD i default).place) != ((ac.getD i default).place))) rfl (gy_f rfl) (fun hg=>(fun w' H=>x_mv (v:=I (i:Int)) rfl))<|d_qg (!(((ab.getD i default).place) != ((ac.getD i default).place))) rfl (gy_f rfl) (fun hg=>(fun w' H=>x_ix (v:=vat ai 2 (Int.toNat (i:Int))) (gd_of hg (ai)) (gd_of hg (I (i:Int))) (Sl.ix (α:=Sect) T23.und T23.size aw (by first | omega | (have ae:=hg; simp at ae; omega)) (by first | omega | (have ae:=hg; simp at ae; omega)))))<|d_qg (!(((ab.getD i default).place) != ((ac.getD i default).place))) rfl (gy_f rfl) (fun hg=>(fun w' H=>x_fa (v:=fat (vat ai 2 (Int.toNat (i:Int))) 1) (gd_of hg (vat ai 2 (Int.toNat (i:Int)))) (fa_pl Fd68_1 Sz66 (Sl.pl (i:=(i:Int)) aw (by first | omega | (have ae:=hg; simp at ae; omega)) (by first | omega | (have ae:=hg; simp at ae; omega)))))) ?_
  obtain ⟨aA,bi,aL⟩:=gd_ex (c:=!(((ab.getD i default).place) != ((ac.getD i default).place))) fun hg=>Sect_at1 aw (i:=(i:Int)) (by first | omega | (have ae:=hg; simp at ae; omega)) (by first | omega | (have ae:=hg; simp at ae; omega))
  replace aL:(!(((ab.getD i default).place) != ((ac.getD i default).place)))=true->Sl _ aA (ac.getD i default).rows:=aL
  refine d_qg (!(((ab.getD i default).place) != ((ac.getD i default).place))) rfl (gy_f rfl) (fun hg=>(fun w' H=>x_ld (v:=aA) (gd_of hg (fat (vat ai 2 (Int.toNat (i:Int))) 1)) (ld_sc Sc66 (At.mono (bi hg) (aG.at H)))))<|d_l rfl ?_;obtain ⟨r4,bj,hM⟩:=M.e_bind hM;refine t_gcall (!(((ab.getD i default).place) != ((ac.getD i default).place))) (gy_f rfl) cf88 (B r4) (fun _=>[az,aA]) (fun hg=>lst2 (gd_of hg (az)) (gd_of hg (aA))) H (fun hg=>(zdK ((ab.getD i default).rows) ((ac.getD i default).rows) (aF.app _) (aK hg) (aG.app _) (aL hg) (M.e_opt bj hg) _ (H.give (A:=[]) rfl)).mono fun v_ w_ ⟨y_,am,ay,H_⟩=>by subst am; exact ⟨ay,H.via H_⟩) ?_;intro bE H
  refine s_nil ⟨(H.pk [0,1]),?_⟩
  refine d_qg (!(((ab.getD i default).place) != ((ac.getD i default).place))) rfl (gy_f rfl) (fun hg=>(fun w' H=>x_not (b:=r4) (gd_of hg (B r4))))<|d_q rfl (fun w' H=>x_por (b:=((ab.getD i default).place) != ((ac.getD i default).place)) (r:=!r4) rfl rfl (fun hb=>gd_of (c:=!(((ab.getD i default).place) != ((ac.getD i default).place))) (by first | exact hb | (rw [hb]; rfl) | simp_all) (B (!r4)))) ?_;refine d_nil ?_
  refine W.cond ((((ab.getD i default).place) != ((ac.getD i default).place))||(!r4)) rfl (fun aM=>?_) (fun aM=>?_)
  ·replace hM:=M.e_t hM aM;refine W.seq<|W.region rfl<|zA (B false) rfl<|s_nil ?_;refine W.ret ?_
   have bm:=M.e_inr hM aJ
   subst bm;replace hM:=aT;(try dsimp only at hM)
   have am:=M.e_pure hM
   exact ⟨_,resE_tmp rfl,⟨false,am,rfl,(H.pk [])⟩⟩
  replace hM:=M.e_f hM aM;refine W.skip<|W.region rfl<|zM (I (i:Int)) rfl<|zR (i:Int) 1 ((i:Int)+1) rfl rfl rfl (by omega)<|zA (I ((i:Int)+1)) rfl<|s_nil ?_
  exact ⟨bf,bg,i+1,_,upds_of _ _ ⟨rfl,rfl,rfl,trivial⟩,M.e_inl hM aJ,H⟩
 replace hM:=M.e_f hM ax
 replace ax:=dI ax
 refine W.exit ?_
 have bn:=M.e_inr hM aJ
 subst bn;replace hM:=aT;(try dsimp only at hM);replace H:=H.pk [];refine W.seq<|W.region rfl<|zA (B true) rfl<|s_nil ?_;refine W.ret ?_
 have am:=M.e_pure hM
 exact ⟨_,resE_tmp rfl,⟨true,am,rfl,H⟩⟩

def zb1 (a b:List Int):Nat->M (Nat ⊕ (Unit ⊕ Unit)):=fun i =>
  bif decide ((i:Int)<(a.length:Int)) then (
  M.grd (decide ((i:Int)<(a.length:Int))) <|
  M.grd (decide ((i:Int)<(b.length:Int))) <|
  bif (a.getD i 0) != (b.getD i 0) then (
  M.pure (.inr (.inl ())))
  else (
  M.pure (.inl (i+1))))
  else (
  M.pure (.inr (.inr ())))
def zbR (a b:List Int):M Bool :=
  bif (a.length:Int) != (b.length:Int) then (
  M.pure false)
  else (
  M.bind (M.iter (zb1 a b) 0) fun x_=>match x_ with
  | (.inl (_:Unit))=>(
  M.pure false)
  | (.inr (_:Unit))=>(
  M.pure true))
theorem zdu {R:List Chunk} {aq:Cells} {ab:Value} {au:Cells} {ai:Value} (a:List Int) (b:List Int) (ay:Reads R aq) (aj:Sl aq ab a) (az:Reads R au) (am:Sl au ai b) {r:Bool} (hM:(zbR a b).Ends r) (w:World) (H:St w w [] R):Ret Tryz.prog 45 #[ab,ai] w fun v w'=>∃ (y0:Bool),y0=r/\v=B y0/\St w w' [] R:=by
 refine ret_of_W Tryz.func45 rfl rfl rfl<|W.seq<|W.region rfl<|zA (B false) rfl<|s_nil<|W.seq<|W.seq<|W.region rfl<|zM ab rfl ?_
 have aF:=(aj).len_le
 refine s_val (x_lenS T28.und rfl aj)<|zM ai rfl ?_
 have aG:=(am).len_le
 refine s_val (x_lenS T28.und rfl am)<|zC (a.length:Int) (b.length:Int) ((a.length:Int) != (b.length:Int)) rfl rfl rfl<|s_nil ?_
 refine W.cond ((a.length:Int) != (b.length:Int)) rfl (fun ac=>?_) (fun ac=>?_)
 ·replace hM:=M.e_t hM ac
  replace ac:=dI ac
  refine W.seq<|W.region rfl<|zA (B false) rfl<|s_nil ?_;refine W.ret ?_
  have ak:=M.e_pure hM
  exact ⟨_,resE_tmp rfl,⟨false,ak,rfl,H⟩⟩
 replace hM:=M.e_f hM ac
 replace ac:=dI ac
 refine W.skip<|W.seq<|W.seq<|W.region rfl<|zA (I 0) rfl<|s_nil<|W.block ?_;obtain ⟨aA,ao,av⟩:=M.e_bind hM
 obtain ⟨aH,ao⟩:=M.e_iter ao
 refine W.loop (fun m σ W=>∃ (i:Nat) (ρ:Env),σ=upds ρ [(0,ab),(1,ai),(5,I (i:Int))]/\M.iterN (zb1 a b) m i=some aA/\St w W [] R) ?_ ?_
 ·exact ⟨_,0,_,upds_of _ _ ⟨rfl,rfl,rfl,trivial⟩,ao,H⟩
 rintro aI σ aJ ⟨i,ρ,rfl,aw,H⟩
 obtain ⟨aB,aC,aK,hM,ap⟩:=M.e_iterN aw
 simp only [zb1] at hM
 clear aw;refine W.seq<|W.seq<|W.region rfl<|zM (I (i:Int)) rfl<|zM ab rfl ?_
 have aL:=(aj).len_le
 refine s_val (x_lenS T28.und rfl aj)<|zC (i:Int) (a.length:Int) (decide ((i:Int)<(a.length:Int))) rfl rfl rfl<|s_nil ?_
 refine W.cond (decide ((i:Int)<(a.length:Int))) rfl (fun ae=>?_) (fun ae=>?_)
 ·replace hM:=M.e_t hM ae
  replace ae:=dI ae
  refine W.skip<|W.seq<|W.block<|W.seq ?_;refine W.draw (fun W=>St w W [] R) [(0,true),(1,true),(2,true),(3,true),(4,true),(5,true),(6,true),(7,true),(8,true)] mixed (by decide +kernel) rfl ?_;intro aM ax;replace H:=H.ext ax;clear ax
  refine ⟨(H.pk []),?_⟩
  refine d_q rfl (fun w' H=>x_mv (v:=ab) rfl)<|d_q rfl (fun w' H=>x_mv (v:=I (i:Int)) rfl) ?_;obtain ⟨aN,hM⟩:=M.e_gd hM;refine d_q rfl (fun w' H=>x_ix (v:=vat ab 1 (Int.toNat (i:Int))) rfl rfl (Sl.ix (α:=Int) T28.und T28.size aj (by omega) (by omega)))<|d_q rfl (fun w' H=>x_ld (v:=I (a.getD i 0)) rfl (ld_sc Sc3 (At.mono (Int_at aj (i:=(i:Int)) (by omega) (by omega)) (ay.at H))))<|d_q rfl (fun w' H=>x_mv (v:=ai) rfl)<|d_q rfl (fun w' H=>x_mv (v:=I (i:Int)) rfl) ?_;obtain ⟨aO,hM⟩:=M.e_gd hM;refine d_q rfl (fun w' H=>x_ix (v:=vat ai 1 (Int.toNat (i:Int))) rfl rfl (Sl.ix (α:=Int) T28.und T28.size am (by omega) (by omega)))<|d_q rfl (fun w' H=>x_ld (v:=I (b.getD i 0)) rfl (ld_sc Sc3 (At.mono (Int_at am (i:=(i:Int)) (by omega) (by omega)) (az.at H))))<|d_q rfl (fun w' H=>x_cmp (kd:=.i64) (r:=(a.getD i 0) != (b.getD i 0)) rfl rfl rfl) ?_;refine d_nil ?_
  refine W.cond ((a.getD i 0) != (b.getD i 0)) rfl (fun ag=>?_) (fun ag=>?_)
  ·replace hM:=M.e_t hM ag
   replace ag:=dI ag
   refine W.seq<|W.region rfl<|zA (B false) rfl<|s_nil ?_;refine W.ret ?_
   have aD:=M.e_inr hM ap
   subst aD;replace hM:=av;(try dsimp only at hM)
   have ak:=M.e_pure hM
   exact ⟨_,resE_tmp rfl,⟨false,ak,rfl,H⟩⟩
  replace hM:=M.e_f hM ag
  replace ag:=dI ag
  refine W.skip<|W.region rfl<|zM (I (i:Int)) rfl<|zR (i:Int) 1 ((i:Int)+1) rfl rfl rfl (by omega)<|zA (I ((i:Int)+1)) rfl<|s_nil ?_
  exact ⟨aB,aC,i+1,_,upds_of _ _ ⟨rfl,rfl,rfl,trivial⟩,M.e_inl hM ap,H⟩
 replace hM:=M.e_f hM ae
 replace ae:=dI ae
 refine W.exit ?_
 have aE:=M.e_inr hM ap
 subst aE;replace hM:=av;(try dsimp only at hM);refine W.seq<|W.region rfl<|zA (B true) rfl<|s_nil ?_;refine W.ret ?_
 have ak:=M.e_pure hM
 exact ⟨_,resE_tmp rfl,⟨true,ak,rfl,H⟩⟩

end Go.Proofs.YtlemgioaakecpaaGreat
end
section
set_option maxRecDepth 100000
set_option maxHeartbeats 16000000
namespace Go.Proofs.YtlemgioaakecpaaGreat
open Go Go.Nm
def zax (s_Sections:List Sect) (s_Marks:List Mrk) (s_Reaches:List Rch) (marks:List Int) (flow:Span) (ab ac:Int) (ae:Bool):(Bool × Int × Int)->Int->M ((Bool × Int × Int) ⊕ Unit):=fun (s4,s5,s6) x =>
  M.bind (zan s_Sections s_Marks s_Reaches marks (⟨(ab:Int),(ac:Int),(x:Int),(x:Int),ae⟩:Rch)) fun (r0,r1) =>
  bif ((decide (r1<flow.lo))||(decide (flow.hi<r0))) then (
  M.pure (.inl (s4,s5,s6)))
  else (
  bif !s4 then (
  M.pure (.inl (true,x,x)))
  else (
  M.pure (.inl (s4,s5,x))))
def zb2 (s_Sections:List Sect) (s_Marks:List Mrk) (s_Reaches:List Rch) (marks:List Int) (reach:Int) (flow:Span):M (Int × Int × Int) :=
  M.bind (zam s_Sections s_Marks s_Reaches marks reach) fun x_=>match x_ with
  | (.inl (ao,ap,aq,au,av,r2))=>(
  bif r2 != 0 then (
  M.pure (0,0,r2))
  else (
  M.fail))
  | (.inr (ab,ac,ae,ag,ai,aj))=>(
  bif aj != 0 then (
  M.fail)
  else (
  bif ((decide (flow.lo<0))||(decide (flow.hi<flow.lo))) then (
  M.pure (0,0,4))
  else (
  M.bind (zai s_Sections s_Marks s_Reaches marks) fun r3 =>
  bif !r3 then (
  M.pure (0,0,7))
  else (
  M.bind (zau (⟨(ae:Int),(ag:Int)⟩:Span)) fun (ak,am) =>
  M.bind (zak (M.yl (zax s_Sections s_Marks s_Reaches marks flow ab ac ai)) (.inl (false,0,0)) ak am) fun x_=>match x_ with
  | .inl (s4,s5,s6)=>(
  bif !s4 then (
  M.pure (0,0,5))
  else (
  M.pure (s5,s6,0)))
  | .inr _=>M.fail))))
theorem zdP {R:List Chunk} {bi:Cells} {am:Value} {bj:Cells} {ao:Value} {bm:Cells} {ap:Value} {bn:Cells} {aq:Value} (s_Sections:List Sect) (s_Marks:List Mrk) (s_Reaches:List Rch) (marks:List Int) (reach:Int) (flow:Span) (aK:Reads R bi) (aU:Sl bi am s_Sections) (aL:Reads R bj) (aV:Sl bj ao s_Marks) (aM:Reads R bm) (aW:Sl bm ap s_Reaches) (aN:Reads R bn) (aO:Sl bn aq marks) {r:(Int × Int × Int)} (hM:(zb2 s_Sections s_Marks s_Reaches marks reach flow).Ends r) (w:World) (H:St w w [] R):Ret Tryz.prog 46 #[.agg #[am,ao,ap],aq,I reach,.agg #[I flow.lo,I flow.hi]] w fun v w'=>∃ (y0:Int) (y1:Int) (y2:Int),(y0,y1,y2)=r/\v = .tuple #[.agg #[I y0,I y1],I y2]/\St w w' [] R:=by
 refine ret_of_WD Tryz.func46 rfl rfl rfl ?_
 replace H:St w w [cMk ([])] R:=H.mk0
 have bI:=aU.len_le
 have bJ:=aV.len_le
 have bK:=aW.len_le
 have bL:=aO.len_le
 unfold zb2 at hM
 refine WD.seq<|WD.of<|W.region rfl ?_;refine t_bx [am,ao,ap] H rfl ?_;intro aP bM H;refine t_box (v:=aq) (cs:=[aq]) H rfl (Sl.cells aO) ?_;intro aQ bN H;refine t_bx [I flow.lo,I flow.hi] H rfl ?_;intro av bO H;refine t_alloc (cs:=[I 0,I 0]) H Al54 rfl ?_;intro aR bP H;refine zA (I 0) rfl<|s_nil<|WD.seq<|WD.of<|W.region rfl<|s_val (x_ld (v:=.agg #[am,ao,ap]) rfl (ldb_ag (ds:=[am,ao,ap]) Ag27 Sz27 (H.bl 3) rfl rfl))<|s_val (x_ld (v:=aq) rfl (ldb_sc Sc28 (H.bl 2) rfl))<|zM (I reach) rfl ?_;obtain ⟨bQ,bp,hM⟩:=M.e_bind hM;refine s_call cf65 [.agg #[am,ao,ap],aq,I reach] rfl (zda s_Sections s_Marks s_Reaches marks reach (aK.app _) aU (aL.app _) aV (aM.app _) aW (aN.app _) aO bp _ (H.gt 5)) ?_
 rintro vq bR (⟨aA,aB,aC,aD,aE,r2,bq,hvq,ak⟩ | ⟨ab,ac,ai,aj,ae,aw,ag,au,br,hvq,ak⟩)
 ·subst bq;subst vq;(try dsimp only at hM);replace H:=H.bk ak;clear ak;refine zM (.tuple #[.pointer none,.agg #[I aA,I aB,I aC,I aD,B aE],I r2]) rfl<|zX [.pointer none,.agg #[I aA,I aB,I aC,I aD,B aE],I r2] (.pointer none) rfl rfl<|zX [.pointer none,.agg #[I aA,I aB,I aC,I aD,B aE],I r2] (.agg #[I aA,I aB,I aC,I aD,B aE]) rfl rfl<|zX [.pointer none,.agg #[I aA,I aB,I aC,I aD,B aE],I r2] (I r2) rfl rfl ?_;refine t_alloc (cs:=[.pointer none]) H Al112 rfl ?_;intro aG bS H;refine t_alloc (cs:=[I 0,I 0,I 0,I 0,B false]) H Al58 rfl ?_;intro aF bT H;refine t_sw 1 0 [.pointer none] (.pointer none) H rfl rfl Sz112 rfl rfl rfl rfl ?_;intro bU H;refine t_sw 0 0 [I aA,I aB,I aC,I aD,B aE] (.agg #[I aA,I aB,I aC,I aD,B aE]) H rfl rfl Sz58 rfl rfl rfl rfl ?_;intro bV H;refine zA (I r2) rfl<|s_nil<|WD.seq<|WD.block<|WD.seq<|WD.of<|W.region rfl<|zM (I r2) rfl<|zC r2 0 (r2 != 0) rfl rfl rfl<|zA (B (r2 != 0)) rfl ?_;refine s_nil ?_
  refine WD.cond (r2 != 0) rfl (fun aS=>?_) (fun aS=>?_)
  ·replace hM:=M.e_t hM aS
   replace aS:=dI aS
   refine WD.seq<|WD.of<|W.region rfl<|s_val (x_bld (ps:=[]) (zs:=[I 0,I 0]) (L':=[I 0,I 0]) rfl Tryz.underlying54 Al54 rfl (Bd54 Tryz.underlying54) (.nil))<|zM (I r2) rfl ?_;refine t_sw 2 0 [I 0,I 0] (.agg #[I 0,I 0]) H rfl rfl Sz54 rfl rfl rfl rfl ?_;intro bW H;refine zA (I r2) rfl<|s_nil ?_;replace H:=H.pk [2,6];refine WD.of ?_;refine W.ret ?_;refine bodyD_r (H.pk [1,0]) ?_;intro bX H;replace H:=H.nf
   have bt:=(H.bl 0)
   have ay:=M.e_pure hM
   exact ⟨_,(resE_ofn (vs:=[.agg #[I 0,I 0],I r2]) rfl rfl (.cell (v:=.agg #[I 0,I 0]) rfl (run_loadVar_ag (ds:=[I 0,I 0]) Ag54 Sz54 bt rfl rfl)<|.tmp (v:=I r2) rfl<|.nil)),⟨0,0,r2,ay,rfl,(H.pk [])⟩⟩
  replace hM:=M.e_f hM aS
  exact (M.e_fail hM).elim
 subst br;subst vq;(try dsimp only at hM);replace H:=H.bk ak;clear ak;refine zM (.tuple #[Pq ag,.agg #[I ab,I ac,I ai,I aj,B ae],I aw]) rfl<|zX [Pq ag,.agg #[I ab,I ac,I ai,I aj,B ae],I aw] (Pq ag) rfl rfl<|zX [Pq ag,.agg #[I ab,I ac,I ai,I aj,B ae],I aw] (.agg #[I ab,I ac,I ai,I aj,B ae]) rfl rfl<|zX [Pq ag,.agg #[I ab,I ac,I ai,I aj,B ae],I aw] (I aw) rfl rfl ?_;refine t_alloc (cs:=[.pointer none]) H Al112 rfl ?_;intro aG bY H;refine t_alloc (cs:=[I 0,I 0,I 0,I 0,B false]) H Al58 rfl ?_;intro aF bZ H;refine t_sw 1 0 [Pq ag] (Pq ag) H rfl rfl Sz112 rfl rfl rfl rfl ?_;intro b4 H;refine t_sw 0 0 [I ab,I ac,I ai,I aj,B ae] (.agg #[I ab,I ac,I ai,I aj,B ae]) H rfl rfl Sz58 rfl rfl rfl rfl ?_;intro b5 H;refine zA (I aw) rfl<|s_nil<|WD.seq<|WD.block<|WD.seq<|WD.of<|W.region rfl<|zM (I aw) rfl<|zC aw 0 (aw != 0) rfl rfl rfl<|zA (B (aw != 0)) rfl ?_;refine s_nil ?_
 refine WD.cond (aw != 0) rfl (fun aT=>?_) (fun aT=>?_)
 ·replace hM:=M.e_t hM aT
  exact (M.e_fail hM).elim
 replace hM:=M.e_f hM aT
 replace aT:=dI aT
 refine WD.seq<|WD.of<|W.region rfl<|s_val (x_fa (v:=Pq av) rfl (fa_blk (o:=0) Fd54_0 Sz3))<|s_val (x_ld (v:=I flow.lo) rfl (ldb_sc Sc3 (H.bl 5) rfl))<|zC flow.lo 0 (decide (flow.lo<0)) rfl rfl rfl<|zM (B (decide (flow.lo<0))) rfl<|g_val (!(decide (flow.lo<0))) (gy_f rfl) (fun hg=>x_fa (v:=Pq av) rfl (fa_blk (o:=0) Fd54_0 Sz3))<|g_val (!(decide (flow.lo<0))) (gy_f rfl) (fun hg=>x_ld (v:=I flow.lo) (gd_of hg (Pq av)) (ldb_sc Sc3 (H.bl 5) rfl))<|g_val (!(decide (flow.lo<0))) (gy_f rfl) (fun hg=>x_fa (v:=Oq av 1) rfl (fa_blk (o:=0) Fd54_1 Sz3)) ?_;refine g_val (!(decide (flow.lo<0))) (gy_f rfl) (fun hg=>x_ld (v:=I flow.hi) (gd_of hg (Oq av 1)) (ldb_sc Sc3 (H.bl 5) rfl))<|g_val (!(decide (flow.lo<0))) (gy_f rfl) (fun hg=>x_cmp (kd:=.i64) (r:=decide (flow.hi<flow.lo)) (gd_of hg (I flow.lo)) (gd_of hg (I flow.hi)) rfl)<|s_val (x_por (b:=decide (flow.lo<0)) (r:=decide (flow.hi<flow.lo)) rfl rfl (fun hb=>gd_of (c:=!(decide (flow.lo<0))) (by first | exact hb | (rw [hb]; rfl) | simp_all) (B (decide (flow.hi<flow.lo)))))<|zA (B ((decide (flow.lo<0))||(decide (flow.hi<flow.lo)))) rfl<|s_nil ?_
 refine WD.cond ((decide (flow.lo<0))||(decide (flow.hi<flow.lo))) rfl (fun a6=>?_) (fun a6=>?_)
 ·replace hM:=M.e_t hM a6;refine WD.seq<|WD.of<|W.region rfl<|s_val (x_bld (ps:=[]) (zs:=[I 0,I 0]) (L':=[I 0,I 0]) rfl Tryz.underlying54 Al54 rfl (Bd54 Tryz.underlying54) (.nil)) ?_;refine t_sw 4 0 [I 0,I 0] (.agg #[I 0,I 0]) H rfl rfl Sz54 rfl rfl rfl rfl ?_;intro b6 H;refine zA (I 4) rfl<|s_nil ?_;replace H:=H.pk [4,8];refine WD.of ?_;refine W.ret ?_;refine bodyD_r (H.pk [1,0]) ?_;intro b7 H;replace H:=H.nf
  have bu:=(H.bl 0)
  have ay:=M.e_pure hM
  exact ⟨_,(resE_ofn (vs:=[.agg #[I 0,I 0],I 4]) rfl rfl (.cell (v:=.agg #[I 0,I 0]) rfl (run_loadVar_ag (ds:=[I 0,I 0]) Ag54 Sz54 bu rfl rfl)<|.tmp (v:=I 4) rfl<|.nil)),⟨0,0,4,ay,rfl,(H.pk [])⟩⟩
 replace hM:=M.e_f hM a6;refine WD.seq<|WD.of<|W.region rfl<|s_val (x_ld (v:=Pq ag) rfl (ldb_sc Sc112 (H.bl 1) rfl))<|s_val (x_ld (v:=aq) rfl (ldb_sc Sc28 (H.bl 6) rfl)) ?_;obtain ⟨b8,bv,hM⟩:=M.e_bind hM;refine s_call cf58 [Pq ag,aq] rfl (zbk s_Sections s_Marks s_Reaches marks (aK.app _) aU (aL.app _) aV (aM.app _) aW (Has.here (k:=2) rfl) (aN.app _) aO bv _ (H.gt 9)) ?_
 rintro vq b9 ⟨r3,rfl,hvq,ak⟩
 subst vq;(try dsimp only at hM);replace H:=H.bk ak;clear ak;refine s_val (x_not (b:=r3) rfl)<|zA (B (!r3)) rfl<|s_nil ?_
 refine WD.cond (!r3) rfl (fun a7=>?_) (fun a7=>?_)
 ·replace hM:=M.e_t hM a7;refine WD.seq<|WD.of<|W.region rfl<|s_val (x_bld (ps:=[]) (zs:=[I 0,I 0]) (L':=[I 0,I 0]) rfl Tryz.underlying54 Al54 rfl (Bd54 Tryz.underlying54) (.nil)) ?_;refine t_sw 4 0 [I 0,I 0] (.agg #[I 0,I 0]) H rfl rfl Sz54 rfl rfl rfl rfl ?_;intro cb H;refine zA (I 7) rfl<|s_nil ?_;replace H:=H.pk [4,8];refine WD.of ?_;refine W.ret ?_;refine bodyD_r (H.pk [1,0]) ?_;intro cc H;replace H:=H.nf
  have bw:=(H.bl 0)
  have ay:=M.e_pure hM
  exact ⟨_,(resE_ofn (vs:=[.agg #[I 0,I 0],I 7]) rfl rfl (.cell (v:=.agg #[I 0,I 0]) rfl (run_loadVar_ag (ds:=[I 0,I 0]) Ag54 Sz54 bw rfl rfl)<|.tmp (v:=I 7) rfl<|.nil)),⟨0,0,7,ay,rfl,(H.pk [])⟩⟩
 replace hM:=M.e_f hM a7;refine WD.of<|W.skip<|WD.seq<|WD.of<|W.region rfl<|s_val (x_bld (ps:=[]) (zs:=[I 0,I 0]) (L':=[I 0,I 0]) rfl Tryz.underlying54 Al54 rfl (Bd54 Tryz.underlying54) (.nil)) ?_;refine t_alloc (cs:=[I 0,I 0]) H Al54 rfl ?_;intro ax cd H;refine t_alloc (cs:=[B false]) H Al4 rfl ?_;intro az ce H;refine t_sw 1 0 [I 0,I 0] (.agg #[I 0,I 0]) H rfl rfl Sz54 rfl rfl rfl rfl ?_;intro cf H;refine t_sw 0 0 [B false] (B false) H rfl rfl Sz4 rfl rfl rfl rfl ?_;intro cg H;refine s_nil<|WD.seq<|WD.seq<|WD.of<|W.region rfl<|s_val (x_fa (v:=Oq aF 2) rfl (fa_blk (o:=0) Fd58_2 Sz54))<|s_val (x_ld (v:=.agg #[I ai,I aj]) rfl (ldb_ag (ds:=[I ai,I aj]) Ag54 Sz54 (H.bl 2) rfl rfl)) ?_;obtain ⟨cj,bx,hM⟩:=M.e_bind hM;refine s_call cf95 [.agg #[I ai,I aj]] rfl (zcV (⟨(ai:Int),(aj:Int)⟩:Span) bx _ (H.gt 11)) ?_
 rintro vq co ⟨aH,aI,aJ,rfl,hvq,ak⟩
 subst vq;(try dsimp only at hM);replace H:=H.bk ak;clear ak;refine s_nil<|WD.block ?_;obtain ⟨cp,bz,hM⟩:=M.e_bind hM;refine WD.range (L:=[cBlk az [B false] 4,cBlk ax [I 0,I 0] 54,cMemI encSpt au (zaa s_Sections s_Marks s_Reaches),cBlk aJ [I aH,I aI] 54,cBlk aF [I ab,I ac,I ai,I aj,B ae] 58,cBlk aG [Pq ag] 112,cBlk ag [am,ao,ap,.map (some au)] 177,cBlk aR [I 0,I 0] 54,cBlk av [I flow.lo,I flow.hi] 54,cBlk aQ [aq] 28,cBlk aP [am,ao,ap] 27]) [Pq aJ] (H.pk [11,1,2,6,0,3,4,5,7,8,9,10]) rfl cf119 ?_;intro aX a8 ba bA bb H
 have hYC:YieldC Tryz.prog ([cMk (a8 :: ([])),cBlk aJ [I aH,I aI] 54,cBlk aF [I ab,I ac,I ai,I aj,B ae] 58,cBlk aG [Pq ag] 112,cBlk ag [am,ao,ap,.map (some au)] 177,cBlk aR [I 0,I 0] 54,cBlk av [I flow.lo,I flow.hi] 54,cBlk aQ [aq] 28,cBlk aP [am,ao,ap] 27]++R) arI (yJ aX ba (fun (s4,s5,s6) aY=>aY=[cBlk az [B s4] 4,cBlk ax [I s5,I s6] 54,cMemI encSpt au (zaa s_Sections s_Marks s_Reaches)]) (fun (_:Unit) _=>False) (fun _=>.ret)) (.func (.yield aX) #[] #[]) (M.yl (zax s_Sections s_Marks s_Reaches marks flow ab ac ae)):=by
  refine YieldC.mk bb (fun (s4,s5,s6) aY=>aY=[cBlk az [B s4] 4,cBlk ax [I s5,I s6] 54,cMemI encSpt au (zaa s_Sections s_Marks s_Reaches)]) (fun (_:Unit) _=>False) (fun _=>.ret) (zax s_Sections s_Marks s_Reaches marks flow ab ac ae) (by rintro ⟨s4,s5,s6⟩ _ h_; obtain ⟨rfl⟩:=h_; rfl) (fun _ _ h_=>h_.elim) rfl (arI_len rfl) ?_;intro C_ cq x W_ bB
  obtain rfl:=bB
  refine W.region rfl<|zA (I x) rfl<|s_nil ?_
  refine ⟨rfl,rfl,?_⟩
  intro w R aZ aY s_ r bC hM H
  obtain ⟨s4,s5,s6⟩:=s_
  obtain ⟨rfl⟩:=bC
  replace aK:=aK.sub aZ
  replace aL:=aL.sub aZ
  replace aM:=aM.sub aZ
  replace aN:=aN.sub aZ
  replace hM:(zax s_Sections s_Marks s_Reaches marks flow ab ac ae (s4,s5,s6) x).Ends r:=hM
  simp only [zax] at hM
  replace H:=H.pk [0,1,2,4,5,6,7,8,9,10,11,3];refine W.block<|W.seq<|W.region rfl<|s_val (x_ld (v:=.agg #[I ab,I ac,I ai,I aj,B ae]) rfl (ldb_ag (ds:=[I ab,I ac,I ai,I aj,B ae]) Ag58 Sz58 (H.bl 4) rfl rfl)) ?_;refine t_alloc (cs:=[I 0,I 0,I 0,I 0,B false]) H Al58 rfl ?_;intro bD cr H;refine t_sw 0 0 [I ab,I ac,I ai,I aj,B ae] (.agg #[I ab,I ac,I ai,I aj,B ae]) H rfl rfl Sz58 rfl rfl rfl rfl ?_;intro ct H;refine s_nil<|W.seq<|W.region rfl<|zM (I x) rfl<|zM (I x) rfl<|s_val (x_bld (ps:=[(0,I x),(1,I x)]) (zs:=[I 0,I 0]) (L':=[I x,I x]) rfl Tryz.underlying54 Al54 rfl (Bd54 Tryz.underlying54) (.cons (cs:=[I x]) rfl rfl rfl rfl rfl<|.cons (cs:=[I x]) rfl rfl rfl rfl rfl<|.nil))<|s_val (x_fa (v:=Oq bD 2) rfl (fa_blk (o:=0) Fd58_2 Sz54)) ?_;refine t_sw 0 2 [I x,I x] (.agg #[I x,I x]) H rfl rfl Sz54 rfl rfl rfl rfl ?_;intro cu H;refine s_nil<|W.seq<|W.seq<|W.region rfl<|s_val (x_ld (v:=Pq ag) rfl (ldb_sc Sc112 (H.bl 6) rfl))<|s_val (x_ld (v:=aq) rfl (ldb_sc Sc28 (H.bl 10) rfl))<|s_val (x_ld (v:=.agg #[I ab,I ac,I x,I x,B ae]) rfl (ldb_ag (ds:=[I ab,I ac,I x,I x,B ae]) Ag58 Sz58 (H.bl 0) rfl rfl)) ?_;obtain ⟨cv,bE,hM⟩:=M.e_bind hM;refine s_call cf66 [Pq ag,aq,.agg #[I ab,I ac,I x,I x,B ae]] rfl (zcA s_Sections s_Marks s_Reaches marks (⟨(ab:Int),(ac:Int),(x:Int),(x:Int),ae⟩:Rch) (aK.app _) aU (aL.app _) aV (aM.app _) aW (Has.here (k:=6) rfl) (aN.app _) aO bE _ ((H.pk [3,0,1,2,4,5,6,7,8,9,10,11,12]).gt 12)) ?_
  rintro vq cw ⟨r0,r1,rfl,hvq,ak⟩
  subst vq;(try dsimp only at hM)
  replace H:=H.pk [3,0,1,2,4,5,6,7,8,9,10,11,12] |>.bk ak
  clear ak;refine t_alloc (cs:=[I 0,I 0]) H Al54 rfl ?_;intro bc cx H;refine t_sw 0 0 [I r0,I r1] (.agg #[I r0,I r1]) H rfl rfl Sz54 rfl rfl rfl rfl ?_;intro cy H;refine s_nil<|W.seq<|W.region rfl<|s_val (x_fa (v:=Oq bc 1) rfl (fa_blk (o:=0) Fd54_1 Sz3))<|s_val (x_ld (v:=I r1) rfl (ldb_sc Sc3 (H.bl 0) rfl))<|s_val (x_fa (v:=Pq av) rfl (fa_blk (o:=0) Fd54_0 Sz3))<|s_val (x_ld (v:=I flow.lo) rfl (ldb_sc Sc3 (H.bl 10) rfl))<|zC r1 flow.lo (decide (r1<flow.lo)) rfl rfl rfl<|zM (B (decide (r1<flow.lo))) rfl<|g_val (!(decide (r1<flow.lo))) (gy_f rfl) (fun hg=>x_fa (v:=Pq bc) rfl (fa_blk (o:=0) Fd54_0 Sz3)) ?_;refine g_val (!(decide (r1<flow.lo))) (gy_f rfl) (fun hg=>x_ld (v:=I r0) (gd_of hg (Pq bc)) (ldb_sc Sc3 (H.bl 0) rfl))<|g_val (!(decide (r1<flow.lo))) (gy_f rfl) (fun hg=>x_fa (v:=Oq av 1) rfl (fa_blk (o:=0) Fd54_1 Sz3))<|g_val (!(decide (r1<flow.lo))) (gy_f rfl) (fun hg=>x_ld (v:=I flow.hi) (gd_of hg (Oq av 1)) (ldb_sc Sc3 (H.bl 10) rfl))<|g_val (!(decide (r1<flow.lo))) (gy_f rfl) (fun hg=>x_cmp (kd:=.i64) (r:=decide (flow.hi<r0)) (gd_of hg (I r0)) (gd_of hg (I flow.hi)) rfl)<|s_val (x_por (b:=decide (r1<flow.lo)) (r:=decide (flow.hi<r0)) rfl rfl (fun hb=>gd_of (c:=!(decide (r1<flow.lo))) (by first | exact hb | (rw [hb]; rfl) | simp_all) (B (decide (flow.hi<r0)))))<|s_nil ?_;replace H:=H.pk [1,3,4,5,6,7,8,9,10,11,12,13]
  refine W.cond ((decide (r1<flow.lo))||(decide (flow.hi<r0))) rfl (fun bf=>?_) (fun bf=>?_)
  ·replace hM:=M.e_t hM bf;refine W.exit ?_
   exact ⟨(s4,s5,s6),[cBlk az [B s4] 4,cBlk ax [I s5,I s6] 54,cMemI encSpt au (zaa s_Sections s_Marks s_Reaches)],(M.e_pure hM).symm,rfl,H.pick [1,2,0,11,3,4,5,6,7,8,9,10] (by decide) rfl⟩
  replace hM:=M.e_f hM bf;refine W.skip<|W.seq<|W.seq<|W.region rfl<|s_val (x_ld (v:=B s4) rfl (ldb_sc Sc4 (H.bl 1) rfl))<|s_val (x_not (b:=s4) rfl)<|s_nil ?_
  refine W.cond (!s4) rfl (fun bg=>?_) (fun bg=>?_)
  ·replace hM:=M.e_t hM bg;refine W.region rfl<|zM (I x) rfl<|s_val (x_bld (ps:=[(0,I x)]) (zs:=[I 0,I 0]) (L':=[I x,I 0]) rfl Tryz.underlying54 Al54 rfl (Bd54 Tryz.underlying54) (.cons (cs:=[I x]) rfl rfl rfl rfl rfl<|.nil)) ?_;refine t_sw 2 0 [I x,I 0] (.agg #[I x,I 0]) H rfl rfl Sz54 rfl rfl rfl rfl ?_;intro cz H;refine t_sw 1 0 [B true] (B true) H rfl rfl Sz4 rfl rfl rfl rfl ?_;intro cA H;refine s_nil<|W.region rfl<|zM (I x) rfl<|s_val (x_fa (v:=Oq ax 1) rfl (fa_blk (o:=0) Fd54_1 Sz3)) ?_;refine t_sw 2 1 [I x] (I x) H rfl rfl Sz3 rfl rfl rfl rfl ?_;intro cB H;refine s_nil ?_
   exact ⟨(true,x,x),[cBlk az [B true] 4,cBlk ax [I x,I x] 54,cMemI encSpt au (zaa s_Sections s_Marks s_Reaches)],(M.e_pure hM).symm,rfl,H.pick [1,2,0,11,3,4,5,6,7,8,9,10] (by decide) rfl⟩
  replace hM:=M.e_f hM bg;refine W.skip<|W.region rfl<|zM (I x) rfl<|s_val (x_fa (v:=Oq ax 1) rfl (fa_blk (o:=0) Fd54_1 Sz3)) ?_;refine t_sw 2 1 [I x] (I x) H rfl rfl Sz3 rfl rfl rfl rfl ?_;intro cC H;refine s_nil ?_
  exact ⟨(s4,s5,x),[cBlk az [B s4] 4,cBlk ax [I s5,I x] 54,cMemI encSpt au (zaa s_Sections s_Marks s_Reaches)],(M.e_pure hM).symm,rfl,H.pick [1,2,0,11,3,4,5,6,7,8,9,10] (by decide) rfl⟩
 replace H:St w bA (cAll (cObj aX (.loop ba) :: [cBlk az [B false] 4,cBlk ax [I 0,I 0] 54,cMemI encSpt au (zaa s_Sections s_Marks s_Reaches)]) :: [cMk (a8 :: ([])),cBlk aJ [I aH,I aI] 54,cBlk aF [I ab,I ac,I ai,I aj,B ae] 58,cBlk aG [Pq ag] 112,cBlk ag [am,ao,ap,.map (some au)] 177,cBlk aR [I 0,I 0] 54,cBlk av [I flow.lo,I flow.hi] 54,cBlk aQ [aq] 28,cBlk aP [am,ao,ap] 27]) R:=St.bundleB (A:=cObj aX (.loop ba) :: [cBlk az [B false] 4,cBlk ax [I 0,I 0] 54,cMemI encSpt au (zaa s_Sections s_Marks s_Reaches)]) (T:=[cMk (a8 :: ([])),cBlk aJ [I aH,I aI] 54,cBlk aF [I ab,I ac,I ai,I aj,B ae] 58,cBlk aG [Pq ag] 112,cBlk ag [am,ao,ap,.map (some au)] 177,cBlk aR [I 0,I 0] 54,cBlk av [I flow.lo,I flow.hi] 54,cBlk aQ [aq] 28,cBlk aP [am,ao,ap] 27]) rfl (H.pk [0,2,3,4,1,5,6,7,8,9,10,11,12])
 refine (zc0 (M.yl (zax s_Sections s_Marks s_Reaches marks flow ab ac ae)) (.inl (false,0,0)) aH aI hYC ⟨_,rfl,rfl⟩ (Has.here (k:=1) rfl) bz _ (H.gt 9)).mono ?_
 rintro vq cD ⟨bF,cE,rfl,hvq,ak,bo⟩
 replace H:=H.back ak rfl
 clear ak hYC
 rcases bF with ⟨s4,s5,s6⟩ | _
 ·(try dsimp only at hM)
  obtain ⟨_,rfl,rfl⟩:=bo
  refine ⟨_,[cBlk az [B s4] 4,cBlk ax [I s5,I s6] 54,cMemI encSpt au (zaa s_Sections s_Marks s_Reaches),cBlk aJ [I aH,I aI] 54,cBlk aF [I ab,I ac,I ai,I aj,B ae] 58,cBlk aG [Pq ag] 112,cBlk ag [am,ao,ap,.map (some au)] 177,cBlk aR [I 0,I 0] 54,cBlk av [I flow.lo,I flow.hi] 54,cBlk aQ [aq] 28,cBlk aP [am,ao,ap] 27],H.unbundle.pick [0,4,1,2,3,5,6,7,8,9,10,11,12] (by decide) rfl,bb.nb,?_⟩
  intro cF H
  rw [bb.pd]
  replace H:=H.nf
  try simp only []
  replace H:=H.pk [0,1,2,8];refine WD.seq<|WD.seq<|WD.of<|W.region rfl<|s_val (x_ld (v:=B s4) rfl (ldb_sc Sc4 (H.bl 1) rfl))<|s_val (x_not (b:=s4) rfl)<|s_nil ?_
  refine WD.cond (!s4) rfl (fun bh=>?_) (fun bh=>?_)
  ·replace hM:=M.e_t hM bh;refine WD.seq<|WD.of<|W.region rfl<|s_val (x_bld (ps:=[]) (zs:=[I 0,I 0]) (L':=[I 0,I 0]) rfl Tryz.underlying54 Al54 rfl (Bd54 Tryz.underlying54) (.nil)) ?_;refine t_sw 3 0 [I 0,I 0] (.agg #[I 0,I 0]) H rfl rfl Sz54 rfl rfl rfl rfl ?_;intro cG H;refine zA (I 5) rfl<|s_nil ?_;replace H:=H.pk [0,3];refine WD.of ?_;refine W.ret ?_;refine bodyD_r (H.pk [0,1]) ?_;intro cH H;replace H:=H.nf
   have bG:=(H.bl 0)
   have ay:=M.e_pure hM
   exact ⟨_,(resE_ofn (vs:=[.agg #[I 0,I 0],I 5]) rfl rfl (.cell (v:=.agg #[I 0,I 0]) rfl (run_loadVar_ag (ds:=[I 0,I 0]) Ag54 Sz54 bG rfl rfl)<|.tmp (v:=I 5) rfl<|.nil)),⟨0,0,5,ay,rfl,(H.pk [])⟩⟩
  replace hM:=M.e_f hM bh;refine WD.of<|W.skip<|WD.seq<|WD.of<|W.region rfl<|s_val (x_ld (v:=.agg #[I s5,I s6]) rfl (ldb_ag (ds:=[I s5,I s6]) Ag54 Sz54 (H.bl 2) rfl rfl)) ?_;refine t_sw 3 0 [I s5,I s6] (.agg #[I s5,I s6]) H rfl rfl Sz54 rfl rfl rfl rfl ?_;intro cI H;refine zA (I 0) rfl<|s_nil ?_;replace H:=H.pk [0,3];refine WD.of ?_;refine W.ret ?_;refine bodyD_r (H.pk [0,1]) ?_;intro cJ H;replace H:=H.nf
  have bH:=(H.bl 0)
  have ay:=M.e_pure hM
  exact ⟨_,(resE_ofn (vs:=[.agg #[I s5,I s6],I 0]) rfl rfl (.cell (v:=.agg #[I s5,I s6]) rfl (run_loadVar_ag (ds:=[I s5,I s6]) Ag54 Sz54 bH rfl rfl)<|.tmp (v:=I 0) rfl<|.nil)),⟨s5,s6,0,ay,rfl,(H.pk [])⟩⟩
 obtain ⟨_,_,h_⟩:=bo; exact h_.elim

def zcv (s_Sections:List Sect) (s_Marks:List Mrk) (s_Reaches:List Rch) (marks:List Int) (reach:Int) (known:Span):(Int × Int × Int)->M ((Int × Int × Int) ⊕ (Int × Int)):=fun (s3,s4,n) =>
  bif decide (n<=((s_Reaches.getD (Int.toNat reach) default).hi)) then (
  M.bind (za1 s_Sections s_Marks s_Reaches marks (⟨((s_Reaches.getD (Int.toNat reach) default).up:Int),((s_Reaches.getD (Int.toNat reach) default).down:Int),(n:Int),(n:Int),((s_Reaches.getD (Int.toNat reach) default).narrow)⟩:Rch)) fun (r0,r1) =>
  bif ((decide (known.lo<=r1))&&(decide (r0<=known.hi))) then (
  bif decide (s3<0) then (
  M.grd (decide ((-9223372036854775808:Int)<=(n+1))&&decide ((n+1)<=(9223372036854775807:Int))) <|
  M.pure (.inl (n,n,n+1)))
  else (
  M.grd (decide ((-9223372036854775808:Int)<=(n+1))&&decide ((n+1)<=(9223372036854775807:Int))) <|
  M.pure (.inl (s3,n,n+1))))
  else (
  M.grd (decide ((-9223372036854775808:Int)<=(n+1))&&decide ((n+1)<=(9223372036854775807:Int))) <|
  M.pure (.inl (s3,s4,n+1))))
  else (
  M.pure (.inr (s3,s4)))
def zcu (s_Sections:List Sect) (s_Marks:List Mrk) (s_Reaches:List Rch) (marks:List Int) (reach:Int) (known:Span):M (Int × Int × Int) :=
  M.bind (zaY s_Sections s_Marks s_Reaches marks reach) fun r2 =>
  bif ((r2 != 0)&&(r2 != 7)) then (
  M.pure (0,0,r2))
  else (
  bif ((decide (known.lo<0))||(decide (known.hi<known.lo))) then (
  M.pure (0,0,4))
  else (
  bif r2 != 0 then (
  M.pure (0,0,r2))
  else (
  M.grd (decide ((0:Int)<=reach)&&decide (reach<(s_Reaches.length:Int))) <|
  M.bind (M.iter (zcv s_Sections s_Marks s_Reaches marks reach known) (-1,0,(s_Reaches.getD (Int.toNat reach) default).lo)) fun (s5,s6) =>
  bif decide (s5<0) then (
  M.pure (0,0,5))
  else (
  M.pure (s5,s6,0)))))
theorem zdM {R:List Chunk} {aG:Cells} {ae:Value} {aH:Cells} {ag:Value} {aI:Cells} {ab:Value} {aJ:Cells} {ak:Value} (s_Sections:List Sect) (s_Marks:List Mrk) (s_Reaches:List Rch) (marks:List Int) (reach:Int) (known:Span) (aK:Reads R aG) (aL:Sl aG ae s_Sections) (aM:Reads R aH) (aN:Sl aH ag s_Marks) (av:Reads R aI) (ac:Sl aI ab s_Reaches) (aO:Reads R aJ) (aP:Sl aJ ak marks) {r:(Int × Int × Int)} (hM:(zcu s_Sections s_Marks s_Reaches marks reach known).Ends r) (w:World) (H:St w w [] R):Ret Tryz.prog 47 #[.agg #[ae,ag,ab],ak,I reach,.agg #[I known.lo,I known.hi]] w fun v w'=>∃ (y0:Int) (y1:Int) (y2:Int),(y0,y1,y2)=r/\v = .tuple #[.agg #[I y0,I y1],I y2]/\St w w' [] R:=by
 refine ret_of_W Tryz.func47 rfl rfl rfl<|W.seq<|W.region rfl ?_;refine t_bx [ae,ag,ab] H rfl ?_;intro aw ba H;refine t_bx [I known.lo,I known.hi] H rfl ?_;intro ai bb H;refine t_alloc (cs:=[I 0,I 0]) H Al54 rfl ?_;intro aQ bc H;refine zA (I 0) rfl<|s_nil<|W.seq<|W.region rfl<|s_val (x_ld (v:=.agg #[ae,ag,ab]) rfl (ldb_ag (ds:=[ae,ag,ab]) Ag81 Sz81 (H.bl 2) rfl rfl))<|zM ak rfl<|zM (I reach) rfl ?_;obtain ⟨bf,aS,hM⟩:=M.e_bind hM;refine s_call cf93 [.agg #[ae,ag,ab],ak,I reach] rfl (zc4 s_Sections s_Marks s_Reaches marks reach (aK.app _) aL (aM.app _) aN (av.app _) ac (aO.app _) aP aS _ (H.gt 3)) ?_
 rintro vq bg ⟨r2,rfl,hvq,ax⟩
 subst vq;(try dsimp only at hM);replace H:=H.bk ax;clear ax;refine zA (I r2) rfl<|s_nil<|W.seq<|W.seq<|W.region rfl<|zM (I r2) rfl<|zC r2 0 (r2 != 0) rfl rfl rfl<|zM (B (r2 != 0)) rfl<|g_val (r2 != 0) (gy_t rfl) (fun hg=>x_mv (v:=I r2) rfl)<|g_val (r2 != 0) (gy_t rfl) (fun hg=>x_cmp (kd:=.i64) (r:=r2 != 7) (gd_of hg (I r2)) rfl rfl) ?_;refine s_val (x_pand (b:=r2 != 0) (r:=r2 != 7) rfl (fun hb=>gd_of (c:=r2 != 0) (by first | exact hb | (rw [hb]; rfl) | simp_all) (B (r2 != 7))) rfl)<|s_nil ?_
 refine W.cond ((r2 != 0)&&(r2 != 7)) rfl (fun az=>?_) (fun az=>?_)
 ·replace hM:=M.e_t hM az;refine W.seq<|W.region rfl<|s_val (x_bld (ps:=[]) (zs:=[I 0,I 0]) (L':=[I 0,I 0]) rfl Tryz.underlying54 Al54 rfl (Bd54 Tryz.underlying54) (.nil))<|zM (I r2) rfl ?_;refine t_sw 0 0 [I 0,I 0] (.agg #[I 0,I 0]) H rfl rfl Sz54 rfl rfl rfl rfl ?_;intro bh H;refine zA (I r2) rfl<|s_nil ?_;replace H:=H.pk [0];refine W.ret ?_
  have aT:=(H.bl 0)
  have aj:=M.e_pure hM
  exact ⟨_,(resE_ofn (vs:=[.agg #[I 0,I 0],I r2]) rfl rfl (.cell (v:=.agg #[I 0,I 0]) rfl (run_loadVar_ag (ds:=[I 0,I 0]) Ag54 Sz54 aT rfl rfl)<|.tmp (v:=I r2) rfl<|.nil)),⟨0,0,r2,aj,rfl,(H.pk [])⟩⟩
 replace hM:=M.e_f hM az;refine W.skip<|W.seq<|W.seq<|W.region rfl<|s_val (x_fa (v:=Pq ai) rfl (fa_blk (o:=0) Fd54_0 Sz3))<|s_val (x_ld (v:=I known.lo) rfl (ldb_sc Sc3 (H.bl 1) rfl))<|zC known.lo 0 (decide (known.lo<0)) rfl rfl rfl<|zM (B (decide (known.lo<0))) rfl<|g_val (!(decide (known.lo<0))) (gy_f rfl) (fun hg=>x_fa (v:=Oq ai 1) rfl (fa_blk (o:=0) Fd54_1 Sz3))<|g_val (!(decide (known.lo<0))) (gy_f rfl) (fun hg=>x_ld (v:=I known.hi) (gd_of hg (Oq ai 1)) (ldb_sc Sc3 (H.bl 1) rfl)) ?_;refine g_val (!(decide (known.lo<0))) (gy_f rfl) (fun hg=>x_fa (v:=Pq ai) rfl (fa_blk (o:=0) Fd54_0 Sz3))<|g_val (!(decide (known.lo<0))) (gy_f rfl) (fun hg=>x_ld (v:=I known.lo) (gd_of hg (Pq ai)) (ldb_sc Sc3 (H.bl 1) rfl))<|g_val (!(decide (known.lo<0))) (gy_f rfl) (fun hg=>x_cmp (kd:=.i64) (r:=decide (known.hi<known.lo)) (gd_of hg (I known.hi)) (gd_of hg (I known.lo)) rfl)<|s_val (x_por (b:=decide (known.lo<0)) (r:=decide (known.hi<known.lo)) rfl rfl (fun hb=>gd_of (c:=!(decide (known.lo<0))) (by first | exact hb | (rw [hb]; rfl) | simp_all) (B (decide (known.hi<known.lo)))))<|s_nil ?_
 refine W.cond ((decide (known.lo<0))||(decide (known.hi<known.lo))) rfl (fun aA=>?_) (fun aA=>?_)
 ·replace hM:=M.e_t hM aA;refine W.seq<|W.region rfl<|s_val (x_bld (ps:=[]) (zs:=[I 0,I 0]) (L':=[I 0,I 0]) rfl Tryz.underlying54 Al54 rfl (Bd54 Tryz.underlying54) (.nil)) ?_;refine t_sw 0 0 [I 0,I 0] (.agg #[I 0,I 0]) H rfl rfl Sz54 rfl rfl rfl rfl ?_;intro bi H;refine zA (I 4) rfl<|s_nil ?_;replace H:=H.pk [0];refine W.ret ?_
  have aU:=(H.bl 0)
  have aj:=M.e_pure hM
  exact ⟨_,(resE_ofn (vs:=[.agg #[I 0,I 0],I 4]) rfl rfl (.cell (v:=.agg #[I 0,I 0]) rfl (run_loadVar_ag (ds:=[I 0,I 0]) Ag54 Sz54 aU rfl rfl)<|.tmp (v:=I 4) rfl<|.nil)),⟨0,0,4,aj,rfl,(H.pk [])⟩⟩
 replace hM:=M.e_f hM aA;refine W.skip<|W.seq<|W.seq<|W.region rfl<|zM (I r2) rfl<|zC r2 0 (r2 != 0) rfl rfl rfl<|s_nil ?_
 refine W.cond (r2 != 0) rfl (fun am=>?_) (fun am=>?_)
 ·replace hM:=M.e_t hM am
  replace am:=dI am
  refine W.seq<|W.region rfl<|s_val (x_bld (ps:=[]) (zs:=[I 0,I 0]) (L':=[I 0,I 0]) rfl Tryz.underlying54 Al54 rfl (Bd54 Tryz.underlying54) (.nil))<|zM (I r2) rfl ?_;refine t_sw 0 0 [I 0,I 0] (.agg #[I 0,I 0]) H rfl rfl Sz54 rfl rfl rfl rfl ?_;intro bj H;refine zA (I r2) rfl<|s_nil ?_;replace H:=H.pk [0];refine W.ret ?_
  have aV:=(H.bl 0)
  have aj:=M.e_pure hM
  exact ⟨_,(resE_ofn (vs:=[.agg #[I 0,I 0],I r2]) rfl rfl (.cell (v:=.agg #[I 0,I 0]) rfl (run_loadVar_ag (ds:=[I 0,I 0]) Ag54 Sz54 aV rfl rfl)<|.tmp (v:=I r2) rfl<|.nil)),⟨0,0,r2,aj,rfl,(H.pk [])⟩⟩
 replace hM:=M.e_f hM am
 replace am:=dI am
 refine W.skip<|W.seq<|W.region rfl<|s_val (x_bld (ps:=[(0,I (-1))]) (zs:=[I 0,I 0]) (L':=[I (-1),I 0]) rfl Tryz.underlying54 Al54 rfl (Bd54 Tryz.underlying54) (.cons (cs:=[I (-1)]) rfl rfl rfl rfl rfl<|.nil)) ?_;refine t_alloc (cs:=[I 0,I 0]) H Al54 rfl ?_;intro ao bm H;refine t_sw 0 0 [I (-1),I 0] (.agg #[I (-1),I 0]) H rfl rfl Sz54 rfl rfl rfl rfl ?_;intro bn H;refine s_nil<|W.seq<|W.seq<|W.region rfl<|s_val (x_fa (v:=Oq aw 2) rfl (fa_blk (o:=0) Fd81_2 Sz79))<|s_val (x_ld (v:=ab) rfl (ldb_sc Sc79 (H.bl 3) rfl))<|zM (I reach) rfl ?_;obtain ⟨bo,hM⟩:=M.e_gd hM;refine s_val (x_ix (v:=vat ab 5 (Int.toNat reach)) rfl rfl (Sl.ix (α:=Rch) T79.und T79.size ac (by omega) (by omega)))<|s_val (x_fa (v:=fat (vat ab 5 (Int.toNat reach)) 2) rfl (fa_pl Fd151_2 Sz54 (Sl.pl (i:=reach) ac (by omega) (by omega))))<|s_val (x_fa (v:=fat (vat ab 5 (Int.toNat reach)) 2) rfl (fa_pl2 (a:=2) (c:=2) Fd54_0 Sz3 (Sl.pl (i:=reach) ac (by omega) (by omega)) rfl))<|s_val (x_ld (v:=I ((s_Reaches.getD (Int.toNat reach) default).lo)) rfl (ld_sc Sc3 (At.mono (Rch_at2 ac (i:=reach) (by omega) (by omega)) (av.at H))))<|zA (I ((s_Reaches.getD (Int.toNat reach) default).lo)) rfl<|s_nil<|W.block ?_;obtain ⟨aW,aB,aX⟩:=M.e_bind hM
 obtain ⟨bp,aB⟩:=M.e_iter aB
 refine W.loop (fun m σ W=>∃ (s3:Int) (s4:Int) (n:Int) (ρ:Env),σ=upds ρ [(1,ak),(2,I reach),(4,Pq aw),(7,Pq ai),(8,Pq aQ),(11,Pq ao),(12,I n)]/\M.iterN (zcv s_Sections s_Marks s_Reaches marks reach known) m (s3,s4,n)=some aW/\St w W [cBlk ao [I s3,I s4] 54,cBlk aQ [I 0,I 0] 54,cBlk ai [I known.lo,I known.hi] 54,cBlk aw [ae,ag,ab] 81] R) ?_ ?_
 ·exact ⟨_,-1,0,(s_Reaches.getD (Int.toNat reach) default).lo,_,upds_of _ _ ⟨rfl,rfl,rfl,rfl,rfl,rfl,rfl,trivial⟩,aB,H⟩
 rintro bq σ br ⟨s3,s4,n,ρ,rfl,aR,H⟩
 obtain ⟨aC,aD,bt,hM,ay⟩:=M.e_iterN aR
 simp only [zcv] at hM
 clear aR;refine W.seq<|W.seq<|W.region rfl<|zM (I n) rfl<|s_val (x_fa (v:=Oq aw 2) rfl (fa_blk (o:=0) Fd81_2 Sz79))<|s_val (x_ld (v:=ab) rfl (ldb_sc Sc79 (H.bl 3) rfl))<|zM (I reach) rfl<|s_val (x_ix (v:=vat ab 5 (Int.toNat reach)) rfl rfl (Sl.ix (α:=Rch) T79.und T79.size ac (by omega) (by omega)))<|s_val (x_fa (v:=fat (vat ab 5 (Int.toNat reach)) 2) rfl (fa_pl Fd151_2 Sz54 (Sl.pl (i:=reach) ac (by omega) (by omega))))<|s_val (x_fa (v:=fat (vat ab 5 (Int.toNat reach)) 3) rfl (fa_pl2 (a:=2) (c:=3) Fd54_1 Sz3 (Sl.pl (i:=reach) ac (by omega) (by omega)) rfl)) ?_;refine s_val (x_ld (v:=I ((s_Reaches.getD (Int.toNat reach) default).hi)) rfl (ld_sc Sc3 (At.mono (Rch_at3 ac (i:=reach) (by omega) (by omega)) (av.at H))))<|zC n ((s_Reaches.getD (Int.toNat reach) default).hi) (decide (n<=((s_Reaches.getD (Int.toNat reach) default).hi))) rfl rfl rfl<|s_nil ?_
 refine W.cond (decide (n<=((s_Reaches.getD (Int.toNat reach) default).hi))) rfl (fun ap=>?_) (fun ap=>?_)
 ·replace hM:=M.e_t hM ap
  replace ap:=dI ap
  refine W.skip<|W.seq<|W.block<|W.seq<|W.region rfl<|s_val (x_fa (v:=Oq aw 2) rfl (fa_blk (o:=0) Fd81_2 Sz79))<|s_val (x_ld (v:=ab) rfl (ldb_sc Sc79 (H.bl 3) rfl))<|zM (I reach) rfl<|s_val (x_ix (v:=vat ab 5 (Int.toNat reach)) rfl rfl (Sl.ix (α:=Rch) T79.und T79.size ac (by omega) (by omega)))<|s_val (x_ld (v:=.agg #[I ((s_Reaches.getD (Int.toNat reach) default).up),I ((s_Reaches.getD (Int.toNat reach) default).down),I ((s_Reaches.getD (Int.toNat reach) default).lo),I ((s_Reaches.getD (Int.toNat reach) default).hi),B ((s_Reaches.getD (Int.toNat reach) default).narrow)]) rfl (ld_ag Ag151 Sz151 (At.mono (Rch_atA ac (i:=reach) (by omega) (by omega)) (av.at H)))) ?_;refine t_alloc (cs:=[I 0,I 0,I 0,I 0,B false]) H Al151 rfl ?_;intro aY bu H;refine t_sw 0 0 [I ((s_Reaches.getD (Int.toNat reach) default).up),I ((s_Reaches.getD (Int.toNat reach) default).down),I ((s_Reaches.getD (Int.toNat reach) default).lo),I ((s_Reaches.getD (Int.toNat reach) default).hi),B ((s_Reaches.getD (Int.toNat reach) default).narrow)] (.agg #[I ((s_Reaches.getD (Int.toNat reach) default).up),I ((s_Reaches.getD (Int.toNat reach) default).down),I ((s_Reaches.getD (Int.toNat reach) default).lo),I ((s_Reaches.getD (Int.toNat reach) default).hi),B ((s_Reaches.getD (Int.toNat reach) default).narrow)]) H rfl rfl Sz151 rfl rfl rfl rfl ?_;intro bv H;refine s_nil<|W.seq<|W.region rfl<|zM (I n) rfl<|zM (I n) rfl<|s_val (x_bld (ps:=[(0,I n),(1,I n)]) (zs:=[I 0,I 0]) (L':=[I n,I n]) rfl Tryz.underlying54 Al54 rfl (Bd54 Tryz.underlying54) (.cons (cs:=[I n]) rfl rfl rfl rfl rfl<|.cons (cs:=[I n]) rfl rfl rfl rfl rfl<|.nil))<|s_val (x_fa (v:=Oq aY 2) rfl (fa_blk (o:=0) Fd151_2 Sz54)) ?_;refine t_sw 0 2 [I n,I n] (.agg #[I n,I n]) H rfl rfl Sz54 rfl rfl rfl rfl ?_;intro bw H;refine s_nil<|W.seq<|W.region rfl<|s_val (x_ld (v:=.agg #[ae,ag,ab]) rfl (ldb_ag (ds:=[ae,ag,ab]) Ag81 Sz81 (H.bl 4) rfl rfl))<|zM ak rfl<|s_val (x_ld (v:=.agg #[I ((s_Reaches.getD (Int.toNat reach) default).up),I ((s_Reaches.getD (Int.toNat reach) default).down),I n,I n,B ((s_Reaches.getD (Int.toNat reach) default).narrow)]) rfl (ldb_ag (ds:=[I ((s_Reaches.getD (Int.toNat reach) default).up),I ((s_Reaches.getD (Int.toNat reach) default).down),I n,I n,B ((s_Reaches.getD (Int.toNat reach) default).narrow)]) Ag151 Sz151 (H.bl 0) rfl rfl)) ?_;obtain ⟨bx,aZ,hM⟩:=M.e_bind hM;refine s_call cf94 [.agg #[ae,ag,ab],ak,.agg #[I ((s_Reaches.getD (Int.toNat reach) default).up),I ((s_Reaches.getD (Int.toNat reach) default).down),I n,I n,B ((s_Reaches.getD (Int.toNat reach) default).narrow)]] rfl (zcg s_Sections s_Marks s_Reaches marks (⟨((s_Reaches.getD (Int.toNat reach) default).up:Int),((s_Reaches.getD (Int.toNat reach) default).down:Int),(n:Int),(n:Int),((s_Reaches.getD (Int.toNat reach) default).narrow)⟩:Rch) (aK.app _) aL (aM.app _) aN (av.app _) ac (aO.app _) aP aZ _ (H.gt 5)) ?_
  rintro vq bz ⟨r0,r1,rfl,hvq,ax⟩
  subst vq;(try dsimp only at hM);replace H:=H.bk ax;clear ax;refine t_alloc (cs:=[I 0,I 0]) H Al54 rfl ?_;intro aE bA H;refine t_sw 0 0 [I r0,I r1] (.agg #[I r0,I r1]) H rfl rfl Sz54 rfl rfl rfl rfl ?_;intro bB H;refine s_nil<|W.seq<|W.region rfl<|s_val (x_fa (v:=Oq aE 1) rfl (fa_blk (o:=0) Fd54_1 Sz3))<|s_val (x_ld (v:=I r1) rfl (ldb_sc Sc3 (H.bl 0) rfl))<|s_val (x_fa (v:=Pq ai) rfl (fa_blk (o:=0) Fd54_0 Sz3))<|s_val (x_ld (v:=I known.lo) rfl (ldb_sc Sc3 (H.bl 4) rfl))<|zC r1 known.lo (decide (known.lo<=r1)) rfl rfl rfl<|zM (B (decide (known.lo<=r1))) rfl<|g_val (decide (known.lo<=r1)) (gy_t rfl) (fun hg=>x_fa (v:=Pq aE) rfl (fa_blk (o:=0) Fd54_0 Sz3)) ?_;refine g_val (decide (known.lo<=r1)) (gy_t rfl) (fun hg=>x_ld (v:=I r0) (gd_of hg (Pq aE)) (ldb_sc Sc3 (H.bl 0) rfl))<|g_val (decide (known.lo<=r1)) (gy_t rfl) (fun hg=>x_fa (v:=Oq ai 1) rfl (fa_blk (o:=0) Fd54_1 Sz3))<|g_val (decide (known.lo<=r1)) (gy_t rfl) (fun hg=>x_ld (v:=I known.hi) (gd_of hg (Oq ai 1)) (ldb_sc Sc3 (H.bl 4) rfl))<|g_val (decide (known.lo<=r1)) (gy_t rfl) (fun hg=>x_cmp (kd:=.i64) (r:=decide (r0<=known.hi)) (gd_of hg (I r0)) (gd_of hg (I known.hi)) rfl)<|s_val (x_pand (b:=decide (known.lo<=r1)) (r:=decide (r0<=known.hi)) rfl (fun hb=>gd_of (c:=decide (known.lo<=r1)) (by first | exact hb | (rw [hb]; rfl) | simp_all) (B (decide (r0<=known.hi)))) rfl)<|s_nil ?_
  refine W.cond ((decide (known.lo<=r1))&&(decide (r0<=known.hi))) rfl (fun aF=>?_) (fun aF=>?_)
  ·replace hM:=M.e_t hM aF;refine W.seq<|W.seq<|W.region rfl<|s_val (x_fa (v:=Pq ao) rfl (fa_blk (o:=0) Fd54_0 Sz3))<|s_val (x_ld (v:=I s3) rfl (ldb_sc Sc3 (H.bl 2) rfl))<|zC s3 0 (decide (s3<0)) rfl rfl rfl<|s_nil ?_
   refine W.cond (decide (s3<0)) rfl (fun aq=>?_) (fun aq=>?_)
   ·replace hM:=M.e_t hM aq
    replace aq:=dI aq
    refine W.region rfl<|zM (I n) rfl<|s_val (x_fa (v:=Pq ao) rfl (fa_blk (o:=0) Fd54_0 Sz3)) ?_;refine t_sw 2 0 [I n] (I n) H rfl rfl Sz3 rfl rfl rfl rfl ?_;intro bC H;refine s_nil<|W.region rfl<|zM (I n) rfl<|s_val (x_fa (v:=Oq ao 1) rfl (fa_blk (o:=0) Fd54_1 Sz3)) ?_;refine t_sw 2 1 [I n] (I n) H rfl rfl Sz3 rfl rfl rfl rfl ?_;intro bD H;refine s_nil<|W.region rfl<|zM (I n) rfl ?_;obtain ⟨bE,hM⟩:=M.e_gd hM;refine zR n 1 (n+1) rfl rfl rfl (by omega)<|zA (I (n+1)) rfl<|s_nil ?_
    exact ⟨aC,aD,n,n,n+1,_,upds_of _ _ ⟨rfl,rfl,rfl,rfl,rfl,rfl,rfl,trivial⟩,M.e_inl hM ay,(H.pk [2,3,4,5])⟩
   replace hM:=M.e_f hM aq
   replace aq:=dI aq
   refine W.skip<|W.region rfl<|zM (I n) rfl<|s_val (x_fa (v:=Oq ao 1) rfl (fa_blk (o:=0) Fd54_1 Sz3)) ?_;refine t_sw 2 1 [I n] (I n) H rfl rfl Sz3 rfl rfl rfl rfl ?_;intro bF H;refine s_nil<|W.region rfl<|zM (I n) rfl ?_;obtain ⟨bG,hM⟩:=M.e_gd hM;refine zR n 1 (n+1) rfl rfl rfl (by omega)<|zA (I (n+1)) rfl<|s_nil ?_
   exact ⟨aC,aD,s3,n,n+1,_,upds_of _ _ ⟨rfl,rfl,rfl,rfl,rfl,rfl,rfl,trivial⟩,M.e_inl hM ay,(H.pk [2,3,4,5])⟩
  replace hM:=M.e_f hM aF;refine W.skip<|W.region rfl<|zM (I n) rfl ?_;obtain ⟨bH,hM⟩:=M.e_gd hM;refine zR n 1 (n+1) rfl rfl rfl (by omega)<|zA (I (n+1)) rfl<|s_nil ?_
  exact ⟨aC,aD,s3,s4,n+1,_,upds_of _ _ ⟨rfl,rfl,rfl,rfl,rfl,rfl,rfl,trivial⟩,M.e_inl hM ay,(H.pk [2,3,4,5])⟩
 replace hM:=M.e_f hM ap
 replace ap:=dI ap
 refine W.exit ?_
 have a6:=M.e_inr hM ay
 subst a6;replace hM:=aX;(try dsimp only at hM);replace H:=H.pk [0,1];refine W.seq<|W.seq<|W.region rfl<|s_val (x_fa (v:=Pq ao) rfl (fa_blk (o:=0) Fd54_0 Sz3))<|s_val (x_ld (v:=I s3) rfl (ldb_sc Sc3 (H.bl 0) rfl))<|zC s3 0 (decide (s3<0)) rfl rfl rfl<|s_nil ?_
 refine W.cond (decide (s3<0)) rfl (fun au=>?_) (fun au=>?_)
 ·replace hM:=M.e_t hM au
  replace au:=dI au
  refine W.seq<|W.region rfl<|s_val (x_bld (ps:=[]) (zs:=[I 0,I 0]) (L':=[I 0,I 0]) rfl Tryz.underlying54 Al54 rfl (Bd54 Tryz.underlying54) (.nil)) ?_;refine t_sw 1 0 [I 0,I 0] (.agg #[I 0,I 0]) H rfl rfl Sz54 rfl rfl rfl rfl ?_;intro bI H;refine zA (I 5) rfl<|s_nil ?_;refine W.ret ?_
  have a7:=(H.bl 1)
  have aj:=M.e_pure hM
  exact ⟨_,(resE_ofn (vs:=[.agg #[I 0,I 0],I 5]) rfl rfl (.cell (v:=.agg #[I 0,I 0]) rfl (run_loadVar_ag (ds:=[I 0,I 0]) Ag54 Sz54 a7 rfl rfl)<|.tmp (v:=I 5) rfl<|.nil)),⟨0,0,5,aj,rfl,(H.pk [])⟩⟩
 replace hM:=M.e_f hM au
 replace au:=dI au
 refine W.skip<|W.seq<|W.region rfl<|s_val (x_ld (v:=.agg #[I s3,I s4]) rfl (ldb_ag (ds:=[I s3,I s4]) Ag54 Sz54 (H.bl 0) rfl rfl)) ?_;refine t_sw 1 0 [I s3,I s4] (.agg #[I s3,I s4]) H rfl rfl Sz54 rfl rfl rfl rfl ?_;intro bJ H;refine zA (I 0) rfl<|s_nil ?_;refine W.ret ?_
 have a8:=(H.bl 1)
 have aj:=M.e_pure hM
 exact ⟨_,(resE_ofn (vs:=[.agg #[I s3,I s4],I 0]) rfl rfl (.cell (v:=.agg #[I s3,I s4]) rfl (run_loadVar_ag (ds:=[I s3,I s4]) Ag54 Sz54 a8 rfl rfl)<|.tmp (v:=I 0) rfl<|.nil)),⟨s3,s4,0,aj,rfl,(H.pk [])⟩⟩

def zaT (s_Sections:List Sect) (s_Marks:List Mrk) (s_Reaches:List Rch) (marks:List Int) (reach:Int) (known:Span) (r0:List Sect) (r1:List Mrk) (ab:List Rch) (r4:List Int) (ap:List Sect) (aq:List Mrk) (au:List Rch) (aF aG aH aI:Int):M Bool :=
  M.bind (zb4 r0 r1 ab r4) fun (ax,ay,az) =>
  M.bind (zcq ap aq au marks) fun (aA,aB,aC) =>
  bif ((az != aC)||(!(decide ((⟨(ax:Int),(ay:Int)⟩:Span)=(⟨(aA:Int),(aB:Int)⟩:Span))))) then (
  M.pure false)
  else (
  M.bind (zav r0 r1 ab) fun r9 =>
  M.grd ((!(((r9==0)&&(decide (0<=reach)))&&(decide (reach<(s_Reaches.length:Int))))||(decide ((0:Int)<=reach)&&decide (reach<(s_Reaches.length:Int))))) <|
  M.grd ((!(((r9==0)&&(decide (0<=reach)))&&(decide (reach<(s_Reaches.length:Int))))||(decide ((-9223372036854775808:Int)<=(((s_Reaches.getD (Int.toNat reach) default).hi)-((s_Reaches.getD (Int.toNat reach) default).lo)))&&decide ((((s_Reaches.getD (Int.toNat reach) default).hi)-((s_Reaches.getD (Int.toNat reach) default).lo))<=(9223372036854775807:Int))))) <|
  bif ((((r9==0)&&(decide (0<=reach)))&&(decide (reach<(s_Reaches.length:Int))))&&(decide (29<(((s_Reaches.getD (Int.toNat reach) default).hi)-((s_Reaches.getD (Int.toNat reach) default).lo))))) then (
  M.bind (za8 r0 r1 ab s_Sections s_Marks s_Reaches) fun am =>
  M.bind (M.opt am (zbR r4 marks) false) fun av =>
  M.bind (M.opt (am&&av) (zaO) false) fun aD =>
  M.pure ((am&&av)&&aD))
  else (
  M.bind (zb2 r0 r1 ab r4 reach known) fun (ac,ae,ag) =>
  M.bind (zcu ap aq au marks reach known) fun (ai,aj,ak) =>
  M.bind (M.opt ((ag==ak)&&(decide ((⟨(ac:Int),(ae:Int)⟩:Span)=(⟨(ai:Int),(aj:Int)⟩:Span)))) (za8 r0 r1 ab s_Sections s_Marks s_Reaches) false) fun ao =>
  M.bind (M.opt (((ag==ak)&&(decide ((⟨(ac:Int),(ae:Int)⟩:Span)=(⟨(ai:Int),(aj:Int)⟩:Span))))&&ao) (zbR r4 marks) false) fun aw =>
  M.bind (M.opt ((((ag==ak)&&(decide ((⟨(ac:Int),(ae:Int)⟩:Span)=(⟨(ai:Int),(aj:Int)⟩:Span))))&&ao)&&aw) (zaO) false) fun aE =>
  M.pure (((((ag==ak)&&(decide ((⟨(ac:Int),(ae:Int)⟩:Span)=(⟨(ai:Int),(aj:Int)⟩:Span))))&&ao)&&aw)&&aE)))
def zc8 (s_Sections:List Sect) (s_Marks:List Mrk) (s_Reaches:List Rch) (marks:List Int) (reach:Int) (c:Cas) (most:Bool) (known:Span):M Bool :=
  M.bind (zcl s_Sections s_Marks s_Reaches) fun r2 =>
  bif (r2||(decide (18<(marks.length:Int)))) then (
  M.bind (zaO) fun r3 =>
  M.pure r3)
  else (
  M.bind (zcj s_Sections s_Marks s_Reaches) fun (r0,r1,ag) =>
  M.bind (zb5 marks) fun r4 =>
  M.bind (zbD s_Sections s_Marks s_Reaches) fun (ab,ac,ae) =>
  M.bind (zaq r0 r1 ag r4) fun (aB,aw) =>
  M.bind (zbY ab ac ae marks) fun (aC,ax) =>
  M.bind (M.opt (!(aw != ax)) (zcm aB aC) false) fun r5 =>
  bif ((aw != ax)||(!r5)) then (
  M.pure false)
  else (
  M.bind (zbL r0 r1 ag reach c) fun (aD,aE) =>
  M.bind (zbX ab ac ae reach c) fun (aF,aG) =>
  bif ((aE != aG)||(aD != aF)) then (
  M.pure false)
  else (
  M.bind (zcD s_Sections s_Marks s_Reaches marks) fun r6 =>
  bif r6 then (
  M.bind (zaO) fun r7 =>
  M.pure r7)
  else (
  M.bind (za0 r0 r1 ag r4 reach) fun (ak,am,aH) =>
  M.bind (zch ab ac ae marks reach) fun (ai,aj,ay) =>
  bif ((aH != ay)||(!(decide ((⟨(ak:Int),(am:Int)⟩:Span)=(⟨(ai:Int),(aj:Int)⟩:Span))))) then (
  M.pure false)
  else (
  M.bind (zcx r0 r1 ag r4 reach most) fun (ao,ap,aq,au,av) =>
  bif ((av != ay)||((av != 0)&&(!(decide ((⟨(ao:Int),(ap:Int),(aq:Int),(au:Int)⟩:Cas)=(⟨(0:Int),(0:Int),(0:Int),(0:Int)⟩:Cas)))))) then (
  M.pure false)
  else (
  bif av==0 then (
  M.bind (zbX ab ac ae reach (⟨(ao:Int),(ap:Int),(aq:Int),(au:Int)⟩:Cas)) fun (az,aA) =>
  M.bind (M.opt (!(aA != 0)) (zce ab ac ae marks reach (⟨(ao:Int),(ap:Int),(aq:Int),(au:Int)⟩:Cas)) false) fun r8 =>
  bif ((((aA != 0)||(!r8))||(most&&(az != aj)))||((!most)&&(az != ai))) then (
  M.pure false)
  else (
  zaT s_Sections s_Marks s_Reaches marks reach known r0 r1 ag r4 ab ac ae ak am ai aj))
  else (
  zaT s_Sections s_Marks s_Reaches marks reach known r0 r1 ag r4 ab ac ae ak am ai aj)))))))
theorem zd7 {R:List Chunk} {bW:Cells} {aG:Value} {bX:Cells} {aH:Value} {bY:Cells} {ae:Value} {bZ:Cells} {aF:Value} (s_Sections:List Sect) (s_Marks:List Mrk) (s_Reaches:List Rch) (marks:List Int) (reach:Int) (c:Cas) (most:Bool) (known:Span) (bB:Reads R bW) (bC:Sl bW aG s_Sections) (bD:Reads R bX) (bE:Sl bX aH s_Marks) (bt:Reads R bY) (aP:Sl bY ae s_Reaches) (bo:Reads R bZ) (bg:Sl bZ aF marks) {r:Bool} (hM:(zc8 s_Sections s_Marks s_Reaches marks reach c most known).Ends r) (w:World) (H:St w w [] R):Ret Tryz.prog 7 #[.agg #[aG,aH,ae],aF,I reach,.agg #[I c.up,I c.down,I c.roughup,I c.roughdown],B most,.agg #[I known.lo,I known.hi]] w fun v w'=>∃ (y0:Bool),y0=r/\v=B y0/\St w w' [] R:=by
 refine ret_of_W Tryz.func7 rfl rfl rfl<|W.seq<|W.region rfl ?_;refine t_bx [aG,aH,ae] H rfl ?_;intro bp cK H;refine t_bx [I c.up,I c.down,I c.roughup,I c.roughdown] H rfl ?_;intro cL cM H;refine t_bx [I known.lo,I known.hi] H rfl ?_;intro bI cN H;refine zA (B false) rfl<|s_nil<|W.seq<|W.seq<|W.region rfl<|s_val (x_ld (v:=.agg #[aG,aH,ae]) rfl (ldb_ag (ds:=[aG,aH,ae]) Ag27 Sz27 (H.bl 2) rfl rfl)) ?_;obtain ⟨cO,b8,hM⟩:=M.e_bind hM;refine s_call cf24 [.agg #[aG,aH,ae]] rfl (zdY s_Sections s_Marks s_Reaches (bB.app _) bC (bD.app _) bE (bt.app _) aP b8 _ (H.gt 3)) ?_
 rintro vq cP ⟨r2,rfl,hvq,ac⟩
 subst vq;(try dsimp only at hM);replace H:=H.bk ac;clear ac;refine zM (B r2) rfl<|g_val (!r2) (gy_f rfl) (fun hg=>x_mv (v:=aF) rfl) ?_
 have cQ:=(bg).len_le
 refine g_val (!r2) (gy_f rfl) (fun hg=>x_lenS T28.und (gd_of hg (aF)) bg)<|g_val (!r2) (gy_f rfl) (fun hg=>x_cmp (kd:=.i64) (r:=decide (18<(marks.length:Int))) (gd_of hg (I (marks.length:Int))) rfl rfl)<|s_val (x_por (b:=r2) (r:=decide (18<(marks.length:Int))) rfl rfl (fun hb=>gd_of (c:=!r2) (by first | exact hb | (rw [hb]; rfl) | simp_all) (B (decide (18<(marks.length:Int))))))<|s_nil ?_
 refine W.cond (r2||(decide (18<(marks.length:Int)))) rfl (fun bJ=>?_) (fun bJ=>?_)
 ·replace hM:=M.e_t hM bJ;refine W.seq<|W.region rfl ?_;obtain ⟨cR,b9,hM⟩:=M.e_bind hM;refine s_call cf16 [] rfl (zco b9 _ (H.gt 3)) ?_
  rintro vq cS ⟨r3,rfl,hvq,ac⟩
  subst vq;(try dsimp only at hM);replace H:=H.bk ac;clear ac;refine zA (B r3) rfl<|s_nil ?_;replace H:=H.pk [];refine W.ret ?_
  have aq:=M.e_pure hM
  exact ⟨_,resE_tmp rfl,⟨r3,aq,rfl,H⟩⟩
 replace hM:=M.e_f hM bJ;refine W.skip<|W.seq<|W.region rfl<|s_val (x_ld (v:=.agg #[aG,aH,ae]) rfl (ldb_ag (ds:=[aG,aH,ae]) Ag27 Sz27 (H.bl 2) rfl rfl)) ?_;obtain ⟨cT,cb,hM⟩:=M.e_bind hM;refine s_call cf17 [.agg #[aG,aH,ae]] rfl (zen s_Sections s_Marks s_Reaches (bB.app _) bC (bD.app _) bE (bt.app _) aP cb _ (H.gt 3)) ?_
 rintro vq cU ⟨r0,r1,bc,am,b4,b5,ao,ap,rfl,hvq,ac,bj⟩
 subst vq;(try dsimp only at hM);replace H:=H.bk ac;clear ac;refine zM aF rfl ?_;obtain ⟨cV,cc,hM⟩:=M.e_bind hM;refine s_call cf37 [aF] rfl (zes marks (bo.app _) bg cc _ (H.gt 7)) ?_
 rintro vq cW ⟨r4,aN,rfl,hvq,ac⟩
 subst vq;(try dsimp only at hM);replace H:=H.bk ac;clear ac;refine t_alloc (cs:=[.slice none 0 0,.slice none 0 0,.slice none 0 0]) H Al27 rfl ?_;intro bK cX H;refine t_sw 0 0 [am,ao,ap] (.agg #[am,ao,ap]) H rfl rfl Sz27 rfl rfl rfl (by simp only [List.all_cons,List.all_nil,Bool.true_and,Bool.and_true,Sl.oc (rowSl rfl (H.get (k:=2) rfl) (roLe _ (H.get (k:=3) rfl)) bj),Sl.oc (H.os 4),Sl.oc (H.os 5)]; try rfl) ?_;intro cY H;refine zA aN rfl<|s_nil<|W.seq<|W.region rfl<|s_val (x_ld (v:=.agg #[aG,aH,ae]) rfl (ldb_ag (ds:=[aG,aH,ae]) Ag27 Sz27 (H.bl 8) rfl rfl)) ?_;obtain ⟨cZ,cd,hM⟩:=M.e_bind hM;refine s_call cf25 [.agg #[aG,aH,ae]] rfl (zdF s_Sections s_Marks s_Reaches (bB.app _) bC (bD.app _) bE (bt.app _) aP cd _ (H.gt 9)) ?_
 rintro vq c8 ⟨bu,bm,bn,aC,b6,b7,aD,aE,rfl,hvq,ac,bv⟩
 subst vq;(try dsimp only at hM);replace H:=H.bk ac;clear ac;refine t_alloc (cs:=[.slice none 0 0,.slice none 0 0,.slice none 0 0]) H Al81 rfl ?_;intro bL c9 H;refine t_sw 0 0 [aC,aD,aE] (.agg #[aC,aD,aE]) H rfl rfl Sz81 rfl rfl rfl (by simp only [List.all_cons,List.all_nil,Bool.true_and,Bool.and_true,Sl.oc (rowSl rfl (H.get (k:=1) rfl) (roLe _ (H.get (k:=2) rfl)) bv),Sl.oc (H.os 3),Sl.oc (H.os 4)]; try rfl) ?_;intro da H;refine s_nil<|W.seq<|W.region rfl<|s_val (x_ld (v:=.agg #[am,ao,ap]) rfl (ldb_ag (ds:=[am,ao,ap]) Ag27 Sz27 (H.bl 5) rfl rfl))<|zM aN rfl ?_;obtain ⟨db,ce,hM⟩:=M.e_bind hM;refine s_call cf13 [.agg #[am,ao,ap],aN] rfl (zdi r0 r1 bc r4 (Reads.sup (rdo 7) (Reads.of (k:=8) rfl roLe)) (rowSl rfl (H.get (k:=7) rfl) (roLe _ (H.get (k:=8) rfl)) bj) (rdo 9) (H.os 9) (rdo 10) (H.os 10) (rdo 6) (H.os 6) ce _ (H.gt 14)) ?_
 rintro vq dc ⟨cf,aQ,bw,rfl,hvq,ac⟩
 subst vq;(try dsimp only at hM);replace H:=H.bk ac;clear ac;refine zM (.tuple #[bw,I aQ]) rfl<|zX [bw,I aQ] bw rfl rfl<|zX [bw,I aQ] (I aQ) rfl rfl<|zA bw rfl<|zA (I aQ) rfl<|s_nil<|W.seq<|W.region rfl<|s_val (x_ld (v:=.agg #[aC,aD,aE]) rfl (ldb_ag (ds:=[aC,aD,aE]) Ag81 Sz81 (H.bl 1) rfl rfl))<|zM aF rfl ?_;obtain ⟨dd,cg,hM⟩:=M.e_bind hM;refine s_call cf38 [.agg #[aC,aD,aE],aF] rfl (zde bu bm bn marks (Reads.sup (rdo 2) (Reads.of (k:=3) rfl roLe)) (rowSl rfl (H.get (k:=2) rfl) (roLe _ (H.get (k:=3) rfl)) bv) (rdo 4) (H.os 4) (rdo 5) (H.os 5) (bo.app _) bg cg _ (H.gt 15)) ?_
 rintro vq de ⟨cj,aR,bx,rfl,hvq,ac⟩
 subst vq;(try dsimp only at hM);replace H:=H.bk ac;clear ac;refine zM (.tuple #[bx,I aR]) rfl<|zX [bx,I aR] bx rfl rfl<|zX [bx,I aR] (I aR) rfl rfl<|zA bx rfl<|zA (I aR) rfl<|s_nil<|W.seq<|W.seq<|W.region rfl<|zM (I aQ) rfl ?_;refine zM (I aR) rfl<|zC aQ aR (aQ != aR) rfl rfl rfl<|zM (B (aQ != aR)) rfl<|g_val (!(aQ != aR)) (gy_f rfl) (fun hg=>x_mv (v:=bw) rfl)<|g_val (!(aQ != aR)) (gy_f rfl) (fun hg=>x_mv (v:=bx) rfl) ?_;obtain ⟨r5,co,hM⟩:=M.e_bind hM;refine t_gcall (!(aQ != aR)) (gy_f rfl) cf39 (B r5) (fun _=>[bw,bx]) (fun hg=>lst2 (gd_of hg (bw)) (gd_of hg (bx))) H (fun hg=>(zd9 cf cj (rdo 1) (H.os 1) (rdo 0) (H.os 0) (M.e_opt co hg) _ (H.give (A:=[]) rfl)).mono fun v_ w_ ⟨y_,aq,bb,H_⟩=>by subst aq; exact ⟨bb,H.via H_⟩) ?_;intro dg H;refine g_val (!(aQ != aR)) (gy_f rfl) (fun hg=>x_not (b:=r5) (gd_of hg (B r5)))<|s_val (x_por (b:=aQ != aR) (r:=!r5) rfl rfl (fun hb=>gd_of (c:=!(aQ != aR)) (by first | exact hb | (rw [hb]; rfl) | simp_all) (B (!r5))))<|s_nil ?_;replace H:=H.pk [2,3,4,5,6,7,8,9,10,11,12,13,14,15]
 refine W.cond ((aQ != aR)||(!r5)) rfl (fun bM=>?_) (fun bM=>?_)
 ·replace hM:=M.e_t hM bM;refine W.seq<|W.region rfl<|zA (B false) rfl<|s_nil ?_;replace H:=H.pk [];refine W.ret ?_
  have aq:=M.e_pure hM
  exact ⟨_,resE_tmp rfl,⟨false,aq,rfl,H⟩⟩
 replace hM:=M.e_f hM bM;refine W.skip<|W.seq<|W.region rfl<|s_val (x_ld (v:=.agg #[am,ao,ap]) rfl (ldb_ag (ds:=[am,ao,ap]) Ag27 Sz27 (H.bl 5) rfl rfl))<|zM (I reach) rfl<|s_val (x_ld (v:=.agg #[I c.up,I c.down,I c.roughup,I c.roughdown]) rfl (ldb_ag (ds:=[I c.up,I c.down,I c.roughup,I c.roughdown]) Ag61 Sz61 (H.bl 12) rfl rfl)) ?_;obtain ⟨dh,cp,hM⟩:=M.e_bind hM;refine s_call cf22 [.agg #[am,ao,ap],I reach,.agg #[I c.up,I c.down,I c.roughup,I c.roughdown]] rfl (zdr r0 r1 bc reach c (Reads.sup (rdo 7) (Reads.of (k:=8) rfl roLe)) (rowSl rfl (H.get (k:=7) rfl) (roLe _ (H.get (k:=8) rfl)) bj) (rdo 9) (H.os 9) (rdo 10) (H.os 10) cp _ (H.gt 14)) ?_
 rintro vq di ⟨bh,aS,rfl,hvq,ac⟩
 subst vq;(try dsimp only at hM);replace H:=H.bk ac;clear ac;refine zM (.tuple #[I bh,I aS]) rfl<|zX [I bh,I aS] (I bh) rfl rfl<|zX [I bh,I aS] (I aS) rfl rfl<|zA (I bh) rfl<|zA (I aS) rfl<|s_nil<|W.seq<|W.region rfl<|s_val (x_ld (v:=.agg #[aC,aD,aE]) rfl (ldb_ag (ds:=[aC,aD,aE]) Ag81 Sz81 (H.bl 0) rfl rfl))<|zM (I reach) rfl ?_;refine s_val (x_ld (v:=.agg #[I c.up,I c.down,I c.roughup,I c.roughdown]) rfl (ldb_ag (ds:=[I c.up,I c.down,I c.roughup,I c.roughdown]) Ag61 Sz61 (H.bl 12) rfl rfl)) ?_;obtain ⟨dj,cq,hM⟩:=M.e_bind hM;refine s_call cf40 [.agg #[aC,aD,aE],I reach,.agg #[I c.up,I c.down,I c.roughup,I c.roughdown]] rfl (zdg bu bm bn reach c (Reads.sup (rdo 1) (Reads.of (k:=2) rfl roLe)) (rowSl rfl (H.get (k:=1) rfl) (roLe _ (H.get (k:=2) rfl)) bv) (rdo 3) (H.os 3) (rdo 4) (H.os 4) cq _ (H.gt 14)) ?_
 rintro vq dk ⟨bi,aT,rfl,hvq,ac⟩
 subst vq;(try dsimp only at hM);replace H:=H.bk ac;clear ac;refine zM (.tuple #[I bi,I aT]) rfl<|zX [I bi,I aT] (I bi) rfl rfl<|zX [I bi,I aT] (I aT) rfl rfl<|zA (I bi) rfl<|zA (I aT) rfl<|s_nil<|W.seq<|W.seq<|W.region rfl<|zM (I aS) rfl ?_;refine zM (I aT) rfl<|zC aS aT (aS != aT) rfl rfl rfl<|zM (B (aS != aT)) rfl<|g_val (!(aS != aT)) (gy_f rfl) (fun hg=>x_mv (v:=I bh) rfl)<|g_val (!(aS != aT)) (gy_f rfl) (fun hg=>x_mv (v:=I bi) rfl)<|g_val (!(aS != aT)) (gy_f rfl) (fun hg=>x_cmp (kd:=.i64) (r:=bh != bi) (gd_of hg (I bh)) (gd_of hg (I bi)) rfl)<|s_val (x_por (b:=aS != aT) (r:=bh != bi) rfl rfl (fun hb=>gd_of (c:=!(aS != aT)) (by first | exact hb | (rw [hb]; rfl) | simp_all) (B (bh != bi))))<|s_nil ?_
 refine W.cond ((aS != aT)||(bh != bi)) rfl (fun bN=>?_) (fun bN=>?_)
 ·replace hM:=M.e_t hM bN;refine W.seq<|W.region rfl<|zA (B false) rfl<|s_nil ?_;replace H:=H.pk [];refine W.ret ?_
  have aq:=M.e_pure hM
  exact ⟨_,resE_tmp rfl,⟨false,aq,rfl,H⟩⟩
 replace hM:=M.e_f hM bN;refine W.skip<|W.seq<|W.seq<|W.region rfl<|s_val (x_ld (v:=.agg #[aG,aH,ae]) rfl (ldb_ag (ds:=[aG,aH,ae]) Ag27 Sz27 (H.bl 13) rfl rfl))<|zM aF rfl ?_;obtain ⟨dm,cr,hM⟩:=M.e_bind hM;refine s_call cf41 [.agg #[aG,aH,ae],aF] rfl (zd4 s_Sections s_Marks s_Reaches marks (bB.app _) bC (bD.app _) bE (bt.app _) aP (bo.app _) bg cr _ (H.gt 14)) ?_
 rintro vq dp ⟨r6,rfl,hvq,ac⟩
 subst vq;(try dsimp only at hM);replace H:=H.bk ac;clear ac;refine s_nil ?_
 refine W.cond r6 rfl (fun bO=>?_) (fun bO=>?_)
 ·replace hM:=M.e_t hM bO;refine W.seq<|W.region rfl ?_;obtain ⟨dq,ct,hM⟩:=M.e_bind hM;refine s_call cf16 [] rfl (zco ct _ (H.gt 14)) ?_
  rintro vq dr ⟨r7,rfl,hvq,ac⟩
  subst vq;(try dsimp only at hM);replace H:=H.bk ac;clear ac;refine zA (B r7) rfl<|s_nil ?_;replace H:=H.pk [];refine W.ret ?_
  have aq:=M.e_pure hM
  exact ⟨_,resE_tmp rfl,⟨r7,aq,rfl,H⟩⟩
 replace hM:=M.e_f hM bO;refine W.skip<|W.seq<|W.region rfl<|s_val (x_ld (v:=.agg #[am,ao,ap]) rfl (ldb_ag (ds:=[am,ao,ap]) Ag27 Sz27 (H.bl 5) rfl rfl))<|zM aN rfl<|zM (I reach) rfl ?_;obtain ⟨dt,cu,hM⟩:=M.e_bind hM;refine s_call cf20 [.agg #[am,ao,ap],aN,I reach] rfl (zcJ r0 r1 bc r4 reach (Reads.sup (rdo 7) (Reads.of (k:=8) rfl roLe)) (rowSl rfl (H.get (k:=7) rfl) (roLe _ (H.get (k:=8) rfl)) bj) (rdo 9) (H.os 9) (rdo 10) (H.os 10) (rdo 6) (H.os 6) cu _ (H.gt 14)) ?_
 rintro vq dv ⟨aU,aV,aW,rfl,hvq,ac⟩
 subst vq;(try dsimp only at hM);replace H:=H.bk ac;clear ac;refine zM (.tuple #[.agg #[I aU,I aV],I aW]) rfl<|zX [.agg #[I aU,I aV],I aW] (.agg #[I aU,I aV]) rfl rfl<|zX [.agg #[I aU,I aV],I aW] (I aW) rfl rfl ?_;refine t_alloc (cs:=[I 0,I 0]) H Al54 rfl ?_;intro bP dw H;refine t_sw 0 0 [I aU,I aV] (.agg #[I aU,I aV]) H rfl rfl Sz54 rfl rfl rfl rfl ?_;intro dx H;refine zA (I aW) rfl<|s_nil<|W.seq<|W.region rfl<|s_val (x_ld (v:=.agg #[aC,aD,aE]) rfl (ldb_ag (ds:=[aC,aD,aE]) Ag81 Sz81 (H.bl 1) rfl rfl))<|zM aF rfl<|zM (I reach) rfl ?_;obtain ⟨dy,cv,hM⟩:=M.e_bind hM;refine s_call cf42 [.agg #[aC,aD,aE],aF,I reach] rfl (zep bu bm bn marks reach (Reads.sup (rdo 2) (Reads.of (k:=3) rfl roLe)) (rowSl rfl (H.get (k:=2) rfl) (roLe _ (H.get (k:=3) rfl)) bv) (rdo 4) (H.os 4) (rdo 5) (H.os 5) (bo.app _) bg cv _ (H.gt 15)) ?_
 rintro vq dz ⟨aM,ak,ax,rfl,hvq,ac⟩
 subst vq;(try dsimp only at hM);replace H:=H.bk ac;clear ac;refine zM (.tuple #[.agg #[I aM,I ak],I ax]) rfl<|zX [.agg #[I aM,I ak],I ax] (.agg #[I aM,I ak]) rfl rfl<|zX [.agg #[I aM,I ak],I ax] (I ax) rfl rfl ?_;refine t_alloc (cs:=[I 0,I 0]) H Al54 rfl ?_;intro bz dA H;refine t_sw 0 0 [I aM,I ak] (.agg #[I aM,I ak]) H rfl rfl Sz54 rfl rfl rfl rfl ?_;intro dB H;refine zA (I ax) rfl<|s_nil<|W.seq<|W.seq<|W.region rfl<|zM (I aW) rfl<|zM (I ax) rfl<|zC aW ax (aW != ax) rfl rfl rfl<|zM (B (aW != ax)) rfl<|g_val (!(aW != ax)) (gy_f rfl) (fun hg=>x_ld (v:=.agg #[I aU,I aV]) rfl (ldb_ag (ds:=[I aU,I aV]) Ag54 Sz54 (H.bl 1) rfl rfl)) ?_;refine g_val (!(aW != ax)) (gy_f rfl) (fun hg=>x_ld (v:=.agg #[I aM,I ak]) rfl (ldb_ag (ds:=[I aM,I ak]) Ag54 Sz54 (H.bl 0) rfl rfl))<|g_val (!(aW != ax)) (gy_f rfl) (fun hg=>x_neS (eqT54 (⟨(aU:Int),(aV:Int)⟩:Span) (⟨(aM:Int),(ak:Int)⟩:Span) _) gdT54 (gd_of hg (.agg #[I aU,I aV])) (gd_of hg (.agg #[I aM,I ak])))<|s_val (x_por (b:=aW != ax) (r:=!(decide ((⟨(aU:Int),(aV:Int)⟩:Span)=(⟨(aM:Int),(ak:Int)⟩:Span)))) rfl rfl (fun hb=>gd_of (c:=!(aW != ax)) (by first | exact hb | (rw [hb]; rfl) | simp_all) (B (!(decide ((⟨(aU:Int),(aV:Int)⟩:Span)=(⟨(aM:Int),(ak:Int)⟩:Span)))))))<|s_nil ?_
 refine W.cond ((aW != ax)||(!(decide ((⟨(aU:Int),(aV:Int)⟩:Span)=(⟨(aM:Int),(ak:Int)⟩:Span))))) rfl (fun bQ=>?_) (fun bQ=>?_)
 ·replace hM:=M.e_t hM bQ;refine W.seq<|W.region rfl<|zA (B false) rfl<|s_nil ?_;replace H:=H.pk [];refine W.ret ?_
  have aq:=M.e_pure hM
  exact ⟨_,resE_tmp rfl,⟨false,aq,rfl,H⟩⟩
 replace hM:=M.e_f hM bQ;refine W.skip<|W.seq<|W.region rfl<|s_val (x_ld (v:=.agg #[am,ao,ap]) rfl (ldb_ag (ds:=[am,ao,ap]) Ag27 Sz27 (H.bl 7) rfl rfl))<|zM aN rfl<|zM (I reach) rfl<|zM (B most) rfl ?_;obtain ⟨dC,cw,hM⟩:=M.e_bind hM;refine s_call cf21 [.agg #[am,ao,ap],aN,I reach,B most] rfl (zdS r0 r1 bc r4 reach most (Reads.sup (rdo 9) (Reads.of (k:=10) rfl roLe)) (rowSl rfl (H.get (k:=9) rfl) (roLe _ (H.get (k:=10) rfl)) bj) (rdo 11) (H.os 11) (rdo 12) (H.os 12) (rdo 8) (H.os 8) cw _ (H.gt 16)) ?_
 rintro vq dD ⟨aI,aJ,aK,aL,ai,rfl,hvq,ac⟩
 subst vq;(try dsimp only at hM);replace H:=H.bk ac;clear ac;refine zM (.tuple #[.agg #[I aI,I aJ,I aK,I aL],I ai]) rfl<|zX [.agg #[I aI,I aJ,I aK,I aL],I ai] (.agg #[I aI,I aJ,I aK,I aL]) rfl rfl<|zX [.agg #[I aI,I aJ,I aK,I aL],I ai] (I ai) rfl rfl ?_;refine t_alloc (cs:=[I 0,I 0,I 0,I 0]) H Al61 rfl ?_;intro dE dF H;refine t_sw 0 0 [I aI,I aJ,I aK,I aL] (.agg #[I aI,I aJ,I aK,I aL]) H rfl rfl Sz61 rfl rfl rfl rfl ?_;intro dG H;refine zA (I ai) rfl<|s_nil<|W.seq<|W.seq<|W.region rfl<|zM (I ai) rfl<|zM (I ax) rfl<|zC ai ax (ai != ax) rfl rfl rfl<|zM (B (ai != ax)) rfl<|g_val (!(ai != ax)) (gy_f rfl) (fun hg=>x_mv (v:=I ai) rfl) ?_;refine g_val (!(ai != ax)) (gy_f rfl) (fun hg=>x_cmp (kd:=.i64) (r:=ai != 0) (gd_of hg (I ai)) rfl rfl)<|g_val (!(ai != ax)) (gy_f rfl) (fun hg=>x_mv (v:=B (ai != 0)) (gd_of hg (B (ai != 0))))<|g_val ((!(ai != ax))&&(ai != 0)) (gy_gt rfl rfl) (fun hg=>x_ld (v:=.agg #[I aI,I aJ,I aK,I aL]) rfl (ldb_ag (ds:=[I aI,I aJ,I aK,I aL]) Ag61 Sz61 (H.bl 0) rfl rfl))<|g_val ((!(ai != ax))&&(ai != 0)) (gy_gt rfl rfl) (fun hg=>x_bld (ps:=[]) (zs:=[I 0,I 0,I 0,I 0]) (L':=[I 0,I 0,I 0,I 0]) rfl Tryz.underlying61 Al61 rfl (Bd61 Tryz.underlying61) (.nil))<|g_val ((!(ai != ax))&&(ai != 0)) (gy_gt rfl rfl) (fun hg=>x_neS (eqT61 (⟨(aI:Int),(aJ:Int),(aK:Int),(aL:Int)⟩:Cas) (⟨(0:Int),(0:Int),(0:Int),(0:Int)⟩:Cas) _) gdT61 (gd_of hg (.agg #[I aI,I aJ,I aK,I aL])) (gd_of hg (.agg #[I 0,I 0,I 0,I 0])))<|g_val (!(ai != ax)) (gy_f rfl) (fun hg=>x_pand (b:=ai != 0) (r:=!(decide ((⟨(aI:Int),(aJ:Int),(aK:Int),(aL:Int)⟩:Cas)=(⟨(0:Int),(0:Int),(0:Int),(0:Int)⟩:Cas)))) (gd_of hg (B (ai != 0))) (fun hb=>gd_of (c:=((!(ai != ax))&&(ai != 0))) (by first | exact hb | (rw [hb]; rfl) | simp_all) (B (!(decide ((⟨(aI:Int),(aJ:Int),(aK:Int),(aL:Int)⟩:Cas)=(⟨(0:Int),(0:Int),(0:Int),(0:Int)⟩:Cas)))))) rfl)<|s_val (x_por (b:=ai != ax) (r:=((ai != 0)&&(!(decide ((⟨(aI:Int),(aJ:Int),(aK:Int),(aL:Int)⟩:Cas)=(⟨(0:Int),(0:Int),(0:Int),(0:Int)⟩:Cas)))))) rfl rfl (fun hb=>gd_of (c:=!(ai != ax)) (by first | exact hb | (rw [hb]; rfl) | simp_all) (B ((ai != 0)&&(!(decide ((⟨(aI:Int),(aJ:Int),(aK:Int),(aL:Int)⟩:Cas)=(⟨(0:Int),(0:Int),(0:Int),(0:Int)⟩:Cas))))))))<|s_nil ?_
 refine W.cond ((ai != ax)||((ai != 0)&&(!(decide ((⟨(aI:Int),(aJ:Int),(aK:Int),(aL:Int)⟩:Cas)=(⟨(0:Int),(0:Int),(0:Int),(0:Int)⟩:Cas)))))) rfl (fun bR=>?_) (fun bR=>?_)
 ·replace hM:=M.e_t hM bR;refine W.seq<|W.region rfl<|zA (B false) rfl<|s_nil ?_;replace H:=H.pk [];refine W.ret ?_
  have aq:=M.e_pure hM
  exact ⟨_,resE_tmp rfl,⟨false,aq,rfl,H⟩⟩
 replace hM:=M.e_f hM bR;refine W.skip ?_;refine W.seqJ (fun σ W=>∃ (ρ:Env),σ=upds ρ [(1,aF),(2,I reach),(6,Pq bp),(11,Pq bI),(13,Pq bK),(14,aN),(15,Pq bL),(22,Pq bP),(23,Pq bz)]/\(zaT s_Sections s_Marks s_Reaches marks reach known r0 r1 bc r4 bu bm bn aU aV aM ak).Ends r/\St w W [cBlk bz [I aM,I ak] 54,cBlk bP [I aU,I aV] 54,cBlk bL [aC,aD,aE] 81,cOwn (α:=Raw 1) 148 aC b6,cRo b7,cOwn (α:=Mrk) 150 aD bm,cOwn (α:=Rch) 151 aE bn,cBlk bK [am,ao,ap] 27,cOwn (α:=Int) 3 aN r4,cOwn (α:=Raw 1) 68 am b4,cRo b5,cOwn (α:=Mrk) 70 ao r1,cOwn (α:=Rch) 58 ap bc,cBlk bI [I known.lo,I known.hi] 54,cBlk bp [aG,aH,ae] 27] R) ?_ ?_
 ·skip
  refine W.seq<|W.region rfl<|zM (I ai) rfl<|zC ai 0 (ai==0) rfl rfl rfl<|s_nil ?_
  refine W.cond (ai==0) rfl (fun bA=>?_) (fun bA=>?_)
  ·replace hM:=M.e_t hM bA
   replace bA:=dI bA
   refine W.seq<|W.region rfl<|s_val (x_ld (v:=.agg #[aC,aD,aE]) rfl (ldb_ag (ds:=[aC,aD,aE]) Ag81 Sz81 (H.bl 3) rfl rfl))<|zM (I reach) rfl<|s_val (x_ld (v:=.agg #[I aI,I aJ,I aK,I aL]) rfl (ldb_ag (ds:=[I aI,I aJ,I aK,I aL]) Ag61 Sz61 (H.bl 0) rfl rfl)) ?_;obtain ⟨dH,cx,hM⟩:=M.e_bind hM;refine s_call cf40 [.agg #[aC,aD,aE],I reach,.agg #[I aI,I aJ,I aK,I aL]] rfl (zdg bu bm bn reach (⟨(aI:Int),(aJ:Int),(aK:Int),(aL:Int)⟩:Cas) (Reads.sup (rdo 4) (Reads.of (k:=5) rfl roLe)) (rowSl rfl (H.get (k:=4) rfl) (roLe _ (H.get (k:=5) rfl)) bv) (rdo 6) (H.os 6) (rdo 7) (H.os 7) cx _ (H.gt 17)) ?_
   rintro vq dJ ⟨au,ag,rfl,hvq,ac⟩
   subst vq;(try dsimp only at hM);replace H:=H.bk ac;clear ac;refine zM (.tuple #[I au,I ag]) rfl<|zX [I au,I ag] (I au) rfl rfl<|zX [I au,I ag] (I ag) rfl rfl<|zA (I au) rfl<|zA (I ag) rfl<|s_nil<|W.seq<|W.region rfl<|zM (I ag) rfl<|zC ag 0 (ag != 0) rfl rfl rfl ?_;refine zM (B (ag != 0)) rfl<|g_val (!(ag != 0)) (gy_f rfl) (fun hg=>x_ld (v:=.agg #[aC,aD,aE]) rfl (ldb_ag (ds:=[aC,aD,aE]) Ag81 Sz81 (H.bl 3) rfl rfl))<|g_val (!(ag != 0)) (gy_f rfl) (fun hg=>x_mv (v:=aF) rfl)<|g_val (!(ag != 0)) (gy_f rfl) (fun hg=>x_mv (v:=I reach) rfl)<|g_val (!(ag != 0)) (gy_f rfl) (fun hg=>x_ld (v:=.agg #[I aI,I aJ,I aK,I aL]) rfl (ldb_ag (ds:=[I aI,I aJ,I aK,I aL]) Ag61 Sz61 (H.bl 0) rfl rfl)) ?_;obtain ⟨r8,cy,hM⟩:=M.e_bind hM;refine t_gcall (!(ag != 0)) (gy_f rfl) cf43 (B r8) (fun _=>[.agg #[aC,aD,aE],aF,I reach,.agg #[I aI,I aJ,I aK,I aL]]) (fun hg=>lst4 (gd_of hg (.agg #[aC,aD,aE])) (gd_of hg (aF)) (gd_of hg (I reach)) (gd_of hg (.agg #[I aI,I aJ,I aK,I aL]))) H (fun hg=>(zdO bu bm bn marks reach (⟨(aI:Int),(aJ:Int),(aK:Int),(aL:Int)⟩:Cas) (Reads.sup (rdo 4) (Reads.of (k:=5) rfl roLe)) (rowSl rfl (H.get (k:=4) rfl) (roLe _ (H.get (k:=5) rfl)) bv) (rdo 6) (H.os 6) (rdo 7) (H.os 7) (bo.app _) bg (M.e_opt cy hg) _ (H.give (A:=[]) rfl)).mono fun v_ w_ ⟨y_,aq,bb,H_⟩=>by subst aq; exact ⟨bb,H.via H_⟩) ?_;intro dK H;refine g_val (!(ag != 0)) (gy_f rfl) (fun hg=>x_not (b:=r8) (gd_of hg (B r8)))<|s_val (x_por (b:=ag != 0) (r:=!r8) rfl rfl (fun hb=>gd_of (c:=!(ag != 0)) (by first | exact hb | (rw [hb]; rfl) | simp_all) (B (!r8))))<|zM (B ((ag != 0)||(!r8))) rfl<|g_val (!((ag != 0)||(!r8))) (gy_f rfl) (fun hg=>x_mv (v:=B most) rfl)<|g_val (!((ag != 0)||(!r8))) (gy_f rfl) (fun hg=>x_mv (v:=B most) (gd_of hg (B most)))<|g_val ((!((ag != 0)||(!r8)))&&most) (gy_gt rfl rfl) (fun hg=>x_mv (v:=I au) rfl)<|g_val ((!((ag != 0)||(!r8)))&&most) (gy_gt rfl rfl) (fun hg=>x_fa (v:=Oq bz 1) rfl (fa_blk (o:=0) Fd54_1 Sz3))<|g_val ((!((ag != 0)||(!r8)))&&most) (gy_gt rfl rfl) (fun hg=>x_ld (v:=I ak) (gd_of hg (Oq bz 1)) (ldb_sc Sc3 (H.bl 1) rfl))<|g_val ((!((ag != 0)||(!r8)))&&most) (gy_gt rfl rfl) (fun hg=>x_cmp (kd:=.i64) (r:=au != ak) (gd_of hg (I au)) (gd_of hg (I ak)) rfl)<|g_val (!((ag != 0)||(!r8))) (gy_f rfl) (fun hg=>x_pand (b:=most) (r:=au != ak) (gd_of hg (B most)) (fun hb=>gd_of (c:=((!((ag != 0)||(!r8)))&&most)) (by first | exact hb | (rw [hb]; rfl) | simp_all) (B (au != ak))) rfl) ?_;refine s_val (x_por (b:=((ag != 0)||(!r8))) (r:=(most&&(au != ak))) rfl rfl (fun hb=>gd_of (c:=!((ag != 0)||(!r8))) (by first | exact hb | (rw [hb]; rfl) | simp_all) (B (most&&(au != ak)))))<|zM (B (((ag != 0)||(!r8))||(most&&(au != ak)))) rfl<|g_val (!(((ag != 0)||(!r8))||(most&&(au != ak)))) (gy_f rfl) (fun hg=>x_mv (v:=B most) rfl)<|g_val (!(((ag != 0)||(!r8))||(most&&(au != ak)))) (gy_f rfl) (fun hg=>x_not (b:=most) (gd_of hg (B most)))<|g_val (!(((ag != 0)||(!r8))||(most&&(au != ak)))) (gy_f rfl) (fun hg=>x_mv (v:=B (!most)) (gd_of hg (B (!most))))<|g_val ((!(((ag != 0)||(!r8))||(most&&(au != ak))))&&(!most)) (gy_gt rfl rfl) (fun hg=>x_mv (v:=I au) rfl)<|g_val ((!(((ag != 0)||(!r8))||(most&&(au != ak))))&&(!most)) (gy_gt rfl rfl) (fun hg=>x_fa (v:=Pq bz) rfl (fa_blk (o:=0) Fd54_0 Sz3))<|g_val ((!(((ag != 0)||(!r8))||(most&&(au != ak))))&&(!most)) (gy_gt rfl rfl) (fun hg=>x_ld (v:=I aM) (gd_of hg (Pq bz)) (ldb_sc Sc3 (H.bl 1) rfl))<|g_val ((!(((ag != 0)||(!r8))||(most&&(au != ak))))&&(!most)) (gy_gt rfl rfl) (fun hg=>x_cmp (kd:=.i64) (r:=au != aM) (gd_of hg (I au)) (gd_of hg (I aM)) rfl)<|g_val (!(((ag != 0)||(!r8))||(most&&(au != ak)))) (gy_f rfl) (fun hg=>x_pand (b:=!most) (r:=au != aM) (gd_of hg (B (!most))) (fun hb=>gd_of (c:=((!(((ag != 0)||(!r8))||(most&&(au != ak))))&&(!most))) (by first | exact hb | (rw [hb]; rfl) | simp_all) (B (au != aM))) rfl) ?_;refine s_val (x_por (b:=(((ag != 0)||(!r8))||(most&&(au != ak)))) (r:=((!most)&&(au != aM))) rfl rfl (fun hb=>gd_of (c:=!(((ag != 0)||(!r8))||(most&&(au != ak)))) (by first | exact hb | (rw [hb]; rfl) | simp_all) (B ((!most)&&(au != aM)))))<|s_nil ?_;replace H:=H.pk [1,2,3,4,5,6,7,8,9,10,11,12,13,14,16]
   refine W.cond ((((ag != 0)||(!r8))||(most&&(au != ak)))||((!most)&&(au != aM))) rfl (fun bS=>?_) (fun bS=>?_)
   ·replace hM:=M.e_t hM bS;refine W.seq<|W.region rfl<|zA (B false) rfl<|s_nil ?_;replace H:=H.pk [];refine W.ret ?_
    have aq:=M.e_pure hM
    exact ⟨_,resE_tmp rfl,⟨false,aq,rfl,H⟩⟩
   replace hM:=M.e_f hM bS;refine W.skip ?_
   exact ⟨_,upds_of _ _ ⟨rfl,rfl,rfl,rfl,rfl,rfl,rfl,rfl,rfl,trivial⟩,hM,H⟩
  replace hM:=M.e_f hM bA
  replace bA:=dI bA
  refine W.skip ?_
  exact ⟨_,upds_of _ _ ⟨rfl,rfl,rfl,rfl,rfl,rfl,rfl,rfl,rfl,trivial⟩,hM,(H.pk [1,2,3,4,5,6,7,8,9,10,11,12,13,14,16])⟩
 rintro _ dL ⟨ρ,rfl,hM,H⟩
 unfold zaT at hM
 refine W.seq<|W.region rfl<|s_val (x_ld (v:=.agg #[am,ao,ap]) rfl (ldb_ag (ds:=[am,ao,ap]) Ag27 Sz27 (H.bl 7) rfl rfl))<|zM aN rfl ?_;obtain ⟨dM,cz,hM⟩:=M.e_bind hM;refine s_call cf23 [.agg #[am,ao,ap],aN] rfl (zew r0 r1 bc r4 (Reads.sup (rdo 9) (Reads.of (k:=10) rfl roLe)) (rowSl rfl (H.get (k:=9) rfl) (roLe _ (H.get (k:=10) rfl)) bj) (rdo 11) (H.os 11) (rdo 12) (H.os 12) (rdo 8) (H.os 8) cz _ (H.gt 15)) ?_
 rintro vq dN ⟨a6,a7,aX,rfl,hvq,ac⟩
 subst vq;(try dsimp only at hM);replace H:=H.bk ac;clear ac;refine zM (.tuple #[.agg #[I a6,I a7],I aX]) rfl<|zX [.agg #[I a6,I a7],I aX] (.agg #[I a6,I a7]) rfl rfl<|zX [.agg #[I a6,I a7],I aX] (I aX) rfl rfl ?_;refine t_sw 1 0 [I a6,I a7] (.agg #[I a6,I a7]) H rfl rfl Sz54 rfl rfl rfl rfl ?_;intro dO H;refine zA (I aX) rfl<|s_nil<|W.seq<|W.region rfl<|s_val (x_ld (v:=.agg #[aC,aD,aE]) rfl (ldb_ag (ds:=[aC,aD,aE]) Ag81 Sz81 (H.bl 2) rfl rfl))<|zM aF rfl ?_;obtain ⟨dP,cA,hM⟩:=M.e_bind hM;refine s_call cf44 [.agg #[aC,aD,aE],aF] rfl (zdU bu bm bn marks (Reads.sup (rdo 3) (Reads.of (k:=4) rfl roLe)) (rowSl rfl (H.get (k:=3) rfl) (roLe _ (H.get (k:=4) rfl)) bv) (rdo 5) (H.os 5) (rdo 6) (H.os 6) (bo.app _) bg cA _ (H.gt 15)) ?_
 rintro vq dQ ⟨a8,ba,aY,rfl,hvq,ac⟩
 subst vq;(try dsimp only at hM);replace H:=H.bk ac;clear ac;refine zM (.tuple #[.agg #[I a8,I ba],I aY]) rfl<|zX [.agg #[I a8,I ba],I aY] (.agg #[I a8,I ba]) rfl rfl<|zX [.agg #[I a8,I ba],I aY] (I aY) rfl rfl ?_;refine t_sw 0 0 [I a8,I ba] (.agg #[I a8,I ba]) H rfl rfl Sz54 rfl rfl rfl rfl ?_;intro dR H;refine zA (I aY) rfl<|s_nil<|W.seq<|W.seq<|W.region rfl<|zM (I aX) rfl<|zM (I aY) rfl<|zC aX aY (aX != aY) rfl rfl rfl<|zM (B (aX != aY)) rfl<|g_val (!(aX != aY)) (gy_f rfl) (fun hg=>x_ld (v:=.agg #[I a6,I a7]) rfl (ldb_ag (ds:=[I a6,I a7]) Ag54 Sz54 (H.bl 1) rfl rfl)) ?_;refine g_val (!(aX != aY)) (gy_f rfl) (fun hg=>x_ld (v:=.agg #[I a8,I ba]) rfl (ldb_ag (ds:=[I a8,I ba]) Ag54 Sz54 (H.bl 0) rfl rfl))<|g_val (!(aX != aY)) (gy_f rfl) (fun hg=>x_neS (eqT54 (⟨(a6:Int),(a7:Int)⟩:Span) (⟨(a8:Int),(ba:Int)⟩:Span) _) gdT54 (gd_of hg (.agg #[I a6,I a7])) (gd_of hg (.agg #[I a8,I ba])))<|s_val (x_por (b:=aX != aY) (r:=!(decide ((⟨(a6:Int),(a7:Int)⟩:Span)=(⟨(a8:Int),(ba:Int)⟩:Span)))) rfl rfl (fun hb=>gd_of (c:=!(aX != aY)) (by first | exact hb | (rw [hb]; rfl) | simp_all) (B (!(decide ((⟨(a6:Int),(a7:Int)⟩:Span)=(⟨(a8:Int),(ba:Int)⟩:Span)))))))<|s_nil ?_
 refine W.cond ((aX != aY)||(!(decide ((⟨(a6:Int),(a7:Int)⟩:Span)=(⟨(a8:Int),(ba:Int)⟩:Span))))) rfl (fun bT=>?_) (fun bT=>?_)
 ·replace hM:=M.e_t hM bT;refine W.seq<|W.region rfl<|zA (B false) rfl<|s_nil ?_;replace H:=H.pk [];refine W.ret ?_
  have aq:=M.e_pure hM
  exact ⟨_,resE_tmp rfl,⟨false,aq,rfl,H⟩⟩
 replace hM:=M.e_f hM bT;refine W.skip<|W.seq<|W.seq ?_;refine W.draw (fun W=>St w W [cBlk bz [I a8,I ba] 54,cBlk bP [I a6,I a7] 54,cBlk bL [aC,aD,aE] 81,cOwn (α:=Raw 1) 148 aC b6,cRo b7,cOwn (α:=Mrk) 150 aD bm,cOwn (α:=Rch) 151 aE bn,cBlk bK [am,ao,ap] 27,cOwn (α:=Int) 3 aN r4,cOwn (α:=Raw 1) 68 am b4,cRo b5,cOwn (α:=Mrk) 70 ao r1,cOwn (α:=Rch) 58 ap bc,cBlk bI [I known.lo,I known.hi] 54,cBlk bp [aG,aH,ae] 27] R) [(0,true),(1,false),(2,true),(3,true),(4,true),(5,true),(6,true),(7,true),(8,true),(9,true),(10,true),(11,true),(12,true),(13,true),(14,true),(15,true),(16,true),(17,true),(18,true),(19,true),(20,true),(21,true),(22,true),(23,true),(24,true),(25,true),(26,true),(27,true),(28,true),(29,true),(30,true),(31,true)] mixed (by decide +kernel) rfl ?_;intro dS aj;replace H:=H.ext aj;clear aj
 refine ⟨(H.pk [0,1,2,3,4,5,6,7,8,9,10,11,12,13,14]),?_⟩
 refine d_q rfl (fun w' H=>x_ld (v:=.agg #[am,ao,ap]) rfl (ldb_ag (ds:=[am,ao,ap]) Ag27 Sz27 (H.bl 7) rfl rfl))<|d_l rfl ?_;obtain ⟨dT,cB,hM⟩:=M.e_bind hM;refine s_call cf26 [.agg #[am,ao,ap]] rfl (zdc r0 r1 bc (Reads.sup (rdo 9) (Reads.of (k:=10) rfl roLe)) (rowSl rfl (H.get (k:=9) rfl) (roLe _ (H.get (k:=10) rfl)) bj) (rdo 11) (H.os 11) (rdo 12) (H.os 12) cB _ (H.gt 15)) ?_
 rintro vq dU ⟨r9,rfl,hvq,ac⟩
 subst vq;(try dsimp only at hM);replace H:=H.bk ac;clear ac
 refine s_nil ⟨(H.pk [0,1,2,3,4,5,6,7,8,9,10,11,12,13,14]),?_⟩
 refine d_q rfl (fun w' H=>x_cmp (kd:=.i64) (r:=r9==0) rfl rfl rfl)<|d_q rfl (fun w' H=>x_mv (v:=B (r9==0)) rfl)<|d_qg (r9==0) rfl (gy_t rfl) (fun hg=>(fun w' H=>x_mv (v:=I reach) rfl))<|d_qg (r9==0) rfl (gy_t rfl) (fun hg=>(fun w' H=>x_cmp (kd:=.i64) (r:=decide (0<=reach)) (gd_of hg (I reach)) rfl rfl))<|d_q rfl (fun w' H=>x_pand (b:=r9==0) (r:=decide (0<=reach)) rfl (fun hb=>gd_of (c:=r9==0) (by first | exact hb | (rw [hb]; rfl) | simp_all) (B (decide (0<=reach)))) rfl)<|d_q rfl (fun w' H=>x_mv (v:=B ((r9==0)&&(decide (0<=reach)))) rfl)<|d_qg ((r9==0)&&(decide (0<=reach))) rfl (gy_t rfl) (fun hg=>(fun w' H=>x_mv (v:=I reach) rfl))<|d_qg ((r9==0)&&(decide (0<=reach))) rfl (gy_t rfl) (fun hg=>(fun w' H=>x_fa (v:=Oq bp 2) rfl (fa_blk (o:=0) Fd27_2 Sz25)))<|d_qg ((r9==0)&&(decide (0<=reach))) rfl (gy_t rfl) (fun hg=>(fun w' H=>x_ld (v:=ae) (gd_of hg (Oq bp 2)) (ldb_sc Sc25 (H.bl 14) rfl))) ?_
 have dV:=(aP).len_le
 refine d_qg ((r9==0)&&(decide (0<=reach))) rfl (gy_t rfl) (fun hg=>(fun w' H=>x_lenS T25.und (gd_of hg (ae)) aP))<|d_qg ((r9==0)&&(decide (0<=reach))) rfl (gy_t rfl) (fun hg=>(fun w' H=>x_cmp (kd:=.i64) (r:=decide (reach<(s_Reaches.length:Int))) (gd_of hg (I reach)) (gd_of hg (I (s_Reaches.length:Int))) rfl))<|d_q rfl (fun w' H=>x_pand (b:=((r9==0)&&(decide (0<=reach)))) (r:=decide (reach<(s_Reaches.length:Int))) rfl (fun hb=>gd_of (c:=((r9==0)&&(decide (0<=reach)))) (by first | exact hb | (rw [hb]; rfl) | simp_all) (B (decide (reach<(s_Reaches.length:Int))))) rfl)<|d_q rfl (fun w' H=>x_mv (v:=B (((r9==0)&&(decide (0<=reach)))&&(decide (reach<(s_Reaches.length:Int))))) rfl)<|d_qg (((r9==0)&&(decide (0<=reach)))&&(decide (reach<(s_Reaches.length:Int)))) rfl (gy_t rfl) (fun hg=>(fun w' H=>x_fa (v:=Oq bp 2) rfl (fa_blk (o:=0) Fd27_2 Sz25)))<|d_qg (((r9==0)&&(decide (0<=reach)))&&(decide (reach<(s_Reaches.length:Int)))) rfl (gy_t rfl) (fun hg=>(fun w' H=>x_ld (v:=ae) (gd_of hg (Oq bp 2)) (ldb_sc Sc25 (H.bl 14) rfl)))<|d_qg (((r9==0)&&(decide (0<=reach)))&&(decide (reach<(s_Reaches.length:Int)))) rfl (gy_t rfl) (fun hg=>(fun w' H=>x_mv (v:=I reach) rfl)) ?_;obtain ⟨aO,hM⟩:=M.e_grd hM
 replace aO:=M.imp_of aO
 simp only [Bool.and_eq_true,decide_eq_true_eq] at aO
 refine d_qg (((r9==0)&&(decide (0<=reach)))&&(decide (reach<(s_Reaches.length:Int)))) rfl (gy_t rfl) (fun hg=>(fun w' H=>x_ix (v:=vat ae 5 (Int.toNat reach)) (gd_of hg (ae)) (gd_of hg (I reach)) (Sl.ix (α:=Rch) T25.und T25.size aP (by have ab:=aO.resolve_left (by rw [hg]; decide); first | exact ab | exact ab.1 | exact ab.2 | omega | (have aj:=hg; simp at aj; omega)) (by have ab:=aO.resolve_left (by rw [hg]; decide); first | exact ab | exact ab.1 | exact ab.2 | omega | (have aj:=hg; simp at aj; omega)))))<|d_qg (((r9==0)&&(decide (0<=reach)))&&(decide (reach<(s_Reaches.length:Int)))) rfl (gy_t rfl) (fun hg=>(fun w' H=>x_fa (v:=fat (vat ae 5 (Int.toNat reach)) 2) (gd_of hg (vat ae 5 (Int.toNat reach))) (fa_pl Fd58_2 Sz54 (Sl.pl (i:=reach) aP (by have ab:=aO.resolve_left (by rw [hg]; decide); first | exact ab | exact ab.1 | exact ab.2 | omega | (have aj:=hg; simp at aj; omega)) (by have ab:=aO.resolve_left (by rw [hg]; decide); first | exact ab | exact ab.1 | exact ab.2 | omega | (have aj:=hg; simp at aj; omega))))))<|d_qg (((r9==0)&&(decide (0<=reach)))&&(decide (reach<(s_Reaches.length:Int)))) rfl (gy_t rfl) (fun hg=>(fun w' H=>x_fa (v:=fat (vat ae 5 (Int.toNat reach)) 3) (gd_of hg (fat (vat ae 5 (Int.toNat reach)) 2)) (fa_pl2 (a:=2) (c:=3) Fd54_1 Sz3 (Sl.pl (i:=reach) aP (by have ab:=aO.resolve_left (by rw [hg]; decide); first | exact ab | exact ab.1 | exact ab.2 | omega | (have aj:=hg; simp at aj; omega)) (by have ab:=aO.resolve_left (by rw [hg]; decide); first | exact ab | exact ab.1 | exact ab.2 | omega | (have aj:=hg; simp at aj; omega))) rfl)))<|d_qg (((r9==0)&&(decide (0<=reach)))&&(decide (reach<(s_Reaches.length:Int)))) rfl (gy_t rfl) (fun hg=>(fun w' H=>x_ld (v:=I ((s_Reaches.getD (Int.toNat reach) default).hi)) (gd_of hg (fat (vat ae 5 (Int.toNat reach)) 3)) (ld_sc Sc3 (At.mono (Rch_at3 aP (i:=reach) (by have ab:=aO.resolve_left (by rw [hg]; decide); first | exact ab | exact ab.1 | exact ab.2 | omega | (have aj:=hg; simp at aj; omega)) (by have ab:=aO.resolve_left (by rw [hg]; decide); first | exact ab | exact ab.1 | exact ab.2 | omega | (have aj:=hg; simp at aj; omega))) (bt.at H)))))<|d_qg (((r9==0)&&(decide (0<=reach)))&&(decide (reach<(s_Reaches.length:Int)))) rfl (gy_t rfl) (fun hg=>(fun w' H=>x_fa (v:=Oq bp 2) rfl (fa_blk (o:=0) Fd27_2 Sz25)))<|d_qg (((r9==0)&&(decide (0<=reach)))&&(decide (reach<(s_Reaches.length:Int)))) rfl (gy_t rfl) (fun hg=>(fun w' H=>x_ld (v:=ae) (gd_of hg (Oq bp 2)) (ldb_sc Sc25 (H.bl 14) rfl)))<|d_qg (((r9==0)&&(decide (0<=reach)))&&(decide (reach<(s_Reaches.length:Int)))) rfl (gy_t rfl) (fun hg=>(fun w' H=>x_mv (v:=I reach) rfl))<|d_qg (((r9==0)&&(decide (0<=reach)))&&(decide (reach<(s_Reaches.length:Int)))) rfl (gy_t rfl) (fun hg=>(fun w' H=>x_ix (v:=vat ae 5 (Int.toNat reach)) (gd_of hg (ae)) (gd_of hg (I reach)) (Sl.ix (α:=Rch) T25.und T25.size aP (by have ab:=aO.resolve_left (by rw [hg]; decide); first | exact ab | exact ab.1 | exact ab.2 | omega | (have aj:=hg; simp at aj; omega)) (by have ab:=aO.resolve_left (by rw [hg]; decide); first | exact ab | exact ab.1 | exact ab.2 | omega | (have aj:=hg; simp at aj; omega)))))<|d_qg (((r9==0)&&(decide (0<=reach)))&&(decide (reach<(s_Reaches.length:Int)))) rfl (gy_t rfl) (fun hg=>(fun w' H=>x_fa (v:=fat (vat ae 5 (Int.toNat reach)) 2) (gd_of hg (vat ae 5 (Int.toNat reach))) (fa_pl Fd58_2 Sz54 (Sl.pl (i:=reach) aP (by have ab:=aO.resolve_left (by rw [hg]; decide); first | exact ab | exact ab.1 | exact ab.2 | omega | (have aj:=hg; simp at aj; omega)) (by have ab:=aO.resolve_left (by rw [hg]; decide); first | exact ab | exact ab.1 | exact ab.2 | omega | (have aj:=hg; simp at aj; omega))))))<|d_qg (((r9==0)&&(decide (0<=reach)))&&(decide (reach<(s_Reaches.length:Int)))) rfl (gy_t rfl) (fun hg=>(fun w' H=>x_fa (v:=fat (vat ae 5 (Int.toNat reach)) 2) (gd_of hg (fat (vat ae 5 (Int.toNat reach)) 2)) (fa_pl2 (a:=2) (c:=2) Fd54_0 Sz3 (Sl.pl (i:=reach) aP (by have ab:=aO.resolve_left (by rw [hg]; decide); first | exact ab | exact ab.1 | exact ab.2 | omega | (have aj:=hg; simp at aj; omega)) (by have ab:=aO.resolve_left (by rw [hg]; decide); first | exact ab | exact ab.1 | exact ab.2 | omega | (have aj:=hg; simp at aj; omega))) rfl))) ?_;refine d_qg (((r9==0)&&(decide (0<=reach)))&&(decide (reach<(s_Reaches.length:Int)))) rfl (gy_t rfl) (fun hg=>(fun w' H=>x_ld (v:=I ((s_Reaches.getD (Int.toNat reach) default).lo)) (gd_of hg (fat (vat ae 5 (Int.toNat reach)) 2)) (ld_sc Sc3 (At.mono (Rch_at2 aP (i:=reach) (by have ab:=aO.resolve_left (by rw [hg]; decide); first | exact ab | exact ab.1 | exact ab.2 | omega | (have aj:=hg; simp at aj; omega)) (by have ab:=aO.resolve_left (by rw [hg]; decide); first | exact ab | exact ab.1 | exact ab.2 | omega | (have aj:=hg; simp at aj; omega))) (bt.at H))))) ?_;obtain ⟨bH,hM⟩:=M.e_grd hM
 replace bH:=M.imp_of bH
 simp only [Bool.and_eq_true,decide_eq_true_eq] at bH
 refine d_qg (((r9==0)&&(decide (0<=reach)))&&(decide (reach<(s_Reaches.length:Int)))) rfl (gy_t rfl) (fun hg=>(fun w' H=>x_ari (r:=((s_Reaches.getD (Int.toNat reach) default).hi)-((s_Reaches.getD (Int.toNat reach) default).lo)) (gd_of hg (I ((s_Reaches.getD (Int.toNat reach) default).hi))) (gd_of hg (I ((s_Reaches.getD (Int.toNat reach) default).lo))) rfl (by have ab:=aO.resolve_left (by rw [hg]; decide); have bU:=bH.resolve_left (by rw [hg]; decide); first | exact ab | exact ab.1 | exact ab.2 | exact bU | exact bU.1 | exact bU.2 | omega | (have aj:=hg; simp at aj; omega))))<|d_qg (((r9==0)&&(decide (0<=reach)))&&(decide (reach<(s_Reaches.length:Int)))) rfl (gy_t rfl) (fun hg=>(fun w' H=>x_cmp (kd:=.i64) (r:=decide (29<(((s_Reaches.getD (Int.toNat reach) default).hi)-((s_Reaches.getD (Int.toNat reach) default).lo)))) (gd_of hg (I (((s_Reaches.getD (Int.toNat reach) default).hi)-((s_Reaches.getD (Int.toNat reach) default).lo)))) rfl rfl))<|d_q rfl (fun w' H=>x_pand (b:=(((r9==0)&&(decide (0<=reach)))&&(decide (reach<(s_Reaches.length:Int))))) (r:=decide (29<(((s_Reaches.getD (Int.toNat reach) default).hi)-((s_Reaches.getD (Int.toNat reach) default).lo)))) rfl (fun hb=>gd_of (c:=(((r9==0)&&(decide (0<=reach)))&&(decide (reach<(s_Reaches.length:Int))))) (by first | exact hb | (rw [hb]; rfl) | simp_all) (B (decide (29<(((s_Reaches.getD (Int.toNat reach) default).hi)-((s_Reaches.getD (Int.toNat reach) default).lo)))))) rfl) ?_;refine d_nil ?_
 refine W.cond ((((r9==0)&&(decide (0<=reach)))&&(decide (reach<(s_Reaches.length:Int))))&&(decide (29<(((s_Reaches.getD (Int.toNat reach) default).hi)-((s_Reaches.getD (Int.toNat reach) default).lo))))) rfl (fun bV=>?_) (fun bV=>?_)
 ·replace hM:=M.e_t hM bV;refine W.seq<|W.region rfl<|s_val (x_ld (v:=.agg #[am,ao,ap]) rfl (ldb_ag (ds:=[am,ao,ap]) Ag27 Sz27 (H.bl 7) rfl rfl))<|s_val (x_ld (v:=.agg #[aG,aH,ae]) rfl (ldb_ag (ds:=[aG,aH,ae]) Ag27 Sz27 (H.bl 14) rfl rfl)) ?_;obtain ⟨dW,cC,hM⟩:=M.e_bind hM;refine s_call cf35 [.agg #[am,ao,ap],.agg #[aG,aH,ae]] rfl (zdd r0 r1 bc s_Sections s_Marks s_Reaches (Reads.sup (rdo 9) (Reads.of (k:=10) rfl roLe)) (rowSl rfl (H.get (k:=9) rfl) (roLe _ (H.get (k:=10) rfl)) bj) (rdo 11) (H.os 11) (rdo 12) (H.os 12) (bB.app _) bC (bD.app _) bE (bt.app _) aP cC _ (H.gt 15)) ?_
  rintro vq dX ⟨bf,rfl,hvq,ac⟩
  subst vq;(try dsimp only at hM);replace H:=H.bk ac;clear ac;refine zM (B bf) rfl<|g_val bf (gy_t rfl) (fun hg=>x_mv (v:=aN) rfl)<|g_val bf (gy_t rfl) (fun hg=>x_mv (v:=aF) rfl) ?_;obtain ⟨bq,cD,hM⟩:=M.e_bind hM;refine t_gcall bf (gy_t rfl) cf45 (B bq) (fun _=>[aN,aF]) (fun hg=>lst2 (gd_of hg (aN)) (gd_of hg (aF))) H (fun hg=>(zdu r4 marks (rdo 8) (H.os 8) (bo.app _) bg (M.e_opt cD hg) _ (H.give (A:=[]) rfl)).mono fun v_ w_ ⟨y_,aq,bb,H_⟩=>by subst aq; exact ⟨bb,H.via H_⟩) ?_;intro dY H;refine s_val (x_pand (b:=bf) (r:=bq) rfl (fun hb=>gd_of (c:=bf) (by first | exact hb | (rw [hb]; rfl) | simp_all) (B bq)) rfl)<|zM (B (bf&&bq)) rfl ?_;obtain ⟨bF,cE,hM⟩:=M.e_bind hM;refine t_gcall (bf&&bq) (gy_t rfl) cf16 (B bF) (fun _=>[]) (fun _=>rfl) H (fun hg=>(zco (M.e_opt cE hg) _ (H.give (A:=[]) rfl)).mono fun v_ w_ ⟨y_,aq,bb,H_⟩=>by subst aq; exact ⟨bb,H.via H_⟩) ?_;intro dZ H;refine s_val (x_pand (b:=(bf&&bq)) (r:=bF) rfl (fun hb=>gd_of (c:=(bf&&bq)) (by first | exact hb | (rw [hb]; rfl) | simp_all) (B bF)) rfl)<|zA (B ((bf&&bq)&&bF)) rfl<|s_nil ?_;replace H:=H.pk [];refine W.ret ?_
  have aq:=M.e_pure hM
  exact ⟨_,resE_tmp rfl,⟨((bf&&bq)&&bF),aq,rfl,H⟩⟩
 replace hM:=M.e_f hM bV;refine W.skip<|W.seq<|W.region rfl<|s_val (x_ld (v:=.agg #[am,ao,ap]) rfl (ldb_ag (ds:=[am,ao,ap]) Ag27 Sz27 (H.bl 7) rfl rfl))<|zM aN rfl<|zM (I reach) rfl<|s_val (x_ld (v:=.agg #[I known.lo,I known.hi]) rfl (ldb_ag (ds:=[I known.lo,I known.hi]) Ag54 Sz54 (H.bl 13) rfl rfl)) ?_;obtain ⟨d6,cF,hM⟩:=M.e_bind hM;refine s_call cf46 [.agg #[am,ao,ap],aN,I reach,.agg #[I known.lo,I known.hi]] rfl (zdP r0 r1 bc r4 reach known (Reads.sup (rdo 9) (Reads.of (k:=10) rfl roLe)) (rowSl rfl (H.get (k:=9) rfl) (roLe _ (H.get (k:=10) rfl)) bj) (rdo 11) (H.os 11) (rdo 12) (H.os 12) (rdo 8) (H.os 8) cF _ (H.gt 15)) ?_
 rintro vq d7 ⟨ay,az,av,rfl,hvq,ac⟩
 subst vq;(try dsimp only at hM);replace H:=H.bk ac;clear ac;refine zM (.tuple #[.agg #[I ay,I az],I av]) rfl<|zX [.agg #[I ay,I az],I av] (.agg #[I ay,I az]) rfl rfl<|zX [.agg #[I ay,I az],I av] (I av) rfl rfl ?_;refine t_sw 1 0 [I ay,I az] (.agg #[I ay,I az]) H rfl rfl Sz54 rfl rfl rfl rfl ?_;intro d8 H;refine zA (I av) rfl<|s_nil<|W.seq<|W.region rfl<|s_val (x_ld (v:=.agg #[aC,aD,aE]) rfl (ldb_ag (ds:=[aC,aD,aE]) Ag81 Sz81 (H.bl 2) rfl rfl))<|zM aF rfl<|zM (I reach) rfl<|s_val (x_ld (v:=.agg #[I known.lo,I known.hi]) rfl (ldb_ag (ds:=[I known.lo,I known.hi]) Ag54 Sz54 (H.bl 13) rfl rfl)) ?_;obtain ⟨d9,cG,hM⟩:=M.e_bind hM;refine s_call cf47 [.agg #[aC,aD,aE],aF,I reach,.agg #[I known.lo,I known.hi]] rfl (zdM bu bm bn marks reach known (Reads.sup (rdo 3) (Reads.of (k:=4) rfl roLe)) (rowSl rfl (H.get (k:=3) rfl) (roLe _ (H.get (k:=4) rfl)) bv) (rdo 5) (H.os 5) (rdo 6) (H.os 6) (bo.app _) bg cG _ (H.gt 15)) ?_
 rintro vq ed ⟨aA,aB,aw,rfl,hvq,ac⟩
 subst vq;(try dsimp only at hM);replace H:=H.bk ac;clear ac;refine zM (.tuple #[.agg #[I aA,I aB],I aw]) rfl<|zX [.agg #[I aA,I aB],I aw] (.agg #[I aA,I aB]) rfl rfl<|zX [.agg #[I aA,I aB],I aw] (I aw) rfl rfl ?_;refine t_sw 0 0 [I aA,I aB] (.agg #[I aA,I aB]) H rfl rfl Sz54 rfl rfl rfl rfl ?_;intro ee H;refine zA (I aw) rfl<|s_nil ?_;replace H:=H.pk [0,1,7,8,9,10,11,12,14];refine W.seq<|W.region rfl<|zM (I av) rfl<|zM (I aw) rfl<|zC av aw (av==aw) rfl rfl rfl<|zM (B (av==aw)) rfl<|g_val (av==aw) (gy_t rfl) (fun hg=>x_ld (v:=.agg #[I ay,I az]) rfl (ldb_ag (ds:=[I ay,I az]) Ag54 Sz54 (H.bl 1) rfl rfl))<|g_val (av==aw) (gy_t rfl) (fun hg=>x_ld (v:=.agg #[I aA,I aB]) rfl (ldb_ag (ds:=[I aA,I aB]) Ag54 Sz54 (H.bl 0) rfl rfl))<|g_val (av==aw) (gy_t rfl) (fun hg=>x_eqS (eqT54 (⟨(ay:Int),(az:Int)⟩:Span) (⟨(aA:Int),(aB:Int)⟩:Span) _) gdT54 (gd_of hg (.agg #[I ay,I az])) (gd_of hg (.agg #[I aA,I aB])))<|s_val (x_pand (b:=av==aw) (r:=decide ((⟨(ay:Int),(az:Int)⟩:Span)=(⟨(aA:Int),(aB:Int)⟩:Span))) rfl (fun hb=>gd_of (c:=av==aw) (by first | exact hb | (rw [hb]; rfl) | simp_all) (B (decide ((⟨(ay:Int),(az:Int)⟩:Span)=(⟨(aA:Int),(aB:Int)⟩:Span))))) rfl) ?_;refine zM (B ((av==aw)&&(decide ((⟨(ay:Int),(az:Int)⟩:Span)=(⟨(aA:Int),(aB:Int)⟩:Span))))) rfl<|g_val ((av==aw)&&(decide ((⟨(ay:Int),(az:Int)⟩:Span)=(⟨(aA:Int),(aB:Int)⟩:Span)))) (gy_t rfl) (fun hg=>x_ld (v:=.agg #[am,ao,ap]) rfl (ldb_ag (ds:=[am,ao,ap]) Ag27 Sz27 (H.bl 2) rfl rfl))<|g_val ((av==aw)&&(decide ((⟨(ay:Int),(az:Int)⟩:Span)=(⟨(aA:Int),(aB:Int)⟩:Span)))) (gy_t rfl) (fun hg=>x_ld (v:=.agg #[aG,aH,ae]) rfl (ldb_ag (ds:=[aG,aH,ae]) Ag27 Sz27 (H.bl 8) rfl rfl)) ?_;obtain ⟨aZ,cH,hM⟩:=M.e_bind hM;refine t_gcall ((av==aw)&&(decide ((⟨(ay:Int),(az:Int)⟩:Span)=(⟨(aA:Int),(aB:Int)⟩:Span)))) (gy_t rfl) cf35 (B aZ) (fun _=>[.agg #[am,ao,ap],.agg #[aG,aH,ae]]) (fun hg=>lst2 (gd_of hg (.agg #[am,ao,ap])) (gd_of hg (.agg #[aG,aH,ae]))) H (fun hg=>(zdd r0 r1 bc s_Sections s_Marks s_Reaches (Reads.sup (rdo 4) (Reads.of (k:=5) rfl roLe)) (rowSl rfl (H.get (k:=4) rfl) (roLe _ (H.get (k:=5) rfl)) bj) (rdo 6) (H.os 6) (rdo 7) (H.os 7) (bB.app _) bC (bD.app _) bE (bt.app _) aP (M.e_opt cH hg) _ (H.give (A:=[]) rfl)).mono fun v_ w_ ⟨y_,aq,bb,H_⟩=>by subst aq; exact ⟨bb,H.via H_⟩) ?_;intro ef H;refine s_val (x_pand (b:=((av==aw)&&(decide ((⟨(ay:Int),(az:Int)⟩:Span)=(⟨(aA:Int),(aB:Int)⟩:Span))))) (r:=aZ) rfl (fun hb=>gd_of (c:=((av==aw)&&(decide ((⟨(ay:Int),(az:Int)⟩:Span)=(⟨(aA:Int),(aB:Int)⟩:Span))))) (by first | exact hb | (rw [hb]; rfl) | simp_all) (B aZ)) rfl)<|zM (B (((av==aw)&&(decide ((⟨(ay:Int),(az:Int)⟩:Span)=(⟨(aA:Int),(aB:Int)⟩:Span))))&&aZ)) rfl<|g_val (((av==aw)&&(decide ((⟨(ay:Int),(az:Int)⟩:Span)=(⟨(aA:Int),(aB:Int)⟩:Span))))&&aZ) (gy_t rfl) (fun hg=>x_mv (v:=aN) rfl)<|g_val (((av==aw)&&(decide ((⟨(ay:Int),(az:Int)⟩:Span)=(⟨(aA:Int),(aB:Int)⟩:Span))))&&aZ) (gy_t rfl) (fun hg=>x_mv (v:=aF) rfl) ?_;obtain ⟨br,cI,hM⟩:=M.e_bind hM;refine t_gcall (((av==aw)&&(decide ((⟨(ay:Int),(az:Int)⟩:Span)=(⟨(aA:Int),(aB:Int)⟩:Span))))&&aZ) (gy_t rfl) cf45 (B br) (fun _=>[aN,aF]) (fun hg=>lst2 (gd_of hg (aN)) (gd_of hg (aF))) H (fun hg=>(zdu r4 marks (rdo 3) (H.os 3) (bo.app _) bg (M.e_opt cI hg) _ (H.give (A:=[]) rfl)).mono fun v_ w_ ⟨y_,aq,bb,H_⟩=>by subst aq; exact ⟨bb,H.via H_⟩) ?_;intro eg H;refine s_val (x_pand (b:=(((av==aw)&&(decide ((⟨(ay:Int),(az:Int)⟩:Span)=(⟨(aA:Int),(aB:Int)⟩:Span))))&&aZ)) (r:=br) rfl (fun hb=>gd_of (c:=(((av==aw)&&(decide ((⟨(ay:Int),(az:Int)⟩:Span)=(⟨(aA:Int),(aB:Int)⟩:Span))))&&aZ)) (by first | exact hb | (rw [hb]; rfl) | simp_all) (B br)) rfl)<|zM (B ((((av==aw)&&(decide ((⟨(ay:Int),(az:Int)⟩:Span)=(⟨(aA:Int),(aB:Int)⟩:Span))))&&aZ)&&br)) rfl ?_;obtain ⟨bG,cJ,hM⟩:=M.e_bind hM;refine t_gcall ((((av==aw)&&(decide ((⟨(ay:Int),(az:Int)⟩:Span)=(⟨(aA:Int),(aB:Int)⟩:Span))))&&aZ)&&br) (gy_t rfl) cf16 (B bG) (fun _=>[]) (fun _=>rfl) H (fun hg=>(zco (M.e_opt cJ hg) _ (H.give (A:=[]) rfl)).mono fun v_ w_ ⟨y_,aq,bb,H_⟩=>by subst aq; exact ⟨bb,H.via H_⟩) ?_;intro em H;refine s_val (x_pand (b:=((((av==aw)&&(decide ((⟨(ay:Int),(az:Int)⟩:Span)=(⟨(aA:Int),(aB:Int)⟩:Span))))&&aZ)&&br)) (r:=bG) rfl (fun hb=>gd_of (c:=((((av==aw)&&(decide ((⟨(ay:Int),(az:Int)⟩:Span)=(⟨(aA:Int),(aB:Int)⟩:Span))))&&aZ)&&br)) (by first | exact hb | (rw [hb]; rfl) | simp_all) (B bG)) rfl)<|zA (B (((((av==aw)&&(decide ((⟨(ay:Int),(az:Int)⟩:Span)=(⟨(aA:Int),(aB:Int)⟩:Span))))&&aZ)&&br)&&bG)) rfl<|s_nil ?_;replace H:=H.pk [];refine W.ret ?_
 have aq:=M.e_pure hM
 exact ⟨_,resE_tmp rfl,⟨(((((av==aw)&&(decide ((⟨(ay:Int),(az:Int)⟩:Span)=(⟨(aA:Int),(aB:Int)⟩:Span))))&&aZ)&&br)&&bG),aq,rfl,H⟩⟩

end Go.Proofs.YtlemgioaakecpaaGreat
end
namespace Go.Nm
open Classical in
/-- A loop that asks one place after the other, and stops at the first that is bad. -/
theorem M.scan {body:Nat->M (Nat ⊕ (Unit ⊕ Unit))} (n:Nat) (bad:Nat->Prop) (round:∀ i,i<n->(∀ j,j<i->¬bad j)->(body i).Out (fun x=>(bad i/\x = .inr (.inl ()))∨(¬bad i/\x = .inl (i+1)))) (last:(body n).Out (fun x=>x = .inr (.inr ()))) :
    (M.iter body 0).Out (fun z=>(z = .inl ()/\∃ i,i<n/\bad i)∨(z = .inr ()/\∀ i,i<n->¬bad i)):=by
  refine M.o_for n (fun i (s:Nat)=>s=i/\∀ j,j<i->¬bad j) ?_ ?_ ⟨rfl,fun j hj=>by omega⟩
  · rintro _ i hi ⟨rfl,hj⟩
    refine M.o_mono (round i hi hj) ?_
    rintro x (⟨h,rfl⟩ | ⟨h,rfl⟩)
    · exact .inl ⟨rfl,i,hi,h⟩
    · refine ⟨rfl,fun j hj'=>?_⟩
      by_cases e:j=i
      · subst e; exact h
      · exact hj j (by omega)
  · rintro _ ⟨rfl,hj⟩
    refine M.o_mono last ?_
    rintro x rfl
    exact .inr ⟨rfl,hj⟩
theorem nt {p:Prop} (h:p->False):¬p:=h
namespace Fl
/-- Rows, told place by place. -/
def RowsP (l:List FRow):Prop:=(∀ i,i<l.length->0<=(l.getD i default).stage/\(l.getD i default).stage<=2000/\0<=(l.getD i default).carry/\(l.getD i default).carry<=100000)/\∀ i,i+1<l.length->(l.getD i default).stage<(l.getD (i+1) default).stage/\(l.getD i default).carry<=(l.getD (i+1) default).carry
theorem rows_of:∀ l:List FRow,RowsP l->Rows l
  | [],_=>trivial
  | [a],h=>h.1 0 (by simp)
  | a :: b :: r,h=>by
    have h0:=h.1 0 (by simp)
    have h1:=h.2 0 (by simp)
    exact ⟨h0.1,h1.1,h0.2.2.1,h1.2,rows_of (b :: r) ⟨fun i hi=>by simpa using h.1 (i+1) (by simpa using hi),fun i hi=>by simpa using h.2 (i+1) (by simpa using hi)⟩⟩
theorem rows_iff {l:List FRow}:Rows l↔RowsP l:=by
  refine ⟨fun h=>⟨fun i hi=>?_,fun i hi=>⟨h.lt (by omega) hi,h.cm i hi⟩⟩,rows_of l⟩
  have:=h.el i hi
  omega
/-- As many of all as there may be. -/
def Cnt (S:List Sect) (M:List Mrk) (R:List Rch):Prop:=(2<=S.length/\S.length<=6)/\(1<=M.length/\M.length<=16)/\(1<=R.length/\R.length<=6)/\∀ i,i<S.length->2<=(S.getD i default).rows.length/\(S.getD i default).rows.length<=8
/-- What is asked of sections, one by one. -/
structure SecP (S:List Sect):Prop where
  e:∀ i,i<S.length->RowsP (S.getD i default).rows/\0<=(S.getD i default).place/\(S.getD i default).place<=10000
  u:∀ i,i+1<S.length->(S.getD i default).place<(S.getD (i+1) default).place
theorem site_iff {S:List Sect} {M:List Mrk} {R:List Rch} (hc:Cnt S M R):Site S M R↔SecP S/\(∀ x∈M,Mok x)/\∀ x∈R,Rok S x:=by
  obtain ⟨c1,c2,c3,c4⟩:=hc
  constructor
  · intro h
    exact ⟨⟨fun i hi=>⟨rows_iff.1 (h.s.rows i hi).1,h.s.place i hi⟩,fun i hi=>h.s.up i (i+1) (by omega) hi⟩,h.mks,h.rks⟩
  · rintro ⟨h1,h2,h3⟩
    refine ⟨⟨c1,fun i hi=>⟨rows_iff.2 (h1.e i hi).1,c4 i hi⟩,fun i hi=>(h1.e i hi).2,fun i j hij hj=>?_⟩,c2,c3,h2,h3⟩
    induction j with
    | zero=>omega
    | succ j ih =>
      have u:=h1.u j hj
      by_cases e:i=j
      · subst e; exact u
      · have:=ih (by omega) (by omega)
        omega
/-- The error of a site. -/
def CkE (S:List Sect) (M:List Mrk) (R:List Rch) (e:Int):Prop:=(¬Cnt S M R/\e=3)∨(Cnt S M R/\¬Site S M R/\e=70)∨(Cnt S M R/\Site S M R/\e=0)
theorem CkE.uniq {S:List Sect} {M:List Mrk} {R:List Rch} {e e':Int} (h:CkE S M R e) (h':CkE S M R e'):e=e':=by
  rcases h with ⟨a,b⟩ | ⟨a,b,c⟩ | ⟨a,b,c⟩ <;> rcases h' with ⟨a',b'⟩ | ⟨a',b',c'⟩ | ⟨a',b',c'⟩
  · omega
  · exact absurd a' a
  · exact absurd a' a
  · exact absurd a a'
  · omega
  · exact absurd b' b
  · exact absurd a a'
  · exact absurd b b'
  · omega
theorem CkE.zero {S:List Sect} {M:List Mrk} {R:List Rch} {e:Int} (h:CkE S M R e):e=0↔Site S M R:=by
  rcases h with ⟨a,b⟩ | ⟨a,b,c⟩ | ⟨a,b,c⟩
  · refine ⟨fun q=>by omega,fun q=>absurd ?_ a⟩
    exact ⟨q.s.n,q.m,q.r,fun i hi=>⟨(q.s.rows i hi).2.1,(q.s.rows i hi).2.2⟩⟩
  · exact ⟨fun q=>by omega,fun q=>absurd q b⟩
  · exact ⟨fun _=>b,fun _=>c⟩
end Fl
end Go.Nm
namespace Go.Proofs.YtlemgioaakecpaaGreat
open Go Go.Nm
section
variable {S:List Sect} {M':List Mrk} {R':List Rch} {ms:List Int} {r:Rch}
theorem inE (n a b:Int):(zab n a b).Out (fun x=>x=true↔a<=n/\n<=b):=by
  unfold zab
  refine M.o_pure ?_
  rw [Bool.and_eq_true,decide_eq_true_eq,decide_eq_true_eq]
theorem outE (n a b:Int):(zad n a b).Out (fun x=>x=true↔n<a∨b<n):=by
  unfold zad
  refine M.o_pure ?_
  rw [Bool.or_eq_true,decide_eq_true_eq,decide_eq_true_eq]
theorem optE {b:Bool} {m:M Bool} {p:Prop} (h:m.Out (fun x=>x=true↔p)):(M.opt b m false).Out (fun x=>x=true↔b=true/\p):=by
  refine M.o_opt (fun hb=>M.o_mono h fun x hx=>?_) (fun hb=>?_)
  · rw [hx,hb]; simp
  · rw [hb]; simp
theorem withinE (s:Span) (a b:Int):(zaA s a b).Out (fun x=>x=true↔(a<=s.lo/\s.lo<=b)/\s.lo<=s.hi/\s.hi<=b):=by
  unfold zaA
  refine M.o_bind (inE _ _ _) fun x hx=>M.o_bind (optE (inE _ _ _)) fun y hy=>M.o_pure ?_
  rw [Bool.and_eq_true,hy,hx]
  constructor
  · rintro ⟨q1,_,q2⟩; exact ⟨q1,q2⟩
  · rintro ⟨q1,q2⟩; exact ⟨q1,q1,q2⟩
theorem markE (m:Mrk):(zao m).Out (fun x=>x=true↔Fl.Mok m):=by
  unfold zao
  refine M.o_bind (inE _ _ _) fun x hx=>M.o_bind (optE (withinE _ _ _)) fun y hy=>M.o_pure ?_
  rw [Bool.and_eq_true,hy,hx]
  constructor
  · rintro ⟨q1,_,q2,q3⟩
    dsimp only at q2 q3
    exact ⟨q1.1,q1.2,q2.1,q3.1,q3.2⟩
  · intro h
    have:=h.p0
    have:=h.p1
    have:=h.l0
    have:=h.lh
    have:=h.h2
    refine ⟨by omega,by omega,?_,?_⟩ <;> dsimp only <;> omega
theorem reachE (r:Rch) (hS:S.length<=100):(zaL r (S.length:Int)).Out (fun x=>x=true↔Fl.Rok S r):=by
  unfold zaL
  refine M.o_grd (gA2 (by omega) (by omega)) (M.o_bind (inE _ _ _) fun x hx=>M.o_grd ?_ (M.o_bind (optE (inE _ _ _)) fun y hy=>M.o_bind (optE (withinE _ _ _)) fun z hz=>M.o_pure ?_))
  · cases x with
    | false=>rfl
    | true =>
      have:=hx.1 rfl
      exact gOr2 (by omega) (by omega)
  · rw [Bool.and_eq_true,hz,Bool.and_eq_true,hy,hx]
    constructor
    · rintro ⟨⟨q1,_,q2⟩,_,q3,q4⟩
      dsimp only at q3 q4
      exact ⟨q1.1,by omega,by omega,q3.1,q4.1,q4.2⟩
    · intro h
      have h1:=h.u0
      have h2:=h.ud
      have h3:=h.d1
      have h4:=h.l1
      have h5:=h.lh
      have h6:=h.h4
      have q1:0<=r.up/\r.up<=(S.length:Int)-1:=by omega
      have q2:r.up+1<=r.down/\r.down<=(S.length:Int)-1:=by omega
      refine ⟨⟨q1,q1,q2⟩,⟨q1,q1,q2⟩,?_,?_⟩ <;> dsimp only <;> omega
theorem sectE (x:Sect) (hx:x.rows.length<=100):(za2 x).Out (fun b=>b=true↔Fl.RowsP x.rows/\0<=x.place/\x.place<=10000):=by
  unfold za2
  refine M.o_bind (P:=fun z=>match z with | .inl _=>¬Fl.RowsP x.rows | .inr _=>Fl.RowsP x.rows) ?_ ?_
  · refine M.o_for x.rows.length (fun i (s:Int × Int × Nat)=>s.2.2=i/\(∀ j,j<i->0<=(x.rows.getD j default).stage/\(x.rows.getD j default).stage<=2000/\0<=(x.rows.getD j default).carry/\(x.rows.getD j default).carry<=100000)/\(∀ j,j+1<i->(x.rows.getD j default).stage<(x.rows.getD (j+1) default).stage/\(x.rows.getD j default).carry<=(x.rows.getD (j+1) default).carry)/\(i=0->s.1 = -1/\s.2.1=0)/\∀ j,i=j+1->s.1=(x.rows.getD j default).stage/\s.2.1=(x.rows.getD j default).carry) ?_ ?_ (s:=(-1,0,0)) ⟨rfl,fun j hj=>by omega,fun j hj=>by omega,fun _=>⟨rfl,rfl⟩,fun j hj=>by omega⟩
    · rintro _ ⟨a,b,i⟩ hi ⟨rfl,h1,h2,h3,h4⟩
      dsimp only at hi h1 h2 h3 h4 ⊢
      have hab:-1<=a/\a<=2000/\0<=b:=by
        match i,h1,h3,h4 with
        | 0,_,h3,_=>have:=h3 rfl; omega
        | j+1,h1,_,h4 =>
          have q1:=h4 j rfl
          have q2:=h1 j (by omega)
          omega
      simp only [zaz]
      refine M.o_t (decide_eq_true (by omega)) (M.o_grd (decide_eq_true (by omega)) (M.o_grd (gA2 (by omega) (by omega)) (M.o_bind (inE _ _ _) fun p hp=>M.o_bind (optE (inE _ _ _)) fun q hq=>M.o_if (fun hb=>?_) (fun hb=>?_))))
      · refine M.o_pure ?_
        show ¬Fl.RowsP x.rows
        intro h
        have e1:=h.1 i hi
        have e3:a+1<=(x.rows.getD i default).stage/\b<=(x.rows.getD i default).carry:=by
          match i,h3,h4,hi,e1 with
          | 0,h3,_,_,e1=>have:=h3 rfl; omega
          | j+1,_,h4,hi,_ =>
            have q1:=h4 j rfl
            have q2:=h.2 j hi
            omega
        have pt:p=true:=hp.2 ⟨e3.1,e1.2.1⟩
        have qt:q=true:=hq.2 ⟨by rw [pt]; rfl,e3.2,e1.2.2.2⟩
        rw [pt,qt] at hb
        cases hb
      · rw [Bool.or_eq_false_iff,Bool.not_eq_false',Bool.not_eq_false'] at hb
        have e1:=hp.1 hb.1
        have e2:=(hq.1 hb.2).2
        refine M.o_pure ⟨rfl,fun j hj=>?_,fun j hj=>?_,fun e=>by omega,fun j hj=>?_⟩
        · by_cases e:j=i
          · subst e; omega
          · exact h1 j (by omega)
        · by_cases e:j+1=i
          · have q:=h4 j e.symm
            subst e
            omega
          · exact h2 j (by omega)
        · obtain rfl:j=i:=by omega
          exact ⟨rfl,rfl⟩
    · rintro ⟨a,b,_⟩ ⟨rfl,h1,h2,_,_⟩
      simp only [zaz]
      exact M.o_f (decide_eq_false (by omega)) (M.o_pure ⟨h1,h2⟩)
  · intro z hz
    match z,hz with
    | .inl _,hz=>exact M.o_pure ⟨fun q=>(by cases q),fun q=>absurd q.1 hz⟩
    | .inr _,hz =>
      refine M.o_bind (inE _ _ _) fun y hy=>M.o_pure ?_
      rw [hy]
      exact ⟨fun q=>⟨hz,q⟩,fun q=>q.2⟩
end
end Go.Proofs.YtlemgioaakecpaaGreat
