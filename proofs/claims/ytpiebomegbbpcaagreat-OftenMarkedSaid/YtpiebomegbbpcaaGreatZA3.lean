/- Part 3 of the texts on which the proof rests. Conditions: none. -/
import Derived.Test.YtpiebomegbbpcaaGreatZA2
set_option linter.unusedVariables false
set_option linter.unusedSimpArgs false
set_option linter.unusedSectionVars false
section
set_option maxRecDepth 100000
set_option maxHeartbeats 16000000
namespace Go.Proofs.YtpiebomegbbpcaaGreat
open Go Go.Nm
attribute [local irreducible] gd execOp SL SLD SLT WR
def zaX  : M (List Pk) :=
  M.pure ([(⟨(10:Int),(300:Int)⟩:Pk),(⟨(14:Int),(350:Int)⟩:Pk),(⟨(19:Int),(320:Int)⟩:Pk),(⟨(40:Int),(280:Int)⟩:Pk)])
theorem zbo {R:List Chunk}    {r:(List Pk)} (hM:(zaX).Ends r) (w:World) (H:St w w [] R):Ret Tryz.prog 19 #[] w fun v w'=>∃ (y0:List Pk) (u0:Value),y0=r/\v=u0/\St w w' [cOwn (α:=Pk) 119 u0 y0] R:=by
 refine ret_of_W Tryz.func19 rfl rfl rfl ?_;refine kg 6 ?_;refine s_val (x_bld (ps:=[(0,I 10),(1,I 300)]) (zs:=[I 0,I 0]) (L':=[I 10,I 300]) rfl Tryz.underlying119 Al119 rfl (Bd119 Tryz.underlying119) (.cons (cs:=[I 10]) rfl rfl rfl rfl rfl<|.cons (cs:=[I 300]) rfl rfl rfl rfl rfl<|.nil))<|s_val (x_bld (ps:=[(0,I 14),(1,I 350)]) (zs:=[I 0,I 0]) (L':=[I 14,I 350]) rfl Tryz.underlying119 Al119 rfl (Bd119 Tryz.underlying119) (.cons (cs:=[I 14]) rfl rfl rfl rfl rfl<|.cons (cs:=[I 350]) rfl rfl rfl rfl rfl<|.nil))<|s_val (x_bld (ps:=[(0,I 19),(1,I 320)]) (zs:=[I 0,I 0]) (L':=[I 19,I 320]) rfl Tryz.underlying119 Al119 rfl (Bd119 Tryz.underlying119) (.cons (cs:=[I 19]) rfl rfl rfl rfl rfl<|.cons (cs:=[I 320]) rfl rfl rfl rfl rfl<|.nil))<|s_val (x_bld (ps:=[(0,I 40),(1,I 280)]) (zs:=[I 0,I 0]) (L':=[I 40,I 280]) rfl Tryz.underlying119 Al119 rfl (Bd119 Tryz.underlying119) (.cons (cs:=[I 40]) rfl rfl rfl rfl rfl<|.cons (cs:=[I 280]) rfl rfl rfl rfl rfl<|.nil)) ?_;refine t_bs (α:=Pk) T80 [.agg #[I 10,I 300],.agg #[I 14,I 350],.agg #[I 19,I 320],.agg #[I 40,I 280]] [(⟨(10:Int),(300:Int)⟩:Pk),(⟨(14:Int),(350:Int)⟩:Pk),(⟨(19:Int),(320:Int)⟩:Pk),(⟨(40:Int),(280:Int)⟩:Pk)] H rfl (.cons rfl (Flat.rep_enc _ (⟨(10:Int),(300:Int)⟩:Pk))<|.cons rfl (Flat.rep_enc _ (⟨(14:Int),(350:Int)⟩:Pk))<|.cons rfl (Flat.rep_enc _ (⟨(19:Int),(320:Int)⟩:Pk))<|.cons rfl (Flat.rep_enc _ (⟨(40:Int),(280:Int)⟩:Pk))<|.nil) rfl rfl rfl ?_;intro aa ac H;refine kg 2 ?_;refine W.ret ?_
 have ab:=M.e_pure hM
 exact ⟨_,resE_tmp rfl,⟨([(⟨(10:Int),(300:Int)⟩:Pk),(⟨(14:Int),(350:Int)⟩:Pk),(⟨(19:Int),(320:Int)⟩:Pk),(⟨(40:Int),(280:Int)⟩:Pk)]),aa,ab,rfl,H⟩⟩

def zaa (n aa greatest:Int):M Bool :=
  M.pure ((decide (aa<=n))&&(decide (n<=greatest)))
theorem zab {R:List Chunk}  (n:Int) (aa:Int) (greatest:Int)  {r:Bool} (hM:(zaa n aa greatest).Ends r) (w:World) (H:St w w [] R):Ret Tryz.prog 28 #[I n,I aa,I greatest] w fun v w'=>∃ (y0:Bool),y0=r/\v=B y0/\St w w' [] R:=by
 refine ret_of_W Tryz.func28 rfl rfl rfl ?_;refine kg 16 ?_;refine W.ret ?_
 have ab:=M.e_pure hM
 exact ⟨_,resE_tmp rfl,⟨((decide (aa<=n))&&(decide (n<=greatest))),ab,rfl,H⟩⟩

def zcC (aa:List Yr) (ab:List Old10) (ac ae:Int) (x2:Pk):M Bool :=
  M.bind (zaa x2.day 0 4000) fun r2 =>
  M.bind (M.opt r2 (zaa x2.stage 0 2000) false) fun r3 =>
  M.pure (r2&&r3)
theorem zdz {R:List Chunk} {ah:Cells} {aa:Value} {ai:Cells} {ab:Value} (aj:List Yr) (ak:List Old10) (ac:Int) (ae:Int) (x2:Pk) (ar:Reads R ah) (au:Sl ah aa aj) (av:Reads R ai) (aw:Sl ai ab ak) {r:Bool} (hM:(zcC aj ak ac ae x2).Ends r) (w:World) (H:St w w [] R):Ret Tryz.prog 70 #[.agg #[aa,ab,I ac,I ae],.iface 119 (.agg #[I x2.day,I x2.stage])] w fun v w'=>∃ (y0:Bool),y0=r/\v=B y0/\St w w' [] R:=by
 refine ret_of_W Tryz.func70 rfl rfl rfl ?_;refine kg 2 ?_;refine t_bx [aa,ab,I ac,I ae] H rfl ?_;intro ax ay H;refine kg 10 ?_;refine s_val (x_ta1 (v:=.agg #[I x2.day,I x2.stage]) Tryz.underlying119 (by intro m h_; cases h_) rfl) ?_;refine kg 3 ?_
 refine W.cond true rfl (fun al=>?_) (fun al=>?_)
 ·skip
  refine kg 2 ?_;refine t_alloc (cs:=[I 0,I 0]) H Al119 rfl ?_;intro az aA H;refine t_sw 0 0 [I x2.day,I x2.stage] (.agg #[I x2.day,I x2.stage]) H rfl rfl Sz119 rfl rfl rfl rfl ?_;intro aB H;refine kg 5 ?_;obtain ⟨aC,ao,hM⟩:=M.e_bind hM;refine s_call cf28 [I x2.day,I 0,I 4000] rfl (zab x2.day 0 4000 ao _ (H.gt 2)) ?_
  rintro vq aD ⟨r2,rfl,hvq,am⟩
  subst vq;(try dsimp only at hM);replace H:=H.bk am;clear am;refine kg 3 ?_;obtain ⟨r3,ap,hM⟩:=M.e_bind hM;refine t_gcall r2 (gy_t rfl) cf28 (B r3) (fun _=>[I x2.stage,I 0,I 2000]) (fun hg=>lst3 (gd_of hg (I x2.stage)) rfl rfl) H (fun hg=>(zab x2.stage 0 2000 (M.e_opt ap hg) _ (H.give (A:=[]) rfl)).mono fun v_ w_ ⟨y_,ag,aq,H_⟩=>by subst ag; exact ⟨aq,H.via H_⟩) ?_;intro aE H;refine kg 3 ?_;replace H:=H.pk [];refine W.ret ?_
  have ag:=M.e_pure hM
  exact ⟨_,resE_tmp rfl,⟨(r2&&r3),ag,rfl,H⟩⟩
 skip
 exact absurd al (by decide)

def zct (l:List Pk):Nat->M (Nat ⊕ (Int ⊕ Unit)):=fun s =>
  bif decide ((s:Int)<(l.length:Int)) then (
  M.grd (decide ((s:Int)<(l.length:Int))) <|
  M.bind (zcC ([]:List Yr) ([]:List Old10) 0 0 (l.getD s default)) fun r2 =>
  bif !r2 then (
  M.pure (.inr (.inl 110)))
  else (
  M.grd ((!(decide (0<(s:Int)))||(decide ((-9223372036854775808:Int)<=((s:Int)-1))&&decide (((s:Int)-1)<=(9223372036854775807:Int))))) <|
  M.grd ((!(decide (0<(s:Int)))||(decide ((0:Int)<=((s:Int)-1))&&decide (((s:Int)-1)<(l.length:Int))))) <|
  bif ((decide (0<(s:Int)))&&(decide (((l.getD s default).day)<=((l.getD (Int.toNat ((s:Int)-1)) default).day)))) then (
  M.pure (.inr (.inl 9)))
  else (
  M.pure (.inl (s+1)))))
  else (
  M.pure (.inr (.inr ())))
def zcL (l:List Pk):M Int :=
  bif decide (40<(l.length:Int)) then (
  M.pure 3)
  else (
  M.bind (M.iter (zct l) 0) fun x_=>match x_ with
  | (.inl s2)=>(
  M.pure s2)
  | (.inr (_:Unit))=>(
  M.pure 0))
theorem zdR {R:List Chunk} {ao:Cells} {ae:Value} (l:List Pk) (aD:Reads R ao) (ap:Sl ao ae l) {r:Int} (hM:(zcL l).Ends r) (w:World) (H:St w w [] R):Ret Tryz.prog 64 #[ae] w fun v w'=>∃ (y0:Int),y0=r/\v=I y0/\St w w' [] R:=by
 refine ret_of_W Tryz.func64 rfl rfl rfl ?_
 have aE:=(ap).len_le
 refine kg 11 ?_
 refine W.cond (decide (40<(l.length:Int))) rfl (fun aa=>?_) (fun aa=>?_)
 ·replace hM:=M.e_t hM aa
  replace aa:=dI aa
  refine kg 4 ?_;refine W.ret ?_
  have ab:=M.e_pure hM
  exact ⟨_,resE_tmp rfl,⟨3,ab,rfl,H⟩⟩
 replace hM:=M.e_f hM aa
 replace aa:=dI aa
 have aF:=(ap).len_le
 refine kg 9 ?_;obtain ⟨av,ah,ai⟩:=M.e_bind hM
 obtain ⟨aG,ah⟩:=M.e_iter ah
 refine W.loop (fun m σ W=>∃ (s:Nat) (ρ:Env),σ=upds ρ [(0,ae),(8,ae),(9,I (l.length:Int)),(10,I (s:Int))]/\M.iterN (zct l) m s=some av/\St w W [] R) ?_ ?_
 ·exact ⟨_,0,_,upds_of _ _ ⟨rfl,rfl,rfl,rfl,trivial⟩,ah,H⟩
 rintro aH σ aI ⟨s,ρ,rfl,aq,H⟩
 obtain ⟨aw,ax,aJ,hM,ag⟩:=M.e_iterN aq
 simp only [zct] at hM
 clear aq;refine kg 5 ?_
 refine W.cond (decide ((s:Int)<(l.length:Int))) rfl (fun ac=>?_) (fun ac=>?_)
 ·replace hM:=M.e_t hM ac
  replace ac:=dI ac
  obtain ⟨aK,hM⟩:=M.e_gd hM;refine kg 8 ?_;refine t_alloc (cs:=[I 0,I 0]) H Al119 rfl ?_;intro ay aL H;refine kg 1 ?_;refine t_sw 0 0 [I ((l.getD s default).day),I ((l.getD s default).stage)] (.agg #[I ((l.getD s default).day),I ((l.getD s default).stage)]) H rfl rfl Sz119 rfl rfl rfl rfl ?_;intro aM H;refine kg 4 ?_;refine s_val (x_bld (ps:=[]) (zs:=[.slice none 0 0,.slice none 0 0,I 0,I 0]) (L':=[.slice none 0 0,.slice none 0 0,I 0,I 0]) rfl Tryz.underlying48 Al48 rfl (Bd48 Tryz.underlying48) (.nil)) ?_;refine kg 1 ?_;refine s_val (x_mi (v:=.agg #[I ((l.getD s default).day),I ((l.getD s default).stage)]) Tryz.underlying119 (by intro m h_; cases h_) rfl) ?_;obtain ⟨aN,az,hM⟩:=M.e_bind hM;refine s_call cf70 [.agg #[.slice none 0 0,.slice none 0 0,I 0,I 0],.iface 119 (.agg #[I ((l.getD s default).day),I ((l.getD s default).stage)])] rfl (zdz ([]:List Yr) ([]:List Old10) 0 0 (l.getD s default) Reads.none (Sl.nil (fun _=>none)) Reads.none (Sl.nil (fun _=>none)) az _ (H.gt 1)) ?_
  rintro vq aO ⟨r2,rfl,hvq,ar⟩
  subst vq;(try dsimp only at hM);replace H:=H.bk ar;clear ar;refine kg 3 ?_
  refine W.cond (!r2) rfl (fun aj=>?_) (fun aj=>?_)
  ·replace hM:=M.e_t hM aj;refine kg 4 ?_;refine W.ret ?_
   have aA:=M.e_inr hM ag
   subst aA;replace hM:=ai;(try dsimp only at hM)
   have ab:=M.e_pure hM
   exact ⟨_,resE_tmp rfl,⟨110,ab,rfl,(H.pk [])⟩⟩
  replace hM:=M.e_f hM aj;refine W.seq ?_;refine W.draw (fun W=>St w W [cBlk ay [I ((l.getD s default).day),I ((l.getD s default).stage)] 119] R) [(0,true),(1,true),(2,true),(3,true),(4,true),(5,true),(6,true),(7,true),(8,true),(9,true),(10,true),(11,true),(12,true),(13,true)] mixed (by decide +kernel) rfl ?_;intro aP au;replace H:=H.ext au;clear au
  refine ⟨(H.pk [0]),?_⟩
  obtain ⟨ak,hM⟩:=M.e_grd hM
  replace ak:=M.imp_of ak
  simp only [Bool.and_eq_true,decide_eq_true_eq] at ak
  obtain ⟨al,hM⟩:=M.e_grd hM
  replace al:=M.imp_of al
  simp only [Bool.and_eq_true,decide_eq_true_eq] at al
  refine kg 15 ?_
  refine W.cond ((decide (0<(s:Int)))&&(decide (((l.getD s default).day)<=((l.getD (Int.toNat ((s:Int)-1)) default).day)))) rfl (fun am=>?_) (fun am=>?_)
  ·replace hM:=M.e_t hM am;refine kg 4 ?_;refine W.ret ?_
   have aB:=M.e_inr hM ag
   subst aB;replace hM:=ai;(try dsimp only at hM)
   have ab:=M.e_pure hM
   exact ⟨_,resE_tmp rfl,⟨9,ab,rfl,(H.pk [])⟩⟩
  replace hM:=M.e_f hM am;refine kg 5 ?_
  exact ⟨aw,ax,s+1,_,upds_of _ _ ⟨rfl,rfl,rfl,rfl,trivial⟩,M.e_inl hM ag,(H.pk [])⟩
 replace hM:=M.e_f hM ac
 replace ac:=dI ac
 refine W.exit ?_
 have aC:=M.e_inr hM ag
 subst aC;replace hM:=ai;(try dsimp only at hM);refine kg 4 ?_;refine W.ret ?_
 have ab:=M.e_pure hM
 exact ⟨_,resE_tmp rfl,⟨0,ab,rfl,H⟩⟩

def zbx (l:List Pk) (apart threshold:Int):M Int :=
  M.bind (zcL l) fun r2 =>
  M.bind (M.opt (r2==0) (zaa apart 1 60) false) fun r3 =>
  M.bind (M.opt ((r2==0)&&!(!r3)) (zaa threshold 0 2000) false) fun r4 =>
  bif ((r2==0)&&((!r3)||(!r4))) then (
  M.pure 4)
  else (
  M.pure r2)
theorem zcu {R:List Chunk} {ag:Cells} {ab:Value} (l:List Pk) (apart:Int) (threshold:Int) (ai:Reads R ag) (aj:Sl ag ab l) {r:Int} (hM:(zbx l apart threshold).Ends r) (w:World) (H:St w w [] R):Ret Tryz.prog 43 #[ab,I apart,I threshold] w fun v w'=>∃ (y0:Int),y0=r/\v=I y0/\St w w' [] R:=by
 refine ret_of_W Tryz.func43 rfl rfl rfl ?_;refine kg 7 ?_;obtain ⟨ao,ak,hM⟩:=M.e_bind hM;refine s_call cf64 [ab] rfl (zdR l (ai.app _) aj ak _ (H.gt 0)) ?_
 rintro vq ap ⟨r2,rfl,hvq,ah⟩
 subst vq;(try dsimp only at hM);replace H:=H.bk ah;clear ah;refine kg 9 ?_;obtain ⟨r3,al,hM⟩:=M.e_bind hM;refine t_gcall (r2==0) (gy_t rfl) cf28 (B r3) (fun _=>[I apart,I 1,I 60]) (fun hg=>lst3 (gd_of hg (I apart)) rfl rfl) H (fun hg=>(zab apart 1 60 (M.e_opt al hg) _ (H.give (A:=[]) rfl)).mono fun v_ w_ ⟨y_,aa,ac,H_⟩=>by subst aa; exact ⟨ac,H.via H_⟩) ?_;intro aq H;refine kg 3 ?_;obtain ⟨r4,am,hM⟩:=M.e_bind hM;refine t_gcall ((r2==0)&&!(!r3)) (gy_gf rfl rfl) cf28 (B r4) (fun _=>[I threshold,I 0,I 2000]) (fun hg=>lst3 (gd_of hg (I threshold)) rfl rfl) H (fun hg=>(zab threshold 0 2000 (M.e_opt am hg) _ (H.give (A:=[]) rfl)).mono fun v_ w_ ⟨y_,aa,ac,H_⟩=>by subst aa; exact ⟨ac,H.via H_⟩) ?_;intro ar H;refine kg 4 ?_
 refine W.cond ((r2==0)&&((!r3)||(!r4))) rfl (fun ae=>?_) (fun ae=>?_)
 ·replace hM:=M.e_t hM ae;refine kg 8 ?_;refine W.ret ?_
  have aa:=M.e_pure hM
  exact ⟨_,resE_tmp rfl,⟨4,aa,rfl,H⟩⟩
 replace hM:=M.e_f hM ae;refine kg 6 ?_;refine W.ret ?_
 have aa:=M.e_pure hM
 exact ⟨_,resE_tmp rfl,⟨r2,aa,rfl,H⟩⟩

def m_cmp_isNaN_int (x:Int):M Bool :=
  M.pure (x != x)
theorem cmp_isNaN_int_ok {R:List Chunk}  (x:Int)  {r:Bool} (hM:(m_cmp_isNaN_int x).Ends r) (w:World) (H:St w w [] R):Ret Tryz.prog 65 #[I x] w fun v w'=>∃ (y0:Bool),y0=r/\v=B y0/\St w w' [] R:=by
 refine ret_of_W Tryz.func65 rfl rfl rfl ?_;refine kg 11 ?_;refine W.ret ?_
 have aa:=M.e_pure hM
 exact ⟨_,resE_tmp rfl,⟨(x != x),aa,rfl,H⟩⟩

def m_cmp_Compare_int (x y:Int):M Int :=
  M.bind (m_cmp_isNaN_int x) fun r2 =>
  M.bind (m_cmp_isNaN_int y) fun r3 =>
  bif r2 then (
  bif r3 then (
  M.pure 0)
  else (
  M.pure (-1)))
  else (
  bif r3 then (
  M.pure 1)
  else (
  bif decide (x<y) then (
  M.pure (-1))
  else (
  bif decide (y<x) then (
  M.pure 1)
  else (
  M.pure 0))))
theorem cmp_Compare_int_ok {R:List Chunk}  (x:Int) (y:Int)  {r:Int} (hM:(m_cmp_Compare_int x y).Ends r) (w:World) (H:St w w [] R):Ret Tryz.prog 47 #[I x,I y] w fun v w'=>∃ (y0:Int),y0=r/\v=I y0/\St w w' [] R:=by
 refine ret_of_W Tryz.func47 rfl rfl rfl ?_;refine kg 7 ?_;obtain ⟨al,aj,hM⟩:=M.e_bind hM;refine s_call cf65 [I x] rfl (cmp_isNaN_int_ok x aj _ (H.gt 0)) ?_
 rintro vq am ⟨r2,rfl,hvq,ae⟩
 subst vq;(try dsimp only at hM);replace H:=H.bk ae;clear ae;refine kg 5 ?_;obtain ⟨ao,ak,hM⟩:=M.e_bind hM;refine s_call cf65 [I y] rfl (cmp_isNaN_int_ok y ak _ (H.gt 0)) ?_
 rintro vq ap ⟨r3,rfl,hvq,ae⟩
 subst vq;(try dsimp only at hM);replace H:=H.bk ae;clear ae;refine kg 7 ?_
 refine W.cond r2 rfl (fun ag=>?_) (fun ag=>?_)
 ·replace hM:=M.e_t hM ag;refine kg 5 ?_
  refine W.cond r3 rfl (fun ah=>?_) (fun ah=>?_)
  ·replace hM:=M.e_t hM ah;refine kg 4 ?_;refine W.ret ?_
   have aa:=M.e_pure hM
   exact ⟨_,resE_tmp rfl,⟨0,aa,rfl,H⟩⟩
  replace hM:=M.e_f hM ah;refine kg 5 ?_;refine W.ret ?_
  have aa:=M.e_pure hM
  exact ⟨_,resE_tmp rfl,⟨(-1),aa,rfl,H⟩⟩
 replace hM:=M.e_f hM ag;refine kg 6 ?_
 refine W.cond r3 rfl (fun ai=>?_) (fun ai=>?_)
 ·replace hM:=M.e_t hM ai;refine kg 4 ?_;refine W.ret ?_
  have aa:=M.e_pure hM
  exact ⟨_,resE_tmp rfl,⟨1,aa,rfl,H⟩⟩
 replace hM:=M.e_f hM ai;refine kg 8 ?_
 refine W.cond (decide (x<y)) rfl (fun ab=>?_) (fun ab=>?_)
 ·replace hM:=M.e_t hM ab
  replace ab:=dI ab
  refine kg 4 ?_;refine W.ret ?_
  have aa:=M.e_pure hM
  exact ⟨_,resE_tmp rfl,⟨(-1),aa,rfl,H⟩⟩
 replace hM:=M.e_f hM ab
 replace ab:=dI ab
 refine kg 8 ?_
 refine W.cond (decide (y<x)) rfl (fun ac=>?_) (fun ac=>?_)
 ·replace hM:=M.e_t hM ac
  replace ac:=dI ac
  refine kg 4 ?_;refine W.ret ?_
  have aa:=M.e_pure hM
  exact ⟨_,resE_tmp rfl,⟨1,aa,rfl,H⟩⟩
 replace hM:=M.e_f hM ac
 replace ac:=dI ac
 refine kg 5 ?_;refine W.ret ?_
 have aa:=M.e_pure hM
 exact ⟨_,resE_tmp rfl,⟨0,aa,rfl,H⟩⟩

def zb5 (p:Pk) (day:Int):M Int :=
  M.bind (m_cmp_Compare_int p.day day) fun r2 =>
  M.pure r2
theorem zcB {R:List Chunk}  (p:Pk) (day:Int)  {r:Int} (hM:(zb5 p day).Ends r) (w:World) (H:St w w [] R):Ret Tryz.prog 46 #[.agg #[I p.day,I p.stage],I day] w fun v w'=>∃ (y0:Int),y0=r/\v=I y0/\St w w' [] R:=by
 refine ret_of_W Tryz.func46 rfl rfl rfl ?_;refine kg 2 ?_;refine t_bx [I p.day,I p.stage] H rfl ?_;intro ae ag H;refine kg 7 ?_;obtain ⟨ah,ab,hM⟩:=M.e_bind hM;refine s_call cf47 [I p.day,I day] rfl (cmp_Compare_int_ok p.day day ab _ (H.gt 1)) ?_
 rintro vq ai ⟨r2,rfl,hvq,aa⟩
 subst vq;(try dsimp only at hM);replace H:=H.bk aa;clear aa;refine kg 2 ?_;refine W.ret ?_
 have ac:=M.e_pure hM
 exact ⟨_,resE_tmp rfl,⟨r2,ac,rfl,(H.pk [])⟩⟩

def zcv (x:List Pk) (target:Int):(Int × Int)->M ((Int × Int) ⊕ Int):=fun (i,j) =>
  bif decide (i<j) then (
  M.grd (decide ((-9223372036854775808:Int)<=(i+j))&&decide ((i+j)<=(9223372036854775807:Int))) <|
  M.grd (decide ((0:Int)<=(i+j))&&decide ((i+j)<=(9223372036854775807:Int))) <|
  M.grd (decide ((0:Int)<=((i+j) / 2))&&decide (((i+j) / 2)<=(9223372036854775807:Int))) <|
  M.grd (decide ((0:Int)<=((i+j) / 2))&&decide (((i+j) / 2)<(x.length:Int))) <|
  M.bind (zb5 (x.getD (Int.toNat ((i+j) / 2)) default) target) fun r2 =>
  bif decide (r2<0) then (
  M.pure (.inl (((i+j) / 2)+1,j)))
  else (
  M.pure (.inl (i,(i+j) / 2))))
  else (
  M.pure (.inr i))
def zcR (x:List Pk) (target:Int):M (Int × Bool) :=
  M.bind (M.iter (zcv x target) (0,(x.length:Int))) fun i2 =>
  M.grd ((!(decide (i2<(x.length:Int)))||(decide ((0:Int)<=i2)&&decide (i2<(x.length:Int))))) <|
  M.bind (M.opt (decide (i2<(x.length:Int))) (zb5 (x.getD (Int.toNat i2) default) target) 0) fun r3 =>
  M.pure (i2,((decide (i2<(x.length:Int)))&&(r3==0)))
theorem zdF {R:List Chunk} {aj:Cells} {ac:Value} (x:List Pk) (target:Int) (ay:Reads R aj) (ap:Sl aj ac x) {r:(Int × Bool)} (hM:(zcR x target).Ends r) (w:World) (H:St w w [] R):Ret Tryz.prog 45 #[ac,I target,.func (.func 46) #[] #[]] w fun v w'=>∃ (y0:Int) (y1:Bool),(y0,y1)=r/\v = .tuple #[I y0,B y1]/\St w w' [] R:=by
 refine ret_of_W Tryz.func45 rfl rfl rfl ?_
 have az:=(ap).len_le
 refine kg 19 ?_;obtain ⟨aq,ae,ar⟩:=M.e_bind hM
 obtain ⟨aA,ae⟩:=M.e_iter ae
 refine W.loop (fun m σ W=>∃ (i:Int) (j:Int) (ρ:Env),σ=upds ρ [(0,ac),(1,I target),(2,.func (.func 46) #[] #[]),(8,I (x.length:Int)),(9,I i),(10,I j)]/\M.iterN (zcv x target) m (i,j)=some aq/\St w W [] R) ?_ ?_
 ·exact ⟨_,0,(x.length:Int),_,upds_of _ _ ⟨rfl,rfl,rfl,rfl,rfl,rfl,trivial⟩,ae,H⟩
 rintro aB σ aC ⟨i,j,ρ,rfl,ak,H⟩
 obtain ⟨al,am,aD,hM,ag⟩:=M.e_iterN ak
 simp only [zcv] at hM
 clear ak;refine kg 7 ?_
 refine W.cond (decide (i<j)) rfl (fun aa=>?_) (fun aa=>?_)
 ·replace hM:=M.e_t hM aa
  replace aa:=dI aa
  obtain ⟨aE,hM⟩:=M.e_gd hM;obtain ⟨aF,hM⟩:=M.e_gd hM;refine kg 7 ?_;refine s_val (x_convU (kd:=.i64) (a:=i+j) Tryz.underlying3 Tryz.underlying131 rfl (by omega))<|s_val (x_ushr1 (a:=i+j) rfl rfl) ?_;obtain ⟨aG,hM⟩:=M.e_gd hM;refine s_val (x_conv64 (kd:=.u64) (a:=(i+j) / 2) Tryz.underlying131 Tryz.underlying3 rfl (by omega)) ?_;obtain ⟨aH,hM⟩:=M.e_gd hM;refine kg 10 ?_;obtain ⟨aI,au,hM⟩:=M.e_bind hM;refine s_callv (f:=46) rfl cf46 [.agg #[I ((x.getD (Int.toNat ((i+j) / 2)) default).day),I ((x.getD (Int.toNat ((i+j) / 2)) default).stage)],I target] rfl (zcB (x.getD (Int.toNat ((i+j) / 2)) default) target au _ (H.gt 0)) ?_
  rintro vq aJ ⟨r2,rfl,hvq,ao⟩
  subst vq;(try dsimp only at hM);replace H:=H.bk ao;clear ao;refine kg 2 ?_
  refine W.cond (decide (r2<0)) rfl (fun ab=>?_) (fun ab=>?_)
  ·replace hM:=M.e_t hM ab
   replace ab:=dI ab
   refine kg 5 ?_
   exact ⟨al,am,((i+j) / 2)+1,j,_,upds_of _ _ ⟨rfl,rfl,rfl,rfl,rfl,rfl,trivial⟩,M.e_inl hM ag,H⟩
  replace hM:=M.e_f hM ab
  replace ab:=dI ab
  refine kg 4 ?_
  exact ⟨al,am,i,(i+j) / 2,_,upds_of _ _ ⟨rfl,rfl,rfl,rfl,rfl,rfl,trivial⟩,M.e_inl hM ag,H⟩
 replace hM:=M.e_f hM aa
 replace aa:=dI aa
 refine W.exit ?_
 have av:=M.e_inr hM ag
 subst av;replace hM:=ar;(try dsimp only at hM);obtain ⟨ah,hM⟩:=M.e_grd hM
 replace ah:=M.imp_of ah
 simp only [Bool.and_eq_true,decide_eq_true_eq] at ah
 refine kg 13 ?_;obtain ⟨r3,aw,hM⟩:=M.e_bind hM;refine t_gcallv (cap:=[]) (decide (i<(x.length:Int))) (gy_t rfl) cf46 (fun hg=>(gd_of hg (.func (.func 46) #[] #[]))) (I r3) (fun _=>[.agg #[I ((x.getD (Int.toNat i) default).day),I ((x.getD (Int.toNat i) default).stage)],I target]) (fun hg=>lst2 (gd_of hg (.agg #[I ((x.getD (Int.toNat i) default).day),I ((x.getD (Int.toNat i) default).stage)])) (gd_of hg (I target))) H (fun hg=>(zcB (x.getD (Int.toNat i) default) target (M.e_opt aw hg) _ (H.give (A:=[]) rfl)).mono fun v_ w_ ⟨y_,ai,ax,H_⟩=>by subst ai; exact ⟨ax,H.via H_⟩) ?_;intro aK H;refine kg 5 ?_;refine W.ret ?_
 have ai:=M.e_pure hM
 exact ⟨_,resE_tmp2 rfl,⟨i,((decide (i<(x.length:Int)))&&(r3==0)),ai,rfl,H⟩⟩

def zcr (i:Int) (aa:List Pk) (ab:Int):M Int :=
  M.grd (decide ((0:Int)<=i)&&decide (i<(aa.length:Int))) <|
  M.grd (decide ((-9223372036854775808:Int)<=(((aa.getD (Int.toNat i) default).day)+ab))&&decide ((((aa.getD (Int.toNat i) default).day)+ab)<=(9223372036854775807:Int))) <|
  M.bind (zcR aa (((aa.getD (Int.toNat i) default).day)+ab)) fun (r0,r1) =>
  M.pure r0
theorem zcO {R:List Chunk} {ae:Nat} {ag:Cells} {ac:Value} {ah:Nat} (i:Int) (aa:List Pk) (ab:Int) (ak:Reads R ag) (al:Sl ag ac aa) (ap:Has R (cBlk ae [ac] 80)) (aq:Has R (cBlk ah [I ab] 3)) {r:Int} (hM:(zcr i aa ab).Ends r) (w:World) (H:St w w [] R):Ret Tryz.prog 44 #[I i,Pq ae,Pq ah] w fun v w'=>∃ (y0:Int),y0=r/\v=I y0/\St w w' [] R:=by
 refine ret_of_W Tryz.func44 rfl rfl rfl ?_;refine kg 5 ?_;refine W.draw (fun W=>St w W [] R) [(0,true),(1,true),(2,true),(3,true),(4,true),(5,true),(6,true),(7,true),(8,false),(9,true),(10,true),(11,true),(12,true),(13,true)] mixed (by decide +kernel) rfl ?_;intro ar ai;replace H:=H.ext ai;clear ai
 refine ⟨(H.pk []),?_⟩
 obtain ⟨au,hM⟩:=M.e_gd hM;obtain ⟨av,hM⟩:=M.e_gd hM;refine kg 8 ?_;refine d_l rfl ?_;obtain ⟨aw,am,hM⟩:=M.e_bind hM;refine s_call cf45 [ac,I (((aa.getD (Int.toNat i) default).day)+ab),.func (.func 46) #[] #[]] rfl (zdF aa (((aa.getD (Int.toNat i) default).day)+ab) (ak.app _) al am _ (H.gt 0)) ?_
 rintro vq ax ⟨r0,r1,rfl,hvq,aj⟩
 subst vq;(try dsimp only at hM);replace H:=H.bk aj;clear aj
 refine s_nil ⟨(H.pk []),?_⟩
 refine kg 11 ?_;refine W.ret ?_
 have ao:=M.e_pure hM
 exact ⟨_,resE_tmp rfl,⟨r0,ao,rfl,H⟩⟩

def zcg (i:Int) (aa:List Pk) (ab:Int) (ac:List Int) (ae:List Pk) (ag:Int):M Int :=
  M.grd (decide ((0:Int)<=i)&&decide (i<(aa.length:Int))) <|
  M.grd (decide ((-9223372036854775808:Int)<=(((aa.getD (Int.toNat i) default).stage)-ab))&&decide ((((aa.getD (Int.toNat i) default).stage)-ab)<=(9223372036854775807:Int))) <|
  M.bind (zcr i ae ag) fun r2 =>
  M.grd (decide ((0:Int)<=r2)&&decide (r2<(41:Int))) <|
  M.grd (decide ((-9223372036854775808:Int)<=((((aa.getD (Int.toNat i) default).stage)-ab)+(ac.getD (Int.toNat r2) 0)))&&decide (((((aa.getD (Int.toNat i) default).stage)-ab)+(ac.getD (Int.toNat r2) 0))<=(9223372036854775807:Int))) <|
  M.pure ((((aa.getD (Int.toNat i) default).stage)-ab)+(ac.getD (Int.toNat r2) 0))
theorem zcl {R:List Chunk} {ai:Nat} {aj:Cells} {ak:Value} {al:Nat} {ab:Nat} {am:Nat} {ao:Nat} {ap:Cells} {aq:Value} {ar:Nat} (i:Int) (ac:List Pk) (ae:Int) (aa:List Int) (ag:List Pk) (ah:Int) (aE:Reads R aj) (aF:Sl aj ak ac) (aG:Has R (cBlk ai [ak] 80)) (aH:Has R (cBlk al [I ae] 3)) (aw:aa.length=41) (ax:Has R (cBlk ab (List.flatten [[],encF (α:=Int) aa]) 116)) (ay:Reads R ap) (az:Sl ap aq ag) (aA:Has R (cBlk ao [aq] 80)) (aB:Has R (cBlk ar [I ah] 3)) (aI:Has R (cBlk am [.func (.func 44) #[] #[Pq ao,Pq ar]] 61)) {r:Int} (hM:(zcg i ac ae aa ag ah).Ends r) (w:World) (H:St w w [] R):Ret Tryz.prog 48 #[I i,Pq ai,Pq al,Pq ab,Pq am] w fun v w'=>∃ (y0:Int),y0=r/\v=I y0/\St w w' [] R:=by
 refine ret_of_W Tryz.func48 rfl rfl rfl ?_;refine kg 5 ?_;refine W.draw (fun W=>St w W [] R) [(0,true),(1,true),(2,true),(3,true),(4,true),(5,true),(6,true),(7,true),(8,true),(9,false),(10,true),(11,true),(12,true),(13,true)] mixed (by decide +kernel) rfl ?_;intro aJ au;replace H:=H.ext au;clear au
 refine ⟨(H.pk []),?_⟩
 obtain ⟨aK,hM⟩:=M.e_gd hM;obtain ⟨aL,hM⟩:=M.e_gd hM;refine kg 9 ?_;refine d_l rfl ?_;obtain ⟨aM,aC,hM⟩:=M.e_bind hM;refine s_callv (f:=44) rfl cf44 [I i] rfl (zcO i ag ah (ay.app _) az (aA.app _) (aB.app _) aC _ (H.gt 0)) ?_
 rintro vq aN ⟨r2,rfl,hvq,av⟩
 subst vq;(try dsimp only at hM);replace H:=H.bk av;clear av
 refine s_nil ⟨(H.pk []),?_⟩
 obtain ⟨aO,hM⟩:=M.e_gd hM;refine d_q rfl (fun w' H=>x_ix (v:=.pointer (some ⟨ab,0+Int.toNat r2*1,none⟩)) rfl rfl (run_indexS Tryz.underlying116 Sz3 (by omega) (by omega)))<|d_q rfl (fun w' H=>x_ld (v:=I (aa.getD (Int.toNat r2) 0)) rfl (ldS (α:=Int) (k:=1) (off:=0) (i:=(Int.toNat r2)) (f:=0) (sz:=1) 0 Sc3 (ax.blk H) rfl (sgo1 rfl) rfl (by decide) (by have aP:=aw; omega) (by omega) rfl)) ?_;obtain ⟨aQ,hM⟩:=M.e_gd hM;refine kg 3 ?_;refine W.ret ?_
 have aD:=M.e_pure hM
 exact ⟨_,resE_tmp rfl,⟨((((ac.getD (Int.toNat i) default).stage)-ae)+(aa.getD (Int.toNat r2) 0)),aD,rfl,H⟩⟩

def zcs (l:List Int):(Int × Nat)->M ((Int × Nat) ⊕ Int):=fun (out,s) =>
  bif decide ((s:Int)<(l.length:Int)) then (
  M.grd (decide ((s:Int)<(l.length:Int))) <|
  M.pure (.inl (max out (l.getD s 0),s+1)))
  else (
  M.pure (.inr out))
def zcH (l:List Int):M Int :=
  M.bind (M.iter (zcs l) (0,0)) fun out2 =>
  M.pure out2
theorem zcS {R:List Chunk} {ae:Cells} {ab:Value} (l:List Int) (aq:Reads R ae) (ai:Sl ae ab l) {r:Int} (hM:(zcH l).Ends r) (w:World) (H:St w w [] R):Ret Tryz.prog 49 #[ab] w fun v w'=>∃ (y0:Int),y0=r/\v=I y0/\St w w' [] R:=by
 refine ret_of_W Tryz.func49 rfl rfl rfl ?_
 have ar:=(ai).len_le
 refine kg 16 ?_;obtain ⟨aj,ac,ak⟩:=M.e_bind hM
 obtain ⟨au,ac⟩:=M.e_iter ac
 refine W.loop (fun m σ W=>∃ (out:Int) (s:Nat) (ρ:Env),σ=upds ρ [(3,I out),(6,ab),(7,I (l.length:Int)),(8,I (s:Int))]/\M.iterN (zcs l) m (out,s)=some aj/\St w W [] R) ?_ ?_
 ·exact ⟨_,0,0,_,upds_of _ _ ⟨rfl,rfl,rfl,rfl,trivial⟩,ac,H⟩
 rintro av σ aw ⟨out,s,ρ,rfl,ag,H⟩
 obtain ⟨al,am,ax,hM,ah⟩:=M.e_iterN ag
 simp only [zcs] at hM
 clear ag;refine kg 5 ?_
 refine W.cond (decide ((s:Int)<(l.length:Int))) rfl (fun aa=>?_) (fun aa=>?_)
 ·replace hM:=M.e_t hM aa
  replace aa:=dI aa
  obtain ⟨ay,hM⟩:=M.e_gd hM;refine kg 19 ?_
  exact ⟨al,am,max out (l.getD s 0),s+1,_,upds_of _ _ ⟨rfl,rfl,rfl,rfl,trivial⟩,M.e_inl hM ah,H⟩
 replace hM:=M.e_f hM aa
 replace aa:=dI aa
 refine W.exit ?_
 have ao:=M.e_inr hM ah
 subst ao;replace hM:=ak;(try dsimp only at hM);refine kg 5 ?_;refine W.ret ?_
 have ap:=M.e_pure hM
 exact ⟨_,resE_tmp rfl,⟨out,ap,rfl,H⟩⟩

def zcx (l:List Pk) (apart threshold:Int):((List Int) × Int)->M (((List Int) × Int) ⊕ (List Int)):=fun (s,i) =>
  bif decide (0<=i) then (
  M.grd (decide ((-9223372036854775808:Int)<=(i+1))&&decide ((i+1)<=(9223372036854775807:Int))) <|
  M.grd (decide ((0:Int)<=(i+1))&&decide ((i+1)<(41:Int))) <|
  M.bind (zcg i l threshold s l apart) fun r3 =>
  M.bind (zcH ([(s.getD (Int.toNat (i+1)) 0:Int),(r3:Int)])) fun r4 =>
  M.grd (decide ((0:Int)<=i)&&decide (i<(41:Int))) <|
  M.grd (decide ((-9223372036854775808:Int)<=(i-1))&&decide ((i-1)<=(9223372036854775807:Int))) <|
  M.pure (.inl (s.set (Int.toNat i) r4,i-1)))
  else (
  M.pure (.inr s))
def zb2 (l:List Pk) (apart threshold:Int) (l2:List Int):(Int × (List Int))->M ((Int × (List Int)) ⊕ ((List Int) × (List Int))):=fun (i2,l3) =>
  bif decide (i2<(l.length:Int)) then (
  M.grd (decide ((0:Int)<=i2)&&decide (i2<(l.length:Int))) <|
  M.grd ((!(!(decide (((l.getD (Int.toNat i2) default).stage)<=threshold)))||(decide ((0:Int)<=i2)&&decide (i2<(41:Int))))) <|
  M.bind (M.opt (!(decide (((l.getD (Int.toNat i2) default).stage)<=threshold))) (zcg i2 l threshold l2 l apart) 0) fun r5 =>
  bif ((decide (((l.getD (Int.toNat i2) default).stage)<=threshold))||(decide (r5<(l2.getD (Int.toNat i2) 0)))) then (
  M.pure (.inl (i2+1,l3)))
  else (
  M.grd (decide ((l3.length+([(i2:Int)]).length)*8<=140737488355328)) <|
  M.bind (zcr i2 l apart) fun r6 =>
  M.pure (.inl (r6,l3++([(i2:Int)])))))
  else (
  M.pure (.inr (l3,l3)))
def zcE (l:List Pk) (apart threshold:Int):M ((List Int) × Int × Int) :=
  M.bind (zbx l apart threshold) fun r2 =>
  bif r2 != 0 then (
  M.pure (([]),0,r2))
  else (
  M.bind (M.iter (zcx l apart threshold) (List.replicate 41 0,(l.length:Int)-1)) fun l2 =>
  M.bind (M.iter (zb2 l apart threshold l2) (0,[])) fun (l4,l5) =>
  M.grd (decide ((0:Int)<=0)&&decide (0<(41:Int))) <|
  M.pure (l5,(l2.getD 0 0),0))
theorem zdk {R:List Chunk} {aD:Cells} {aj:Value} (l:List Pk) (apart:Int) (threshold:Int) (ao:Reads R aD) (ak:Sl aD aj l) {r:((List Int) × Int × Int)} (hM:(zcE l apart threshold).Ends r) (w:World) (H:St w w [] R):Ret Tryz.prog 18 #[aj,I apart,I threshold] w fun v w'=>∃ (y0:List Int) (y1:Int) (y2:Int) (u0:Value),(y0,y1,y2)=r/\v = .tuple #[u0,I y1,I y2]/\St w w' [cOwn (α:=Int) 3 u0 y0] R:=by
 refine ret_of_W Tryz.func18 rfl rfl rfl ?_;refine kg 2 ?_;refine t_box (v:=aj) (cs:=[aj]) H rfl (Sl.cells ak) ?_;intro aa bc H;refine t_b1 (I apart) H rfl rfl ?_;intro ae bf H;refine t_b1 (I threshold) H rfl rfl ?_;intro ah bg H;refine kg 10 ?_;obtain ⟨bh,aM,hM⟩:=M.e_bind hM;refine s_call cf43 [aj,I apart,I threshold] rfl (zcu l apart threshold (ao.app _) ak aM _ (H.gt 3)) ?_
 rintro vq bi ⟨r2,rfl,hvq,ac⟩
 subst vq;(try dsimp only at hM);replace H:=H.bk ac;clear ac;refine kg 7 ?_
 refine W.cond (r2 != 0) rfl (fun ap=>?_) (fun ap=>?_)
 ·replace hM:=M.e_t hM ap
  replace ap:=dI ap
  refine kg 7 ?_;replace H:=H.pk [];refine W.ret ?_
  have aw:=M.e_pure hM
  replace H:=H.nilOwn (α:=Int) 3
  exact ⟨_,resE_tmp3 rfl,⟨([]),0,r2,(.slice none 0 0),aw,rfl,H⟩⟩
 replace hM:=M.e_f hM ap
 replace ap:=dI ap
 refine kg 3 ?_;refine t_alloc (cs:=(List.flatten [[],encF (α:=Int) (List.replicate 41 0)])) H Al116 (by kernel_rfl) ?_;intro ab bj H;refine kg 3 ?_;refine s_val (x_mf (fs:=[]) (cs:=[Pq aa,Pq ae]) rfl rfl) ?_;refine t_alloc (cs:=[.nilFunc]) H Al61 rfl ?_;intro ai bm H;refine t_sw 0 0 [.func (.func 44) #[] #[Pq aa,Pq ae]] (.func (.func 44) #[] #[Pq aa,Pq ae]) H rfl rfl Sz61 rfl rfl rfl rfl ?_;intro bn H;refine kg 3 ?_;refine s_val (x_mf (fs:=[]) (cs:=[Pq aa,Pq ah,Pq ab,Pq ai]) rfl rfl) ?_
 have bo:=(ak).len_le
 refine kg 11 ?_;obtain ⟨aN,ay,aO⟩:=M.e_bind hM
 obtain ⟨aP,ay⟩:=M.e_iter ay
 refine W.loop (fun m σ W=>∃ (s:List Int) (i:Int) (ρ:Env),σ=upds ρ [(3,Pq aa),(5,Pq ah),(10,Pq ab),(11,Pq ai),(12,.func (.func 48) #[] #[Pq aa,Pq ah,Pq ab,Pq ai]),(13,I i)]/\M.iterN (zcx l apart threshold) m (s,i)=some aN/\St w W [cBlk ai [.func (.func 44) #[] #[Pq aa,Pq ae]] 61,cBlk ab (List.flatten [[],encF (α:=Int) s]) 116,cBlk ah [I threshold] 3,cBlk ae [I apart] 3,cBlk aa [aj] 80] R/\s.length=41) ?_ ?_
 ·exact ⟨_,List.replicate 41 0,(l.length:Int)-1,_,upds_of _ _ ⟨rfl,rfl,rfl,rfl,rfl,rfl,trivial⟩,ay,H,List.length_replicate⟩
 rintro bp σ br ⟨s,i,ρ,rfl,aE,H,al⟩
 obtain ⟨aF,aG,bt,hM,az⟩:=M.e_iterN aE
 simp only [zcx] at hM
 clear aE;refine kg 6 ?_
 refine W.cond (decide (0<=i)) rfl (fun aq=>?_) (fun aq=>?_)
 ·replace hM:=M.e_t hM aq
  replace aq:=dI aq
  refine kg 3 ?_;refine W.drawT (fun W=>St w W [cBlk ai [.func (.func 44) #[] #[Pq aa,Pq ae]] 61,cBlk ah [I threshold] 3,cBlk ae [I apart] 3,cBlk aa [aj] 80] R) (.q 0 (.q 1 (.q 2 (.q 3 (.q 5 (.q 6 (.l2 4 (.l 7 (.l 8 (.l 9 (.q 10 (.l 11 .nil))))) 7 (.l 4 (.l 8 (.l 9 (.q 10 (.l 11 .nil)))))))))))) mixed (by decide +kernel) rfl ?_;intro bu ag;replace H:=H.ext ag;clear ag
  refine ⟨(H.pk [0,2,3,4]),?_⟩
  obtain ⟨bv,hM⟩:=M.e_gd hM;obtain ⟨bw,hM⟩:=M.e_gd hM;refine kg 3 ?_;refine t_q rfl (fun w' H=>x_ix (v:=.pointer (some ⟨ab,0+Int.toNat (i+1)*1,none⟩)) rfl rfl (run_indexS Tryz.underlying116 Sz3 (by omega) (by omega))) ?_;refine kg 2 ?_;refine t_l2 rfl rfl ?_ ?_
  ·skip
   refine s_val (x_ld (v:=I (s.getD (Int.toNat (i+1)) 0)) rfl (ldS (α:=Int) (k:=1) (off:=0) (i:=(Int.toNat (i+1))) (f:=0) (sz:=1) 0 Sc3 (H.bl 1) rfl (sgo1 rfl) rfl (by decide) (by have ax:=al; omega) (by omega) rfl)) ?_
   refine s_nil ⟨(H.pk [0,2,3,4]),?_⟩
   refine t_l rfl ?_;obtain ⟨bx,aQ,hM⟩:=M.e_bind hM;refine s_callv (f:=48) rfl cf48 [I i] rfl (zcl i l threshold s l apart (ao.app _) ak (Has.here (k:=4) rfl) (Has.here (k:=2) rfl) al (Has.here (k:=1) rfl) (ao.app _) ak (Has.here (k:=4) rfl) (Has.here (k:=3) rfl) (Has.here (k:=0) rfl) aQ _ (H.gt 5)) ?_
   rintro vq bz ⟨r3,rfl,hvq,ac⟩
   subst vq;(try dsimp only at hM);replace H:=H.bk ac;clear ac
   refine s_nil ⟨(H.pk [0,2,3,4]),?_⟩
   refine t_l rfl ?_;refine t_bs (α:=Int) T28 [I (s.getD (Int.toNat (i+1)) 0),I r3] [(s.getD (Int.toNat (i+1)) 0:Int),(r3:Int)] H rfl (.cons rfl (Flat.rep_enc _ (s.getD (Int.toNat (i+1)) 0:Int))<|.cons rfl (Flat.rep_enc _ (r3:Int))<|.nil) rfl rfl rfl ?_;intro aH bA H
   have bB:=Sl.cells (H.os 0)
   have bC:=Sl.oc (H.os 0)
   refine s_nil ⟨(H.pk [1,3,4,5]),?_⟩
   refine t_l rfl ?_;obtain ⟨bD,aR,hM⟩:=M.e_bind hM;refine s_call cf49 [aH] rfl (zcS ([(s.getD (Int.toNat (i+1)) 0:Int),(r3:Int)]) (rdo 0) (H.os 0) aR _ (H.gt 6)) ?_
   rintro vq bE ⟨r4,rfl,hvq,ac⟩
   subst vq;(try dsimp only at hM);replace H:=H.bk ac;clear ac
   refine s_nil ⟨(H.pk [1,3,4,5]),?_⟩
   obtain ⟨bF,hM⟩:=M.e_gd hM;refine t_q rfl (fun w' H=>x_ix (v:=.pointer (some ⟨ab,0+Int.toNat i*1,none⟩)) rfl rfl (run_indexS Tryz.underlying116 Sz3 (by omega) (by omega)))<|t_l rfl ?_;refine t_stS (α:=Int) (kc:=2) (b:=ab) (k:=1) (off:=0) (i:=(Int.toNat i)) (f:=0) (sz:=1) (segs:=[[],encF (α:=Int) s]) (segs':=[[],encF (α:=Int) (s.set (Int.toNat i) r4)]) (l:=s) (l':=s.set (Int.toNat i) r4) (vs:=[I r4]) (L':=[cOwn (α:=Int) 3 aH ([(s.getD (Int.toNat (i+1)) 0:Int),(r3:Int)]),cBlk ai [.func (.func 44) #[] #[Pq aa,Pq ae]] 61,cBlk ab (List.flatten [[],encF (α:=Int) (s.set (Int.toNat i) r4)]) 116,cBlk ah [I threshold] 3,cBlk ae [I apart] 3,cBlk aa [aj] 80]) H rfl rfl rfl Sz3 rfl rfl rfl rfl (sgo1 rfl) rfl rfl (by have ax:=al; omega) (by omega) 0 r4 rfl rfl rfl rfl ?_;intro bG H
   have aS:(s.set (Int.toNat i) r4).length=41:=List.length_set.trans al
   refine s_nil ⟨(H.pk [1,3,4,5]),?_⟩
   obtain ⟨bH,hM⟩:=M.e_gd hM;refine kg 6 ?_
   exact ⟨aF,aG,s.set (Int.toNat i) r4,i-1,_,upds_of _ _ ⟨rfl,rfl,rfl,rfl,rfl,rfl,trivial⟩,M.e_inl hM az,(H.pk [1,2,3,4,5]),aS⟩
  skip
  obtain ⟨bI,aT,hM⟩:=M.e_bind hM;refine s_callv (f:=48) rfl cf48 [I i] rfl (zcl i l threshold s l apart (ao.app _) ak (Has.here (k:=4) rfl) (Has.here (k:=2) rfl) al (Has.here (k:=1) rfl) (ao.app _) ak (Has.here (k:=4) rfl) (Has.here (k:=3) rfl) (Has.here (k:=0) rfl) aT _ (H.gt 5)) ?_
  rintro vq bJ ⟨r3,rfl,hvq,ac⟩
  subst vq;(try dsimp only at hM);replace H:=H.bk ac;clear ac
  refine s_nil ⟨(H.pk [0,2,3,4]),?_⟩
  refine t_l rfl<|s_val (x_ld (v:=I (s.getD (Int.toNat (i+1)) 0)) rfl (ldS (α:=Int) (k:=1) (off:=0) (i:=(Int.toNat (i+1))) (f:=0) (sz:=1) 0 Sc3 (H.bl 1) rfl (sgo1 rfl) rfl (by decide) (by have ax:=al; omega) (by omega) rfl)) ?_
  refine s_nil ⟨(H.pk [0,2,3,4]),?_⟩
  refine t_l rfl ?_;refine t_bs (α:=Int) T28 [I (s.getD (Int.toNat (i+1)) 0),I r3] [(s.getD (Int.toNat (i+1)) 0:Int),(r3:Int)] H rfl (.cons rfl (Flat.rep_enc _ (s.getD (Int.toNat (i+1)) 0:Int))<|.cons rfl (Flat.rep_enc _ (r3:Int))<|.nil) rfl rfl rfl ?_;intro aI bK H
  have bL:=Sl.cells (H.os 0)
  have bM:=Sl.oc (H.os 0)
  refine s_nil ⟨(H.pk [1,3,4,5]),?_⟩
  refine t_l rfl ?_;obtain ⟨bN,aU,hM⟩:=M.e_bind hM;refine s_call cf49 [aI] rfl (zcS ([(s.getD (Int.toNat (i+1)) 0:Int),(r3:Int)]) (rdo 0) (H.os 0) aU _ (H.gt 6)) ?_
  rintro vq bO ⟨r4,rfl,hvq,ac⟩
  subst vq;(try dsimp only at hM);replace H:=H.bk ac;clear ac
  refine s_nil ⟨(H.pk [1,3,4,5]),?_⟩
  obtain ⟨bP,hM⟩:=M.e_gd hM;refine t_q rfl (fun w' H=>x_ix (v:=.pointer (some ⟨ab,0+Int.toNat i*1,none⟩)) rfl rfl (run_indexS Tryz.underlying116 Sz3 (by omega) (by omega)))<|t_l rfl ?_;refine t_stS (α:=Int) (kc:=2) (b:=ab) (k:=1) (off:=0) (i:=(Int.toNat i)) (f:=0) (sz:=1) (segs:=[[],encF (α:=Int) s]) (segs':=[[],encF (α:=Int) (s.set (Int.toNat i) r4)]) (l:=s) (l':=s.set (Int.toNat i) r4) (vs:=[I r4]) (L':=[cOwn (α:=Int) 3 aI ([(s.getD (Int.toNat (i+1)) 0:Int),(r3:Int)]),cBlk ai [.func (.func 44) #[] #[Pq aa,Pq ae]] 61,cBlk ab (List.flatten [[],encF (α:=Int) (s.set (Int.toNat i) r4)]) 116,cBlk ah [I threshold] 3,cBlk ae [I apart] 3,cBlk aa [aj] 80]) H rfl rfl rfl Sz3 rfl rfl rfl rfl (sgo1 rfl) rfl rfl (by have ax:=al; omega) (by omega) 0 r4 rfl rfl rfl rfl ?_;intro bQ H
  have aV:(s.set (Int.toNat i) r4).length=41:=List.length_set.trans al
  refine s_nil ⟨(H.pk [1,3,4,5]),?_⟩
  obtain ⟨bR,hM⟩:=M.e_gd hM;refine kg 6 ?_
  exact ⟨aF,aG,s.set (Int.toNat i) r4,i-1,_,upds_of _ _ ⟨rfl,rfl,rfl,rfl,rfl,rfl,trivial⟩,M.e_inl hM az,(H.pk [1,2,3,4,5]),aV⟩
 replace hM:=M.e_f hM aq
 replace aq:=dI aq
 refine W.exit ?_
 have aW:=M.e_inr hM az
 subst aW;replace hM:=aO;(try dsimp only at hM);refine kg 10 ?_
 replace H:=H.nilOwn (α:=Int) 3
 obtain ⟨aX,aA,aY⟩:=M.e_bind hM
 obtain ⟨aP,aA⟩:=M.e_iter aA
 refine W.loop (fun m σ W=>∃ (i2:Int) (l3:List Int) (ar:Value) (ρ:Env),σ=upds ρ [(3,Pq aa),(5,Pq ah),(10,Pq ab),(11,Pq ai),(12,.func (.func 48) #[] #[Pq aa,Pq ah,Pq ab,Pq ai]),(14,ar),(15,I i2)]/\M.iterN (zb2 l apart threshold s) m (i2,l3)=some aX/\St w W [cOwn (α:=Int) 3 ar l3,cBlk ai [.func (.func 44) #[] #[Pq aa,Pq ae]] 61,cBlk ab (List.flatten [[],encF (α:=Int) s]) 116,cBlk ah [I threshold] 3,cBlk ae [I apart] 3,cBlk aa [aj] 80] R) ?_ ?_
 ·exact ⟨_,0,[],(.slice none 0 0),_,upds_of _ _ ⟨rfl,rfl,rfl,rfl,rfl,rfl,rfl,trivial⟩,aA,H⟩
 rintro bS σ bT ⟨i2,l3,ar,ρ,rfl,aJ,H⟩
 obtain ⟨aK,aL,bU,hM,aB⟩:=M.e_iterN aJ
 simp only [zb2] at hM
 clear aJ
 have bV:=(ak).len_le
 refine kg 8 ?_
 refine W.cond (decide (i2<(l.length:Int))) rfl (fun au=>?_) (fun au=>?_)
 ·replace hM:=M.e_t hM au
  replace au:=dI au
  refine kg 4 ?_;refine W.draw (fun W=>St w W [cOwn (α:=Int) 3 ar l3,cBlk ai [.func (.func 44) #[] #[Pq aa,Pq ae]] 61,cBlk ab (List.flatten [[],encF (α:=Int) s]) 116,cBlk ah [I threshold] 3,cBlk ae [I apart] 3,cBlk aa [aj] 80] R) [(0,true),(1,true),(2,true),(3,true),(4,true),(5,true),(6,true),(7,true),(8,true),(9,true),(11,true),(12,true),(13,true),(10,false),(14,true),(15,true)] mixed (by decide +kernel) rfl ?_;intro bW ag;replace H:=H.ext ag;clear ag
  refine ⟨(H.pk [0,1,2,3,4,5]),?_⟩
  obtain ⟨bX,hM⟩:=M.e_gd hM;obtain ⟨av,hM⟩:=M.e_grd hM
  replace av:=M.imp_of av
  simp only [Bool.and_eq_true,decide_eq_true_eq] at av
  refine kg 11 ?_;refine d_qg (!(decide (((l.getD (Int.toNat i2) default).stage)<=threshold))) rfl (gy_f rfl) (fun hg=>(fun w' H=>x_ix (v:=.pointer (some ⟨ab,0+Int.toNat i2*1,none⟩)) rfl (gd_of hg (I i2)) (run_indexS Tryz.underlying116 Sz3 (by have am:=av.resolve_left (by rw [hg]; decide); first | exact am | exact am.1 | exact am.2 | omega | (have ag:=hg; simp at ag; omega)) (by have am:=av.resolve_left (by rw [hg]; decide); first | exact am | exact am.1 | exact am.2 | omega | (have ag:=hg; simp at ag; omega)))))<|d_qg (!(decide (((l.getD (Int.toNat i2) default).stage)<=threshold))) rfl (gy_f rfl) (fun hg=>(fun w' H=>x_ld (v:=I (s.getD (Int.toNat i2) 0)) (gd_of hg (.pointer (some ⟨ab,0+Int.toNat i2*1,none⟩))) (ldS (α:=Int) (k:=1) (off:=0) (i:=(Int.toNat i2)) (f:=0) (sz:=1) 0 Sc3 (H.bl 2) rfl (sgo1 rfl) rfl (by decide) (by have bY:=al; have am:=av.resolve_left (by rw [hg]; decide); first | exact am | exact am.1 | exact am.2 | omega | (have ag:=hg; simp at ag; omega)) (by omega) rfl)))<|d_l rfl ?_;obtain ⟨r5,aZ,hM⟩:=M.e_bind hM;refine t_gcallv (cap:=[Pq aa,Pq ah,Pq ab,Pq ai]) (!(decide (((l.getD (Int.toNat i2) default).stage)<=threshold))) (gy_f rfl) cf48 (fun hg=>(gd_of hg (.func (.func 48) #[] #[Pq aa,Pq ah,Pq ab,Pq ai]))) (I r5) (fun _=>[I i2]) (fun hg=>lst1 (gd_of hg (I i2))) H (fun hg=>(zcl i2 l threshold s l apart (ao.app _) ak (Has.here (k:=5) rfl) (Has.here (k:=3) rfl) al (Has.here (k:=2) rfl) (ao.app _) ak (Has.here (k:=5) rfl) (Has.here (k:=4) rfl) (Has.here (k:=1) rfl) (M.e_opt aZ hg) _ (H.give (A:=[]) rfl)).mono fun v_ w_ ⟨y_,aw,a6,H_⟩=>by subst aw; exact ⟨a6,H.via H_⟩) ?_;intro bZ H
  refine s_nil ⟨(H.pk [0,1,2,3,4,5]),?_⟩
  refine kg 3 ?_
  refine W.cond ((decide (((l.getD (Int.toNat i2) default).stage)<=threshold))||(decide (r5<(s.getD (Int.toNat i2) 0)))) rfl (fun aC=>?_) (fun aC=>?_)
  ·replace hM:=M.e_t hM aC;refine kg 6 ?_;refine W.exit ?_
   exact ⟨aK,aL,i2+1,l3,ar,_,upds_of _ _ ⟨rfl,rfl,rfl,rfl,rfl,rfl,rfl,trivial⟩,M.e_inl hM aB,H⟩
  replace hM:=M.e_f hM aC;refine kg 5 ?_;refine t_bs (α:=Int) T28 [I i2] [(i2:Int)] H rfl (.cons rfl (Flat.rep_enc _ (i2:Int))<|.nil) rfl rfl rfl ?_;intro a7 b3 H;obtain ⟨b4,hM⟩:=M.e_gd hM;refine t_app (α:=Int) (k:=1) (l:=l3) (l2:=[(i2:Int)]) (l':=l3++([(i2:Int)])) (vy:=a7) T28 rfl H rfl rfl rfl (H.os 0) (H.ol 0) (rfl) (by first | omega | (simp only [List.length_nil] at *; omega)) ?_;intro a8 b5 H;replace H:=H.nf;refine kg 5 ?_;obtain ⟨b6,ba,hM⟩:=M.e_bind hM;refine s_callv (f:=44) rfl cf44 [I i2] rfl (zcO i2 l apart (ao.app _) ak (Has.here (k:=6) rfl) (Has.here (k:=5) rfl) ba _ (H.gt 7)) ?_
  rintro vq b7 ⟨r6,rfl,hvq,ac⟩
  subst vq;(try dsimp only at hM);replace H:=H.bk ac;clear ac;refine kg 2 ?_
  exact ⟨aK,aL,r6,l3++([(i2:Int)]),a8,_,upds_of _ _ ⟨rfl,rfl,rfl,rfl,rfl,rfl,rfl,trivial⟩,M.e_inl hM aB,(H.pk [1,2,3,4,5,6])⟩
 replace hM:=M.e_f hM au
 replace au:=dI au
 refine W.exit ?_
 have bb:=M.e_inr hM aB
 subst bb;replace hM:=aY;(try dsimp only at hM);replace H:=H.pk [0,2];refine W.seq ?_;refine W.draw (fun W=>St w W [cOwn (α:=Int) 3 ar l3,cBlk ab (List.flatten [[],encF (α:=Int) s]) 116] R) [(0,true),(1,true),(2,true),(3,true),(4,true),(5,true)] mixed (by decide +kernel) rfl ?_;intro b8 ag;replace H:=H.ext ag;clear ag
 refine ⟨(H.pk [0,1]),?_⟩
 obtain ⟨b9,hM⟩:=M.e_gd hM;refine kg 1 ?_;refine d_q rfl (fun w' H=>x_ix (v:=.pointer (some ⟨ab,0+Int.toNat 0*1,none⟩)) rfl rfl (run_indexS Tryz.underlying116 Sz3 (by omega) (by omega)))<|d_q rfl (fun w' H=>x_ld (v:=I (s.getD 0 0)) rfl (ldS (α:=Int) (k:=1) (off:=0) (i:=0) (f:=0) (sz:=1) 0 Sc3 (H.bl 1) rfl (sgo1 rfl) rfl (by decide) (by have ax:=al; omega) (by omega) rfl)) ?_;refine kg 4 ?_;refine W.ret ?_
 have aw:=M.e_pure hM
 exact ⟨_,resE_tmp3 rfl,⟨l3,(s.getD 0 0),0,ar,aw,rfl,(H.pk [0])⟩⟩

def zbd (l:List Int) (last:Int):(Int × Nat)->M ((Int × Nat) ⊕ (Unit ⊕ Unit)):=fun (first2,s) =>
  bif decide ((s:Int)<(l.length:Int)) then (
  M.grd (decide ((s:Int)<(l.length:Int))) <|
  M.bind (zaa (l.getD s 0) first2 last) fun r2 =>
  bif !r2 then (
  M.pure (.inr (.inl ())))
  else (
  M.grd (decide ((-9223372036854775808:Int)<=((l.getD s 0)+1))&&decide (((l.getD s 0)+1)<=(9223372036854775807:Int))) <|
  M.pure (.inl ((l.getD s 0)+1,s+1))))
  else (
  M.pure (.inr (.inr ())))
def zaz (l:List Int) (first last:Int):M Bool :=
  M.bind (M.iter (zbd l last) (first,0)) fun x_=>match x_ with
  | (.inl (_:Unit))=>(
  M.pure false)
  | (.inr (_:Unit))=>(
  M.pure true)
theorem zcQ {R:List Chunk} {ai:Cells} {ab:Value} (l:List Int) (first:Int) (last:Int) (aw:Reads R ai) (am:Sl ai ab l) {r:Bool} (hM:(zaz l first last).Ends r) (w:World) (H:St w w [] R):Ret Tryz.prog 50 #[ab,I first,I last] w fun v w'=>∃ (y0:Bool),y0=r/\v=B y0/\St w w' [] R:=by
 refine ret_of_W Tryz.func50 rfl rfl rfl ?_
 have ax:=(am).len_le
 refine kg 12 ?_;obtain ⟨ao,ac,aj⟩:=M.e_bind hM
 obtain ⟨ay,ac⟩:=M.e_iter ac
 refine W.loop (fun m σ W=>∃ (first2:Int) (s:Nat) (ρ:Env),σ=upds ρ [(1,I first2),(2,I last),(9,ab),(10,I (l.length:Int)),(11,I (s:Int))]/\M.iterN (zbd l last) m (first2,s)=some ao/\St w W [] R) ?_ ?_
 ·exact ⟨_,first,0,_,upds_of _ _ ⟨rfl,rfl,rfl,rfl,rfl,trivial⟩,ac,H⟩
 rintro az σ aA ⟨first2,s,ρ,rfl,ak,H⟩
 obtain ⟨ap,aq,aB,hM,ae⟩:=M.e_iterN ak
 simp only [zbd] at hM
 clear ak;refine kg 5 ?_
 refine W.cond (decide ((s:Int)<(l.length:Int))) rfl (fun aa=>?_) (fun aa=>?_)
 ·replace hM:=M.e_t hM aa
  replace aa:=dI aa
  obtain ⟨aC,hM⟩:=M.e_gd hM;refine kg 15 ?_;obtain ⟨aD,ar,hM⟩:=M.e_bind hM;refine s_call cf28 [I (l.getD s 0),I first2,I last] rfl (zab (l.getD s 0) first2 last ar _ (H.gt 0)) ?_
  rintro vq aE ⟨r2,rfl,hvq,al⟩
  subst vq;(try dsimp only at hM);replace H:=H.bk al;clear al;refine kg 2 ?_
  refine W.cond (!r2) rfl (fun ag=>?_) (fun ag=>?_)
  ·replace hM:=M.e_t hM ag;refine kg 4 ?_;refine W.ret ?_
   have au:=M.e_inr hM ae
   subst au;replace hM:=aj;(try dsimp only at hM)
   have ah:=M.e_pure hM
   exact ⟨_,resE_tmp rfl,⟨false,ah,rfl,H⟩⟩
  replace hM:=M.e_f hM ag;obtain ⟨aF,hM⟩:=M.e_gd hM;refine kg 10 ?_
  exact ⟨ap,aq,(l.getD s 0)+1,s+1,_,upds_of _ _ ⟨rfl,rfl,rfl,rfl,rfl,trivial⟩,M.e_inl hM ae,H⟩
 replace hM:=M.e_f hM aa
 replace aa:=dI aa
 refine W.exit ?_
 have av:=M.e_inr hM ae
 subst av;replace hM:=aj;(try dsimp only at hM);refine kg 4 ?_;refine W.ret ?_
 have ah:=M.e_pure hM
 exact ⟨_,resE_tmp rfl,⟨true,ah,rfl,H⟩⟩

def zco (l:List Pk) (apart threshold:Int) (choice:List Int):(Int × Nat)->M ((Int × Nat) ⊕ (Unit ⊕ Int)):=fun (worth,s) =>
  bif decide ((s:Int)<(choice.length:Int)) then (
  M.grd (decide ((s:Int)<(choice.length:Int))) <|
  M.grd (decide ((0:Int)<=(choice.getD s 0))&&decide ((choice.getD s 0)<(l.length:Int))) <|
  M.grd ((!((!(decide (((l.getD (Int.toNat (choice.getD s 0)) default).stage)<=threshold)))&&(decide (0<(s:Int))))||(decide ((-9223372036854775808:Int)<=((s:Int)-1))&&decide (((s:Int)-1)<=(9223372036854775807:Int))))) <|
  M.grd ((!((!(decide (((l.getD (Int.toNat (choice.getD s 0)) default).stage)<=threshold)))&&(decide (0<(s:Int))))||(decide ((0:Int)<=((s:Int)-1))&&decide (((s:Int)-1)<(choice.length:Int))))) <|
  M.grd ((!((!(decide (((l.getD (Int.toNat (choice.getD s 0)) default).stage)<=threshold)))&&(decide (0<(s:Int))))||(decide ((0:Int)<=(choice.getD (Int.toNat ((s:Int)-1)) 0))&&decide ((choice.getD (Int.toNat ((s:Int)-1)) 0)<(l.length:Int))))) <|
  M.grd ((!((!(decide (((l.getD (Int.toNat (choice.getD s 0)) default).stage)<=threshold)))&&(decide (0<(s:Int))))||(decide ((-9223372036854775808:Int)<=(((l.getD (Int.toNat (choice.getD s 0)) default).day)-((l.getD (Int.toNat (choice.getD (Int.toNat ((s:Int)-1)) 0)) default).day)))&&decide ((((l.getD (Int.toNat (choice.getD s 0)) default).day)-((l.getD (Int.toNat (choice.getD (Int.toNat ((s:Int)-1)) 0)) default).day))<=(9223372036854775807:Int))))) <|
  bif ((decide (((l.getD (Int.toNat (choice.getD s 0)) default).stage)<=threshold))||((decide (0<(s:Int)))&&(decide ((((l.getD (Int.toNat (choice.getD s 0)) default).day)-((l.getD (Int.toNat (choice.getD (Int.toNat ((s:Int)-1)) 0)) default).day))<apart)))) then (
  M.pure (.inr (.inl ())))
  else (
  M.grd (decide ((-9223372036854775808:Int)<=(((l.getD (Int.toNat (choice.getD s 0)) default).stage)-threshold))&&decide ((((l.getD (Int.toNat (choice.getD s 0)) default).stage)-threshold)<=(9223372036854775807:Int))) <|
  M.grd (decide ((-9223372036854775808:Int)<=(worth+(((l.getD (Int.toNat (choice.getD s 0)) default).stage)-threshold)))&&decide ((worth+(((l.getD (Int.toNat (choice.getD s 0)) default).stage)-threshold))<=(9223372036854775807:Int))) <|
  M.pure (.inl (worth+(((l.getD (Int.toNat (choice.getD s 0)) default).stage)-threshold),s+1))))
  else (
  M.pure (.inr (.inr worth)))
def zcF (l:List Pk) (apart threshold:Int) (choice:List Int):M (Int × Int) :=
  M.bind (zbx l apart threshold) fun r2 =>
  bif r2 != 0 then (
  M.pure (0,r2))
  else (
  M.bind (zaz choice 0 ((l.length:Int)-1)) fun r3 =>
  bif !r3 then (
  M.pure (0,2))
  else (
  M.bind (M.iter (zco l apart threshold choice) (0,0)) fun x_=>match x_ with
  | (.inl (_:Unit))=>(
  M.pure (0,7))
  | (.inr worth2)=>(
  M.pure (worth2,0))))
theorem zdm {R:List Chunk} {ar:Cells} {ah:Value} {au:Cells} {ae:Value} (l:List Pk) (apart:Int) (threshold:Int) (choice:List Int) (aA:Reads R ar) (av:Sl ar ah l) (aB:Reads R au) (aw:Sl au ae choice) {r:(Int × Int)} (hM:(zcF l apart threshold choice).Ends r) (w:World) (H:St w w [] R):Ret Tryz.prog 20 #[ah,I apart,I threshold,ae] w fun v w'=>∃ (y0:Int) (y1:Int),(y0,y1)=r/\v = .tuple #[I y0,I y1]/\St w w' [] R:=by
 refine ret_of_W Tryz.func20 rfl rfl rfl ?_;refine kg 11 ?_;obtain ⟨aJ,aC,hM⟩:=M.e_bind hM;refine s_call cf43 [ah,I apart,I threshold] rfl (zcu l apart threshold (aA.app _) av aC _ (H.gt 0)) ?_
 rintro vq aK ⟨r2,rfl,hvq,ag⟩
 subst vq;(try dsimp only at hM);replace H:=H.bk ag;clear ag;refine kg 7 ?_
 refine W.cond (r2 != 0) rfl (fun aa=>?_) (fun aa=>?_)
 ·replace hM:=M.e_t hM aa
  replace aa:=dI aa
  refine kg 6 ?_;refine W.ret ?_
  have ab:=M.e_pure hM
  exact ⟨_,resE_tmp2 rfl,⟨0,r2,ab,rfl,H⟩⟩
 replace hM:=M.e_f hM aa
 replace aa:=dI aa
 have aL:=(av).len_le
 refine kg 8 ?_;obtain ⟨aM,aD,hM⟩:=M.e_bind hM;refine s_call cf50 [ae,I 0,I ((l.length:Int)-1)] rfl (zcQ choice 0 ((l.length:Int)-1) (aB.app _) aw aD _ (H.gt 0)) ?_
 rintro vq aN ⟨r3,rfl,hvq,ag⟩
 subst vq;(try dsimp only at hM);replace H:=H.bk ag;clear ag;refine kg 2 ?_
 refine W.cond (!r3) rfl (fun ai=>?_) (fun ai=>?_)
 ·replace hM:=M.e_t hM ai;refine kg 5 ?_;refine W.ret ?_
  have ab:=M.e_pure hM
  exact ⟨_,resE_tmp2 rfl,⟨0,2,ab,rfl,H⟩⟩
 replace hM:=M.e_f hM ai
 have aO:=(aw).len_le
 refine kg 13 ?_;obtain ⟨aE,aj,ax⟩:=M.e_bind hM
 obtain ⟨aP,aj⟩:=M.e_iter aj
 refine W.loop (fun m σ W=>∃ (worth:Int) (s:Nat) (ρ:Env),σ=upds ρ [(0,ah),(1,I apart),(2,I threshold),(3,ae),(11,I worth),(27,ae),(28,I (choice.length:Int)),(29,I (s:Int))]/\M.iterN (zco l apart threshold choice) m (worth,s)=some aE/\St w W [] R) ?_ ?_
 ·exact ⟨_,0,0,_,upds_of _ _ ⟨rfl,rfl,rfl,rfl,rfl,rfl,rfl,rfl,trivial⟩,aj,H⟩
 rintro aQ σ aR ⟨worth,s,ρ,rfl,ay,H⟩
 obtain ⟨aF,aG,aS,hM,ak⟩:=M.e_iterN ay
 simp only [zco] at hM
 clear ay;refine kg 5 ?_
 refine W.cond (decide ((s:Int)<(choice.length:Int))) rfl (fun ac=>?_) (fun ac=>?_)
 ·replace hM:=M.e_t hM ac
  replace ac:=dI ac
  obtain ⟨aT,hM⟩:=M.e_gd hM;refine kg 13 ?_;refine W.draw (fun W=>St w W [] R) [(0,true),(1,true),(2,true),(3,true),(4,true),(5,true),(6,true),(7,true),(8,true),(9,true),(10,true),(11,true),(12,true),(13,true),(14,true),(15,true),(16,true),(17,true),(18,true),(19,true),(20,true),(21,true),(22,true),(23,true),(24,true),(25,true),(26,true),(27,true),(28,true),(29,true)] mixed (by decide +kernel) rfl ?_;intro aU az;replace H:=H.ext az;clear az
  refine ⟨(H.pk []),?_⟩
  obtain ⟨aV,hM⟩:=M.e_gd hM;obtain ⟨al,hM⟩:=M.e_grd hM
  replace al:=M.imp_of al
  simp only [Bool.and_eq_true,decide_eq_true_eq] at al
  obtain ⟨am,hM⟩:=M.e_grd hM
  replace am:=M.imp_of am
  simp only [Bool.and_eq_true,decide_eq_true_eq] at am
  obtain ⟨ao,hM⟩:=M.e_grd hM
  replace ao:=M.imp_of ao
  simp only [Bool.and_eq_true,decide_eq_true_eq] at ao
  obtain ⟨ap,hM⟩:=M.e_grd hM
  replace ap:=M.imp_of ap
  simp only [Bool.and_eq_true,decide_eq_true_eq] at ap
  refine kg 31 ?_
  refine W.cond ((decide (((l.getD (Int.toNat (choice.getD s 0)) default).stage)<=threshold))||((decide (0<(s:Int)))&&(decide ((((l.getD (Int.toNat (choice.getD s 0)) default).day)-((l.getD (Int.toNat (choice.getD (Int.toNat ((s:Int)-1)) 0)) default).day))<apart)))) rfl (fun aq=>?_) (fun aq=>?_)
  ·replace hM:=M.e_t hM aq;refine kg 5 ?_;refine W.ret ?_
   have aH:=M.e_inr hM ak
   subst aH;replace hM:=ax;(try dsimp only at hM)
   have ab:=M.e_pure hM
   exact ⟨_,resE_tmp2 rfl,⟨0,7,ab,rfl,H⟩⟩
  replace hM:=M.e_f hM aq;obtain ⟨aW,hM⟩:=M.e_gd hM;obtain ⟨aX,hM⟩:=M.e_gd hM;refine kg 17 ?_
  exact ⟨aF,aG,worth+(((l.getD (Int.toNat (choice.getD s 0)) default).stage)-threshold),s+1,_,upds_of _ _ ⟨rfl,rfl,rfl,rfl,rfl,rfl,rfl,rfl,trivial⟩,M.e_inl hM ak,H⟩
 replace hM:=M.e_f hM ac
 replace ac:=dI ac
 refine W.exit ?_
 have aI:=M.e_inr hM ak
 subst aI;replace hM:=ax;(try dsimp only at hM);refine kg 6 ?_;refine W.ret ?_
 have ab:=M.e_pure hM
 exact ⟨_,resE_tmp2 rfl,⟨worth,0,ab,rfl,H⟩⟩

def zbg (x:Int) (aa:Int->M Bool):M Bool :=
  M.bind (aa x) fun r2 =>
  M.pure (!r2)
theorem zdM {R:List Chunk} {aa:Nat} {ab:Value} (x:Int) (ac:Int->M Bool) (ae:FnM Tryz.prog R ab ac) (ai:Has R (cBlk aa [ab] 92)) {r:Bool} (hM:(zbg x ac).Ends r) (w:World) (H:St w w [] R):Ret Tryz.prog 58 #[I x,Pq aa] w fun v w'=>∃ (y0:Bool),y0=r/\v=B y0/\St w w' [] R:=by
 refine ret_of_W Tryz.func58 rfl rfl rfl ?_;refine kg 8 ?_;obtain ⟨r2,ag,hM⟩:=M.e_bind hM;refine t_callM H ae rfl rfl x Reads.none (Arg.mkI (fun _=>none) _) ag ?_;intro aj H;refine kg 3 ?_;refine W.ret ?_
 have ah:=M.e_pure hM
 exact ⟨_,resE_tmp rfl,⟨(!r2),ah,rfl,H⟩⟩

def zaY (l:List Int) (so:Int->M Bool):M Bool :=
  M.bind (zaS l (fun aa=>zbg aa so)) fun r2 =>
  M.pure (!r2)
theorem zcJ {R:List Chunk} {ag:Cells} {ab:Value} {aa:Value} (l:List Int) (so:Int->M Bool) (ak:Reads R ag) (al:Sl ag ab l) (ah:FnM Tryz.prog R aa so) {r:Bool} (hM:(zaY l so).Ends r) (w:World) (H:St w w [] R):Ret Tryz.prog 26 #[ab,aa] w fun v w'=>∃ (y0:Bool),y0=r/\v=B y0/\St w w' [] R:=by
 refine ret_of_W Tryz.func26 rfl rfl rfl ?_;refine kg 2 ?_;refine t_box (v:=aa) (cs:=[aa]) H rfl (FnM.cells ah) ?_;intro ac ay H;refine kg 5 ?_;refine s_val (x_mf (fs:=[]) (cs:=[Pq ac]) rfl rfl) ?_;obtain ⟨az,am,hM⟩:=M.e_bind hM;refine s_call cf57 [ab,.func (.func 58) #[] #[Pq ac]] rfl (zcD l (fun ae=>zbg ae so) (ak.app _) al ⟨58,[Pq ac],rfl,cf58,fun ai aA aB ao ae aC ap aD aq ar=>by obtain rfl:=Arg.int aq; exact (zdM ae so (FnM.app (ah.app _) _) (Has.app (Has.here (k:=0) rfl) _) ar ai (St.refl ap)).mono fun ao ai ⟨aE,au,av,aw⟩=>by subst au; exact ⟨av,aw⟩⟩ am _ (H.gt 1)) ?_
 rintro vq aF ⟨r2,rfl,hvq,aj⟩
 subst vq;(try dsimp only at hM);replace H:=H.bk aj;clear aj;refine kg 3 ?_;refine W.ret ?_
 have ax:=M.e_pure hM
 exact ⟨_,resE_tmp rfl,⟨(!r2),ax,rfl,(H.pk [])⟩⟩

def zci (n:Int):M Bool :=
  M.bind (zaa n 0 2000) fun r2 =>
  M.pure r2
theorem zdt {R:List Chunk}  (n:Int)  {r:Bool} (hM:(zci n).Ends r) (w:World) (H:St w w [] R):Ret Tryz.prog 51 #[I n] w fun v w'=>∃ (y0:Bool),y0=r/\v=B y0/\St w w' [] R:=by
 refine ret_of_W Tryz.func51 rfl rfl rfl ?_;refine kg 7 ?_;obtain ⟨ae,ab,hM⟩:=M.e_bind hM;refine s_call cf28 [I n,I 0,I 2000] rfl (zab n 0 2000 ab _ (H.gt 0)) ?_
 rintro vq ag ⟨r2,rfl,hvq,aa⟩
 subst vq;(try dsimp only at hM);replace H:=H.bk aa;clear aa;refine kg 2 ?_;refine W.ret ?_
 have ac:=M.e_pure hM
 exact ⟨_,resE_tmp rfl,⟨r2,ac,rfl,H⟩⟩

def zcq (l:List Pk) (i apart:Int):Int->M (Int ⊕ Int):=fun s =>
  M.grd ((!(decide (s<(l.length:Int)))||(decide ((0:Int)<=s)&&decide (s<(l.length:Int))))) <|
  M.grd ((!(decide (s<(l.length:Int)))||(decide ((0:Int)<=i)&&decide (i<(l.length:Int))))) <|
  M.grd ((!(decide (s<(l.length:Int)))||(decide ((-9223372036854775808:Int)<=(((l.getD (Int.toNat i) default).day)+apart))&&decide ((((l.getD (Int.toNat i) default).day)+apart)<=(9223372036854775807:Int))))) <|
  bif ((decide (s<(l.length:Int)))&&(decide (((l.getD (Int.toNat s) default).day)<(((l.getD (Int.toNat i) default).day)+apart)))) then (
  M.grd (decide ((-9223372036854775808:Int)<=(s+1))&&decide ((s+1)<=(9223372036854775807:Int))) <|
  M.pure (.inl (s+1)))
  else (
  M.pure (.inr s))
def zcI (l:List Pk) (i apart:Int):M Int :=
  M.bind (M.iter (zcq l i apart) i) fun s2 =>
  M.pure s2
theorem zdu {R:List Chunk} {ai:Cells} {aa:Value} (l:List Pk) (i:Int) (apart:Int) (aw:Reads R ai) (am:Sl ai aa l) {r:Int} (hM:(zcI l i apart).Ends r) (w:World) (H:St w w [] R):Ret Tryz.prog 52 #[aa,I i,I apart] w fun v w'=>∃ (y0:Int),y0=r/\v=I y0/\St w w' [] R:=by
 refine ret_of_W Tryz.func52 rfl rfl rfl ?_;refine kg 11 ?_;obtain ⟨ao,ab,ap⟩:=M.e_bind hM
 obtain ⟨ax,ab⟩:=M.e_iter ab
 refine W.loop (fun m σ W=>∃ (s:Int) (ρ:Env),σ=upds ρ [(0,aa),(1,I i),(2,I apart),(7,I s)]/\M.iterN (zcq l i apart) m s=some ao/\St w W [] R) ?_ ?_
 ·exact ⟨_,i,_,upds_of _ _ ⟨rfl,rfl,rfl,rfl,trivial⟩,ab,H⟩
 rintro ay σ az ⟨s,ρ,rfl,aj,H⟩
 obtain ⟨aq,ar,aA,hM,ak⟩:=M.e_iterN aj
 simp only [zcq] at hM
 clear aj;refine kg 2 ?_;refine W.draw (fun W=>St w W [] R) [(0,true),(1,true),(2,true),(3,true),(4,true),(5,true),(6,true),(7,true),(8,true),(9,true),(10,true),(11,true),(12,true),(13,true),(14,true),(15,true),(16,true),(17,true),(18,true)] mixed (by decide +kernel) rfl ?_;intro aB al;replace H:=H.ext al;clear al
 refine ⟨(H.pk []),?_⟩
 have aC:=(am).len_le
 obtain ⟨ac,hM⟩:=M.e_grd hM
 replace ac:=M.imp_of ac
 simp only [Bool.and_eq_true,decide_eq_true_eq] at ac
 obtain ⟨ae,hM⟩:=M.e_grd hM
 replace ae:=M.imp_of ae
 simp only [Bool.and_eq_true,decide_eq_true_eq] at ae
 obtain ⟨ag,hM⟩:=M.e_grd hM
 replace ag:=M.imp_of ag
 simp only [Bool.and_eq_true,decide_eq_true_eq] at ag
 refine kg 20 ?_
 refine W.cond ((decide (s<(l.length:Int)))&&(decide (((l.getD (Int.toNat s) default).day)<(((l.getD (Int.toNat i) default).day)+apart)))) rfl (fun ah=>?_) (fun ah=>?_)
 ·replace hM:=M.e_t hM ah;obtain ⟨aD,hM⟩:=M.e_gd hM;refine kg 7 ?_
  exact ⟨aq,ar,s+1,_,upds_of _ _ ⟨rfl,rfl,rfl,rfl,trivial⟩,M.e_inl hM ak,H⟩
 replace hM:=M.e_f hM ah;refine W.exit ?_
 have au:=M.e_inr hM ak
 subst au;replace hM:=ap;(try dsimp only at hM);refine kg 5 ?_;refine W.ret ?_
 have av:=M.e_pure hM
 exact ⟨_,resE_tmp rfl,⟨s,av,rfl,H⟩⟩

def zcm (dues:List Int) (s2:Nat) (r4:Int):(Int × Nat)->M ((Int × Nat) ⊕ Int):=fun (has,s) =>
  bif decide ((s:Int)<(((dues.take (Int.toNat r4)).drop s2).length:Int)) then (
  M.grd (decide ((s:Int)<(((dues.take (Int.toNat r4)).drop s2).length:Int))) <|
  M.grd (decide ((-9223372036854775808:Int)<=(has+(((dues.take (Int.toNat r4)).drop s2).getD s 0)))&&decide ((has+(((dues.take (Int.toNat r4)).drop s2).getD s 0))<=(9223372036854775807:Int))) <|
  M.pure (.inl (has+(((dues.take (Int.toNat r4)).drop s2).getD s 0),s+1)))
  else (
  M.pure (.inr has))
def zb3 (l:List Pk) (apart threshold:Int) (dues:List Int):(Int × Nat)->M ((Int × Nat) ⊕ (Unit ⊕ Int)):=fun (sum,s2) =>
  bif decide ((s2:Int)<(l.length:Int)) then (
  M.grd (decide ((s2:Int)<(l.length:Int))) <|
  M.grd (decide ((s2:Int)<(dues.length:Int))) <|
  M.grd (decide ((-9223372036854775808:Int)<=(sum+(dues.getD s2 0)))&&decide ((sum+(dues.getD s2 0))<=(9223372036854775807:Int))) <|
  M.bind (zcI l (s2:Int) apart) fun r4 =>
  M.grd (decide ((0:Int)<=(s2:Int))&&decide ((s2:Int)<=r4)&&decide (r4<=(dues.length:Int))) <|
  M.bind (M.iter (zcm dues s2 r4) (0,0)) fun has2 =>
  M.grd (decide ((-9223372036854775808:Int)<=(((l.getD s2 default).stage)-threshold))&&decide ((((l.getD s2 default).stage)-threshold)<=(9223372036854775807:Int))) <|
  bif decide (has2<(((l.getD s2 default).stage)-threshold)) then (
  M.pure (.inr (.inl ())))
  else (
  M.pure (.inl (sum+(dues.getD s2 0),s2+1))))
  else (
  M.pure (.inr (.inr sum)))
def zb9 (l:List Pk) (apart threshold worth:Int) (dues:List Int):M (Bool × Int) :=
  M.bind (zbx l apart threshold) fun r2 =>
  bif r2 != 0 then (
  M.pure (false,r2))
  else (
  bif (dues.length:Int) != (l.length:Int) then (
  M.pure (false,2))
  else (
  M.bind (zaY dues (fun aa=>zci aa)) fun r3 =>
  bif !r3 then (
  M.pure (false,4))
  else (
  M.bind (M.iter (zb3 l apart threshold dues) (0,0)) fun x_=>match x_ with
  | (.inl (_:Unit))=>(
  M.pure (false,0))
  | (.inr sum2)=>(
  M.pure ((decide (sum2<=worth)),0)))))
theorem zcG {R:List Chunk} {ax:Cells} {ab:Value} {ay:Cells} {ak:Value} (l:List Pk) (apart:Int) (threshold:Int) (worth:Int) (dues:List Int) (az:Reads R ax) (al:Sl ax ab l) (aG:Reads R ay) (am:Sl ay ak dues) {r:(Bool × Int)} (hM:(zb9 l apart threshold worth dues).Ends r) (w:World) (H:St w w [] R):Ret Tryz.prog 21 #[ab,I apart,I threshold,I worth,ak] w fun v w'=>∃ (y0:Bool) (y1:Int),(y0,y1)=r/\v = .tuple #[B y0,I y1]/\St w w' [] R:=by
 refine ret_of_W Tryz.func21 rfl rfl rfl ?_;refine kg 11 ?_;obtain ⟨ba,aH,hM⟩:=M.e_bind hM;refine s_call cf43 [ab,I apart,I threshold] rfl (zcu l apart threshold (az.app _) al aH _ (H.gt 0)) ?_
 rintro vq bb ⟨r2,rfl,hvq,ac⟩
 subst vq;(try dsimp only at hM);replace H:=H.bk ac;clear ac;refine kg 7 ?_
 refine W.cond (r2 != 0) rfl (fun ae=>?_) (fun ae=>?_)
 ·replace hM:=M.e_t hM ae
  replace ae:=dI ae
  refine kg 6 ?_;refine W.ret ?_
  have aa:=M.e_pure hM
  exact ⟨_,resE_tmp2 rfl,⟨false,r2,aa,rfl,H⟩⟩
 replace hM:=M.e_f hM ae
 replace ae:=dI ae
 have bc:=(am).len_le
 have bf:=(al).len_le
 refine kg 12 ?_
 refine W.cond ((dues.length:Int) != (l.length:Int)) rfl (fun ag=>?_) (fun ag=>?_)
 ·replace hM:=M.e_t hM ag
  replace ag:=dI ag
  refine kg 5 ?_;refine W.ret ?_
  have aa:=M.e_pure hM
  exact ⟨_,resE_tmp2 rfl,⟨false,2,aa,rfl,H⟩⟩
 replace hM:=M.e_f hM ag
 replace ag:=dI ag
 refine kg 3 ?_;obtain ⟨bg,aI,hM⟩:=M.e_bind hM;refine s_call cf26 [ak,.func (.func 51) #[] #[]] rfl (zcJ dues (fun ao=>zci ao) (aG.app _) am ⟨51,[],rfl,cf51,fun aA bh bi aJ ao bj aK bm aL aM=>by obtain rfl:=Arg.int aL; exact (zdt ao aM aA (St.refl aK)).mono fun aJ aA ⟨bn,aN,aO,aP⟩=>by subst aN; exact ⟨aO,aP⟩⟩ aI _ (H.gt 0)) ?_
 rintro vq bo ⟨r3,rfl,hvq,ac⟩
 subst vq;(try dsimp only at hM);replace H:=H.bk ac;clear ac;refine kg 3 ?_
 refine W.cond (!r3) rfl (fun ap=>?_) (fun ap=>?_)
 ·replace hM:=M.e_t hM ap;refine kg 5 ?_;refine W.ret ?_
  have aa:=M.e_pure hM
  exact ⟨_,resE_tmp2 rfl,⟨false,4,aa,rfl,H⟩⟩
 replace hM:=M.e_f hM ap
 have bp:=(al).len_le
 refine kg 13 ?_;obtain ⟨aQ,aq,aB⟩:=M.e_bind hM
 obtain ⟨aR,aq⟩:=M.e_iter aq
 refine W.loop (fun m σ W=>∃ (sum:Int) (s2:Nat) (ρ:Env),σ=upds ρ [(0,ab),(1,I apart),(2,I threshold),(3,I worth),(4,ak),(13,I sum),(36,ab),(37,I (l.length:Int)),(38,I (s2:Int))]/\M.iterN (zb3 l apart threshold dues) m (sum,s2)=some aQ/\St w W [] R) ?_ ?_
 ·exact ⟨_,0,0,_,upds_of _ _ ⟨rfl,rfl,rfl,rfl,rfl,rfl,rfl,rfl,rfl,trivial⟩,aq,H⟩
 rintro br σ bt ⟨sum,s2,ρ,rfl,aC,H⟩
 obtain ⟨aS,aT,bu,hM,ar⟩:=M.e_iterN aC
 simp only [zb3] at hM
 clear aC;refine kg 5 ?_
 refine W.cond (decide ((s2:Int)<(l.length:Int))) rfl (fun ah=>?_) (fun ah=>?_)
 ·replace hM:=M.e_t hM ah
  replace ah:=dI ah
  obtain ⟨bv,hM⟩:=M.e_gd hM;refine kg 8 ?_;refine t_alloc (cs:=[I 0,I 0]) H Al119 rfl ?_;intro aD bw H;refine kg 1 ?_;refine t_sw 0 0 [I ((l.getD s2 default).day),I ((l.getD s2 default).stage)] (.agg #[I ((l.getD s2 default).day),I ((l.getD s2 default).stage)]) H rfl rfl Sz119 rfl rfl rfl rfl ?_;intro bx H;obtain ⟨bz,hM⟩:=M.e_gd hM;obtain ⟨bA,hM⟩:=M.e_gd hM;refine kg 23 ?_;obtain ⟨bB,aU,hM⟩:=M.e_bind hM;refine s_call cf52 [ab,I (s2:Int),I apart] rfl (zdu l (s2:Int) apart (az.app _) al aU _ (H.gt 1)) ?_
  rintro vq bC ⟨r4,rfl,hvq,ac⟩
  subst vq;(try dsimp only at hM);replace H:=H.bk ac;clear ac;obtain ⟨bD,hM⟩:=M.e_gd hM
  obtain ⟨au,aV,av⟩:=sl_lohi T28.und T28.size am (i:=(s2:Int)) (j:=r4) (by omega) (by omega) (by omega)
  replace av:Sl _ au ((dues.take (Int.toNat r4)).drop s2):=av
  refine s_val (x_sl (v:=ak) (u:=au) (lo':=some (I (s2:Int))) (hi':=some (I r4)) (mx':=none) rfl rfl rfl rfl (aV _)) ?_
  have bE:=(av).len_le
  refine kg 4 ?_;obtain ⟨aW,aw,aX⟩:=M.e_bind hM
  obtain ⟨aR,aw⟩:=M.e_iter aw
  refine W.loop (fun m σ W=>∃ (has:Int) (s:Nat) (ρ:Env),σ=upds ρ [(0,ab),(1,I apart),(2,I threshold),(3,I worth),(4,ak),(13,I (sum+(dues.getD s2 0))),(15,Pq aD),(16,I has),(36,ab),(37,I (l.length:Int)),(38,I (s2:Int)),(55,au),(56,I (((dues.take (Int.toNat r4)).drop s2).length:Int)),(57,I (s:Int))]/\M.iterN (zcm dues s2 r4) m (has,s)=some aW/\St w W [cBlk aD [I ((l.getD s2 default).day),I ((l.getD s2 default).stage)] 119] R) ?_ ?_
  ·exact ⟨_,0,0,_,upds_of _ _ ⟨rfl,rfl,rfl,rfl,rfl,rfl,rfl,rfl,rfl,rfl,rfl,rfl,rfl,rfl,trivial⟩,aw,H⟩
  rintro bF σ bG ⟨has,s,ρ,rfl,aE,H⟩
  obtain ⟨aY,aZ,bH,hM,aF⟩:=M.e_iterN aE
  simp only [zcm] at hM
  clear aE;refine kg 5 ?_
  refine W.cond (decide ((s:Int)<(((dues.take (Int.toNat r4)).drop s2).length:Int))) rfl (fun ai=>?_) (fun ai=>?_)
  ·replace hM:=M.e_t hM ai
   replace ai:=dI ai
   obtain ⟨bI,hM⟩:=M.e_gd hM;obtain ⟨bJ,hM⟩:=M.e_gd hM;refine kg 19 ?_
   exact ⟨aY,aZ,has+(((dues.take (Int.toNat r4)).drop s2).getD s 0),s+1,_,upds_of _ _ ⟨rfl,rfl,rfl,rfl,rfl,rfl,rfl,rfl,rfl,rfl,rfl,rfl,rfl,rfl,trivial⟩,M.e_inl hM aF,H⟩
  replace hM:=M.e_f hM ai
  replace ai:=dI ai
  refine W.exit ?_
  have a6:=M.e_inr hM aF
  subst a6;replace hM:=aX;(try dsimp only at hM);obtain ⟨bK,hM⟩:=M.e_gd hM;refine kg 9 ?_
  refine W.cond (decide (has<(((l.getD s2 default).stage)-threshold))) rfl (fun aj=>?_) (fun aj=>?_)
  ·replace hM:=M.e_t hM aj
   replace aj:=dI aj
   refine kg 5 ?_;refine W.ret ?_
   have a7:=M.e_inr hM ar
   subst a7;replace hM:=aB;(try dsimp only at hM)
   have aa:=M.e_pure hM
   exact ⟨_,resE_tmp2 rfl,⟨false,0,aa,rfl,(H.pk [])⟩⟩
  replace hM:=M.e_f hM aj
  replace aj:=dI aj
  refine kg 5 ?_
  exact ⟨aS,aT,sum+(dues.getD s2 0),s2+1,_,upds_of _ _ ⟨rfl,rfl,rfl,rfl,rfl,rfl,rfl,rfl,rfl,trivial⟩,M.e_inl hM ar,(H.pk [])⟩
 replace hM:=M.e_f hM ah
 replace ah:=dI ah
 refine W.exit ?_
 have a8:=M.e_inr hM ar
 subst a8;replace hM:=aB;(try dsimp only at hM);refine kg 8 ?_;refine W.ret ?_
 have aa:=M.e_pure hM
 exact ⟨_,resE_tmp2 rfl,⟨(decide (sum<=worth)),0,aa,rfl,H⟩⟩

def zbY (a b:List Int):Nat->M (Nat ⊕ (Unit ⊕ Unit)):=fun i =>
  bif decide ((i:Int)<(a.length:Int)) then (
  M.grd (decide ((i:Int)<(a.length:Int))) <|
  M.grd (decide ((i:Int)<(b.length:Int))) <|
  bif (a.getD i 0) != (b.getD i 0) then (
  M.pure (.inr (.inl ())))
  else (
  M.pure (.inl (i+1))))
  else (
  M.pure (.inr (.inr ())))
def zcM (a b:List Int):M Bool :=
  bif (a.length:Int) != (b.length:Int) then (
  M.pure false)
  else (
  M.bind (M.iter (zbY a b) 0) fun x_=>match x_ with
  | (.inl (_:Unit))=>(
  M.pure false)
  | (.inr (_:Unit))=>(
  M.pure true))
theorem zdy {R:List Chunk} {ak:Cells} {ag:Value} {al:Cells} {ah:Value} (a:List Int) (b:List Int) (az:Reads R ak) (am:Sl ak ag a) (aA:Reads R al) (ar:Sl al ah b) {r:Bool} (hM:(zcM a b).Ends r) (w:World) (H:St w w [] R):Ret Tryz.prog 22 #[ag,ah] w fun v w'=>∃ (y0:Bool),y0=r/\v=B y0/\St w w' [] R:=by
 refine ret_of_W Tryz.func22 rfl rfl rfl ?_
 have aB:=(am).len_le
 have aC:=(ar).len_le
 refine kg 13 ?_
 refine W.cond ((a.length:Int) != (b.length:Int)) rfl (fun aa=>?_) (fun aa=>?_)
 ·replace hM:=M.e_t hM aa
  replace aa:=dI aa
  refine kg 4 ?_;refine W.ret ?_
  have ae:=M.e_pure hM
  exact ⟨_,resE_tmp rfl,⟨false,ae,rfl,H⟩⟩
 replace hM:=M.e_f hM aa
 replace aa:=dI aa
 refine kg 7 ?_;obtain ⟨au,ai,ao⟩:=M.e_bind hM
 obtain ⟨aD,ai⟩:=M.e_iter ai
 refine W.loop (fun m σ W=>∃ (i:Nat) (ρ:Env),σ=upds ρ [(0,ag),(1,ah),(5,I (i:Int))]/\M.iterN (zbY a b) m i=some au/\St w W [] R) ?_ ?_
 ·exact ⟨_,0,_,upds_of _ _ ⟨rfl,rfl,rfl,trivial⟩,ai,H⟩
 rintro aE σ aF ⟨i,ρ,rfl,ap,H⟩
 obtain ⟨av,aw,aG,hM,aj⟩:=M.e_iterN ap
 simp only [zbY] at hM
 clear ap
 have aH:=(am).len_le
 refine kg 8 ?_
 refine W.cond (decide ((i:Int)<(a.length:Int))) rfl (fun ab=>?_) (fun ab=>?_)
 ·replace hM:=M.e_t hM ab
  replace ab:=dI ab
  refine kg 4 ?_;refine W.draw (fun W=>St w W [] R) [(0,true),(1,true),(2,true),(3,true),(4,true),(5,true),(6,true),(7,true),(8,true)] mixed (by decide +kernel) rfl ?_;intro aI aq;replace H:=H.ext aq;clear aq
  refine ⟨(H.pk []),?_⟩
  obtain ⟨aJ,hM⟩:=M.e_gd hM;obtain ⟨aK,hM⟩:=M.e_gd hM;refine kg 10 ?_
  refine W.cond ((a.getD i 0) != (b.getD i 0)) rfl (fun ac=>?_) (fun ac=>?_)
  ·replace hM:=M.e_t hM ac
   replace ac:=dI ac
   refine kg 4 ?_;refine W.ret ?_
   have ax:=M.e_inr hM aj
   subst ax;replace hM:=ao;(try dsimp only at hM)
   have ae:=M.e_pure hM
   exact ⟨_,resE_tmp rfl,⟨false,ae,rfl,H⟩⟩
  replace hM:=M.e_f hM ac
  replace ac:=dI ac
  refine kg 6 ?_
  exact ⟨av,aw,i+1,_,upds_of _ _ ⟨rfl,rfl,rfl,trivial⟩,M.e_inl hM aj,H⟩
 replace hM:=M.e_f hM ab
 replace ab:=dI ab
 refine W.exit ?_
 have ay:=M.e_inr hM aj
 subst ay;replace hM:=ao;(try dsimp only at hM);refine kg 4 ?_;refine W.ret ?_
 have ae:=M.e_pure hM
 exact ⟨_,resE_tmp rfl,⟨true,ae,rfl,H⟩⟩

def zaV  : M ((List Yr) × (List Old10) × Int × Int) :=
  M.pure (([(⟨(1905:Int),(400:Int),(420:Int)⟩:Yr),(⟨(1906:Int),(250:Int),(250:Int)⟩:Yr)]),([(⟨(1900:Int),(1904:Int),(500:Int),([(1902:Int)])⟩:Old10)]),1900,1909)
theorem zbV {R:List Chunk}    {r:((List Yr) × (List Old10) × Int × Int)} (hM:(zaV).Ends r) (w:World) (H:St w w [] R):Ret Tryz.prog 23 #[] w fun v w'=>∃ (y0:List Yr) (y1:List Old10) (y2:Int) (y3:Int) (u0:Value) (u1:Value) (rr2:List (Raw 3)) (ai:Base),(y0,y1,y2,y3)=r/\v = .agg #[u0,u1,I y2,I y3]/\St w w' [cOwn (α:=Yr) 44 u0 y0,cOwn (α:=Raw 3) 50 u1 rr2,cRo ai] R/\RepR (α:=Old10) ai.cells rr2 y1:=by
 refine ret_of_W Tryz.func23 rfl rfl rfl ?_;refine kg 2 ?_;refine t_alloc (cs:=[.slice none 0 0,.slice none 0 0,I 0,I 0]) H Al48 rfl ?_;intro aq ar H;refine kg 3 ?_;refine s_val (x_bld (ps:=[(0,I 400),(1,I 420)]) (zs:=[I 0,I 0]) (L':=[I 400,I 420]) rfl Tryz.underlying41 Al41 rfl (Bd41 Tryz.underlying41) (.cons (cs:=[I 400]) rfl rfl rfl rfl rfl<|.cons (cs:=[I 420]) rfl rfl rfl rfl rfl<|.nil))<|s_val (x_bld (ps:=[(0,I 1905),(1,.agg #[I 400,I 420])]) (zs:=[I 0,I 0,I 0]) (L':=[I 1905,I 400,I 420]) rfl Tryz.underlying44 Al44 rfl (Bd44 Tryz.underlying44) (.cons (cs:=[I 1905]) rfl rfl rfl rfl rfl<|.cons (cs:=[I 400,I 420]) rfl rfl rfl rfl rfl<|.nil))<|s_val (x_bld (ps:=[(0,I 250),(1,I 250)]) (zs:=[I 0,I 0]) (L':=[I 250,I 250]) rfl Tryz.underlying41 Al41 rfl (Bd41 Tryz.underlying41) (.cons (cs:=[I 250]) rfl rfl rfl rfl rfl<|.cons (cs:=[I 250]) rfl rfl rfl rfl rfl<|.nil))<|s_val (x_bld (ps:=[(0,I 1906),(1,.agg #[I 250,I 250])]) (zs:=[I 0,I 0,I 0]) (L':=[I 1906,I 250,I 250]) rfl Tryz.underlying44 Al44 rfl (Bd44 Tryz.underlying44) (.cons (cs:=[I 1906]) rfl rfl rfl rfl rfl<|.cons (cs:=[I 250,I 250]) rfl rfl rfl rfl rfl<|.nil)) ?_;refine t_bs (α:=Yr) T45 [.agg #[I 1905,I 400,I 420],.agg #[I 1906,I 250,I 250]] [(⟨(1905:Int),(400:Int),(420:Int)⟩:Yr),(⟨(1906:Int),(250:Int),(250:Int)⟩:Yr)] H rfl (.cons rfl (Flat.rep_enc _ (⟨(1905:Int),(400:Int),(420:Int)⟩:Yr))<|.cons rfl (Flat.rep_enc _ (⟨(1906:Int),(250:Int),(250:Int)⟩:Yr))<|.nil) rfl rfl rfl ?_;intro aa au H;refine t_bs (α:=Int) T28 [I 1902] [(1902:Int)] H rfl (.cons rfl (Flat.rep_enc _ (1902:Int))<|.nil) rfl rfl rfl ?_;intro ac av H;refine s_val (x_bld (ps:=[(0,I 1900),(1,I 1904),(2,I 500),(3,ac)]) (zs:=[I 0,I 0,I 0,.slice none 0 0]) (L':=[I 1900,I 1904,I 500,ac]) rfl Tryz.underlying50 Al50 rfl (Bd50 Tryz.underlying50) (.cons (cs:=[I 1900]) rfl rfl rfl rfl rfl<|.cons (cs:=[I 1904]) rfl rfl rfl rfl rfl<|.cons (cs:=[I 500]) rfl rfl rfl rfl rfl<|.cons (cs:=[ac]) (Sl.cells (H.os 0)) rfl rfl rfl rfl<|.nil)) ?_
 obtain ⟨aw,H⟩:=H.emptyE
 obtain ⟨ax,H,al⟩:=H.freezeE (k:=1) rfl
 replace H:=H.nf
 have ag:=al
 obtain ⟨aj,H,ay,am⟩:=H.joinE (i:=0) (j:=1) rfl rfl
 replace ag:=ag.mono am
 obtain ⟨ae,ak⟩:∃ r:Raw 3,r.cs=[I 1900,I 1904,I 500,ac]:=⟨Raw.of [I 1900,I 1904,I 500,ac] rfl (by simp only [List.all_cons,List.all_nil,Bool.true_and,Bool.and_true,Sl.oc ag]; try rfl),rfl⟩
 have ah:RepR (α:=Old10) aj.cells [ae] [(⟨(1900:Int),(1904:Int),(500:Int),([(1902:Int)])⟩:Old10)]:=.cons (by rw [ak]; exact ⟨_,rfl,ag⟩)<|.nil
 refine t_bs (α:=Raw 3) T46 [.agg #[I 1900,I 1904,I 500,ac]] [ae] H rfl (.cons (by rw [show (Flat.enc ae:List Value)=ae.cs from rfl,ak]; rfl) (Flat.rep_enc _ _)<|.nil) rfl rfl rfl ?_;intro ab az H;replace H:=H.nf;refine s_val (x_bld (ps:=[(2,I 1900),(3,I 1909),(0,aa),(1,ab)]) (zs:=[.slice none 0 0,.slice none 0 0,I 0,I 0]) (L':=[aa,ab,I 1900,I 1909]) rfl Tryz.underlying48 Al48 rfl (Bd48 Tryz.underlying48) (.cons (cs:=[I 1900]) rfl rfl rfl rfl rfl<|.cons (cs:=[I 1909]) rfl rfl rfl rfl rfl<|.cons (cs:=[aa]) (Sl.cells (H.os 4)) rfl rfl rfl rfl<|.cons (cs:=[ab]) (Sl.cells (rowSl rfl (H.get (k:=0) rfl) (roLe _ (H.get (k:=1) rfl)) ah)) rfl rfl rfl rfl<|.nil)) ?_;refine t_sw 5 0 [aa,ab,I 1900,I 1909] (.agg #[aa,ab,I 1900,I 1909]) H rfl rfl Sz48 rfl rfl rfl (by simp only [List.all_cons,List.all_nil,Bool.true_and,Bool.and_true,Sl.oc (H.os 4),Sl.oc (rowSl rfl (H.get (k:=0) rfl) (roLe _ (H.get (k:=1) rfl)) ah)]; try rfl) ?_;intro aA H;refine s_nil ?_;replace H:=H.pk [0,1,4,5];refine W.ret ?_
 have ao:=(H.bl 3)
 have ap:=M.e_pure hM
 exact ⟨_,(resE_of1 (v:=.agg #[aa,ab,I 1900,I 1909]) rfl (.cell (v:=.agg #[aa,ab,I 1900,I 1909]) rfl (run_loadVar_ag (ds:=[aa,ab,I 1900,I 1909]) Ag48 Sz48 ao rfl rfl)<|.nil)),⟨([(⟨(1905:Int),(400:Int),(420:Int)⟩:Yr),(⟨(1906:Int),(250:Int),(250:Int)⟩:Yr)]),([(⟨(1900:Int),(1904:Int),(500:Int),([(1902:Int)])⟩:Old10)]),1900,1909,aa,ab,[ae],aj,ap,rfl,(H.pk [2,0,1]),ah⟩⟩

def zaU (s:List Old10) (f:Old10->M Bool):Nat->M (Nat ⊕ (Int ⊕ Unit)):=fun s2 =>
  bif decide ((s2:Int)<(s.length:Int)) then (
  M.grd (decide ((s2:Int)<(s.length:Int))) <|
  M.bind (f (s.getD s2 default)) fun r2 =>
  bif r2 then (
  M.pure (.inr (.inl (s2:Int))))
  else (
  M.pure (.inl (s2+1))))
  else (
  M.pure (.inr (.inr ())))
def zbN (s:List Old10) (f:Old10->M Bool):M Int :=
  M.bind (M.iter (zaU s f) 0) fun x_=>match x_ with
  | (.inl s3)=>(
  M.pure s3)
  | (.inr (_:Unit))=>(
  M.pure (-1))
theorem zcY {R:List Chunk} {ak:Cells} {ac:Value} {ae:Value} (s:List Old10) (f:Old10->M Bool) (al:Reads R ak) (am:Sl ak ac s) (ar:FnM Tryz.prog R ae f) {r:Int} (hM:(zbN s f).Ends r) (w:World) (H:St w w [] R):Ret Tryz.prog 107 #[ac,ae] w fun v w'=>∃ (y0:Int),y0=r/\v=I y0/\St w w' [] R:=by
 refine ret_of_W Tryz.func107 rfl rfl rfl ?_
 have aB:=(am).len_le
 refine kg 12 ?_;obtain ⟨au,ag,ao⟩:=M.e_bind hM
 obtain ⟨aC,ag⟩:=M.e_iter ag
 refine W.loop (fun m σ W=>∃ (s2:Nat) (ρ:Env),σ=upds ρ [(0,ac),(1,ae),(7,I (s.length:Int)),(8,I (s2:Int))]/\M.iterN (zaU s f) m s2=some au/\St w W [] R) ?_ ?_
 ·exact ⟨_,0,_,upds_of _ _ ⟨rfl,rfl,rfl,rfl,trivial⟩,ag,H⟩
 rintro aD σ aE ⟨s2,ρ,rfl,ap,H⟩
 obtain ⟨av,aw,aF,hM,ah⟩:=M.e_iterN ap
 simp only [zaU] at hM
 clear ap;refine kg 5 ?_
 refine W.cond (decide ((s2:Int)<(s.length:Int))) rfl (fun aa=>?_) (fun aa=>?_)
 ·replace hM:=M.e_t hM aa
  replace aa:=dI aa
  obtain ⟨aG,hM⟩:=M.e_gd hM;refine kg 14 ?_
  obtain ⟨aq,ax,ab⟩:=Old10_atA am (i:=(s2:Int)) (by omega) (by omega)
  replace ab:Sl _ aq (s.getD s2 default).passed:=ab
  have aH:=ab.len_le
  refine s_val (x_ld (v:=.agg #[I ((s.getD s2 default).src),I ((s.getD s2 default).dst),I ((s.getD s2 default).stage),aq]) rfl (ld_ag Ag50 Sz50 (At.mono ax (al.at H)))) ?_;obtain ⟨r2,ay,hM⟩:=M.e_bind hM;refine t_callM H ar rfl rfl (s.getD s2 default) (al.app _) ⟨_,Old10_mk ab,rfl⟩ ay ?_;intro aI H;refine s_nil ?_
  refine W.cond r2 rfl (fun ai=>?_) (fun ai=>?_)
  ·replace hM:=M.e_t hM ai;refine kg 5 ?_;refine W.ret ?_
   have az:=M.e_inr hM ah
   subst az;replace hM:=ao;(try dsimp only at hM)
   have aj:=M.e_pure hM
   exact ⟨_,resE_tmp rfl,⟨(s2:Int),aj,rfl,H⟩⟩
  replace hM:=M.e_f hM ai;refine kg 5 ?_
  exact ⟨av,aw,s2+1,_,upds_of _ _ ⟨rfl,rfl,rfl,rfl,trivial⟩,M.e_inl hM ah,H⟩
 replace hM:=M.e_f hM aa
 replace aa:=dI aa
 refine W.exit ?_
 have aA:=M.e_inr hM ah
 subst aA;replace hM:=ao;(try dsimp only at hM);refine kg 4 ?_;refine W.ret ?_
 have aj:=M.e_pure hM
 exact ⟨_,resE_tmp rfl,⟨(-1),aj,rfl,H⟩⟩

def zcw (s:List Old10) (f:Old10->M Bool):M Bool :=
  M.bind (zbN s f) fun r2 =>
  M.pure (decide (0<=r2))
theorem zdc {R:List Chunk} {ac:Cells} {aa:Value} {ab:Value} (s:List Old10) (f:Old10->M Bool) (ag:Reads R ac) (ah:Sl ac aa s) (ai:FnM Tryz.prog R ab f) {r:Bool} (hM:(zcw s f).Ends r) (w:World) (H:St w w [] R):Ret Tryz.prog 93 #[aa,ab] w fun v w'=>∃ (y0:Bool),y0=r/\v=B y0/\St w w' [] R:=by
 refine ret_of_W Tryz.func93 rfl rfl rfl ?_;refine kg 8 ?_;obtain ⟨al,aj,hM⟩:=M.e_bind hM;refine s_call cf107 [aa,ab] rfl (zcY s f (ag.app _) ah (ai.app _) aj _ (H.gt 0)) ?_
 rintro vq am ⟨r2,rfl,hvq,ae⟩
 subst vq;(try dsimp only at hM);replace H:=H.bk ae;clear ae;refine kg 3 ?_;refine W.ret ?_
 have ak:=M.e_pure hM
 exact ⟨_,resE_tmp rfl,⟨(decide (0<=r2)),ak,rfl,H⟩⟩

def zaH (x:Old10) (aa:Old10->M Bool):M Bool :=
  M.bind (aa x) fun r2 =>
  M.pure (!r2)
theorem zdD {R:List Chunk} {ab:Cells} {aa:Value} {ac:Nat} {ae:Value} (x:Old10) (ag:Old10->M Bool) (ah:Reads R ab) (ai:Sl ab aa x.passed) (aj:FnM Tryz.prog R ae ag) (am:Has R (cBlk ac [ae] 134)) {r:Bool} (hM:(zaH x ag).Ends r) (w:World) (H:St w w [] R):Ret Tryz.prog 94 #[.agg #[I x.src,I x.dst,I x.stage,aa],Pq ac] w fun v w'=>∃ (y0:Bool),y0=r/\v=B y0/\St w w' [] R:=by
 refine ret_of_W Tryz.func94 rfl rfl rfl ?_;refine kg 2 ?_;refine t_bx [I x.src,I x.dst,I x.stage,aa] H rfl ?_;intro ao ap H;refine kg 6 ?_;obtain ⟨r2,ak,hM⟩:=M.e_bind hM;refine t_callM H aj rfl rfl x (ah.app _) ⟨_,Old10_mk ai,rfl⟩ ak ?_;intro aq H;refine kg 3 ?_;refine W.ret ?_
 have al:=M.e_pure hM
 exact ⟨_,resE_tmp rfl,⟨(!r2),al,rfl,(H.pk [])⟩⟩

def zaN (l:List Old10) (so:Old10->M Bool):M Bool :=
  M.bind (zcw l (fun aa=>zaH aa so)) fun r2 =>
  M.pure (!r2)
theorem zcU {R:List Chunk} {ag:Cells} {ab:Value} {aa:Value} (l:List Old10) (so:Old10->M Bool) (ak:Reads R ag) (al:Sl ag ab l) (ah:FnM Tryz.prog R aa so) {r:Bool} (hM:(zaN l so).Ends r) (w:World) (H:St w w [] R):Ret Tryz.prog 69 #[ab,aa] w fun v w'=>∃ (y0:Bool),y0=r/\v=B y0/\St w w' [] R:=by
 refine ret_of_W Tryz.func69 rfl rfl rfl ?_;refine kg 2 ?_;refine t_box (v:=aa) (cs:=[aa]) H rfl (FnM.cells ah) ?_;intro ac aA H;refine kg 5 ?_;refine s_val (x_mf (fs:=[]) (cs:=[Pq ac]) rfl rfl) ?_;obtain ⟨aB,am,hM⟩:=M.e_bind hM;refine s_call cf93 [ab,.func (.func 94) #[] #[Pq ac]] rfl (zdc l (fun ae=>zaH ae so) (ak.app _) al ⟨94,[Pq ac],rfl,cf94,fun ai aC aD ao ae aE ap aq ar au=>by obtain ⟨aF,rfl,av⟩:=Old10_arg ar; exact (zdD ae so aq av (FnM.app (ah.app _) _) (Has.app (Has.here (k:=0) rfl) _) au ai (St.refl ap)).mono fun ao ai ⟨aG,aw,ax,ay⟩=>by subst aw; exact ⟨ax,ay⟩⟩ am _ (H.gt 1)) ?_
 rintro vq aH ⟨r2,rfl,hvq,aj⟩
 subst vq;(try dsimp only at hM);replace H:=H.bk aj;clear aj;refine kg 3 ?_;refine W.ret ?_
 have az:=M.e_pure hM
 exact ⟨_,resE_tmp rfl,⟨(!r2),az,rfl,(H.pk [])⟩⟩

end Go.Proofs.YtpiebomegbbpcaaGreat
end
section
set_option maxRecDepth 100000
set_option maxHeartbeats 16000000
namespace Go.Proofs.YtpiebomegbbpcaaGreat
open Go Go.Nm
attribute [local irreducible] gd execOp SL SLD SLT WR
def zbW (o:Old10):M Bool :=
  M.pure (decide ((o.passed.length:Int)<=10))
theorem zdx {R:List Chunk} {ab:Cells} {aa:Value} (o:Old10) (ag:Reads R ab) (ac:Sl ab aa o.passed) {r:Bool} (hM:(zbW o).Ends r) (w:World) (H:St w w [] R):Ret Tryz.prog 68 #[.agg #[I o.src,I o.dst,I o.stage,aa]] w fun v w'=>∃ (y0:Bool),y0=r/\v=B y0/\St w w' [] R:=by
 refine ret_of_W Tryz.func68 rfl rfl rfl ?_;refine kg 2 ?_;refine t_bx [I o.src,I o.dst,I o.stage,aa] H rfl ?_;intro ah ai H
 have aj:=(ac).len_le
 refine kg 10 ?_;refine W.ret ?_
 have ae:=M.e_pure hM
 exact ⟨_,resE_tmp rfl,⟨(decide ((o.passed.length:Int)<=10)),ae,rfl,(H.pk [])⟩⟩

def zbH (ac:List Yr) (ae:List Old10) (aa ab:Int) (x2:Yr):M Bool :=
  M.bind (zaa x2.year aa ab) fun r2 =>
  M.bind (M.opt r2 (zaa x2.lo 0 x2.hi) false) fun r3 =>
  M.bind (M.opt (r2&&r3) (zaa x2.hi 0 2000) false) fun r4 =>
  M.pure ((r2&&r3)&&r4)
theorem zc8 {R:List Chunk} {ai:Cells} {ae:Value} {aj:Cells} {ag:Value} (ak:List Yr) (al:List Old10) (aa:Int) (ab:Int) (x2:Yr) (av:Reads R ai) (aw:Sl ai ae ak) (ax:Reads R aj) (ay:Sl aj ag al) {r:Bool} (hM:(zbH ak al aa ab x2).Ends r) (w:World) (H:St w w [] R):Ret Tryz.prog 70 #[.agg #[ae,ag,I aa,I ab],.iface 44 (.agg #[I x2.year,I x2.lo,I x2.hi])] w fun v w'=>∃ (y0:Bool),y0=r/\v=B y0/\St w w' [] R:=by
 refine ret_of_W Tryz.func70 rfl rfl rfl ?_;refine kg 2 ?_;refine t_bx [ae,ag,I aa,I ab] H rfl ?_;intro az aA H;refine kg 10 ?_;refine s_val (x_ta0 (z:=.agg #[I 0,I 0]) Tryz.underlying119 (by intro m h_; cases h_) (by decide) Al119 rfl) ?_;refine kg 3 ?_
 refine W.cond false rfl (fun am=>?_) (fun am=>?_)
 ·skip
  exact absurd am (by decide)
 skip
 refine kg 2 ?_;refine s_val (x_ta1 (v:=.agg #[I x2.year,I x2.lo,I x2.hi]) Tryz.underlying44 (by intro m h_; cases h_) rfl) ?_;refine kg 3 ?_
 refine W.cond true rfl (fun ao=>?_) (fun ao=>?_)
 ·skip
  refine kg 2 ?_;refine t_alloc (cs:=[I 0,I 0,I 0]) H Al44 rfl ?_;intro aB aC H;refine t_sw 0 0 [I x2.year,I x2.lo,I x2.hi] (.agg #[I x2.year,I x2.lo,I x2.hi]) H rfl rfl Sz44 rfl rfl rfl rfl ?_;intro aD H;refine kg 9 ?_;obtain ⟨aE,aq,hM⟩:=M.e_bind hM;refine s_call cf28 [I x2.year,I aa,I ab] rfl (zab x2.year aa ab aq _ (H.gt 2)) ?_
  rintro vq aF ⟨r2,rfl,hvq,ap⟩
  subst vq;(try dsimp only at hM);replace H:=H.bk ap;clear ap;refine kg 7 ?_;obtain ⟨r3,ar,hM⟩:=M.e_bind hM;refine t_gcall r2 (gy_t rfl) cf28 (B r3) (fun _=>[I x2.lo,I 0,I x2.hi]) (fun hg=>lst3 (gd_of hg (I x2.lo)) rfl (gd_of hg (I x2.hi))) H (fun hg=>(zab x2.lo 0 x2.hi (M.e_opt ar hg) _ (H.give (A:=[]) rfl)).mono fun v_ w_ ⟨y_,ac,ah,H_⟩=>by subst ac; exact ⟨ah,H.via H_⟩) ?_;intro aG H;refine kg 5 ?_;obtain ⟨r4,au,hM⟩:=M.e_bind hM;refine t_gcall (r2&&r3) (gy_t rfl) cf28 (B r4) (fun _=>[I x2.hi,I 0,I 2000]) (fun hg=>lst3 (gd_of hg (I x2.hi)) rfl rfl) H (fun hg=>(zab x2.hi 0 2000 (M.e_opt au hg) _ (H.give (A:=[]) rfl)).mono fun v_ w_ ⟨y_,ac,ah,H_⟩=>by subst ac; exact ⟨ah,H.via H_⟩) ?_;intro aH H;refine kg 3 ?_;replace H:=H.pk [];refine W.ret ?_
  have ac:=M.e_pure hM
  exact ⟨_,resE_tmp rfl,⟨((r2&&r3)&&r4),ac,rfl,H⟩⟩
 skip
 exact absurd ao (by decide)

def zb7 (ac:List Yr) (ae:List Old10) (aa ab:Int) (x2:Old10):M Bool :=
  M.bind (zaa x2.src aa x2.dst) fun r2 =>
  M.bind (M.opt r2 (zaa x2.dst aa ab) false) fun r3 =>
  M.bind (M.opt (r2&&r3) (zaa x2.stage 1 2000) false) fun r4 =>
  M.bind (M.opt ((r2&&r3)&&r4) (zaz x2.passed x2.src x2.dst) false) fun r5 =>
  M.pure (((r2&&r3)&&r4)&&r5)
theorem zdK {R:List Chunk} {aj:Cells} {ah:Value} {ak:Cells} {ai:Value} {al:Cells} {ab:Value} (am:List Yr) (ao:List Old10) (aa:Int) (ae:Int) (x2:Old10) (aB:Reads R aj) (aC:Sl aj ah am) (aD:Reads R ak) (aE:Sl ak ai ao) (aw:Reads R al) (ap:Sl al ab x2.passed) {r:Bool} (hM:(zb7 am ao aa ae x2).Ends r) (w:World) (H:St w w [] R):Ret Tryz.prog 70 #[.agg #[ah,ai,I aa,I ae],.iface 50 (.agg #[I x2.src,I x2.dst,I x2.stage,ab])] w fun v w'=>∃ (y0:Bool),y0=r/\v=B y0/\St w w' [] R:=by
 refine ret_of_W Tryz.func70 rfl rfl rfl ?_;refine kg 2 ?_;refine t_bx [ah,ai,I aa,I ae] H rfl ?_;intro aF aG H;refine kg 10 ?_;refine s_val (x_ta0 (z:=.agg #[I 0,I 0]) Tryz.underlying119 (by intro m h_; cases h_) (by decide) Al119 rfl) ?_;refine kg 3 ?_
 refine W.cond false rfl (fun aq=>?_) (fun aq=>?_)
 ·skip
  exact absurd aq (by decide)
 skip
 refine kg 2 ?_;refine s_val (x_ta0 (z:=.agg #[I 0,I 0,I 0]) Tryz.underlying44 (by intro m h_; cases h_) (by decide) Al44 rfl) ?_;refine kg 3 ?_
 refine W.cond false rfl (fun ar=>?_) (fun ar=>?_)
 ·skip
  exact absurd ar (by decide)
 skip
 refine kg 2 ?_;refine s_val (x_ta1 (v:=.agg #[I x2.src,I x2.dst,I x2.stage,ab]) Tryz.underlying50 (by intro m h_; cases h_) rfl) ?_;refine kg 3 ?_
 refine W.cond true rfl (fun au=>?_) (fun au=>?_)
 ·skip
  refine kg 2 ?_;refine t_alloc (cs:=[I 0,I 0,I 0,.slice none 0 0]) H Al50 rfl ?_;intro aH aI H;refine t_sw 0 0 [I x2.src,I x2.dst,I x2.stage,ab] (.agg #[I x2.src,I x2.dst,I x2.stage,ab]) H rfl rfl Sz50 rfl rfl rfl (by simp only [List.all_cons,List.all_nil,Bool.true_and,Bool.and_true,Sl.oc ap]; try rfl) ?_;intro aJ H;refine kg 9 ?_;obtain ⟨aK,ax,hM⟩:=M.e_bind hM;refine s_call cf28 [I x2.src,I aa,I x2.dst] rfl (zab x2.src aa x2.dst ax _ (H.gt 2)) ?_
  rintro vq aL ⟨r2,rfl,hvq,av⟩
  subst vq;(try dsimp only at hM);replace H:=H.bk av;clear av;refine kg 7 ?_;obtain ⟨r3,ay,hM⟩:=M.e_bind hM;refine t_gcall r2 (gy_t rfl) cf28 (B r3) (fun _=>[I x2.dst,I aa,I ae]) (fun hg=>lst3 (gd_of hg (I x2.dst)) (gd_of hg (I aa)) (gd_of hg (I ae))) H (fun hg=>(zab x2.dst aa ae (M.e_opt ay hg) _ (H.give (A:=[]) rfl)).mono fun v_ w_ ⟨y_,ac,ag,H_⟩=>by subst ac; exact ⟨ag,H.via H_⟩) ?_;intro aM H;refine kg 4 ?_;obtain ⟨r4,az,hM⟩:=M.e_bind hM;refine t_gcall (r2&&r3) (gy_t rfl) cf28 (B r4) (fun _=>[I x2.stage,I 1,I 2000]) (fun hg=>lst3 (gd_of hg (I x2.stage)) rfl rfl) H (fun hg=>(zab x2.stage 1 2000 (M.e_opt az hg) _ (H.give (A:=[]) rfl)).mono fun v_ w_ ⟨y_,ac,ag,H_⟩=>by subst ac; exact ⟨ag,H.via H_⟩) ?_;intro aN H;refine kg 8 ?_;obtain ⟨r5,aA,hM⟩:=M.e_bind hM;refine t_gcall ((r2&&r3)&&r4) (gy_t rfl) cf50 (B r5) (fun _=>[ab,I x2.src,I x2.dst]) (fun hg=>lst3 (gd_of hg (ab)) (gd_of hg (I x2.src)) (gd_of hg (I x2.dst))) H (fun hg=>(zcQ x2.passed x2.src x2.dst (aw.app _) ap (M.e_opt aA hg) _ (H.give (A:=[]) rfl)).mono fun v_ w_ ⟨y_,ac,ag,H_⟩=>by subst ac; exact ⟨ag,H.via H_⟩) ?_;intro aO H;refine kg 3 ?_;replace H:=H.pk [];refine W.ret ?_
  have ac:=M.e_pure hM
  exact ⟨_,resE_tmp rfl,⟨(((r2&&r3)&&r4)&&r5),ac,rfl,H⟩⟩
 skip
 exact absurd au (by decide)

def za6 (o:Old10) (aa:List Yr) (ab:List Old10) (ac ae:Int):M Bool :=
  M.bind (zb7 aa ab ac ae o) fun r2 =>
  M.pure r2
theorem zds {R:List Chunk} {aj:Cells} {ac:Value} {ak:Nat} {al:Cells} {ae:Value} {am:Cells} {ag:Value} (o:Old10) (ah:List Yr) (ai:List Old10) (aa:Int) (ab:Int) (ap:Reads R aj) (aq:Sl aj ac o.passed) (ar:Reads R al) (au:Sl al ae ah) (av:Reads R am) (aw:Sl am ag ai) (ax:Has R (cBlk ak [ae,ag,I aa,I ab] 48)) {r:Bool} (hM:(za6 o ah ai aa ab).Ends r) (w:World) (H:St w w [] R):Ret Tryz.prog 71 #[.agg #[I o.src,I o.dst,I o.stage,ac],Pq ak] w fun v w'=>∃ (y0:Bool),y0=r/\v=B y0/\St w w' [] R:=by
 refine ret_of_W Tryz.func71 rfl rfl rfl ?_;refine kg 2 ?_;refine t_bx [I o.src,I o.dst,I o.stage,ac] H rfl ?_;intro aA aB H;refine kg 4 ?_;refine s_val (x_ld (v:=.agg #[ae,ag,I aa,I ab]) rfl (ldb_ag (ds:=[ae,ag,I aa,I ab]) Ag48 Sz48 (ax.blk H) rfl rfl)) ?_;refine kg 1 ?_;refine s_val (x_mi (v:=.agg #[I o.src,I o.dst,I o.stage,ac]) Tryz.underlying50 (by intro m h_; cases h_) rfl) ?_;obtain ⟨aC,ay,hM⟩:=M.e_bind hM;refine s_call cf70 [.agg #[ae,ag,I aa,I ab],.iface 50 (.agg #[I o.src,I o.dst,I o.stage,ac])] rfl (zdK ah ai aa ab o (ar.app _) au (av.app _) aw (ap.app _) aq ay _ (H.gt 1)) ?_
 rintro vq aD ⟨r2,rfl,hvq,ao⟩
 subst vq;(try dsimp only at hM);replace H:=H.bk ao;clear ao;refine kg 2 ?_;refine W.ret ?_
 have az:=M.e_pure hM
 exact ⟨_,resE_tmp rfl,⟨r2,az,rfl,(H.pk [])⟩⟩

def zaA (aa:List Yr) (ab:List Old10) (ac ae:Int):Nat->M (Nat ⊕ (Int ⊕ Unit)):=fun s =>
  bif decide ((s:Int)<(aa.length:Int)) then (
  M.grd (decide ((s:Int)<(aa.length:Int))) <|
  M.bind (zbH aa ab ac ae (aa.getD s default)) fun r5 =>
  bif !r5 then (
  M.pure (.inr (.inl 110)))
  else (
  M.grd ((!(decide (0<(s:Int)))||(decide ((-9223372036854775808:Int)<=((s:Int)-1))&&decide (((s:Int)-1)<=(9223372036854775807:Int))))) <|
  M.grd ((!(decide (0<(s:Int)))||(decide ((0:Int)<=((s:Int)-1))&&decide (((s:Int)-1)<(aa.length:Int))))) <|
  bif ((decide (0<(s:Int)))&&(decide (((aa.getD s default).year)<=((aa.getD (Int.toNat ((s:Int)-1)) default).year)))) then (
  M.pure (.inr (.inl 9)))
  else (
  M.pure (.inl (s+1)))))
  else (
  M.pure (.inr (.inr ())))
def zbI (ae:List Yr) (ab:List Old10) (ac aa:Int):M Int :=
  M.bind (zaa ac 0 aa) fun r2 =>
  M.bind (M.opt (!(!r2)) (zaa aa 0 3000) false) fun r3 =>
  M.grd ((!(!((!r2)||(!r3)))||(decide ((-9223372036854775808:Int)<=(aa-ac))&&decide ((aa-ac)<=(9223372036854775807:Int))))) <|
  bif (((!r2)||(!r3))||(decide (1000<=(aa-ac)))) then (
  M.pure 110)
  else (
  M.bind (M.opt (!((decide (60<(ae.length:Int)))||(decide (8<(ab.length:Int))))) (zaN ab (fun ag=>zbW ag)) false) fun r4 =>
  bif (((decide (60<(ae.length:Int)))||(decide (8<(ab.length:Int))))||(!r4)) then (
  M.pure 3)
  else (
  M.bind (M.iter (zaA ae ab ac aa) 0) fun x_=>match x_ with
  | (.inl s2)=>(
  M.pure s2)
  | (.inr (_:Unit))=>(
  M.bind (zaN ab (fun ag=>za6 ag ae ab ac aa)) fun r6 =>
  bif !r6 then (
  M.pure 110)
  else (
  M.pure 0))))
theorem zc9 {R:List Chunk} {aP:Cells} {aj:Value} {aQ:Cells} {ah:Value} (aa:List Yr) (ag:List Old10) (ae:Int) (ab:Int) (aR:Reads R aP) (aq:Sl aP aj aa) (ar:Reads R aQ) (ao:Sl aQ ah ag) {r:Int} (hM:(zbI aa ag ae ab).Ends r) (w:World) (H:St w w [] R):Ret Tryz.prog 55 #[.agg #[aj,ah,I ae,I ab]] w fun v w'=>∃ (y0:Int),y0=r/\v=I y0/\St w w' [] R:=by
 refine ret_of_W Tryz.func55 rfl rfl rfl ?_;refine kg 2 ?_;refine t_bx [aj,ah,I ae,I ab] H rfl ?_;intro am bm H;refine kg 14 ?_;obtain ⟨bn,aU,hM⟩:=M.e_bind hM;refine s_call cf28 [I ae,I 0,I ab] rfl (zab ae 0 ab aU _ (H.gt 1)) ?_
 rintro vq bo ⟨r2,rfl,hvq,ai⟩
 subst vq;(try dsimp only at hM);replace H:=H.bk ai;clear ai;refine kg 4 ?_;obtain ⟨r3,aV,hM⟩:=M.e_bind hM;refine t_gcall (!(!r2)) (gy_f rfl) cf28 (B r3) (fun _=>[I ab,I 0,I 3000]) (fun hg=>lst3 (gd_of hg (I ab)) rfl rfl) H (fun hg=>(zab ab 0 3000 (M.e_opt aV hg) _ (H.give (A:=[]) rfl)).mono fun v_ w_ ⟨y_,ac,av,H_⟩=>by subst ac; exact ⟨av,H.via H_⟩) ?_;intro bp H;obtain ⟨aw,hM⟩:=M.e_grd hM
 replace aw:=M.imp_of aw
 simp only [Bool.and_eq_true,decide_eq_true_eq] at aw
 refine kg 12 ?_
 refine W.cond (((!r2)||(!r3))||(decide (1000<=(ab-ae)))) rfl (fun ax=>?_) (fun ax=>?_)
 ·replace hM:=M.e_t hM ax;refine kg 4 ?_;refine W.ret ?_
  have ac:=M.e_pure hM
  exact ⟨_,resE_tmp rfl,⟨110,ac,rfl,(H.pk [])⟩⟩
 replace hM:=M.e_f hM ax
 have br:=(aq).len_le
 have bt:=(ao).len_le
 refine kg 16 ?_;obtain ⟨r4,aW,hM⟩:=M.e_bind hM;refine t_gcall (!((decide (60<(aa.length:Int)))||(decide (8<(ag.length:Int))))) (gy_f rfl) cf69 (B r4) (fun _=>[ah,.func (.func 68) #[] #[]]) (fun hg=>lst2 (gd_of hg (ah)) (gd_of hg (.func (.func 68) #[] #[]))) H (fun hg=>(zcU ag (fun ak=>zbW ak) (ar.app _) ao ⟨68,[],rfl,cf68,fun ap aX aY ay ak aZ az aA aB aC=>by obtain ⟨a6,rfl,aD⟩:=Old10_arg aB; exact (zdx ak aA aD aC ap (St.refl az)).mono fun ay ap ⟨a7,aE,aF,aG⟩=>by subst aE; exact ⟨aF,aG⟩⟩ (M.e_opt aW hg) _ (H.give (A:=[]) rfl)).mono fun v_ w_ ⟨y_,ac,av,H_⟩=>by subst ac; exact ⟨av,H.via H_⟩) ?_;intro bu H;refine kg 4 ?_
 refine W.cond (((decide (60<(aa.length:Int)))||(decide (8<(ag.length:Int))))||(!r4)) rfl (fun aH=>?_) (fun aH=>?_)
 ·replace hM:=M.e_t hM aH;refine kg 4 ?_;refine W.ret ?_
  have ac:=M.e_pure hM
  exact ⟨_,resE_tmp rfl,⟨3,ac,rfl,(H.pk [])⟩⟩
 replace hM:=M.e_f hM aH
 have bv:=(aq).len_le
 refine kg 10 ?_;obtain ⟨a8,aI,aJ⟩:=M.e_bind hM
 obtain ⟨bw,aI⟩:=M.e_iter aI
 refine W.loop (fun m σ W=>∃ (s:Nat) (ρ:Env),σ=upds ρ [(1,Pq am),(46,aj),(47,I (aa.length:Int)),(48,I (s:Int))]/\M.iterN (zaA aa ag ae ab) m s=some a8/\St w W [cBlk am [aj,ah,I ae,I ab] 48] R) ?_ ?_
 ·exact ⟨_,0,_,upds_of _ _ ⟨rfl,rfl,rfl,rfl,trivial⟩,aI,H⟩
 rintro bx σ bz ⟨s,ρ,rfl,aS,H⟩
 obtain ⟨ba,bb,bA,hM,au⟩:=M.e_iterN aS
 simp only [zaA] at hM
 clear aS;refine kg 5 ?_
 refine W.cond (decide ((s:Int)<(aa.length:Int))) rfl (fun al=>?_) (fun al=>?_)
 ·replace hM:=M.e_t hM al
  replace al:=dI al
  obtain ⟨bB,hM⟩:=M.e_gd hM;refine kg 8 ?_;refine t_alloc (cs:=[I 0,I 0,I 0]) H Al44 rfl ?_;intro bc bC H;refine kg 1 ?_;refine t_sw 0 0 [I ((aa.getD s default).year),I ((aa.getD s default).lo),I ((aa.getD s default).hi)] (.agg #[I ((aa.getD s default).year),I ((aa.getD s default).lo),I ((aa.getD s default).hi)]) H rfl rfl Sz44 rfl rfl rfl rfl ?_;intro bD H;refine kg 6 ?_;refine s_val (x_mi (v:=.agg #[I ((aa.getD s default).year),I ((aa.getD s default).lo),I ((aa.getD s default).hi)]) Tryz.underlying44 (by intro m h_; cases h_) rfl) ?_;obtain ⟨bE,bf,hM⟩:=M.e_bind hM;refine s_call cf70 [.agg #[aj,ah,I ae,I ab],.iface 44 (.agg #[I ((aa.getD s default).year),I ((aa.getD s default).lo),I ((aa.getD s default).hi)])] rfl (zc8 aa ag ae ab (aa.getD s default) (aR.app _) aq (ar.app _) ao bf _ (H.gt 2)) ?_
  rintro vq bF ⟨r5,rfl,hvq,ai⟩
  subst vq;(try dsimp only at hM);replace H:=H.bk ai;clear ai;refine kg 3 ?_
  refine W.cond (!r5) rfl (fun aK=>?_) (fun aK=>?_)
  ·replace hM:=M.e_t hM aK;refine kg 4 ?_;refine W.ret ?_
   have bg:=M.e_inr hM au
   subst bg;replace hM:=aJ;(try dsimp only at hM)
   have ac:=M.e_pure hM
   exact ⟨_,resE_tmp rfl,⟨110,ac,rfl,(H.pk [])⟩⟩
  replace hM:=M.e_f hM aK;refine W.seq ?_;refine W.draw (fun W=>St w W [cBlk bc [I ((aa.getD s default).year),I ((aa.getD s default).lo),I ((aa.getD s default).hi)] 44,cBlk am [aj,ah,I ae,I ab] 48] R) [(0,true),(1,true),(2,true),(3,true),(4,true),(5,true),(6,true),(7,true),(8,true),(9,true),(10,true),(11,true),(12,true),(13,true),(14,true)] mixed (by decide +kernel) rfl ?_;intro bG aT;replace H:=H.ext aT;clear aT
  refine ⟨(H.pk [0,1]),?_⟩
  obtain ⟨aL,hM⟩:=M.e_grd hM
  replace aL:=M.imp_of aL
  simp only [Bool.and_eq_true,decide_eq_true_eq] at aL
  obtain ⟨aM,hM⟩:=M.e_grd hM
  replace aM:=M.imp_of aM
  simp only [Bool.and_eq_true,decide_eq_true_eq] at aM
  refine kg 16 ?_
  refine W.cond ((decide (0<(s:Int)))&&(decide (((aa.getD s default).year)<=((aa.getD (Int.toNat ((s:Int)-1)) default).year)))) rfl (fun aN=>?_) (fun aN=>?_)
  ·replace hM:=M.e_t hM aN;refine kg 4 ?_;refine W.ret ?_
   have bh:=M.e_inr hM au
   subst bh;replace hM:=aJ;(try dsimp only at hM)
   have ac:=M.e_pure hM
   exact ⟨_,resE_tmp rfl,⟨9,ac,rfl,(H.pk [])⟩⟩
  replace hM:=M.e_f hM aN;refine kg 5 ?_
  exact ⟨ba,bb,s+1,_,upds_of _ _ ⟨rfl,rfl,rfl,rfl,trivial⟩,M.e_inl hM au,(H.pk [1])⟩
 replace hM:=M.e_f hM al
 replace al:=dI al
 refine W.exit ?_
 have bi:=M.e_inr hM au
 subst bi;replace hM:=aJ;(try dsimp only at hM);refine kg 5 ?_;refine s_val (x_mf (fs:=[]) (cs:=[Pq am]) rfl rfl) ?_;obtain ⟨bH,bj,hM⟩:=M.e_bind hM;refine s_call cf69 [ah,.func (.func 71) #[] #[Pq am]] rfl (zcU ag (fun ak=>za6 ak aa ag ae ab) (ar.app _) ao ⟨71,[Pq am],rfl,cf71,fun ap aX aY ay ak aZ az aA aB aC=>by obtain ⟨a6,rfl,aD⟩:=Old10_arg aB; exact (zds ak aa ag ae ab aA aD (Reads.app (aR.app _) _) aq (Reads.app (ar.app _) _) ao (Has.app (Has.here (k:=0) rfl) _) aC ap (St.refl az)).mono fun ay ap ⟨a7,aE,aF,aG⟩=>by subst aE; exact ⟨aF,aG⟩⟩ bj _ (H.gt 1)) ?_
 rintro vq bI ⟨r6,rfl,hvq,ai⟩
 subst vq;(try dsimp only at hM);replace H:=H.bk ai;clear ai;refine kg 2 ?_
 refine W.cond (!r6) rfl (fun aO=>?_) (fun aO=>?_)
 ·replace hM:=M.e_t hM aO;refine kg 4 ?_;refine W.ret ?_
  have ac:=M.e_pure hM
  exact ⟨_,resE_tmp rfl,⟨110,ac,rfl,(H.pk [])⟩⟩
 replace hM:=M.e_f hM aO;refine kg 5 ?_;refine W.ret ?_
 have ac:=M.e_pure hM
 exact ⟨_,resE_tmp rfl,⟨0,ac,rfl,(H.pk [])⟩⟩

def zaG (s:List Int) (v:Int):Nat->M (Nat ⊕ (Int ⊕ Unit)):=fun s2 =>
  bif decide ((s2:Int)<(s.length:Int)) then (
  M.grd (decide ((s2:Int)<(s.length:Int))) <|
  bif v==(s.getD s2 0) then (
  M.pure (.inr (.inl (s2:Int))))
  else (
  M.pure (.inl (s2+1))))
  else (
  M.pure (.inr (.inr ())))
def zbE (s:List Int) (v:Int):M Int :=
  M.bind (M.iter (zaG s v) 0) fun x_=>match x_ with
  | (.inl s3)=>(
  M.pure s3)
  | (.inr (_:Unit))=>(
  M.pure (-1))
theorem zdn {R:List Chunk} {ai:Cells} {ac:Value} (s:List Int) (v:Int) (au:Reads R ai) (al:Sl ai ac s) {r:Int} (hM:(zbE s v).Ends r) (w:World) (H:St w w [] R):Ret Tryz.prog 72 #[ac,I v] w fun v w'=>∃ (y0:Int),y0=r/\v=I y0/\St w w' [] R:=by
 refine ret_of_W Tryz.func72 rfl rfl rfl ?_
 have av:=(al).len_le
 refine kg 12 ?_;obtain ⟨am,ae,aj⟩:=M.e_bind hM
 obtain ⟨aw,ae⟩:=M.e_iter ae
 refine W.loop (fun m σ W=>∃ (s2:Nat) (ρ:Env),σ=upds ρ [(0,ac),(1,I v),(7,I (s.length:Int)),(8,I (s2:Int))]/\M.iterN (zaG s v) m s2=some am/\St w W [] R) ?_ ?_
 ·exact ⟨_,0,_,upds_of _ _ ⟨rfl,rfl,rfl,rfl,trivial⟩,ae,H⟩
 rintro ax σ ay ⟨s2,ρ,rfl,ak,H⟩
 obtain ⟨ao,ap,az,hM,ag⟩:=M.e_iterN ak
 simp only [zaG] at hM
 clear ak;refine kg 5 ?_
 refine W.cond (decide ((s2:Int)<(s.length:Int))) rfl (fun aa=>?_) (fun aa=>?_)
 ·replace hM:=M.e_t hM aa
  replace aa:=dI aa
  obtain ⟨aA,hM⟩:=M.e_gd hM;refine kg 17 ?_
  refine W.cond (v==(s.getD s2 0)) rfl (fun ab=>?_) (fun ab=>?_)
  ·replace hM:=M.e_t hM ab
   replace ab:=dI ab
   refine kg 5 ?_;refine W.ret ?_
   have aq:=M.e_inr hM ag
   subst aq;replace hM:=aj;(try dsimp only at hM)
   have ah:=M.e_pure hM
   exact ⟨_,resE_tmp rfl,⟨(s2:Int),ah,rfl,H⟩⟩
  replace hM:=M.e_f hM ab
  replace ab:=dI ab
  refine kg 5 ?_
  exact ⟨ao,ap,s2+1,_,upds_of _ _ ⟨rfl,rfl,rfl,rfl,trivial⟩,M.e_inl hM ag,H⟩
 replace hM:=M.e_f hM aa
 replace aa:=dI aa
 refine W.exit ?_
 have ar:=M.e_inr hM ag
 subst ar;replace hM:=aj;(try dsimp only at hM);refine kg 4 ?_;refine W.ret ?_
 have ah:=M.e_pure hM
 exact ⟨_,resE_tmp rfl,⟨(-1),ah,rfl,H⟩⟩

def zbj (s:List Int) (v:Int):M Bool :=
  M.bind (zbE s v) fun r2 =>
  M.pure (decide (0<=r2))
theorem zdl {R:List Chunk} {ab:Cells} {aa:Value} (s:List Int) (v:Int) (ae:Reads R ab) (ag:Sl ab aa s) {r:Bool} (hM:(zbj s v).Ends r) (w:World) (H:St w w [] R):Ret Tryz.prog 56 #[aa,I v] w fun v w'=>∃ (y0:Bool),y0=r/\v=B y0/\St w w' [] R:=by
 refine ret_of_W Tryz.func56 rfl rfl rfl ?_;refine kg 8 ?_;obtain ⟨aj,ah,hM⟩:=M.e_bind hM;refine s_call cf72 [aa,I v] rfl (zdn s v (ae.app _) ag ah _ (H.gt 0)) ?_
 rintro vq ak ⟨r2,rfl,hvq,ac⟩
 subst vq;(try dsimp only at hM);replace H:=H.bk ac;clear ac;refine kg 3 ?_;refine W.ret ?_
 have ai:=M.e_pure hM
 exact ⟨_,resE_tmp rfl,⟨(decide (0<=r2)),ai,rfl,H⟩⟩

def zaw (aa:Int):((List (Int × Span)) × Int)->M (((List (Int × Span)) × Int) ⊕ (List (Int × Span))):=fun (mp,year) =>
  bif decide (year<=aa) then (
  M.grd (decide ((-9223372036854775808:Int)<=(year+1))&&decide ((year+1)<=(9223372036854775807:Int))) <|
  M.pure (.inl (setM mp (year:Int) (⟨(0:Int),(2000:Int)⟩:Span),year+1)))
  else (
  M.pure (.inr mp))
def zav (aa:List Yr):((List (Int × Span)) × Nat)->M (((List (Int × Span)) × Nat) ⊕ (List (Int × Span))):=fun (ab,s) =>
  bif decide ((s:Int)<(aa.length:Int)) then (
  M.grd (decide ((s:Int)<(aa.length:Int))) <|
  bif !(decide ((aa.getD s default)=(⟨((aa.getD s default).year:Int),(((lookM ab ((aa.getD s default).year:Int)).getD default).lo:Int),(((lookM ab ((aa.getD s default).year:Int)).getD default).hi:Int)⟩:Yr))) then (
  M.pure (.inl (setM ab ((aa.getD s default).year:Int) (⟨((aa.getD s default).lo:Int),((aa.getD s default).hi:Int)⟩:Span),s+1)))
  else (
  M.pure (.inl (ab,s+1))))
  else (
  M.pure (.inr ab))
def za3 (aa:List Old10) (ky:Int):(Nat × Int × Int)->M ((Nat × Int × Int) ⊕ (Int × Int)):=fun (s2,s3,s4) =>
  bif decide ((s2:Int)<(aa.length:Int)) then (
  M.grd (decide ((s2:Int)<(aa.length:Int))) <|
  M.bind (zaa ky ((aa.getD s2 default).src) ((aa.getD s2 default).dst)) fun r3 =>
  bif !r3 then (
  M.pure (.inl (s2+1,s3,s4)))
  else (
  M.bind (zbj ((aa.getD s2 default).passed) ky) fun r4 =>
  bif r4 then (
  M.pure (.inl (s2+1,max s3 ((aa.getD s2 default).stage),s4)))
  else (
  M.grd (decide ((-9223372036854775808:Int)<=(((aa.getD s2 default).stage)-1))&&decide ((((aa.getD s2 default).stage)-1)<=(9223372036854775807:Int))) <|
  M.pure (.inl (s2+1,s3,min s4 (((aa.getD s2 default).stage)-1))))))
  else (
  M.pure (.inr (s3,s4)))
def za2 (aa:List Old10) (ky:Int) (vl:Span):M Span :=
  M.bind (M.iter (za3 aa ky) (0,(vl).lo,(vl).hi)) fun (s5,s6) =>
  M.pure (⟨(s5:Int),(s6:Int)⟩:Span)
def zak (ac:List Yr) (ae:List Old10) (aa ab:Int):M (Int ⊕ (Int × Int × (List (Int × Span)) × Int)) :=
  M.bind (zbI ac ae aa ab) fun r2 =>
  bif r2 != 0 then (
  M.pure (.inl r2))
  else (
  M.bind (M.iter (zaw ab) (([]:List (Int × Span)),aa)) fun ag =>
  M.bind (M.iter (zav ac) (ag,0)) fun ah =>
  M.bind (M.mapL (za2 ae) ah) fun mq =>
  M.pure (.inr (aa,ab,mq,0)))
theorem zcj {R:List Chunk} {aS:Cells} {ae:Value} {aT:Cells} {ag:Value} (aa:List Yr) (ai:List Old10) (ac:Int) (ab:Int) (bg:Reads R aS) (aU:Sl aS ae aa) (aD:Reads R aT) (aE:Sl aT ag ai) {r:(Int ⊕ (Int × Int × (List (Int × Span)) × Int))} (hM:(zak aa ai ac ab).Ends r) (w:World) (H:St w w [] R):Ret Tryz.prog 25 #[.agg #[ae,ag,I ac,I ab]] w fun v w'=>(∃ (y0:Int),(.inl y0)=r/\v = .tuple #[.pointer none,I y0]/\St w w' [] R)∨(∃ (y0:Int) (y1:Int) (y2:List (Int × Span)) (y3:Int) (aV:Nat) (aW:Nat),(.inr (y0,y1,y2,y3))=r/\v = .tuple #[Pq aV,I y3]/\St w w' [cBlk aV [ae,ag,I y0,I y1,.map (some aW)] 108,cMl I encSp aW y2] R):=by
 refine ret_of_W Tryz.func25 rfl rfl rfl ?_;refine kg 2 ?_;refine t_bx [ae,ag,I ac,I ab] H rfl ?_;intro al bF H;refine kg 7 ?_;obtain ⟨bG,bh,hM⟩:=M.e_bind hM;refine s_call cf55 [.agg #[ae,ag,I ac,I ab]] rfl (zc9 aa ai ac ab (bg.app _) aU (aD.app _) aE bh _ (H.gt 1)) ?_
 rintro vq bH ⟨r2,rfl,hvq,am⟩
 subst vq;(try dsimp only at hM);replace H:=H.bk am;clear am;refine kg 7 ?_
 refine W.cond (r2 != 0) rfl (fun aq=>?_) (fun aq=>?_)
 ·replace hM:=M.e_t hM aq
  replace aq:=dI aq
  refine kg 6 ?_;refine W.ret ?_
  have aF:=M.e_pure hM
  exact ⟨_,resE_tmp2 rfl,.inl (⟨r2,aF,rfl,(H.pk [])⟩)⟩
 replace hM:=M.e_f hM aq
 replace aq:=dI aq
 refine kg 4 ?_;refine t_mkMl (κ:=Int) (ν:=Span) I encSp H ?_;intro aj bI H;refine s_val (x_bld (ps:=[(0,.agg #[ae,ag,I ac,I ab]),(1,.map (some aj))]) (zs:=[.slice none 0 0,.slice none 0 0,I 0,I 0,.map none]) (L':=[ae,ag,I ac,I ab,.map (some aj)]) rfl Tryz.underlying108 Al108 rfl (Bd108 Tryz.underlying108) (.cons (cs:=[ae,ag,I ac,I ab]) rfl rfl rfl rfl rfl<|.cons (cs:=[.map (some aj)]) rfl rfl rfl rfl rfl<|.nil)) ?_;refine t_bx [ae,ag,I ac,I ab,.map (some aj)] H rfl ?_;intro ak bJ H;refine kg 10 ?_;obtain ⟨bi,aG,bj⟩:=M.e_bind hM
 obtain ⟨aX,aG⟩:=M.e_iter aG
 refine W.loop (fun m σ W=>∃ (mp:List (Int × Span)) (year:Int) (ρ:Env),σ=upds ρ [(1,Pq al),(5,Pq ak),(6,I year)]/\M.iterN (zaw ab) m (mp,year)=some bi/\St w W [cBlk ak [ae,ag,I ac,I ab,.map (some aj)] 108,cMl I encSp aj mp,cBlk al [ae,ag,I ac,I ab] 48] R) ?_ ?_
 ·exact ⟨_,([]:List (Int × Span)),ac,_,upds_of _ _ ⟨rfl,rfl,rfl,trivial⟩,aG,H⟩
 rintro bK σ bL ⟨mp,year,ρ,rfl,aY,H⟩
 obtain ⟨bm,bn,bM,hM,aZ⟩:=M.e_iterN aY
 simp only [zaw] at hM
 clear aY;refine kg 8 ?_
 refine W.cond (decide (year<=ab)) rfl (fun ar=>?_) (fun ar=>?_)
 ·replace hM:=M.e_t hM ar
  replace ar:=dI ar
  refine kg 9 ?_;refine s_val (x_bld (ps:=[(1,I 2000)]) (zs:=[I 0,I 0]) (L':=[I 0,I 2000]) rfl Tryz.underlying41 Al41 rfl (Bd41 Tryz.underlying41) (.cons (cs:=[I 2000]) rfl rfl rfl rfl rfl<|.nil)) ?_;refine t_putMl (i:=1) (kenc:=I) (venc:=encSp) (m:=mp) (k:=(year:Int)) (v:=(⟨(0:Int),(2000:Int)⟩:Span)) (L':=[cBlk ak [ae,ag,I ac,I ab,.map (some aj)] 108,cMl I encSp aj (setM mp (year:Int) (⟨(0:Int),(2000:Int)⟩:Span)),cBlk al [ae,ag,I ac,I ab] 48]) keyIntSp Tryz.underlying106 H rfl rfl rfl rfl rfl ?_;intro bN H;obtain ⟨bO,hM⟩:=M.e_gd hM;refine kg 6 ?_
  exact ⟨bm,bn,setM mp (year:Int) (⟨(0:Int),(2000:Int)⟩:Span),year+1,_,upds_of _ _ ⟨rfl,rfl,rfl,trivial⟩,M.e_inl hM aZ,H⟩
 replace hM:=M.e_f hM ar
 replace ar:=dI ar
 refine W.exit ?_
 have bo:=M.e_inr hM aZ
 subst bo;replace hM:=bj;(try dsimp only at hM)
 have bP:=(aU).len_le
 refine kg 9 ?_;obtain ⟨bp,aH,br⟩:=M.e_bind hM
 obtain ⟨aX,aH⟩:=M.e_iter aH
 refine W.loop (fun m σ W=>∃ (ah:List (Int × Span)) (s:Nat) (ρ:Env),σ=upds ρ [(1,Pq al),(5,Pq ak),(38,ae),(39,I (aa.length:Int)),(40,I (s:Int))]/\M.iterN (zav aa) m (ah,s)=some bp/\St w W [cBlk ak [ae,ag,I ac,I ab,.map (some aj)] 108,cMl I encSp aj ah,cBlk al [ae,ag,I ac,I ab] 48] R) ?_ ?_
 ·exact ⟨_,mp,0,_,upds_of _ _ ⟨rfl,rfl,rfl,rfl,rfl,trivial⟩,aH,H⟩
 rintro bQ σ bR ⟨ah,s,ρ,rfl,a6,H⟩
 obtain ⟨a7,a8,bS,hM,aI⟩:=M.e_iterN a6
 simp only [zav] at hM
 clear a6;refine kg 5 ?_
 refine W.cond (decide ((s:Int)<(aa.length:Int))) rfl (fun au=>?_) (fun au=>?_)
 ·replace hM:=M.e_t hM au
  replace au:=dI au
  obtain ⟨bT,hM⟩:=M.e_gd hM;refine kg 7 ?_;refine t_alloc (cs:=[I 0,I 0,I 0]) H Al44 rfl ?_;intro aJ bU H;refine t_sw 0 0 [I ((aa.getD s default).year),I ((aa.getD s default).lo),I ((aa.getD s default).hi)] (.agg #[I ((aa.getD s default).year),I ((aa.getD s default).lo),I ((aa.getD s default).hi)]) H rfl rfl Sz44 rfl rfl rfl rfl ?_;intro bV H;refine kg 2 ?_;refine W.draw (fun W=>St w W [cBlk aJ [I ((aa.getD s default).year),I ((aa.getD s default).lo),I ((aa.getD s default).hi)] 44,cBlk ak [ae,ag,I ac,I ab,.map (some aj)] 108,cMl I encSp aj ah,cBlk al [ae,ag,I ac,I ab] 48] R) [(0,true),(1,true),(2,true),(3,true),(4,true),(5,true),(6,true),(7,true),(8,true),(9,true),(10,false),(11,false)] mixed (by decide +kernel) rfl ?_;intro bW ao;replace H:=H.ext ao;clear ao
  refine ⟨(H.pk [0,1,2,3]),?_⟩
  refine kg 8 ?_;refine d_q rfl (fun w' H=>q_look (kenc:=I) (venc:=encSp) (f:=lookM ah) (k:=((aa.getD s default).year:Int)) (v:=.agg #[I (((lookM ah ((aa.getD s default).year:Int)).getD default).lo),I (((lookM ah ((aa.getD s default).year:Int)).getD default).hi)]) keyIntSp Tryz.underlying106 Al41 rfl rfl (mlMap (H.get (k:=2) rfl)) false (by rw [if_neg (by decide),span_val]))<|d_q rfl (fun w' H=>x_bld (ps:=[(0,I ((aa.getD s default).year)),(1,.agg #[I (((lookM ah ((aa.getD s default).year:Int)).getD default).lo),I (((lookM ah ((aa.getD s default).year:Int)).getD default).hi)])]) (zs:=[I 0,I 0,I 0]) (L':=[I ((aa.getD s default).year),I (((lookM ah ((aa.getD s default).year:Int)).getD default).lo),I (((lookM ah ((aa.getD s default).year:Int)).getD default).hi)]) rfl Tryz.underlying44 Al44 rfl (Bd44 Tryz.underlying44) (.cons (cs:=[I ((aa.getD s default).year)]) rfl rfl rfl rfl rfl<|.cons (cs:=[I (((lookM ah ((aa.getD s default).year:Int)).getD default).lo),I (((lookM ah ((aa.getD s default).year:Int)).getD default).hi)]) rfl rfl rfl rfl rfl<|.nil))<|d_l rfl ?_;refine t_alloc (cs:=[I 0,I 0,I 0]) H Al44 rfl ?_;intro ba bX H
  refine s_nil ⟨(H.pk [1,2,3,4]),?_⟩
  refine d_l rfl ?_;refine t_sw 0 0 [I ((aa.getD s default).year),I (((lookM ah ((aa.getD s default).year:Int)).getD default).lo),I (((lookM ah ((aa.getD s default).year:Int)).getD default).hi)] (.agg #[I ((aa.getD s default).year),I (((lookM ah ((aa.getD s default).year:Int)).getD default).lo),I (((lookM ah ((aa.getD s default).year:Int)).getD default).hi)]) H rfl rfl Sz44 rfl rfl rfl rfl ?_;intro bY H
  refine s_nil ⟨(H.pk [1,2,3,4]),?_⟩
  refine kg 5 ?_;refine s_val (x_neS (eqT44 (aa.getD s default) (⟨((aa.getD s default).year:Int),(((lookM ah ((aa.getD s default).year:Int)).getD default).lo:Int),(((lookM ah ((aa.getD s default).year:Int)).getD default).hi:Int)⟩:Yr) _) gdT44 rfl rfl)<|s_nil ?_
  refine W.cond (!(decide ((aa.getD s default)=(⟨((aa.getD s default).year:Int),(((lookM ah ((aa.getD s default).year:Int)).getD default).lo:Int),(((lookM ah ((aa.getD s default).year:Int)).getD default).hi:Int)⟩:Yr)))) rfl (fun aK=>?_) (fun aK=>?_)
  ·replace hM:=M.e_t hM aK;refine W.draw (fun W=>St w W [cBlk ba [I ((aa.getD s default).year),I (((lookM ah ((aa.getD s default).year:Int)).getD default).lo),I (((lookM ah ((aa.getD s default).year:Int)).getD default).hi)] 44,cBlk aJ [I ((aa.getD s default).year),I ((aa.getD s default).lo),I ((aa.getD s default).hi)] 44,cBlk ak [ae,ag,I ac,I ab,.map (some aj)] 108,cBlk al [ae,ag,I ac,I ab] 48] R) [(0,true),(1,true),(2,true),(3,true),(4,true),(5,true),(6,true),(7,true),(8,false)] mixed (by decide +kernel) rfl ?_;intro bZ ao;replace H:=H.ext ao;clear ao
   refine ⟨(H.pk [0,1,2,4]),?_⟩
   refine kg 8 ?_;refine d_l rfl ?_;refine t_putMl (i:=3) (kenc:=I) (venc:=encSp) (m:=ah) (k:=((aa.getD s default).year:Int)) (v:=(⟨((aa.getD s default).lo:Int),((aa.getD s default).hi:Int)⟩:Span)) (L':=[cBlk ba [I ((aa.getD s default).year),I (((lookM ah ((aa.getD s default).year:Int)).getD default).lo),I (((lookM ah ((aa.getD s default).year:Int)).getD default).hi)] 44,cBlk aJ [I ((aa.getD s default).year),I ((aa.getD s default).lo),I ((aa.getD s default).hi)] 44,cBlk ak [ae,ag,I ac,I ab,.map (some aj)] 108,cMl I encSp aj (setM ah ((aa.getD s default).year:Int) (⟨((aa.getD s default).lo:Int),((aa.getD s default).hi:Int)⟩:Span)),cBlk al [ae,ag,I ac,I ab] 48]) keyIntSp Tryz.underlying106 H rfl rfl rfl rfl rfl ?_;intro b3 H
   refine s_nil ⟨(H.pk [0,1,2,4]),?_⟩
   refine d_nil ?_;replace H:=H.pk [2,3,4];refine kg 4 ?_
   exact ⟨a7,a8,setM ah ((aa.getD s default).year:Int) (⟨((aa.getD s default).lo:Int),((aa.getD s default).hi:Int)⟩:Span),s+1,_,upds_of _ _ ⟨rfl,rfl,rfl,rfl,rfl,trivial⟩,M.e_inl hM aI,H⟩
  replace hM:=M.e_f hM aK;refine W.skip ?_;replace H:=H.pk [2,3,4];refine kg 4 ?_
  exact ⟨a7,a8,ah,s+1,_,upds_of _ _ ⟨rfl,rfl,rfl,rfl,rfl,trivial⟩,M.e_inl hM aI,H⟩
 replace hM:=M.e_f hM au
 replace au:=dI au
 refine W.exit ?_
 have bt:=M.e_inr hM aI
 subst bt;replace hM:=br;(try dsimp only at hM);refine kg 7 ?_;refine t_range (i:=1) (kenc:=I) (venc:=encSp) Tryz.underlying106 H rfl rfl ?_;intro ax b4 H;replace H:=H.nf;refine kg 2 ?_;obtain ⟨mq,bb,hM⟩:=M.e_bind hM;refine W.loop (fun c_ σ W=>∃ (ap:List (Int × Span)) (aw:List Bool) (bc:Option Nat) (ρ:Env),σ=upds ρ [(1,Pq al),(5,Pq ak),(70,Pq ax)]/\c_=aw.count true/\ItR ah mq ap aw/\St w W [cBlk ak [ae,ag,I ac,I ab,.map (some aj)] 108,cIt I encSp aj ax ap aw bc,cBlk al [ae,ag,I ac,I ab] 48] R) ?_ ?_
 ·exact ⟨_,_,_,_,_,upds_of _ _ ⟨rfl,rfl,rfl,trivial⟩,rfl,ItR.init bb,H⟩
 rintro c_ σ bu ⟨ap,aw,bc,ρ,rfl,rfl,aL,H⟩
 refine kg 2 ?_
 refine t_next (i:=1) H rfl rfl (fun bv=>?_) (fun j_ ky vl b5 aM aA H=>?_)
 ·refine kg 3 ?_
  refine W.cond false rfl (fun h_=>absurd h_ (by decide)) (fun _=>?_)
  refine W.exit ?_
  obtain rfl:=aL.fin bv
  replace H:St w bu [cBlk ak [ae,ag,I ac,I ab,.map (some aj)] 108,cMl I encSp aj ap,cBlk al [ae,ag,I ac,I ab] 48] R:=H.itEnd (i:=1) rfl rfl
  refine kg 6 ?_;refine W.ret ?_
  have aF:=M.e_pure hM
  exact ⟨_,resE_tmp2 rfl,.inr (⟨ac,ab,ap,0,ak,aj,aF,rfl,(H.pk [0,1])⟩)⟩
 refine kg 3 ?_
 refine W.cond true rfl (fun _=>?_) (fun h_=>absurd h_ (by decide))
 refine W.skip ?_
 obtain ⟨b6,hM,bw⟩:=aL.at_ bb aM aA
 simp only [za2] at hM
 replace H:=H.nf;refine kg 3 ?_;refine s_val (x_entry (v:=vl) (H.get (k:=1) rfl) aA rfl) ?_;refine kg 2 ?_;refine t_alloc (cs:=[I 0,I 0]) H Al41 rfl ?_;intro aB b7 H;refine kg 1 ?_;refine t_sw 0 0 [I ((vl).lo),I ((vl).hi)] (.agg #[I ((vl).lo),I ((vl).hi)]) H rfl rfl Sz41 rfl rfl rfl rfl ?_;intro b8 H
 have b9:=(aE).len_le
 refine kg 10 ?_;obtain ⟨bx,aN,bz⟩:=M.e_bind hM
 obtain ⟨aX,aN⟩:=M.e_iter aN
 refine W.loop (fun m σ W=>∃ (s2:Nat) (s3:Int) (s4:Int) (ρ:Env),σ=upds ρ [(1,Pq al),(5,Pq ak),(10,I ky),(11,Pq aB),(70,Pq ax),(77,ag),(78,I (ai.length:Int)),(79,I (s2:Int))]/\M.iterN (za3 ai ky) m (s2,s3,s4)=some bx/\St w W [cBlk aB [I s3,I s4] 41,cBlk ak [ae,ag,I ac,I ab,.map (some aj)] 108,cIt I encSp aj ax ap (aw.set j_ false) (some j_),cBlk al [ae,ag,I ac,I ab] 48] R) ?_ ?_
 ·exact ⟨_,0,(vl).lo,(vl).hi,_,upds_of _ _ ⟨rfl,rfl,rfl,rfl,rfl,rfl,rfl,rfl,trivial⟩,aN,H⟩
 rintro cb σ cc ⟨s2,s3,s4,ρ,rfl,bf,H⟩
 obtain ⟨aO,aP,cd,hM,aC⟩:=M.e_iterN bf
 simp only [za3] at hM
 clear bf;refine kg 5 ?_
 refine W.cond (decide ((s2:Int)<(ai.length:Int))) rfl (fun av=>?_) (fun av=>?_)
 ·replace hM:=M.e_t hM av
  replace av:=dI av
  obtain ⟨ce,hM⟩:=M.e_gd hM;refine kg 6 ?_
  obtain ⟨ay,bA,az⟩:=Old10_atA aE (i:=(s2:Int)) (by omega) (by omega)
  replace az:Sl _ ay (ai.getD s2 default).passed:=az
  have cf:=az.len_le
  refine s_val (x_ld (v:=.agg #[I ((ai.getD s2 default).src),I ((ai.getD s2 default).dst),I ((ai.getD s2 default).stage),ay]) rfl (ld_ag Ag50 Sz50 (At.mono bA (aD.at H)))) ?_;refine t_alloc (cs:=[I 0,I 0,I 0,.slice none 0 0]) H Al50 rfl ?_;intro cg ch H;refine t_sw 0 0 [I ((ai.getD s2 default).src),I ((ai.getD s2 default).dst),I ((ai.getD s2 default).stage),ay] (.agg #[I ((ai.getD s2 default).src),I ((ai.getD s2 default).dst),I ((ai.getD s2 default).stage),ay]) H rfl rfl Sz50 rfl rfl rfl (by simp only [List.all_cons,List.all_nil,Bool.true_and,Bool.and_true,Sl.oc az]; try rfl) ?_;intro ci H;refine kg 9 ?_;obtain ⟨cj,bB,hM⟩:=M.e_bind hM;refine s_call cf28 [I ky,I ((ai.getD s2 default).src),I ((ai.getD s2 default).dst)] rfl (zab ky ((ai.getD s2 default).src) ((ai.getD s2 default).dst) bB _ (H.gt 5)) ?_
  rintro vq ck ⟨r3,rfl,hvq,am⟩
  subst vq;(try dsimp only at hM);replace H:=H.bk am;clear am;refine kg 3 ?_
  refine W.cond (!r3) rfl (fun aQ=>?_) (fun aQ=>?_)
  ·replace hM:=M.e_t hM aQ;refine W.exit ?_;refine kg 4 ?_
   exact ⟨aO,aP,s2+1,s3,s4,_,upds_of _ _ ⟨rfl,rfl,rfl,rfl,rfl,rfl,rfl,rfl,trivial⟩,M.e_inl hM aC,(H.pk [1,2,3,4])⟩
  replace hM:=M.e_f hM aQ;refine kg 5 ?_;obtain ⟨cl,bC,hM⟩:=M.e_bind hM;refine s_call cf56 [ay,I ky] rfl (zdl ((ai.getD s2 default).passed) ky (aD.app _) az bC _ (H.gt 5)) ?_
  rintro vq cn ⟨r4,rfl,hvq,am⟩
  subst vq;(try dsimp only at hM);replace H:=H.bk am;clear am;refine kg 2 ?_
  refine W.cond r4 rfl (fun aR=>?_) (fun aR=>?_)
  ·replace hM:=M.e_t hM aR;refine kg 7 ?_;refine t_sw 1 0 [I (max s3 ((ai.getD s2 default).stage))] (I (max s3 ((ai.getD s2 default).stage))) H rfl rfl Sz3 rfl rfl rfl rfl ?_;intro co H;refine kg 5 ?_
   exact ⟨aO,aP,s2+1,max s3 ((ai.getD s2 default).stage),s4,_,upds_of _ _ ⟨rfl,rfl,rfl,rfl,rfl,rfl,rfl,rfl,trivial⟩,M.e_inl hM aC,(H.pk [1,2,3,4])⟩
  replace hM:=M.e_f hM aR;obtain ⟨cp,hM⟩:=M.e_gd hM;refine kg 8 ?_;refine t_sw 1 1 [I (min s4 (((ai.getD s2 default).stage)-1))] (I (min s4 (((ai.getD s2 default).stage)-1))) H rfl rfl Sz3 rfl rfl rfl rfl ?_;intro cq H;refine kg 5 ?_
  exact ⟨aO,aP,s2+1,s3,min s4 (((ai.getD s2 default).stage)-1),_,upds_of _ _ ⟨rfl,rfl,rfl,rfl,rfl,rfl,rfl,rfl,trivial⟩,M.e_inl hM aC,(H.pk [1,2,3,4])⟩
 replace hM:=M.e_f hM av
 replace av:=dI av
 refine W.exit ?_
 have bD:=M.e_inr hM aC
 subst bD;replace hM:=bz;(try dsimp only at hM);refine W.draw (fun W=>St w W [cBlk aB [I s3,I s4] 41,cBlk ak [ae,ag,I ac,I ab,.map (some aj)] 108,cBlk al [ae,ag,I ac,I ab] 48] R) [(0,true),(1,true),(2,true),(3,true),(4,true),(5,true),(6,false)] mixed (by decide +kernel) rfl ?_;intro cr ao;replace H:=H.ext ao;clear ao
 refine ⟨(H.pk [0,1,3]),?_⟩
 refine kg 6 ?_;refine d_l rfl ?_;refine t_putIt (i:=2) (j:=j_) (kenc:=I) (venc:=encSp) (m:=ap) (k:=ky) (v:=(⟨(s3:Int),(s4:Int)⟩:Span)) (L':=[cBlk aB [I s3,I s4] 41,cBlk ak [ae,ag,I ac,I ab,.map (some aj)] 108,cIt I encSp aj ax (ap.set j_ (ky,(⟨(s3:Int),(s4:Int)⟩:Span))) (aw.set j_ false) (some j_),cBlk al [ae,ag,I ac,I ab] 48]) keyIntSp Tryz.underlying106 H rfl rfl aA rfl rfl rfl ?_;intro ct H
 refine s_nil ⟨(H.pk [0,1,3]),?_⟩
 refine d_nil ?_
 have bE:=M.e_pure hM
 subst bE
 exact ⟨_,ItR.less aM,_,_,_,_,upds_of _ _ ⟨rfl,rfl,rfl,trivial⟩,rfl,aL.step aM aA bw,(H.pk [1,2,3])⟩

def zaj (ac:List Yr) (ae:List Old10) (ag ah:Int) (ai:List (Int × Span)) (aa ab:Int):M (Int × Int) :=
  M.pure (aa,ab)
theorem zbe {R:List Chunk} {aa:Nat} {ae:Cells} {ag:Value} {ah:Cells} {ai:Value} {aj:Nat} (ak:List Yr) (al:List Old10) (am:Int) (ao:Int) (ap:List (Int × Span)) (ab:Int) (ac:Int) (az:Reads R ae) (aA:Sl ae ag ak) (aB:Reads R ah) (aC:Sl ah ai al) (aD:Has R (cMl I encSp aj ap)) (aE:Has R (cBlk aa [ag,ai,I am,I ao,.map (some aj)] 108)) {r:(Int × Int)} (hM:(zaj ak al am ao ap ab ac).Ends r) (w:World) (H:St w w [] R):Ret Tryz.prog 29 #[Pq aa,I ab,I ac] w fun v w'=>∃ (y0:Int) (y1:Int) (aq:Nat) (ar:Nat) (au:Nat),(y0,y1)=r/\v = .func (.func 59) #[] #[Pq aq,Pq ar,Pq au]/\St w w' [cBlk aq [I y0] 3,cBlk ar [I y1] 3,cBlk au [Pq aa] 87] R:=by
 refine ret_of_W Tryz.func29 rfl rfl rfl ?_;refine kg 2 ?_;refine t_b1 (Pq aa) H rfl rfl ?_;intro av aF H;refine t_b1 (I ab) H rfl rfl ?_;intro aw aG H;refine t_b1 (I ac) H rfl rfl ?_;intro ax aH H;refine kg 4 ?_;refine s_val (x_mf (fs:=[]) (cs:=[Pq aw,Pq ax,Pq av]) rfl rfl) ?_;refine kg 2 ?_;refine W.ret ?_
 have ay:=M.e_pure hM
 exact ⟨_,resE_tmp rfl,⟨ab,ac,aw,ax,av,ay,rfl,(H.pk [1,0,2])⟩⟩

def za8 {T_:Type} (aa:T_->(Int × Span)->M (Bool × T_)) (ab:Int) (ac:List (Int × Span)):(Int × T_)->M ((Int × T_) ⊕ (T_ ⊕ T_)):=fun (year,t2) =>
  bif decide (year<=ab) then (
  M.bind (aa t2 (year,((lookM ac (year:Int)).getD default))) fun (go,t) =>
  bif !go then (
  M.pure (.inr (.inl t)))
  else (
  M.grd (decide ((-9223372036854775808:Int)<=(year+1))&&decide ((year+1)<=(9223372036854775807:Int))) <|
  M.pure (.inl (year+1,t))))
  else (
  M.pure (.inr (.inr t2)))
def zal {T_:Type} (aa:T_->(Int × Span)->M (Bool × T_)) (t_:T_) (ab ac:Int) (ag:List Yr) (ah:List Old10) (ai aj:Int) (ae:List (Int × Span)):M T_ :=
  M.bind (M.iter (za8 aa ac ae) (ab,t_)) fun x_=>match x_ with
  | (.inl t3)=>(
  M.pure t3)
  | (.inr t4)=>(
  M.pure t4)
theorem za4 {R:List Chunk} {T_:Type} {Y_:T_->List Chunk->Prop} {ae:Value} {ag:List Chunk} {aq:Nat} {ah:Nat} {ai:Nat} {ar:Nat} {au:Cells} {av:Value} {aw:Cells} {ax:Value} {ay:Nat} (aj:T_->(Int × Span)->M (Bool × T_)) (t_:T_) (ak:Int) (ac:Int) (az:List Yr) (aA:List Old10) (aB:Int) (aC:Int) (aa:List (Int × Span)) (aH:YieldC Tryz.prog R arISpan Y_ ae aj) (aI:Y_ t_ ag) (aQ:Has R (cBlk aq [I ak] 3)) (aR:Has R (cBlk ah [I ac] 3)) (aS:Reads R au) (aT:Sl au av az) (aU:Reads R aw) (aV:Sl aw ax aA) (aJ:Has R (cMl I encSp ay aa)) (aW:Has R (cBlk ar [av,ax,I aB,I aC,.map (some ay)] 108)) (aX:Has R (cBlk ai [Pq ar] 87)) {r:T_} (hM:(zal aj t_ ak ac az aA aB aC aa).Ends r) (w:World) (H:St w w [cAll ag] R):Ret Tryz.prog 59 #[ae,Pq aq,Pq ah,Pq ai] w fun v w'=>∃ (y0:T_) (Ls0:List Chunk),y0=r/\v = .tuple #[]/\St w w' [cAll Ls0] R/\Y_ y0 Ls0:=by
 refine ret_of_W Tryz.func59 rfl rfl rfl ?_;refine kg 6 ?_;obtain ⟨aK,al,aD⟩:=M.e_bind hM
 obtain ⟨aY,al⟩:=M.e_iter al
 refine W.loop (fun m σ W=>∃ (year:Int) (t2:T_) (Ls_t2:List Chunk) (ρ:Env),σ=upds ρ [(0,ae),(2,Pq ah),(3,Pq ai),(5,I year)]/\M.iterN (za8 aj ac aa) m (year,t2)=some aK/\St w W [cAll Ls_t2] R/\Y_ t2 Ls_t2) ?_ ?_
 ·exact ⟨_,ak,t_,ag,_,upds_of _ _ ⟨rfl,rfl,rfl,rfl,trivial⟩,al,H,aI⟩
 rintro aZ σ a6 ⟨year,t2,Ls_t2,ρ,rfl,aE,H,hY_t2⟩
 obtain ⟨aL,aM,a7,hM,am⟩:=M.e_iterN aE
 simp only [za8] at hM
 clear aE;refine kg 7 ?_
 refine W.cond (decide (year<=ac)) rfl (fun ab=>?_) (fun ab=>?_)
 ·replace hM:=M.e_t hM ab
  replace ab:=dI ab
  refine kg 12 ?_;refine s_val (q_look (kenc:=I) (venc:=encSp) (f:=lookM aa) (k:=(year:Int)) (v:=.agg #[I (((lookM aa (year:Int)).getD default).lo),I (((lookM aa (year:Int)).getD default).hi)]) keyIntSp Tryz.underlying106 Al41 rfl rfl (mlMap (aJ.at H)) false (by rw [if_neg (by decide),span_val])) ?_
  obtain ⟨⟨go,t⟩,aN,hM⟩:=M.e_bind hM
  (try dsimp only at hM);refine t_yield (L:=[]) H aH hY_t2 rfl [I year,.agg #[I (((lookM aa (year:Int)).getD default).lo),I (((lookM aa (year:Int)).getD default).hi)]] rfl (year,((lookM aa (year:Int)).getD default)) Reads.none rfl aN ?_;intro aF a8 aG H;replace H:=H.nf;refine kg 2 ?_
  refine W.cond (!go) rfl (fun ao=>?_) (fun ao=>?_)
  ·replace hM:=M.e_t hM ao;refine W.ret ?_
   have aO:=M.e_inr hM am
   subst aO;replace hM:=aD;(try dsimp only at hM)
   have ap:=M.e_pure hM
   exact ⟨_,resE_tmp0 rfl,⟨t,aF,ap,rfl,H,aG⟩⟩
  replace hM:=M.e_f hM ao;obtain ⟨ba,hM⟩:=M.e_gd hM;refine kg 6 ?_
  exact ⟨aL,aM,year+1,t,aF,_,upds_of _ _ ⟨rfl,rfl,rfl,rfl,trivial⟩,M.e_inl hM am,H,aG⟩
 replace hM:=M.e_f hM ab
 replace ab:=dI ab
 refine W.exit ?_
 have aP:=M.e_inr hM am
 subst aP;replace hM:=aD;(try dsimp only at hM)
 have ap:=M.e_pure hM
 exact ⟨_,resE_tmp0 rfl,⟨t2,Ls_t2,ap,rfl,H,hY_t2⟩⟩
def zar  : Unit->(Int × Span)->M (Unit ⊕ Int):=fun (_:Unit) (x,x2) =>
  bif decide (x2.hi<x2.lo) then (
  M.pure (.inr x))
  else (
  M.pure (.inl ()))
def zax (ac:List Yr) (ae:List Old10) (aa ab:Int) (ag:List (Int × Span)):M (Int × Bool) :=
  M.bind (zaj ac ae aa ab ag aa ab) fun (ah,ai) =>
  M.bind (zal (M.yl zar) (.inl ()) ah ai ac ae aa ab ag) fun x_=>match x_ with
  | .inl _=>(
  M.pure (0,false))
  | .inr s=>(
  M.pure (s,true))
theorem zcK {R:List Chunk} {ac:Nat} {aI:Cells} {aJ:Value} {aK:Cells} {aL:Value} {aM:Nat} (av:List Yr) (aw:List Old10) (ao:Int) (ap:Int) (ax:List (Int × Span)) (ay:Reads R aI) (aD:Sl aI aJ av) (az:Reads R aK) (aE:Sl aK aL aw) (aA:Has R (cMl I encSp aM ax)) (aB:Has R (cBlk ac [aJ,aL,I ao,I ap,.map (some aM)] 108)) {r:(Int × Bool)} (hM:(zax av aw ao ap ax).Ends r) (w:World) (H:St w w [] R):Ret Tryz.prog 35 #[Pq ac] w fun v w'=>∃ (y0:Int) (y1:Bool),(y0,y1)=r/\v = .tuple #[I y0,B y1]/\St w w' [] R:=by
 refine ret_of_WD Tryz.func35 rfl rfl rfl ?_
 replace H:St w w [cMk ([])] R:=H.mk0
 have aW:=aD.len_le
 have aX:=aE.len_le
 unfold zax at hM
 refine WD.seq<|WD.of ?_;refine kg 4 ?_;refine WD.scope<|WD.seq<|WD.of<|W.region rfl ?_;refine t_alloc (cs:=[I 0]) H Al3 rfl ?_;intro aa aY H;refine t_alloc (cs:=[B false]) H Al4 rfl ?_;intro ab aZ H;refine t_sw 1 0 [I 0] (I 0) H rfl rfl Sz3 rfl rfl rfl rfl ?_;intro a6 H;refine t_sw 0 0 [B false] (B false) H rfl rfl Sz4 rfl rfl rfl rfl ?_;intro a7 H;refine s_nil<|WD.seq<|WD.of ?_;refine W.label<|WD.seq<|WD.seq<|WD.of ?_;refine W.draw (fun W=>St w W [cBlk ab [B false] 4,cBlk aa [I 0] 3,cMk ([])] R) [(0,true),(1,true),(2,true),(3,true),(4,true),(5,true),(6,true),(7,true),(8,true),(9,true),(10,true),(11,false)] mixed (by decide +kernel) rfl ?_;intro a8 ae;replace H:=H.ext ae;clear ae
 refine ⟨(H.pk [0,1,2]),?_⟩
 refine kg 11 ?_;refine d_l rfl ?_;obtain ⟨ba,aO,hM⟩:=M.e_bind hM;refine s_call cf29 [Pq ac,I ao,I ap] rfl (zbe av aw ao ap ax ao ap (ay.app _) aD (az.app _) aE (aA.app _) (aB.app _) aO _ (H.gt 3)) ?_
 rintro vq bb ⟨ah,ai,aj,ak,al,rfl,hvq,ar⟩
 subst vq;(try dsimp only at hM);replace H:=H.bk ar;clear ar
 refine s_nil ⟨(H.pk [3,4,5]),?_⟩
 refine d_nil<|WD.block ?_;obtain ⟨bc,aP,hM⟩:=M.e_bind hM;refine WD.range (L:=[cBlk ab [B false] 4,cBlk aa [I 0] 3,cBlk aj [I ah] 3,cBlk ak [I ai] 3,cBlk al [Pq ac] 87]) [Pq aj,Pq ak,Pq al] (H.pk [5,3,4,0,1,2]) rfl cf59 ?_;intro aC au aF aQ aG H
 have hYC:YieldC Tryz.prog ([cMk (au :: ([])),cBlk aj [I ah] 3,cBlk ak [I ai] 3,cBlk al [Pq ac] 87]++R) arISpan (yJ aC aF (fun _ ag=>ag=[cBlk ab [B false] 4,cBlk aa [I 0] 3]) (fun s ag=>ag=[cBlk ab [B true] 4,cBlk aa [I s] 3]) (fun _=>.exit 0)) (.func (.yield aC) #[] #[]) (M.yl zar):=by
  refine YieldC.mk2 aG (fun _ ag=>ag=[cBlk ab [B false] 4,cBlk aa [I 0] 3]) (fun s ag=>ag=[cBlk ab [B true] 4,cBlk aa [I s] 3]) (fun _=>.exit 0) zar (by rintro _ _ h_; obtain ⟨rfl⟩:=h_; rfl) (by rintro s _ h_; (obtain ⟨rfl⟩:=h_; rfl)) rfl (arISpan_len rfl) ?_;intro C_ bf x_ aR
  obtain ⟨x,x2⟩:=x_
  obtain rfl:=aR
  intro w R aq ag s_ r aS hM H
  skip
  obtain ⟨rfl⟩:=aS
  replace H:=H.nf;refine kg 5 ?_;refine t_alloc (cs:=[I 0,I 0]) H Al41 rfl ?_;intro aT bg H;refine t_sw 0 0 [I x2.lo,I x2.hi] (.agg #[I x2.lo,I x2.hi]) H rfl rfl Sz41 rfl rfl rfl rfl ?_;intro bh H;refine s_nil ?_
  refine ⟨rfl,[cBlk aT [I x2.lo,I x2.hi] 41],H.pick [0,1,2,3,4,5,6] (by decide) rfl,?_⟩
  clear H aq
  intro w R aq H
  replace ay:=ay.sub aq
  replace az:=az.sub aq
  replace aA:=aA.sub aq
  replace aB:=aB.sub aq
  replace hM:(zar () (x,x2)).Ends r:=hM
  simp only [zar] at hM
  replace H:=H.nf;refine kg 9 ?_
  refine W.cond (decide (x2.hi<x2.lo)) rfl (fun am=>?_) (fun am=>?_)
  ·replace hM:=M.e_t hM am
   replace am:=dI am
   refine kg 3 ?_;refine t_sw 2 0 [I x] (I x) H rfl rfl Sz3 rfl rfl rfl rfl ?_;intro bi H;refine t_sw 1 0 [B true] (B true) H rfl rfl Sz4 rfl rfl rfl rfl ?_;intro bj H;refine s_nil ?_;refine W.exit ?_
   exact ⟨x,[cBlk ab [B true] 4,cBlk aa [I x] 3],(M.e_pure hM).symm,rfl,H.pick [1,2,3,4,5,6] (by decide) rfl,rfl⟩
  replace hM:=M.e_f hM am
  replace am:=dI am
  refine W.skip ?_
  exact ⟨(),[cBlk ab [B false] 4,cBlk aa [I 0] 3],(M.e_pure hM).symm,rfl,H.pick [1,2,3,4,5,6] (by decide) rfl⟩
 replace H:St w aQ (cAll (cObj aC (.loop aF) :: [cBlk ab [B false] 4,cBlk aa [I 0] 3]) :: [cMk (au :: ([])),cBlk aj [I ah] 3,cBlk ak [I ai] 3,cBlk al [Pq ac] 87]) R:=St.bundleB (A:=cObj aC (.loop aF) :: [cBlk ab [B false] 4,cBlk aa [I 0] 3]) (T:=[cMk (au :: ([])),cBlk aj [I ah] 3,cBlk ak [I ai] 3,cBlk al [Pq ac] 87]) rfl (H.pk [0,2,3,1,4,5,6])
 refine (za4 (M.yl zar) (.inl ()) ah ai av aw ao ap ax hYC ⟨_,rfl,rfl⟩ (Has.here (k:=1) rfl) (Has.here (k:=2) rfl) (ay.app _) aD (az.app _) aE (aA.app _) (aB.app _) (Has.here (k:=3) rfl) aP _ (H.gt 4)).mono ?_
 rintro vq bm ⟨aU,bn,rfl,hvq,ar,aN⟩
 replace H:=H.back ar rfl
 clear ar hYC
 rcases aU with _ | s
 ·(try dsimp only at hM)
  obtain ⟨_,rfl,rfl⟩:=aN
  refine ⟨_,[cBlk ab [B false] 4,cBlk aa [I 0] 3,cBlk aj [I ah] 3,cBlk ak [I ai] 3,cBlk al [Pq ac] 87],H.unbundle.pick [0,3,1,2,4,5,6] (by decide) rfl,aG.nb,?_⟩
  intro aV H
  rw [aG.pd]
  replace H:=H.nf
  try simp only []
  replace H:=H.pk [0,1,2];refine WD.seq<|WD.of ?_;refine W.draw (fun W=>St w W [cMk (au :: ([])),cBlk ab [B false] 4,cBlk aa [I 0] 3] R) [(0,true),(1,true),(2,true),(3,true)] mixed (by decide +kernel) rfl ?_;intro bo ae;replace H:=H.ext ae;clear ae
  refine ⟨(H.pk [0,1,2]),?_⟩
  refine kg 5 ?_;replace H:=H.pk [0];refine WD.of ?_;refine W.ret ?_;refine bodyD_r (H.pk [0]) ?_;intro bp H;replace H:=H.nf
  have aH:=M.e_pure hM
  exact ⟨_,resE_tmp2 rfl,⟨0,false,aH,rfl,H⟩⟩
 (try dsimp only at hM)
 obtain ⟨_,rfl,rfl⟩:=aN
 refine ⟨_,[cBlk ab [B true] 4,cBlk aa [I s] 3,cBlk aj [I ah] 3,cBlk ak [I ai] 3,cBlk al [Pq ac] 87],H.unbundle.pick [0,3,1,2,4,5,6] (by decide) rfl,nofun,?_⟩
 intro aV H
 show WD _ _ _ (.exit 0) _ _ _
 refine WD.of ?_;refine W.exit ?_;replace H:=H.nf;replace H:=H.pk [0,1,2];refine WD.seq<|WD.of ?_;refine W.draw (fun W=>St w W [cMk (au :: ([])),cBlk ab [B true] 4,cBlk aa [I s] 3] R) [(0,true),(1,true),(2,true),(3,true)] mixed (by decide +kernel) rfl ?_;intro br ae;replace H:=H.ext ae;clear ae
 refine ⟨(H.pk [0,1,2]),?_⟩
 refine kg 5 ?_;replace H:=H.pk [0];refine WD.of ?_;refine W.ret ?_;refine bodyD_r (H.pk [0]) ?_;intro bt H;replace H:=H.nf
 have aH:=M.e_pure hM
 exact ⟨_,resE_tmp2 rfl,⟨s,true,aH,rfl,H⟩⟩

def zbb (ab:List Yr) (ac:List Old10) (aa ae ak ag n first last:Int):M (Int ⊕ (Int × Int × (List (Int × Span)) × Int)) :=
  M.bind (zak ab ac aa ae) fun x_=>match x_ with
  | (.inl r1)=>(
  bif r1 != 0 then (
  M.pure (.inl r1))
  else (
  M.fail))
  | (.inr (ah,ai,aj,al))=>(
  bif al != 0 then (
  M.fail)
  else (
  M.bind (zaa ak aa ag) fun r2 =>
  M.bind (M.opt (!(!r2)) (zaa ag aa ae) false) fun r3 =>
  bif ((!r2)||(!r3)) then (
  M.pure (.inl 2))
  else (
  M.bind (zaa n first last) fun r4 =>
  bif !r4 then (
  M.pure (.inl 4))
  else (
  M.bind (zax ab ac ah ai aj) fun (r0,am) =>
  bif am then (
  M.pure (.inl 6))
  else (
  M.pure (.inr (ah,ai,aj,0)))))))
theorem zcV {R:List Chunk} {au:Cells} {ah:Value} {av:Cells} {ai:Value} (al:List Yr) (am:List Old10) (ac:Int) (ae:Int) (ao:Int) (ag:Int) (n:Int) (first:Int) (last:Int) (aw:Reads R au) (ax:Sl au ah al) (ay:Reads R av) (az:Sl av ai am) {r:(Int ⊕ (Int × Int × (List (Int × Span)) × Int))} (hM:(zbb al am ac ae ao ag n first last).Ends r) (w:World) (H:St w w [] R):Ret Tryz.prog 30 #[.agg #[ah,ai,I ac,I ae],I ao,I ag,I n,I first,I last] w fun v w'=>(∃ (y0:Int),(.inl y0)=r/\v = .tuple #[.pointer none,I y0]/\St w w' [] R)∨(∃ (y0:Int) (y1:Int) (y2:List (Int × Span)) (y3:Int) (aA:Nat) (aB:Nat),(.inr (y0,y1,y2,y3))=r/\v = .tuple #[Pq aA,I y3]/\St w w' [cBlk aA [ah,ai,I y0,I y1,.map (some aB)] 108,cMl I encSp aB y2] R):=by
 refine ret_of_W Tryz.func30 rfl rfl rfl ?_;refine kg 2 ?_;refine t_bx [ah,ai,I ac,I ae] H rfl ?_;intro aR aS H;refine kg 6 ?_;obtain ⟨aT,aG,hM⟩:=M.e_bind hM;refine s_call cf25 [.agg #[ah,ai,I ac,I ae]] rfl (zcj al am ac ae (aw.app _) ax (ay.app _) az aG _ (H.gt 1)) ?_
 rintro vq aU (⟨r1,aH,hvq,aa⟩ | ⟨aC,aD,aE,aI,aF,aJ,aK,hvq,aa⟩)
 ·subst aH;subst vq;(try dsimp only at hM);replace H:=H.bk aa;clear aa;refine kg 14 ?_
  refine W.cond (r1 != 0) rfl (fun aj=>?_) (fun aj=>?_)
  ·replace hM:=M.e_t hM aj
   replace aj:=dI aj
   refine kg 6 ?_;refine W.ret ?_
   have ab:=M.e_pure hM
   exact ⟨_,resE_tmp2 rfl,.inl (⟨r1,ab,rfl,(H.pk [])⟩)⟩
  replace hM:=M.e_f hM aj
  exact (M.e_fail hM).elim
 subst aK;subst vq;(try dsimp only at hM);replace H:=H.bk aa;clear aa;refine kg 14 ?_
 refine W.cond (aI != 0) rfl (fun ak=>?_) (fun ak=>?_)
 ·replace hM:=M.e_t hM ak
  exact (M.e_fail hM).elim
 replace hM:=M.e_f hM ak
 replace ak:=dI ak
 refine kg 6 ?_;obtain ⟨aV,aL,hM⟩:=M.e_bind hM;refine s_call cf28 [I ao,I ac,I ag] rfl (zab ao ac ag aL _ (H.gt 3)) ?_
 rintro vq aW ⟨r2,rfl,hvq,aa⟩
 subst vq;(try dsimp only at hM);replace H:=H.bk aa;clear aa;refine kg 7 ?_;obtain ⟨r3,aM,hM⟩:=M.e_bind hM;refine t_gcall (!(!r2)) (gy_f rfl) cf28 (B r3) (fun _=>[I ag,I ac,I ae]) (fun hg=>lst3 (gd_of hg (I ag)) (gd_of hg (I ac)) (gd_of hg (I ae))) H (fun hg=>(zab ag ac ae (M.e_opt aM hg) _ (H.give (A:=[]) rfl)).mono fun v_ w_ ⟨y_,ab,aN,H_⟩=>by subst ab; exact ⟨aN,H.via H_⟩) ?_;intro aX H;refine kg 4 ?_
 refine W.cond ((!r2)||(!r3)) rfl (fun ap=>?_) (fun ap=>?_)
 ·replace hM:=M.e_t hM ap;refine kg 5 ?_;replace H:=H.pk [];refine W.ret ?_
  have ab:=M.e_pure hM
  exact ⟨_,resE_tmp2 rfl,.inl (⟨2,ab,rfl,H⟩)⟩
 replace hM:=M.e_f hM ap;refine kg 5 ?_;obtain ⟨aY,aO,hM⟩:=M.e_bind hM;refine s_call cf28 [I n,I first,I last] rfl (zab n first last aO _ (H.gt 3)) ?_
 rintro vq aZ ⟨r4,rfl,hvq,aa⟩
 subst vq;(try dsimp only at hM);replace H:=H.bk aa;clear aa;refine kg 3 ?_
 refine W.cond (!r4) rfl (fun aq=>?_) (fun aq=>?_)
 ·replace hM:=M.e_t hM aq;refine kg 5 ?_;replace H:=H.pk [];refine W.ret ?_
  have ab:=M.e_pure hM
  exact ⟨_,resE_tmp2 rfl,.inl (⟨4,ab,rfl,H⟩)⟩
 replace hM:=M.e_f hM aq;refine kg 5 ?_;obtain ⟨a6,aP,hM⟩:=M.e_bind hM;refine s_call cf35 [Pq aF] rfl (zcK al am aC aD aE (aw.app _) ax (ay.app _) az (Has.here (k:=1) rfl) (Has.here (k:=0) rfl) aP _ (H.gt 3)) ?_
 rintro vq a7 ⟨r0,aQ,rfl,hvq,aa⟩
 subst vq;(try dsimp only at hM);replace H:=H.bk aa;clear aa;refine kg 10 ?_
 refine W.cond aQ rfl (fun ar=>?_) (fun ar=>?_)
 ·replace hM:=M.e_t hM ar;refine kg 5 ?_;replace H:=H.pk [];refine W.ret ?_
  have ab:=M.e_pure hM
  exact ⟨_,resE_tmp2 rfl,.inl (⟨6,ab,rfl,H⟩)⟩
 replace hM:=M.e_f hM ar;refine kg 7 ?_;refine W.ret ?_
 have ab:=M.e_pure hM
 exact ⟨_,resE_tmp2 rfl,.inr (⟨aC,aD,aE,0,aF,aJ,ab,rfl,(H.pk [0,1])⟩)⟩

def zb0  : M Unit :=
  M.pure ()
theorem zcA {R:List Chunk}    {r:Unit} (hM:(zb0).Ends r) (w:World) (H:St w w [] R):Ret Tryz.prog 32 #[] w fun v w'=>()=r/\v = .agg #[.func (.func 60) #[] #[]]/\St w w' [] R:=by
 refine ret_of_W Tryz.func32 rfl rfl rfl ?_;refine kg 2 ?_;refine t_alloc (cs:=[.nilFunc]) H Al101 rfl ?_;intro ac ae H;refine kg 3 ?_;refine s_val (x_bld (ps:=[(0,.func (.func 60) #[] #[])]) (zs:=[.nilFunc]) (L':=[.func (.func 60) #[] #[]]) rfl Tryz.underlying101 Al101 rfl (Bd101 Tryz.underlying101) (.cons (cs:=[.func (.func 60) #[] #[]]) rfl rfl rfl rfl rfl<|.nil)) ?_;refine t_sw 0 0 [.func (.func 60) #[] #[]] (.agg #[.func (.func 60) #[] #[]]) H rfl rfl Sz101 rfl rfl rfl rfl ?_;intro ag H;refine s_nil ?_;refine W.ret ?_
 have aa:=(H.bl 0)
 have ab:=M.e_pure hM
 exact ⟨_,(resE_of1 (v:=.agg #[.func (.func 60) #[] #[]]) rfl (.cell (v:=.agg #[.func (.func 60) #[] #[]]) rfl (run_loadVar_ag (ds:=[.func (.func 60) #[] #[]]) Ag101 Sz101 aa rfl rfl)<|.nil)),⟨ab,rfl,(H.pk [])⟩⟩

def zcp (s:Span):M Int :=
  M.pure s.lo
theorem zcn {R:List Chunk}  (s:Span)  {r:Int} (hM:(zcp s).Ends r) (w:World) (H:St w w [] R):Ret Tryz.prog 60 #[.agg #[I s.lo,I s.hi]] w fun v w'=>∃ (y0:Int),y0=r/\v=I y0/\St w w' [] R:=by
 refine ret_of_W Tryz.func60 rfl rfl rfl ?_;refine kg 2 ?_;refine t_bx [I s.lo,I s.hi] H rfl ?_;intro ab ac H;refine kg 8 ?_;refine W.ret ?_
 have aa:=M.e_pure hM
 exact ⟨_,resE_tmp rfl,⟨s.lo,aa,rfl,(H.pk [])⟩⟩

def zbS (x_stage stage:Int):M Bool :=
  M.pure (decide (x_stage<=stage))
theorem zb8 {R:List Chunk}  (x_stage:Int) (stage:Int)  {r:Bool} (hM:(zbS x_stage stage).Ends r) (w:World) (H:St w w [] R):Ret Tryz.prog 31 #[.agg #[I x_stage],I stage] w fun v w'=>∃ (y0:Bool),y0=r/\v=B y0/\St w w' [] R:=by
 refine ret_of_W Tryz.func31 rfl rfl rfl ?_;refine kg 2 ?_;refine t_bx [I x_stage] H rfl ?_;intro ab ac H;refine kg 10 ?_;refine W.ret ?_
 have aa:=M.e_pure hM
 exact ⟨_,resE_tmp rfl,⟨(decide (x_stage<=stage)),aa,rfl,(H.pk [])⟩⟩

def zbs  : M Unit :=
  M.pure ()
theorem zbZ {R:List Chunk}    {r:Unit} (hM:(zbs).Ends r) (w:World) (H:St w w [] R):Ret Tryz.prog 33 #[] w fun v w'=>()=r/\v = .agg #[.func (.func 61) #[] #[]]/\St w w' [] R:=by
 refine ret_of_W Tryz.func33 rfl rfl rfl ?_;refine kg 2 ?_;refine t_alloc (cs:=[.nilFunc]) H Al101 rfl ?_;intro ac ae H;refine kg 3 ?_;refine s_val (x_bld (ps:=[(0,.func (.func 61) #[] #[])]) (zs:=[.nilFunc]) (L':=[.func (.func 61) #[] #[]]) rfl Tryz.underlying101 Al101 rfl (Bd101 Tryz.underlying101) (.cons (cs:=[.func (.func 61) #[] #[]]) rfl rfl rfl rfl rfl<|.nil)) ?_;refine t_sw 0 0 [.func (.func 61) #[] #[]] (.agg #[.func (.func 61) #[] #[]]) H rfl rfl Sz101 rfl rfl rfl rfl ?_;intro ag H;refine s_nil ?_;refine W.ret ?_
 have aa:=(H.bl 0)
 have ab:=M.e_pure hM
 exact ⟨_,(resE_of1 (v:=.agg #[.func (.func 61) #[] #[]]) rfl (.cell (v:=.agg #[.func (.func 61) #[] #[]]) rfl (run_loadVar_ag (ds:=[.func (.func 61) #[] #[]]) Ag101 Sz101 aa rfl rfl)<|.nil)),⟨ab,rfl,(H.pk [])⟩⟩

def zbq (s:Span):M Int :=
  M.pure s.hi
theorem zbi {R:List Chunk}  (s:Span)  {r:Int} (hM:(zbq s).Ends r) (w:World) (H:St w w [] R):Ret Tryz.prog 61 #[.agg #[I s.lo,I s.hi]] w fun v w'=>∃ (y0:Int),y0=r/\v=I y0/\St w w' [] R:=by
 refine ret_of_W Tryz.func61 rfl rfl rfl ?_;refine kg 2 ?_;refine t_bx [I s.lo,I s.hi] H rfl ?_;intro ab ac H;refine kg 8 ?_;refine W.ret ?_
 have aa:=M.e_pure hM
 exact ⟨_,resE_tmp rfl,⟨s.hi,aa,rfl,(H.pk [])⟩⟩

def zao (stage:Int):(Int × Int)->(Int × Span)->M ((Int × Int) ⊕ Unit):=fun (s2,s3) (x,x2) =>
  M.bind (zb0) fun (_:Unit) =>
  M.bind (zcp x2) fun r2 =>
  M.bind (zbS stage r2) fun r3 =>
  bif r3 then (
  M.grd (decide ((-9223372036854775808:Int)<=(s2+1))&&decide ((s2+1)<=(9223372036854775807:Int))) <|
  M.bind (zbs) fun (_:Unit) =>
  M.bind (zbq x2) fun r4 =>
  M.bind (zbS stage r4) fun r5 =>
  bif r5 then (
  M.grd (decide ((-9223372036854775808:Int)<=(s3+1))&&decide ((s3+1)<=(9223372036854775807:Int))) <|
  M.pure (.inl (s2+1,s3+1)))
  else (
  M.pure (.inl (s2+1,s3))))
  else (
  M.bind (zbs) fun (_:Unit) =>
  M.bind (zbq x2) fun r4 =>
  M.bind (zbS stage r4) fun r5 =>
  bif r5 then (
  M.grd (decide ((-9223372036854775808:Int)<=(s3+1))&&decide ((s3+1)<=(9223372036854775807:Int))) <|
  M.pure (.inl (s2,s3+1)))
  else (
  M.pure (.inl (s2,s3))))
def zai (aa:List Yr) (ab:List Old10) (aj ak ac ae stage:Int):M (Int × Int × Int) :=
  M.bind (zbb aa ab aj ak ac ae stage 0 2000) fun x_=>match x_ with
  | (.inl r1)=>(
  bif r1 != 0 then (
  M.pure (0,0,r1))
  else (
  M.fail))
  | (.inr (ag,ah,ai,al))=>(
  bif al != 0 then (
  M.fail)
  else (
  M.bind (zaj aa ab ag ah ai ac ae) fun (am,ao) =>
  M.bind (zal (M.yl (zao stage)) (.inl (0,0)) am ao aa ab ag ah ai) fun x_=>match x_ with
  | .inl (s2,s3)=>(
  M.pure (s2,s3,0))
  | .inr _=>M.fail))
theorem zaP {R:List Chunk} {aU:Cells} {ab:Value} {aV:Cells} {ac:Value} (aC:List Yr) (aD:List Old10) (ah:Int) (ai:Int) (az:Int) (aA:Int) (stage:Int) (aE:Reads R aU) (aI:Sl aU ab aC) (aF:Reads R aV) (aJ:Sl aV ac aD) {r:(Int × Int × Int)} (hM:(zai aC aD ah ai az aA stage).Ends r) (w:World) (H:St w w [] R):Ret Tryz.prog 10 #[.agg #[ab,ac,I ah,I ai],I az,I aA,I stage] w fun v w'=>∃ (y0:Int) (y1:Int) (y2:Int),(y0,y1,y2)=r/\v = .tuple #[.agg #[I y0,I y1],I y2]/\St w w' [] R:=by
 refine ret_of_WD Tryz.func10 rfl rfl rfl ?_
 replace H:St w w [cMk ([])] R:=H.mk0
 have bv:=aI.len_le
 have bw:=aJ.len_le
 unfold zai at hM
 refine WD.seq<|WD.of<|W.region rfl ?_;refine t_bx [ab,ac,I ah,I ai] H rfl ?_;intro av bx H;refine t_alloc (cs:=[I 0,I 0]) H Al41 rfl ?_;intro aw bz H;refine kg 2 ?_;refine WD.seq<|WD.of ?_;refine kg 5 ?_;obtain ⟨bA,aX,hM⟩:=M.e_bind hM;refine s_call cf30 [.agg #[ab,ac,I ah,I ai],I az,I aA,I stage,I 0,I 2000] rfl (zcV aC aD ah ai az aA stage 0 2000 (aE.app _) aI (aF.app _) aJ aX _ (H.gt 3)) ?_
 rintro vq bB (⟨r1,aY,hvq,aa⟩ | ⟨ak,al,am,aZ,ae,ag,a6,hvq,aa⟩)
 ·subst aY;subst vq;(try dsimp only at hM);replace H:=H.bk aa;clear aa;refine kg 6 ?_;refine WD.seq<|WD.seq<|WD.of ?_;refine kg 4 ?_
  refine WD.cond (r1 != 0) rfl (fun aG=>?_) (fun aG=>?_)
  ·replace hM:=M.e_t hM aG
   replace aG:=dI aG
   refine WD.seq<|WD.of<|W.region rfl<|s_val (x_bld (ps:=[]) (zs:=[I 0,I 0]) (L':=[I 0,I 0]) rfl Tryz.underlying41 Al41 rfl (Bd41 Tryz.underlying41) (.nil)) ?_;refine kg 1 ?_;refine t_sw 0 0 [I 0,I 0] (.agg #[I 0,I 0]) H rfl rfl Sz41 rfl rfl rfl rfl ?_;intro bC H;refine kg 2 ?_;refine WD.of ?_;refine W.ret ?_;refine bodyD_r (H.pk [2,0,1]) ?_;intro bD H;replace H:=H.nf
   have a7:=(H.bl 0)
   have aO:=M.e_pure hM
   exact ⟨_,(resE_ofn (vs:=[.agg #[I 0,I 0],I r1]) rfl rfl (.cell (v:=.agg #[I 0,I 0]) rfl (run_loadVar_ag (ds:=[I 0,I 0]) Ag41 Sz41 a7 rfl rfl)<|.tmp (v:=I r1) rfl<|.nil)),⟨0,0,r1,aO,rfl,(H.pk [])⟩⟩
  replace hM:=M.e_f hM aG
  exact (M.e_fail hM).elim
 subst a6;subst vq;(try dsimp only at hM);replace H:=H.bk aa;clear aa;refine kg 6 ?_;refine WD.seq<|WD.seq<|WD.of ?_;refine kg 4 ?_
 refine WD.cond (aZ != 0) rfl (fun aH=>?_) (fun aH=>?_)
 ·replace hM:=M.e_t hM aH
  exact (M.e_fail hM).elim
 replace hM:=M.e_f hM aH
 replace aH:=dI aH
 refine WD.of<|W.skip<|WD.seq<|WD.of ?_;refine kg 2 ?_;refine s_val (x_bld (ps:=[(0,I stage)]) (zs:=[I 0]) (L':=[I stage]) rfl Tryz.underlying98 Al98 rfl (Bd98 Tryz.underlying98) (.cons (cs:=[I stage]) rfl rfl rfl rfl rfl<|.nil))<|s_val (x_mf (fs:=[.agg #[I stage]]) (cs:=[]) rfl rfl) ?_;refine t_alloc (cs:=[.nilFunc]) H Al92 rfl ?_;intro ax bE H;refine t_sw 0 0 [.func (.func 31) #[.agg #[I stage]] #[]] (.func (.func 31) #[.agg #[I stage]] #[]) H rfl rfl Sz92 rfl rfl rfl rfl ?_;intro bF H;refine s_nil<|WD.seq<|WD.of<|W.region rfl ?_;refine t_alloc (cs:=[I 0,I 0]) H Al41 rfl ?_;intro aj bG H;refine s_nil<|WD.seq<|WD.seq<|WD.of ?_;refine kg 4 ?_;obtain ⟨bH,a8,hM⟩:=M.e_bind hM;refine s_call cf29 [Pq ae,I az,I aA] rfl (zbe aC aD ak al am az aA (aE.app _) aI (aF.app _) aJ (Has.here (k:=3) rfl) (Has.here (k:=2) rfl) a8 _ (H.gt 7)) ?_
 rintro vq bI ⟨ao,ap,aq,ar,au,rfl,hvq,aa⟩
 subst vq;(try dsimp only at hM);replace H:=H.bk aa;clear aa;refine s_nil<|WD.block ?_;obtain ⟨bJ,ba,hM⟩:=M.e_bind hM;refine WD.range (L:=[cBlk aj [I 0,I 0] 41,cBlk aq [I ao] 3,cBlk ar [I ap] 3,cBlk au [Pq ae] 87,cBlk ax [.func (.func 31) #[.agg #[I stage]] #[]] 92,cBlk ae [ab,ac,I ak,I al,.map (some ag)] 108,cMl I encSp ag am,cBlk aw [I 0,I 0] 41,cBlk av [ab,ac,I ah,I ai] 48]) [Pq aq,Pq ar,Pq au] (H.pk [9,3,0,1,2,4,5,6,7,8]) rfl cf59 ?_;intro aK aB aP bb aQ H
 have hYC:YieldC Tryz.prog ([cMk (aB :: ([])),cBlk aq [I ao] 3,cBlk ar [I ap] 3,cBlk au [Pq ae] 87,cBlk ax [.func (.func 31) #[.agg #[I stage]] #[]] 92,cBlk ae [ab,ac,I ak,I al,.map (some ag)] 108,cMl I encSp ag am,cBlk aw [I 0,I 0] 41,cBlk av [ab,ac,I ah,I ai] 48]++R) arISpan (yJ aK aP (fun (s2,s3) aL=>aL=[cBlk aj [I s2,I s3] 41]) (fun (_:Unit) _=>False) (fun _=>.ret)) (.func (.yield aK) #[] #[]) (M.yl (zao stage)):=by
  refine YieldC.mk2 aQ (fun (s2,s3) aL=>aL=[cBlk aj [I s2,I s3] 41]) (fun (_:Unit) _=>False) (fun _=>.ret) (zao stage) (by rintro ⟨s2,s3⟩ _ h_; obtain ⟨rfl⟩:=h_; rfl) (fun _ _ h_=>h_.elim) rfl (arISpan_len rfl) ?_;intro C_ bK x_ bc
  obtain ⟨x,x2⟩:=x_
  obtain rfl:=bc
  intro w R aM aL s_ r bf hM H
  obtain ⟨s2,s3⟩:=s_
  obtain ⟨rfl⟩:=bf
  replace H:=H.nf;refine W.region rfl ?_;refine t_alloc (cs:=[I 0,I 0]) H Al41 rfl ?_;intro aN bL H;refine t_sw 0 0 [I x2.lo,I x2.hi] (.agg #[I x2.lo,I x2.hi]) H rfl rfl Sz41 rfl rfl rfl rfl ?_;intro bM H;refine s_nil ?_
  refine ⟨rfl,[cBlk aN [I x2.lo,I x2.hi] 41],H.pick [0,1,2,3,4,5,6,7,8,9,10] (by decide) rfl,?_⟩
  clear H aM
  intro w R aM H
  replace aE:=aE.sub aM
  replace aF:=aF.sub aM
  replace hM:(zao stage (s2,s3) (x,x2)).Ends r:=hM
  simp only [zao] at hM
  replace H:=H.nf;refine kg 3 ?_;refine W.draw (fun W=>St w W [cBlk aN [I x2.lo,I x2.hi] 41,cBlk aj [I s2,I s3] 41,cMk (aB :: ([])),cBlk aq [I ao] 3,cBlk ar [I ap] 3,cBlk au [Pq ae] 87,cBlk ax [.func (.func 31) #[.agg #[I stage]] #[]] 92,cBlk ae [ab,ac,I ak,I al,.map (some ag)] 108,cMl I encSp ag am,cBlk aw [I 0,I 0] 41,cBlk av [ab,ac,I ah,I ai] 48] R) [(0,true),(3,true),(1,false),(2,true),(4,false),(5,false)] mixed (by decide +kernel) rfl ?_;intro bN ay;replace H:=H.ext ay;clear ay
  refine ⟨(H.pk [0,1,2,3,4,5,6,7,8,9,10]),?_⟩
  refine kg 2 ?_;refine d_l rfl ?_;obtain ⟨bO,bg,hM⟩:=M.e_bind hM;refine s_call cf32 [] rfl (zcA bg _ (H.gt 11)) ?_
  rintro vq bP ⟨rfl,hvq,aa⟩
  subst vq;(try dsimp only at hM);replace H:=H.bk aa;clear aa
  refine s_nil ⟨(H.pk [0,1,2,3,4,5,6,7,8,9,10]),?_⟩
  refine d_q rfl (fun w' H=>x_fd (cs:=[.func (.func 60) #[] #[]]) (v:=.func (.func 60) #[] #[]) Fd101_0 Sc99 rfl rfl)<|d_l rfl ?_;obtain ⟨bQ,bh,hM⟩:=M.e_bind hM;refine s_callv (f:=60) rfl cf60 [.agg #[I x2.lo,I x2.hi]] rfl (zcn x2 bh _ (H.gt 11)) ?_
  rintro vq bR ⟨r2,rfl,hvq,aa⟩
  subst vq;(try dsimp only at hM);replace H:=H.bk aa;clear aa
  refine s_nil ⟨(H.pk [0,1,2,3,4,5,6,7,8,9,10]),?_⟩
  refine d_l rfl ?_;obtain ⟨bS,bi,hM⟩:=M.e_bind hM;refine s_callm (f:=31) (fs:=[.agg #[I stage]]) rfl cf31 [I r2] rfl (zb8 stage r2 bi _ (H.gt 11)) ?_
  rintro vq bT ⟨r3,rfl,hvq,aa⟩
  subst vq;(try dsimp only at hM);replace H:=H.bk aa;clear aa
  refine s_nil ⟨(H.pk [0,1,2,3,4,5,6,7,8,9,10]),?_⟩
  refine d_nil ?_
  refine W.cond r3 rfl (fun aR=>?_) (fun aR=>?_)
  ·replace hM:=M.e_t hM aR;obtain ⟨bU,hM⟩:=M.e_gd hM;refine kg 5 ?_;refine t_sw 1 0 [I (s2+1)] (I (s2+1)) H rfl rfl Sz3 rfl rfl rfl rfl ?_;intro bV H;refine kg 2 ?_;refine W.draw (fun W=>St w W [cBlk aN [I x2.lo,I x2.hi] 41,cBlk aj [I (s2+1),I s3] 41,cMk (aB :: ([])),cBlk aq [I ao] 3,cBlk ar [I ap] 3,cBlk au [Pq ae] 87,cBlk ax [.func (.func 31) #[.agg #[I stage]] #[]] 92,cBlk ae [ab,ac,I ak,I al,.map (some ag)] 108,cMl I encSp ag am,cBlk aw [I 0,I 0] 41,cBlk av [ab,ac,I ah,I ai] 48] R) [(0,true),(3,true),(1,false),(2,true),(4,false),(5,false)] mixed (by decide +kernel) rfl ?_;intro bW ay;replace H:=H.ext ay;clear ay
   refine ⟨(H.pk [0,1,2,3,4,5,6,7,8,9,10]),?_⟩
   refine kg 2 ?_;refine d_l rfl ?_;obtain ⟨bX,bj,hM⟩:=M.e_bind hM;refine s_call cf33 [] rfl (zbZ bj _ (H.gt 11)) ?_
   rintro vq bY ⟨rfl,hvq,aa⟩
   subst vq;(try dsimp only at hM);replace H:=H.bk aa;clear aa
   refine s_nil ⟨(H.pk [0,1,2,3,4,5,6,7,8,9,10]),?_⟩
   refine d_q rfl (fun w' H=>x_fd (cs:=[.func (.func 61) #[] #[]]) (v:=.func (.func 61) #[] #[]) Fd101_0 Sc99 rfl rfl)<|d_l rfl ?_;obtain ⟨bZ,bm,hM⟩:=M.e_bind hM;refine s_callv (f:=61) rfl cf61 [.agg #[I x2.lo,I x2.hi]] rfl (zbi x2 bm _ (H.gt 11)) ?_
   rintro vq b3 ⟨r4,rfl,hvq,aa⟩
   subst vq;(try dsimp only at hM);replace H:=H.bk aa;clear aa
   refine s_nil ⟨(H.pk [0,1,2,3,4,5,6,7,8,9,10]),?_⟩
   refine d_l rfl ?_;obtain ⟨b4,bn,hM⟩:=M.e_bind hM;refine s_callm (f:=31) (fs:=[.agg #[I stage]]) rfl cf31 [I r4] rfl (zb8 stage r4 bn _ (H.gt 11)) ?_
   rintro vq b5 ⟨r5,rfl,hvq,aa⟩
   subst vq;(try dsimp only at hM);replace H:=H.bk aa;clear aa
   refine s_nil ⟨(H.pk [0,1,2,3,4,5,6,7,8,9,10]),?_⟩
   refine d_nil ?_
   refine W.cond r5 rfl (fun aS=>?_) (fun aS=>?_)
   ·replace hM:=M.e_t hM aS;obtain ⟨b6,hM⟩:=M.e_gd hM;refine kg 5 ?_;refine t_sw 1 1 [I (s3+1)] (I (s3+1)) H rfl rfl Sz3 rfl rfl rfl rfl ?_;intro b7 H;refine s_nil ?_
    exact ⟨(s2+1,s3+1),[cBlk aj [I (s2+1),I (s3+1)] 41],(M.e_pure hM).symm,rfl,H.pick [1,2,3,4,5,6,7,8,9,10] (by decide) rfl⟩
   replace hM:=M.e_f hM aS;refine W.skip ?_
   exact ⟨(s2+1,s3),[cBlk aj [I (s2+1),I s3] 41],(M.e_pure hM).symm,rfl,H.pick [1,2,3,4,5,6,7,8,9,10] (by decide) rfl⟩
  replace hM:=M.e_f hM aR;refine kg 2 ?_;refine W.draw (fun W=>St w W [cBlk aN [I x2.lo,I x2.hi] 41,cBlk aj [I s2,I s3] 41,cMk (aB :: ([])),cBlk aq [I ao] 3,cBlk ar [I ap] 3,cBlk au [Pq ae] 87,cBlk ax [.func (.func 31) #[.agg #[I stage]] #[]] 92,cBlk ae [ab,ac,I ak,I al,.map (some ag)] 108,cMl I encSp ag am,cBlk aw [I 0,I 0] 41,cBlk av [ab,ac,I ah,I ai] 48] R) [(0,true),(3,true),(1,false),(2,true),(4,false),(5,false)] mixed (by decide +kernel) rfl ?_;intro b8 ay;replace H:=H.ext ay;clear ay
  refine ⟨(H.pk [0,1,2,3,4,5,6,7,8,9,10]),?_⟩
  refine kg 2 ?_;refine d_l rfl ?_;obtain ⟨b9,bo,hM⟩:=M.e_bind hM;refine s_call cf33 [] rfl (zbZ bo _ (H.gt 11)) ?_
  rintro vq cb ⟨rfl,hvq,aa⟩
  subst vq;(try dsimp only at hM);replace H:=H.bk aa;clear aa
  refine s_nil ⟨(H.pk [0,1,2,3,4,5,6,7,8,9,10]),?_⟩
  refine d_q rfl (fun w' H=>x_fd (cs:=[.func (.func 61) #[] #[]]) (v:=.func (.func 61) #[] #[]) Fd101_0 Sc99 rfl rfl)<|d_l rfl ?_;obtain ⟨cc,bp,hM⟩:=M.e_bind hM;refine s_callv (f:=61) rfl cf61 [.agg #[I x2.lo,I x2.hi]] rfl (zbi x2 bp _ (H.gt 11)) ?_
  rintro vq cd ⟨r4,rfl,hvq,aa⟩
  subst vq;(try dsimp only at hM);replace H:=H.bk aa;clear aa
  refine s_nil ⟨(H.pk [0,1,2,3,4,5,6,7,8,9,10]),?_⟩
  refine d_l rfl ?_;obtain ⟨ce,br,hM⟩:=M.e_bind hM;refine s_callm (f:=31) (fs:=[.agg #[I stage]]) rfl cf31 [I r4] rfl (zb8 stage r4 br _ (H.gt 11)) ?_
  rintro vq cf ⟨r5,rfl,hvq,aa⟩
  subst vq;(try dsimp only at hM);replace H:=H.bk aa;clear aa
  refine s_nil ⟨(H.pk [0,1,2,3,4,5,6,7,8,9,10]),?_⟩
  refine d_nil ?_
  refine W.cond r5 rfl (fun aT=>?_) (fun aT=>?_)
  ·replace hM:=M.e_t hM aT;obtain ⟨cg,hM⟩:=M.e_gd hM;refine kg 5 ?_;refine t_sw 1 1 [I (s3+1)] (I (s3+1)) H rfl rfl Sz3 rfl rfl rfl rfl ?_;intro ch H;refine s_nil ?_
   exact ⟨(s2,s3+1),[cBlk aj [I s2,I (s3+1)] 41],(M.e_pure hM).symm,rfl,H.pick [1,2,3,4,5,6,7,8,9,10] (by decide) rfl⟩
  replace hM:=M.e_f hM aT;refine W.skip ?_
  exact ⟨(s2,s3),[cBlk aj [I s2,I s3] 41],(M.e_pure hM).symm,rfl,H.pick [1,2,3,4,5,6,7,8,9,10] (by decide) rfl⟩
 replace H:St w bb (cAll (cObj aK (.loop aP) :: [cBlk aj [I 0,I 0] 41]) :: [cMk (aB :: ([])),cBlk aq [I ao] 3,cBlk ar [I ap] 3,cBlk au [Pq ae] 87,cBlk ax [.func (.func 31) #[.agg #[I stage]] #[]] 92,cBlk ae [ab,ac,I ak,I al,.map (some ag)] 108,cMl I encSp ag am,cBlk aw [I 0,I 0] 41,cBlk av [ab,ac,I ah,I ai] 48]) R:=St.bundleB (A:=cObj aK (.loop aP) :: [cBlk aj [I 0,I 0] 41]) (T:=[cMk (aB :: ([])),cBlk aq [I ao] 3,cBlk ar [I ap] 3,cBlk au [Pq ae] 87,cBlk ax [.func (.func 31) #[.agg #[I stage]] #[]] 92,cBlk ae [ab,ac,I ak,I al,.map (some ag)] 108,cMl I encSp ag am,cBlk aw [I 0,I 0] 41,cBlk av [ab,ac,I ah,I ai] 48]) rfl (H.pk [0,2,1,3,4,5,6,7,8,9,10])
 refine (za4 (M.yl (zao stage)) (.inl (0,0)) ao ap aC aD ak al am hYC ⟨_,rfl,rfl⟩ (Has.here (k:=1) rfl) (Has.here (k:=2) rfl) (aE.app _) aI (aF.app _) aJ (Has.here (k:=6) rfl) (Has.here (k:=5) rfl) (Has.here (k:=3) rfl) ba _ (H.gt 9)).mono ?_
 rintro vq ci ⟨bt,cj,rfl,hvq,aa,aW⟩
 replace H:=H.back aa rfl
 clear aa hYC
 rcases bt with ⟨s2,s3⟩ | _
 ·(try dsimp only at hM)
  obtain ⟨_,rfl,rfl⟩:=aW
  refine ⟨_,[cBlk aj [I s2,I s3] 41,cBlk aq [I ao] 3,cBlk ar [I ap] 3,cBlk au [Pq ae] 87,cBlk ax [.func (.func 31) #[.agg #[I stage]] #[]] 92,cBlk ae [ab,ac,I ak,I al,.map (some ag)] 108,cMl I encSp ag am,cBlk aw [I 0,I 0] 41,cBlk av [ab,ac,I ah,I ai] 48],H.unbundle.pick [0,2,1,3,4,5,6,7,8,9,10] (by decide) rfl,aQ.nb,?_⟩
  intro ck H
  rw [aQ.pd]
  replace H:=H.nf
  try simp only []
  replace H:=H.pk [0,1,8];refine WD.seq<|WD.of ?_;refine kg 2 ?_;refine t_sw 2 0 [I s2,I s3] (.agg #[I s2,I s3]) H rfl rfl Sz41 rfl rfl rfl rfl ?_;intro cl H;refine kg 2 ?_;refine WD.of ?_;refine W.ret ?_;refine bodyD_r (H.pk [0,1,2]) ?_;intro cn H;replace H:=H.nf
  have bu:=(H.bl 1)
  have aO:=M.e_pure hM
  exact ⟨_,(resE_ofn (vs:=[.agg #[I s2,I s3],I 0]) rfl rfl (.cell (v:=.agg #[I s2,I s3]) rfl (run_loadVar_ag (ds:=[I s2,I s3]) Ag41 Sz41 bu rfl rfl)<|.tmp (v:=I 0) rfl<|.nil)),⟨s2,s3,0,aO,rfl,(H.pk [])⟩⟩
 obtain ⟨_,_,h_⟩:=aW; exact h_.elim

end Go.Proofs.YtpiebomegbbpcaaGreat
end
section
set_option maxRecDepth 100000
set_option maxHeartbeats 16000000
namespace Go.Proofs.YtpiebomegbbpcaaGreat
open Go Go.Nm
attribute [local irreducible] gd execOp SL SLD SLT WR
def zbk  : (Int × Int)->M ((Int × Int) ⊕ Int):=fun (a,b) =>
  bif b != 0 then (
  M.grd (decide ((0:Int)<=a)&&decide ((0:Int)<b)) <|
  M.pure (.inl (b,a % b)))
  else (
  M.pure (.inr a))
def za5 (n aa:Int):M (Int × Int) :=
  M.bind (M.iter (zbk) (n,aa)) fun a2 =>
  M.grd (decide (0<=n)&&decide (n<=(9223372036854775807:Int))&&decide ((0:Int)<a2)) <|
  M.grd (decide (0<=aa)&&decide (aa<=(9223372036854775807:Int))&&decide ((0:Int)<a2)) <|
  M.pure ((n / a2),(aa / a2))
theorem zcT {R:List Chunk}  (n:Int) (aa:Int)  {r:(Int × Int)} (hM:(za5 n aa).Ends r) (w:World) (H:St w w [] R):Ret Tryz.prog 34 #[I n,I aa] w fun v w'=>∃ (y0:Int) (y1:Int),(y0,y1)=r/\v = .agg #[I y0,I y1]/\St w w' [] R:=by
 refine ret_of_W Tryz.func34 rfl rfl rfl ?_;refine kg 2 ?_;refine t_alloc (cs:=[I 0,I 0]) H Al56 rfl ?_;intro ae ar H;refine kg 10 ?_;obtain ⟨aj,ag,ak⟩:=M.e_bind hM
 obtain ⟨au,ag⟩:=M.e_iter ag
 refine W.loop (fun m σ W=>∃ (a:Int) (b:Int) (ρ:Env),σ=upds ρ [(0,I n),(1,I aa),(4,Pq ae),(5,I a),(6,I b)]/\M.iterN (zbk) m (a,b)=some aj/\St w W [cBlk ae [I 0,I 0] 56] R) ?_ ?_
 ·exact ⟨_,n,aa,_,upds_of _ _ ⟨rfl,rfl,rfl,rfl,rfl,trivial⟩,ag,H⟩
 rintro av σ aw ⟨a,b,ρ,rfl,ah,H⟩
 obtain ⟨al,am,ax,hM,ai⟩:=M.e_iterN ah
 simp only [zbk] at hM
 clear ah;refine kg 6 ?_
 refine W.cond (b != 0) rfl (fun ab=>?_) (fun ab=>?_)
 ·replace hM:=M.e_t hM ab
  replace ab:=dI ab
  refine kg 2 ?_;refine W.draw (fun W=>St w W [cBlk ae [I 0,I 0] 56] R) [(0,true),(1,true),(2,true),(3,true),(4,true),(5,true)] mixed (by decide +kernel) rfl ?_;intro ay ac;replace H:=H.ext ac;clear ac
  refine ⟨(H.pk [0]),?_⟩
  obtain ⟨az,hM⟩:=M.e_gd hM;refine kg 3 ?_;refine d_q rfl (fun w' H=>x_rem' (a:=a) (b:=b) rfl rfl (by omega)) ?_;refine kg 3 ?_
  exact ⟨al,am,b,a % b,_,upds_of _ _ ⟨rfl,rfl,rfl,rfl,rfl,trivial⟩,M.e_inl hM ai,H⟩
 replace hM:=M.e_f hM ab
 replace ab:=dI ab
 refine W.exit ?_
 have ao:=M.e_inr hM ai
 subst ao;replace hM:=ak;(try dsimp only at hM);refine W.seq ?_;refine W.draw (fun W=>St w W [] R) [(0,true),(1,true),(2,true),(3,true),(4,true),(5,true),(6,true),(7,false)] mixed (by decide +kernel) rfl ?_;intro aA ac;replace H:=H.ext ac;clear ac
 refine ⟨(H.pk []),?_⟩
 obtain ⟨aB,hM⟩:=M.e_gd hM;obtain ⟨aC,hM⟩:=M.e_gd hM;refine kg 6 ?_;refine d_q rfl (fun w' H=>x_bld (ps:=[(0,I (n / a)),(1,I (aa / a))]) (zs:=[I 0,I 0]) (L':=[I (n / a),I (aa / a)]) rfl Tryz.underlying56 Al56 rfl (Bd56 Tryz.underlying56) (.cons (cs:=[I (n / a)]) rfl rfl rfl rfl rfl<|.cons (cs:=[I (aa / a)]) rfl rfl rfl rfl rfl<|.nil))<|d_l rfl ?_;refine t_sw 0 0 [I (n / a),I (aa / a)] (.agg #[I (n / a),I (aa / a)]) H rfl rfl Sz56 rfl rfl rfl rfl ?_;intro aD H
 refine s_nil ⟨(H.pk []),?_⟩
 refine d_nil ?_;refine W.ret ?_
 have ap:=(H.bl 0)
 have aq:=M.e_pure hM
 exact ⟨_,(resE_of1 (v:=.agg #[I (n / a),I (aa / a)]) rfl (.cell (v:=.agg #[I (n / a),I (aa / a)]) rfl (run_loadVar_ag (ds:=[I (n / a),I (aa / a)]) Ag56 Sz56 ap rfl rfl)<|.nil)),⟨(n / a),(aa / a),aq,rfl,(H.pk [])⟩⟩

def zaF (ac:List Yr) (ae:List Old10) (aa ab stage:Int):M (Int × Int × Int × Int × Int) :=
  M.bind (zai ac ae aa ab aa ab stage) fun (ag,ah,r1) =>
  bif r1 != 0 then (
  M.pure (0,0,0,0,r1))
  else (
  M.grd (decide ((-9223372036854775808:Int)<=(ab-aa))&&decide ((ab-aa)<=(9223372036854775807:Int))) <|
  M.grd (decide ((-9223372036854775808:Int)<=((ab-aa)+1))&&decide (((ab-aa)+1)<=(9223372036854775807:Int))) <|
  M.bind (za5 ag ((ab-aa)+1)) fun (r0,ai) =>
  M.bind (za5 ah ((ab-aa)+1)) fun (aj,ak) =>
  M.pure (r0,ai,aj,ak,0))
theorem zau {R:List Chunk} {au:Cells} {ah:Value} {av:Cells} {ai:Value} (aq:List Yr) (ar:List Old10) (aa:Int) (ab:Int) (stage:Int) (ay:Reads R au) (az:Sl au ah aq) (aA:Reads R av) (aB:Sl av ai ar) {r:(Int × Int × Int × Int × Int)} (hM:(zaF aq ar aa ab stage).Ends r) (w:World) (H:St w w [] R):Ret Tryz.prog 11 #[.agg #[ah,ai,I aa,I ab],I stage] w fun v w'=>∃ (y0:Int) (y1:Int) (y2:Int) (y3:Int) (y4:Int),(y0,y1,y2,y3,y4)=r/\v = .tuple #[.agg #[I y0,I y1],.agg #[I y2,I y3],I y4]/\St w w' [] R:=by
 refine ret_of_W Tryz.func11 rfl rfl rfl ?_;refine kg 2 ?_;refine t_bx [ah,ai,I aa,I ab] H rfl ?_;intro aw aN H;refine t_alloc (cs:=[I 0,I 0]) H Al56 rfl ?_;intro aO aP H;refine t_alloc (cs:=[I 0,I 0]) H Al56 rfl ?_;intro aQ aR H;refine kg 10 ?_;obtain ⟨aS,aC,hM⟩:=M.e_bind hM;refine s_call cf10 [.agg #[ah,ai,I aa,I ab],I aa,I ab,I stage] rfl (zaP aq ar aa ab aa ab stage (ay.app _) az (aA.app _) aB aC _ (H.gt 3)) ?_
 rintro vq aT ⟨aj,ak,r1,rfl,hvq,ac⟩
 subst vq;(try dsimp only at hM);replace H:=H.bk ac;clear ac;refine kg 3 ?_;refine t_alloc (cs:=[I 0,I 0]) H Al41 rfl ?_;intro ax aU H;refine t_sw 0 0 [I aj,I ak] (.agg #[I aj,I ak]) H rfl rfl Sz41 rfl rfl rfl rfl ?_;intro aV H;refine kg 8 ?_
 refine W.cond (r1 != 0) rfl (fun ae=>?_) (fun ae=>?_)
 ·replace hM:=M.e_t hM ae
  replace ae:=dI ae
  refine W.seq ?_;refine W.drawT (fun W=>St w W [cBlk ax [I aj,I ak] 41,cBlk aw [ah,ai,I aa,I ab] 48] R) (.q 2 (.l2 0 (.l2 1 (.l 3 (.l 4 (.q 5 .nil))) 3 (.l 1 (.l 4 (.q 5 .nil)))) 1 (.l 0 (.l 3 (.l 4 (.q 5 .nil)))))) mixed (by decide +kernel) rfl ?_;intro aW ap;replace H:=H.ext ap;clear ap
  refine ⟨(H.pk [0,3]),?_⟩
  refine kg 1 ?_;refine t_l2 rfl rfl ?_ ?_
  ·skip
   refine kg 1 ?_
   refine s_nil ⟨(H.pk [0,3]),?_⟩
   refine t_l2 rfl rfl ?_ ?_
   ·skip
    refine kg 1 ?_
    refine s_nil ⟨(H.pk [0,3]),?_⟩
    refine t_l rfl ?_;refine t_sw 2 0 [I 0,I 0] (.agg #[I 0,I 0]) H rfl rfl Sz56 rfl rfl rfl rfl ?_;intro aX H
    refine s_nil ⟨(H.pk [0,3]),?_⟩
    refine t_l rfl ?_;refine t_sw 1 0 [I 0,I 0] (.agg #[I 0,I 0]) H rfl rfl Sz56 rfl rfl rfl rfl ?_;intro aY H
    refine s_nil ⟨(H.pk [0,3]),?_⟩
    refine kg 2 ?_;replace H:=H.pk [1,2];refine W.ret ?_
    have aD:=(H.bl 1)
    have aE:=(H.bl 0)
    have ag:=M.e_pure hM
    exact ⟨_,(resE_ofn (vs:=[.agg #[I 0,I 0],.agg #[I 0,I 0],I r1]) rfl rfl (.cell (v:=.agg #[I 0,I 0]) rfl (run_loadVar_ag (ds:=[I 0,I 0]) Ag56 Sz56 aD rfl rfl)<|.cell (v:=.agg #[I 0,I 0]) rfl (run_loadVar_ag (ds:=[I 0,I 0]) Ag56 Sz56 aE rfl rfl)<|.tmp (v:=I r1) rfl<|.nil)),⟨0,0,0,0,r1,ag,rfl,(H.pk [])⟩⟩
   skip
   refine t_sw 2 0 [I 0,I 0] (.agg #[I 0,I 0]) H rfl rfl Sz56 rfl rfl rfl rfl ?_;intro aZ H
   refine s_nil ⟨(H.pk [0,3]),?_⟩
   refine t_l rfl ?_;refine kg 1 ?_
   refine s_nil ⟨(H.pk [0,3]),?_⟩
   refine t_l rfl ?_;refine t_sw 1 0 [I 0,I 0] (.agg #[I 0,I 0]) H rfl rfl Sz56 rfl rfl rfl rfl ?_;intro a6 H
   refine s_nil ⟨(H.pk [0,3]),?_⟩
   refine kg 2 ?_;replace H:=H.pk [1,2];refine W.ret ?_
   have aF:=(H.bl 1)
   have aG:=(H.bl 0)
   have ag:=M.e_pure hM
   exact ⟨_,(resE_ofn (vs:=[.agg #[I 0,I 0],.agg #[I 0,I 0],I r1]) rfl rfl (.cell (v:=.agg #[I 0,I 0]) rfl (run_loadVar_ag (ds:=[I 0,I 0]) Ag56 Sz56 aF rfl rfl)<|.cell (v:=.agg #[I 0,I 0]) rfl (run_loadVar_ag (ds:=[I 0,I 0]) Ag56 Sz56 aG rfl rfl)<|.tmp (v:=I r1) rfl<|.nil)),⟨0,0,0,0,r1,ag,rfl,(H.pk [])⟩⟩
  skip
  refine kg 1 ?_
  refine s_nil ⟨(H.pk [0,3]),?_⟩
  refine t_l rfl ?_;refine kg 1 ?_
  refine s_nil ⟨(H.pk [0,3]),?_⟩
  refine t_l rfl ?_;refine t_sw 2 0 [I 0,I 0] (.agg #[I 0,I 0]) H rfl rfl Sz56 rfl rfl rfl rfl ?_;intro a7 H
  refine s_nil ⟨(H.pk [0,3]),?_⟩
  refine t_l rfl ?_;refine t_sw 1 0 [I 0,I 0] (.agg #[I 0,I 0]) H rfl rfl Sz56 rfl rfl rfl rfl ?_;intro a8 H
  refine s_nil ⟨(H.pk [0,3]),?_⟩
  refine kg 2 ?_;replace H:=H.pk [1,2];refine W.ret ?_
  have aH:=(H.bl 1)
  have aI:=(H.bl 0)
  have ag:=M.e_pure hM
  exact ⟨_,(resE_ofn (vs:=[.agg #[I 0,I 0],.agg #[I 0,I 0],I r1]) rfl rfl (.cell (v:=.agg #[I 0,I 0]) rfl (run_loadVar_ag (ds:=[I 0,I 0]) Ag56 Sz56 aH rfl rfl)<|.cell (v:=.agg #[I 0,I 0]) rfl (run_loadVar_ag (ds:=[I 0,I 0]) Ag56 Sz56 aI rfl rfl)<|.tmp (v:=I r1) rfl<|.nil)),⟨0,0,0,0,r1,ag,rfl,(H.pk [])⟩⟩
 replace hM:=M.e_f hM ae
 replace ae:=dI ae
 obtain ⟨ba,hM⟩:=M.e_gd hM;obtain ⟨bb,hM⟩:=M.e_gd hM;refine kg 12 ?_;refine W.draw (fun W=>St w W [cBlk ax [I aj,I ak] 41,cBlk aw [ah,ai,I aa,I ab] 48] R) [(0,true),(1,true),(2,true),(4,true),(5,true),(6,true),(3,false),(7,false),(8,false),(9,false),(10,true)] mixed (by decide +kernel) rfl ?_;intro bc ap;replace H:=H.ext ap;clear ap
 refine ⟨(H.pk [0,3]),?_⟩
 refine kg 6 ?_;refine d_l rfl ?_;obtain ⟨bf,aJ,hM⟩:=M.e_bind hM;refine s_call cf34 [I aj,I ((ab-aa)+1)] rfl (zcT aj ((ab-aa)+1) aJ _ (H.gt 4)) ?_
 rintro vq bg ⟨r0,al,rfl,hvq,ac⟩
 subst vq;(try dsimp only at hM);replace H:=H.bk ac;clear ac
 refine s_nil ⟨(H.pk [0,3]),?_⟩
 refine d_l rfl ?_;obtain ⟨bh,aK,hM⟩:=M.e_bind hM;refine s_call cf34 [I ak,I ((ab-aa)+1)] rfl (zcT ak ((ab-aa)+1) aK _ (H.gt 4)) ?_
 rintro vq bi ⟨am,ao,rfl,hvq,ac⟩
 subst vq;(try dsimp only at hM);replace H:=H.bk ac;clear ac
 refine s_nil ⟨(H.pk [0,3]),?_⟩
 refine d_l rfl ?_;refine t_sw 2 0 [I r0,I al] (.agg #[I r0,I al]) H rfl rfl Sz56 rfl rfl rfl rfl ?_;intro bj H
 refine s_nil ⟨(H.pk [0,3]),?_⟩
 refine d_l rfl ?_;refine t_sw 1 0 [I am,I ao] (.agg #[I am,I ao]) H rfl rfl Sz56 rfl rfl rfl rfl ?_;intro bm H
 refine s_nil ⟨(H.pk [0,3]),?_⟩
 refine kg 2 ?_;replace H:=H.pk [1,2];refine W.ret ?_
 have aL:=(H.bl 1)
 have aM:=(H.bl 0)
 have ag:=M.e_pure hM
 exact ⟨_,(resE_ofn (vs:=[.agg #[I r0,I al],.agg #[I am,I ao],I 0]) rfl rfl (.cell (v:=.agg #[I r0,I al]) rfl (run_loadVar_ag (ds:=[I r0,I al]) Ag56 Sz56 aL rfl rfl)<|.cell (v:=.agg #[I am,I ao]) rfl (run_loadVar_ag (ds:=[I am,I ao]) Ag56 Sz56 aM rfl rfl)<|.tmp (v:=I 0) rfl<|.nil)),⟨r0,al,am,ao,0,ag,rfl,(H.pk [])⟩⟩

def zaD  : (List Int)->(Int × Span)->M ((List Int) ⊕ Unit):=fun l (x2,x3) =>
  M.bind (zcp x3) fun r2 =>
  M.grd (decide ((l.length+([(r2:Int)]).length)*8<=140737488355328)) <|
  M.pure (.inl (l++([(r2:Int)])))
def zb1 (ab:List Yr) (ac:List Old10) (ae ag:Int) (ah:List (Int × Span)) (ai aj aa:Int):M Int :=
  M.bind (zaj ab ac ae ag ah ai aj) fun (ak,al) =>
  M.bind (zal (M.yl zaD) (.inl ([])) ak al ab ac ae ag ah) fun x_=>match x_ with
  | .inl l=>(
  M.grd (decide (l.length<=1000000)) <|
  M.grd (decide ((-9223372036854775808:Int)<=(((isort l).length:Int)-aa))&&decide ((((isort l).length:Int)-aa)<=(9223372036854775807:Int))) <|
  M.grd (decide ((0:Int)<=(((isort l).length:Int)-aa))&&decide ((((isort l).length:Int)-aa)<((isort l).length:Int))) <|
  M.pure ((isort l).getD (Int.toNat (((isort l).length:Int)-aa)) 0))
  | .inr _=>M.fail
theorem zdq {R:List Chunk} {aM:Nat} {ag:Nat} {aN:Cells} {aO:Value} {aP:Cells} {aQ:Value} {aR:Nat} {aS:Nat} {aT:Nat} {aU:Nat} (au:List Yr) (av:List Old10) (aw:Int) (ax:Int) (ay:List (Int × Span)) (az:Int) (aA:Int) (aH:Int) (aB:Reads R aN) (aI:Sl aN aO au) (aC:Reads R aP) (aJ:Sl aP aQ av) (aD:Has R (cMl I encSp aR ay)) (aE:Has R (cBlk ag [aO,aQ,I aw,I ax,.map (some aR)] 108)) (aV:Has R (cBlk aM [Pq ag] 87)) (aW:Has R (cBlk aS [I az] 3)) (aX:Has R (cBlk aT [I aA] 3)) (aY:Has R (cBlk aU [I aH] 3)) {r:Int} (hM:(zb1 au av aw ax ay az aA aH).Ends r) (w:World) (H:St w w [] R):Ret Tryz.prog 53 #[.agg #[.func (.func 60) #[] #[]],Pq aM,Pq aS,Pq aT,Pq aU] w fun v w'=>∃ (y0:Int),y0=r/\v=I y0/\St w w' [] R:=by
 refine ret_of_WD Tryz.func53 rfl rfl rfl ?_
 replace H:St w w [cMk ([])] R:=H.mk0
 have bw:=aI.len_le
 have bx:=aJ.len_le
 unfold zb1 at hM
 refine WD.seq<|WD.of<|W.region rfl ?_;refine t_bx [.func (.func 60) #[] #[]] H rfl ?_;intro am bz H;refine kg 2 ?_;refine WD.seq<|WD.of<|W.region rfl ?_;refine t_alloc (cs:=[.slice none 0 0]) H Al28 rfl ?_;intro ac bA H;refine s_nil<|WD.seq<|WD.seq<|WD.of ?_;refine kg 4 ?_;obtain ⟨bB,bc,hM⟩:=M.e_bind hM;refine s_call cf29 [Pq ag,I az,I aA] rfl (zbe au av aw ax ay az aA (aB.app _) aI (aC.app _) aJ (aD.app _) (aE.app _) bc _ (H.gt 3)) ?_
 rintro vq bC ⟨ah,ai,aj,ak,al,rfl,hvq,ab⟩
 subst vq;(try dsimp only at hM);replace H:=H.bk ab;clear ab;refine s_nil<|WD.block ?_
 replace H:=H.nilOwn (α:=Int) 3
 obtain ⟨bD,bf,hM⟩:=M.e_bind hM;refine WD.range (L:=[cOwn (α:=Int) 3 (.slice none 0 0) ([]),cBlk ac [(.slice none 0 0)] 28,cBlk aj [I ah] 3,cBlk ak [I ai] 3,cBlk al [Pq ag] 87,cBlk am [.func (.func 60) #[] #[]] 101]) [Pq aj,Pq ak,Pq al] (H.pk [6,0,4,1,2,3,5]) rfl cf59 ?_;intro aF ao aK bg aL H
 have hYC:YieldC Tryz.prog ([cMk (ao :: ([])),cBlk aj [I ah] 3,cBlk ak [I ai] 3,cBlk al [Pq ag] 87,cBlk am [.func (.func 60) #[] #[]] 101]++R) arISpan (yJ aF aK (fun l aG=>∃ (aa:Value),aG=[cOwn (α:=Int) 3 aa l,cBlk ac [aa] 28]) (fun (_:Unit) _=>False) (fun _=>.ret)) (.func (.yield aF) #[] #[]) (M.yl zaD):=by
  refine YieldC.mk2 aL (fun l aG=>∃ (aa:Value),aG=[cOwn (α:=Int) 3 aa l,cBlk ac [aa] 28]) (fun (_:Unit) _=>False) (fun _=>.ret) zaD (by rintro l _ h_; obtain ⟨_,rfl⟩:=h_; rfl) (fun _ _ h_=>h_.elim) rfl (arISpan_len rfl) ?_;intro C_ bE x_ bh
  obtain ⟨x2,x3⟩:=x_
  obtain rfl:=bh
  intro w R ae aG s_ r bi hM H
  skip
  obtain ⟨l,bj⟩:∃ y_,y_=s_:=⟨_,rfl⟩
  subst bj
  obtain ⟨aa,rfl⟩:=bi
  replace H:=H.nf;refine W.region rfl ?_;refine t_alloc (cs:=[I 0,I 0]) H Al41 rfl ?_;intro aZ bF H;refine t_sw 0 0 [I x3.lo,I x3.hi] (.agg #[I x3.lo,I x3.hi]) H rfl rfl Sz41 rfl rfl rfl rfl ?_;intro bG H;refine s_nil ?_
  refine ⟨rfl,[cBlk aZ [I x3.lo,I x3.hi] 41],H.pick [0,1,2,3,4,5,6,7] (by decide) rfl,?_⟩
  clear H ae
  intro w R ae H
  replace aB:=aB.sub ae
  replace aC:=aC.sub ae
  replace aD:=aD.sub ae
  replace aE:=aE.sub ae
  replace aV:=aV.sub ae
  replace aW:=aW.sub ae
  replace aX:=aX.sub ae
  replace aY:=aY.sub ae
  replace hM:(zaD l (x2,x3)).Ends r:=hM
  simp only [zaD] at hM
  replace H:=H.nf;refine W.block ?_;refine W.drawT (fun W=>St w W [cBlk aZ [I x3.lo,I x3.hi] 41,cMk (ao :: ([])),cBlk aj [I ah] 3,cBlk ak [I ai] 3,cBlk al [Pq ag] 87,cBlk am [.func (.func 60) #[] #[]] 101] R) (.q 1 (.q 2 (.q 3 (.l2 0 (.l 4 (.l 5 (.l 6 (.l 7 .nil)))) 4 (.l2 0 (.l 5 (.l 6 (.l 7 .nil))) 5 (.l 0 (.l 6 (.l 7 .nil)))))))) mixed (by decide +kernel) rfl ?_;intro bH a6;replace H:=H.ext a6;clear a6
  refine ⟨(H.pk [0,3,4,5,6,7]),?_⟩
  refine kg 3 ?_;refine t_l2 rfl rfl ?_ ?_
  ·skip
   refine kg 1 ?_
   have bI:=Sl.cells (H.os 1)
   have bJ:=Sl.oc (H.os 1)
   refine s_nil ⟨(H.pk [0,3,4,5,6,7]),?_⟩
   refine t_l rfl ?_;obtain ⟨bK,bm,hM⟩:=M.e_bind hM;refine s_callv (f:=60) rfl cf60 [.agg #[I x3.lo,I x3.hi]] rfl (zcn x3 bm _ (H.gt 8)) ?_
   rintro vq bL ⟨r2,rfl,hvq,ab⟩
   subst vq;(try dsimp only at hM);replace H:=H.bk ab;clear ab
   refine s_nil ⟨(H.pk [0,3,4,5,6,7]),?_⟩
   refine t_l rfl ?_;refine t_bs (α:=Int) T28 [I r2] [(r2:Int)] H rfl (.cons rfl (Flat.rep_enc _ (r2:Int))<|.nil) rfl rfl rfl ?_;intro bn bM H
   have bN:=Sl.cells (H.os 0)
   have bO:=Sl.oc (H.os 0)
   refine s_nil ⟨(H.pk [1,4,5,6,7,8]),?_⟩
   refine t_l rfl ?_;obtain ⟨bP,hM⟩:=M.e_gd hM;refine t_app (α:=Int) (k:=2) (l:=l) (l2:=[(r2:Int)]) (l':=l++([(r2:Int)])) (vy:=bn) T28 rfl H rfl rfl rfl (H.os 0) (H.ol 0) (rfl) (by first | omega | (simp only [List.length_nil] at *; omega)) ?_;intro ap bQ H;replace H:=H.nf
   have bR:=Sl.cells (H.os 2)
   have bS:=Sl.oc (H.os 2)
   refine s_nil ⟨(H.pk [1,4,5,6,7,8]),?_⟩
   refine t_l rfl ?_;refine t_sw 3 0 [ap] ap H rfl rfl Sz28 (Sl.cells (H.os 2)) rfl rfl (by simp only [List.all_cons,List.all_nil,Bool.true_and,Bool.and_true,Sl.oc (H.os 2)]; try rfl) ?_;intro bT H
   refine s_nil ⟨(H.pk [1,4,5,6,7,8]),?_⟩
   refine t_nil ?_
   exact ⟨l++([(r2:Int)]),[cOwn (α:=Int) 3 ap (l++([(r2:Int)])),cBlk ac [ap] 28],(M.e_pure hM).symm,⟨ap,rfl⟩,H.pick [2,3,4,5,6,7,8] (by decide) rfl⟩
  skip
  obtain ⟨bU,bo,hM⟩:=M.e_bind hM;refine s_callv (f:=60) rfl cf60 [.agg #[I x3.lo,I x3.hi]] rfl (zcn x3 bo _ (H.gt 8)) ?_
  rintro vq bV ⟨r2,rfl,hvq,ab⟩
  subst vq;(try dsimp only at hM);replace H:=H.bk ab;clear ab
  have bW:=Sl.cells (H.os 1)
  have bX:=Sl.oc (H.os 1)
  refine s_nil ⟨(H.pk [0,3,4,5,6,7]),?_⟩
  obtain ⟨bY,hM⟩:=M.e_gd hM;refine t_l2 rfl rfl ?_ ?_
  ·skip
   refine kg 1 ?_
   refine s_nil ⟨(H.pk [0,3,4,5,6,7]),?_⟩
   refine t_l rfl ?_;refine t_bs (α:=Int) T28 [I r2] [(r2:Int)] H rfl (.cons rfl (Flat.rep_enc _ (r2:Int))<|.nil) rfl rfl rfl ?_;intro bp bZ H
   have b3:=Sl.cells (H.os 0)
   have b4:=Sl.oc (H.os 0)
   refine s_nil ⟨(H.pk [1,4,5,6,7,8]),?_⟩
   refine t_l rfl ?_;refine t_app (α:=Int) (k:=2) (l:=l) (l2:=[(r2:Int)]) (l':=l++([(r2:Int)])) (vy:=bp) T28 rfl H rfl rfl rfl (H.os 0) (H.ol 0) (rfl) (by first | omega | (simp only [List.length_nil] at *; omega)) ?_;intro aq b5 H;replace H:=H.nf
   have b6:=Sl.cells (H.os 2)
   have b7:=Sl.oc (H.os 2)
   refine s_nil ⟨(H.pk [1,4,5,6,7,8]),?_⟩
   refine t_l rfl ?_;refine t_sw 3 0 [aq] aq H rfl rfl Sz28 (Sl.cells (H.os 2)) rfl rfl (by simp only [List.all_cons,List.all_nil,Bool.true_and,Bool.and_true,Sl.oc (H.os 2)]; try rfl) ?_;intro b8 H
   refine s_nil ⟨(H.pk [1,4,5,6,7,8]),?_⟩
   refine t_nil ?_
   exact ⟨l++([(r2:Int)]),[cOwn (α:=Int) 3 aq (l++([(r2:Int)])),cBlk ac [aq] 28],(M.e_pure hM).symm,⟨aq,rfl⟩,H.pick [2,3,4,5,6,7,8] (by decide) rfl⟩
  skip
  refine t_bs (α:=Int) T28 [I r2] [(r2:Int)] H rfl (.cons rfl (Flat.rep_enc _ (r2:Int))<|.nil) rfl rfl rfl ?_;intro br b9 H
  have cb:=Sl.cells (H.os 0)
  have cc:=Sl.oc (H.os 0)
  refine s_nil ⟨(H.pk [1,4,5,6,7,8]),?_⟩
  refine t_l rfl ?_;refine kg 1 ?_
  refine s_nil ⟨(H.pk [1,4,5,6,7,8]),?_⟩
  refine t_l rfl ?_;refine t_app (α:=Int) (k:=2) (l:=l) (l2:=[(r2:Int)]) (l':=l++([(r2:Int)])) (vy:=br) T28 rfl H rfl rfl rfl (H.os 0) (H.ol 0) (rfl) (by first | omega | (simp only [List.length_nil] at *; omega)) ?_;intro ar cd H;replace H:=H.nf
  have ce:=Sl.cells (H.os 2)
  have cf:=Sl.oc (H.os 2)
  refine s_nil ⟨(H.pk [1,4,5,6,7,8]),?_⟩
  refine t_l rfl ?_;refine t_sw 3 0 [ar] ar H rfl rfl Sz28 (Sl.cells (H.os 2)) rfl rfl (by simp only [List.all_cons,List.all_nil,Bool.true_and,Bool.and_true,Sl.oc (H.os 2)]; try rfl) ?_;intro cg H
  refine s_nil ⟨(H.pk [1,4,5,6,7,8]),?_⟩
  refine t_nil ?_
  exact ⟨l++([(r2:Int)]),[cOwn (α:=Int) 3 ar (l++([(r2:Int)])),cBlk ac [ar] 28],(M.e_pure hM).symm,⟨ar,rfl⟩,H.pick [2,3,4,5,6,7,8] (by decide) rfl⟩
 replace H:St w bg (cAll (cObj aF (.loop aK) :: [cOwn (α:=Int) 3 (.slice none 0 0) ([]),cBlk ac [(.slice none 0 0)] 28]) :: [cMk (ao :: ([])),cBlk aj [I ah] 3,cBlk ak [I ai] 3,cBlk al [Pq ag] 87,cBlk am [.func (.func 60) #[] #[]] 101]) R:=St.bundleB (A:=cObj aF (.loop aK) :: [cOwn (α:=Int) 3 (.slice none 0 0) ([]),cBlk ac [(.slice none 0 0)] 28]) (T:=[cMk (ao :: ([])),cBlk aj [I ah] 3,cBlk ak [I ai] 3,cBlk al [Pq ag] 87,cBlk am [.func (.func 60) #[] #[]] 101]) rfl (H.pk [0,2,3,1,4,5,6,7])
 refine (za4 (M.yl zaD) (.inl ([])) ah ai au av aw ax ay hYC ⟨_,rfl,⟨(.slice none 0 0),rfl⟩⟩ (Has.here (k:=1) rfl) (Has.here (k:=2) rfl) (aB.app _) aI (aC.app _) aJ (aD.app _) (aE.app _) (Has.here (k:=3) rfl) bf _ (H.gt 5)).mono ?_
 rintro vq ch ⟨bt,ci,rfl,hvq,ab,a7⟩
 replace H:=H.back ab rfl
 clear ab hYC
 rcases bt with l | _
 ·(try dsimp only at hM)
  obtain ⟨_,rfl,aa,rfl⟩:=a7
  refine ⟨_,[cOwn (α:=Int) 3 aa l,cBlk ac [aa] 28,cBlk aj [I ah] 3,cBlk ak [I ai] 3,cBlk al [Pq ag] 87,cBlk am [.func (.func 60) #[] #[]] 101],H.unbundle.pick [0,3,1,2,4,5,6,7] (by decide) rfl,aL.nb,?_⟩
  intro cj H
  rw [aL.pd]
  replace H:=H.nf
  try simp only []
  replace H:=H.pk [0,1,2];refine WD.seq<|WD.of ?_;obtain ⟨ck,hM⟩:=M.e_gd hM;refine kg 2 ?_;refine s_call cf54 [aa] rfl (sort_any (H.get (k:=1) rfl) (by omega)) ?_
  rintro _ bu ⟨rfl,a8,ba,bb⟩
  replace H:St w bu [cMk (ao :: ([])),cOwn (α:=Int) 3 aa (isort l),cBlk ac [aa] 28] R:=H.sorted (k:=1) rfl a8 ba bb rfl
  clear a8 ba bb
  refine s_nil<|WD.seq<|WD.of ?_
  have cl:=((H.os 1)).len_le
  obtain ⟨cn,hM⟩:=M.e_gd hM;obtain ⟨co,hM⟩:=M.e_gd hM;refine kg 10 ?_;replace H:=H.pk [0];refine WD.of ?_;refine W.ret ?_;refine bodyD_r (H.pk [0]) ?_;intro cp H;replace H:=H.nf
  have bv:=M.e_pure hM
  exact ⟨_,resE_tmp rfl,⟨((isort l).getD (Int.toNat (((isort l).length:Int)-aH)) 0),bv,rfl,H⟩⟩
 obtain ⟨_,_,h_⟩:=a7; exact h_.elim

def zaC  : (List Int)->(Int × Span)->M ((List Int) ⊕ Unit):=fun l (x2,x3) =>
  M.bind (zbq x3) fun r2 =>
  M.grd (decide ((l.length+([(r2:Int)]).length)*8<=140737488355328)) <|
  M.pure (.inl (l++([(r2:Int)])))
def zca (ab:List Yr) (ac:List Old10) (ae ag:Int) (ah:List (Int × Span)) (ai aj aa:Int):M Int :=
  M.bind (zaj ab ac ae ag ah ai aj) fun (ak,al) =>
  M.bind (zal (M.yl zaC) (.inl ([])) ak al ab ac ae ag ah) fun x_=>match x_ with
  | .inl l=>(
  M.grd (decide (l.length<=1000000)) <|
  M.grd (decide ((-9223372036854775808:Int)<=(((isort l).length:Int)-aa))&&decide ((((isort l).length:Int)-aa)<=(9223372036854775807:Int))) <|
  M.grd (decide ((0:Int)<=(((isort l).length:Int)-aa))&&decide ((((isort l).length:Int)-aa)<((isort l).length:Int))) <|
  M.pure ((isort l).getD (Int.toNat (((isort l).length:Int)-aa)) 0))
  | .inr _=>M.fail
theorem zdi {R:List Chunk} {aM:Nat} {ag:Nat} {aN:Cells} {aO:Value} {aP:Cells} {aQ:Value} {aR:Nat} {aS:Nat} {aT:Nat} {aU:Nat} (au:List Yr) (av:List Old10) (aw:Int) (ax:Int) (ay:List (Int × Span)) (az:Int) (aA:Int) (aH:Int) (aB:Reads R aN) (aI:Sl aN aO au) (aC:Reads R aP) (aJ:Sl aP aQ av) (aD:Has R (cMl I encSp aR ay)) (aE:Has R (cBlk ag [aO,aQ,I aw,I ax,.map (some aR)] 108)) (aV:Has R (cBlk aM [Pq ag] 87)) (aW:Has R (cBlk aS [I az] 3)) (aX:Has R (cBlk aT [I aA] 3)) (aY:Has R (cBlk aU [I aH] 3)) {r:Int} (hM:(zca au av aw ax ay az aA aH).Ends r) (w:World) (H:St w w [] R):Ret Tryz.prog 53 #[.agg #[.func (.func 61) #[] #[]],Pq aM,Pq aS,Pq aT,Pq aU] w fun v w'=>∃ (y0:Int),y0=r/\v=I y0/\St w w' [] R:=by
 refine ret_of_WD Tryz.func53 rfl rfl rfl ?_
 replace H:St w w [cMk ([])] R:=H.mk0
 have bw:=aI.len_le
 have bx:=aJ.len_le
 unfold zca at hM
 refine WD.seq<|WD.of<|W.region rfl ?_;refine t_bx [.func (.func 61) #[] #[]] H rfl ?_;intro am bz H;refine kg 2 ?_;refine WD.seq<|WD.of<|W.region rfl ?_;refine t_alloc (cs:=[.slice none 0 0]) H Al28 rfl ?_;intro ac bA H;refine s_nil<|WD.seq<|WD.seq<|WD.of ?_;refine kg 4 ?_;obtain ⟨bB,bc,hM⟩:=M.e_bind hM;refine s_call cf29 [Pq ag,I az,I aA] rfl (zbe au av aw ax ay az aA (aB.app _) aI (aC.app _) aJ (aD.app _) (aE.app _) bc _ (H.gt 3)) ?_
 rintro vq bC ⟨ah,ai,aj,ak,al,rfl,hvq,ab⟩
 subst vq;(try dsimp only at hM);replace H:=H.bk ab;clear ab;refine s_nil<|WD.block ?_
 replace H:=H.nilOwn (α:=Int) 3
 obtain ⟨bD,bf,hM⟩:=M.e_bind hM;refine WD.range (L:=[cOwn (α:=Int) 3 (.slice none 0 0) ([]),cBlk ac [(.slice none 0 0)] 28,cBlk aj [I ah] 3,cBlk ak [I ai] 3,cBlk al [Pq ag] 87,cBlk am [.func (.func 61) #[] #[]] 101]) [Pq aj,Pq ak,Pq al] (H.pk [6,0,4,1,2,3,5]) rfl cf59 ?_;intro aF ao aK bg aL H
 have hYC:YieldC Tryz.prog ([cMk (ao :: ([])),cBlk aj [I ah] 3,cBlk ak [I ai] 3,cBlk al [Pq ag] 87,cBlk am [.func (.func 61) #[] #[]] 101]++R) arISpan (yJ aF aK (fun l aG=>∃ (aa:Value),aG=[cOwn (α:=Int) 3 aa l,cBlk ac [aa] 28]) (fun (_:Unit) _=>False) (fun _=>.ret)) (.func (.yield aF) #[] #[]) (M.yl zaC):=by
  refine YieldC.mk2 aL (fun l aG=>∃ (aa:Value),aG=[cOwn (α:=Int) 3 aa l,cBlk ac [aa] 28]) (fun (_:Unit) _=>False) (fun _=>.ret) zaC (by rintro l _ h_; obtain ⟨_,rfl⟩:=h_; rfl) (fun _ _ h_=>h_.elim) rfl (arISpan_len rfl) ?_;intro C_ bE x_ bh
  obtain ⟨x2,x3⟩:=x_
  obtain rfl:=bh
  intro w R ae aG s_ r bi hM H
  skip
  obtain ⟨l,bj⟩:∃ y_,y_=s_:=⟨_,rfl⟩
  subst bj
  obtain ⟨aa,rfl⟩:=bi
  replace H:=H.nf;refine W.region rfl ?_;refine t_alloc (cs:=[I 0,I 0]) H Al41 rfl ?_;intro aZ bF H;refine t_sw 0 0 [I x3.lo,I x3.hi] (.agg #[I x3.lo,I x3.hi]) H rfl rfl Sz41 rfl rfl rfl rfl ?_;intro bG H;refine s_nil ?_
  refine ⟨rfl,[cBlk aZ [I x3.lo,I x3.hi] 41],H.pick [0,1,2,3,4,5,6,7] (by decide) rfl,?_⟩
  clear H ae
  intro w R ae H
  replace aB:=aB.sub ae
  replace aC:=aC.sub ae
  replace aD:=aD.sub ae
  replace aE:=aE.sub ae
  replace aV:=aV.sub ae
  replace aW:=aW.sub ae
  replace aX:=aX.sub ae
  replace aY:=aY.sub ae
  replace hM:(zaC l (x2,x3)).Ends r:=hM
  simp only [zaC] at hM
  replace H:=H.nf;refine W.block ?_;refine W.drawT (fun W=>St w W [cBlk aZ [I x3.lo,I x3.hi] 41,cMk (ao :: ([])),cBlk aj [I ah] 3,cBlk ak [I ai] 3,cBlk al [Pq ag] 87,cBlk am [.func (.func 61) #[] #[]] 101] R) (.q 1 (.q 2 (.q 3 (.l2 0 (.l 4 (.l 5 (.l 6 (.l 7 .nil)))) 4 (.l2 0 (.l 5 (.l 6 (.l 7 .nil))) 5 (.l 0 (.l 6 (.l 7 .nil)))))))) mixed (by decide +kernel) rfl ?_;intro bH a6;replace H:=H.ext a6;clear a6
  refine ⟨(H.pk [0,3,4,5,6,7]),?_⟩
  refine kg 3 ?_;refine t_l2 rfl rfl ?_ ?_
  ·skip
   refine kg 1 ?_
   have bI:=Sl.cells (H.os 1)
   have bJ:=Sl.oc (H.os 1)
   refine s_nil ⟨(H.pk [0,3,4,5,6,7]),?_⟩
   refine t_l rfl ?_;obtain ⟨bK,bm,hM⟩:=M.e_bind hM;refine s_callv (f:=61) rfl cf61 [.agg #[I x3.lo,I x3.hi]] rfl (zbi x3 bm _ (H.gt 8)) ?_
   rintro vq bL ⟨r2,rfl,hvq,ab⟩
   subst vq;(try dsimp only at hM);replace H:=H.bk ab;clear ab
   refine s_nil ⟨(H.pk [0,3,4,5,6,7]),?_⟩
   refine t_l rfl ?_;refine t_bs (α:=Int) T28 [I r2] [(r2:Int)] H rfl (.cons rfl (Flat.rep_enc _ (r2:Int))<|.nil) rfl rfl rfl ?_;intro bn bM H
   have bN:=Sl.cells (H.os 0)
   have bO:=Sl.oc (H.os 0)
   refine s_nil ⟨(H.pk [1,4,5,6,7,8]),?_⟩
   refine t_l rfl ?_;obtain ⟨bP,hM⟩:=M.e_gd hM;refine t_app (α:=Int) (k:=2) (l:=l) (l2:=[(r2:Int)]) (l':=l++([(r2:Int)])) (vy:=bn) T28 rfl H rfl rfl rfl (H.os 0) (H.ol 0) (rfl) (by first | omega | (simp only [List.length_nil] at *; omega)) ?_;intro ap bQ H;replace H:=H.nf
   have bR:=Sl.cells (H.os 2)
   have bS:=Sl.oc (H.os 2)
   refine s_nil ⟨(H.pk [1,4,5,6,7,8]),?_⟩
   refine t_l rfl ?_;refine t_sw 3 0 [ap] ap H rfl rfl Sz28 (Sl.cells (H.os 2)) rfl rfl (by simp only [List.all_cons,List.all_nil,Bool.true_and,Bool.and_true,Sl.oc (H.os 2)]; try rfl) ?_;intro bT H
   refine s_nil ⟨(H.pk [1,4,5,6,7,8]),?_⟩
   refine t_nil ?_
   exact ⟨l++([(r2:Int)]),[cOwn (α:=Int) 3 ap (l++([(r2:Int)])),cBlk ac [ap] 28],(M.e_pure hM).symm,⟨ap,rfl⟩,H.pick [2,3,4,5,6,7,8] (by decide) rfl⟩
  skip
  obtain ⟨bU,bo,hM⟩:=M.e_bind hM;refine s_callv (f:=61) rfl cf61 [.agg #[I x3.lo,I x3.hi]] rfl (zbi x3 bo _ (H.gt 8)) ?_
  rintro vq bV ⟨r2,rfl,hvq,ab⟩
  subst vq;(try dsimp only at hM);replace H:=H.bk ab;clear ab
  have bW:=Sl.cells (H.os 1)
  have bX:=Sl.oc (H.os 1)
  refine s_nil ⟨(H.pk [0,3,4,5,6,7]),?_⟩
  obtain ⟨bY,hM⟩:=M.e_gd hM;refine t_l2 rfl rfl ?_ ?_
  ·skip
   refine kg 1 ?_
   refine s_nil ⟨(H.pk [0,3,4,5,6,7]),?_⟩
   refine t_l rfl ?_;refine t_bs (α:=Int) T28 [I r2] [(r2:Int)] H rfl (.cons rfl (Flat.rep_enc _ (r2:Int))<|.nil) rfl rfl rfl ?_;intro bp bZ H
   have b3:=Sl.cells (H.os 0)
   have b4:=Sl.oc (H.os 0)
   refine s_nil ⟨(H.pk [1,4,5,6,7,8]),?_⟩
   refine t_l rfl ?_;refine t_app (α:=Int) (k:=2) (l:=l) (l2:=[(r2:Int)]) (l':=l++([(r2:Int)])) (vy:=bp) T28 rfl H rfl rfl rfl (H.os 0) (H.ol 0) (rfl) (by first | omega | (simp only [List.length_nil] at *; omega)) ?_;intro aq b5 H;replace H:=H.nf
   have b6:=Sl.cells (H.os 2)
   have b7:=Sl.oc (H.os 2)
   refine s_nil ⟨(H.pk [1,4,5,6,7,8]),?_⟩
   refine t_l rfl ?_;refine t_sw 3 0 [aq] aq H rfl rfl Sz28 (Sl.cells (H.os 2)) rfl rfl (by simp only [List.all_cons,List.all_nil,Bool.true_and,Bool.and_true,Sl.oc (H.os 2)]; try rfl) ?_;intro b8 H
   refine s_nil ⟨(H.pk [1,4,5,6,7,8]),?_⟩
   refine t_nil ?_
   exact ⟨l++([(r2:Int)]),[cOwn (α:=Int) 3 aq (l++([(r2:Int)])),cBlk ac [aq] 28],(M.e_pure hM).symm,⟨aq,rfl⟩,H.pick [2,3,4,5,6,7,8] (by decide) rfl⟩
  skip
  refine t_bs (α:=Int) T28 [I r2] [(r2:Int)] H rfl (.cons rfl (Flat.rep_enc _ (r2:Int))<|.nil) rfl rfl rfl ?_;intro br b9 H
  have cb:=Sl.cells (H.os 0)
  have cc:=Sl.oc (H.os 0)
  refine s_nil ⟨(H.pk [1,4,5,6,7,8]),?_⟩
  refine t_l rfl ?_;refine kg 1 ?_
  refine s_nil ⟨(H.pk [1,4,5,6,7,8]),?_⟩
  refine t_l rfl ?_;refine t_app (α:=Int) (k:=2) (l:=l) (l2:=[(r2:Int)]) (l':=l++([(r2:Int)])) (vy:=br) T28 rfl H rfl rfl rfl (H.os 0) (H.ol 0) (rfl) (by first | omega | (simp only [List.length_nil] at *; omega)) ?_;intro ar cd H;replace H:=H.nf
  have ce:=Sl.cells (H.os 2)
  have cf:=Sl.oc (H.os 2)
  refine s_nil ⟨(H.pk [1,4,5,6,7,8]),?_⟩
  refine t_l rfl ?_;refine t_sw 3 0 [ar] ar H rfl rfl Sz28 (Sl.cells (H.os 2)) rfl rfl (by simp only [List.all_cons,List.all_nil,Bool.true_and,Bool.and_true,Sl.oc (H.os 2)]; try rfl) ?_;intro cg H
  refine s_nil ⟨(H.pk [1,4,5,6,7,8]),?_⟩
  refine t_nil ?_
  exact ⟨l++([(r2:Int)]),[cOwn (α:=Int) 3 ar (l++([(r2:Int)])),cBlk ac [ar] 28],(M.e_pure hM).symm,⟨ar,rfl⟩,H.pick [2,3,4,5,6,7,8] (by decide) rfl⟩
 replace H:St w bg (cAll (cObj aF (.loop aK) :: [cOwn (α:=Int) 3 (.slice none 0 0) ([]),cBlk ac [(.slice none 0 0)] 28]) :: [cMk (ao :: ([])),cBlk aj [I ah] 3,cBlk ak [I ai] 3,cBlk al [Pq ag] 87,cBlk am [.func (.func 61) #[] #[]] 101]) R:=St.bundleB (A:=cObj aF (.loop aK) :: [cOwn (α:=Int) 3 (.slice none 0 0) ([]),cBlk ac [(.slice none 0 0)] 28]) (T:=[cMk (ao :: ([])),cBlk aj [I ah] 3,cBlk ak [I ai] 3,cBlk al [Pq ag] 87,cBlk am [.func (.func 61) #[] #[]] 101]) rfl (H.pk [0,2,3,1,4,5,6,7])
 refine (za4 (M.yl zaC) (.inl ([])) ah ai au av aw ax ay hYC ⟨_,rfl,⟨(.slice none 0 0),rfl⟩⟩ (Has.here (k:=1) rfl) (Has.here (k:=2) rfl) (aB.app _) aI (aC.app _) aJ (aD.app _) (aE.app _) (Has.here (k:=3) rfl) bf _ (H.gt 5)).mono ?_
 rintro vq ch ⟨bt,ci,rfl,hvq,ab,a7⟩
 replace H:=H.back ab rfl
 clear ab hYC
 rcases bt with l | _
 ·(try dsimp only at hM)
  obtain ⟨_,rfl,aa,rfl⟩:=a7
  refine ⟨_,[cOwn (α:=Int) 3 aa l,cBlk ac [aa] 28,cBlk aj [I ah] 3,cBlk ak [I ai] 3,cBlk al [Pq ag] 87,cBlk am [.func (.func 61) #[] #[]] 101],H.unbundle.pick [0,3,1,2,4,5,6,7] (by decide) rfl,aL.nb,?_⟩
  intro cj H
  rw [aL.pd]
  replace H:=H.nf
  try simp only []
  replace H:=H.pk [0,1,2];refine WD.seq<|WD.of ?_;obtain ⟨ck,hM⟩:=M.e_gd hM;refine kg 2 ?_;refine s_call cf54 [aa] rfl (sort_any (H.get (k:=1) rfl) (by omega)) ?_
  rintro _ bu ⟨rfl,a8,ba,bb⟩
  replace H:St w bu [cMk (ao :: ([])),cOwn (α:=Int) 3 aa (isort l),cBlk ac [aa] 28] R:=H.sorted (k:=1) rfl a8 ba bb rfl
  clear a8 ba bb
  refine s_nil<|WD.seq<|WD.of ?_
  have cl:=((H.os 1)).len_le
  obtain ⟨cn,hM⟩:=M.e_gd hM;obtain ⟨co,hM⟩:=M.e_gd hM;refine kg 10 ?_;replace H:=H.pk [0];refine WD.of ?_;refine W.ret ?_;refine bodyD_r (H.pk [0]) ?_;intro cp H;replace H:=H.nf
  have bv:=M.e_pure hM
  exact ⟨_,resE_tmp rfl,⟨((isort l).getD (Int.toNat (((isort l).length:Int)-aH)) 0),bv,rfl,H⟩⟩
 obtain ⟨_,_,h_⟩:=a7; exact h_.elim

def zcz (ac:List Yr) (ae:List Old10) (aj ak aa ab times:Int):M (Int × Int × Int) :=
  M.bind (zbb ac ae aj ak aa ab times 1 (wr64 ((wr64 (ab-aa))+1))) fun x_=>match x_ with
  | (.inl r1)=>(
  bif r1 != 0 then (
  M.pure (0,0,r1))
  else (
  M.fail))
  | (.inr (ag,ah,ai,al))=>(
  bif al != 0 then (
  M.fail)
  else (
  M.bind (zb0) fun (_:Unit) =>
  M.bind (zb1 ac ae ag ah ai aa ab times) fun r2 =>
  M.bind (zbs) fun (_:Unit) =>
  M.bind (zca ac ae ag ah ai aa ab times) fun r3 =>
  M.pure (r2,r3,0)))
theorem zdQ {R:List Chunk} {av:Cells} {al:Value} {aw:Cells} {am:Value} (ae:List Yr) (ag:List Old10) (ah:Int) (ai:Int) (ab:Int) (ac:Int) (times:Int) (ao:Reads R av) (ap:Sl av al ae) (aq:Reads R aw) (ar:Sl aw am ag) {r:(Int × Int × Int)} (hM:(zcz ae ag ah ai ab ac times).Ends r) (w:World) (H:St w w [] R):Ret Tryz.prog 24 #[.agg #[al,am,I ah,I ai],I ab,I ac,I times] w fun v w'=>∃ (y0:Int) (y1:Int) (y2:Int),(y0,y1,y2)=r/\v = .tuple #[.agg #[I y0,I y1],I y2]/\St w w' [] R:=by
 refine ret_of_W Tryz.func24 rfl rfl rfl ?_;refine kg 2 ?_;refine t_bx [al,am,I ah,I ai] H rfl ?_;intro aP aQ H;refine t_b1 (I ab) H rfl rfl ?_;intro aC aR H;refine t_b1 (I ac) H rfl rfl ?_;intro aD aS H;refine t_b1 (I times) H rfl rfl ?_;intro aE aT H;refine t_alloc (cs:=[I 0,I 0]) H Al41 rfl ?_;intro aU aV H;refine kg 10 ?_;refine s_val (x_subW (a:=ac) (b:=ab) rfl rfl)<|s_val (x_addW (a:=wr64 (ac-ab)) (b:=1) rfl rfl) ?_;obtain ⟨aW,aF,hM⟩:=M.e_bind hM;refine s_call cf30 [.agg #[al,am,I ah,I ai],I ab,I ac,I times,I 1,I (wr64 ((wr64 (ac-ab))+1))] rfl (zcV ae ag ah ai ab ac times 1 (wr64 ((wr64 (ac-ab))+1)) (ao.app _) ap (aq.app _) ar aF _ (H.gt 5)) ?_
 rintro vq aX (⟨r1,aG,hvq,aa⟩ | ⟨ax,ay,az,aH,aA,aY,aI,hvq,aa⟩)
 ·subst aG;subst vq;(try dsimp only at hM);replace H:=H.bk aa;clear aa;refine kg 3 ?_;refine t_alloc (cs:=[.pointer none]) H Al87 rfl ?_;intro aB aZ H;refine t_sw 0 0 [.pointer none] (.pointer none) H rfl rfl Sz87 rfl rfl rfl rfl ?_;intro a6 H;refine kg 8 ?_
  refine W.cond (r1 != 0) rfl (fun aj=>?_) (fun aj=>?_)
  ·replace hM:=M.e_t hM aj
   replace aj:=dI aj
   refine kg 2 ?_;refine s_val (x_bld (ps:=[]) (zs:=[I 0,I 0]) (L':=[I 0,I 0]) rfl Tryz.underlying41 Al41 rfl (Bd41 Tryz.underlying41) (.nil)) ?_;refine kg 1 ?_;refine t_sw 1 0 [I 0,I 0] (.agg #[I 0,I 0]) H rfl rfl Sz41 rfl rfl rfl rfl ?_;intro a7 H;refine kg 2 ?_;replace H:=H.pk [1];refine W.ret ?_
   have aJ:=(H.bl 0)
   have au:=M.e_pure hM
   exact ⟨_,(resE_ofn (vs:=[.agg #[I 0,I 0],I r1]) rfl rfl (.cell (v:=.agg #[I 0,I 0]) rfl (run_loadVar_ag (ds:=[I 0,I 0]) Ag41 Sz41 aJ rfl rfl)<|.tmp (v:=I r1) rfl<|.nil)),⟨0,0,r1,au,rfl,(H.pk [])⟩⟩
  replace hM:=M.e_f hM aj
  exact (M.e_fail hM).elim
 subst aI;subst vq;(try dsimp only at hM);replace H:=H.bk aa;clear aa;refine kg 3 ?_;refine t_alloc (cs:=[.pointer none]) H Al87 rfl ?_;intro aB a8 H;refine t_sw 0 0 [Pq aA] (Pq aA) H rfl rfl Sz87 rfl rfl rfl rfl ?_;intro ba H;refine kg 8 ?_
 refine W.cond (aH != 0) rfl (fun ak=>?_) (fun ak=>?_)
 ·replace hM:=M.e_t hM ak
  exact (M.e_fail hM).elim
 replace hM:=M.e_f hM ak
 replace ak:=dI ak
 refine kg 3 ?_;refine s_val (x_mf (fs:=[]) (cs:=[Pq aB,Pq aC,Pq aD,Pq aE]) rfl rfl) ?_;refine kg 5 ?_;obtain ⟨bb,aK,hM⟩:=M.e_bind hM;refine s_call cf32 [] rfl (zcA aK _ (H.gt 8)) ?_
 rintro vq bc ⟨rfl,hvq,aa⟩
 subst vq;(try dsimp only at hM);replace H:=H.bk aa;clear aa;obtain ⟨bf,aL,hM⟩:=M.e_bind hM;refine s_callv (f:=53) rfl cf53 [.agg #[.func (.func 60) #[] #[]]] rfl (zdq ae ag ax ay az ab ac times (ao.app _) ap (aq.app _) ar (Has.here (k:=2) rfl) (Has.here (k:=1) rfl) (Has.here (k:=0) rfl) (Has.here (k:=6) rfl) (Has.here (k:=5) rfl) (Has.here (k:=4) rfl) aL _ (H.gt 8)) ?_
 rintro vq bg ⟨r2,rfl,hvq,aa⟩
 subst vq;(try dsimp only at hM);replace H:=H.bk aa;clear aa;refine kg 1 ?_;obtain ⟨bh,aM,hM⟩:=M.e_bind hM;refine s_call cf33 [] rfl (zbZ aM _ (H.gt 8)) ?_
 rintro vq bi ⟨rfl,hvq,aa⟩
 subst vq;(try dsimp only at hM);replace H:=H.bk aa;clear aa;obtain ⟨bj,aN,hM⟩:=M.e_bind hM;refine s_callv (f:=53) rfl cf53 [.agg #[.func (.func 61) #[] #[]]] rfl (zdi ae ag ax ay az ab ac times (ao.app _) ap (aq.app _) ar (Has.here (k:=2) rfl) (Has.here (k:=1) rfl) (Has.here (k:=0) rfl) (Has.here (k:=6) rfl) (Has.here (k:=5) rfl) (Has.here (k:=4) rfl) aN _ (H.gt 8)) ?_
 rintro vq bm ⟨r3,rfl,hvq,aa⟩
 subst vq;(try dsimp only at hM);replace H:=H.bk aa;clear aa;refine s_val (x_bld (ps:=[(0,I r2),(1,I r3)]) (zs:=[I 0,I 0]) (L':=[I r2,I r3]) rfl Tryz.underlying41 Al41 rfl (Bd41 Tryz.underlying41) (.cons (cs:=[I r2]) rfl rfl rfl rfl rfl<|.cons (cs:=[I r3]) rfl rfl rfl rfl rfl<|.nil)) ?_;refine t_sw 3 0 [I r2,I r3] (.agg #[I r2,I r3]) H rfl rfl Sz41 rfl rfl rfl rfl ?_;intro bn H;refine kg 2 ?_;replace H:=H.pk [3];refine W.ret ?_
 have aO:=(H.bl 0)
 have au:=M.e_pure hM
 exact ⟨_,(resE_ofn (vs:=[.agg #[I r2,I r3],I 0]) rfl rfl (.cell (v:=.agg #[I r2,I r3]) rfl (run_loadVar_ag (ds:=[I r2,I r3]) Ag41 Sz41 aO rfl rfl)<|.tmp (v:=I 0) rfl<|.nil)),⟨r2,r3,0,au,rfl,(H.pk [])⟩⟩

def zbn  : M Bool :=
  M.bind (zaX) fun r2 =>
  M.bind (zcE r2 7 200) fun (r0,r1,aa) =>
  M.bind (zaX) fun r3 =>
  M.bind (zcF r3 7 200 ([(1:Int),(3:Int)])) fun (ag,ab) =>
  M.bind (zaX) fun r4 =>
  M.bind (zb9 r4 7 200 300 ([(0:Int),(100:Int),(120:Int),(80:Int)])) fun (ah,ac) =>
  M.bind (zaX) fun r5 =>
  M.bind (zb9 r5 7 200 300 ([(0:Int),(99:Int),(120:Int),(80:Int)])) fun (ai,ae) =>
  M.bind (M.opt (!((((aa != 0)||(ab != 0))||(ac != 0))||(ae != 0))) (zcM r0 ([(0:Int),(2:Int),(3:Int)])) false) fun r6 =>
  bif (((((((((aa != 0)||(ab != 0))||(ac != 0))||(ae != 0))||(!r6))||(r1 != 300))||(ag != 230))||(!ah))||ai) then (
  M.pure false)
  else (
  M.bind (zaV) fun (aj,ak,al,am) =>
  M.bind (zai aj ak al am 1900 1909 500) fun (ao,ap,aq) =>
  M.bind (zaV) fun (ar,au,av,aw) =>
  M.bind (zai ar au av aw 1900 1909 410) fun (ax,ay,az) =>
  M.bind (zaV) fun (aA,aB,aC,aD) =>
  M.bind (zaF aA aB aC aD 410) fun (aE,aF,aG,aH,aI) =>
  M.bind (zaV) fun (aJ,aK,aL,aM) =>
  M.bind (zcz aJ aK aL aM 1900 1906 2) fun (aN,aO,aP) =>
  M.pure (((((((((aq==0)&&(az==0))&&(aI==0))&&(aP==0))&&(decide ((⟨(ao:Int),(ap:Int)⟩:Span)=(⟨(1:Int),(4:Int)⟩:Span))))&&(decide ((⟨(ax:Int),(ay:Int)⟩:Span)=(⟨(1:Int),(9:Int)⟩:Span))))&&(decide ((⟨(aE:Int),(aF:Int)⟩:Rto)=(⟨(1:Int),(10:Int)⟩:Rto))))&&(decide ((⟨(aG:Int),(aH:Int)⟩:Rto)=(⟨(9:Int),(10:Int)⟩:Rto))))&&(decide ((⟨(aN:Int),(aO:Int)⟩:Span)=(⟨(400:Int),(499:Int)⟩:Span)))))
theorem zcy {R:List Chunk}    {r:Bool} (hM:(zbn).Ends r) (w:World) (H:St w w [] R):Ret Tryz.prog 8 #[] w fun v w'=>∃ (y0:Bool),y0=r/\v=B y0/\St w w' [] R:=by
 refine ret_of_W Tryz.func8 rfl rfl rfl ?_;refine kg 6 ?_;obtain ⟨bL,aK,hM⟩:=M.e_bind hM;refine s_call cf19 [] rfl (zbo aK _ (H.gt 0)) ?_
 rintro vq bM ⟨r2,aL,rfl,hvq,aa⟩
 subst vq;(try dsimp only at hM);replace H:=H.bk aa;clear aa;obtain ⟨bN,aM,hM⟩:=M.e_bind hM;refine s_call cf18 [aL,I 7,I 200] rfl (zdk r2 7 200 (rdo 0) (H.os 0) aM _ (H.gt 1)) ?_
 rintro vq bO ⟨r0,r1,av,aA,rfl,hvq,aa⟩
 subst vq;(try dsimp only at hM);replace H:=H.bk aa;clear aa;refine kg 10 ?_;obtain ⟨bP,aN,hM⟩:=M.e_bind hM;refine s_call cf19 [] rfl (zbo aN _ (H.gt 2)) ?_
 rintro vq bQ ⟨r3,aO,rfl,hvq,aa⟩
 subst vq;(try dsimp only at hM);replace H:=H.bk aa;clear aa;refine t_bs (α:=Int) T28 [I 1,I 3] [(1:Int),(3:Int)] H rfl (.cons rfl (Flat.rep_enc _ (1:Int))<|.cons rfl (Flat.rep_enc _ (3:Int))<|.nil) rfl rfl rfl ?_;intro aP bR H;obtain ⟨bS,aQ,hM⟩:=M.e_bind hM;refine s_call cf20 [aO,I 7,I 200,aP] rfl (zdm r3 7 200 ([(1:Int),(3:Int)]) (rdo 1) (H.os 1) (rdo 0) (H.os 0) aQ _ (H.gt 4)) ?_
 rintro vq bT ⟨aR,aw,rfl,hvq,aa⟩
 subst vq;(try dsimp only at hM);replace H:=H.bk aa;clear aa;refine kg 6 ?_;replace H:=H.pk [2];refine kg 2 ?_;obtain ⟨bU,aS,hM⟩:=M.e_bind hM;refine s_call cf19 [] rfl (zbo aS _ (H.gt 1)) ?_
 rintro vq bV ⟨r4,aT,rfl,hvq,aa⟩
 subst vq;(try dsimp only at hM);replace H:=H.bk aa;clear aa;refine t_bs (α:=Int) T28 [I 0,I 100,I 120,I 80] [(0:Int),(100:Int),(120:Int),(80:Int)] H rfl (.cons rfl (Flat.rep_enc _ (0:Int))<|.cons rfl (Flat.rep_enc _ (100:Int))<|.cons rfl (Flat.rep_enc _ (120:Int))<|.cons rfl (Flat.rep_enc _ (80:Int))<|.nil) rfl rfl rfl ?_;intro aU bW H;obtain ⟨bX,aV,hM⟩:=M.e_bind hM;refine s_call cf21 [aT,I 7,I 200,I 300,aU] rfl (zcG r4 7 200 300 ([(0:Int),(100:Int),(120:Int),(80:Int)]) (rdo 1) (H.os 1) (rdo 0) (H.os 0) aV _ (H.gt 3)) ?_
 rintro vq bY ⟨aW,ax,rfl,hvq,aa⟩
 subst vq;(try dsimp only at hM);replace H:=H.bk aa;clear aa;refine kg 6 ?_;replace H:=H.pk [2];refine kg 2 ?_;obtain ⟨bZ,aX,hM⟩:=M.e_bind hM;refine s_call cf19 [] rfl (zbo aX _ (H.gt 1)) ?_
 rintro vq b3 ⟨r5,aY,rfl,hvq,aa⟩
 subst vq;(try dsimp only at hM);replace H:=H.bk aa;clear aa;refine t_bs (α:=Int) T28 [I 0,I 99,I 120,I 80] [(0:Int),(99:Int),(120:Int),(80:Int)] H rfl (.cons rfl (Flat.rep_enc _ (0:Int))<|.cons rfl (Flat.rep_enc _ (99:Int))<|.cons rfl (Flat.rep_enc _ (120:Int))<|.cons rfl (Flat.rep_enc _ (80:Int))<|.nil) rfl rfl rfl ?_;intro aZ b4 H;obtain ⟨b5,a6,hM⟩:=M.e_bind hM;refine s_call cf21 [aY,I 7,I 200,I 300,aZ] rfl (zcG r5 7 200 300 ([(0:Int),(99:Int),(120:Int),(80:Int)]) (rdo 1) (H.os 1) (rdo 0) (H.os 0) a6 _ (H.gt 3)) ?_
 rintro vq b6 ⟨a7,ay,rfl,hvq,aa⟩
 subst vq;(try dsimp only at hM);replace H:=H.bk aa;clear aa;refine kg 6 ?_;replace H:=H.pk [2];refine kg 19 ?_;refine t_gbs (α:=Int) T28 (!((((av != 0)||(aw != 0))||(ax != 0))||(ay != 0))) (gy_f rfl) [I 0,I 2,I 3] [(0:Int),(2:Int),(3:Int)] H (fun _=>rfl) (.cons rfl (Flat.rep_enc _ (0:Int))<|.cons rfl (Flat.rep_enc _ (2:Int))<|.cons rfl (Flat.rep_enc _ (3:Int))<|.nil) rfl rfl rfl ?_;intro aB b7 b8 H a8;obtain ⟨r6,ba,hM⟩:=M.e_bind hM;refine t_gcall (!((((av != 0)||(aw != 0))||(ax != 0))||(ay != 0))) (gy_f rfl) cf22 (B r6) (fun _=>[aA,aB]) (fun hg=>lst2 (gd_of hg (aA)) (gd_of hg (aB))) H (fun hg=>(zdy r0 ([(0:Int),(2:Int),(3:Int)]) (rdo 1) (H.os 1) (Reads.of (k:=0) rfl roLe) (a8 hg) (M.e_opt ba hg) _ (H.give (A:=[]) rfl)).mono fun v_ w_ ⟨y_,aq,bb,H_⟩=>by subst aq; exact ⟨bb,H.via H_⟩) ?_;intro b9 H;refine kg 18 ?_;replace H:=H.pk []
 refine W.cond (((((((((av != 0)||(aw != 0))||(ax != 0))||(ay != 0))||(!r6))||(r1 != 300))||(aR != 230))||(!aW))||a7) rfl (fun az=>?_) (fun az=>?_)
 ·replace hM:=M.e_t hM az;refine kg 4 ?_;refine W.ret ?_
  have aq:=M.e_pure hM
  exact ⟨_,resE_tmp rfl,⟨false,aq,rfl,H⟩⟩
 replace hM:=M.e_f hM az;refine kg 3 ?_;obtain ⟨cb,bc,hM⟩:=M.e_bind hM;refine s_call cf23 [] rfl (zbV bc _ (H.gt 0)) ?_
 rintro vq cc ⟨bf,bg,aC,aD,bh,bi,cd,ce,rfl,hvq,aa,bj⟩
 subst vq;(try dsimp only at hM);replace H:=H.bk aa;clear aa;obtain ⟨cf,bm,hM⟩:=M.e_bind hM;refine s_call cf10 [.agg #[bh,bi,I aC,I aD],I 1900,I 1909,I 500] rfl (zaP bf bg aC aD 1900 1909 500 (rdo 0) (H.os 0) (Reads.sup (rdo 1) (Reads.of (k:=2) rfl roLe)) (rowSl rfl (H.get (k:=1) rfl) (roLe _ (H.get (k:=2) rfl)) bj) bm _ (H.gt 3)) ?_
 rintro vq cg ⟨ab,ac,ae,rfl,hvq,aa⟩
 subst vq;(try dsimp only at hM);replace H:=H.bk aa;clear aa;refine kg 3 ?_;refine t_alloc (cs:=[I 0,I 0]) H Al41 rfl ?_;intro ch ci H;refine t_sw 0 0 [I ab,I ac] (.agg #[I ab,I ac]) H rfl rfl Sz41 rfl rfl rfl rfl ?_;intro cj H;refine kg 2 ?_;replace H:=H.pk [0];refine kg 2 ?_;obtain ⟨ck,bn,hM⟩:=M.e_bind hM;refine s_call cf23 [] rfl (zbV bn _ (H.gt 1)) ?_
 rintro vq cl ⟨bo,bp,aE,aF,br,bt,cn,co,rfl,hvq,aa,bu⟩
 subst vq;(try dsimp only at hM);replace H:=H.bk aa;clear aa;obtain ⟨cp,bv,hM⟩:=M.e_bind hM;refine s_call cf10 [.agg #[br,bt,I aE,I aF],I 1900,I 1909,I 410] rfl (zaP bo bp aE aF 1900 1909 410 (rdo 0) (H.os 0) (Reads.sup (rdo 1) (Reads.of (k:=2) rfl roLe)) (rowSl rfl (H.get (k:=1) rfl) (roLe _ (H.get (k:=2) rfl)) bu) bv _ (H.gt 4)) ?_
 rintro vq cq ⟨ag,ah,ai,rfl,hvq,aa⟩
 subst vq;(try dsimp only at hM);replace H:=H.bk aa;clear aa;refine kg 3 ?_;refine t_alloc (cs:=[I 0,I 0]) H Al41 rfl ?_;intro cr ct H;refine t_sw 0 0 [I ag,I ah] (.agg #[I ag,I ah]) H rfl rfl Sz41 rfl rfl rfl rfl ?_;intro cu H;refine kg 2 ?_;replace H:=H.pk [0,4];refine kg 2 ?_;obtain ⟨cv,bw,hM⟩:=M.e_bind hM;refine s_call cf23 [] rfl (zbV bw _ (H.gt 2)) ?_
 rintro vq cx ⟨bx,bz,aG,aH,bA,bB,cy,cz,rfl,hvq,aa,bC⟩
 subst vq;(try dsimp only at hM);replace H:=H.bk aa;clear aa;obtain ⟨cB,bD,hM⟩:=M.e_bind hM;refine s_call cf11 [.agg #[bA,bB,I aG,I aH],I 410] rfl (zau bx bz aG aH 410 (rdo 0) (H.os 0) (Reads.sup (rdo 1) (Reads.of (k:=2) rfl roLe)) (rowSl rfl (H.get (k:=1) rfl) (roLe _ (H.get (k:=2) rfl)) bC) bD _ (H.gt 5)) ?_
 rintro vq cC ⟨al,am,ao,ap,aj,rfl,hvq,aa⟩
 subst vq;(try dsimp only at hM);replace H:=H.bk aa;clear aa;refine kg 4 ?_;refine t_alloc (cs:=[I 0,I 0]) H Al56 rfl ?_;intro cD cE H;refine t_alloc (cs:=[I 0,I 0]) H Al56 rfl ?_;intro cF cG H;refine t_sw 1 0 [I al,I am] (.agg #[I al,I am]) H rfl rfl Sz56 rfl rfl rfl rfl ?_;intro cH H;refine t_sw 0 0 [I ao,I ap] (.agg #[I ao,I ap]) H rfl rfl Sz56 rfl rfl rfl rfl ?_;intro cI H;refine kg 2 ?_;replace H:=H.pk [0,1,5,6];refine kg 2 ?_;obtain ⟨cJ,bE,hM⟩:=M.e_bind hM;refine s_call cf23 [] rfl (zbV bE _ (H.gt 4)) ?_
 rintro vq cK ⟨bF,bG,aI,aJ,bH,bI,cL,cM,rfl,hvq,aa,bJ⟩
 subst vq;(try dsimp only at hM);replace H:=H.bk aa;clear aa;obtain ⟨cN,bK,hM⟩:=M.e_bind hM;refine s_call cf24 [.agg #[bH,bI,I aI,I aJ],I 1900,I 1906,I 2] rfl (zdQ bF bG aI aJ 1900 1906 2 (rdo 0) (H.os 0) (Reads.sup (rdo 1) (Reads.of (k:=2) rfl roLe)) (rowSl rfl (H.get (k:=1) rfl) (roLe _ (H.get (k:=2) rfl)) bJ) bK _ (H.gt 7)) ?_
 rintro vq cO ⟨ar,au,ak,rfl,hvq,aa⟩
 subst vq;(try dsimp only at hM);replace H:=H.bk aa;clear aa;refine kg 3 ?_;refine t_alloc (cs:=[I 0,I 0]) H Al41 rfl ?_;intro cP cQ H;refine t_sw 0 0 [I ar,I au] (.agg #[I ar,I au]) H rfl rfl Sz41 rfl rfl rfl rfl ?_;intro cR H;refine kg 2 ?_;replace H:=H.pk [0,4,5,6,7];refine kg 18 ?_;refine g_val ((((ae==0)&&(ai==0))&&(aj==0))&&(ak==0)) (gy_t rfl) (fun hg=>x_bld (ps:=[(0,I 1),(1,I 4)]) (zs:=[I 0,I 0]) (L':=[I 1,I 4]) rfl Tryz.underlying41 Al41 rfl (Bd41 Tryz.underlying41) (.cons (cs:=[I 1]) rfl rfl rfl rfl rfl<|.cons (cs:=[I 4]) rfl rfl rfl rfl rfl<|.nil))<|g_val ((((ae==0)&&(ai==0))&&(aj==0))&&(ak==0)) (gy_t rfl) (fun hg=>x_eqS (eqT41 (⟨(ab:Int),(ac:Int)⟩:Span) (⟨(1:Int),(4:Int)⟩:Span) _) gdT41 (gd_of hg (.agg #[I ab,I ac])) (gd_of hg (.agg #[I 1,I 4]))) ?_;refine kg 3 ?_;refine g_val (((((ae==0)&&(ai==0))&&(aj==0))&&(ak==0))&&(decide ((⟨(ab:Int),(ac:Int)⟩:Span)=(⟨(1:Int),(4:Int)⟩:Span)))) (gy_t rfl) (fun hg=>x_bld (ps:=[(0,I 1),(1,I 9)]) (zs:=[I 0,I 0]) (L':=[I 1,I 9]) rfl Tryz.underlying41 Al41 rfl (Bd41 Tryz.underlying41) (.cons (cs:=[I 1]) rfl rfl rfl rfl rfl<|.cons (cs:=[I 9]) rfl rfl rfl rfl rfl<|.nil))<|g_val (((((ae==0)&&(ai==0))&&(aj==0))&&(ak==0))&&(decide ((⟨(ab:Int),(ac:Int)⟩:Span)=(⟨(1:Int),(4:Int)⟩:Span)))) (gy_t rfl) (fun hg=>x_eqS (eqT41 (⟨(ag:Int),(ah:Int)⟩:Span) (⟨(1:Int),(9:Int)⟩:Span) _) gdT41 (gd_of hg (.agg #[I ag,I ah])) (gd_of hg (.agg #[I 1,I 9]))) ?_;refine kg 3 ?_;refine g_val ((((((ae==0)&&(ai==0))&&(aj==0))&&(ak==0))&&(decide ((⟨(ab:Int),(ac:Int)⟩:Span)=(⟨(1:Int),(4:Int)⟩:Span))))&&(decide ((⟨(ag:Int),(ah:Int)⟩:Span)=(⟨(1:Int),(9:Int)⟩:Span)))) (gy_t rfl) (fun hg=>x_bld (ps:=[(0,I 1),(1,I 10)]) (zs:=[I 0,I 0]) (L':=[I 1,I 10]) rfl Tryz.underlying56 Al56 rfl (Bd56 Tryz.underlying56) (.cons (cs:=[I 1]) rfl rfl rfl rfl rfl<|.cons (cs:=[I 10]) rfl rfl rfl rfl rfl<|.nil))<|g_val ((((((ae==0)&&(ai==0))&&(aj==0))&&(ak==0))&&(decide ((⟨(ab:Int),(ac:Int)⟩:Span)=(⟨(1:Int),(4:Int)⟩:Span))))&&(decide ((⟨(ag:Int),(ah:Int)⟩:Span)=(⟨(1:Int),(9:Int)⟩:Span)))) (gy_t rfl) (fun hg=>x_eqS (eqT56 (⟨(al:Int),(am:Int)⟩:Rto) (⟨(1:Int),(10:Int)⟩:Rto) _) gdT56 (gd_of hg (.agg #[I al,I am])) (gd_of hg (.agg #[I 1,I 10]))) ?_;refine kg 3 ?_;refine g_val (((((((ae==0)&&(ai==0))&&(aj==0))&&(ak==0))&&(decide ((⟨(ab:Int),(ac:Int)⟩:Span)=(⟨(1:Int),(4:Int)⟩:Span))))&&(decide ((⟨(ag:Int),(ah:Int)⟩:Span)=(⟨(1:Int),(9:Int)⟩:Span))))&&(decide ((⟨(al:Int),(am:Int)⟩:Rto)=(⟨(1:Int),(10:Int)⟩:Rto)))) (gy_t rfl) (fun hg=>x_bld (ps:=[(0,I 9),(1,I 10)]) (zs:=[I 0,I 0]) (L':=[I 9,I 10]) rfl Tryz.underlying56 Al56 rfl (Bd56 Tryz.underlying56) (.cons (cs:=[I 9]) rfl rfl rfl rfl rfl<|.cons (cs:=[I 10]) rfl rfl rfl rfl rfl<|.nil))<|g_val (((((((ae==0)&&(ai==0))&&(aj==0))&&(ak==0))&&(decide ((⟨(ab:Int),(ac:Int)⟩:Span)=(⟨(1:Int),(4:Int)⟩:Span))))&&(decide ((⟨(ag:Int),(ah:Int)⟩:Span)=(⟨(1:Int),(9:Int)⟩:Span))))&&(decide ((⟨(al:Int),(am:Int)⟩:Rto)=(⟨(1:Int),(10:Int)⟩:Rto)))) (gy_t rfl) (fun hg=>x_eqS (eqT56 (⟨(ao:Int),(ap:Int)⟩:Rto) (⟨(9:Int),(10:Int)⟩:Rto) _) gdT56 (gd_of hg (.agg #[I ao,I ap])) (gd_of hg (.agg #[I 9,I 10]))) ?_;refine kg 3 ?_;refine g_val ((((((((ae==0)&&(ai==0))&&(aj==0))&&(ak==0))&&(decide ((⟨(ab:Int),(ac:Int)⟩:Span)=(⟨(1:Int),(4:Int)⟩:Span))))&&(decide ((⟨(ag:Int),(ah:Int)⟩:Span)=(⟨(1:Int),(9:Int)⟩:Span))))&&(decide ((⟨(al:Int),(am:Int)⟩:Rto)=(⟨(1:Int),(10:Int)⟩:Rto))))&&(decide ((⟨(ao:Int),(ap:Int)⟩:Rto)=(⟨(9:Int),(10:Int)⟩:Rto)))) (gy_t rfl) (fun hg=>x_bld (ps:=[(0,I 400),(1,I 499)]) (zs:=[I 0,I 0]) (L':=[I 400,I 499]) rfl Tryz.underlying41 Al41 rfl (Bd41 Tryz.underlying41) (.cons (cs:=[I 400]) rfl rfl rfl rfl rfl<|.cons (cs:=[I 499]) rfl rfl rfl rfl rfl<|.nil))<|g_val ((((((((ae==0)&&(ai==0))&&(aj==0))&&(ak==0))&&(decide ((⟨(ab:Int),(ac:Int)⟩:Span)=(⟨(1:Int),(4:Int)⟩:Span))))&&(decide ((⟨(ag:Int),(ah:Int)⟩:Span)=(⟨(1:Int),(9:Int)⟩:Span))))&&(decide ((⟨(al:Int),(am:Int)⟩:Rto)=(⟨(1:Int),(10:Int)⟩:Rto))))&&(decide ((⟨(ao:Int),(ap:Int)⟩:Rto)=(⟨(9:Int),(10:Int)⟩:Rto)))) (gy_t rfl) (fun hg=>x_eqS (eqT41 (⟨(ar:Int),(au:Int)⟩:Span) (⟨(400:Int),(499:Int)⟩:Span) _) gdT41 (gd_of hg (.agg #[I ar,I au])) (gd_of hg (.agg #[I 400,I 499]))) ?_;refine kg 3 ?_;replace H:=H.pk [];refine W.ret ?_
 have aq:=M.e_pure hM
 exact ⟨_,resE_tmp rfl,⟨(((((((((ae==0)&&(ai==0))&&(aj==0))&&(ak==0))&&(decide ((⟨(ab:Int),(ac:Int)⟩:Span)=(⟨(1:Int),(4:Int)⟩:Span))))&&(decide ((⟨(ag:Int),(ah:Int)⟩:Span)=(⟨(1:Int),(9:Int)⟩:Span))))&&(decide ((⟨(al:Int),(am:Int)⟩:Rto)=(⟨(1:Int),(10:Int)⟩:Rto))))&&(decide ((⟨(ao:Int),(ap:Int)⟩:Rto)=(⟨(9:Int),(10:Int)⟩:Rto))))&&(decide ((⟨(ar:Int),(au:Int)⟩:Span)=(⟨(400:Int),(499:Int)⟩:Span)))),aq,rfl,H⟩⟩

end Go.Proofs.YtpiebomegbbpcaaGreat
end
section
set_option maxRecDepth 100000
set_option maxHeartbeats 16000000
namespace Go.Proofs.YtpiebomegbbpcaaGreat
open Go Go.Nm
attribute [local irreducible] gd execOp SL SLD SLT WR
def zbC (n:Int):M Bool :=
  M.bind (zaa n 0 2000) fun r2 =>
  M.pure r2
theorem zc5 {R:List Chunk}  (n:Int)  {r:Bool} (hM:(zbC n).Ends r) (w:World) (H:St w w [] R):Ret Tryz.prog 27 #[I n] w fun v w'=>∃ (y0:Bool),y0=r/\v=B y0/\St w w' [] R:=by
 refine ret_of_W Tryz.func27 rfl rfl rfl ?_;refine kg 7 ?_;obtain ⟨ae,ab,hM⟩:=M.e_bind hM;refine s_call cf28 [I n,I 0,I 2000] rfl (zab n 0 2000 ab _ (H.gt 0)) ?_
 rintro vq ag ⟨r2,rfl,hvq,aa⟩
 subst vq;(try dsimp only at hM);replace H:=H.bk aa;clear aa;refine kg 2 ?_;refine W.ret ?_
 have ac:=M.e_pure hM
 exact ⟨_,resE_tmp rfl,⟨r2,ac,rfl,H⟩⟩

def zap (aa:Int) (stages:List Int):Unit->(Int × Span)->M (Unit ⊕ Unit):=fun (_:Unit) (x,x2) =>
  M.grd (decide ((-9223372036854775808:Int)<=(x-aa))&&decide ((x-aa)<=(9223372036854775807:Int))) <|
  M.grd (decide ((0:Int)<=(x-aa))&&decide ((x-aa)<(stages.length:Int))) <|
  M.bind (zaa (stages.getD (Int.toNat (x-aa)) 0) x2.lo x2.hi) fun r3 =>
  bif !r3 then (
  M.pure (.inr ()))
  else (
  M.pure (.inl ()))
def zaE (ac:List Yr) (ae:List Old10) (aa ab:Int) (stages:List Int):M (Bool × Int) :=
  M.bind (zak ac ae aa ab) fun x_=>match x_ with
  | (.inl r1)=>(
  bif r1 != 0 then (
  M.pure (false,r1))
  else (
  M.fail))
  | (.inr (ag,ah,ai,aj))=>(
  bif aj != 0 then (
  M.fail)
  else (
  M.grd (decide ((-9223372036854775808:Int)<=(ab-aa))&&decide ((ab-aa)<=(9223372036854775807:Int))) <|
  M.grd (decide ((-9223372036854775808:Int)<=((ab-aa)+1))&&decide (((ab-aa)+1)<=(9223372036854775807:Int))) <|
  bif (stages.length:Int) != ((ab-aa)+1) then (
  M.pure (false,2))
  else (
  M.bind (zaY stages (fun ak=>zbC ak)) fun r2 =>
  bif !r2 then (
  M.pure (false,4))
  else (
  M.bind (zaj ac ae ag ah ai aa ab) fun (al,am) =>
  M.bind (zal (M.yl (zap aa stages)) (.inl ()) al am ac ae ag ah ai) fun x_=>match x_ with
  | .inl _=>(
  M.pure (true,0))
  | .inr _=>(
  M.pure (false,0))))))
theorem zdO {R:List Chunk} {aU:Cells} {ab:Value} {aV:Cells} {ac:Value} {aW:Cells} {aj:Value} (aC:List Yr) (aD:List Old10) (aa:Int) (ag:Int) (stages:List Int) (aE:Reads R aU) (aJ:Sl aU ab aC) (aF:Reads R aV) (aK:Sl aV ac aD) (aO:Reads R aW) (aL:Sl aW aj stages) {r:(Bool × Int)} (hM:(zaE aC aD aa ag stages).Ends r) (w:World) (H:St w w [] R):Ret Tryz.prog 9 #[.agg #[ab,ac,I aa,I ag],aj] w fun v w'=>∃ (y0:Bool) (y1:Int),(y0,y1)=r/\v = .tuple #[B y0,I y1]/\St w w' [] R:=by
 refine ret_of_WD Tryz.func9 rfl rfl rfl ?_
 replace H:St w w [cMk ([])] R:=H.mk0
 have bJ:=aJ.len_le
 have bK:=aK.len_le
 have bL:=aL.len_le
 unfold zaE at hM
 refine WD.seq<|WD.of<|W.region rfl ?_;refine t_bx [ab,ac,I aa,I ag] H rfl ?_;intro az bM H;refine t_box (v:=aj) (cs:=[aj]) H rfl (Sl.cells aL) ?_;intro aA bN H;refine t_alloc (cs:=[B false]) H Al4 rfl ?_;intro ak bO H;refine t_alloc (cs:=[I 0]) H Al36 rfl ?_;intro al bP H;refine s_nil<|WD.seq<|WD.of ?_;refine kg 2 ?_;obtain ⟨bQ,a7,hM⟩:=M.e_bind hM;refine s_call cf25 [.agg #[ab,ac,I aa,I ag]] rfl (zcj aC aD aa ag (aE.app _) aJ (aF.app _) aK a7 _ (H.gt 5)) ?_
 rintro vq bR (⟨r1,a8,hvq,ae⟩ | ⟨am,ao,ap,ba,ah,ai,bb,hvq,ae⟩)
 ·subst a8;subst vq;(try dsimp only at hM);replace H:=H.bk ae;clear ae;refine kg 6 ?_;refine WD.seq<|WD.block<|WD.seq<|WD.of ?_;refine kg 5 ?_
  refine WD.cond (r1 != 0) rfl (fun aG=>?_) (fun aG=>?_)
  ·replace hM:=M.e_t hM aG
   replace aG:=dI aG
   refine WD.seq<|WD.of ?_;refine kg 2 ?_;refine t_sw 1 0 [B false] (B false) H rfl rfl Sz4 rfl rfl rfl rfl ?_;intro bS H;refine t_sw 0 0 [I r1] (I r1) H rfl rfl Sz36 rfl rfl rfl rfl ?_;intro bT H;refine s_nil ?_;replace H:=H.pk [0,1,4];refine WD.of ?_;refine W.ret ?_;refine bodyD_r (H.pk [2,0,1]) ?_;intro bU H;replace H:=H.nf
   have bc:=(H.bl 1)
   have bf:=(H.bl 0)
   have aq:=M.e_pure hM
   exact ⟨_,(resE_ofn (vs:=[B false,I r1]) rfl rfl (.cell (v:=B false) rfl (run_loadVar_sc Sc4 bc rfl)<|.cell (v:=I r1) rfl (run_loadVar_sc Sc36 bf rfl)<|.nil)),⟨false,r1,aq,rfl,(H.pk [])⟩⟩
  replace hM:=M.e_f hM aG
  exact (M.e_fail hM).elim
 subst bb;subst vq;(try dsimp only at hM);replace H:=H.bk ae;clear ae;refine kg 6 ?_;refine WD.seq<|WD.block<|WD.seq<|WD.of ?_;refine kg 5 ?_
 refine WD.cond (ba != 0) rfl (fun aH=>?_) (fun aH=>?_)
 ·replace hM:=M.e_t hM aH
  exact (M.e_fail hM).elim
 replace hM:=M.e_f hM aH
 replace aH:=dI aH
 refine WD.seq<|WD.of ?_
 have bV:=(aL).len_le
 obtain ⟨bW,hM⟩:=M.e_gd hM;obtain ⟨bX,hM⟩:=M.e_gd hM;refine kg 12 ?_
 refine WD.cond ((stages.length:Int) != ((ag-aa)+1)) rfl (fun aB=>?_) (fun aB=>?_)
 ·replace hM:=M.e_t hM aB
  replace aB:=dI aB
  refine WD.seq<|WD.of<|W.region rfl ?_;refine t_sw 3 0 [B false] (B false) H rfl rfl Sz4 rfl rfl rfl rfl ?_;intro bY H;refine t_sw 2 0 [I 2] (I 2) H rfl rfl Sz36 rfl rfl rfl rfl ?_;intro bZ H;refine s_nil ?_;replace H:=H.pk [2,3,6];refine WD.of ?_;refine W.ret ?_;refine bodyD_r (H.pk [2,0,1]) ?_;intro b3 H;replace H:=H.nf
  have bg:=(H.bl 1)
  have bh:=(H.bl 0)
  have aq:=M.e_pure hM
  exact ⟨_,(resE_ofn (vs:=[B false,I 2]) rfl rfl (.cell (v:=B false) rfl (run_loadVar_sc Sc4 bg rfl)<|.cell (v:=I 2) rfl (run_loadVar_sc Sc36 bh rfl)<|.nil)),⟨false,2,aq,rfl,(H.pk [])⟩⟩
 replace hM:=M.e_f hM aB
 replace aB:=dI aB
 refine WD.seq<|WD.of ?_;refine kg 2 ?_;obtain ⟨b4,bi,hM⟩:=M.e_bind hM;refine s_call cf26 [aj,.func (.func 27) #[] #[]] rfl (zcJ stages (fun aP=>zbC aP) (aO.app _) aL ⟨27,[],rfl,cf27,fun aX b5 b6 bj aP b7 bm b8 bn bo=>by obtain rfl:=Arg.int bn; exact (zc5 aP bo aX (St.refl bm)).mono fun bj aX ⟨b9,bp,br,bt⟩=>by subst bp; exact ⟨br,bt⟩⟩ bi _ (H.gt 7)) ?_
 rintro vq cb ⟨r2,rfl,hvq,ae⟩
 subst vq;(try dsimp only at hM);replace H:=H.bk ae;clear ae;refine kg 3 ?_
 refine WD.cond (!r2) rfl (fun aQ=>?_) (fun aQ=>?_)
 ·replace hM:=M.e_t hM aQ;refine WD.seq<|WD.of<|W.region rfl ?_;refine t_sw 3 0 [B false] (B false) H rfl rfl Sz4 rfl rfl rfl rfl ?_;intro cc H;refine t_sw 2 0 [I 4] (I 4) H rfl rfl Sz36 rfl rfl rfl rfl ?_;intro cd H;refine s_nil ?_;replace H:=H.pk [2,3,6];refine WD.of ?_;refine W.ret ?_;refine bodyD_r (H.pk [2,0,1]) ?_;intro ce H;replace H:=H.nf
  have bu:=(H.bl 1)
  have bv:=(H.bl 0)
  have aq:=M.e_pure hM
  exact ⟨_,(resE_ofn (vs:=[B false,I 4]) rfl rfl (.cell (v:=B false) rfl (run_loadVar_sc Sc4 bu rfl)<|.cell (v:=I 4) rfl (run_loadVar_sc Sc36 bv rfl)<|.nil)),⟨false,4,aq,rfl,(H.pk [])⟩⟩
 replace hM:=M.e_f hM aQ;refine WD.of<|W.skip<|WD.seq<|WD.seq<|WD.of ?_;refine kg 6 ?_;obtain ⟨cf,bw,hM⟩:=M.e_bind hM;refine s_call cf29 [Pq ah,I aa,I ag] rfl (zbe aC aD am ao ap aa ag (aE.app _) aJ (aF.app _) aK (Has.here (k:=1) rfl) (Has.here (k:=0) rfl) bw _ (H.gt 7)) ?_
 rintro vq cg ⟨ar,au,av,aw,ax,rfl,hvq,ae⟩
 subst vq;(try dsimp only at hM);replace H:=H.bk ae;clear ae;refine s_nil<|WD.block ?_;obtain ⟨ch,bx,hM⟩:=M.e_bind hM;refine WD.range (L:=[cBlk al [I 0] 36,cBlk ak [B false] 4,cBlk av [I ar] 3,cBlk aw [I au] 3,cBlk ax [Pq ah] 87,cBlk ah [ab,ac,I am,I ao,.map (some ai)] 108,cMl I encSp ai ap,cBlk aA [aj] 28,cBlk az [ab,ac,I aa,I ag] 48]) [Pq av,Pq aw,Pq ax] (H.pk [9,5,6,0,1,2,3,4,7,8]) rfl cf59 ?_;intro aM aN aR bz aS H
 have hYC:YieldC Tryz.prog ([cMk (aN :: ([])),cBlk av [I ar] 3,cBlk aw [I au] 3,cBlk ax [Pq ah] 87,cBlk ah [ab,ac,I am,I ao,.map (some ai)] 108,cMl I encSp ai ap,cBlk aA [aj] 28,cBlk az [ab,ac,I aa,I ag] 48]++R) arISpan (yJ aM aR (fun _ ay=>ay=[cBlk al [I 0] 36,cBlk ak [B false] 4]) (fun _ ay=>ay=[cBlk al [I 0] 36,cBlk ak [B false] 4]) (fun _=>.ret)) (.func (.yield aM) #[] #[]) (M.yl (zap aa stages)):=by
  refine YieldC.mk2 aS (fun _ ay=>ay=[cBlk al [I 0] 36,cBlk ak [B false] 4]) (fun _ ay=>ay=[cBlk al [I 0] 36,cBlk ak [B false] 4]) (fun _=>.ret) (zap aa stages) (by rintro _ _ h_; obtain ⟨rfl⟩:=h_; rfl) (by rintro _ _ h_; (obtain ⟨rfl⟩:=h_; rfl)) rfl (arISpan_len rfl) ?_;intro C_ ci x_ bA
  obtain ⟨x,x2⟩:=x_
  obtain rfl:=bA
  intro w R aI ay s_ r bB hM H
  skip
  obtain ⟨rfl⟩:=bB
  replace H:=H.nf;refine kg 5 ?_;refine t_alloc (cs:=[I 0,I 0]) H Al41 rfl ?_;intro aY cj H;refine t_sw 0 0 [I x2.lo,I x2.hi] (.agg #[I x2.lo,I x2.hi]) H rfl rfl Sz41 rfl rfl rfl rfl ?_;intro ck H;refine s_nil ?_
  refine ⟨rfl,[cBlk aY [I x2.lo,I x2.hi] 41],H.pick [0,1,2,3,4,5,6,7,8,9,10] (by decide) rfl,?_⟩
  clear H aI
  intro w R aI H
  replace aE:=aE.sub aI
  replace aF:=aF.sub aI
  replace aO:=aO.sub aI
  replace hM:(zap aa stages () (x,x2)).Ends r:=hM
  simp only [zap] at hM
  replace H:=H.nf;refine kg 2 ?_;refine W.draw (fun W=>St w W [cBlk aY [I x2.lo,I x2.hi] 41,cBlk al [I 0] 36,cBlk ak [B false] 4,cMk (aN :: ([])),cBlk av [I ar] 3,cBlk aw [I au] 3,cBlk ax [Pq ah] 87,cBlk ah [ab,ac,I am,I ao,.map (some ai)] 108,cMl I encSp ai ap,cBlk aA [aj] 28,cBlk az [ab,ac,I aa,I ag] 48] R) [(0,true),(1,true),(2,true),(3,true),(4,true),(5,true),(6,true),(7,true),(8,true),(9,true),(10,true),(11,false),(12,true)] mixed (by decide +kernel) rfl ?_;intro cl aZ;replace H:=H.ext aZ;clear aZ
  refine ⟨(H.pk [0,1,2,3,4,5,6,7,8,9,10]),?_⟩
  obtain ⟨cn,hM⟩:=M.e_gd hM;obtain ⟨co,hM⟩:=M.e_gd hM;refine kg 11 ?_;refine d_l rfl ?_;obtain ⟨cp,bC,hM⟩:=M.e_bind hM;refine s_call cf28 [I (stages.getD (Int.toNat (x-aa)) 0),I x2.lo,I x2.hi] rfl (zab (stages.getD (Int.toNat (x-aa)) 0) x2.lo x2.hi bC _ (H.gt 11)) ?_
  rintro vq cq ⟨r3,rfl,hvq,ae⟩
  subst vq;(try dsimp only at hM);replace H:=H.bk ae;clear ae
  refine s_nil ⟨(H.pk [0,1,2,3,4,5,6,7,8,9,10]),?_⟩
  refine kg 2 ?_
  refine W.cond (!r3) rfl (fun aT=>?_) (fun aT=>?_)
  ·replace hM:=M.e_t hM aT;refine kg 2 ?_;refine t_sw 2 0 [B false] (B false) H rfl rfl Sz4 rfl rfl rfl rfl ?_;intro cr H;refine t_sw 1 0 [I 0] (I 0) H rfl rfl Sz36 rfl rfl rfl rfl ?_;intro ct H;refine s_nil ?_;refine W.ret ?_
   exact ⟨(),[cBlk al [I 0] 36,cBlk ak [B false] 4],(M.e_pure hM).symm,rfl,H.pick [1,2,3,4,5,6,7,8,9,10] (by decide) rfl,rfl⟩
  replace hM:=M.e_f hM aT;refine W.skip ?_
  exact ⟨(),[cBlk al [I 0] 36,cBlk ak [B false] 4],(M.e_pure hM).symm,rfl,H.pick [1,2,3,4,5,6,7,8,9,10] (by decide) rfl⟩
 replace H:St w bz (cAll (cObj aM (.loop aR) :: [cBlk al [I 0] 36,cBlk ak [B false] 4]) :: [cMk (aN :: ([])),cBlk av [I ar] 3,cBlk aw [I au] 3,cBlk ax [Pq ah] 87,cBlk ah [ab,ac,I am,I ao,.map (some ai)] 108,cMl I encSp ai ap,cBlk aA [aj] 28,cBlk az [ab,ac,I aa,I ag] 48]) R:=St.bundleB (A:=cObj aM (.loop aR) :: [cBlk al [I 0] 36,cBlk ak [B false] 4]) (T:=[cMk (aN :: ([])),cBlk av [I ar] 3,cBlk aw [I au] 3,cBlk ax [Pq ah] 87,cBlk ah [ab,ac,I am,I ao,.map (some ai)] 108,cMl I encSp ai ap,cBlk aA [aj] 28,cBlk az [ab,ac,I aa,I ag] 48]) rfl (H.pk [0,2,3,1,4,5,6,7,8,9,10])
 refine (za4 (M.yl (zap aa stages)) (.inl ()) ar au aC aD am ao ap hYC ⟨_,rfl,rfl⟩ (Has.here (k:=1) rfl) (Has.here (k:=2) rfl) (aE.app _) aJ (aF.app _) aK (Has.here (k:=5) rfl) (Has.here (k:=4) rfl) (Has.here (k:=3) rfl) bx _ (H.gt 8)).mono ?_
 rintro vq cu ⟨bD,cv,rfl,hvq,ae,a6⟩
 replace H:=H.back ae rfl
 clear ae hYC
 rcases bD with _ | _
 ·(try dsimp only at hM)
  obtain ⟨_,rfl,rfl⟩:=a6
  refine ⟨_,[cBlk al [I 0] 36,cBlk ak [B false] 4,cBlk av [I ar] 3,cBlk aw [I au] 3,cBlk ax [Pq ah] 87,cBlk ah [ab,ac,I am,I ao,.map (some ai)] 108,cMl I encSp ai ap,cBlk aA [aj] 28,cBlk az [ab,ac,I aa,I ag] 48],H.unbundle.pick [0,3,1,2,4,5,6,7,8,9,10] (by decide) rfl,aS.nb,?_⟩
  intro bE H
  rw [aS.pd]
  replace H:=H.nf
  try simp only []
  replace H:=H.pk [0,1,2];refine WD.seq<|WD.of<|W.region rfl ?_;refine t_sw 2 0 [B true] (B true) H rfl rfl Sz4 rfl rfl rfl rfl ?_;intro cx H;refine t_sw 1 0 [I 0] (I 0) H rfl rfl Sz36 rfl rfl rfl rfl ?_;intro cy H;refine s_nil<|WD.of ?_;refine W.ret ?_;refine bodyD_r (H.pk [0,1,2]) ?_;intro cz H;replace H:=H.nf
  have bF:=(H.bl 1)
  have bG:=(H.bl 0)
  have aq:=M.e_pure hM
  exact ⟨_,(resE_ofn (vs:=[B true,I 0]) rfl rfl (.cell (v:=B true) rfl (run_loadVar_sc Sc4 bF rfl)<|.cell (v:=I 0) rfl (run_loadVar_sc Sc36 bG rfl)<|.nil)),⟨true,0,aq,rfl,(H.pk [])⟩⟩
 (try dsimp only at hM)
 obtain ⟨_,rfl,rfl⟩:=a6
 refine ⟨_,[cBlk al [I 0] 36,cBlk ak [B false] 4,cBlk av [I ar] 3,cBlk aw [I au] 3,cBlk ax [Pq ah] 87,cBlk ah [ab,ac,I am,I ao,.map (some ai)] 108,cMl I encSp ai ap,cBlk aA [aj] 28,cBlk az [ab,ac,I aa,I ag] 48],H.unbundle.pick [0,3,1,2,4,5,6,7,8,9,10] (by decide) rfl,nofun,?_⟩
 intro bE H
 show WD _ _ _ (.ret) _ _ _
 refine WD.of ?_;refine W.ret ?_;replace H:=H.nf;refine bodyD_r (H.pk [0,1,2,3,4,5,6,7,8,9]) ?_;intro cB H;replace H:=H.nf
 have bH:=(H.bl 1)
 have bI:=(H.bl 0)
 have aq:=M.e_pure hM
 exact ⟨_,(resE_ofn (vs:=[B false,I 0]) rfl rfl (.cell (v:=B false) rfl (run_loadVar_sc Sc4 bH rfl)<|.cell (v:=I 0) rfl (run_loadVar_sc Sc36 bI rfl)<|.nil)),⟨false,0,aq,rfl,(H.pk [])⟩⟩

def za7 (ab:List Yr) (ac:List Old10) (ae ag year:Int):M (Int × Int × Int) :=
  M.bind (zak ab ac ae ag) fun x_=>match x_ with
  | (.inl r1)=>(
  bif r1 != 0 then (
  M.pure (0,0,r1))
  else (
  M.fail))
  | (.inr (ah,ai,aa,aj))=>(
  bif aj != 0 then (
  M.fail)
  else (
  M.bind (zaa year ae ag) fun r2 =>
  bif !r2 then (
  M.pure (0,0,2))
  else (
  M.bind (zax ab ac ah ai aa) fun (r0,ak) =>
  bif ak then (
  M.pure (0,0,6))
  else (
  M.pure ((((lookM aa (year:Int)).getD default).lo),(((lookM aa (year:Int)).getD default).hi),0)))))
theorem zdL {R:List Chunk} {aq:Cells} {aj:Value} {ar:Cells} {ak:Value} (al:List Yr) (am:List Old10) (ac:Int) (ae:Int) (year:Int) (au:Reads R aq) (av:Sl aq aj al) (aw:Reads R ar) (ax:Sl ar ak am) {r:(Int × Int × Int)} (hM:(za7 al am ac ae year).Ends r) (w:World) (H:St w w [] R):Ret Tryz.prog 12 #[.agg #[aj,ak,I ac,I ae],I year] w fun v w'=>∃ (y0:Int) (y1:Int) (y2:Int),(y0,y1,y2)=r/\v = .tuple #[.agg #[I y0,I y1],I y2]/\St w w' [] R:=by
 refine ret_of_W Tryz.func12 rfl rfl rfl ?_;refine kg 2 ?_;refine t_bx [aj,ak,I ac,I ae] H rfl ?_;intro aM aN H;refine t_alloc (cs:=[I 0,I 0]) H Al41 rfl ?_;intro aO aP H;refine kg 5 ?_;obtain ⟨aQ,ay,hM⟩:=M.e_bind hM;refine s_call cf25 [.agg #[aj,ak,I ac,I ae]] rfl (zcj al am ac ae (au.app _) av (aw.app _) ax ay _ (H.gt 2)) ?_
 rintro vq aR (⟨r1,az,hvq,ab⟩ | ⟨aA,aB,aa,aC,aD,aS,aE,hvq,ab⟩)
 ·subst az;subst vq;(try dsimp only at hM);replace H:=H.bk ab;clear ab;refine kg 14 ?_
  refine W.cond (r1 != 0) rfl (fun ah=>?_) (fun ah=>?_)
  ·replace hM:=M.e_t hM ah
   replace ah:=dI ah
   refine kg 2 ?_;refine s_val (x_bld (ps:=[]) (zs:=[I 0,I 0]) (L':=[I 0,I 0]) rfl Tryz.underlying41 Al41 rfl (Bd41 Tryz.underlying41) (.nil)) ?_;refine kg 1 ?_;refine t_sw 0 0 [I 0,I 0] (.agg #[I 0,I 0]) H rfl rfl Sz41 rfl rfl rfl rfl ?_;intro aT H;refine kg 2 ?_;refine W.ret ?_
   have aF:=(H.bl 0)
   have ag:=M.e_pure hM
   exact ⟨_,(resE_ofn (vs:=[.agg #[I 0,I 0],I r1]) rfl rfl (.cell (v:=.agg #[I 0,I 0]) rfl (run_loadVar_ag (ds:=[I 0,I 0]) Ag41 Sz41 aF rfl rfl)<|.tmp (v:=I r1) rfl<|.nil)),⟨0,0,r1,ag,rfl,(H.pk [])⟩⟩
  replace hM:=M.e_f hM ah
  exact (M.e_fail hM).elim
 subst aE;subst vq;(try dsimp only at hM);replace H:=H.bk ab;clear ab;refine kg 14 ?_
 refine W.cond (aC != 0) rfl (fun ai=>?_) (fun ai=>?_)
 ·replace hM:=M.e_t hM ai
  exact (M.e_fail hM).elim
 replace hM:=M.e_f hM ai
 replace ai:=dI ai
 refine kg 7 ?_;obtain ⟨aU,aG,hM⟩:=M.e_bind hM;refine s_call cf28 [I year,I ac,I ae] rfl (zab year ac ae aG _ (H.gt 4)) ?_
 rintro vq aV ⟨r2,rfl,hvq,ab⟩
 subst vq;(try dsimp only at hM);replace H:=H.bk ab;clear ab;refine kg 3 ?_
 refine W.cond (!r2) rfl (fun ao=>?_) (fun ao=>?_)
 ·replace hM:=M.e_t hM ao;refine kg 2 ?_;refine s_val (x_bld (ps:=[]) (zs:=[I 0,I 0]) (L':=[I 0,I 0]) rfl Tryz.underlying41 Al41 rfl (Bd41 Tryz.underlying41) (.nil)) ?_;refine t_sw 2 0 [I 0,I 0] (.agg #[I 0,I 0]) H rfl rfl Sz41 rfl rfl rfl rfl ?_;intro aW H;refine kg 2 ?_;replace H:=H.pk [2];refine W.ret ?_
  have aH:=(H.bl 0)
  have ag:=M.e_pure hM
  exact ⟨_,(resE_ofn (vs:=[.agg #[I 0,I 0],I 2]) rfl rfl (.cell (v:=.agg #[I 0,I 0]) rfl (run_loadVar_ag (ds:=[I 0,I 0]) Ag41 Sz41 aH rfl rfl)<|.tmp (v:=I 2) rfl<|.nil)),⟨0,0,2,ag,rfl,(H.pk [])⟩⟩
 replace hM:=M.e_f hM ao;refine kg 5 ?_;obtain ⟨aX,aI,hM⟩:=M.e_bind hM;refine s_call cf35 [Pq aD] rfl (zcK al am aA aB aa (au.app _) av (aw.app _) ax (Has.here (k:=1) rfl) (Has.here (k:=0) rfl) aI _ (H.gt 4)) ?_
 rintro vq aY ⟨r0,aJ,rfl,hvq,ab⟩
 subst vq;(try dsimp only at hM);replace H:=H.bk ab;clear ab;refine kg 10 ?_
 refine W.cond aJ rfl (fun ap=>?_) (fun ap=>?_)
 ·replace hM:=M.e_t hM ap;refine kg 2 ?_;refine s_val (x_bld (ps:=[]) (zs:=[I 0,I 0]) (L':=[I 0,I 0]) rfl Tryz.underlying41 Al41 rfl (Bd41 Tryz.underlying41) (.nil)) ?_;refine t_sw 2 0 [I 0,I 0] (.agg #[I 0,I 0]) H rfl rfl Sz41 rfl rfl rfl rfl ?_;intro aZ H;refine kg 2 ?_;replace H:=H.pk [2];refine W.ret ?_
  have aK:=(H.bl 0)
  have ag:=M.e_pure hM
  exact ⟨_,(resE_ofn (vs:=[.agg #[I 0,I 0],I 6]) rfl rfl (.cell (v:=.agg #[I 0,I 0]) rfl (run_loadVar_ag (ds:=[I 0,I 0]) Ag41 Sz41 aK rfl rfl)<|.tmp (v:=I 6) rfl<|.nil)),⟨0,0,6,ag,rfl,(H.pk [])⟩⟩
 replace hM:=M.e_f hM ap;refine kg 8 ?_;refine s_val (q_look (kenc:=I) (venc:=encSp) (f:=lookM aa) (k:=(year:Int)) (v:=.agg #[I (((lookM aa (year:Int)).getD default).lo),I (((lookM aa (year:Int)).getD default).hi)]) keyIntSp Tryz.underlying106 Al41 rfl rfl (mlMap (H.get (k:=1) rfl)) false (by rw [if_neg (by decide),span_val])) ?_;refine t_sw 2 0 [I (((lookM aa (year:Int)).getD default).lo),I (((lookM aa (year:Int)).getD default).hi)] (.agg #[I (((lookM aa (year:Int)).getD default).lo),I (((lookM aa (year:Int)).getD default).hi)]) H rfl rfl Sz41 rfl rfl rfl rfl ?_;intro a6 H;refine kg 2 ?_;replace H:=H.pk [2];refine W.ret ?_
 have aL:=(H.bl 0)
 have ag:=M.e_pure hM
 exact ⟨_,(resE_ofn (vs:=[.agg #[I (((lookM aa (year:Int)).getD default).lo),I (((lookM aa (year:Int)).getD default).hi)],I 0]) rfl rfl (.cell (v:=.agg #[I (((lookM aa (year:Int)).getD default).lo),I (((lookM aa (year:Int)).getD default).hi)]) rfl (run_loadVar_ag (ds:=[I (((lookM aa (year:Int)).getD default).lo),I (((lookM aa (year:Int)).getD default).hi)]) Ag41 Sz41 aL rfl rfl)<|.tmp (v:=I 0) rfl<|.nil)),⟨(((lookM aa (year:Int)).getD default).lo),(((lookM aa (year:Int)).getD default).hi),0,ag,rfl,(H.pk [])⟩⟩

def zas (aa:List Mrk):(Nat × (List Int))->M ((Nat × (List Int)) ⊕ ((List Int) × (List Int))):=fun (i,l) =>
  bif decide ((i:Int)<(aa.length:Int)) then (
  M.grd (decide ((l.length+([(i:Int)]).length)*8<=140737488355328)) <|
  M.pure (.inl (i+1,l++([(i:Int)]))))
  else (
  M.pure (.inr (l,l)))
def zay (lower:Int) (aa:List Int) (r0:List Span) (r3 r5 r6:Int):(Nat × (List Int))->M ((Nat × (List Int)) ⊕ ((List Int) × (List Int))):=fun (k,l4) =>
  bif decide ((k:Int)<=((1500+r5)+r6)) then (
  M.bind (zaq (wr64 (lower+(k:Int))) ((r0.getD (Int.toNat r3) default).lo)) fun r7 =>
  bif (k:Int)==(1500+r5) then (
  M.grd (decide ((l4.length+([(aa.getD (Int.toNat r3) 0:Int)]).length)*8<=140737488355328)) <|
  M.grd (decide ((-9223372036854775808:Int)<=((k:Int)+1))&&decide (((k:Int)+1)<=(9223372036854775807:Int))) <|
  M.pure (.inl (k+1,l4++([(aa.getD (Int.toNat r3) 0:Int)]))))
  else (
  M.grd (decide ((l4.length+([(r7:Int)]).length)*8<=140737488355328)) <|
  M.grd (decide ((-9223372036854775808:Int)<=((k:Int)+1))&&decide (((k:Int)+1)<=(9223372036854775807:Int))) <|
  M.pure (.inl (k+1,l4++([(r7:Int)])))))
  else (
  M.pure (.inr (l4,l4)))
def zbJ (r0:List Span) (r3 r5 r6:Int) (l6:List Int) (ac:Bool) (ae ag ah ai aa ab aj ak al:Int):M Bool :=
  M.bind (za7 ([(⟨(1500+r5:Int),((r0.getD (Int.toNat r3) default).lo:Int),((r0.getD (Int.toNat r3) default).hi:Int)⟩:Yr)]) ([(⟨(1500:Int),((1500+r5)+r6:Int),((r0.getD (Int.toNat r3) default).lo:Int),([(1500+r5:Int)])⟩:Old10)]) 1500 ((1500+r5)+r6) (1500+r5)) fun (am,ao,ap) =>
  M.bind (M.opt (((((((((ae==0)&&(ai==0))&&(al==0))&&(ap==0))&&ac)&&(decide ((⟨(ag:Int),(ah:Int)⟩:Span)=(⟨(1:Int),(1:Int)⟩:Span))))&&(decide ((⟨(aa:Int),(ab:Int)⟩:Rto)=(⟨(aj:Int),(ak:Int)⟩:Rto))))&&(decide ((⟨(aa:Int),(ab:Int)⟩:Rto)=(⟨(1:Int),(l6.length:Int)⟩:Rto))))&&(decide ((⟨(am:Int),(ao:Int)⟩:Span)=(r0.getD (Int.toNat r3) default)))) (zbn) false) fun r8 =>
  M.pure ((((((((((ae==0)&&(ai==0))&&(al==0))&&(ap==0))&&ac)&&(decide ((⟨(ag:Int),(ah:Int)⟩:Span)=(⟨(1:Int),(1:Int)⟩:Span))))&&(decide ((⟨(aa:Int),(ab:Int)⟩:Rto)=(⟨(aj:Int),(ak:Int)⟩:Rto))))&&(decide ((⟨(aa:Int),(ab:Int)⟩:Rto)=(⟨(1:Int),(l6.length:Int)⟩:Rto))))&&(decide ((⟨(am:Int),(ao:Int)⟩:Span)=(r0.getD (Int.toNat r3) default))))&&r8)
def zbB (r0:List Span) (r3 r5 r6:Int) (l6:List Int) (aa:Bool) (ab ac ae ag:Int):M Bool :=
  M.bind (zaF ([(⟨(1500+r5:Int),((r0.getD (Int.toNat r3) default).lo:Int),((r0.getD (Int.toNat r3) default).hi:Int)⟩:Yr)]) ([(⟨(1500:Int),((1500+r5)+r6:Int),((r0.getD (Int.toNat r3) default).lo:Int),([(1500+r5:Int)])⟩:Old10)]) 1500 ((1500+r5)+r6) ((r0.getD (Int.toNat r3) default).lo)) fun (ah,ai,aj,ak,al) =>
  zbJ r0 r3 r5 r6 l6 aa ab ac ae ag ah ai aj ak al
def zbw (lower:Int) (aa:List Int) (r0:List Span) (r3 r5 r6:Int):M Bool :=
  M.bind (M.iter (zay lower aa r0 r3 r5 r6) (1500,[])) fun (l5,l6) =>
  M.bind (zaE ([(⟨(1500+r5:Int),((r0.getD (Int.toNat r3) default).lo:Int),((r0.getD (Int.toNat r3) default).hi:Int)⟩:Yr)]) ([(⟨(1500:Int),((1500+r5)+r6:Int),((r0.getD (Int.toNat r3) default).lo:Int),([(1500+r5:Int)])⟩:Old10)]) 1500 ((1500+r5)+r6) l6) fun (ab,ac) =>
  M.bind (zai ([(⟨(1500+r5:Int),((r0.getD (Int.toNat r3) default).lo:Int),((r0.getD (Int.toNat r3) default).hi:Int)⟩:Yr)]) ([(⟨(1500:Int),((1500+r5)+r6:Int),((r0.getD (Int.toNat r3) default).lo:Int),([(1500+r5:Int)])⟩:Old10)]) 1500 ((1500+r5)+r6) 1500 ((1500+r5)+r6) ((r0.getD (Int.toNat r3) default).lo)) fun (ae,ag,ah) =>
  zbB r0 r3 r5 r6 l6 ab ac ae ag ah
def zcf (numbers:List UInt8) (ae before after lower:Int):M Bool :=
  M.bind (zcb numbers) fun (r1,r2) =>
  M.bind (zbK numbers r1 r2 8 false) fun (ab,ac,ag,aa,ai,q1,q2) =>
  M.bind (M.iter (zas ac) (0,[])) fun (l2,l3) =>
  M.bind (zbU ab ac ag l3) fun (r0,ah) =>
  bif (((ah != 0)||((r0.length:Int) != (ab.length:Int)))||((r0.length:Int) != (aa.length:Int))) then (
  M.pure false)
  else (
  M.bind (zaq ae (r0.length:Int)) fun r3 =>
  M.grd (decide ((0:Int)<=r3)&&decide (r3<(aa.length:Int))) <|
  M.grd (decide ((0:Int)<=r3)&&decide (r3<(r0.length:Int))) <|
  bif ((decide ((aa.getD (Int.toNat r3) 0)<((r0.getD (Int.toNat r3) default).lo)))||(decide (((r0.getD (Int.toNat r3) default).hi)<(aa.getD (Int.toNat r3) 0)))) then (
  M.pure false)
  else (
  bif decide (((r0.getD (Int.toNat r3) default).lo)<1) then (
  M.bind (zbn) fun r4 =>
  M.pure r4)
  else (
  M.bind (zaq before 100) fun r5 =>
  M.grd (decide ((-9223372036854775808:Int)<=(1500+r5))&&decide ((1500+r5)<=(9223372036854775807:Int))) <|
  M.bind (zaq after 100) fun r6 =>
  M.grd (decide ((-9223372036854775808:Int)<=((1500+r5)+r6))&&decide (((1500+r5)+r6)<=(9223372036854775807:Int))) <|
  zbw lower aa r0 r3 r5 r6)))
theorem zdg {R:List Chunk} {bg:Cells} {aV:Value} (numbers:List UInt8) (aS:Int) (before:Int) (after:Int) (lower:Int) (bh:Reads R bg) (bi:Sl bg aV numbers) {r:Bool} (hM:(zcf numbers aS before after lower).Ends r) (w:World) (H:St w w [] R):Ret Tryz.prog 3 #[aV,I aS,I before,I after,I lower] w fun v w'=>∃ (y0:Bool),y0=r/\v=B y0/\St w w' [] R:=by
 refine ret_of_W Tryz.func3 rfl rfl rfl ?_;refine kg 7 ?_;obtain ⟨ct,bB,hM⟩:=M.e_bind hM;refine s_call cf5 [aV] rfl (zdp numbers (bh.app _) bi bB _ (H.gt 0)) ?_
 rintro vq cu ⟨r1,r2,bj,rfl,hvq,aa⟩
 subst vq;(try dsimp only at hM);replace H:=H.bk aa;clear aa;obtain ⟨cv,bC,hM⟩:=M.e_bind hM;refine s_call cf4 [Pq bj,I 8,B false] rfl (zdJ numbers r1 r2 8 false (bh.app _) bi bC _ (H.gt 0)) ?_
 rintro vq cx ⟨bm,aW,bn,au,bD,q1,q2,aL,bE,bF,aT,aU,aX,aY,rfl,hvq,aa,a7⟩
 subst vq;(try dsimp only at hM);replace H:=H.bk aa;clear aa;refine kg 3 ?_;refine t_alloc (cs:=[.slice none 0 0,.slice none 0 0,.slice none 0 0]) H Al27 rfl ?_;intro bo cy H;refine t_alloc (cs:=[.slice none 0 0,.slice none 0 0]) H Al30 rfl ?_;intro bp cz H;refine t_sw 1 0 [aL,aT,aU] (.agg #[aL,aT,aU]) H rfl rfl Sz27 rfl rfl rfl (by simp only [List.all_cons,List.all_nil,Bool.true_and,Bool.and_true,Sl.oc (rowSl rfl (H.get (k:=2) rfl) (roLe _ (H.get (k:=3) rfl)) a7),Sl.oc (H.os 4),Sl.oc (H.os 5)]; try rfl) ?_;intro cB H;refine t_sw 0 0 [aX,aY] (.agg #[aX,aY]) H rfl rfl Sz30 rfl rfl rfl (by simp only [List.all_cons,List.all_nil,Bool.true_and,Bool.and_true,Sl.oc (H.os 6),Sl.oc (H.os 7)]; try rfl) ?_;intro cC H;refine kg 11 ?_
 replace H:=H.nilOwn (α:=Int) 3
 obtain ⟨bG,a8,bH⟩:=M.e_bind hM
 obtain ⟨bI,a8⟩:=M.e_iter a8
 refine W.loop (fun m σ W=>∃ (i:Nat) (l:List Int) (aZ:Value) (ρ:Env),σ=upds ρ [(1,I aS),(2,I before),(3,I after),(4,I lower),(11,Pq bo),(12,Pq bp),(13,aZ),(14,I (i:Int))]/\M.iterN (zas aW) m (i,l)=some bG/\St w W [cOwn (α:=Int) 3 aZ l,cBlk bp [aX,aY] 30,cBlk bo [aL,aT,aU] 27,cOwn (α:=Raw 1) 64 aL bE,cRo bF,cOwn (α:=Mrk) 68 aT aW,cOwn (α:=Rch) 70 aU bn,cOwn (α:=Int) 3 aX au,cOwn (α:=Int) 3 aY bD,cBlk bj [aV,I q1,I q2] 72] R) ?_ ?_
 ·exact ⟨_,0,[],(.slice none 0 0),_,upds_of _ _ ⟨rfl,rfl,rfl,rfl,rfl,rfl,rfl,rfl,trivial⟩,a8,H⟩
 rintro cD σ cE ⟨i,l,aZ,ρ,rfl,br,H⟩
 obtain ⟨bJ,bK,cF,hM,bt⟩:=M.e_iterN br
 simp only [zas] at hM
 clear br
 have cG:=((H.os 5)).len_le
 refine kg 9 ?_
 refine W.cond (decide ((i:Int)<(aW.length:Int))) rfl (fun aF=>?_) (fun aF=>?_)
 ·replace hM:=M.e_t hM aF
  replace aF:=dI aF
  refine kg 6 ?_;refine t_bs (α:=Int) T28 [I (i:Int)] [(i:Int)] H rfl (.cons rfl (Flat.rep_enc _ (i:Int))<|.nil) rfl rfl rfl ?_;intro bL cH H;obtain ⟨cI,hM⟩:=M.e_gd hM;refine t_app (α:=Int) (k:=1) (l:=l) (l2:=[(i:Int)]) (l':=l++([(i:Int)])) (vy:=bL) T28 rfl H rfl rfl rfl (H.os 0) (H.ol 0) (rfl) (by first | omega | (simp only [List.length_nil] at *; omega)) ?_;intro bM cJ H;replace H:=H.nf;refine kg 7 ?_
  exact ⟨bJ,bK,i+1,l++([(i:Int)]),bM,_,upds_of _ _ ⟨rfl,rfl,rfl,rfl,rfl,rfl,rfl,rfl,trivial⟩,M.e_inl hM bt,(H.pk [1,2,3,4,5,6,7,8,9,10])⟩
 replace hM:=M.e_f hM aF
 replace aF:=dI aF
 refine W.exit ?_
 have bN:=M.e_inr hM bt
 subst bN;replace hM:=bH;(try dsimp only at hM);refine kg 4 ?_;obtain ⟨cK,bO,hM⟩:=M.e_bind hM;refine s_call cf6 [.agg #[aL,aT,aU],aZ] rfl (zdd bm aW bn l (Reads.sup (rdo 3) (Reads.of (k:=4) rfl roLe)) (rowSl rfl (H.get (k:=3) rfl) (roLe _ (H.get (k:=4) rfl)) a7) (rdo 5) (H.os 5) (rdo 6) (H.os 6) (rdo 0) (H.os 0) bO _ (H.gt 10)) ?_
 rintro vq cL ⟨r0,bu,ao,rfl,hvq,aa⟩
 subst vq;(try dsimp only at hM);replace H:=H.bk aa;clear aa;refine kg 6 ?_;replace H:=H.pk [0,2,3,4,5,6,7,8,9];refine kg 10 ?_;refine g_val (!(bu != 0)) (gy_f rfl) (fun hg=>x_lenS T23.und (gd_of hg (aL)) (rowSl rfl (H.get (k:=3) rfl) (roLe _ (H.get (k:=4) rfl)) a7)) ?_;refine kg 11 ?_;replace H:=H.pk [0,1,7,8]
 refine W.cond (((bu != 0)||((r0.length:Int) != (bm.length:Int)))||((r0.length:Int) != (au.length:Int))) rfl (fun ba=>?_) (fun ba=>?_)
 ·replace hM:=M.e_t hM ba;refine kg 4 ?_;replace H:=H.pk [];refine W.ret ?_
  have aC:=M.e_pure hM
  exact ⟨_,resE_tmp rfl,⟨false,aC,rfl,H⟩⟩
 replace hM:=M.e_f hM ba
 have cM:=((H.os 0)).len_le
 refine kg 6 ?_;obtain ⟨cN,bP,hM⟩:=M.e_bind hM;refine s_call cf7 [I aS,I (r0.length:Int)] rfl (zam aS (r0.length:Int) bP _ (H.gt 4)) ?_
 rintro vq cO ⟨r3,rfl,hvq,aa⟩
 subst vq;(try dsimp only at hM);replace H:=H.bk aa;clear aa;obtain ⟨cP,hM⟩:=M.e_gd hM;refine kg 11 ?_;replace H:=H.pk [0];obtain ⟨cQ,hM⟩:=M.e_gd hM;refine kg 20 ?_
 refine W.cond ((decide ((au.getD (Int.toNat r3) 0)<((r0.getD (Int.toNat r3) default).lo)))||(decide (((r0.getD (Int.toNat r3) default).hi)<(au.getD (Int.toNat r3) 0)))) rfl (fun bb=>?_) (fun bb=>?_)
 ·replace hM:=M.e_t hM bb;refine kg 4 ?_;refine W.ret ?_
  have aC:=M.e_pure hM
  exact ⟨_,resE_tmp rfl,⟨false,aC,rfl,(H.pk [])⟩⟩
 replace hM:=M.e_f hM bb;refine kg 11 ?_
 refine W.cond (decide (((r0.getD (Int.toNat r3) default).lo)<1)) rfl (fun aG=>?_) (fun aG=>?_)
 ·replace hM:=M.e_t hM aG
  replace aG:=dI aG
  refine kg 2 ?_;obtain ⟨cR,bQ,hM⟩:=M.e_bind hM;refine s_call cf8 [] rfl (zcy bQ _ (H.gt 1)) ?_
  rintro vq cS ⟨r4,rfl,hvq,aa⟩
  subst vq;(try dsimp only at hM);replace H:=H.bk aa;clear aa;refine kg 2 ?_;refine W.ret ?_
  have aC:=M.e_pure hM
  exact ⟨_,resE_tmp rfl,⟨r4,aC,rfl,(H.pk [])⟩⟩
 replace hM:=M.e_f hM aG
 replace aG:=dI aG
 refine kg 4 ?_;obtain ⟨cT,bR,hM⟩:=M.e_bind hM;refine s_call cf7 [I before,I 100] rfl (zam before 100 bR _ (H.gt 1)) ?_
 rintro vq cU ⟨r5,rfl,hvq,aa⟩
 subst vq;(try dsimp only at hM);replace H:=H.bk aa;clear aa;obtain ⟨cV,hM⟩:=M.e_gd hM;refine kg 3 ?_;refine W.seqJ (fun σ W=>∃ (ah:Nat) (r6:Int) (ai:Value) (ρ:Env),σ=upds ρ [(4,I lower),(15,ao),(17,I r3),(18,I (au.getD (Int.toNat r3) 0)),(19,I (1500+r5)),(20,Pq ah)]/\(zbw lower au r0 r3 r5 r6).Ends r/\St w W [cBlk ah [ai,.slice none 0 0,I 1500,I ((1500+r5)+r6)] 48,cOwn (α:=Yr) 44 ai ([(⟨(1500+r5:Int),((r0.getD (Int.toNat r3) default).lo:Int),((r0.getD (Int.toNat r3) default).hi:Int)⟩:Yr)]),cOwn (α:=Span) 41 ao r0] R) ?_ ?_
 ·skip
  refine W.drawTS (fun W=>St w W [cOwn (α:=Span) 41 ao r0] R) (.q 0 (.q 1 (.q 4 (.q 5 (.q 6 (.q 7 (.q 8 (.q 9 (.l3 2 (.q 3 (.l2 10 (.q 11 (.l 12 .nil)) 12 (.l 10 (.q 11 .nil)))) 10 (.l2 2 (.q 3 (.q 11 (.l 12 .nil))) 12 (.l 2 (.q 3 (.q 11 .nil)))) 12 (.l2 2 (.q 3 (.l 10 (.q 11 .nil))) 10 (.l 2 (.q 3 (.q 11 .nil))))))))))))) 13 [13] mixed (by decide +kernel) rfl ?_;intro cW av;replace H:=H.ext av;clear av
  refine ⟨(H.pk [0]),?_⟩
  refine ts_q rfl (fun w' H=>x_mv (v:=I (1500+r5)) rfl) ?_;refine ts_q rfl (fun w' H=>x_mv (v:=I after) rfl) ?_;refine ts_q rfl (fun w' H=>x_mv (v:=I (1500+r5)) rfl) ?_;refine ts_q rfl (fun w' H=>x_mv (v:=ao) rfl) ?_;refine ts_q rfl (fun w' H=>x_mv (v:=I r3) rfl) ?_;refine ts_q rfl (fun w' H=>x_ix (v:=vat ao 2 (Int.toNat r3)) rfl rfl (Sl.ix (α:=Span) T35.und T35.size (H.os 0) (by omega) (by omega))) ?_;refine ts_q rfl (fun w' H=>x_ld (v:=.agg #[I ((r0.getD (Int.toNat r3) default).lo),I ((r0.getD (Int.toNat r3) default).hi)]) rfl (ld_ag Ag41 Sz41 (At.mono (Span_atA (H.os 0) (i:=r3) (by omega) (by omega)) (H.ol 0)))) ?_;refine ts_q rfl (fun w' H=>x_bld (ps:=[(0,I (1500+r5)),(1,.agg #[I ((r0.getD (Int.toNat r3) default).lo),I ((r0.getD (Int.toNat r3) default).hi)])]) (zs:=[I 0,I 0,I 0]) (L':=[I (1500+r5),I ((r0.getD (Int.toNat r3) default).lo),I ((r0.getD (Int.toNat r3) default).hi)]) rfl Tryz.underlying44 Al44 rfl (Bd44 Tryz.underlying44) (.cons (cs:=[I (1500+r5)]) rfl rfl rfl rfl rfl<|.cons (cs:=[I ((r0.getD (Int.toNat r3) default).lo),I ((r0.getD (Int.toNat r3) default).hi)]) rfl rfl rfl rfl rfl<|.nil)) ?_;refine ts_l3 rfl rfl rfl ?_ ?_ ?_
  ·skip
   obtain ⟨cX,bS,hM⟩:=M.e_bind hM;refine s_call cf7 [I after,I 100] rfl (zam after 100 bS _ (H.gt 1)) ?_
   rintro vq cY ⟨r6,rfl,hvq,aa⟩
   subst vq;(try dsimp only at hM);replace H:=H.bk aa;clear aa
   refine s_nil ⟨(H.pk [0]),?_⟩
   obtain ⟨cZ,hM⟩:=M.e_gd hM;refine ts_q rfl (fun w' H=>x_ari (r:=(1500+r5)+r6) rfl rfl rfl (by omega)) ?_;refine ts_l2 rfl rfl ?_ ?_
   ·skip
    refine t_bs (α:=Yr) T45 [.agg #[I (1500+r5),I ((r0.getD (Int.toNat r3) default).lo),I ((r0.getD (Int.toNat r3) default).hi)]] [(⟨(1500+r5:Int),((r0.getD (Int.toNat r3) default).lo:Int),((r0.getD (Int.toNat r3) default).hi:Int)⟩:Yr)] H rfl (.cons rfl (Flat.rep_enc _ (⟨(1500+r5:Int),((r0.getD (Int.toNat r3) default).lo:Int),((r0.getD (Int.toNat r3) default).hi:Int)⟩:Yr))<|.nil) rfl rfl rfl ?_;intro aM c3 H
    have bT:=Sl.cells (H.os 0)
    have c4:=Sl.oc (H.os 0)
    refine s_nil ⟨(H.pk [1]),?_⟩
    refine ts_q rfl (fun w' H=>x_bld (ps:=[(2,I 1500),(3,I ((1500+r5)+r6)),(0,aM)]) (zs:=[.slice none 0 0,.slice none 0 0,I 0,I 0]) (L':=[aM,.slice none 0 0,I 1500,I ((1500+r5)+r6)]) rfl Tryz.underlying48 Al48 rfl (Bd48 Tryz.underlying48) (.cons (cs:=[I 1500]) rfl rfl rfl rfl rfl<|.cons (cs:=[I ((1500+r5)+r6)]) rfl rfl rfl rfl rfl<|.cons (cs:=[aM]) bT rfl rfl rfl rfl<|.nil)) ?_;refine ts_l rfl ?_;refine t_alloc (cs:=[.slice none 0 0,.slice none 0 0,I 0,I 0]) H Al48 rfl ?_;intro ah c5 H
    refine s_nil ⟨(H.pk [2]),?_⟩
    refine ts_nil ?_;refine sr_l rfl ?_;refine t_sw 0 0 [aM,.slice none 0 0,I 1500,I ((1500+r5)+r6)] (.agg #[aM,.slice none 0 0,I 1500,I ((1500+r5)+r6)]) H rfl rfl Sz48 rfl rfl rfl (by simp only [List.all_cons,List.all_nil,Bool.true_and,Bool.and_true,Sl.oc (H.os 1)]; try rfl) ?_;intro c6 H
    refine s_nil ⟨trivial,?_⟩
    refine sr_nil ?_
    exact ⟨ah,r6,aM,_,upds_of _ _ ⟨rfl,rfl,rfl,rfl,rfl,rfl,trivial⟩,hM,H⟩
   skip
   refine t_alloc (cs:=[.slice none 0 0,.slice none 0 0,I 0,I 0]) H Al48 rfl ?_;intro ah c7 H
   refine s_nil ⟨(H.pk [1]),?_⟩
   refine ts_l rfl ?_;refine t_bs (α:=Yr) T45 [.agg #[I (1500+r5),I ((r0.getD (Int.toNat r3) default).lo),I ((r0.getD (Int.toNat r3) default).hi)]] [(⟨(1500+r5:Int),((r0.getD (Int.toNat r3) default).lo:Int),((r0.getD (Int.toNat r3) default).hi:Int)⟩:Yr)] H rfl (.cons rfl (Flat.rep_enc _ (⟨(1500+r5:Int),((r0.getD (Int.toNat r3) default).lo:Int),((r0.getD (Int.toNat r3) default).hi:Int)⟩:Yr))<|.nil) rfl rfl rfl ?_;intro aN c8 H
   have bU:=Sl.cells (H.os 0)
   have c9:=Sl.oc (H.os 0)
   refine s_nil ⟨(H.pk [2]),?_⟩
   refine ts_q rfl (fun w' H=>x_bld (ps:=[(2,I 1500),(3,I ((1500+r5)+r6)),(0,aN)]) (zs:=[.slice none 0 0,.slice none 0 0,I 0,I 0]) (L':=[aN,.slice none 0 0,I 1500,I ((1500+r5)+r6)]) rfl Tryz.underlying48 Al48 rfl (Bd48 Tryz.underlying48) (.cons (cs:=[I 1500]) rfl rfl rfl rfl rfl<|.cons (cs:=[I ((1500+r5)+r6)]) rfl rfl rfl rfl rfl<|.cons (cs:=[aN]) bU rfl rfl rfl rfl<|.nil)) ?_;refine ts_nil ?_;refine sr_l rfl ?_;refine t_sw 1 0 [aN,.slice none 0 0,I 1500,I ((1500+r5)+r6)] (.agg #[aN,.slice none 0 0,I 1500,I ((1500+r5)+r6)]) H rfl rfl Sz48 rfl rfl rfl (by simp only [List.all_cons,List.all_nil,Bool.true_and,Bool.and_true,Sl.oc (H.os 0)]; try rfl) ?_;intro da H
   refine s_nil ⟨trivial,?_⟩
   refine sr_nil ?_
   exact ⟨ah,r6,aN,_,upds_of _ _ ⟨rfl,rfl,rfl,rfl,rfl,rfl,trivial⟩,hM,(H.pk [1,0,2])⟩
  ·skip
   refine t_bs (α:=Yr) T45 [.agg #[I (1500+r5),I ((r0.getD (Int.toNat r3) default).lo),I ((r0.getD (Int.toNat r3) default).hi)]] [(⟨(1500+r5:Int),((r0.getD (Int.toNat r3) default).lo:Int),((r0.getD (Int.toNat r3) default).hi:Int)⟩:Yr)] H rfl (.cons rfl (Flat.rep_enc _ (⟨(1500+r5:Int),((r0.getD (Int.toNat r3) default).lo:Int),((r0.getD (Int.toNat r3) default).hi:Int)⟩:Yr))<|.nil) rfl rfl rfl ?_;intro aw db H
   have bv:=Sl.cells (H.os 0)
   have dc:=Sl.oc (H.os 0)
   refine s_nil ⟨(H.pk [1]),?_⟩
   refine ts_l2 rfl rfl ?_ ?_
   ·skip
    obtain ⟨dg,bV,hM⟩:=M.e_bind hM;refine s_call cf7 [I after,I 100] rfl (zam after 100 bV _ (H.gt 2)) ?_
    rintro vq dh ⟨r6,rfl,hvq,aa⟩
    subst vq;(try dsimp only at hM);replace H:=H.bk aa;clear aa
    refine s_nil ⟨(H.pk [1]),?_⟩
    obtain ⟨di,hM⟩:=M.e_gd hM;refine ts_q rfl (fun w' H=>x_ari (r:=(1500+r5)+r6) rfl rfl rfl (by omega)) ?_;refine ts_q rfl (fun w' H=>x_bld (ps:=[(2,I 1500),(3,I ((1500+r5)+r6)),(0,aw)]) (zs:=[.slice none 0 0,.slice none 0 0,I 0,I 0]) (L':=[aw,.slice none 0 0,I 1500,I ((1500+r5)+r6)]) rfl Tryz.underlying48 Al48 rfl (Bd48 Tryz.underlying48) (.cons (cs:=[I 1500]) rfl rfl rfl rfl rfl<|.cons (cs:=[I ((1500+r5)+r6)]) rfl rfl rfl rfl rfl<|.cons (cs:=[aw]) bv rfl rfl rfl rfl<|.nil)) ?_;refine ts_l rfl ?_;refine t_alloc (cs:=[.slice none 0 0,.slice none 0 0,I 0,I 0]) H Al48 rfl ?_;intro ah dj H
    refine s_nil ⟨(H.pk [2]),?_⟩
    refine ts_nil ?_;refine sr_l rfl ?_;refine t_sw 0 0 [aw,.slice none 0 0,I 1500,I ((1500+r5)+r6)] (.agg #[aw,.slice none 0 0,I 1500,I ((1500+r5)+r6)]) H rfl rfl Sz48 rfl rfl rfl (by simp only [List.all_cons,List.all_nil,Bool.true_and,Bool.and_true,Sl.oc (H.os 1)]; try rfl) ?_;intro dk H
    refine s_nil ⟨trivial,?_⟩
    refine sr_nil ?_
    exact ⟨ah,r6,aw,_,upds_of _ _ ⟨rfl,rfl,rfl,rfl,rfl,rfl,trivial⟩,hM,H⟩
   skip
   refine t_alloc (cs:=[.slice none 0 0,.slice none 0 0,I 0,I 0]) H Al48 rfl ?_;intro ah dl H
   refine s_nil ⟨(H.pk [2]),?_⟩
   refine ts_l rfl ?_;obtain ⟨dm,bW,hM⟩:=M.e_bind hM;refine s_call cf7 [I after,I 100] rfl (zam after 100 bW _ (H.gt 3)) ?_
   rintro vq dp ⟨r6,rfl,hvq,aa⟩
   subst vq;(try dsimp only at hM);replace H:=H.bk aa;clear aa
   refine s_nil ⟨(H.pk [2]),?_⟩
   obtain ⟨dq,hM⟩:=M.e_gd hM;refine ts_q rfl (fun w' H=>x_ari (r:=(1500+r5)+r6) rfl rfl rfl (by omega)) ?_;refine ts_q rfl (fun w' H=>x_bld (ps:=[(2,I 1500),(3,I ((1500+r5)+r6)),(0,aw)]) (zs:=[.slice none 0 0,.slice none 0 0,I 0,I 0]) (L':=[aw,.slice none 0 0,I 1500,I ((1500+r5)+r6)]) rfl Tryz.underlying48 Al48 rfl (Bd48 Tryz.underlying48) (.cons (cs:=[I 1500]) rfl rfl rfl rfl rfl<|.cons (cs:=[I ((1500+r5)+r6)]) rfl rfl rfl rfl rfl<|.cons (cs:=[aw]) bv rfl rfl rfl rfl<|.nil)) ?_;refine ts_nil ?_;refine sr_l rfl ?_;refine t_sw 0 0 [aw,.slice none 0 0,I 1500,I ((1500+r5)+r6)] (.agg #[aw,.slice none 0 0,I 1500,I ((1500+r5)+r6)]) H rfl rfl Sz48 rfl rfl rfl (by simp only [List.all_cons,List.all_nil,Bool.true_and,Bool.and_true,Sl.oc (H.os 1)]; try rfl) ?_;intro dr H
   refine s_nil ⟨trivial,?_⟩
   refine sr_nil ?_
   exact ⟨ah,r6,aw,_,upds_of _ _ ⟨rfl,rfl,rfl,rfl,rfl,rfl,trivial⟩,hM,H⟩
  skip
  refine t_alloc (cs:=[.slice none 0 0,.slice none 0 0,I 0,I 0]) H Al48 rfl ?_;intro ah dt H
  refine s_nil ⟨(H.pk [1]),?_⟩
  refine ts_l2 rfl rfl ?_ ?_
  ·skip
   obtain ⟨du,bX,hM⟩:=M.e_bind hM;refine s_call cf7 [I after,I 100] rfl (zam after 100 bX _ (H.gt 2)) ?_
   rintro vq dv ⟨r6,rfl,hvq,aa⟩
   subst vq;(try dsimp only at hM);replace H:=H.bk aa;clear aa
   refine s_nil ⟨(H.pk [1]),?_⟩
   obtain ⟨dx,hM⟩:=M.e_gd hM;refine ts_q rfl (fun w' H=>x_ari (r:=(1500+r5)+r6) rfl rfl rfl (by omega)) ?_;refine ts_l rfl ?_;refine t_bs (α:=Yr) T45 [.agg #[I (1500+r5),I ((r0.getD (Int.toNat r3) default).lo),I ((r0.getD (Int.toNat r3) default).hi)]] [(⟨(1500+r5:Int),((r0.getD (Int.toNat r3) default).lo:Int),((r0.getD (Int.toNat r3) default).hi:Int)⟩:Yr)] H rfl (.cons rfl (Flat.rep_enc _ (⟨(1500+r5:Int),((r0.getD (Int.toNat r3) default).lo:Int),((r0.getD (Int.toNat r3) default).hi:Int)⟩:Yr))<|.nil) rfl rfl rfl ?_;intro aO dy H
   have bY:=Sl.cells (H.os 0)
   have dz:=Sl.oc (H.os 0)
   refine s_nil ⟨(H.pk [2]),?_⟩
   refine ts_q rfl (fun w' H=>x_bld (ps:=[(2,I 1500),(3,I ((1500+r5)+r6)),(0,aO)]) (zs:=[.slice none 0 0,.slice none 0 0,I 0,I 0]) (L':=[aO,.slice none 0 0,I 1500,I ((1500+r5)+r6)]) rfl Tryz.underlying48 Al48 rfl (Bd48 Tryz.underlying48) (.cons (cs:=[I 1500]) rfl rfl rfl rfl rfl<|.cons (cs:=[I ((1500+r5)+r6)]) rfl rfl rfl rfl rfl<|.cons (cs:=[aO]) bY rfl rfl rfl rfl<|.nil)) ?_;refine ts_nil ?_;refine sr_l rfl ?_;refine t_sw 1 0 [aO,.slice none 0 0,I 1500,I ((1500+r5)+r6)] (.agg #[aO,.slice none 0 0,I 1500,I ((1500+r5)+r6)]) H rfl rfl Sz48 rfl rfl rfl (by simp only [List.all_cons,List.all_nil,Bool.true_and,Bool.and_true,Sl.oc (H.os 0)]; try rfl) ?_;intro dA H
   refine s_nil ⟨trivial,?_⟩
   refine sr_nil ?_
   exact ⟨ah,r6,aO,_,upds_of _ _ ⟨rfl,rfl,rfl,rfl,rfl,rfl,trivial⟩,hM,(H.pk [1,0,2])⟩
  skip
  refine t_bs (α:=Yr) T45 [.agg #[I (1500+r5),I ((r0.getD (Int.toNat r3) default).lo),I ((r0.getD (Int.toNat r3) default).hi)]] [(⟨(1500+r5:Int),((r0.getD (Int.toNat r3) default).lo:Int),((r0.getD (Int.toNat r3) default).hi:Int)⟩:Yr)] H rfl (.cons rfl (Flat.rep_enc _ (⟨(1500+r5:Int),((r0.getD (Int.toNat r3) default).lo:Int),((r0.getD (Int.toNat r3) default).hi:Int)⟩:Yr))<|.nil) rfl rfl rfl ?_;intro aP dB H
  have bZ:=Sl.cells (H.os 0)
  have dC:=Sl.oc (H.os 0)
  refine s_nil ⟨(H.pk [2]),?_⟩
  refine ts_l rfl ?_;obtain ⟨dD,b3,hM⟩:=M.e_bind hM;refine s_call cf7 [I after,I 100] rfl (zam after 100 b3 _ (H.gt 3)) ?_
  rintro vq dE ⟨r6,rfl,hvq,aa⟩
  subst vq;(try dsimp only at hM);replace H:=H.bk aa;clear aa
  refine s_nil ⟨(H.pk [2]),?_⟩
  obtain ⟨dF,hM⟩:=M.e_gd hM;refine ts_q rfl (fun w' H=>x_ari (r:=(1500+r5)+r6) rfl rfl rfl (by omega)) ?_;refine ts_q rfl (fun w' H=>x_bld (ps:=[(2,I 1500),(3,I ((1500+r5)+r6)),(0,aP)]) (zs:=[.slice none 0 0,.slice none 0 0,I 0,I 0]) (L':=[aP,.slice none 0 0,I 1500,I ((1500+r5)+r6)]) rfl Tryz.underlying48 Al48 rfl (Bd48 Tryz.underlying48) (.cons (cs:=[I 1500]) rfl rfl rfl rfl rfl<|.cons (cs:=[I ((1500+r5)+r6)]) rfl rfl rfl rfl rfl<|.cons (cs:=[aP]) bZ rfl rfl rfl rfl<|.nil)) ?_;refine ts_nil ?_;refine sr_l rfl ?_;refine t_sw 1 0 [aP,.slice none 0 0,I 1500,I ((1500+r5)+r6)] (.agg #[aP,.slice none 0 0,I 1500,I ((1500+r5)+r6)]) H rfl rfl Sz48 rfl rfl rfl (by simp only [List.all_cons,List.all_nil,Bool.true_and,Bool.and_true,Sl.oc (H.os 0)]; try rfl) ?_;intro dG H
  refine s_nil ⟨trivial,?_⟩
  refine sr_nil ?_
  exact ⟨ah,r6,aP,_,upds_of _ _ ⟨rfl,rfl,rfl,rfl,rfl,rfl,trivial⟩,hM,(H.pk [1,0,2])⟩
 rintro _ dH ⟨ah,r6,ai,ρ,rfl,hM,H⟩
 unfold zbw at hM
 refine W.seq ?_;refine W.drawTS (fun W=>St w W [cBlk ah [ai,.slice none 0 0,I 1500,I ((1500+r5)+r6)] 48,cOwn (α:=Yr) 44 ai ([(⟨(1500+r5:Int),((r0.getD (Int.toNat r3) default).lo:Int),((r0.getD (Int.toNat r3) default).hi:Int)⟩:Yr)]),cOwn (α:=Span) 41 ao r0] R) (.q 0 (.q 1 (.q 2 (.q 3 (.q 4 (.q 5 (.q 6 (.q 7 (.q 8 (.q 9 (.l 10 (.l 11 (.l 12 (.q 13 .nil)))))))))))))) 14 [14] mixed (by decide +kernel) rfl ?_;intro dJ av;replace H:=H.ext av;clear av
 refine ⟨(H.pk [0,1,2]),?_⟩
 refine ts_q rfl (fun w' H=>x_fa (v:=Oq ah 2) rfl (fa_blk (o:=0) Fd48_2 Sz3)) ?_;refine ts_q rfl (fun w' H=>x_ld (v:=I 1500) rfl (ldb_sc Sc3 (H.bl 0) rfl)) ?_;refine ts_q rfl (fun w' H=>x_fa (v:=Oq ah 3) rfl (fa_blk (o:=0) Fd48_3 Sz3)) ?_;refine ts_q rfl (fun w' H=>x_ld (v:=I ((1500+r5)+r6)) rfl (ldb_sc Sc3 (H.bl 0) rfl)) ?_;refine ts_q rfl (fun w' H=>x_mv (v:=ao) rfl) ?_;refine ts_q rfl (fun w' H=>x_mv (v:=I r3) rfl) ?_;refine ts_q rfl (fun w' H=>x_ix (v:=vat ao 2 (Int.toNat r3)) rfl rfl (Sl.ix (α:=Span) T35.und T35.size (H.os 2) (by omega) (by omega))) ?_;refine ts_q rfl (fun w' H=>x_fa (v:=fat (vat ao 2 (Int.toNat r3)) 0) rfl (fa_pl Fd41_0 Sz3 (Sl.pl (i:=r3) (H.os 2) (by omega) (by omega)))) ?_;refine ts_q rfl (fun w' H=>x_ld (v:=I ((r0.getD (Int.toNat r3) default).lo)) rfl (ld_sc Sc3 (At.mono (Span_at0 (H.os 2) (i:=r3) (by omega) (by omega)) (H.ol 2)))) ?_;refine ts_q rfl (fun w' H=>x_mv (v:=I (1500+r5)) rfl) ?_;refine ts_l rfl ?_;refine t_bs (α:=Int) T28 [I (1500+r5)] [(1500+r5:Int)] H rfl (.cons rfl (Flat.rep_enc _ (1500+r5:Int))<|.nil) rfl rfl rfl ?_;intro aQ dK H
 have dL:=Sl.cells (H.os 0)
 have dM:=Sl.oc (H.os 0)
 refine s_nil ⟨(H.pk [1,2,3]),?_⟩
 refine ts_l rfl<|s_val (x_bld (ps:=[(0,I 1500),(1,I ((1500+r5)+r6)),(2,I ((r0.getD (Int.toNat r3) default).lo)),(3,aQ)]) (zs:=[I 0,I 0,I 0,.slice none 0 0]) (L':=[I 1500,I ((1500+r5)+r6),I ((r0.getD (Int.toNat r3) default).lo),aQ]) rfl Tryz.underlying50 Al50 rfl (Bd50 Tryz.underlying50) (.cons (cs:=[I 1500]) rfl rfl rfl rfl rfl<|.cons (cs:=[I ((1500+r5)+r6)]) rfl rfl rfl rfl rfl<|.cons (cs:=[I ((r0.getD (Int.toNat r3) default).lo)]) rfl rfl rfl rfl rfl<|.cons (cs:=[aQ]) (Sl.cells (H.os 0)) rfl rfl rfl rfl<|.nil)) ?_
 refine s_nil ⟨(H.pk [1,2,3]),?_⟩
 refine ts_l rfl ?_
 obtain ⟨dN,H⟩:=H.emptyE
 obtain ⟨dO,H,b4⟩:=H.freezeE (k:=1) rfl
 replace H:=H.nf
 have a6:=b4
 obtain ⟨aR,H,dP,b5⟩:=H.joinE (i:=0) (j:=1) rfl rfl
 replace a6:=a6.mono b5
 obtain ⟨aD,bw⟩:∃ r:Raw 3,r.cs=[I 1500,I ((1500+r5)+r6),I ((r0.getD (Int.toNat r3) default).lo),aQ]:=⟨Raw.of [I 1500,I ((1500+r5)+r6),I ((r0.getD (Int.toNat r3) default).lo),aQ] rfl (by simp only [List.all_cons,List.all_nil,Bool.true_and,Bool.and_true,Sl.oc a6]; try rfl),rfl⟩
 have az:RepR (α:=Old10) aR.cells [aD] [(⟨(1500:Int),((1500+r5)+r6:Int),((r0.getD (Int.toNat r3) default).lo:Int),([(1500+r5:Int)])⟩:Old10)]:=.cons (by rw [bw]; exact ⟨_,rfl,a6⟩)<|.nil
 refine t_bs (α:=Raw 3) T46 [.agg #[I 1500,I ((1500+r5)+r6),I ((r0.getD (Int.toNat r3) default).lo),aQ]] [aD] H rfl (.cons (by rw [show (Flat.enc aD:List Value)=aD.cs from rfl,bw]; rfl) (Flat.rep_enc _ _)<|.nil) rfl rfl rfl ?_;intro am dQ H;replace H:=H.nf
 have dR:=Sl.cells (H.os 0)
 have dS:=Sl.oc (H.os 0)
 refine s_nil ⟨(H.pk [4,5,6]),?_⟩
 refine ts_q rfl (fun w' H=>x_fa (v:=Oq ah 1) rfl (fa_blk (o:=0) Fd48_1 Sz46)) ?_;refine ts_nil ?_;refine sr_l rfl ?_;refine t_sw 4 1 [am] am H rfl rfl Sz46 (Sl.cells (rowSl rfl (H.get (k:=0) rfl) (roLe _ (H.get (k:=1) rfl)) az)) rfl rfl (by simp only [List.all_cons,List.all_nil,Bool.true_and,Bool.and_true,Sl.oc (rowSl rfl (H.get (k:=0) rfl) (roLe _ (H.get (k:=1) rfl)) az)]; try rfl) ?_;intro dT H
 refine s_nil ⟨trivial,?_⟩
 refine sr_nil ?_;replace H:=H.pk [0,1,4,5,6];refine kg 12 ?_
 replace H:=H.nilOwn (α:=Int) 3
 obtain ⟨b6,bc,b7⟩:=M.e_bind hM
 obtain ⟨bI,bc⟩:=M.e_iter bc
 refine W.loop (fun m σ W=>∃ (k:Nat) (l4:List Int) (aA:Value) (ρ:Env),σ=upds ρ [(4,I lower),(15,ao),(17,I r3),(18,I (au.getD (Int.toNat r3) 0)),(19,I (1500+r5)),(20,Pq ah),(21,aA),(22,I (k:Int))]/\M.iterN (zay lower au r0 r3 r5 r6) m (k,l4)=some b6/\St w W [cOwn (α:=Int) 3 aA l4,cOwn (α:=Raw 3) 50 am ([aD]),cRo aR,cBlk ah [ai,am,I 1500,I ((1500+r5)+r6)] 48,cOwn (α:=Yr) 44 ai ([(⟨(1500+r5:Int),((r0.getD (Int.toNat r3) default).lo:Int),((r0.getD (Int.toNat r3) default).hi:Int)⟩:Yr)]),cOwn (α:=Span) 41 ao r0] R) ?_ ?_
 ·exact ⟨_,1500,[],(.slice none 0 0),_,upds_of _ _ ⟨rfl,rfl,rfl,rfl,rfl,rfl,rfl,rfl,trivial⟩,bc,H⟩
 rintro dU σ dV ⟨k,l4,aA,ρ,rfl,bx,H⟩
 obtain ⟨bz,bA,dW,hM,bf⟩:=M.e_iterN bx
 simp only [zay] at hM
 clear bx;refine kg 8 ?_
 refine W.cond (decide ((k:Int)<=((1500+r5)+r6))) rfl (fun aH=>?_) (fun aH=>?_)
 ·replace hM:=M.e_t hM aH
  replace aH:=dI aH
  refine kg 7 ?_;refine s_val (x_addW (a:=lower) (b:=(k:Int)) rfl rfl) ?_;refine kg 5 ?_;obtain ⟨dX,b8,hM⟩:=M.e_bind hM;refine s_call cf7 [I (wr64 (lower+(k:Int))),I ((r0.getD (Int.toNat r3) default).lo)] rfl (zam (wr64 (lower+(k:Int))) ((r0.getD (Int.toNat r3) default).lo) b8 _ (H.gt 6)) ?_
  rintro vq dY ⟨r7,rfl,hvq,aa⟩
  subst vq;(try dsimp only at hM);replace H:=H.bk aa;clear aa;refine kg 9 ?_
  refine W.cond ((k:Int)==(1500+r5)) rfl (fun aI=>?_) (fun aI=>?_)
  ·replace hM:=M.e_t hM aI
   replace aI:=dI aI
   refine kg 7 ?_;refine t_bs (α:=Int) T28 [I (au.getD (Int.toNat r3) 0)] [(au.getD (Int.toNat r3) 0:Int)] H rfl (.cons rfl (Flat.rep_enc _ (au.getD (Int.toNat r3) 0:Int))<|.nil) rfl rfl rfl ?_;intro b9 dZ H;obtain ⟨d5,hM⟩:=M.e_gd hM;refine t_app (α:=Int) (k:=1) (l:=l4) (l2:=[(au.getD (Int.toNat r3) 0:Int)]) (l':=l4++([(au.getD (Int.toNat r3) 0:Int)])) (vy:=b9) T28 rfl H rfl rfl rfl (H.os 0) (H.ol 0) (rfl) (by first | omega | (simp only [List.length_nil] at *; omega)) ?_;intro cb d6 H;replace H:=H.nf;obtain ⟨d7,hM⟩:=M.e_gd hM;refine kg 7 ?_
   exact ⟨bz,bA,k+1,l4++([(au.getD (Int.toNat r3) 0:Int)]),cb,_,upds_of _ _ ⟨rfl,rfl,rfl,rfl,rfl,rfl,rfl,rfl,trivial⟩,M.e_inl hM bf,(H.pk [1,2,3,4,5,6])⟩
  replace hM:=M.e_f hM aI
  replace aI:=dI aI
  refine kg 4 ?_;refine t_bs (α:=Int) T28 [I r7] [(r7:Int)] H rfl (.cons rfl (Flat.rep_enc _ (r7:Int))<|.nil) rfl rfl rfl ?_;intro cc d8 H;obtain ⟨d9,hM⟩:=M.e_gd hM;refine t_app (α:=Int) (k:=1) (l:=l4) (l2:=[(r7:Int)]) (l':=l4++([(r7:Int)])) (vy:=cc) T28 rfl H rfl rfl rfl (H.os 0) (H.ol 0) (rfl) (by first | omega | (simp only [List.length_nil] at *; omega)) ?_;intro cd ea H;replace H:=H.nf;obtain ⟨eb,hM⟩:=M.e_gd hM;refine kg 7 ?_
  exact ⟨bz,bA,k+1,l4++([(r7:Int)]),cd,_,upds_of _ _ ⟨rfl,rfl,rfl,rfl,rfl,rfl,rfl,rfl,trivial⟩,M.e_inl hM bf,(H.pk [1,2,3,4,5,6])⟩
 replace hM:=M.e_f hM aH
 replace aH:=dI aH
 refine W.exit ?_
 have ce:=M.e_inr hM bf
 subst ce;replace hM:=b7;(try dsimp only at hM);refine kg 4 ?_;obtain ⟨ec,cf,hM⟩:=M.e_bind hM;refine s_call cf9 [.agg #[ai,am,I 1500,I ((1500+r5)+r6)],aA] rfl (zdO ([(⟨(1500+r5:Int),((r0.getD (Int.toNat r3) default).lo:Int),((r0.getD (Int.toNat r3) default).hi:Int)⟩:Yr)]) ([(⟨(1500:Int),((1500+r5)+r6:Int),((r0.getD (Int.toNat r3) default).lo:Int),([(1500+r5:Int)])⟩:Old10)]) 1500 ((1500+r5)+r6) l4 (rdo 4) (H.os 4) (Reads.sup (rdo 1) (Reads.of (k:=2) rfl roLe)) (rowSl rfl (H.get (k:=1) rfl) (roLe _ (H.get (k:=2) rfl)) az) (rdo 0) (H.os 0) cf _ (H.gt 6)) ?_
 rintro vq ed ⟨ax,ay,rfl,hvq,aa⟩
 subst vq;(try dsimp only at hM);replace H:=H.bk aa;clear aa;refine kg 6 ?_;refine W.seqJ (fun σ W=>∃ (aB:Nat) (ap:Int) (aj:Int) (ak:Int) (ρ:Env),σ=upds ρ [(15,ao),(16,I ay),(17,I r3),(19,I (1500+r5)),(20,Pq ah),(21,aA),(24,B ax),(25,Pq aB),(26,I ap)]/\(zbB r0 r3 r5 r6 l4 ax ay aj ak ap).Ends r/\St w W [cBlk aB [I aj,I ak] 41,cOwn (α:=Int) 3 aA l4,cOwn (α:=Raw 3) 50 am ([aD]),cRo aR,cBlk ah [ai,am,I 1500,I ((1500+r5)+r6)] 48,cOwn (α:=Yr) 44 ai ([(⟨(1500+r5:Int),((r0.getD (Int.toNat r3) default).lo:Int),((r0.getD (Int.toNat r3) default).hi:Int)⟩:Yr)]),cOwn (α:=Span) 41 ao r0] R) ?_ ?_
 ·skip
  refine W.drawT (fun W=>St w W [cOwn (α:=Int) 3 aA l4,cOwn (α:=Raw 3) 50 am ([aD]),cRo aR,cBlk ah [ai,am,I 1500,I ((1500+r5)+r6)] 48,cOwn (α:=Yr) 44 ai ([(⟨(1500+r5:Int),((r0.getD (Int.toNat r3) default).lo:Int),((r0.getD (Int.toNat r3) default).hi:Int)⟩:Yr)]),cOwn (α:=Span) 41 ao r0] R) (.q 0 (.q 1 (.q 2 (.q 3 (.q 4 (.q 5 (.q 6 (.q 7 (.q 8 (.q 9 (.l2 10 (.q 11 (.q 12 (.q 13 (.l 14 (.l 15 (.q 16 .nil)))))) 14 (.l 10 (.q 11 (.q 12 (.q 13 (.l 15 (.q 16 .nil))))))))))))))))) mixed (by decide +kernel) rfl ?_;intro ee av;replace H:=H.ext av;clear av
  refine ⟨(H.pk [0,1,2,3,4,5]),?_⟩
  refine kg 10 ?_;refine t_l2 rfl rfl ?_ ?_
  ·skip
   obtain ⟨ef,cg,hM⟩:=M.e_bind hM;refine s_call cf10 [.agg #[ai,am,I 1500,I ((1500+r5)+r6)],I 1500,I ((1500+r5)+r6),I ((r0.getD (Int.toNat r3) default).lo)] rfl (zaP ([(⟨(1500+r5:Int),((r0.getD (Int.toNat r3) default).lo:Int),((r0.getD (Int.toNat r3) default).hi:Int)⟩:Yr)]) ([(⟨(1500:Int),((1500+r5)+r6:Int),((r0.getD (Int.toNat r3) default).lo:Int),([(1500+r5:Int)])⟩:Old10)]) 1500 ((1500+r5)+r6) 1500 ((1500+r5)+r6) ((r0.getD (Int.toNat r3) default).lo) (rdo 4) (H.os 4) (Reads.sup (rdo 1) (Reads.of (k:=2) rfl roLe)) (rowSl rfl (H.get (k:=1) rfl) (roLe _ (H.get (k:=2) rfl)) az) cg _ (H.gt 6)) ?_
   rintro vq eg ⟨aj,ak,ap,rfl,hvq,aa⟩
   subst vq;(try dsimp only at hM);replace H:=H.bk aa;clear aa
   refine s_nil ⟨(H.pk [0,1,2,3,4,5]),?_⟩
   refine kg 3 ?_;refine t_l rfl ?_;refine t_alloc (cs:=[I 0,I 0]) H Al41 rfl ?_;intro aB ei H
   refine s_nil ⟨(H.pk [1,2,3,4,5,6]),?_⟩
   refine t_l rfl ?_;refine t_sw 0 0 [I aj,I ak] (.agg #[I aj,I ak]) H rfl rfl Sz41 rfl rfl rfl rfl ?_;intro ej H
   refine s_nil ⟨(H.pk [1,2,3,4,5,6]),?_⟩
   refine kg 2 ?_
   exact ⟨aB,ap,aj,ak,_,upds_of _ _ ⟨rfl,rfl,rfl,rfl,rfl,rfl,rfl,rfl,rfl,trivial⟩,hM,H⟩
  skip
  refine t_alloc (cs:=[I 0,I 0]) H Al41 rfl ?_;intro aB ek H
  refine s_nil ⟨(H.pk [1,2,3,4,5,6]),?_⟩
  refine t_l rfl ?_;obtain ⟨em,ch,hM⟩:=M.e_bind hM;refine s_call cf10 [.agg #[ai,am,I 1500,I ((1500+r5)+r6)],I 1500,I ((1500+r5)+r6),I ((r0.getD (Int.toNat r3) default).lo)] rfl (zaP ([(⟨(1500+r5:Int),((r0.getD (Int.toNat r3) default).lo:Int),((r0.getD (Int.toNat r3) default).hi:Int)⟩:Yr)]) ([(⟨(1500:Int),((1500+r5)+r6:Int),((r0.getD (Int.toNat r3) default).lo:Int),([(1500+r5:Int)])⟩:Old10)]) 1500 ((1500+r5)+r6) 1500 ((1500+r5)+r6) ((r0.getD (Int.toNat r3) default).lo) (rdo 5) (H.os 5) (Reads.sup (rdo 2) (Reads.of (k:=3) rfl roLe)) (rowSl rfl (H.get (k:=2) rfl) (roLe _ (H.get (k:=3) rfl)) az) ch _ (H.gt 7)) ?_
  rintro vq eo ⟨aj,ak,ap,rfl,hvq,aa⟩
  subst vq;(try dsimp only at hM);replace H:=H.bk aa;clear aa
  refine s_nil ⟨(H.pk [1,2,3,4,5,6]),?_⟩
  refine kg 3 ?_;refine t_l rfl ?_;refine t_sw 0 0 [I aj,I ak] (.agg #[I aj,I ak]) H rfl rfl Sz41 rfl rfl rfl rfl ?_;intro ep H
  refine s_nil ⟨(H.pk [1,2,3,4,5,6]),?_⟩
  refine kg 2 ?_
  exact ⟨aB,ap,aj,ak,_,upds_of _ _ ⟨rfl,rfl,rfl,rfl,rfl,rfl,rfl,rfl,rfl,trivial⟩,hM,H⟩
 rintro _ eq ⟨aB,ap,aj,ak,ρ,rfl,hM,H⟩
 unfold zbB at hM
 refine W.seqJ (fun σ W=>∃ (aq:Nat) (ar:Nat) (al:Int) (ab:Int) (ac:Int) (ae:Int) (ag:Int) (ρ:Env),σ=upds ρ [(15,ao),(16,I ay),(17,I r3),(19,I (1500+r5)),(20,Pq ah),(21,aA),(24,B ax),(25,Pq aB),(26,I ap),(27,Pq aq),(28,Pq ar),(29,I al)]/\(zbJ r0 r3 r5 r6 l4 ax ay aj ak ap ab ac ae ag al).Ends r/\St w W [cBlk ar [I ae,I ag] 56,cBlk aq [I ab,I ac] 56,cBlk aB [I aj,I ak] 41,cOwn (α:=Int) 3 aA l4,cOwn (α:=Raw 3) 50 am ([aD]),cRo aR,cBlk ah [ai,am,I 1500,I ((1500+r5)+r6)] 48,cOwn (α:=Yr) 44 ai ([(⟨(1500+r5:Int),((r0.getD (Int.toNat r3) default).lo:Int),((r0.getD (Int.toNat r3) default).hi:Int)⟩:Yr)]),cOwn (α:=Span) 41 ao r0] R) ?_ ?_
 ·skip
  refine W.drawT (fun W=>St w W [cBlk aB [I aj,I ak] 41,cOwn (α:=Int) 3 aA l4,cOwn (α:=Raw 3) 50 am ([aD]),cRo aR,cBlk ah [ai,am,I 1500,I ((1500+r5)+r6)] 48,cOwn (α:=Yr) 44 ai ([(⟨(1500+r5:Int),((r0.getD (Int.toNat r3) default).lo:Int),((r0.getD (Int.toNat r3) default).hi:Int)⟩:Yr)]),cOwn (α:=Span) 41 ao r0] R) (.q 0 (.q 1 (.q 2 (.q 3 (.q 4 (.q 5 (.l3 6 (.q 7 (.q 8 (.q 9 (.q 10 (.l2 11 (.l 12 (.l 13 (.l 14 (.q 15 .nil)))) 12 (.l 11 (.l 13 (.l 14 (.q 15 .nil))))))))) 11 (.l2 6 (.q 7 (.q 8 (.q 9 (.q 10 (.l 12 (.l 13 (.l 14 (.q 15 .nil)))))))) 12 (.l 6 (.q 7 (.q 8 (.q 9 (.q 10 (.l 13 (.l 14 (.q 15 .nil))))))))) 12 (.l2 6 (.q 7 (.q 8 (.q 9 (.q 10 (.l 11 (.l 13 (.l 14 (.q 15 .nil)))))))) 11 (.l 6 (.q 7 (.q 8 (.q 9 (.q 10 (.l 13 (.l 14 (.q 15 .nil)))))))))))))))) mixed (by decide +kernel) rfl ?_;intro er av;replace H:=H.ext av;clear av
  refine ⟨(H.pk [0,1,2,3,4,5,6]),?_⟩
  refine kg 6 ?_;refine t_l3 rfl rfl rfl ?_ ?_ ?_
  ·skip
   obtain ⟨eu,ci,hM⟩:=M.e_bind hM;refine s_call cf11 [.agg #[ai,am,I 1500,I ((1500+r5)+r6)],I ((r0.getD (Int.toNat r3) default).lo)] rfl (zau ([(⟨(1500+r5:Int),((r0.getD (Int.toNat r3) default).lo:Int),((r0.getD (Int.toNat r3) default).hi:Int)⟩:Yr)]) ([(⟨(1500:Int),((1500+r5)+r6:Int),((r0.getD (Int.toNat r3) default).lo:Int),([(1500+r5:Int)])⟩:Old10)]) 1500 ((1500+r5)+r6) ((r0.getD (Int.toNat r3) default).lo) (rdo 5) (H.os 5) (Reads.sup (rdo 2) (Reads.of (k:=3) rfl roLe)) (rowSl rfl (H.get (k:=2) rfl) (roLe _ (H.get (k:=3) rfl)) az) ci _ (H.gt 7)) ?_
   rintro vq ew ⟨ab,ac,ae,ag,al,rfl,hvq,aa⟩
   subst vq;(try dsimp only at hM);replace H:=H.bk aa;clear aa
   refine s_nil ⟨(H.pk [0,1,2,3,4,5,6]),?_⟩
   refine kg 4 ?_;refine t_l2 rfl rfl ?_ ?_
   ·skip
    refine t_alloc (cs:=[I 0,I 0]) H Al56 rfl ?_;intro aq ey H
    refine s_nil ⟨(H.pk [1,2,3,4,5,6,7]),?_⟩
    refine t_l rfl ?_;refine t_alloc (cs:=[I 0,I 0]) H Al56 rfl ?_;intro ar ez H
    refine s_nil ⟨(H.pk [2,3,4,5,6,7,8]),?_⟩
    refine t_l rfl ?_;refine t_sw 1 0 [I ab,I ac] (.agg #[I ab,I ac]) H rfl rfl Sz56 rfl rfl rfl rfl ?_;intro eA H
    refine s_nil ⟨(H.pk [2,3,4,5,6,7,8]),?_⟩
    refine t_l rfl ?_;refine t_sw 0 0 [I ae,I ag] (.agg #[I ae,I ag]) H rfl rfl Sz56 rfl rfl rfl rfl ?_;intro eB H
    refine s_nil ⟨(H.pk [2,3,4,5,6,7,8]),?_⟩
    refine kg 2 ?_
    exact ⟨aq,ar,al,ab,ac,ae,ag,_,upds_of _ _ ⟨rfl,rfl,rfl,rfl,rfl,rfl,rfl,rfl,rfl,rfl,rfl,rfl,trivial⟩,hM,H⟩
   skip
   refine t_alloc (cs:=[I 0,I 0]) H Al56 rfl ?_;intro ar eC H
   refine s_nil ⟨(H.pk [1,2,3,4,5,6,7]),?_⟩
   refine t_l rfl ?_;refine t_alloc (cs:=[I 0,I 0]) H Al56 rfl ?_;intro aq eD H
   refine s_nil ⟨(H.pk [2,3,4,5,6,7,8]),?_⟩
   refine t_l rfl ?_;refine t_sw 0 0 [I ab,I ac] (.agg #[I ab,I ac]) H rfl rfl Sz56 rfl rfl rfl rfl ?_;intro eE H
   refine s_nil ⟨(H.pk [2,3,4,5,6,7,8]),?_⟩
   refine t_l rfl ?_;refine t_sw 1 0 [I ae,I ag] (.agg #[I ae,I ag]) H rfl rfl Sz56 rfl rfl rfl rfl ?_;intro eF H
   refine s_nil ⟨(H.pk [2,3,4,5,6,7,8]),?_⟩
   refine kg 2 ?_
   exact ⟨aq,ar,al,ab,ac,ae,ag,_,upds_of _ _ ⟨rfl,rfl,rfl,rfl,rfl,rfl,rfl,rfl,rfl,rfl,rfl,rfl,trivial⟩,hM,(H.pk [1,0,2,3,4,5,6,7,8])⟩
  ·skip
   refine t_alloc (cs:=[I 0,I 0]) H Al56 rfl ?_;intro aq eG H
   refine s_nil ⟨(H.pk [1,2,3,4,5,6,7]),?_⟩
   refine t_l2 rfl rfl ?_ ?_
   ·skip
    obtain ⟨eH,cj,hM⟩:=M.e_bind hM;refine s_call cf11 [.agg #[ai,am,I 1500,I ((1500+r5)+r6)],I ((r0.getD (Int.toNat r3) default).lo)] rfl (zau ([(⟨(1500+r5:Int),((r0.getD (Int.toNat r3) default).lo:Int),((r0.getD (Int.toNat r3) default).hi:Int)⟩:Yr)]) ([(⟨(1500:Int),((1500+r5)+r6:Int),((r0.getD (Int.toNat r3) default).lo:Int),([(1500+r5:Int)])⟩:Old10)]) 1500 ((1500+r5)+r6) ((r0.getD (Int.toNat r3) default).lo) (rdo 6) (H.os 6) (Reads.sup (rdo 3) (Reads.of (k:=4) rfl roLe)) (rowSl rfl (H.get (k:=3) rfl) (roLe _ (H.get (k:=4) rfl)) az) cj _ (H.gt 8)) ?_
    rintro vq eI ⟨ab,ac,ae,ag,al,rfl,hvq,aa⟩
    subst vq;(try dsimp only at hM);replace H:=H.bk aa;clear aa
    refine s_nil ⟨(H.pk [1,2,3,4,5,6,7]),?_⟩
    refine kg 4 ?_;refine t_l rfl ?_;refine t_alloc (cs:=[I 0,I 0]) H Al56 rfl ?_;intro ar eJ H
    refine s_nil ⟨(H.pk [2,3,4,5,6,7,8]),?_⟩
    refine t_l rfl ?_;refine t_sw 1 0 [I ab,I ac] (.agg #[I ab,I ac]) H rfl rfl Sz56 rfl rfl rfl rfl ?_;intro eK H
    refine s_nil ⟨(H.pk [2,3,4,5,6,7,8]),?_⟩
    refine t_l rfl ?_;refine t_sw 0 0 [I ae,I ag] (.agg #[I ae,I ag]) H rfl rfl Sz56 rfl rfl rfl rfl ?_;intro eL H
    refine s_nil ⟨(H.pk [2,3,4,5,6,7,8]),?_⟩
    refine kg 2 ?_
    exact ⟨aq,ar,al,ab,ac,ae,ag,_,upds_of _ _ ⟨rfl,rfl,rfl,rfl,rfl,rfl,rfl,rfl,rfl,rfl,rfl,rfl,trivial⟩,hM,H⟩
   skip
   refine t_alloc (cs:=[I 0,I 0]) H Al56 rfl ?_;intro ar eM H
   refine s_nil ⟨(H.pk [2,3,4,5,6,7,8]),?_⟩
   refine t_l rfl ?_;obtain ⟨eN,ck,hM⟩:=M.e_bind hM;refine s_call cf11 [.agg #[ai,am,I 1500,I ((1500+r5)+r6)],I ((r0.getD (Int.toNat r3) default).lo)] rfl (zau ([(⟨(1500+r5:Int),((r0.getD (Int.toNat r3) default).lo:Int),((r0.getD (Int.toNat r3) default).hi:Int)⟩:Yr)]) ([(⟨(1500:Int),((1500+r5)+r6:Int),((r0.getD (Int.toNat r3) default).lo:Int),([(1500+r5:Int)])⟩:Old10)]) 1500 ((1500+r5)+r6) ((r0.getD (Int.toNat r3) default).lo) (rdo 7) (H.os 7) (Reads.sup (rdo 4) (Reads.of (k:=5) rfl roLe)) (rowSl rfl (H.get (k:=4) rfl) (roLe _ (H.get (k:=5) rfl)) az) ck _ (H.gt 9)) ?_
   rintro vq eO ⟨ab,ac,ae,ag,al,rfl,hvq,aa⟩
   subst vq;(try dsimp only at hM);replace H:=H.bk aa;clear aa
   refine s_nil ⟨(H.pk [2,3,4,5,6,7,8]),?_⟩
   refine kg 4 ?_;refine t_l rfl ?_;refine t_sw 1 0 [I ab,I ac] (.agg #[I ab,I ac]) H rfl rfl Sz56 rfl rfl rfl rfl ?_;intro eP H
   refine s_nil ⟨(H.pk [2,3,4,5,6,7,8]),?_⟩
   refine t_l rfl ?_;refine t_sw 0 0 [I ae,I ag] (.agg #[I ae,I ag]) H rfl rfl Sz56 rfl rfl rfl rfl ?_;intro eQ H
   refine s_nil ⟨(H.pk [2,3,4,5,6,7,8]),?_⟩
   refine kg 2 ?_
   exact ⟨aq,ar,al,ab,ac,ae,ag,_,upds_of _ _ ⟨rfl,rfl,rfl,rfl,rfl,rfl,rfl,rfl,rfl,rfl,rfl,rfl,trivial⟩,hM,H⟩
  skip
  refine t_alloc (cs:=[I 0,I 0]) H Al56 rfl ?_;intro ar eR H
  refine s_nil ⟨(H.pk [1,2,3,4,5,6,7]),?_⟩
  refine t_l2 rfl rfl ?_ ?_
  ·skip
   obtain ⟨eS,cl,hM⟩:=M.e_bind hM;refine s_call cf11 [.agg #[ai,am,I 1500,I ((1500+r5)+r6)],I ((r0.getD (Int.toNat r3) default).lo)] rfl (zau ([(⟨(1500+r5:Int),((r0.getD (Int.toNat r3) default).lo:Int),((r0.getD (Int.toNat r3) default).hi:Int)⟩:Yr)]) ([(⟨(1500:Int),((1500+r5)+r6:Int),((r0.getD (Int.toNat r3) default).lo:Int),([(1500+r5:Int)])⟩:Old10)]) 1500 ((1500+r5)+r6) ((r0.getD (Int.toNat r3) default).lo) (rdo 6) (H.os 6) (Reads.sup (rdo 3) (Reads.of (k:=4) rfl roLe)) (rowSl rfl (H.get (k:=3) rfl) (roLe _ (H.get (k:=4) rfl)) az) cl _ (H.gt 8)) ?_
   rintro vq eT ⟨ab,ac,ae,ag,al,rfl,hvq,aa⟩
   subst vq;(try dsimp only at hM);replace H:=H.bk aa;clear aa
   refine s_nil ⟨(H.pk [1,2,3,4,5,6,7]),?_⟩
   refine kg 4 ?_;refine t_l rfl ?_;refine t_alloc (cs:=[I 0,I 0]) H Al56 rfl ?_;intro aq eU H
   refine s_nil ⟨(H.pk [2,3,4,5,6,7,8]),?_⟩
   refine t_l rfl ?_;refine t_sw 0 0 [I ab,I ac] (.agg #[I ab,I ac]) H rfl rfl Sz56 rfl rfl rfl rfl ?_;intro eV H
   refine s_nil ⟨(H.pk [2,3,4,5,6,7,8]),?_⟩
   refine t_l rfl ?_;refine t_sw 1 0 [I ae,I ag] (.agg #[I ae,I ag]) H rfl rfl Sz56 rfl rfl rfl rfl ?_;intro eW H
   refine s_nil ⟨(H.pk [2,3,4,5,6,7,8]),?_⟩
   refine kg 2 ?_
   exact ⟨aq,ar,al,ab,ac,ae,ag,_,upds_of _ _ ⟨rfl,rfl,rfl,rfl,rfl,rfl,rfl,rfl,rfl,rfl,rfl,rfl,trivial⟩,hM,(H.pk [1,0,2,3,4,5,6,7,8])⟩
  skip
  refine t_alloc (cs:=[I 0,I 0]) H Al56 rfl ?_;intro aq eX H
  refine s_nil ⟨(H.pk [2,3,4,5,6,7,8]),?_⟩
  refine t_l rfl ?_;obtain ⟨eY,cn,hM⟩:=M.e_bind hM;refine s_call cf11 [.agg #[ai,am,I 1500,I ((1500+r5)+r6)],I ((r0.getD (Int.toNat r3) default).lo)] rfl (zau ([(⟨(1500+r5:Int),((r0.getD (Int.toNat r3) default).lo:Int),((r0.getD (Int.toNat r3) default).hi:Int)⟩:Yr)]) ([(⟨(1500:Int),((1500+r5)+r6:Int),((r0.getD (Int.toNat r3) default).lo:Int),([(1500+r5:Int)])⟩:Old10)]) 1500 ((1500+r5)+r6) ((r0.getD (Int.toNat r3) default).lo) (rdo 7) (H.os 7) (Reads.sup (rdo 4) (Reads.of (k:=5) rfl roLe)) (rowSl rfl (H.get (k:=4) rfl) (roLe _ (H.get (k:=5) rfl)) az) cn _ (H.gt 9)) ?_
  rintro vq eZ ⟨ab,ac,ae,ag,al,rfl,hvq,aa⟩
  subst vq;(try dsimp only at hM);replace H:=H.bk aa;clear aa
  refine s_nil ⟨(H.pk [2,3,4,5,6,7,8]),?_⟩
  refine kg 4 ?_;refine t_l rfl ?_;refine t_sw 0 0 [I ab,I ac] (.agg #[I ab,I ac]) H rfl rfl Sz56 rfl rfl rfl rfl ?_;intro e5 H
  refine s_nil ⟨(H.pk [2,3,4,5,6,7,8]),?_⟩
  refine t_l rfl ?_;refine t_sw 1 0 [I ae,I ag] (.agg #[I ae,I ag]) H rfl rfl Sz56 rfl rfl rfl rfl ?_;intro e6 H
  refine s_nil ⟨(H.pk [2,3,4,5,6,7,8]),?_⟩
  refine kg 2 ?_
  exact ⟨aq,ar,al,ab,ac,ae,ag,_,upds_of _ _ ⟨rfl,rfl,rfl,rfl,rfl,rfl,rfl,rfl,rfl,rfl,rfl,rfl,trivial⟩,hM,(H.pk [1,0,2,3,4,5,6,7,8])⟩
 rintro _ e7 ⟨aq,ar,al,ab,ac,ae,ag,ρ,rfl,hM,H⟩
 unfold zbJ at hM
 refine kg 4 ?_;obtain ⟨e8,co,hM⟩:=M.e_bind hM;refine s_call cf12 [.agg #[ai,am,I 1500,I ((1500+r5)+r6)],I (1500+r5)] rfl (zdL ([(⟨(1500+r5:Int),((r0.getD (Int.toNat r3) default).lo:Int),((r0.getD (Int.toNat r3) default).hi:Int)⟩:Yr)]) ([(⟨(1500:Int),((1500+r5)+r6:Int),((r0.getD (Int.toNat r3) default).lo:Int),([(1500+r5:Int)])⟩:Old10)]) 1500 ((1500+r5)+r6) (1500+r5) (rdo 7) (H.os 7) (Reads.sup (rdo 4) (Reads.of (k:=5) rfl roLe)) (rowSl rfl (H.get (k:=4) rfl) (roLe _ (H.get (k:=5) rfl)) az) co _ (H.gt 9)) ?_
 rintro vq e9 ⟨aJ,aK,aE,rfl,hvq,aa⟩
 subst vq;(try dsimp only at hM);replace H:=H.bk aa;clear aa;refine kg 3 ?_;refine t_alloc (cs:=[I 0,I 0]) H Al41 rfl ?_;intro cp fa H;refine t_sw 0 0 [I aJ,I aK] (.agg #[I aJ,I aK]) H rfl rfl Sz41 rfl rfl rfl rfl ?_;intro fb H;refine kg 2 ?_;replace H:=H.pk [0,1,2,3,4,9];refine W.seq ?_;refine W.draw (fun W=>St w W [cBlk cp [I aJ,I aK] 41,cBlk ar [I ae,I ag] 56,cBlk aq [I ab,I ac] 56,cBlk aB [I aj,I ak] 41,cOwn (α:=Int) 3 aA l4,cOwn (α:=Span) 41 ao r0] R) [(0,true),(1,true),(2,true),(3,true),(4,true),(5,true),(6,true),(7,true),(8,true),(9,true),(10,true),(11,true),(12,true),(13,true),(14,true),(15,true),(16,true),(17,true),(18,true),(19,true),(20,true),(21,true),(22,true),(23,true),(24,true),(25,true),(26,true),(27,true),(28,true),(29,true),(30,true),(31,true),(32,true),(33,true),(34,true),(35,true),(36,true),(37,true),(38,true),(39,true),(40,true),(41,true),(42,true),(43,false),(44,true),(45,true)] mixed (by decide +kernel) rfl ?_;intro fd av;replace H:=H.ext av;clear av
 refine ⟨(H.pk [0,1,2,3,4,5]),?_⟩
 refine kg 19 ?_;refine d_qg (((((ay==0)&&(ap==0))&&(al==0))&&(aE==0))&&ax) rfl (gy_t rfl) (fun hg=>(fun w' H=>x_bld (ps:=[(0,I 1),(1,I 1)]) (zs:=[I 0,I 0]) (L':=[I 1,I 1]) rfl Tryz.underlying41 Al41 rfl (Bd41 Tryz.underlying41) (.cons (cs:=[I 1]) rfl rfl rfl rfl rfl<|.cons (cs:=[I 1]) rfl rfl rfl rfl rfl<|.nil)))<|d_qg (((((ay==0)&&(ap==0))&&(al==0))&&(aE==0))&&ax) rfl (gy_t rfl) (fun hg=>(fun w' H=>x_eqS (eqT41 (⟨(aj:Int),(ak:Int)⟩:Span) (⟨(1:Int),(1:Int)⟩:Span) _) gdT41 (gd_of hg (.agg #[I aj,I ak])) (gd_of hg (.agg #[I 1,I 1])))) ?_;refine kg 4 ?_;refine d_qg ((((((ay==0)&&(ap==0))&&(al==0))&&(aE==0))&&ax)&&(decide ((⟨(aj:Int),(ak:Int)⟩:Span)=(⟨(1:Int),(1:Int)⟩:Span)))) rfl (gy_t rfl) (fun hg=>(fun w' H=>x_eqS (eqT56 (⟨(ab:Int),(ac:Int)⟩:Rto) (⟨(ae:Int),(ag:Int)⟩:Rto) _) gdT56 (gd_of hg (.agg #[I ab,I ac])) (gd_of hg (.agg #[I ae,I ag])))) ?_;refine kg 5 ?_;refine d_qg (((((((ay==0)&&(ap==0))&&(al==0))&&(aE==0))&&ax)&&(decide ((⟨(aj:Int),(ak:Int)⟩:Span)=(⟨(1:Int),(1:Int)⟩:Span))))&&(decide ((⟨(ab:Int),(ac:Int)⟩:Rto)=(⟨(ae:Int),(ag:Int)⟩:Rto)))) rfl (gy_t rfl) (fun hg=>(fun w' H=>x_bld (ps:=[(0,I 1),(1,I (l4.length:Int))]) (zs:=[I 0,I 0]) (L':=[I 1,I (l4.length:Int)]) (by exact prs2 rfl (gd_of hg (I (l4.length:Int)))) Tryz.underlying56 Al56 rfl (Bd56 Tryz.underlying56) (.cons (cs:=[I 1]) rfl rfl rfl rfl rfl<|.cons (cs:=[I (l4.length:Int)]) rfl rfl rfl rfl rfl<|.nil)))<|d_qg (((((((ay==0)&&(ap==0))&&(al==0))&&(aE==0))&&ax)&&(decide ((⟨(aj:Int),(ak:Int)⟩:Span)=(⟨(1:Int),(1:Int)⟩:Span))))&&(decide ((⟨(ab:Int),(ac:Int)⟩:Rto)=(⟨(ae:Int),(ag:Int)⟩:Rto)))) rfl (gy_t rfl) (fun hg=>(fun w' H=>x_eqS (eqT56 (⟨(ab:Int),(ac:Int)⟩:Rto) (⟨(1:Int),(l4.length:Int)⟩:Rto) _) gdT56 (gd_of hg (.agg #[I ab,I ac])) (gd_of hg (.agg #[I 1,I (l4.length:Int)])))) ?_;refine kg 7 ?_;refine d_qg ((((((((ay==0)&&(ap==0))&&(al==0))&&(aE==0))&&ax)&&(decide ((⟨(aj:Int),(ak:Int)⟩:Span)=(⟨(1:Int),(1:Int)⟩:Span))))&&(decide ((⟨(ab:Int),(ac:Int)⟩:Rto)=(⟨(ae:Int),(ag:Int)⟩:Rto))))&&(decide ((⟨(ab:Int),(ac:Int)⟩:Rto)=(⟨(1:Int),(l4.length:Int)⟩:Rto)))) rfl (gy_t rfl) (fun hg=>(fun w' H=>x_eqS (eqT41 (⟨(aJ:Int),(aK:Int)⟩:Span) (r0.getD (Int.toNat r3) default) _) gdT41 (gd_of hg (.agg #[I aJ,I aK])) (gd_of hg (.agg #[I ((r0.getD (Int.toNat r3) default).lo),I ((r0.getD (Int.toNat r3) default).hi)])))) ?_;refine kg 2 ?_;refine d_l rfl ?_;obtain ⟨r8,cq,hM⟩:=M.e_bind hM;refine t_gcall (((((((((ay==0)&&(ap==0))&&(al==0))&&(aE==0))&&ax)&&(decide ((⟨(aj:Int),(ak:Int)⟩:Span)=(⟨(1:Int),(1:Int)⟩:Span))))&&(decide ((⟨(ab:Int),(ac:Int)⟩:Rto)=(⟨(ae:Int),(ag:Int)⟩:Rto))))&&(decide ((⟨(ab:Int),(ac:Int)⟩:Rto)=(⟨(1:Int),(l4.length:Int)⟩:Rto))))&&(decide ((⟨(aJ:Int),(aK:Int)⟩:Span)=(r0.getD (Int.toNat r3) default)))) (gy_t rfl) cf8 (B r8) (fun _=>[]) (fun _=>rfl) H (fun hg=>(zcy (M.e_opt cq hg) _ (H.give (A:=[]) rfl)).mono fun v_ w_ ⟨y_,aC,cr,H_⟩=>by subst aC; exact ⟨cr,H.via H_⟩) ?_;intro ff H
 refine s_nil ⟨(H.pk [0,1,2,3,4,5]),?_⟩
 refine kg 3 ?_;replace H:=H.pk [];refine W.ret ?_
 have aC:=M.e_pure hM
 exact ⟨_,resE_tmp rfl,⟨((((((((((ay==0)&&(ap==0))&&(al==0))&&(aE==0))&&ax)&&(decide ((⟨(aj:Int),(ak:Int)⟩:Span)=(⟨(1:Int),(1:Int)⟩:Span))))&&(decide ((⟨(ab:Int),(ac:Int)⟩:Rto)=(⟨(ae:Int),(ag:Int)⟩:Rto))))&&(decide ((⟨(ab:Int),(ac:Int)⟩:Rto)=(⟨(1:Int),(l4.length:Int)⟩:Rto))))&&(decide ((⟨(aJ:Int),(aK:Int)⟩:Span)=(r0.getD (Int.toNat r3) default))))&&r8),aC,rfl,H⟩⟩

end Go.Proofs.YtpiebomegbbpcaaGreat
end
