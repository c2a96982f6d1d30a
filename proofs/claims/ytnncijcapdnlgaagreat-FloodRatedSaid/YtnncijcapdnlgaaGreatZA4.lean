/- Part 4 of the texts on which the proof rests. Conditions: none. -/
import Derived.Recover
import Derived.Tactics
import Derived.Tactics2
import Derived.Laws.Pointers
import Derived.Test.YtnncijcapdnlgaaGreatZA3
set_option linter.unusedVariables false
set_option linter.unusedSimpArgs false
set_option linter.unusedSectionVars false
section
set_option maxRecDepth 100000
set_option maxHeartbeats 16000000
namespace Go.Proofs.YtnncijcapdnlgaaGreat
open Go Go.Nm
attribute [local irreducible] gd execOp SL SLD SLT WR
def zaA (s:List Gg) (s3:Nat):(Nat × (List Pt))->M ((Nat × (List Pt)) ⊕ ((List Pt) × (List Pt))):=fun (s2,l4) =>
  bif decide ((s2:Int)<(([((s.getD s3 default).lo:Int),((s.getD s3 default).hi:Int)]).length:Int)) then (
  M.grd (decide ((s2:Int)<(([((s.getD s3 default).lo:Int),((s.getD s3 default).hi:Int)]).length:Int))) <|
  M.bind (zcz l4 (⟨((s.getD s3 default).stage:Int),(([((s.getD s3 default).lo:Int),((s.getD s3 default).hi:Int)]).getD s2 0:Int)⟩:Pt)) fun r2 =>
  bif !r2 then (
  M.grd (decide ((l4.length+([(⟨((s.getD s3 default).stage:Int),(([((s.getD s3 default).lo:Int),((s.getD s3 default).hi:Int)]).getD s2 0:Int)⟩:Pt)]).length)*16<=140737488355328)) <|
  M.pure (.inl (s2+1,l4++([(⟨((s.getD s3 default).stage:Int),(([((s.getD s3 default).lo:Int),((s.getD s3 default).hi:Int)]).getD s2 0:Int)⟩:Pt)]))))
  else (
  M.pure (.inl (s2+1,l4))))
  else (
  M.pure (.inr (l4,l4)))
def za2 (s:List Gg):(Nat × (List Pt))->M ((Nat × (List Pt)) ⊕ ((List Pt) × (List Pt))):=fun (s3,l6) =>
  bif decide ((s3:Int)<(s.length:Int)) then (
  M.grd (decide ((s3:Int)<(s.length:Int))) <|
  M.bind (M.iter (zaA s s3) (0,l6)) fun (l2,l5) =>
  M.pure (.inl (s3+1,l5)))
  else (
  M.pure (.inr (l6,l6)))
def zbd (s:List Gg):M (List Pt) :=
  M.bind (M.iter (za2 s) (0,[])) fun (l7,l8) =>
  M.pure l8
theorem zc7 {R:List Chunk} {am:Cells} {ah:Value} (s:List Gg) (aB:Reads R am) (ao:Sl am ah s) {r:(List Pt)} (hM:(zbd s).Ends r) (w:World) (H:St w w [] R):Ret Tryz.prog 134 #[ah] w fun v w'=>∃ (y0:List Pt) (u0:Value),y0=r/\v=u0/\St w w' [cOwn (α:=Pt) 50 u0 y0] R:=by
 refine ret_of_W Tryz.func134 rfl rfl rfl ?_
 have aP:=(ao).len_le
 refine kg 16 ?_
 replace H:=H.nilOwn (α:=Pt) 50
 obtain ⟨aC,ai,aD⟩:=M.e_bind hM
 obtain ⟨aE,ai⟩:=M.e_iter ai
 refine W.loop (fun m σ W=>∃ (s3:Nat) (l6:List Pt) (ag:Value) (ρ:Env),σ=upds ρ [(3,ag),(9,ah),(10,I (s.length:Int)),(11,I (s3:Int))]/\M.iterN (za2 s) m (s3,l6)=some aC/\St w W [cOwn (α:=Pt) 50 ag l6] R) ?_ ?_
 ·exact ⟨_,0,[],(.slice none 0 0),_,upds_of _ _ ⟨rfl,rfl,rfl,rfl,trivial⟩,ai,H⟩
 rintro aQ σ aR ⟨s3,l6,ag,ρ,rfl,ap,H⟩
 obtain ⟨aF,aG,aS,hM,aq⟩:=M.e_iterN ap
 simp only [za2] at hM
 clear ap;refine kg 5 ?_
 refine W.cond (decide ((s3:Int)<(s.length:Int))) rfl (fun aa=>?_) (fun aa=>?_)
 ·replace hM:=M.e_t hM aa
  replace aa:=dI aa
  obtain ⟨aT,hM⟩:=M.e_gd hM;refine kg 6 ?_;refine s_val (x_ld (v:=.agg #[I ((s.getD s3 default).stage),I ((s.getD s3 default).lo),I ((s.getD s3 default).hi)]) rfl (ld_ag Ag59 Sz59 (At.mono (Gg_atA ao (i:=(s3:Int)) (by omega) (by omega)) (aB.at H)))) ?_;refine t_alloc (cs:=[I 0,I 0,I 0]) H Al59 rfl ?_;intro au aU H;refine t_sw 0 0 [I ((s.getD s3 default).stage),I ((s.getD s3 default).lo),I ((s.getD s3 default).hi)] (.agg #[I ((s.getD s3 default).stage),I ((s.getD s3 default).lo),I ((s.getD s3 default).hi)]) H rfl rfl Sz59 rfl rfl rfl rfl ?_;intro aV H;refine kg 9 ?_;refine t_bs (α:=Int) T28 [I ((s.getD s3 default).lo),I ((s.getD s3 default).hi)] [((s.getD s3 default).lo:Int),((s.getD s3 default).hi:Int)] H rfl (.cons rfl (Flat.rep_enc _ ((s.getD s3 default).lo:Int))<|.cons rfl (Flat.rep_enc _ ((s.getD s3 default).hi:Int))<|.nil) rfl rfl rfl ?_;intro av aW H
  have aX:=((H.os 0)).len_le
  refine kg 4 ?_;obtain ⟨aH,aj,aI⟩:=M.e_bind hM
  obtain ⟨aE,aj⟩:=M.e_iter aj
  refine W.loop (fun m σ W=>∃ (s2:Nat) (l4:List Pt) (ae:Value) (ρ:Env),σ=upds ρ [(3,ae),(5,Pq au),(9,ah),(10,I (s.length:Int)),(11,I (s3:Int)),(21,av),(22,I (([((s.getD s3 default).lo:Int),((s.getD s3 default).hi:Int)]).length:Int)),(23,I (s2:Int))]/\M.iterN (zaA s s3) m (s2,l4)=some aH/\St w W [cOwn (α:=Int) 3 av ([((s.getD s3 default).lo:Int),((s.getD s3 default).hi:Int)]),cBlk au [I ((s.getD s3 default).stage),I ((s.getD s3 default).lo),I ((s.getD s3 default).hi)] 59,cOwn (α:=Pt) 50 ae l4] R) ?_ ?_
  ·exact ⟨_,0,l6,ag,_,upds_of _ _ ⟨rfl,rfl,rfl,rfl,rfl,rfl,rfl,rfl,trivial⟩,aj,H⟩
  rintro aY σ aZ ⟨s2,l4,ae,ρ,rfl,ax,H⟩
  obtain ⟨ay,az,a7,hM,ak⟩:=M.e_iterN ax
  simp only [zaA] at hM
  clear ax;refine kg 5 ?_
  refine W.cond (decide ((s2:Int)<(([((s.getD s3 default).lo:Int),((s.getD s3 default).hi:Int)]).length:Int))) rfl (fun ac=>?_) (fun ac=>?_)
  ·replace hM:=M.e_t hM ac
   replace ac:=dI ac
   obtain ⟨a8,hM⟩:=M.e_gd hM;refine kg 14 ?_;refine s_val (x_bld (ps:=[(0,I ((s.getD s3 default).stage)),(1,I (([((s.getD s3 default).lo:Int),((s.getD s3 default).hi:Int)]).getD s2 0))]) (zs:=[I 0,I 0]) (L':=[I ((s.getD s3 default).stage),I (([((s.getD s3 default).lo:Int),((s.getD s3 default).hi:Int)]).getD s2 0)]) rfl Tryz.underlying50 Al50 rfl (Bd50 Tryz.underlying50) (.cons (cs:=[I ((s.getD s3 default).stage)]) rfl rfl rfl rfl rfl<|.cons (cs:=[I (([((s.getD s3 default).lo:Int),((s.getD s3 default).hi:Int)]).getD s2 0)]) rfl rfl rfl rfl rfl<|.nil)) ?_;refine t_alloc (cs:=[I 0,I 0]) H Al50 rfl ?_;intro ba bb H;refine t_sw 0 0 [I ((s.getD s3 default).stage),I (([((s.getD s3 default).lo:Int),((s.getD s3 default).hi:Int)]).getD s2 0)] (.agg #[I ((s.getD s3 default).stage),I (([((s.getD s3 default).lo:Int),((s.getD s3 default).hi:Int)]).getD s2 0)]) H rfl rfl Sz50 rfl rfl rfl rfl ?_;intro bc H;refine kg 5 ?_;obtain ⟨bf,aJ,hM⟩:=M.e_bind hM;refine s_call cf145 [ae,.agg #[I ((s.getD s3 default).stage),I (([((s.getD s3 default).lo:Int),((s.getD s3 default).hi:Int)]).getD s2 0)]] rfl (ze2 l4 (⟨((s.getD s3 default).stage:Int),(([((s.getD s3 default).lo:Int),((s.getD s3 default).hi:Int)]).getD s2 0:Int)⟩:Pt) (rdo 3) (H.os 3) aJ _ (H.gt 4)) ?_
   rintro vq bg ⟨r2,rfl,hvq,aA⟩
   subst vq;(try dsimp only at hM);replace H:=H.bk aA;clear aA;refine kg 2 ?_
   refine W.cond (!r2) rfl (fun al=>?_) (fun al=>?_)
   ·replace hM:=M.e_t hM al;refine kg 3 ?_;refine t_bs (α:=Pt) T208 [.agg #[I ((s.getD s3 default).stage),I (([((s.getD s3 default).lo:Int),((s.getD s3 default).hi:Int)]).getD s2 0)]] [(⟨((s.getD s3 default).stage:Int),(([((s.getD s3 default).lo:Int),((s.getD s3 default).hi:Int)]).getD s2 0:Int)⟩:Pt)] H rfl (.cons rfl (Flat.rep_enc _ (⟨((s.getD s3 default).stage:Int),(([((s.getD s3 default).lo:Int),((s.getD s3 default).hi:Int)]).getD s2 0:Int)⟩:Pt))<|.nil) rfl rfl rfl ?_;intro aK bh H;obtain ⟨bi,hM⟩:=M.e_gd hM;refine t_app (α:=Pt) (k:=4) (l:=l4) (l2:=[(⟨((s.getD s3 default).stage:Int),(([((s.getD s3 default).lo:Int),((s.getD s3 default).hi:Int)]).getD s2 0:Int)⟩:Pt)]) (l':=l4++([(⟨((s.getD s3 default).stage:Int),(([((s.getD s3 default).lo:Int),((s.getD s3 default).hi:Int)]).getD s2 0:Int)⟩:Pt)])) (vy:=aK) T208 rfl H rfl rfl rfl (H.os 0) (H.ol 0) (rfl) (by first | omega | (simp only [List.length_nil] at *; omega)) ?_;intro aL bj H;replace H:=H.nf;refine kg 2 ?_;replace H:=H.pk [2,3,4];refine kg 4 ?_
    exact ⟨ay,az,s2+1,l4++([(⟨((s.getD s3 default).stage:Int),(([((s.getD s3 default).lo:Int),((s.getD s3 default).hi:Int)]).getD s2 0:Int)⟩:Pt)]),aL,_,upds_of _ _ ⟨rfl,rfl,rfl,rfl,rfl,rfl,rfl,rfl,trivial⟩,M.e_inl hM ak,H⟩
   replace hM:=M.e_f hM al;refine kg 5 ?_
   exact ⟨ay,az,s2+1,l4,ae,_,upds_of _ _ ⟨rfl,rfl,rfl,rfl,rfl,rfl,rfl,rfl,trivial⟩,M.e_inl hM ak,(H.pk [1,2,3])⟩
  replace hM:=M.e_f hM ac
  replace ac:=dI ac
  refine W.exit ?_
  have aM:=M.e_inr hM ak
  subst aM;replace hM:=aI;(try dsimp only at hM);replace H:=H.pk [2];refine kg 4 ?_
  exact ⟨aF,aG,s3+1,l4,ae,_,upds_of _ _ ⟨rfl,rfl,rfl,rfl,trivial⟩,M.e_inl hM aq,H⟩
 replace hM:=M.e_f hM aa
 replace aa:=dI aa
 refine W.exit ?_
 have aN:=M.e_inr hM aq
 subst aN;replace hM:=aD;(try dsimp only at hM);refine kg 5 ?_;refine W.ret ?_
 have aO:=M.e_pure hM
 exact ⟨_,resE_tmp rfl,⟨l6,ag,aO,rfl,H⟩⟩

def zaL (p:Pt):M (Int × Int × Int × Int) :=
  bif p.stage==2000 then (
  M.grd (decide ((-9223372036854775808:Int)<=(p.stage-1))&&decide ((p.stage-1)<=(9223372036854775807:Int))) <|
  M.pure ((p.stage-1),p.flow,p.stage,p.flow))
  else (
  M.grd (decide ((-9223372036854775808:Int)<=(p.stage+1))&&decide ((p.stage+1)<=(9223372036854775807:Int))) <|
  M.pure (p.stage,p.flow,(p.stage+1),p.flow))
theorem zaN {R:List Chunk}  (p:Pt)  {r:(Int × Int × Int × Int)} (hM:(zaL p).Ends r) (w:World) (H:St w w [] R):Ret Tryz.prog 133 #[.agg #[I p.stage,I p.flow]] w fun v w'=>∃ (y0:Int) (y1:Int) (y2:Int) (y3:Int),(y0,y1,y2,y3)=r/\v = .agg #[I y0,I y1,I y2,I y3]/\St w w' [] R:=by
 refine ret_of_W Tryz.func133 rfl rfl rfl ?_;refine kg 2 ?_;refine t_bx [I p.stage,I p.flow] H rfl ?_;intro ah ai H;refine t_alloc (cs:=[I 0,I 0,I 0,I 0]) H Al52 rfl ?_;intro aj ak H;refine kg 8 ?_
 refine W.cond (p.stage==2000) rfl (fun aa=>?_) (fun aa=>?_)
 ·replace hM:=M.e_t hM aa
  replace aa:=dI aa
  obtain ⟨al,hM⟩:=M.e_gd hM;refine kg 7 ?_;refine s_val (x_bld (ps:=[(0,I (p.stage-1)),(1,I p.flow)]) (zs:=[I 0,I 0]) (L':=[I (p.stage-1),I p.flow]) rfl Tryz.underlying50 Al50 rfl (Bd50 Tryz.underlying50) (.cons (cs:=[I (p.stage-1)]) rfl rfl rfl rfl rfl<|.cons (cs:=[I p.flow]) rfl rfl rfl rfl rfl<|.nil)) ?_;refine kg 1 ?_;refine s_val (x_bld (ps:=[(0,.agg #[I (p.stage-1),I p.flow]),(1,.agg #[I p.stage,I p.flow])]) (zs:=[I 0,I 0,I 0,I 0]) (L':=[I (p.stage-1),I p.flow,I p.stage,I p.flow]) rfl Tryz.underlying52 Al52 rfl (Bd52 Tryz.underlying52) (.cons (cs:=[I (p.stage-1),I p.flow]) rfl rfl rfl rfl rfl<|.cons (cs:=[I p.stage,I p.flow]) rfl rfl rfl rfl rfl<|.nil)) ?_;refine t_sw 0 0 [I (p.stage-1),I p.flow,I p.stage,I p.flow] (.agg #[I (p.stage-1),I p.flow,I p.stage,I p.flow]) H rfl rfl Sz52 rfl rfl rfl rfl ?_;intro am H;refine s_nil ?_;refine W.ret ?_
  have ae:=(H.bl 0)
  have ac:=M.e_pure hM
  exact ⟨_,(resE_of1 (v:=.agg #[I (p.stage-1),I p.flow,I p.stage,I p.flow]) rfl (.cell (v:=.agg #[I (p.stage-1),I p.flow,I p.stage,I p.flow]) rfl (run_loadVar_ag (ds:=[I (p.stage-1),I p.flow,I p.stage,I p.flow]) Ag52 Sz52 ae rfl rfl)<|.nil)),⟨(p.stage-1),p.flow,p.stage,p.flow,ac,rfl,(H.pk [])⟩⟩
 replace hM:=M.e_f hM aa
 replace aa:=dI aa
 obtain ⟨ao,hM⟩:=M.e_gd hM;refine kg 9 ?_;refine s_val (x_bld (ps:=[(0,I (p.stage+1)),(1,I p.flow)]) (zs:=[I 0,I 0]) (L':=[I (p.stage+1),I p.flow]) rfl Tryz.underlying50 Al50 rfl (Bd50 Tryz.underlying50) (.cons (cs:=[I (p.stage+1)]) rfl rfl rfl rfl rfl<|.cons (cs:=[I p.flow]) rfl rfl rfl rfl rfl<|.nil))<|s_val (x_bld (ps:=[(0,.agg #[I p.stage,I p.flow]),(1,.agg #[I (p.stage+1),I p.flow])]) (zs:=[I 0,I 0,I 0,I 0]) (L':=[I p.stage,I p.flow,I (p.stage+1),I p.flow]) rfl Tryz.underlying52 Al52 rfl (Bd52 Tryz.underlying52) (.cons (cs:=[I p.stage,I p.flow]) rfl rfl rfl rfl rfl<|.cons (cs:=[I (p.stage+1),I p.flow]) rfl rfl rfl rfl rfl<|.nil)) ?_;refine t_sw 0 0 [I p.stage,I p.flow,I (p.stage+1),I p.flow] (.agg #[I p.stage,I p.flow,I (p.stage+1),I p.flow]) H rfl rfl Sz52 rfl rfl rfl rfl ?_;intro ap H;refine s_nil ?_;refine W.ret ?_
 have ag:=(H.bl 0)
 have ac:=M.e_pure hM
 exact ⟨_,(resE_of1 (v:=.agg #[I p.stage,I p.flow,I (p.stage+1),I p.flow]) rfl (.cell (v:=.agg #[I p.stage,I p.flow,I (p.stage+1),I p.flow]) rfl (run_loadVar_ag (ds:=[I p.stage,I p.flow,I (p.stage+1),I p.flow]) Ag52 Sz52 ag rfl rfl)<|.nil)),⟨p.stage,p.flow,(p.stage+1),p.flow,ac,rfl,(H.pk [])⟩⟩

def zbk {T_:Type} (aa:T_->RLn->M (Bool × T_)) (r2:List Pt) (s2:Nat):(Nat × T_)->M ((Nat × T_) ⊕ (T_ ⊕ T_)):=fun (s,t3) =>
  bif decide ((s:Int)<(r2.length:Int)) then (
  M.grd (decide ((s:Int)<(r2.length:Int))) <|
  M.bind (zao (⟨((r2.getD s2 default).stage:Int),((r2.getD s2 default).flow:Int),((r2.getD s default).stage:Int),((r2.getD s default).flow:Int)⟩:RLn)) fun r4 =>
  M.bind (M.opt r4 (aa t3 (⟨((r2.getD s2 default).stage:Int),((r2.getD s2 default).flow:Int),((r2.getD s default).stage:Int),((r2.getD s default).flow:Int)⟩:RLn)) (false,t3)) fun (go2,t2) =>
  bif (r4&&(!go2)) then (
  M.pure (.inr (.inl t2)))
  else (
  M.pure (.inl (s+1,t2))))
  else (
  M.pure (.inr (.inr t3)))
def zaT {T_:Type} (aa:T_->RLn->M (Bool × T_)) (r2:List Pt):(Nat × T_)->M ((Nat × T_) ⊕ (T_ ⊕ T_)):=fun (s2,t6) =>
  bif decide ((s2:Int)<(r2.length:Int)) then (
  M.grd (decide ((s2:Int)<(r2.length:Int))) <|
  M.bind (zaL (r2.getD s2 default)) fun (r0,r1,ac,r3) =>
  M.bind (aa t6 (⟨(r0:Int),(r1:Int),(ac:Int),(r3:Int)⟩:RLn)) fun (go,t) =>
  bif !go then (
  M.pure (.inr (.inl t)))
  else (
  M.bind (M.iter (zbk aa r2 s2) (0,t)) fun x_=>match x_ with
  | (.inl t4)=>(
  M.pure (.inr (.inl t4)))
  | (.inr t5)=>(
  M.pure (.inl (s2+1,t5)))))
  else (
  M.pure (.inr (.inr t6)))
def zbm {T_:Type} (aa:T_->RLn->M (Bool × T_)) (t_:T_) (ac:List Gg):M T_ :=
  M.bind (zbd ac) fun r2 =>
  M.bind (M.iter (zaT aa r2) (0,t_)) fun x_=>match x_ with
  | (.inl t7)=>(
  M.pure t7)
  | (.inr t8)=>(
  M.pure t8)
theorem ze3 {R:List Chunk} {T_:Type} {Y_:T_->List Chunk->Prop} {ah:Value} {am:List Chunk} {aA:Nat} {aB:Cells} {ao:Value} (aj:T_->RLn->M (Bool × T_)) (t_:T_) (ap:List Gg) (aC:YieldC Tryz.prog R arRLn Y_ ah aj) (aL:Y_ t_ am) (aM:Reads R aB) (aN:Sl aB ao ap) (bh:Has R (cBlk aA [ao] 177)) {r:T_} (hM:(zbm aj t_ ap).Ends r) (w:World) (H:St w w [cAll am] R):Ret Tryz.prog 144 #[ah,Pq aA] w fun v w'=>∃ (y0:T_) (Ls0:List Chunk),y0=r/\v = .tuple #[]/\St w w' [cAll Ls0] R/\Y_ y0 Ls0:=by
 refine ret_of_W Tryz.func144 rfl rfl rfl ?_;refine kg 3 ?_;obtain ⟨bi,aO,hM⟩:=M.e_bind hM;refine s_call cf134 [ao] rfl (zc7 ap (aM.app _) aN aO _ (H.gt 1)) ?_
 rintro vq bj ⟨r2,aa,rfl,hvq,ac⟩
 subst vq;(try dsimp only at hM);replace H:=H.bk ac;clear ac
 have bm:=((H.os 0)).len_le
 refine kg 9 ?_;obtain ⟨aP,aq,au⟩:=M.e_bind hM
 obtain ⟨aQ,aq⟩:=M.e_iter aq
 refine W.loop (fun m σ W=>∃ (s2:Nat) (t6:T_) (Ls_t6:List Chunk) (ρ:Env),σ=upds ρ [(0,ah),(3,aa),(11,aa),(12,I (r2.length:Int)),(13,I (s2:Int))]/\M.iterN (zaT aj r2) m (s2,t6)=some aP/\St w W [cOwn (α:=Pt) 50 aa r2,cAll Ls_t6] R/\Y_ t6 Ls_t6) ?_ ?_
 ·exact ⟨_,0,t_,am,_,upds_of _ _ ⟨rfl,rfl,rfl,rfl,rfl,trivial⟩,aq,H,aL⟩
 rintro bn σ bo ⟨s2,t6,Ls_t6,ρ,rfl,aD,H,hY_t6⟩
 obtain ⟨aR,aS,bp,hM,ak⟩:=M.e_iterN aD
 simp only [zaT] at hM
 clear aD;refine kg 5 ?_
 refine W.cond (decide ((s2:Int)<(r2.length:Int))) rfl (fun ae=>?_) (fun ae=>?_)
 ·replace hM:=M.e_t hM ae
  replace ae:=dI ae
  obtain ⟨br,hM⟩:=M.e_gd hM;refine kg 6 ?_;refine s_val (x_ld (v:=.agg #[I ((r2.getD s2 default).stage),I ((r2.getD s2 default).flow)]) rfl (ld_ag Ag50 Sz50 (At.mono (Pt_atA (H.os 0) (i:=(s2:Int)) (by omega) (by omega)) (H.ol 0)))) ?_;refine t_alloc (cs:=[I 0,I 0]) H Al50 rfl ?_;intro al bt H;refine t_sw 0 0 [I ((r2.getD s2 default).stage),I ((r2.getD s2 default).flow)] (.agg #[I ((r2.getD s2 default).stage),I ((r2.getD s2 default).flow)]) H rfl rfl Sz50 rfl rfl rfl rfl ?_;intro bu H;refine kg 6 ?_;obtain ⟨bv,aT,hM⟩:=M.e_bind hM;refine s_call cf133 [.agg #[I ((r2.getD s2 default).stage),I ((r2.getD s2 default).flow)]] rfl (zaN (r2.getD s2 default) aT _ (H.gt 3)) ?_
  rintro vq bw ⟨r0,r1,aE,r3,rfl,hvq,ac⟩
  subst vq;(try dsimp only at hM);replace H:=H.bk ac;clear ac
  obtain ⟨⟨go,t⟩,aU,hM⟩:=M.e_bind hM
  (try dsimp only at hM);refine t_yield (L:=[cBlk al [I ((r2.getD s2 default).stage),I ((r2.getD s2 default).flow)] 50,cOwn (α:=Pt) 50 aa r2]) (H.pk [2,0,1]) aC hY_t6 rfl [.agg #[I r0,I r1,I aE,I r3]] rfl (⟨(r0:Int),(r1:Int),(aE:Int),(r3:Int)⟩:RLn) Reads.none rfl aU ?_;intro aF bx aG H;replace H:=H.nf;refine kg 2 ?_
  refine W.cond (!go) rfl (fun av=>?_) (fun av=>?_)
  ·replace hM:=M.e_t hM av;refine W.ret ?_
   have aV:=M.e_inr hM ak
   subst aV;replace hM:=au;(try dsimp only at hM)
   have ai:=M.e_pure hM
   exact ⟨_,resE_tmp0 rfl,⟨t,aF,ai,rfl,(H.pk [0]),aG⟩⟩
  replace hM:=M.e_f hM av
  have bz:=((H.os 2)).len_le
  refine kg 8 ?_;obtain ⟨aW,ax,aH⟩:=M.e_bind hM
  obtain ⟨aQ,ax⟩:=M.e_iter ax
  refine W.loop (fun m σ W=>∃ (s:Nat) (t3:T_) (Ls_t3:List Chunk) (ρ:Env),σ=upds ρ [(0,ah),(3,aa),(5,Pq al),(11,aa),(12,I (r2.length:Int)),(13,I (s2:Int)),(22,aa),(23,I (r2.length:Int)),(24,I (s:Int))]/\M.iterN (zbk aj r2 s2) m (s,t3)=some aW/\St w W [cAll Ls_t3,cBlk al [I ((r2.getD s2 default).stage),I ((r2.getD s2 default).flow)] 50,cOwn (α:=Pt) 50 aa r2] R/\Y_ t3 Ls_t3) ?_ ?_
  ·exact ⟨_,0,t,aF,_,upds_of _ _ ⟨rfl,rfl,rfl,rfl,rfl,rfl,rfl,rfl,rfl,trivial⟩,ax,H,aG⟩
  rintro bA σ bB ⟨s,t3,Ls_t3,ρ,rfl,aI,H,hY_t3⟩
  obtain ⟨aX,aY,bC,hM,ay⟩:=M.e_iterN aI
  simp only [zbk] at hM
  clear aI;refine kg 5 ?_
  refine W.cond (decide ((s:Int)<(r2.length:Int))) rfl (fun ag=>?_) (fun ag=>?_)
  ·replace hM:=M.e_t hM ag
   replace ag:=dI ag
   obtain ⟨bD,hM⟩:=M.e_gd hM;refine kg 6 ?_;refine s_val (x_ld (v:=.agg #[I ((r2.getD s default).stage),I ((r2.getD s default).flow)]) rfl (ld_ag Ag50 Sz50 (At.mono (Pt_atA (H.os 2) (i:=(s:Int)) (by omega) (by omega)) (H.ol 2)))) ?_;refine t_alloc (cs:=[I 0,I 0]) H Al50 rfl ?_;intro aZ bE H;refine t_sw 0 0 [I ((r2.getD s default).stage),I ((r2.getD s default).flow)] (.agg #[I ((r2.getD s default).stage),I ((r2.getD s default).flow)]) H rfl rfl Sz50 rfl rfl rfl rfl ?_;intro bF H;refine kg 5 ?_;refine s_val (x_bld (ps:=[(0,.agg #[I ((r2.getD s2 default).stage),I ((r2.getD s2 default).flow)]),(1,.agg #[I ((r2.getD s default).stage),I ((r2.getD s default).flow)])]) (zs:=[I 0,I 0,I 0,I 0]) (L':=[I ((r2.getD s2 default).stage),I ((r2.getD s2 default).flow),I ((r2.getD s default).stage),I ((r2.getD s default).flow)]) rfl Tryz.underlying52 Al52 rfl (Bd52 Tryz.underlying52) (.cons (cs:=[I ((r2.getD s2 default).stage),I ((r2.getD s2 default).flow)]) rfl rfl rfl rfl rfl<|.cons (cs:=[I ((r2.getD s default).stage),I ((r2.getD s default).flow)]) rfl rfl rfl rfl rfl<|.nil)) ?_;refine t_alloc (cs:=[I 0,I 0,I 0,I 0]) H Al52 rfl ?_;intro a7 bG H;refine t_sw 0 0 [I ((r2.getD s2 default).stage),I ((r2.getD s2 default).flow),I ((r2.getD s default).stage),I ((r2.getD s default).flow)] (.agg #[I ((r2.getD s2 default).stage),I ((r2.getD s2 default).flow),I ((r2.getD s default).stage),I ((r2.getD s default).flow)]) H rfl rfl Sz52 rfl rfl rfl rfl ?_;intro bH H;refine kg 4 ?_;obtain ⟨bI,a8,hM⟩:=M.e_bind hM;refine s_call cf32 [.agg #[I ((r2.getD s2 default).stage),I ((r2.getD s2 default).flow),I ((r2.getD s default).stage),I ((r2.getD s default).flow)]] rfl (zbO (⟨((r2.getD s2 default).stage:Int),((r2.getD s2 default).flow:Int),((r2.getD s default).stage:Int),((r2.getD s default).flow:Int)⟩:RLn) a8 _ (H.gt 5)) ?_
   rintro vq bJ ⟨r4,rfl,hvq,ac⟩
   subst vq;(try dsimp only at hM);replace H:=H.bk ac;clear ac;refine kg 3 ?_
   obtain ⟨⟨go2,t2⟩,ba,hM⟩:=M.e_bind hM
   (try dsimp only at hM);refine t_gyield (L:=[cBlk a7 [I ((r2.getD s2 default).stage),I ((r2.getD s2 default).flow),I ((r2.getD s default).stage),I ((r2.getD s default).flow)] 52,cBlk aZ [I ((r2.getD s default).stage),I ((r2.getD s default).flow)] 50,cBlk al [I ((r2.getD s2 default).stage),I ((r2.getD s2 default).flow)] 50,cOwn (α:=Pt) 50 aa r2]) r4 (gy_t rfl) (H.pk [2,0,1,3,4]) aC hY_t3 (fun hg=>(gd_of hg (ah))) [.agg #[I ((r2.getD s2 default).stage),I ((r2.getD s2 default).flow),I ((r2.getD s default).stage),I ((r2.getD s default).flow)]] (fun hg=>lst1 (gd_of hg (.agg #[I ((r2.getD s2 default).stage),I ((r2.getD s2 default).flow),I ((r2.getD s default).stage),I ((r2.getD s default).flow)]))) (⟨((r2.getD s2 default).stage:Int),((r2.getD s2 default).flow:Int),((r2.getD s default).stage:Int),((r2.getD s default).flow:Int)⟩:RLn) Reads.none rfl ba ?_;intro aJ bK aK H;replace H:=H.nf;refine kg 1 ?_;refine s_val (x_pand (b:=r4) (r:=!go2) rfl (fun hb=>gd_of (c:=r4) (by first | exact hb | (rw [hb]; rfl) | simp_all) (B (!go2))) rfl)<|s_nil ?_;replace H:=H.pk [0,3,4]
   refine W.cond (r4&&(!go2)) rfl (fun az=>?_) (fun az=>?_)
   ·replace hM:=M.e_t hM az;refine W.ret ?_
    have bb:=M.e_inr hM ay
    subst bb;replace hM:=aH;(try dsimp only at hM)
    have bc:=M.e_inr hM ak
    subst bc;replace hM:=au;(try dsimp only at hM)
    have ai:=M.e_pure hM
    exact ⟨_,resE_tmp0 rfl,⟨t2,aJ,ai,rfl,(H.pk [0]),aK⟩⟩
   replace hM:=M.e_f hM az;refine kg 5 ?_
   exact ⟨aX,aY,s+1,t2,aJ,_,upds_of _ _ ⟨rfl,rfl,rfl,rfl,rfl,rfl,rfl,rfl,rfl,trivial⟩,M.e_inl hM ay,H,aK⟩
  replace hM:=M.e_f hM ag
  replace ag:=dI ag
  refine W.exit ?_
  have bf:=M.e_inr hM ay
  subst bf;replace hM:=aH;(try dsimp only at hM);refine kg 4 ?_
  exact ⟨aR,aS,s2+1,t3,Ls_t3,_,upds_of _ _ ⟨rfl,rfl,rfl,rfl,rfl,trivial⟩,M.e_inl hM ak,(H.pk [2,0]),hY_t3⟩
 replace hM:=M.e_f hM ae
 replace ae:=dI ae
 refine W.exit ?_
 have bg:=M.e_inr hM ak
 subst bg;replace hM:=au;(try dsimp only at hM)
 have ai:=M.e_pure hM
 exact ⟨_,resE_tmp0 rfl,⟨t6,Ls_t6,ai,rfl,(H.pk [1]),hY_t6⟩⟩
def zbX (x:Gg) (aa:RLn):M Bool :=
  M.bind (zaY aa x) fun r2 =>
  M.pure (!r2)
theorem zeK {R:List Chunk} {ac:Nat} (x:Gg) (aa:RLn) (ai:Has R (cBlk ac [.func (.func 38) #[.agg #[I aa.ast,I aa.afl,I aa.bst,I aa.bfl]] #[]] 107)) {r:Bool} (hM:(zbX x aa).Ends r) (w:World) (H:St w w [] R):Ret Tryz.prog 97 #[.agg #[I x.stage,I x.lo,I x.hi],Pq ac] w fun v w'=>∃ (y0:Bool),y0=r/\v=B y0/\St w w' [] R:=by
 refine ret_of_W Tryz.func97 rfl rfl rfl ?_;refine kg 2 ?_;refine t_bx [I x.stage,I x.lo,I x.hi] H rfl ?_;intro aj ak H;refine kg 6 ?_;obtain ⟨al,ag,hM⟩:=M.e_bind hM;refine s_callm (f:=38) (fs:=[.agg #[I aa.ast,I aa.afl,I aa.bst,I aa.bfl]]) rfl cf38 [.agg #[I x.stage,I x.lo,I x.hi]] rfl (zdX aa x ag _ (H.gt 1)) ?_
 rintro vq am ⟨r2,rfl,hvq,ae⟩
 subst vq;(try dsimp only at hM);replace H:=H.bk ae;clear ae;refine kg 3 ?_;refine W.ret ?_
 have ah:=M.e_pure hM
 exact ⟨_,resE_tmp rfl,⟨(!r2),ah,rfl,(H.pk [])⟩⟩

def zcU (l:List Gg) (aa:RLn):M Bool :=
  M.bind (za6 l (fun ac=>zbX ac aa)) fun r2 =>
  M.pure (!r2)
theorem zfh {R:List Chunk} {ah:Cells} {ac:Value} (l:List Gg) (aa:RLn) (ak:Reads R ah) (al:Sl ah ac l) {r:Bool} (hM:(zcU l aa).Ends r) (w:World) (H:St w w [] R):Ret Tryz.prog 62 #[ac,.func (.func 38) #[.agg #[I aa.ast,I aa.afl,I aa.bst,I aa.bfl]] #[]] w fun v w'=>∃ (y0:Bool),y0=r/\v=B y0/\St w w' [] R:=by
 refine ret_of_W Tryz.func62 rfl rfl rfl ?_;refine kg 2 ?_;refine t_b1 (.func (.func 38) #[.agg #[I aa.ast,I aa.afl,I aa.bst,I aa.bfl]] #[]) H rfl rfl ?_;intro ae aA H;refine kg 5 ?_;refine s_val (x_mf (fs:=[]) (cs:=[Pq ae]) rfl rfl) ?_;obtain ⟨aB,am,hM⟩:=M.e_bind hM;refine s_call cf96 [ac,.func (.func 97) #[] #[Pq ae]] rfl (zd6 l (fun ag=>zbX ag aa) (ak.app _) al ⟨97,[Pq ae],rfl,cf97,fun ai aC aD ao ag aE ap aF aq au=>by obtain rfl:=Gg_arg aq; exact (zeK ag aa (Has.app (Has.here (k:=0) rfl) _) au ai (St.refl ap)).mono fun ao ai ⟨aG,av,ax,ay⟩=>by subst av; exact ⟨ax,ay⟩⟩ am _ (H.gt 1)) ?_
 rintro vq aH ⟨r2,rfl,hvq,aj⟩
 subst vq;(try dsimp only at hM);replace H:=H.bk aj;clear aj;refine kg 3 ?_;refine W.ret ?_
 have az:=M.e_pure hM
 exact ⟨_,resE_tmp rfl,⟨(!r2),az,rfl,(H.pk [])⟩⟩

def zbC (s:List Gg) (x:RLn):M Bool :=
  M.bind (zcU s x) fun r2 =>
  M.pure r2
theorem zc4 {R:List Chunk} {ac:Cells} {aa:Value} (s:List Gg) (x:RLn) (ag:Reads R ac) (ah:Sl ac aa s) {r:Bool} (hM:(zbC s x).Ends r) (w:World) (H:St w w [] R):Ret Tryz.prog 132 #[aa,.agg #[I x.ast,I x.afl,I x.bst,I x.bfl]] w fun v w'=>∃ (y0:Bool),y0=r/\v=B y0/\St w w' [] R:=by
 refine ret_of_W Tryz.func132 rfl rfl rfl ?_;refine kg 2 ?_;refine t_bx [I x.ast,I x.afl,I x.bst,I x.bfl] H rfl ?_;intro ak al H;refine kg 6 ?_;refine s_val (x_mf (fs:=[.agg #[I x.ast,I x.afl,I x.bst,I x.bfl]]) (cs:=[]) rfl rfl) ?_;obtain ⟨am,ai,hM⟩:=M.e_bind hM;refine s_call cf62 [aa,.func (.func 38) #[.agg #[I x.ast,I x.afl,I x.bst,I x.bfl]] #[]] rfl (zfh s x (ag.app _) ah ai _ (H.gt 1)) ?_
 rintro vq ao ⟨r2,rfl,hvq,ae⟩
 subst vq;(try dsimp only at hM);replace H:=H.bk ae;clear ae;refine kg 2 ?_;refine W.ret ?_
 have aj:=M.e_pure hM
 exact ⟨_,resE_tmp rfl,⟨r2,aj,rfl,(H.pk [])⟩⟩

def zcZ (s:List RLn):M (List RLn) :=
  M.grd (decide (0<s.length)) <|
  M.grd (decide ((([]:List RLn).length+s.length)*32<=140737488355328)) <|
  M.pure s
theorem zd8 {R:List Chunk} {ac:Cells} {aa:Value} (s:List RLn) (ah:Reads R ac) (ae:Sl ac aa s) {r:(List RLn)} (hM:(zcZ s).Ends r) (w:World) (H:St w w [] R):Ret Tryz.prog 135 #[aa] w fun v w'=>∃ (y0:List RLn) (u0:Value),y0=r/\v=u0/\St w w' [cOwn (α:=RLn) 52 u0 y0] R:=by
 refine ret_of_W Tryz.func135 rfl rfl rfl ?_;obtain ⟨ak,hM⟩:=M.e_gd hM;refine kg 8 ?_;refine s_val (x_eqnilp (α:=RLn) T53.und rfl rfl ae (by omega))<|s_nil ?_
 refine W.cond false rfl (fun ag=>?_) (fun ag=>?_)
 ·skip
  exact absurd ag (by decide)
 skip
 refine kg 3 ?_;refine t_bs0 (α:=RLn) T53 H ?_;intro al am H;obtain ⟨ao,hM⟩:=M.e_gd hM;refine kg 1 ?_;refine t_app (α:=RLn) (k:=0) (l:=[]) (l2:=s) (l':=s) (vy:=aa) T53 rfl H rfl rfl rfl ae (ah.at H) (List.nil_append _) (by first | omega | (simp only [List.length_nil] at *; omega)) ?_;intro ai ap H;replace H:=H.nf;refine kg 2 ?_;refine W.ret ?_
 have aj:=M.e_pure hM
 exact ⟨_,resE_tmp rfl,⟨s,ai,aj,rfl,H⟩⟩

def zal (r2:List Gg):(List RLn)->RLn->M ((List RLn) ⊕ Unit):=fun l x =>
  M.bind (zbC r2 x) fun r3 =>
  bif r3 then (
  M.grd (decide ((l.length+([x]).length)*32<=140737488355328)) <|
  M.pure (.inl (l++([x]))))
  else (
  M.pure (.inl l))
/-- The lines of a part that are kept: what the rounds of `lines` find. -/
def zaf (g_:List Gg) (b_:List Int) (at_:Int):M (List RLn) :=
  M.bind (zbG g_ b_ at_) fun r2 =>
  M.bind (zch r2) fun (_:Unit) =>
  M.bind (zbm (M.yl (zal r2)) (.inl ([])) r2) fun x_=>match x_ with
  | .inl l=>M.pure l
  | .inr _=>M.fail
def zau (stage:Int) (r4:List Pt):((List RLn) × Nat)->M (((List RLn) × Nat) ⊕ ((List RLn) × (List RLn))):=fun (l2,s) =>
  bif decide ((s:Int)<(r4.length:Int)) then (
  M.grd (decide ((s:Int)<(r4.length:Int))) <|
  M.grd (decide ((l2.length+([(⟨(stage:Int),(0:Int),((r4.getD s default).stage:Int),((r4.getD s default).flow:Int)⟩:RLn),(⟨((r4.getD s default).stage:Int),((r4.getD s default).flow:Int),(stage:Int),(200000:Int)⟩:RLn)]).length)*32<=140737488355328)) <|
  M.pure (.inl (l2++([(⟨(stage:Int),(0:Int),((r4.getD s default).stage:Int),((r4.getD s default).flow:Int)⟩:RLn),(⟨((r4.getD s default).stage:Int),((r4.getD s default).flow:Int),(stage:Int),(200000:Int)⟩:RLn)]),s+1)))
  else (
  M.pure (.inr (l2,l2)))
def zay (r2:List Gg) (l4:List RLn):((List RLn) × Nat)->M (((List RLn) × Nat) ⊕ ((List RLn) × (List RLn))):=fun (l5,s2) =>
  bif decide ((s2:Int)<(l4.length:Int)) then (
  M.grd (decide ((s2:Int)<(l4.length:Int))) <|
  M.bind (zao (l4.getD s2 default)) fun r6 =>
  M.bind (M.opt r6 (zbC r2 (l4.getD s2 default)) false) fun r7 =>
  bif (r6&&r7) then (
  M.grd (decide ((l5.length+([(l4.getD s2 default)]).length)*32<=140737488355328)) <|
  M.pure (.inl (l5++([(l4.getD s2 default)]),s2+1)))
  else (
  M.pure (.inl (l5,s2+1))))
  else (
  M.pure (.inr (l5,l5)))
def zaC (aa:List Gg) (ac:List Int) (at_ stage:Int):M (List RLn) :=
  M.bind (zbG aa ac at_) fun r2 =>
  M.bind (zch r2) fun (_:Unit) =>
  M.bind (zbm (M.yl (zal r2)) (.inl ([])) r2) fun x_=>match x_ with
  | .inl l=>(
  bif ((decide (0<(r2.length:Int)))&&((l.length:Int)==0)) then (
  M.pure ([]))
  else (
  M.bind (zaL (⟨(stage:Int),(0:Int)⟩:Pt)) fun (r0,r1,ae,ag) =>
  M.bind (zaL (⟨(stage:Int),(200000:Int)⟩:Pt)) fun (ah,ai,aj,ak) =>
  M.bind (zbd r2) fun r4 =>
  M.bind (M.iter (zau stage r4) ([(⟨(r0:Int),(r1:Int),(ae:Int),(ag:Int)⟩:RLn),(⟨(ah:Int),(ai:Int),(aj:Int),(ak:Int)⟩:RLn)],0)) fun (l3,l4) =>
  M.bind (zcZ l) fun r5 =>
  M.bind (M.iter (zay r2 l4) (r5,0)) fun (l6,l7) =>
  M.pure l7))
  | .inr _=>M.fail
theorem zdJ {R:List Chunk} {aQ:Nat} {bw:Cells} {bx:Value} {bz:Cells} {bA:Value} {ai:Nat} {aj:Base} (ak:List Gg) (al:List Int) (at_:Int) (stage:Int) (aR:Reads R bw) (aX:Sl bw bx ak) (aS:Reads R bz) (aY:Sl bz bA al) (aT:Has R (cBlk aQ [bx,bA,.map (some ai)] 182)) {r:(List RLn)} (hM:(zaC ak al at_ stage).Ends r) (w:World) (H:St w w [cMem I ai aj (zaf ak al)] R):Ret Tryz.prog 102 #[Pq aQ,I at_,I stage] w fun v w'=>∃ (y0:List RLn) (u0:Value) (b6:Base),y0=r/\v=u0/\St w w' [cOwn (α:=RLn) 52 u0 y0,cMem I ai b6 (zaf ak al)] R:=by
 refine ret_of_WD Tryz.func102 rfl rfl rfl ?_
 replace H:St w w [cMk ([]),cMem I ai aj (zaf ak al)] R:=H.mk0
 have dd:=aX.len_le
 have dg:=aY.len_le
 unfold zaC at hM
 have hM0:=hM
 obtain ⟨aq,H,aZ⟩:=St.memOpen H (i:=1) rfl
 replace H:=H.nf
 cases a7:aq at_ with
 | none =>
  refine WD.seq<|WD.of ?_;refine kg 3 ?_;refine WD.seq<|WD.of ?_;refine kg 3 ?_;obtain ⟨dh,bB,hM⟩:=M.e_bind hM;refine s_call cf130 [Pq aQ,I at_] rfl (zdE ak al at_ (aR.app _) aX (aS.app _) aY (aT.app _) bB _ (H.gt 3)) ?_
  rintro vq di ⟨r2,aa,rfl,hvq,ac⟩
  subst vq;(try dsimp only at hM);replace H:=H.bk ac;clear ac;refine t_alloc (cs:=[.slice none 0 0]) H Al177 rfl ?_;intro ah dj H;refine t_sw 0 0 [aa] aa H rfl rfl Sz177 (Sl.cells (H.os 1)) rfl rfl (by simp only [List.all_cons,List.all_nil,Bool.true_and,Bool.and_true,Sl.oc (H.os 1)]; try rfl) ?_;intro dk H;refine s_nil<|WD.seq<|WD.of ?_;refine kg 6 ?_;refine s_val (q_look (kenc:=I) (venc:=id) (f:=aq) (k:=(at_:Int)) (z:=.slice none 0 0) (v:=.tuple #[.slice none 0 0,B false]) keyIntV Tryz.underlying180 (by kernel_rfl) rfl rfl (H.get (k:=2) rfl) true (by simp [a7])) ?_;refine kg 3 ?_;refine t_alloc (cs:=[.slice none 0 0]) H Al53 rfl ?_;intro ag dm H;refine t_sw 0 0 [.slice none 0 0] (.slice none 0 0) H rfl rfl Sz53 rfl rfl rfl rfl ?_;intro dp H;refine kg 2 ?_;refine WD.seq<|WD.seq<|WD.of ?_;refine kg 4 ?_
  refine WD.cond (!false) rfl (fun bC=>?_) (fun bC=>?_)
  ·skip
   refine WD.seq<|WD.seq<|WD.of ?_;refine kg 2 ?_;obtain ⟨dq,bD,hM⟩:=M.e_bind hM;refine s_call cf131 [aa] rfl (zd9 r2 (rdo 2) (H.os 2) bD _ (H.gt 6)) ?_
   rintro vq dr ⟨au,rfl,hvq,ac⟩
   subst vq;(try dsimp only at hM);replace H:=H.bk ac;clear ac;refine s_nil<|WD.block ?_
   replace H:=H.nilOwn (α:=RLn) 52
   obtain ⟨dt,bE,hM⟩:=M.e_bind hM;refine WD.range (L:=[cOwn (α:=RLn) 52 (.slice none 0 0) ([]),cBlk ag [(.slice none 0 0)] 53,cBlk au [aa] 177,cBlk ah [aa] 177,cOwn (α:=Gg) 59 aa r2,cMap I id ai aq,cRx aj]) [Pq au] (H.pk [7,0,2,1,3,4,5,6]) rfl cf144 ?_;intro aU aL a8 b7 ba H
   have hYC:YieldC Tryz.prog ([cMk (aL :: ([])),cBlk au [aa] 177,cBlk ah [aa] 177,cOwn (α:=Gg) 59 aa r2,cMap I id ai aq,cRx aj]++R) arRLn (yJ aU a8 (fun l aV=>∃ (ae:Value),aV=[cOwn (α:=RLn) 52 ae l,cBlk ag [ae] 53]) (fun (_:Unit) _=>False) (fun _=>.ret)) (.func (.yield aU) #[] #[]) (M.yl (zal r2)):=by
    refine YieldC.mk2 ba (fun l aV=>∃ (ae:Value),aV=[cOwn (α:=RLn) 52 ae l,cBlk ag [ae] 53]) (fun (_:Unit) _=>False) (fun _=>.ret) (zal r2) (by rintro l _ h_; obtain ⟨_,rfl⟩:=h_; rfl) (fun _ _ h_=>h_.elim) rfl (arRLn_len rfl) ?_;intro C_ dv x b8
    obtain rfl:=b8
    intro w R aM aV s_ r b9 hM H
    skip
    obtain ⟨l,cb⟩:∃ y_,y_=s_:=⟨_,rfl⟩
    subst cb
    obtain ⟨ae,rfl⟩:=b9
    replace H:=H.nf;refine W.region rfl ?_;refine t_alloc (cs:=[I 0,I 0,I 0,I 0]) H Al52 rfl ?_;intro cc dw H;refine t_sw 0 0 [I x.ast,I x.afl,I x.bst,I x.bfl] (.agg #[I x.ast,I x.afl,I x.bst,I x.bfl]) H rfl rfl Sz52 rfl rfl rfl rfl ?_;intro dx H;refine s_nil ?_
    refine ⟨rfl,[cBlk cc [I x.ast,I x.afl,I x.bst,I x.bfl] 52],H.pick [0,1,2,3,4,5,6,7,8] (by decide) rfl,?_⟩
    clear H aM
    intro w R aM H
    replace aR:=aR.sub aM
    replace aS:=aS.sub aM
    replace aT:=aT.sub aM
    replace hM:(zal r2 l x).Ends r:=hM
    simp only [zal] at hM
    replace H:=H.nf;refine kg 5 ?_;obtain ⟨dy,ce,hM⟩:=M.e_bind hM;refine s_call cf132 [aa,.agg #[I x.ast,I x.afl,I x.bst,I x.bfl]] rfl (zc4 r2 x (rdo 6) (H.os 6) ce _ (H.gt 9)) ?_
    rintro vq dz ⟨r3,rfl,hvq,ac⟩
    subst vq;(try dsimp only at hM);replace H:=H.bk ac;clear ac;refine s_nil ?_
    refine W.cond r3 rfl (fun bb=>?_) (fun bb=>?_)
    ·replace hM:=M.e_t hM bb;refine kg 3 ?_;refine t_bs (α:=RLn) T53 [.agg #[I x.ast,I x.afl,I x.bst,I x.bfl]] [x] H rfl (.cons rfl (Flat.rep_enc _ x)<|.nil) rfl rfl rfl ?_;intro cf dA H;obtain ⟨dB,hM⟩:=M.e_gd hM;refine t_app (α:=RLn) (k:=2) (l:=l) (l2:=[x]) (l':=l++([x])) (vy:=cf) T53 rfl H rfl rfl rfl (H.os 0) (H.ol 0) (rfl) (by first | omega | (simp only [List.length_nil] at *; omega)) ?_;intro aN dC H;replace H:=H.nf;refine t_sw 3 0 [aN] aN H rfl rfl Sz53 (Sl.cells (H.os 2)) rfl rfl (by simp only [List.all_cons,List.all_nil,Bool.true_and,Bool.and_true,Sl.oc (H.os 2)]; try rfl) ?_;intro dD H;refine s_nil ?_
     exact ⟨l++([x]),[cOwn (α:=RLn) 52 aN (l++([x])),cBlk ag [aN] 53],(M.e_pure hM).symm,⟨aN,rfl⟩,H.pick [2,3,4,5,6,7,8,9] (by decide) rfl⟩
    replace hM:=M.e_f hM bb;refine W.skip ?_
    exact ⟨l,[cOwn (α:=RLn) 52 ae l,cBlk ag [ae] 53],(M.e_pure hM).symm,⟨ae,rfl⟩,H.pick [1,2,3,4,5,6,7,8] (by decide) rfl⟩
   replace H:St w b7 (cAll (cObj aU (.loop a8) :: [cOwn (α:=RLn) 52 (.slice none 0 0) ([]),cBlk ag [(.slice none 0 0)] 53]) :: [cMk (aL :: ([])),cBlk au [aa] 177,cBlk ah [aa] 177,cOwn (α:=Gg) 59 aa r2,cMap I id ai aq,cRx aj]) R:=St.bundleB (A:=cObj aU (.loop a8) :: [cOwn (α:=RLn) 52 (.slice none 0 0) ([]),cBlk ag [(.slice none 0 0)] 53]) (T:=[cMk (aL :: ([])),cBlk au [aa] 177,cBlk ah [aa] 177,cOwn (α:=Gg) 59 aa r2,cMap I id ai aq,cRx aj]) rfl (H.pk [0,2,3,1,4,5,6,7,8])
   refine (ze3 (M.yl (zal r2)) (.inl ([])) r2 hYC ⟨_,rfl,⟨(.slice none 0 0),rfl⟩⟩ (rdo 3) (H.os 4) (Has.here (k:=1) rfl) bE _ (H.gt 6)).mono ?_
   rintro vq dE ⟨cg,dF,rfl,hvq,ac,bF⟩
   replace H:=H.back ac rfl
   clear ac hYC
   rcases cg with l | _
   ·(try dsimp only at hM)
    obtain ⟨_,rfl,ae,rfl⟩:=bF
    refine ⟨_,[cOwn (α:=RLn) 52 ae l,cBlk ag [ae] 53,cBlk au [aa] 177,cBlk ah [aa] 177,cOwn (α:=Gg) 59 aa r2,cMap I id ai aq,cRx aj],H.unbundle.pick [0,3,1,2,4,5,6,7,8] (by decide) rfl,ba.nb,?_⟩
    intro dG H
    rw [ba.pd]
    replace H:=H.nf
    try simp only []
    refine WD.of ?_;refine W.draw (fun W=>St w W [cMk (aL :: ([])),cOwn (α:=RLn) 52 ae l,cBlk ag [ae] 53,cBlk au [aa] 177,cBlk ah [aa] 177,cOwn (α:=Gg) 59 aa r2,cRx aj] R) [(0,true),(1,true),(2,true),(3,true),(4,true),(5,true),(6,false)] mixed (by decide +kernel) rfl ?_;intro dH aD;replace H:=H.ext aD;clear aD
    refine ⟨(H.pk [0,1,2,3,4,5,7]),?_⟩
    refine kg 6 ?_;refine d_l rfl ?_;refine t_mapu (i:=6) (kenc:=I) (venc:=id) (f:=aq) (k:=(at_:Int)) (v:=ae) (L':=[cMk (aL :: ([])),cOwn (α:=RLn) 52 ae l,cBlk ag [ae] 53,cBlk au [aa] 177,cBlk ah [aa] 177,cOwn (α:=Gg) 59 aa r2,cMap I id ai (updF aq (at_:Int) ae),cRx aj]) keyIntV Tryz.underlying180 H rfl rfl rfl rfl rfl ?_;intro dJ H
    refine s_nil ⟨(H.pk [0,1,2,3,4,5,7]),?_⟩
    refine d_nil ?_
    obtain ⟨aO,dK,ch,H⟩:=St.memShut1 (H.pk [6,7,1,0,2,3,4,5]) aZ (M.i_bind bB (M.i_bind bD (M.i_bind bE M.i_pure)))
    replace H:=H.nf;refine WD.seq<|WD.seq<|WD.of ?_
    have dL:=((H.os 5)).len_le
    refine kg 8 ?_;refine s_val (x_pand (b:=decide (0<(r2.length:Int))) (r:=(l.length:Int)==0) rfl (fun hb=>gd_of (c:=decide (0<(r2.length:Int))) (by first | exact hb | (rw [hb]; rfl) | simp_all) (B ((l.length:Int)==0))) rfl)<|s_nil ?_
    refine WD.cond ((decide (0<(r2.length:Int)))&&((l.length:Int)==0)) rfl (fun bc=>?_) (fun bc=>?_)
    ·replace hM:=M.e_t hM bc;refine WD.seq<|WD.of ?_;refine kg 3 ?_;replace H:=H.pk [0,1];refine WD.of ?_;refine W.ret ?_;refine bodyD_r (H.pk [1,0]) ?_;intro dM H;replace H:=H.nf
     have am:=M.e_pure hM
     replace H:=H.nilOwn (α:=RLn) 52
     exact ⟨_,resE_tmp rfl,⟨([]),(.slice none 0 0),aO,am,rfl,H⟩⟩
    replace hM:=M.e_f hM bc;refine WD.of<|W.skip<|WD.seq<|WD.of ?_;refine kg 2 ?_;refine s_val (x_bld (ps:=[(0,I stage),(1,I 0)]) (zs:=[I 0,I 0]) (L':=[I stage,I 0]) rfl Tryz.underlying50 Al50 rfl (Bd50 Tryz.underlying50) (.cons (cs:=[I stage]) rfl rfl rfl rfl rfl<|.cons (cs:=[I 0]) rfl rfl rfl rfl rfl<|.nil)) ?_;refine kg 1 ?_;refine s_val (x_bld (ps:=[(0,I stage),(1,I 200000)]) (zs:=[I 0,I 0]) (L':=[I stage,I 200000]) rfl Tryz.underlying50 Al50 rfl (Bd50 Tryz.underlying50) (.cons (cs:=[I stage]) rfl rfl rfl rfl rfl<|.cons (cs:=[I 200000]) rfl rfl rfl rfl rfl<|.nil)) ?_;refine t_alloc (cs:=[I 0,I 0]) H Al50 rfl ?_;intro aF dN H;refine t_alloc (cs:=[I 0,I 0]) H Al50 rfl ?_;intro aG dO H;refine t_sw 1 0 [I stage,I 0] (.agg #[I stage,I 0]) H rfl rfl Sz50 rfl rfl rfl rfl ?_;intro dP H;refine t_sw 0 0 [I stage,I 200000] (.agg #[I stage,I 200000]) H rfl rfl Sz50 rfl rfl rfl rfl ?_;intro dQ H;refine s_nil<|WD.seq<|WD.of ?_;refine W.draw (fun W=>St w W [cBlk aG [I stage,I 200000] 50,cBlk aF [I stage,I 0] 50,cMem I ai aO (zaf ak al),cMk (aL :: ([])),cBlk ag [ae] 53,cBlk au [aa] 177,cBlk ah [aa] 177,cOwn (α:=Gg) 59 aa r2] R) [(0,true),(2,true),(1,false),(3,false),(4,false),(5,true)] mixed (by decide +kernel) rfl ?_;intro dR aD;replace H:=H.ext aD;clear aD
    refine ⟨(H.pk [0,1,2,3,4,5,6,7]),?_⟩
    refine kg 2 ?_;refine d_l rfl ?_;obtain ⟨dS,ci,hM⟩:=M.e_bind hM;refine s_call cf133 [.agg #[I stage,I 0]] rfl (zaN (⟨(stage:Int),(0:Int)⟩:Pt) ci _ (H.gt 8)) ?_
    rintro vq dT ⟨r0,r1,ax,ay,rfl,hvq,ac⟩
    subst vq;(try dsimp only at hM);replace H:=H.bk ac;clear ac
    refine s_nil ⟨(H.pk [0,1,2,3,4,5,6,7]),?_⟩
    refine d_l rfl ?_;obtain ⟨dU,cj,hM⟩:=M.e_bind hM;refine s_call cf133 [.agg #[I stage,I 200000]] rfl (zaN (⟨(stage:Int),(200000:Int)⟩:Pt) cj _ (H.gt 8)) ?_
    rintro vq dV ⟨az,aA,aB,aC,rfl,hvq,ac⟩
    subst vq;(try dsimp only at hM);replace H:=H.bk ac;clear ac
    refine s_nil ⟨(H.pk [0,1,2,3,4,5,6,7]),?_⟩
    refine d_l rfl ?_;refine t_bs (α:=RLn) T53 [.agg #[I r0,I r1,I ax,I ay],.agg #[I az,I aA,I aB,I aC]] [(⟨(r0:Int),(r1:Int),(ax:Int),(ay:Int)⟩:RLn),(⟨(az:Int),(aA:Int),(aB:Int),(aC:Int)⟩:RLn)] H rfl (.cons rfl (Flat.rep_enc _ (⟨(r0:Int),(r1:Int),(ax:Int),(ay:Int)⟩:RLn))<|.cons rfl (Flat.rep_enc _ (⟨(az:Int),(aA:Int),(aB:Int),(aC:Int)⟩:RLn))<|.nil) rfl rfl rfl ?_;intro ck dW H
    have dX:=Sl.cells (H.os 0)
    have dY:=Sl.oc (H.os 0)
    refine s_nil ⟨(H.pk [1,2,3,4,5,6,7,8]),?_⟩
    refine kg 2 ?_;refine WD.seq<|WD.seq<|WD.of ?_;refine kg 2 ?_;obtain ⟨dZ,cn,hM⟩:=M.e_bind hM;refine s_call cf134 [aa] rfl (zc7 r2 (rdo 8) (H.os 8) cn _ (H.gt 9)) ?_
    rintro vq d4 ⟨r4,aP,rfl,hvq,ac⟩
    subst vq;(try dsimp only at hM);replace H:=H.bk ac;clear ac
    have d5:=((H.os 0)).len_le
    refine kg 3 ?_;refine WD.block ?_;obtain ⟨co,bf,cp⟩:=M.e_bind hM
    obtain ⟨bg,bf⟩:=M.e_iter bf
    refine WD.loop (fun m bG σ W=>∃ (l2:List RLn) (s:Nat) (ao:Value) (ρ:Env),σ=upds ρ [(7,Pq ah),(8,Pq ag),(11,Pq aF),(12,Pq aG),(13,ao),(67,aP),(68,I (r4.length:Int)),(69,I (s:Int))]/\M.iterN (zau stage r4) m (l2,s)=some co/\St w W [cOwn (α:=Pt) 50 aP r4,cOwn (α:=RLn) 52 ao l2,cBlk aG [I stage,I 200000] 50,cBlk aF [I stage,I 0] 50,cMem I ai aO (zaf ak al),cMk bG,cBlk ag [ae] 53,cBlk au [aa] 177,cBlk ah [aa] 177,cOwn (α:=Gg) 59 aa r2] R) ?_ ?_
    ·exact ⟨_,[(⟨(r0:Int),(r1:Int),(ax:Int),(ay:Int)⟩:RLn),(⟨(az:Int),(aA:Int),(aB:Int),(aC:Int)⟩:RLn)],0,ck,_,upds_of _ _ ⟨rfl,rfl,rfl,rfl,rfl,rfl,rfl,rfl,trivial⟩,bf,H⟩
    rintro d6 bG σ d7 ⟨l2,s,ao,ρ,rfl,bH,H⟩
    obtain ⟨cq,cr,d8,hM,bI⟩:=M.e_iterN bH
    simp only [zau] at hM
    clear bH;refine WD.seq<|WD.of ?_;refine kg 3 ?_;refine WD.seq ?_
    refine WD.cond (decide ((s:Int)<(r4.length:Int))) rfl (fun aH=>?_) (fun aH=>?_)
    ·replace hM:=M.e_t hM aH
     replace aH:=dI aH
     refine WD.of<|W.skip<|WD.seq<|WD.block<|WD.seq<|WD.of ?_;obtain ⟨d9,hM⟩:=M.e_gd hM;refine kg 2 ?_;refine s_val (x_ld (v:=.agg #[I ((r4.getD s default).stage),I ((r4.getD s default).flow)]) rfl (ld_ag Ag50 Sz50 (At.mono (Pt_atA (H.os 0) (i:=(s:Int)) (by omega) (by omega)) (H.ol 0)))) ?_;refine t_alloc (cs:=[I 0,I 0]) H Al50 rfl ?_;intro ct ed H;refine t_sw 0 0 [I ((r4.getD s default).stage),I ((r4.getD s default).flow)] (.agg #[I ((r4.getD s default).stage),I ((r4.getD s default).flow)]) H rfl rfl Sz50 rfl rfl rfl rfl ?_;intro ee H;refine s_nil<|WD.of ?_;refine kg 4 ?_;refine s_val (x_bld (ps:=[(0,.agg #[I stage,I 0]),(1,.agg #[I ((r4.getD s default).stage),I ((r4.getD s default).flow)])]) (zs:=[I 0,I 0,I 0,I 0]) (L':=[I stage,I 0,I ((r4.getD s default).stage),I ((r4.getD s default).flow)]) rfl Tryz.underlying52 Al52 rfl (Bd52 Tryz.underlying52) (.cons (cs:=[I stage,I 0]) rfl rfl rfl rfl rfl<|.cons (cs:=[I ((r4.getD s default).stage),I ((r4.getD s default).flow)]) rfl rfl rfl rfl rfl<|.nil)) ?_;refine kg 2 ?_;refine s_val (x_bld (ps:=[(0,.agg #[I ((r4.getD s default).stage),I ((r4.getD s default).flow)]),(1,.agg #[I stage,I 200000])]) (zs:=[I 0,I 0,I 0,I 0]) (L':=[I ((r4.getD s default).stage),I ((r4.getD s default).flow),I stage,I 200000]) rfl Tryz.underlying52 Al52 rfl (Bd52 Tryz.underlying52) (.cons (cs:=[I ((r4.getD s default).stage),I ((r4.getD s default).flow)]) rfl rfl rfl rfl rfl<|.cons (cs:=[I stage,I 200000]) rfl rfl rfl rfl rfl<|.nil)) ?_;refine t_bs (α:=RLn) T53 [.agg #[I stage,I 0,I ((r4.getD s default).stage),I ((r4.getD s default).flow)],.agg #[I ((r4.getD s default).stage),I ((r4.getD s default).flow),I stage,I 200000]] [(⟨(stage:Int),(0:Int),((r4.getD s default).stage:Int),((r4.getD s default).flow:Int)⟩:RLn),(⟨((r4.getD s default).stage:Int),((r4.getD s default).flow:Int),(stage:Int),(200000:Int)⟩:RLn)] H rfl (.cons rfl (Flat.rep_enc _ (⟨(stage:Int),(0:Int),((r4.getD s default).stage:Int),((r4.getD s default).flow:Int)⟩:RLn))<|.cons rfl (Flat.rep_enc _ (⟨((r4.getD s default).stage:Int),((r4.getD s default).flow:Int),(stage:Int),(200000:Int)⟩:RLn))<|.nil) rfl rfl rfl ?_;intro cv ef H;obtain ⟨eg,hM⟩:=M.e_gd hM;refine t_app (α:=RLn) (k:=3) (l:=l2) (l2:=[(⟨(stage:Int),(0:Int),((r4.getD s default).stage:Int),((r4.getD s default).flow:Int)⟩:RLn),(⟨((r4.getD s default).stage:Int),((r4.getD s default).flow:Int),(stage:Int),(200000:Int)⟩:RLn)]) (l':=l2++([(⟨(stage:Int),(0:Int),((r4.getD s default).stage:Int),((r4.getD s default).flow:Int)⟩:RLn),(⟨((r4.getD s default).stage:Int),((r4.getD s default).flow:Int),(stage:Int),(200000:Int)⟩:RLn)])) (vy:=cv) T53 rfl H rfl rfl rfl (H.os 0) (H.ol 0) (rfl) (by first | omega | (simp only [List.length_nil] at *; omega)) ?_;intro cw ei H;replace H:=H.nf;refine kg 2 ?_;replace H:=H.pk [2,3,4,5,6,7,8,9,10,11];refine WD.of ?_;refine kg 4 ?_
     exact ⟨cq,cr,l2++([(⟨(stage:Int),(0:Int),((r4.getD s default).stage:Int),((r4.getD s default).flow:Int)⟩:RLn),(⟨((r4.getD s default).stage:Int),((r4.getD s default).flow:Int),(stage:Int),(200000:Int)⟩:RLn)]),s+1,cw,_,upds_of _ _ ⟨rfl,rfl,rfl,rfl,rfl,rfl,rfl,rfl,trivial⟩,M.e_inl hM bI,H⟩
    replace hM:=M.e_f hM aH
    replace aH:=dI aH
    refine WD.of ?_;refine W.exit ?_
    have cx:=M.e_inr hM bI
    subst cx;replace hM:=cp;(try dsimp only at hM);replace H:=H.pk [1,4,5,6,8,9];refine WD.seq<|WD.of ?_;refine kg 2 ?_;obtain ⟨ej,cy,hM⟩:=M.e_bind hM;refine s_call cf135 [ae] rfl (zd8 l (Reads.of (k:=1) rfl memLe) ch cy _ (H.gt 6)) ?_
    rintro vq em ⟨r5,bh,rfl,hvq,ac⟩
    subst vq;(try dsimp only at hM);replace H:=H.bk ac;clear ac;refine kg 2 ?_;refine WD.seq<|WD.seq<|WD.of ?_
    have eo:=((H.os 1)).len_le
    refine kg 5 ?_;refine WD.block ?_;obtain ⟨cz,bi,cA⟩:=M.e_bind hM
    obtain ⟨bg,bi⟩:=M.e_iter bi
    refine WD.loop (fun m bJ σ W=>∃ (l5:List RLn) (s2:Nat) (ap:Value) (ρ:Env),σ=upds ρ [(7,Pq ah),(16,ap),(85,ao),(86,I (l2.length:Int)),(87,I (s2:Int))]/\M.iterN (zay r2 l2) m (l5,s2)=some cz/\St w W [cOwn (α:=RLn) 52 ap l5,cOwn (α:=RLn) 52 ao l2,cMem I ai aO (zaf ak al),cMk bJ,cBlk ag [ae] 53,cBlk ah [aa] 177,cOwn (α:=Gg) 59 aa r2] R) ?_ ?_
    ·exact ⟨_,r5,0,bh,_,upds_of _ _ ⟨rfl,rfl,rfl,rfl,rfl,trivial⟩,bi,H⟩
    rintro ep bJ σ eq ⟨l5,s2,ap,ρ,rfl,bK,H⟩
    obtain ⟨bL,bN,er,hM,bj⟩:=M.e_iterN bK
    simp only [zay] at hM
    clear bK;refine WD.seq<|WD.of ?_;refine kg 3 ?_;refine WD.seq ?_
    refine WD.cond (decide ((s2:Int)<(l2.length:Int))) rfl (fun aI=>?_) (fun aI=>?_)
    ·replace hM:=M.e_t hM aI
     replace aI:=dI aI
     refine WD.of<|W.skip<|WD.seq<|WD.block<|WD.seq<|WD.of ?_;obtain ⟨eu,hM⟩:=M.e_gd hM;refine kg 2 ?_;refine s_val (x_ld (v:=.agg #[I ((l2.getD s2 default).ast),I ((l2.getD s2 default).afl),I ((l2.getD s2 default).bst),I ((l2.getD s2 default).bfl)]) rfl (ld_ag Ag52 Sz52 (At.mono (RLn_atA (H.os 1) (i:=(s2:Int)) (by omega) (by omega)) (H.ol 1)))) ?_;refine t_alloc (cs:=[I 0,I 0,I 0,I 0]) H Al52 rfl ?_;intro cB ew H;refine t_sw 0 0 [I ((l2.getD s2 default).ast),I ((l2.getD s2 default).afl),I ((l2.getD s2 default).bst),I ((l2.getD s2 default).bfl)] (.agg #[I ((l2.getD s2 default).ast),I ((l2.getD s2 default).afl),I ((l2.getD s2 default).bst),I ((l2.getD s2 default).bfl)]) H rfl rfl Sz52 rfl rfl rfl rfl ?_;intro ey H;refine s_nil<|WD.seq<|WD.of ?_;refine kg 2 ?_;obtain ⟨ez,cC,hM⟩:=M.e_bind hM;refine s_call cf32 [.agg #[I ((l2.getD s2 default).ast),I ((l2.getD s2 default).afl),I ((l2.getD s2 default).bst),I ((l2.getD s2 default).bfl)]] rfl (zbO (l2.getD s2 default) cC _ (H.gt 8)) ?_
     rintro vq eA ⟨r6,rfl,hvq,ac⟩
     subst vq;(try dsimp only at hM);replace H:=H.bk ac;clear ac;refine kg 3 ?_;obtain ⟨r7,cD,hM⟩:=M.e_bind hM;refine t_gcall r6 (gy_t rfl) cf132 (B r7) (fun _=>[aa,.agg #[I ((l2.getD s2 default).ast),I ((l2.getD s2 default).afl),I ((l2.getD s2 default).bst),I ((l2.getD s2 default).bfl)]]) (fun hg=>lst2 (gd_of hg (aa)) (gd_of hg (.agg #[I ((l2.getD s2 default).ast),I ((l2.getD s2 default).afl),I ((l2.getD s2 default).bst),I ((l2.getD s2 default).bfl)]))) H (fun hg=>(zc4 r2 (l2.getD s2 default) (rdo 7) (H.os 7) (M.e_opt cD hg) _ (H.give (A:=[]) rfl)).mono fun v_ w_ ⟨y_,am,bm,H_⟩=>by subst am; exact ⟨bm,H.via H_⟩) ?_;intro eB H;refine s_val (x_pand (b:=r6) (r:=r7) rfl (fun hb=>gd_of (c:=r6) (by first | exact hb | (rw [hb]; rfl) | simp_all) (B r7)) rfl)<|s_nil ?_
     refine WD.cond (r6&&r7) rfl (fun bn=>?_) (fun bn=>?_)
     ·replace hM:=M.e_t hM bn;refine WD.of ?_;refine kg 3 ?_;refine t_bs (α:=RLn) T53 [.agg #[I ((l2.getD s2 default).ast),I ((l2.getD s2 default).afl),I ((l2.getD s2 default).bst),I ((l2.getD s2 default).bfl)]] [(l2.getD s2 default)] H rfl (.cons rfl (Flat.rep_enc _ (l2.getD s2 default))<|.nil) rfl rfl rfl ?_;intro cE eC H;obtain ⟨eD,hM⟩:=M.e_gd hM;refine t_app (α:=RLn) (k:=2) (l:=l5) (l2:=[(l2.getD s2 default)]) (l':=l5++([(l2.getD s2 default)])) (vy:=cE) T53 rfl H rfl rfl rfl (H.os 0) (H.ol 0) (rfl) (by first | omega | (simp only [List.length_nil] at *; omega)) ?_;intro cF eE H;replace H:=H.nf;refine kg 2 ?_;replace H:=H.pk [2,3,4,5,6,7,8];refine WD.of ?_;refine kg 4 ?_
      exact ⟨bL,bN,l5++([(l2.getD s2 default)]),s2+1,cF,_,upds_of _ _ ⟨rfl,rfl,rfl,rfl,rfl,trivial⟩,M.e_inl hM bj,H⟩
     replace hM:=M.e_f hM bn;refine WD.of<|W.skip<|WD.of ?_;refine kg 4 ?_
     exact ⟨bL,bN,l5,s2+1,ap,_,upds_of _ _ ⟨rfl,rfl,rfl,rfl,rfl,trivial⟩,M.e_inl hM bj,(H.pk [1,2,3,4,5,6,7])⟩
    replace hM:=M.e_f hM aI
    replace aI:=dI aI
    refine WD.of ?_;refine W.exit ?_
    have cG:=M.e_inr hM bj
    subst cG;replace hM:=cA;(try dsimp only at hM);replace H:=H.pk [0,2,3];refine WD.seq<|WD.of ?_;refine kg 4 ?_;refine WD.of ?_;refine W.ret ?_;refine bodyD_r (H.pk [2,0,1]) ?_;intro eF H;replace H:=H.nf
    have am:=M.e_pure hM
    exact ⟨_,resE_tmp rfl,⟨l5,ap,aO,am,rfl,H⟩⟩
   obtain ⟨_,_,h_⟩:=bF; exact h_.elim
  skip
  exact absurd bC (by decide)
 | some aE =>
  obtain ⟨aW,av,bo⟩:=aZ at_ aE a7
  refine WD.seq<|WD.of ?_;refine kg 3 ?_;refine WD.seq<|WD.of ?_;refine kg 3 ?_;obtain ⟨eG,bO,hM⟩:=M.e_bind hM;refine s_call cf130 [Pq aQ,I at_] rfl (zdE ak al at_ (aR.app _) aX (aS.app _) aY (aT.app _) bO _ (H.gt 3)) ?_
  rintro vq eH ⟨r2,aa,rfl,hvq,ac⟩
  subst vq;(try dsimp only at hM);replace H:=H.bk ac;clear ac;refine t_alloc (cs:=[.slice none 0 0]) H Al177 rfl ?_;intro ah eI H;refine t_sw 0 0 [aa] aa H rfl rfl Sz177 (Sl.cells (H.os 1)) rfl rfl (by simp only [List.all_cons,List.all_nil,Bool.true_and,Bool.and_true,Sl.oc (H.os 1)]; try rfl) ?_;intro eJ H;refine s_nil<|WD.seq<|WD.of ?_;refine kg 6 ?_;refine s_val (q_look (kenc:=I) (venc:=id) (f:=aq) (k:=(at_:Int)) (z:=.slice none 0 0) (v:=.tuple #[aE,B true]) keyIntV Tryz.underlying180 (by kernel_rfl) rfl rfl (H.get (k:=2) rfl) true (by simp [a7])) ?_
  replace H:=St.memShut (H.pk [2,3,0,1,4]) aZ
  replace H:=H.nf
  obtain ⟨eK,bP,av⟩:=M.e_bind av
  rw [M.Ends.det bP bO] at av
  obtain ⟨_,cH,av⟩:=M.e_bind av
  obtain ⟨_,cI,hM⟩:=M.e_bind hM
  obtain ⟨eL,bQ,av⟩:=M.e_bind av
  obtain ⟨cJ,bR,hM⟩:=M.e_bind hM
  rw [M.Ends.det bQ bR] at av
  clear bQ
  obtain l_ | _:=cJ
  rotate_left
  ·exact (M.e_fail av).elim
  (try dsimp only at hM)
  rw [M.e_pure av] at hM
  clear bP cH cI bR
  refine kg 3 ?_;refine t_alloc (cs:=[.slice none 0 0]) H Al53 rfl ?_;intro ag eM H;refine t_sw 0 0 [aE] aE H rfl rfl Sz53 (Sl.cells bo) rfl rfl (by simp only [List.all_cons,List.all_nil,Bool.true_and,Bool.and_true,Sl.oc bo]; try rfl) ?_;intro eN H;refine kg 2 ?_;refine WD.seq<|WD.seq<|WD.of ?_;refine kg 4 ?_
  refine WD.cond (!true) rfl (fun bS=>?_) (fun bS=>?_)
  ·skip
   exact absurd bS (by decide)
  skip
  refine WD.of<|W.skip<|WD.seq<|WD.seq<|WD.of ?_
  have eO:=((H.os 3)).len_le
  refine kg 8 ?_;refine s_val (x_pand (b:=decide (0<(r2.length:Int))) (r:=(aW.length:Int)==0) rfl (fun hb=>gd_of (c:=decide (0<(r2.length:Int))) (by first | exact hb | (rw [hb]; rfl) | simp_all) (B ((aW.length:Int)==0))) rfl)<|s_nil ?_
  refine WD.cond ((decide (0<(r2.length:Int)))&&((aW.length:Int)==0)) rfl (fun bp=>?_) (fun bp=>?_)
  ·replace hM:=M.e_t hM bp;refine WD.seq<|WD.of ?_;refine kg 3 ?_;replace H:=H.pk [1,4];refine WD.of ?_;refine W.ret ?_;refine bodyD_r (H.pk [1,0]) ?_;intro eP H;replace H:=H.nf
   have am:=M.e_pure hM
   replace H:=H.nilOwn (α:=RLn) 52
   exact ⟨_,resE_tmp rfl,⟨([]),(.slice none 0 0),aj,am,rfl,H⟩⟩
  replace hM:=M.e_f hM bp;refine WD.of<|W.skip<|WD.seq<|WD.of ?_;refine kg 2 ?_;refine s_val (x_bld (ps:=[(0,I stage),(1,I 0)]) (zs:=[I 0,I 0]) (L':=[I stage,I 0]) rfl Tryz.underlying50 Al50 rfl (Bd50 Tryz.underlying50) (.cons (cs:=[I stage]) rfl rfl rfl rfl rfl<|.cons (cs:=[I 0]) rfl rfl rfl rfl rfl<|.nil)) ?_;refine kg 1 ?_;refine s_val (x_bld (ps:=[(0,I stage),(1,I 200000)]) (zs:=[I 0,I 0]) (L':=[I stage,I 200000]) rfl Tryz.underlying50 Al50 rfl (Bd50 Tryz.underlying50) (.cons (cs:=[I stage]) rfl rfl rfl rfl rfl<|.cons (cs:=[I 200000]) rfl rfl rfl rfl rfl<|.nil)) ?_;refine t_alloc (cs:=[I 0,I 0]) H Al50 rfl ?_;intro aF eQ H;refine t_alloc (cs:=[I 0,I 0]) H Al50 rfl ?_;intro aG eR H;refine t_sw 1 0 [I stage,I 0] (.agg #[I stage,I 0]) H rfl rfl Sz50 rfl rfl rfl rfl ?_;intro eS H;refine t_sw 0 0 [I stage,I 200000] (.agg #[I stage,I 200000]) H rfl rfl Sz50 rfl rfl rfl rfl ?_;intro eT H;refine s_nil<|WD.seq<|WD.of ?_;refine W.draw (fun W=>St w W [cBlk aG [I stage,I 200000] 50,cBlk aF [I stage,I 0] 50,cBlk ag [aE] 53,cMem I ai aj (zaf ak al),cBlk ah [aa] 177,cOwn (α:=Gg) 59 aa r2,cMk ([])] R) [(0,true),(2,true),(1,false),(3,false),(4,false),(5,true)] mixed (by decide +kernel) rfl ?_;intro eU aD;replace H:=H.ext aD;clear aD
  refine ⟨(H.pk [0,1,2,3,4,5,6]),?_⟩
  refine kg 2 ?_;refine d_l rfl ?_;obtain ⟨eV,cK,hM⟩:=M.e_bind hM;refine s_call cf133 [.agg #[I stage,I 0]] rfl (zaN (⟨(stage:Int),(0:Int)⟩:Pt) cK _ (H.gt 7)) ?_
  rintro vq eW ⟨r0,r1,ax,ay,rfl,hvq,ac⟩
  subst vq;(try dsimp only at hM);replace H:=H.bk ac;clear ac
  refine s_nil ⟨(H.pk [0,1,2,3,4,5,6]),?_⟩
  refine d_l rfl ?_;obtain ⟨eX,cL,hM⟩:=M.e_bind hM;refine s_call cf133 [.agg #[I stage,I 200000]] rfl (zaN (⟨(stage:Int),(200000:Int)⟩:Pt) cL _ (H.gt 7)) ?_
  rintro vq eY ⟨az,aA,aB,aC,rfl,hvq,ac⟩
  subst vq;(try dsimp only at hM);replace H:=H.bk ac;clear ac
  refine s_nil ⟨(H.pk [0,1,2,3,4,5,6]),?_⟩
  refine d_l rfl ?_;refine t_bs (α:=RLn) T53 [.agg #[I r0,I r1,I ax,I ay],.agg #[I az,I aA,I aB,I aC]] [(⟨(r0:Int),(r1:Int),(ax:Int),(ay:Int)⟩:RLn),(⟨(az:Int),(aA:Int),(aB:Int),(aC:Int)⟩:RLn)] H rfl (.cons rfl (Flat.rep_enc _ (⟨(r0:Int),(r1:Int),(ax:Int),(ay:Int)⟩:RLn))<|.cons rfl (Flat.rep_enc _ (⟨(az:Int),(aA:Int),(aB:Int),(aC:Int)⟩:RLn))<|.nil) rfl rfl rfl ?_;intro cM eZ H
  have e6:=Sl.cells (H.os 0)
  have e7:=Sl.oc (H.os 0)
  refine s_nil ⟨(H.pk [1,2,3,4,5,6,7]),?_⟩
  refine kg 2 ?_;refine WD.seq<|WD.seq<|WD.of ?_;refine kg 2 ?_;obtain ⟨e8,cN,hM⟩:=M.e_bind hM;refine s_call cf134 [aa] rfl (zc7 r2 (rdo 6) (H.os 6) cN _ (H.gt 8)) ?_
  rintro vq e9 ⟨r4,aP,rfl,hvq,ac⟩
  subst vq;(try dsimp only at hM);replace H:=H.bk ac;clear ac
  have fd:=((H.os 0)).len_le
  refine kg 3 ?_;refine WD.block ?_;obtain ⟨cO,br,cQ⟩:=M.e_bind hM
  obtain ⟨bg,br⟩:=M.e_iter br
  refine WD.loop (fun m bT σ W=>∃ (l2:List RLn) (s:Nat) (ao:Value) (ρ:Env),σ=upds ρ [(7,Pq ah),(8,Pq ag),(11,Pq aF),(12,Pq aG),(13,ao),(67,aP),(68,I (r4.length:Int)),(69,I (s:Int))]/\M.iterN (zau stage r4) m (l2,s)=some cO/\St w W [cOwn (α:=Pt) 50 aP r4,cOwn (α:=RLn) 52 ao l2,cBlk aG [I stage,I 200000] 50,cBlk aF [I stage,I 0] 50,cBlk ag [aE] 53,cMem I ai aj (zaf ak al),cBlk ah [aa] 177,cOwn (α:=Gg) 59 aa r2,cMk bT] R) ?_ ?_
  ·exact ⟨_,[(⟨(r0:Int),(r1:Int),(ax:Int),(ay:Int)⟩:RLn),(⟨(az:Int),(aA:Int),(aB:Int),(aC:Int)⟩:RLn)],0,cM,_,upds_of _ _ ⟨rfl,rfl,rfl,rfl,rfl,rfl,rfl,rfl,trivial⟩,br,H⟩
  rintro fg bT σ fh ⟨l2,s,ao,ρ,rfl,bU,H⟩
  obtain ⟨cS,cT,fi,hM,bV⟩:=M.e_iterN bU
  simp only [zau] at hM
  clear bU;refine WD.seq<|WD.of ?_;refine kg 3 ?_;refine WD.seq ?_
  refine WD.cond (decide ((s:Int)<(r4.length:Int))) rfl (fun aJ=>?_) (fun aJ=>?_)
  ·replace hM:=M.e_t hM aJ
   replace aJ:=dI aJ
   refine WD.of<|W.skip<|WD.seq<|WD.block<|WD.seq<|WD.of ?_;obtain ⟨fj,hM⟩:=M.e_gd hM;refine kg 2 ?_;refine s_val (x_ld (v:=.agg #[I ((r4.getD s default).stage),I ((r4.getD s default).flow)]) rfl (ld_ag Ag50 Sz50 (At.mono (Pt_atA (H.os 0) (i:=(s:Int)) (by omega) (by omega)) (H.ol 0)))) ?_;refine t_alloc (cs:=[I 0,I 0]) H Al50 rfl ?_;intro ct fk H;refine t_sw 0 0 [I ((r4.getD s default).stage),I ((r4.getD s default).flow)] (.agg #[I ((r4.getD s default).stage),I ((r4.getD s default).flow)]) H rfl rfl Sz50 rfl rfl rfl rfl ?_;intro fm H;refine s_nil<|WD.of ?_;refine kg 4 ?_;refine s_val (x_bld (ps:=[(0,.agg #[I stage,I 0]),(1,.agg #[I ((r4.getD s default).stage),I ((r4.getD s default).flow)])]) (zs:=[I 0,I 0,I 0,I 0]) (L':=[I stage,I 0,I ((r4.getD s default).stage),I ((r4.getD s default).flow)]) rfl Tryz.underlying52 Al52 rfl (Bd52 Tryz.underlying52) (.cons (cs:=[I stage,I 0]) rfl rfl rfl rfl rfl<|.cons (cs:=[I ((r4.getD s default).stage),I ((r4.getD s default).flow)]) rfl rfl rfl rfl rfl<|.nil)) ?_;refine kg 2 ?_;refine s_val (x_bld (ps:=[(0,.agg #[I ((r4.getD s default).stage),I ((r4.getD s default).flow)]),(1,.agg #[I stage,I 200000])]) (zs:=[I 0,I 0,I 0,I 0]) (L':=[I ((r4.getD s default).stage),I ((r4.getD s default).flow),I stage,I 200000]) rfl Tryz.underlying52 Al52 rfl (Bd52 Tryz.underlying52) (.cons (cs:=[I ((r4.getD s default).stage),I ((r4.getD s default).flow)]) rfl rfl rfl rfl rfl<|.cons (cs:=[I stage,I 200000]) rfl rfl rfl rfl rfl<|.nil)) ?_;refine t_bs (α:=RLn) T53 [.agg #[I stage,I 0,I ((r4.getD s default).stage),I ((r4.getD s default).flow)],.agg #[I ((r4.getD s default).stage),I ((r4.getD s default).flow),I stage,I 200000]] [(⟨(stage:Int),(0:Int),((r4.getD s default).stage:Int),((r4.getD s default).flow:Int)⟩:RLn),(⟨((r4.getD s default).stage:Int),((r4.getD s default).flow:Int),(stage:Int),(200000:Int)⟩:RLn)] H rfl (.cons rfl (Flat.rep_enc _ (⟨(stage:Int),(0:Int),((r4.getD s default).stage:Int),((r4.getD s default).flow:Int)⟩:RLn))<|.cons rfl (Flat.rep_enc _ (⟨((r4.getD s default).stage:Int),((r4.getD s default).flow:Int),(stage:Int),(200000:Int)⟩:RLn))<|.nil) rfl rfl rfl ?_;intro cU fo H;obtain ⟨fp,hM⟩:=M.e_gd hM;refine t_app (α:=RLn) (k:=3) (l:=l2) (l2:=[(⟨(stage:Int),(0:Int),((r4.getD s default).stage:Int),((r4.getD s default).flow:Int)⟩:RLn),(⟨((r4.getD s default).stage:Int),((r4.getD s default).flow:Int),(stage:Int),(200000:Int)⟩:RLn)]) (l':=l2++([(⟨(stage:Int),(0:Int),((r4.getD s default).stage:Int),((r4.getD s default).flow:Int)⟩:RLn),(⟨((r4.getD s default).stage:Int),((r4.getD s default).flow:Int),(stage:Int),(200000:Int)⟩:RLn)])) (vy:=cU) T53 rfl H rfl rfl rfl (H.os 0) (H.ol 0) (rfl) (by first | omega | (simp only [List.length_nil] at *; omega)) ?_;intro cV fq H;replace H:=H.nf;refine kg 2 ?_;replace H:=H.pk [2,3,4,5,6,7,8,9,10];refine WD.of ?_;refine kg 4 ?_
   exact ⟨cS,cT,l2++([(⟨(stage:Int),(0:Int),((r4.getD s default).stage:Int),((r4.getD s default).flow:Int)⟩:RLn),(⟨((r4.getD s default).stage:Int),((r4.getD s default).flow:Int),(stage:Int),(200000:Int)⟩:RLn)]),s+1,cV,_,upds_of _ _ ⟨rfl,rfl,rfl,rfl,rfl,rfl,rfl,rfl,trivial⟩,M.e_inl hM bV,H⟩
  replace hM:=M.e_f hM aJ
  replace aJ:=dI aJ
  refine WD.of ?_;refine W.exit ?_
  have cW:=M.e_inr hM bV
  subst cW;replace hM:=cQ;(try dsimp only at hM);replace H:=H.pk [1,4,5,6,7,8];refine WD.seq<|WD.of ?_;refine kg 2 ?_;obtain ⟨fu,cX,hM⟩:=M.e_bind hM;refine s_call cf135 [aE] rfl (zd8 aW (Reads.of (k:=2) rfl memLe) bo cX _ (H.gt 6)) ?_
  rintro vq fw ⟨r5,bh,rfl,hvq,ac⟩
  subst vq;(try dsimp only at hM);replace H:=H.bk ac;clear ac;refine kg 2 ?_;refine WD.seq<|WD.seq<|WD.of ?_
  have fy:=((H.os 1)).len_le
  refine kg 5 ?_;refine WD.block ?_;obtain ⟨cY,bt,cZ⟩:=M.e_bind hM
  obtain ⟨bg,bt⟩:=M.e_iter bt
  refine WD.loop (fun m bW σ W=>∃ (l5:List RLn) (s2:Nat) (ap:Value) (ρ:Env),σ=upds ρ [(7,Pq ah),(16,ap),(85,ao),(86,I (l2.length:Int)),(87,I (s2:Int))]/\M.iterN (zay r2 l2) m (l5,s2)=some cY/\St w W [cOwn (α:=RLn) 52 ap l5,cOwn (α:=RLn) 52 ao l2,cBlk ag [aE] 53,cMem I ai aj (zaf ak al),cBlk ah [aa] 177,cOwn (α:=Gg) 59 aa r2,cMk bW] R) ?_ ?_
  ·exact ⟨_,r5,0,bh,_,upds_of _ _ ⟨rfl,rfl,rfl,rfl,rfl,trivial⟩,bt,H⟩
  rintro fA bW σ fB ⟨l5,s2,ap,ρ,rfl,bX,H⟩
  obtain ⟨bY,bZ,fC,hM,bu⟩:=M.e_iterN bX
  simp only [zay] at hM
  clear bX;refine WD.seq<|WD.of ?_;refine kg 3 ?_;refine WD.seq ?_
  refine WD.cond (decide ((s2:Int)<(l2.length:Int))) rfl (fun aK=>?_) (fun aK=>?_)
  ·replace hM:=M.e_t hM aK
   replace aK:=dI aK
   refine WD.of<|W.skip<|WD.seq<|WD.block<|WD.seq<|WD.of ?_;obtain ⟨fD,hM⟩:=M.e_gd hM;refine kg 2 ?_;refine s_val (x_ld (v:=.agg #[I ((l2.getD s2 default).ast),I ((l2.getD s2 default).afl),I ((l2.getD s2 default).bst),I ((l2.getD s2 default).bfl)]) rfl (ld_ag Ag52 Sz52 (At.mono (RLn_atA (H.os 1) (i:=(s2:Int)) (by omega) (by omega)) (H.ol 1)))) ?_;refine t_alloc (cs:=[I 0,I 0,I 0,I 0]) H Al52 rfl ?_;intro cB fE H;refine t_sw 0 0 [I ((l2.getD s2 default).ast),I ((l2.getD s2 default).afl),I ((l2.getD s2 default).bst),I ((l2.getD s2 default).bfl)] (.agg #[I ((l2.getD s2 default).ast),I ((l2.getD s2 default).afl),I ((l2.getD s2 default).bst),I ((l2.getD s2 default).bfl)]) H rfl rfl Sz52 rfl rfl rfl rfl ?_;intro fG H;refine s_nil<|WD.seq<|WD.of ?_;refine kg 2 ?_;obtain ⟨fH,c8,hM⟩:=M.e_bind hM;refine s_call cf32 [.agg #[I ((l2.getD s2 default).ast),I ((l2.getD s2 default).afl),I ((l2.getD s2 default).bst),I ((l2.getD s2 default).bfl)]] rfl (zbO (l2.getD s2 default) c8 _ (H.gt 8)) ?_
   rintro vq fI ⟨r6,rfl,hvq,ac⟩
   subst vq;(try dsimp only at hM);replace H:=H.bk ac;clear ac;refine kg 3 ?_;obtain ⟨r7,c9,hM⟩:=M.e_bind hM;refine t_gcall r6 (gy_t rfl) cf132 (B r7) (fun _=>[aa,.agg #[I ((l2.getD s2 default).ast),I ((l2.getD s2 default).afl),I ((l2.getD s2 default).bst),I ((l2.getD s2 default).bfl)]]) (fun hg=>lst2 (gd_of hg (aa)) (gd_of hg (.agg #[I ((l2.getD s2 default).ast),I ((l2.getD s2 default).afl),I ((l2.getD s2 default).bst),I ((l2.getD s2 default).bfl)]))) H (fun hg=>(zc4 r2 (l2.getD s2 default) (rdo 6) (H.os 6) (M.e_opt c9 hg) _ (H.give (A:=[]) rfl)).mono fun v_ w_ ⟨y_,am,bm,H_⟩=>by subst am; exact ⟨bm,H.via H_⟩) ?_;intro fJ H;refine s_val (x_pand (b:=r6) (r:=r7) rfl (fun hb=>gd_of (c:=r6) (by first | exact hb | (rw [hb]; rfl) | simp_all) (B r7)) rfl)<|s_nil ?_
   refine WD.cond (r6&&r7) rfl (fun bv=>?_) (fun bv=>?_)
   ·replace hM:=M.e_t hM bv;refine WD.of ?_;refine kg 3 ?_;refine t_bs (α:=RLn) T53 [.agg #[I ((l2.getD s2 default).ast),I ((l2.getD s2 default).afl),I ((l2.getD s2 default).bst),I ((l2.getD s2 default).bfl)]] [(l2.getD s2 default)] H rfl (.cons rfl (Flat.rep_enc _ (l2.getD s2 default))<|.nil) rfl rfl rfl ?_;intro da fK H;obtain ⟨fL,hM⟩:=M.e_gd hM;refine t_app (α:=RLn) (k:=2) (l:=l5) (l2:=[(l2.getD s2 default)]) (l':=l5++([(l2.getD s2 default)])) (vy:=da) T53 rfl H rfl rfl rfl (H.os 0) (H.ol 0) (rfl) (by first | omega | (simp only [List.length_nil] at *; omega)) ?_;intro db fM H;replace H:=H.nf;refine kg 2 ?_;replace H:=H.pk [2,3,4,5,6,7,8];refine WD.of ?_;refine kg 4 ?_
    exact ⟨bY,bZ,l5++([(l2.getD s2 default)]),s2+1,db,_,upds_of _ _ ⟨rfl,rfl,rfl,rfl,rfl,trivial⟩,M.e_inl hM bu,H⟩
   replace hM:=M.e_f hM bv;refine WD.of<|W.skip<|WD.of ?_;refine kg 4 ?_
   exact ⟨bY,bZ,l5,s2+1,ap,_,upds_of _ _ ⟨rfl,rfl,rfl,rfl,rfl,trivial⟩,M.e_inl hM bu,(H.pk [1,2,3,4,5,6,7])⟩
  replace hM:=M.e_f hM aK
  replace aK:=dI aK
  refine WD.of ?_;refine W.exit ?_
  have dc:=M.e_inr hM bu
  subst dc;replace hM:=cZ;(try dsimp only at hM);replace H:=H.pk [0,3,6];refine WD.seq<|WD.of ?_;refine kg 4 ?_;refine WD.of ?_;refine W.ret ?_;refine bodyD_r (H.pk [2,0,1]) ?_;intro fN H;replace H:=H.nf
  have am:=M.e_pure hM
  exact ⟨_,resE_tmp rfl,⟨l5,ap,aj,am,rfl,H⟩⟩

def zdq (l:List Gg) (breaks:List Int):M (Int ⊕ Int) :=
  M.bind (zby l) fun r2 =>
  bif r2==0 then (
  M.bind (zbs breaks) fun r3 =>
  bif r3 != 0 then (
  M.pure (.inl r3))
  else (
  M.pure (.inr 0)))
  else (
  bif r2 != 0 then (
  M.pure (.inl r2))
  else (
  M.fail))
theorem ze1 {R:List Chunk} {al:Cells} {aa:Value} {am:Cells} {ac:Value} (l:List Gg) (breaks:List Int) (av:Reads R al) (ao:Sl al aa l) (ax:Reads R am) (ap:Sl am ac breaks) {r:(Int ⊕ Int)} (hM:(zdq l breaks).Ends r) (w:World) (H:St w w [] R):Ret Tryz.prog 67 #[aa,ac] w fun v w'=>(∃ (y0:Int),(.inl y0)=r/\v = .tuple #[.pointer none,I y0]/\St w w' [] R)∨(∃ (y0:Int) (aq:Nat) (au:Nat) (ay:Base),(.inr y0)=r/\v = .tuple #[Pq aq,I y0]/\St w w' [cBlk aq [aa,ac,.map (some au)] 182,cMem I au ay (zaf l breaks)] R):=by
 refine ret_of_W Tryz.func67 rfl rfl rfl ?_;refine kg 8 ?_;obtain ⟨aD,az,hM⟩:=M.e_bind hM;refine s_call cf35 [aa] rfl (zd2 l (av.app _) ao az _ (H.gt 0)) ?_
 rintro vq aE ⟨r2,rfl,hvq,ah⟩
 subst vq;(try dsimp only at hM);replace H:=H.bk ah;clear ah;refine kg 8 ?_
 refine W.cond (r2==0) rfl (fun ae=>?_) (fun ae=>?_)
 ·replace hM:=M.e_t hM ae
  replace ae:=dI ae
  refine kg 2 ?_;obtain ⟨aF,aA,hM⟩:=M.e_bind hM;refine s_call cf64 [ac] rfl (zd3 breaks (ax.app _) ap aA _ (H.gt 0)) ?_
  rintro vq aG ⟨r3,rfl,hvq,ah⟩
  subst vq;(try dsimp only at hM);replace H:=H.bk ah;clear ah;refine kg 8 ?_
  refine W.cond (r3 != 0) rfl (fun ag=>?_) (fun ag=>?_)
  ·replace hM:=M.e_t hM ag
   replace ag:=dI ag
   refine kg 6 ?_;refine W.ret ?_
   have ai:=M.e_pure hM
   exact ⟨_,resE_tmp2 rfl,.inl (⟨r3,ai,rfl,H⟩)⟩
  replace hM:=M.e_f hM ag
  replace ag:=dI ag
  refine kg 5 ?_;refine s_val (x_bld (ps:=[(0,aa),(1,ac)]) (zs:=[.slice none 0 0,.slice none 0 0]) (L':=[aa,ac]) rfl Tryz.underlying179 Al179 rfl (Bd179 Tryz.underlying179) (.cons (cs:=[aa]) (Sl.cells ao) rfl rfl rfl rfl<|.cons (cs:=[ac]) (Sl.cells ap) rfl rfl rfl rfl<|.nil)) ?_;refine t_mkmem I (zaf l breaks) H ?_;intro aj aB aH H;refine s_val (x_bld (ps:=[(0,.agg #[aa,ac]),(1,.map (some aj))]) (zs:=[.slice none 0 0,.slice none 0 0,.map none]) (L':=[aa,ac,.map (some aj)]) rfl Tryz.underlying182 Al182 rfl (Bd182 Tryz.underlying182) (.cons (cs:=[aa,ac]) rfl rfl rfl rfl rfl<|.cons (cs:=[.map (some aj)]) rfl rfl rfl rfl rfl<|.nil)) ?_;refine t_bx [aa,ac,.map (some aj)] H rfl ?_;intro aC aI H;refine kg 3 ?_;refine W.ret ?_
  have ai:=M.e_pure hM
  exact ⟨_,resE_tmp2 rfl,.inr (⟨0,aC,aj,aB,ai,rfl,H⟩)⟩
 replace hM:=M.e_f hM ae
 replace ae:=dI ae
 refine kg 7 ?_
 refine W.cond (r2 != 0) rfl (fun ak=>?_) (fun ak=>?_)
 ·replace hM:=M.e_t hM ak
  replace ak:=dI ak
  refine kg 6 ?_;refine W.ret ?_
  have ai:=M.e_pure hM
  exact ⟨_,resE_tmp2 rfl,.inl (⟨r2,ai,rfl,H⟩)⟩
 replace hM:=M.e_f hM ak
 exact (M.e_fail hM).elim

def zc5 (l:List Gg) (breaks:List Int) (stage:Int):M (Int ⊕ Int) :=
  M.bind (zdq l breaks) fun x_=>match x_ with
  | (.inl r1)=>(
  M.bind (M.opt (r1==0) (zah stage 0 2000) false) fun r2 =>
  bif ((r1==0)&&(!r2)) then (
  M.pure (.inl 4))
  else (
  M.pure (.inl r1)))
  | (.inr aa)=>(
  M.bind (M.opt (aa==0) (zah stage 0 2000) false) fun r2 =>
  bif ((aa==0)&&(!r2)) then (
  M.pure (.inr 4))
  else (
  M.pure (.inr aa)))
theorem zeL {R:List Chunk} {al:Cells} {ag:Value} {am:Cells} {ah:Value} (l:List Gg) (breaks:List Int) (stage:Int) (ax:Reads R al) (ay:Sl al ag l) (az:Reads R am) (aA:Sl am ah breaks) {r:(Int ⊕ Int)} (hM:(zc5 l breaks stage).Ends r) (w:World) (H:St w w [] R):Ret Tryz.prog 39 #[ag,ah,I stage] w fun v w'=>(∃ (y0:Int),(.inl y0)=r/\v = .tuple #[.pointer none,I y0]/\St w w' [] R)∨(∃ (y0:Int) (ao:Nat) (ap:Nat) (aB:Base),(.inr y0)=r/\v = .tuple #[Pq ao,I y0]/\St w w' [cBlk ao [ag,ah,.map (some ap)] 182,cMem I ap aB (zaf l breaks)] R):=by
 refine ret_of_W Tryz.func39 rfl rfl rfl ?_;refine kg 9 ?_;obtain ⟨aH,aC,hM⟩:=M.e_bind hM;refine s_call cf67 [ag,ah] rfl (ze1 l breaks (ax.app _) ay (az.app _) aA aC _ (H.gt 0)) ?_
 rintro vq aI (⟨r1,aD,hvq,ac⟩ | ⟨ae,aq,au,av,aE,hvq,ac⟩)
 ·subst aD;subst vq;(try dsimp only at hM);replace H:=H.bk ac;clear ac;refine kg 13 ?_;obtain ⟨r2,aF,hM⟩:=M.e_bind hM;refine t_gcall (r1==0) (gy_t rfl) cf33 (B r2) (fun _=>[I stage,I 0,I 2000]) (fun hg=>lst3 (gd_of hg (I stage)) rfl rfl) H (fun hg=>(zak stage 0 2000 (M.e_opt aF hg) _ (H.give (A:=[]) rfl)).mono fun v_ w_ ⟨y_,aa,ai,H_⟩=>by subst aa; exact ⟨ai,H.via H_⟩) ?_;intro aJ H;refine kg 1 ?_;refine s_val (x_pand (b:=r1==0) (r:=!r2) rfl (fun hb=>gd_of (c:=r1==0) (by first | exact hb | (rw [hb]; rfl) | simp_all) (B (!r2))) rfl)<|s_nil ?_
  refine W.cond ((r1==0)&&(!r2)) rfl (fun aj=>?_) (fun aj=>?_)
  ·replace hM:=M.e_t hM aj;refine kg 10 ?_;refine W.ret ?_
   have aa:=M.e_pure hM
   exact ⟨_,resE_tmp2 rfl,.inl (⟨4,aa,rfl,H⟩)⟩
  replace hM:=M.e_f hM aj;refine kg 8 ?_;refine W.ret ?_
  have aa:=M.e_pure hM
  exact ⟨_,resE_tmp2 rfl,.inl (⟨r1,aa,rfl,H⟩)⟩
 subst aE;subst vq;(try dsimp only at hM);replace H:=H.bk ac;clear ac;refine kg 13 ?_;obtain ⟨r2,aG,hM⟩:=M.e_bind hM;refine t_gcall (ae==0) (gy_t rfl) cf33 (B r2) (fun _=>[I stage,I 0,I 2000]) (fun hg=>lst3 (gd_of hg (I stage)) rfl rfl) H (fun hg=>(zak stage 0 2000 (M.e_opt aG hg) _ (H.give (A:=[]) rfl)).mono fun v_ w_ ⟨y_,aa,ai,H_⟩=>by subst aa; exact ⟨ai,H.via H_⟩) ?_;intro aK H;refine kg 1 ?_;refine s_val (x_pand (b:=ae==0) (r:=!r2) rfl (fun hb=>gd_of (c:=ae==0) (by first | exact hb | (rw [hb]; rfl) | simp_all) (B (!r2))) rfl)<|s_nil ?_
 refine W.cond ((ae==0)&&(!r2)) rfl (fun ak=>?_) (fun ak=>?_)
 ·replace hM:=M.e_t hM ak;refine kg 10 ?_;refine W.ret ?_
  have aa:=M.e_pure hM
  exact ⟨_,resE_tmp2 rfl,.inr (⟨4,aq,au,av,aa,rfl,H⟩)⟩
 replace hM:=M.e_f hM ak;refine kg 8 ?_;refine W.ret ?_
 have aa:=M.e_pure hM
 exact ⟨_,resE_tmp2 rfl,.inr (⟨ae,aq,au,av,aa,rfl,H⟩)⟩

def zan (x2:RLn) (stage:Int):M (Int × Int) :=
  M.bind (zbM x2 stage) fun (r0,r1) =>
  M.pure (r0,r1)
theorem zaI {R:List Chunk}  (x2:RLn) (stage:Int)  {r:(Int × Int)} (hM:(zan x2 stage).Ends r) (w:World) (H:St w w [] R):Ret Tryz.prog 41 #[.iface 52 (.agg #[I x2.ast,I x2.afl,I x2.bst,I x2.bfl]),I stage] w fun v w'=>∃ (y0:Int) (y1:Int),(y0,y1)=r/\v = .agg #[I y0,I y1]/\St w w' [] R:=by
 refine ret_of_W Tryz.func41 rfl rfl rfl ?_;refine kg 2 ?_;refine t_alloc (cs:=[I 0,I 0]) H Al61 rfl ?_;intro ah ai H;refine kg 5 ?_;obtain ⟨aj,ac,hM⟩:=M.e_bind hM;refine s_calli (t:=52) (v:=.agg #[I x2.ast,I x2.afl,I x2.bst,I x2.bfl]) (f:=163) rfl Mi52_flow cf163 [I stage] rfl (zdN x2 stage ac _ (H.gt 1)) ?_
 rintro vq ak ⟨r0,r1,rfl,hvq,aa⟩
 subst vq;(try dsimp only at hM);replace H:=H.bk aa;clear aa;refine t_sw 0 0 [I r0,I r1] (.agg #[I r0,I r1]) H rfl rfl Sz61 rfl rfl rfl rfl ?_;intro al H;refine s_nil ?_;refine W.ret ?_
 have ae:=(H.bl 0)
 have ag:=M.e_pure hM
 exact ⟨_,(resE_of1 (v:=.agg #[I r0,I r1]) rfl (.cell (v:=.agg #[I r0,I r1]) rfl (run_loadVar_ag (ds:=[I r0,I r1]) Ag61 Sz61 ae rfl rfl)<|.nil)),⟨r0,r1,ag,rfl,(H.pk [])⟩⟩

def zbv (a b:Rto):M Int :=
  M.grd (decide ((-9223372036854775808:Int)<=(a.num*b.den))&&decide ((a.num*b.den)<=(9223372036854775807:Int))) <|
  M.grd (decide ((-9223372036854775808:Int)<=(b.num*a.den))&&decide ((b.num*a.den)<=(9223372036854775807:Int))) <|
  M.bind (m_cmp_Compare_int (a.num*b.den) (b.num*a.den)) fun r2 =>
  M.pure r2
theorem zdL {R:List Chunk}  (a:Rto) (b:Rto)  {r:Int} (hM:(zbv a b).Ends r) (w:World) (H:St w w [] R):Ret Tryz.prog 104 #[.agg #[I a.num,I a.den],.agg #[I b.num,I b.den]] w fun v w'=>∃ (y0:Int),y0=r/\v=I y0/\St w w' [] R:=by
 refine ret_of_W Tryz.func104 rfl rfl rfl ?_;refine kg 2 ?_;refine t_bx [I a.num,I a.den] H rfl ?_;intro ag ah H;refine t_bx [I b.num,I b.den] H rfl ?_;intro ai aj H;obtain ⟨ak,hM⟩:=M.e_gd hM;obtain ⟨al,hM⟩:=M.e_gd hM;refine kg 14 ?_;obtain ⟨am,ac,hM⟩:=M.e_bind hM;refine s_call cf81 [I (a.num*b.den),I (b.num*a.den)] rfl (cmp_Compare_int_ok (a.num*b.den) (b.num*a.den) ac _ (H.gt 2)) ?_
 rintro vq ao ⟨r2,rfl,hvq,aa⟩
 subst vq;(try dsimp only at hM);replace H:=H.bk aa;clear aa;refine kg 2 ?_;replace H:=H.pk [];refine W.ret ?_
 have ae:=M.e_pure hM
 exact ⟨_,resE_tmp rfl,⟨r2,ae,rfl,H⟩⟩

def zci (a b:Rto):M Bool :=
  M.bind (zbv a b) fun r2 =>
  M.pure (decide (r2<0))
theorem zeQ {R:List Chunk}  (a:Rto) (b:Rto)  {r:Bool} (hM:(zci a b).Ends r) (w:World) (H:St w w [] R):Ret Tryz.prog 103 #[.agg #[I a.num,I a.den],.agg #[I b.num,I b.den]] w fun v w'=>∃ (y0:Bool),y0=r/\v=B y0/\St w w' [] R:=by
 refine ret_of_W Tryz.func103 rfl rfl rfl ?_;refine kg 2 ?_;refine t_bx [I a.num,I a.den] H rfl ?_;intro ag ah H;refine t_bx [I b.num,I b.den] H rfl ?_;intro ai aj H;refine kg 6 ?_;obtain ⟨ak,ac,hM⟩:=M.e_bind hM;refine s_call cf104 [.agg #[I a.num,I a.den],.agg #[I b.num,I b.den]] rfl (zdL a b ac _ (H.gt 2)) ?_
 rintro vq al ⟨r2,rfl,hvq,aa⟩
 subst vq;(try dsimp only at hM);replace H:=H.bk aa;clear aa;refine kg 3 ?_;replace H:=H.pk [];refine W.ret ?_
 have ae:=M.e_pure hM
 exact ⟨_,resE_tmp rfl,⟨(decide (r2<0)),ae,rfl,H⟩⟩

def zbi (stage:Int) (r3:List RLn):(Nat × Int × Int × Int × Int)->M ((Nat × Int × Int × Int × Int) ⊕ (Int × Int × Int × Int)):=fun (s,s2,s3,s4,s5) =>
  bif decide ((s:Int)<(r3.length:Int)) then (
  M.grd (decide ((s:Int)<(r3.length:Int))) <|
  M.bind (zan (r3.getD s default) stage) fun (r0,r1) =>
  M.bind (zan (⟨(s2:Int),(s3:Int),(s4:Int),(s5:Int)⟩:RLn) stage) fun (aa,ac) =>
  M.bind (zci (⟨(r0:Int),(r1:Int)⟩:Rto) (⟨(aa:Int),(ac:Int)⟩:Rto)) fun r4 =>
  bif r4 then (
  M.pure (.inl (s+1,(r3.getD s default).ast,(r3.getD s default).afl,(r3.getD s default).bst,(r3.getD s default).bfl)))
  else (
  M.pure (.inl (s+1,s2,s3,s4,s5))))
  else (
  M.pure (.inr (s2,s3,s4,s5)))
def zcd (ac:List Gg) (aa:List Int) (stage:Int):M (Int × Int × Int × Int × Bool) :=
  M.bind (zaq aa stage) fun r2 =>
  M.bind (zaC ac aa r2 stage) fun r3 =>
  bif (r3.length:Int)==0 then (
  M.pure (0,0,0,0,false))
  else (
  M.grd (decide (0<(r3.length:Int))) <|
  M.bind (M.iter (zbi stage r3) (0,(r3.getD 0 default).ast,(r3.getD 0 default).afl,(r3.getD 0 default).bst,(r3.getD 0 default).bfl)) fun (s6,s7,s8,s9) =>
  M.pure (s6,s7,s8,s9,true))
theorem ze7 {R:List Chunk} {ak:Nat} {az:Cells} {aA:Value} {aB:Cells} {al:Value} {ai:Nat} {aK:Base} (ae:List Gg) (ac:List Int) (stage:Int) (aL:Reads R az) (aM:Sl az aA ae) (aC:Reads R aB) (aD:Sl aB al ac) (aN:Has R (cBlk ak [aA,al,.map (some ai)] 182)) {r:(Int × Int × Int × Int × Bool)} (hM:(zcd ae ac stage).Ends r) (w:World) (H:St w w [cMem I ai aK (zaf ae ac)] R):Ret Tryz.prog 68 #[Pq ak,I stage,.agg #[.func (.func 103) #[] #[]]] w fun v w'=>∃ (y0:Int) (y1:Int) (y2:Int) (y3:Int) (y4:Bool) (aO:Base),(y0,y1,y2,y3,y4)=r/\v = .tuple #[.agg #[I y0,I y1,I y2,I y3],B y4]/\St w w' [cMem I ai aO (zaf ae ac)] R:=by
 refine ret_of_W Tryz.func68 rfl rfl rfl ?_;refine kg 2 ?_;refine t_bx [.func (.func 103) #[] #[]] H rfl ?_;intro am a7 H;refine t_alloc (cs:=[I 0,I 0,I 0,I 0]) H Al52 rfl ?_;intro ao a8 H;refine kg 11 ?_;obtain ⟨ba,aP,hM⟩:=M.e_bind hM;refine s_call cf37 [al,I stage] rfl (zaR ac stage (aC.app _) aD aP _ (H.gt 3)) ?_
 rintro vq bb ⟨r2,rfl,hvq,aa⟩
 subst vq;(try dsimp only at hM);replace H:=H.bk aa;clear aa;refine kg 1 ?_;obtain ⟨bc,aQ,hM⟩:=M.e_bind hM;refine s_call cf102 [Pq ak,I r2,I stage] rfl (zdJ ae ac r2 stage (aL.app _) aM (aC.app _) aD (aN.app _) aQ _ ((H.pk [2,0,1]).gt 2)) ?_
 rintro vq bf ⟨r3,ap,aj,rfl,hvq,aa⟩
 subst vq;(try dsimp only at hM)
 replace H:=H.pk [2,0,1] |>.bk aa
 clear aa
 have bg:=((H.os 0)).len_le
 refine kg 9 ?_
 refine W.cond ((r3.length:Int)==0) rfl (fun ag=>?_) (fun ag=>?_)
 ·replace hM:=M.e_t hM ag
  replace ag:=dI ag
  refine kg 2 ?_;refine s_val (x_bld (ps:=[]) (zs:=[I 0,I 0,I 0,I 0]) (L':=[I 0,I 0,I 0,I 0]) rfl Tryz.underlying52 Al52 rfl (Bd52 Tryz.underlying52) (.nil)) ?_;refine t_sw 2 0 [I 0,I 0,I 0,I 0] (.agg #[I 0,I 0,I 0,I 0]) H rfl rfl Sz52 rfl rfl rfl rfl ?_;intro bh H;refine kg 2 ?_;replace H:=H.pk [1,2];refine W.ret ?_
  have aR:=(H.bl 1)
  have aq:=M.e_pure hM
  exact ⟨_,(resE_ofn (vs:=[.agg #[I 0,I 0,I 0,I 0],B false]) rfl rfl (.cell (v:=.agg #[I 0,I 0,I 0,I 0]) rfl (run_loadVar_ag (ds:=[I 0,I 0,I 0,I 0]) Ag52 Sz52 aR rfl rfl)<|.tmp (v:=B false) rfl<|.nil)),⟨0,0,0,0,false,aj,aq,rfl,(H.pk [0])⟩⟩
 replace hM:=M.e_f hM ag
 replace ag:=dI ag
 obtain ⟨bi,hM⟩:=M.e_gd hM;refine kg 5 ?_;refine s_val (x_ld (v:=.agg #[I ((r3.getD 0 default).ast),I ((r3.getD 0 default).afl),I ((r3.getD 0 default).bst),I ((r3.getD 0 default).bfl)]) rfl (ld_ag Ag52 Sz52 (At.mono (RLn_atA (H.os 0) (i:=0) (by omega) (by omega)) (H.ol 0)))) ?_;refine t_alloc (cs:=[I 0,I 0,I 0,I 0]) H Al52 rfl ?_;intro au bj H;refine t_sw 0 0 [I ((r3.getD 0 default).ast),I ((r3.getD 0 default).afl),I ((r3.getD 0 default).bst),I ((r3.getD 0 default).bfl)] (.agg #[I ((r3.getD 0 default).ast),I ((r3.getD 0 default).afl),I ((r3.getD 0 default).bst),I ((r3.getD 0 default).bfl)]) H rfl rfl Sz52 rfl rfl rfl rfl ?_;intro bm H
 have bn:=((H.os 1)).len_le
 refine kg 9 ?_;obtain ⟨aS,av,aT⟩:=M.e_bind hM
 obtain ⟨bo,av⟩:=M.e_iter av
 refine W.loop (fun m σ W=>∃ (s:Nat) (s2:Int) (s3:Int) (s4:Int) (s5:Int) (ρ:Env),σ=upds ρ [(1,I stage),(5,Pq am),(6,Pq ao),(9,Pq au),(29,ap),(30,I (r3.length:Int)),(31,I (s:Int))]/\M.iterN (zbi stage r3) m (s,s2,s3,s4,s5)=some aS/\St w W [cBlk au [I s2,I s3,I s4,I s5] 52,cOwn (α:=RLn) 52 ap r3,cMem I ai aj (zaf ae ac),cBlk ao [I 0,I 0,I 0,I 0] 52,cBlk am [.func (.func 103) #[] #[]] 154] R) ?_ ?_
 ·exact ⟨_,0,(r3.getD 0 default).ast,(r3.getD 0 default).afl,(r3.getD 0 default).bst,(r3.getD 0 default).bfl,_,upds_of _ _ ⟨rfl,rfl,rfl,rfl,rfl,rfl,rfl,trivial⟩,av,H⟩
 rintro bp σ br ⟨s,s2,s3,s4,s5,ρ,rfl,aE,H⟩
 obtain ⟨aF,aG,bt,hM,ax⟩:=M.e_iterN aE
 simp only [zbi] at hM
 clear aE;refine kg 5 ?_
 refine W.cond (decide ((s:Int)<(r3.length:Int))) rfl (fun ah=>?_) (fun ah=>?_)
 ·replace hM:=M.e_t hM ah
  replace ah:=dI ah
  obtain ⟨bu,hM⟩:=M.e_gd hM;refine kg 6 ?_;refine s_val (x_ld (v:=.agg #[I ((r3.getD s default).ast),I ((r3.getD s default).afl),I ((r3.getD s default).bst),I ((r3.getD s default).bfl)]) rfl (ld_ag Ag52 Sz52 (At.mono (RLn_atA (H.os 1) (i:=(s:Int)) (by omega) (by omega)) (H.ol 1)))) ?_;refine t_alloc (cs:=[I 0,I 0,I 0,I 0]) H Al52 rfl ?_;intro aU bv H;refine t_sw 0 0 [I ((r3.getD s default).ast),I ((r3.getD s default).afl),I ((r3.getD s default).bst),I ((r3.getD s default).bfl)] (.agg #[I ((r3.getD s default).ast),I ((r3.getD s default).afl),I ((r3.getD s default).bst),I ((r3.getD s default).bfl)]) H rfl rfl Sz52 rfl rfl rfl rfl ?_;intro bw H;refine kg 2 ?_;refine W.draw (fun W=>St w W [cBlk aU [I ((r3.getD s default).ast),I ((r3.getD s default).afl),I ((r3.getD s default).bst),I ((r3.getD s default).bfl)] 52,cBlk au [I s2,I s3,I s4,I s5] 52,cOwn (α:=RLn) 52 ap r3,cMem I ai aj (zaf ae ac),cBlk ao [I 0,I 0,I 0,I 0] 52,cBlk am [.func (.func 103) #[] #[]] 154] R) [(0,true),(1,true),(2,true),(3,true),(4,true),(6,true),(7,true),(8,true),(5,false),(9,false),(10,false)] mixed (by decide +kernel) rfl ?_;intro bx aH;replace H:=H.ext aH;clear aH
  refine ⟨(H.pk [0,1,2,3,4,5]),?_⟩
  refine kg 3 ?_;refine d_q rfl (fun w' H=>x_mi (v:=.agg #[I ((r3.getD s default).ast),I ((r3.getD s default).afl),I ((r3.getD s default).bst),I ((r3.getD s default).bfl)]) Tryz.underlying52 (by intro m h_; cases h_) rfl) ?_;refine kg 2 ?_;refine d_q rfl (fun w' H=>x_mi (v:=.agg #[I s2,I s3,I s4,I s5]) Tryz.underlying52 (by intro m h_; cases h_) rfl) ?_;refine kg 1 ?_;refine d_l rfl ?_;obtain ⟨bz,aV,hM⟩:=M.e_bind hM;refine s_call cf41 [.iface 52 (.agg #[I ((r3.getD s default).ast),I ((r3.getD s default).afl),I ((r3.getD s default).bst),I ((r3.getD s default).bfl)]),I stage] rfl (zaI (r3.getD s default) stage aV _ (H.gt 6)) ?_
  rintro vq bA ⟨r0,r1,rfl,hvq,aa⟩
  subst vq;(try dsimp only at hM);replace H:=H.bk aa;clear aa
  refine s_nil ⟨(H.pk [0,1,2,3,4,5]),?_⟩
  refine d_l rfl ?_;obtain ⟨bB,aW,hM⟩:=M.e_bind hM;refine s_call cf41 [.iface 52 (.agg #[I s2,I s3,I s4,I s5]),I stage] rfl (zaI (⟨(s2:Int),(s3:Int),(s4:Int),(s5:Int)⟩:RLn) stage aW _ (H.gt 6)) ?_
  rintro vq bC ⟨aI,aJ,rfl,hvq,aa⟩
  subst vq;(try dsimp only at hM);replace H:=H.bk aa;clear aa
  refine s_nil ⟨(H.pk [0,1,2,3,4,5]),?_⟩
  refine d_l rfl ?_;obtain ⟨bD,aX,hM⟩:=M.e_bind hM;refine s_callv (f:=103) rfl cf103 [.agg #[I r0,I r1],.agg #[I aI,I aJ]] rfl (zeQ (⟨(r0:Int),(r1:Int)⟩:Rto) (⟨(aI:Int),(aJ:Int)⟩:Rto) aX _ (H.gt 6)) ?_
  rintro vq bE ⟨r4,rfl,hvq,aa⟩
  subst vq;(try dsimp only at hM);replace H:=H.bk aa;clear aa
  refine s_nil ⟨(H.pk [0,1,2,3,4,5]),?_⟩
  refine d_nil ?_
  refine W.cond r4 rfl (fun ay=>?_) (fun ay=>?_)
  ·replace hM:=M.e_t hM ay;refine kg 2 ?_;refine t_sw 1 0 [I ((r3.getD s default).ast),I ((r3.getD s default).afl),I ((r3.getD s default).bst),I ((r3.getD s default).bfl)] (.agg #[I ((r3.getD s default).ast),I ((r3.getD s default).afl),I ((r3.getD s default).bst),I ((r3.getD s default).bfl)]) H rfl rfl Sz52 rfl rfl rfl rfl ?_;intro bF H;refine kg 5 ?_
   exact ⟨aF,aG,s+1,(r3.getD s default).ast,(r3.getD s default).afl,(r3.getD s default).bst,(r3.getD s default).bfl,_,upds_of _ _ ⟨rfl,rfl,rfl,rfl,rfl,rfl,rfl,trivial⟩,M.e_inl hM ax,(H.pk [1,2,3,4,5])⟩
  replace hM:=M.e_f hM ay;refine kg 5 ?_
  exact ⟨aF,aG,s+1,s2,s3,s4,s5,_,upds_of _ _ ⟨rfl,rfl,rfl,rfl,rfl,rfl,rfl,trivial⟩,M.e_inl hM ax,(H.pk [1,2,3,4,5])⟩
 replace hM:=M.e_f hM ah
 replace ah:=dI ah
 refine W.exit ?_
 have aY:=M.e_inr hM ax
 subst aY;replace hM:=aT;(try dsimp only at hM);replace H:=H.pk [0,2,3];refine kg 3 ?_;refine t_sw 2 0 [I s2,I s3,I s4,I s5] (.agg #[I s2,I s3,I s4,I s5]) H rfl rfl Sz52 rfl rfl rfl rfl ?_;intro bG H;refine kg 2 ?_;refine W.ret ?_
 have aZ:=(H.bl 2)
 have aq:=M.e_pure hM
 exact ⟨_,(resE_ofn (vs:=[.agg #[I s2,I s3,I s4,I s5],B true]) rfl rfl (.cell (v:=.agg #[I s2,I s3,I s4,I s5]) rfl (run_loadVar_ag (ds:=[I s2,I s3,I s4,I s5]) Ag52 Sz52 aZ rfl rfl)<|.tmp (v:=B true) rfl<|.nil)),⟨s2,s3,s4,s5,true,aj,aq,rfl,(H.pk [1])⟩⟩

def zdH  : M Unit :=
  M.pure ()
theorem ze5 {R:List Chunk}    {r:Unit} (hM:(zdH).Ends r) (w:World) (H:St w w [] R):Ret Tryz.prog 70 #[] w fun v w'=>()=r/\v = .agg #[.func (.func 105) #[] #[]]/\St w w' [] R:=by
 refine ret_of_W Tryz.func70 rfl rfl rfl ?_;refine kg 2 ?_;refine t_alloc (cs:=[.nilFunc]) H Al154 rfl ?_;intro ae ag H;refine kg 3 ?_;refine s_val (x_bld (ps:=[(0,.func (.func 105) #[] #[])]) (zs:=[.nilFunc]) (L':=[.func (.func 105) #[] #[]]) rfl Tryz.underlying154 Al154 rfl (Bd154 Tryz.underlying154) (.cons (cs:=[.func (.func 105) #[] #[]]) rfl rfl rfl rfl rfl<|.nil)) ?_;refine t_sw 0 0 [.func (.func 105) #[] #[]] (.agg #[.func (.func 105) #[] #[]]) H rfl rfl Sz154 rfl rfl rfl rfl ?_;intro ah H;refine s_nil ?_;refine W.ret ?_
 have aa:=(H.bl 0)
 have ac:=M.e_pure hM
 exact ⟨_,(resE_of1 (v:=.agg #[.func (.func 105) #[] #[]]) rfl (.cell (v:=.agg #[.func (.func 105) #[] #[]]) rfl (run_loadVar_ag (ds:=[.func (.func 105) #[] #[]]) Ag154 Sz154 aa rfl rfl)<|.nil)),⟨ac,rfl,(H.pk [])⟩⟩

def zcn (a b:Rto):M Bool :=
  M.bind (zbv a b) fun r2 =>
  M.pure (decide (0<r2))
theorem zeF {R:List Chunk}  (a:Rto) (b:Rto)  {r:Bool} (hM:(zcn a b).Ends r) (w:World) (H:St w w [] R):Ret Tryz.prog 105 #[.agg #[I a.num,I a.den],.agg #[I b.num,I b.den]] w fun v w'=>∃ (y0:Bool),y0=r/\v=B y0/\St w w' [] R:=by
 refine ret_of_W Tryz.func105 rfl rfl rfl ?_;refine kg 2 ?_;refine t_bx [I a.num,I a.den] H rfl ?_;intro ag ah H;refine t_bx [I b.num,I b.den] H rfl ?_;intro ai aj H;refine kg 6 ?_;obtain ⟨ak,ac,hM⟩:=M.e_bind hM;refine s_call cf104 [.agg #[I a.num,I a.den],.agg #[I b.num,I b.den]] rfl (zdL a b ac _ (H.gt 2)) ?_
 rintro vq al ⟨r2,rfl,hvq,aa⟩
 subst vq;(try dsimp only at hM);replace H:=H.bk aa;clear aa;refine kg 3 ?_;replace H:=H.pk [];refine W.ret ?_
 have ae:=M.e_pure hM
 exact ⟨_,resE_tmp rfl,⟨(decide (0<r2)),ae,rfl,H⟩⟩

end Go.Proofs.YtnncijcapdnlgaaGreat
end
section
set_option maxRecDepth 100000
set_option maxHeartbeats 16000000
namespace Go.Proofs.YtnncijcapdnlgaaGreat
open Go Go.Nm
attribute [local irreducible] gd execOp SL SLD SLT WR
def za7 (stage:Int) (r3:List RLn):(Nat × Int × Int × Int × Int)->M ((Nat × Int × Int × Int × Int) ⊕ (Int × Int × Int × Int)):=fun (s,s2,s3,s4,s5) =>
  bif decide ((s:Int)<(r3.length:Int)) then (
  M.grd (decide ((s:Int)<(r3.length:Int))) <|
  M.bind (zan (r3.getD s default) stage) fun (r0,r1) =>
  M.bind (zan (⟨(s2:Int),(s3:Int),(s4:Int),(s5:Int)⟩:RLn) stage) fun (aa,ac) =>
  M.bind (zcn (⟨(r0:Int),(r1:Int)⟩:Rto) (⟨(aa:Int),(ac:Int)⟩:Rto)) fun r4 =>
  bif r4 then (
  M.pure (.inl (s+1,(r3.getD s default).ast,(r3.getD s default).afl,(r3.getD s default).bst,(r3.getD s default).bfl)))
  else (
  M.pure (.inl (s+1,s2,s3,s4,s5))))
  else (
  M.pure (.inr (s2,s3,s4,s5)))
def zcB (ac:List Gg) (aa:List Int) (stage:Int):M (Int × Int × Int × Int × Bool) :=
  M.bind (zaq aa stage) fun r2 =>
  M.bind (zaC ac aa r2 stage) fun r3 =>
  bif (r3.length:Int)==0 then (
  M.pure (0,0,0,0,false))
  else (
  M.grd (decide (0<(r3.length:Int))) <|
  M.bind (M.iter (za7 stage r3) (0,(r3.getD 0 default).ast,(r3.getD 0 default).afl,(r3.getD 0 default).bst,(r3.getD 0 default).bfl)) fun (s6,s7,s8,s9) =>
  M.pure (s6,s7,s8,s9,true))
theorem zei {R:List Chunk} {ak:Nat} {az:Cells} {aA:Value} {aB:Cells} {al:Value} {ai:Nat} {aK:Base} (ae:List Gg) (ac:List Int) (stage:Int) (aL:Reads R az) (aM:Sl az aA ae) (aC:Reads R aB) (aD:Sl aB al ac) (aN:Has R (cBlk ak [aA,al,.map (some ai)] 182)) {r:(Int × Int × Int × Int × Bool)} (hM:(zcB ae ac stage).Ends r) (w:World) (H:St w w [cMem I ai aK (zaf ae ac)] R):Ret Tryz.prog 68 #[Pq ak,I stage,.agg #[.func (.func 105) #[] #[]]] w fun v w'=>∃ (y0:Int) (y1:Int) (y2:Int) (y3:Int) (y4:Bool) (aO:Base),(y0,y1,y2,y3,y4)=r/\v = .tuple #[.agg #[I y0,I y1,I y2,I y3],B y4]/\St w w' [cMem I ai aO (zaf ae ac)] R:=by
 refine ret_of_W Tryz.func68 rfl rfl rfl ?_;refine kg 2 ?_;refine t_bx [.func (.func 105) #[] #[]] H rfl ?_;intro am a7 H;refine t_alloc (cs:=[I 0,I 0,I 0,I 0]) H Al52 rfl ?_;intro ao a8 H;refine kg 11 ?_;obtain ⟨ba,aP,hM⟩:=M.e_bind hM;refine s_call cf37 [al,I stage] rfl (zaR ac stage (aC.app _) aD aP _ (H.gt 3)) ?_
 rintro vq bb ⟨r2,rfl,hvq,aa⟩
 subst vq;(try dsimp only at hM);replace H:=H.bk aa;clear aa;refine kg 1 ?_;obtain ⟨bc,aQ,hM⟩:=M.e_bind hM;refine s_call cf102 [Pq ak,I r2,I stage] rfl (zdJ ae ac r2 stage (aL.app _) aM (aC.app _) aD (aN.app _) aQ _ ((H.pk [2,0,1]).gt 2)) ?_
 rintro vq bf ⟨r3,ap,aj,rfl,hvq,aa⟩
 subst vq;(try dsimp only at hM)
 replace H:=H.pk [2,0,1] |>.bk aa
 clear aa
 have bg:=((H.os 0)).len_le
 refine kg 9 ?_
 refine W.cond ((r3.length:Int)==0) rfl (fun ag=>?_) (fun ag=>?_)
 ·replace hM:=M.e_t hM ag
  replace ag:=dI ag
  refine kg 2 ?_;refine s_val (x_bld (ps:=[]) (zs:=[I 0,I 0,I 0,I 0]) (L':=[I 0,I 0,I 0,I 0]) rfl Tryz.underlying52 Al52 rfl (Bd52 Tryz.underlying52) (.nil)) ?_;refine t_sw 2 0 [I 0,I 0,I 0,I 0] (.agg #[I 0,I 0,I 0,I 0]) H rfl rfl Sz52 rfl rfl rfl rfl ?_;intro bh H;refine kg 2 ?_;replace H:=H.pk [1,2];refine W.ret ?_
  have aR:=(H.bl 1)
  have aq:=M.e_pure hM
  exact ⟨_,(resE_ofn (vs:=[.agg #[I 0,I 0,I 0,I 0],B false]) rfl rfl (.cell (v:=.agg #[I 0,I 0,I 0,I 0]) rfl (run_loadVar_ag (ds:=[I 0,I 0,I 0,I 0]) Ag52 Sz52 aR rfl rfl)<|.tmp (v:=B false) rfl<|.nil)),⟨0,0,0,0,false,aj,aq,rfl,(H.pk [0])⟩⟩
 replace hM:=M.e_f hM ag
 replace ag:=dI ag
 obtain ⟨bi,hM⟩:=M.e_gd hM;refine kg 5 ?_;refine s_val (x_ld (v:=.agg #[I ((r3.getD 0 default).ast),I ((r3.getD 0 default).afl),I ((r3.getD 0 default).bst),I ((r3.getD 0 default).bfl)]) rfl (ld_ag Ag52 Sz52 (At.mono (RLn_atA (H.os 0) (i:=0) (by omega) (by omega)) (H.ol 0)))) ?_;refine t_alloc (cs:=[I 0,I 0,I 0,I 0]) H Al52 rfl ?_;intro au bj H;refine t_sw 0 0 [I ((r3.getD 0 default).ast),I ((r3.getD 0 default).afl),I ((r3.getD 0 default).bst),I ((r3.getD 0 default).bfl)] (.agg #[I ((r3.getD 0 default).ast),I ((r3.getD 0 default).afl),I ((r3.getD 0 default).bst),I ((r3.getD 0 default).bfl)]) H rfl rfl Sz52 rfl rfl rfl rfl ?_;intro bm H
 have bn:=((H.os 1)).len_le
 refine kg 9 ?_;obtain ⟨aS,av,aT⟩:=M.e_bind hM
 obtain ⟨bo,av⟩:=M.e_iter av
 refine W.loop (fun m σ W=>∃ (s:Nat) (s2:Int) (s3:Int) (s4:Int) (s5:Int) (ρ:Env),σ=upds ρ [(1,I stage),(5,Pq am),(6,Pq ao),(9,Pq au),(29,ap),(30,I (r3.length:Int)),(31,I (s:Int))]/\M.iterN (za7 stage r3) m (s,s2,s3,s4,s5)=some aS/\St w W [cBlk au [I s2,I s3,I s4,I s5] 52,cOwn (α:=RLn) 52 ap r3,cMem I ai aj (zaf ae ac),cBlk ao [I 0,I 0,I 0,I 0] 52,cBlk am [.func (.func 105) #[] #[]] 154] R) ?_ ?_
 ·exact ⟨_,0,(r3.getD 0 default).ast,(r3.getD 0 default).afl,(r3.getD 0 default).bst,(r3.getD 0 default).bfl,_,upds_of _ _ ⟨rfl,rfl,rfl,rfl,rfl,rfl,rfl,trivial⟩,av,H⟩
 rintro bp σ br ⟨s,s2,s3,s4,s5,ρ,rfl,aE,H⟩
 obtain ⟨aF,aG,bt,hM,ax⟩:=M.e_iterN aE
 simp only [za7] at hM
 clear aE;refine kg 5 ?_
 refine W.cond (decide ((s:Int)<(r3.length:Int))) rfl (fun ah=>?_) (fun ah=>?_)
 ·replace hM:=M.e_t hM ah
  replace ah:=dI ah
  obtain ⟨bu,hM⟩:=M.e_gd hM;refine kg 6 ?_;refine s_val (x_ld (v:=.agg #[I ((r3.getD s default).ast),I ((r3.getD s default).afl),I ((r3.getD s default).bst),I ((r3.getD s default).bfl)]) rfl (ld_ag Ag52 Sz52 (At.mono (RLn_atA (H.os 1) (i:=(s:Int)) (by omega) (by omega)) (H.ol 1)))) ?_;refine t_alloc (cs:=[I 0,I 0,I 0,I 0]) H Al52 rfl ?_;intro aU bv H;refine t_sw 0 0 [I ((r3.getD s default).ast),I ((r3.getD s default).afl),I ((r3.getD s default).bst),I ((r3.getD s default).bfl)] (.agg #[I ((r3.getD s default).ast),I ((r3.getD s default).afl),I ((r3.getD s default).bst),I ((r3.getD s default).bfl)]) H rfl rfl Sz52 rfl rfl rfl rfl ?_;intro bw H;refine kg 2 ?_;refine W.draw (fun W=>St w W [cBlk aU [I ((r3.getD s default).ast),I ((r3.getD s default).afl),I ((r3.getD s default).bst),I ((r3.getD s default).bfl)] 52,cBlk au [I s2,I s3,I s4,I s5] 52,cOwn (α:=RLn) 52 ap r3,cMem I ai aj (zaf ae ac),cBlk ao [I 0,I 0,I 0,I 0] 52,cBlk am [.func (.func 105) #[] #[]] 154] R) [(0,true),(1,true),(2,true),(3,true),(4,true),(6,true),(7,true),(8,true),(5,false),(9,false),(10,false)] mixed (by decide +kernel) rfl ?_;intro bx aH;replace H:=H.ext aH;clear aH
  refine ⟨(H.pk [0,1,2,3,4,5]),?_⟩
  refine kg 3 ?_;refine d_q rfl (fun w' H=>x_mi (v:=.agg #[I ((r3.getD s default).ast),I ((r3.getD s default).afl),I ((r3.getD s default).bst),I ((r3.getD s default).bfl)]) Tryz.underlying52 (by intro m h_; cases h_) rfl) ?_;refine kg 2 ?_;refine d_q rfl (fun w' H=>x_mi (v:=.agg #[I s2,I s3,I s4,I s5]) Tryz.underlying52 (by intro m h_; cases h_) rfl) ?_;refine kg 1 ?_;refine d_l rfl ?_;obtain ⟨bz,aV,hM⟩:=M.e_bind hM;refine s_call cf41 [.iface 52 (.agg #[I ((r3.getD s default).ast),I ((r3.getD s default).afl),I ((r3.getD s default).bst),I ((r3.getD s default).bfl)]),I stage] rfl (zaI (r3.getD s default) stage aV _ (H.gt 6)) ?_
  rintro vq bA ⟨r0,r1,rfl,hvq,aa⟩
  subst vq;(try dsimp only at hM);replace H:=H.bk aa;clear aa
  refine s_nil ⟨(H.pk [0,1,2,3,4,5]),?_⟩
  refine d_l rfl ?_;obtain ⟨bB,aW,hM⟩:=M.e_bind hM;refine s_call cf41 [.iface 52 (.agg #[I s2,I s3,I s4,I s5]),I stage] rfl (zaI (⟨(s2:Int),(s3:Int),(s4:Int),(s5:Int)⟩:RLn) stage aW _ (H.gt 6)) ?_
  rintro vq bC ⟨aI,aJ,rfl,hvq,aa⟩
  subst vq;(try dsimp only at hM);replace H:=H.bk aa;clear aa
  refine s_nil ⟨(H.pk [0,1,2,3,4,5]),?_⟩
  refine d_l rfl ?_;obtain ⟨bD,aX,hM⟩:=M.e_bind hM;refine s_callv (f:=105) rfl cf105 [.agg #[I r0,I r1],.agg #[I aI,I aJ]] rfl (zeF (⟨(r0:Int),(r1:Int)⟩:Rto) (⟨(aI:Int),(aJ:Int)⟩:Rto) aX _ (H.gt 6)) ?_
  rintro vq bE ⟨r4,rfl,hvq,aa⟩
  subst vq;(try dsimp only at hM);replace H:=H.bk aa;clear aa
  refine s_nil ⟨(H.pk [0,1,2,3,4,5]),?_⟩
  refine d_nil ?_
  refine W.cond r4 rfl (fun ay=>?_) (fun ay=>?_)
  ·replace hM:=M.e_t hM ay;refine kg 2 ?_;refine t_sw 1 0 [I ((r3.getD s default).ast),I ((r3.getD s default).afl),I ((r3.getD s default).bst),I ((r3.getD s default).bfl)] (.agg #[I ((r3.getD s default).ast),I ((r3.getD s default).afl),I ((r3.getD s default).bst),I ((r3.getD s default).bfl)]) H rfl rfl Sz52 rfl rfl rfl rfl ?_;intro bF H;refine kg 5 ?_
   exact ⟨aF,aG,s+1,(r3.getD s default).ast,(r3.getD s default).afl,(r3.getD s default).bst,(r3.getD s default).bfl,_,upds_of _ _ ⟨rfl,rfl,rfl,rfl,rfl,rfl,rfl,trivial⟩,M.e_inl hM ax,(H.pk [1,2,3,4,5])⟩
  replace hM:=M.e_f hM ay;refine kg 5 ?_
  exact ⟨aF,aG,s+1,s2,s3,s4,s5,_,upds_of _ _ ⟨rfl,rfl,rfl,rfl,rfl,rfl,rfl,trivial⟩,M.e_inl hM ax,(H.pk [1,2,3,4,5])⟩
 replace hM:=M.e_f hM ah
 replace ah:=dI ah
 refine W.exit ?_
 have aY:=M.e_inr hM ax
 subst aY;replace hM:=aT;(try dsimp only at hM);replace H:=H.pk [0,2,3];refine kg 3 ?_;refine t_sw 2 0 [I s2,I s3,I s4,I s5] (.agg #[I s2,I s3,I s4,I s5]) H rfl rfl Sz52 rfl rfl rfl rfl ?_;intro bG H;refine kg 2 ?_;refine W.ret ?_
 have aZ:=(H.bl 2)
 have aq:=M.e_pure hM
 exact ⟨_,(resE_ofn (vs:=[.agg #[I s2,I s3,I s4,I s5],B true]) rfl rfl (.cell (v:=.agg #[I s2,I s3,I s4,I s5]) rfl (run_loadVar_ag (ds:=[I s2,I s3,I s4,I s5]) Ag52 Sz52 aZ rfl rfl)<|.tmp (v:=B true) rfl<|.nil)),⟨s2,s3,s4,s5,true,aj,aq,rfl,(H.pk [1])⟩⟩

def zdj (aa:List Gg) (ac:List Int) (stage:Int):M (Int × Int × Int × Int × Bool) :=
  M.bind (zd7) fun (_:Unit) =>
  M.bind (zcd aa ac stage) fun (ae,ag,ah,ai,r1) =>
  M.bind (zdH) fun (_:Unit) =>
  M.bind (zcB aa ac stage) fun (aj,ak,al,am,au) =>
  bif !r1 then (
  M.pure (0,0,0,0,false))
  else (
  M.bind (zan (⟨(ae:Int),(ag:Int),(ah:Int),(ai:Int)⟩:RLn) stage) fun (r0,ao) =>
  M.bind (zan (⟨(aj:Int),(ak:Int),(al:Int),(am:Int)⟩:RLn) stage) fun (ap,aq) =>
  M.pure (r0,ao,ap,aq,true))
theorem zeN {R:List Chunk} {av:Nat} {aB:Cells} {aC:Value} {aD:Cells} {aE:Value} {ax:Nat} {aL:Base} (ah:List Gg) (ai:List Int) (stage:Int) (aF:Reads R aB) (aG:Sl aB aC ah) (aH:Reads R aD) (aI:Sl aD aE ai) (aJ:Has R (cBlk av [aC,aE,.map (some ax)] 182)) {r:(Int × Int × Int × Int × Bool)} (hM:(zdj ah ai stage).Ends r) (w:World) (H:St w w [cMem I ax aL (zaf ah ai)] R):Ret Tryz.prog 40 #[Pq av,I stage] w fun v w'=>∃ (y0:Int) (y1:Int) (y2:Int) (y3:Int) (y4:Bool) (aM:Base),(y0,y1,y2,y3,y4)=r/\v = .tuple #[.agg #[I y0,I y1,I y2,I y3],B y4]/\St w w' [cMem I ax aM (zaf ah ai)] R:=by
 refine ret_of_W Tryz.func40 rfl rfl rfl ?_;refine kg 2 ?_;refine t_alloc (cs:=[I 0,I 0,I 0,I 0]) H Al68 rfl ?_;intro aX aY H;refine kg 6 ?_;obtain ⟨aZ,aN,hM⟩:=M.e_bind hM;refine s_call cf69 [] rfl (zer aN _ (H.gt 2)) ?_
 rintro vq a7 ⟨rfl,hvq,aa⟩
 subst vq;(try dsimp only at hM);replace H:=H.bk aa;clear aa;obtain ⟨a8,aO,hM⟩:=M.e_bind hM;refine s_call cf68 [Pq av,I stage,.agg #[.func (.func 103) #[] #[]]] rfl (ze7 ah ai stage (aF.app _) aG (aH.app _) aI (aJ.app _) aO _ ((H.pk [1,0]).gt 1)) ?_
 rintro vq ba ⟨aj,ak,al,am,r1,bb,rfl,hvq,aa⟩
 subst vq;(try dsimp only at hM)
 replace H:=H.pk [1,0] |>.bk aa
 clear aa;refine kg 3 ?_;refine t_alloc (cs:=[I 0,I 0,I 0,I 0]) H Al52 rfl ?_;intro aP bc H;refine t_sw 0 0 [I aj,I ak,I al,I am] (.agg #[I aj,I ak,I al,I am]) H rfl rfl Sz52 rfl rfl rfl rfl ?_;intro bf H;refine kg 6 ?_;obtain ⟨bg,aQ,hM⟩:=M.e_bind hM;refine s_call cf70 [] rfl (ze5 aQ _ (H.gt 3)) ?_
 rintro vq bh ⟨rfl,hvq,aa⟩
 subst vq;(try dsimp only at hM);replace H:=H.bk aa;clear aa;obtain ⟨bi,aR,hM⟩:=M.e_bind hM;refine s_call cf68 [Pq av,I stage,.agg #[.func (.func 105) #[] #[]]] rfl (zei ah ai stage (aF.app _) aG (aH.app _) aI (aJ.app _) aR _ ((H.pk [1,0,2]).gt 2)) ?_
 rintro vq bj ⟨ao,ap,aq,au,bm,ay,rfl,hvq,aa⟩
 subst vq;(try dsimp only at hM)
 replace H:=H.pk [1,0,2] |>.bk aa
 clear aa;refine kg 3 ?_;refine t_alloc (cs:=[I 0,I 0,I 0,I 0]) H Al52 rfl ?_;intro aS bn H;refine t_sw 0 0 [I ao,I ap,I aq,I au] (.agg #[I ao,I ap,I aq,I au]) H rfl rfl Sz52 rfl rfl rfl rfl ?_;intro bo H;refine kg 8 ?_
 refine W.cond (!r1) rfl (fun az=>?_) (fun az=>?_)
 ·replace hM:=M.e_t hM az;refine kg 2 ?_;refine s_val (x_bld (ps:=[]) (zs:=[I 0,I 0,I 0,I 0]) (L':=[I 0,I 0,I 0,I 0]) rfl Tryz.underlying68 Al68 rfl (Bd68 Tryz.underlying68) (.nil)) ?_;refine t_sw 3 0 [I 0,I 0,I 0,I 0] (.agg #[I 0,I 0,I 0,I 0]) H rfl rfl Sz68 rfl rfl rfl rfl ?_;intro bp H;refine kg 2 ?_;replace H:=H.pk [1,3];refine W.ret ?_
  have aT:=(H.bl 1)
  have aA:=M.e_pure hM
  exact ⟨_,(resE_ofn (vs:=[.agg #[I 0,I 0,I 0,I 0],B false]) rfl rfl (.cell (v:=.agg #[I 0,I 0,I 0,I 0]) rfl (run_loadVar_ag (ds:=[I 0,I 0,I 0,I 0]) Ag68 Sz68 aT rfl rfl)<|.tmp (v:=B false) rfl<|.nil)),⟨0,0,0,0,false,ay,aA,rfl,(H.pk [0])⟩⟩
 replace hM:=M.e_f hM az;refine kg 2 ?_;refine W.draw (fun W=>St w W [cBlk aS [I ao,I ap,I aq,I au] 52,cMem I ax ay (zaf ah ai),cBlk aP [I aj,I ak,I al,I am] 52] R) [(0,true),(1,true),(2,true),(4,true),(5,true),(6,true),(3,false),(7,false),(8,true),(9,false),(10,true)] mixed (by decide +kernel) rfl ?_;intro br aK;replace H:=H.ext aK;clear aK
 refine ⟨(H.pk [0,1,2]),?_⟩
 refine kg 1 ?_;refine d_q rfl (fun w' H=>x_mi (v:=.agg #[I aj,I ak,I al,I am]) Tryz.underlying52 (by intro m h_; cases h_) rfl) ?_;refine kg 2 ?_;refine d_q rfl (fun w' H=>x_mi (v:=.agg #[I ao,I ap,I aq,I au]) Tryz.underlying52 (by intro m h_; cases h_) rfl) ?_;refine kg 1 ?_;refine d_l rfl ?_;obtain ⟨bt,aU,hM⟩:=M.e_bind hM;refine s_call cf41 [.iface 52 (.agg #[I aj,I ak,I al,I am]),I stage] rfl (zaI (⟨(aj:Int),(ak:Int),(al:Int),(am:Int)⟩:RLn) stage aU _ (H.gt 4)) ?_
 rintro vq bu ⟨r0,ac,rfl,hvq,aa⟩
 subst vq;(try dsimp only at hM);replace H:=H.bk aa;clear aa
 refine s_nil ⟨(H.pk [0,1,2]),?_⟩
 refine d_l rfl ?_;obtain ⟨bv,aV,hM⟩:=M.e_bind hM;refine s_call cf41 [.iface 52 (.agg #[I ao,I ap,I aq,I au]),I stage] rfl (zaI (⟨(ao:Int),(ap:Int),(aq:Int),(au:Int)⟩:RLn) stage aV _ (H.gt 4)) ?_
 rintro vq bw ⟨ae,ag,rfl,hvq,aa⟩
 subst vq;(try dsimp only at hM);replace H:=H.bk aa;clear aa
 refine s_nil ⟨(H.pk [0,1,2]),?_⟩
 refine d_q rfl (fun w' H=>x_bld (ps:=[(0,.agg #[I r0,I ac]),(1,.agg #[I ae,I ag])]) (zs:=[I 0,I 0,I 0,I 0]) (L':=[I r0,I ac,I ae,I ag]) rfl Tryz.underlying68 Al68 rfl (Bd68 Tryz.underlying68) (.cons (cs:=[I r0,I ac]) rfl rfl rfl rfl rfl<|.cons (cs:=[I ae,I ag]) rfl rfl rfl rfl rfl<|.nil))<|d_l rfl ?_;refine t_sw 3 0 [I r0,I ac,I ae,I ag] (.agg #[I r0,I ac,I ae,I ag]) H rfl rfl Sz68 rfl rfl rfl rfl ?_;intro bx H
 refine s_nil ⟨(H.pk [0,1,2]),?_⟩
 refine kg 2 ?_;replace H:=H.pk [1,3];refine W.ret ?_
 have aW:=(H.bl 1)
 have aA:=M.e_pure hM
 exact ⟨_,(resE_ofn (vs:=[.agg #[I r0,I ac,I ae,I ag],B true]) rfl rfl (.cell (v:=.agg #[I r0,I ac,I ae,I ag]) rfl (run_loadVar_ag (ds:=[I r0,I ac,I ae,I ag]) Ag68 Sz68 aW rfl rfl)<|.tmp (v:=B true) rfl<|.nil)),⟨r0,ac,ae,ag,true,ay,aA,rfl,(H.pk [0])⟩⟩

def zbF (l:List Gg) (breaks:List Int) (stage:Int):M (Int × Int × Int × Int × Int) :=
  M.bind (zc5 l breaks stage) fun x_=>match x_ with
  | (.inl r1)=>(
  bif r1 != 0 then (
  M.pure (0,0,0,0,r1))
  else (
  M.fail))
  | (.inr aa)=>(
  bif aa != 0 then (
  M.fail)
  else (
  M.bind (zdj l breaks stage) fun (ac,ae,ag,ah,ai) =>
  bif !ai then (
  M.pure (0,0,0,0,6))
  else (
  M.pure (ac,ae,ag,ah,0))))
theorem zdD {R:List Chunk} {ap:Cells} {al:Value} {aq:Cells} {am:Value} (l:List Gg) (breaks:List Int) (stage:Int) (au:Reads R ap) (av:Sl ap al l) (ax:Reads R aq) (ay:Sl aq am breaks) {r:(Int × Int × Int × Int × Int)} (hM:(zbF l breaks stage).Ends r) (w:World) (H:St w w [] R):Ret Tryz.prog 16 #[al,am,I stage] w fun v w'=>∃ (y0:Int) (y1:Int) (y2:Int) (y3:Int) (y4:Int),(y0,y1,y2,y3,y4)=r/\v = .tuple #[.agg #[I y0,I y1,I y2,I y3],I y4]/\St w w' [] R:=by
 refine ret_of_W Tryz.func16 rfl rfl rfl ?_;refine kg 2 ?_;refine t_alloc (cs:=[I 0,I 0,I 0,I 0]) H Al68 rfl ?_;intro aJ aK H;refine kg 7 ?_;obtain ⟨aL,az,hM⟩:=M.e_bind hM;refine s_call cf39 [al,am,I stage] rfl (zeL l breaks stage (au.app _) av (ax.app _) ay az _ (H.gt 1)) ?_
 rintro vq aM (⟨r1,aA,hvq,aa⟩ | ⟨aB,aC,aN,aO,aD,hvq,aa⟩)
 ·subst aA;subst vq;(try dsimp only at hM);replace H:=H.bk aa;clear aa;refine kg 12 ?_
  refine W.cond (r1 != 0) rfl (fun ai=>?_) (fun ai=>?_)
  ·replace hM:=M.e_t hM ai
   replace ai:=dI ai
   refine kg 2 ?_;refine s_val (x_bld (ps:=[]) (zs:=[I 0,I 0,I 0,I 0]) (L':=[I 0,I 0,I 0,I 0]) rfl Tryz.underlying68 Al68 rfl (Bd68 Tryz.underlying68) (.nil)) ?_;refine kg 1 ?_;refine t_sw 0 0 [I 0,I 0,I 0,I 0] (.agg #[I 0,I 0,I 0,I 0]) H rfl rfl Sz68 rfl rfl rfl rfl ?_;intro aP H;refine kg 2 ?_;refine W.ret ?_
   have aE:=(H.bl 0)
   have aj:=M.e_pure hM
   exact ⟨_,(resE_ofn (vs:=[.agg #[I 0,I 0,I 0,I 0],I r1]) rfl rfl (.cell (v:=.agg #[I 0,I 0,I 0,I 0]) rfl (run_loadVar_ag (ds:=[I 0,I 0,I 0,I 0]) Ag68 Sz68 aE rfl rfl)<|.tmp (v:=I r1) rfl<|.nil)),⟨0,0,0,0,r1,aj,rfl,(H.pk [])⟩⟩
  replace hM:=M.e_f hM ai
  exact (M.e_fail hM).elim
 subst aD;subst vq;(try dsimp only at hM);replace H:=H.bk aa;clear aa;refine kg 12 ?_
 refine W.cond (aB != 0) rfl (fun ak=>?_) (fun ak=>?_)
 ·replace hM:=M.e_t hM ak
  exact (M.e_fail hM).elim
 replace hM:=M.e_f hM ak
 replace ak:=dI ak
 refine kg 5 ?_;obtain ⟨aQ,aF,hM⟩:=M.e_bind hM;refine s_call cf40 [Pq aC,I stage] rfl (zeN l breaks stage (au.app _) av (ax.app _) ay (Has.here (k:=0) rfl) aF _ ((H.pk [1,0,2]).gt 2)) ?_
 rintro vq aR ⟨ac,ae,ag,ah,aG,aS,rfl,hvq,aa⟩
 subst vq;(try dsimp only at hM)
 replace H:=H.pk [1,0,2] |>.bk aa
 clear aa;refine kg 3 ?_;refine t_alloc (cs:=[I 0,I 0,I 0,I 0]) H Al68 rfl ?_;intro aT aU H;refine t_sw 0 0 [I ac,I ae,I ag,I ah] (.agg #[I ac,I ae,I ag,I ah]) H rfl rfl Sz68 rfl rfl rfl rfl ?_;intro aV H;refine kg 2 ?_;replace H:=H.pk [0,3];refine kg 6 ?_
 refine W.cond (!aG) rfl (fun ao=>?_) (fun ao=>?_)
 ·replace hM:=M.e_t hM ao;refine kg 2 ?_;refine s_val (x_bld (ps:=[]) (zs:=[I 0,I 0,I 0,I 0]) (L':=[I 0,I 0,I 0,I 0]) rfl Tryz.underlying68 Al68 rfl (Bd68 Tryz.underlying68) (.nil)) ?_;refine t_sw 1 0 [I 0,I 0,I 0,I 0] (.agg #[I 0,I 0,I 0,I 0]) H rfl rfl Sz68 rfl rfl rfl rfl ?_;intro aW H;refine kg 2 ?_;refine W.ret ?_
  have aH:=(H.bl 1)
  have aj:=M.e_pure hM
  exact ⟨_,(resE_ofn (vs:=[.agg #[I 0,I 0,I 0,I 0],I 6]) rfl rfl (.cell (v:=.agg #[I 0,I 0,I 0,I 0]) rfl (run_loadVar_ag (ds:=[I 0,I 0,I 0,I 0]) Ag68 Sz68 aH rfl rfl)<|.tmp (v:=I 6) rfl<|.nil)),⟨0,0,0,0,6,aj,rfl,(H.pk [])⟩⟩
 replace hM:=M.e_f hM ao;refine kg 4 ?_;refine t_sw 1 0 [I ac,I ae,I ag,I ah] (.agg #[I ac,I ae,I ag,I ah]) H rfl rfl Sz68 rfl rfl rfl rfl ?_;intro aX H;refine kg 2 ?_;refine W.ret ?_
 have aI:=(H.bl 1)
 have aj:=M.e_pure hM
 exact ⟨_,(resE_ofn (vs:=[.agg #[I ac,I ae,I ag,I ah],I 0]) rfl rfl (.cell (v:=.agg #[I ac,I ae,I ag,I ah]) rfl (run_loadVar_ag (ds:=[I ac,I ae,I ag,I ah]) Ag68 Sz68 aI rfl rfl)<|.tmp (v:=I 0) rfl<|.nil)),⟨ac,ae,ag,ah,0,aj,rfl,(H.pk [])⟩⟩

end Go.Proofs.YtnncijcapdnlgaaGreat
end
namespace Go.Nm
def gq (g:Gg):Gq:=⟨g.stage,g.lo,g.hi⟩
def ln (x:RLn):Ln:=⟨x.ast,x.afl,x.bst,x.bfl⟩
def rl (x:Ln):RLn:=⟨x.sa,x.fa,x.sb,x.fb⟩
/-- A line that is allowed. -/
abbrev RR (x:RLn):Prop:=(ln x).R 2000 200000
abbrev GO (g:Gg):Prop:=(gq g).ok 2000 200000
def rlB (x:RLn):Bool:=decide (0<=x.ast/\x.ast<x.bst/\x.bst<=2000/\0<=x.afl/\x.afl<=x.bfl/\x.bfl<=200000)
theorem rlB_iff {x:RLn}:rlB x=true↔RR x:=by
  unfold rlB
  rw [decide_eq_true_iff]
  exact ⟨fun ⟨a,b,c,d,e,f⟩=>⟨a,b,c,d,e,f⟩,fun h=>⟨h.a0,h.ab,h.bM,h.f0,h.ff,h.fF⟩⟩
/-- n by d, in lowest terms. -/
def frOf (n d:Int):Fq:=⟨n / (Int.gcd n d:Int),d / (Int.gcd n d:Int)⟩
theorem gcd_pos {n d:Int} (hd:0<d):0<(Int.gcd n d:Int):=by
  have:0<Nat.gcd n.natAbs d.natAbs:=Nat.gcd_pos_of_pos_right _ (by omega)
  exact Int.ofNat_lt.2 this
theorem frOf_is {n d:Int} (hd:0<d):(frOf n d).Is n d:=by
  have hg:=gcd_pos (n:=n) hd
  have h1:(Int.gcd n d:Int) ∣ n:=Int.gcd_dvd_left ..
  have h2:(Int.gcd n d:Int) ∣ d:=Int.gcd_dvd_right ..
  obtain ⟨a,ha⟩:=h1
  obtain ⟨b,hb⟩:=h2
  have e1:n / (Int.gcd n d:Int)=a:=Int.ediv_eq_of_eq_mul_right (by omega) ha
  have e2:d / (Int.gcd n d:Int)=b:=Int.ediv_eq_of_eq_mul_right (by omega) hb
  unfold Fq.Is frOf
  dsimp only
  rw [e1,e2]
  generalize (Int.gcd n d:Int)=g at *
  refine ⟨?_,?_⟩
  · rw [hb] at hd
    exact Int.pos_of_mul_pos_right hd hg
  · calc a*d=a*(g*b):=by rw [hb]
      _=g*a*b:=by ac_rfl
      _=n*b:=by rw [← ha]
theorem frOf_D {n d:Int} (hd:0<d):0<(frOf n d).D/\(frOf n d).D<=d:=⟨(frOf_is hd).1,Int.ediv_le_self _ (by omega)⟩
/-- What a line has at a stage, and the flow. -/
def hasE (x:RLn) (t:Int):Fq:=frOf ((ln x).at t) (ln x).w
def flowE (x:RLn) (t:Int):Fq:=(hasE x t).clip 200000
def pasB (x:RLn) (g:Gg):Bool:=decide (g.lo*(ln x).w<=(ln x).at g.stage)&&decide ((ln x).at g.stage<=g.hi*(ln x).w)
theorem mulb {a b A B:Int} (h0:0<=a) (h1:a<=A) (h2:-B<=b) (h3:b<=B):-(A*B)<=a*b/\a*b<=A*B:=by
  have hB:0<=B:=by omega
  have k1:a*B<=A*B:=mul_le_r hB h1
  have k2:a*b<=a*B:=mul_le_l h0 h3
  have k3:a*(-B)<=a*b:=mul_le_l h0 h2
  rw [Int.mul_neg] at k3
  omega
section
variable {x:RLn} (R:RR x) {t:Int}
include R
theorem RR.w0:0<(ln x).w/\(ln x).w<=2000:=by
  have h1:=R.ab
  have h2:=R.a0
  have h3:=R.bM
  have:(ln x).w=(ln x).sb-(ln x).sa:=rfl
  omega
theorem RR.b1:-400000000<=x.afl*(x.bst-x.ast)/\x.afl*(x.bst-x.ast)<=400000000:=by
  have h1:x.ast<x.bst:=R.ab
  have h2:0<=x.ast:=R.a0
  have h3:x.bst<=2000:=R.bM
  have h4:0<=x.afl:=R.f0
  have h5:x.afl<=x.bfl:=R.ff
  have h6:x.bfl<=200000:=R.fF
  have:=mulb (a:=x.afl) (b:=x.bst-x.ast) (A:=200000) (B:=2000) (by omega) (by omega) (by omega) (by omega)
  omega
theorem RR.b2 (h0:0<=t) (h1:t<=2000):-400000000<=(x.bfl-x.afl)*(t-x.ast)/\(x.bfl-x.afl)*(t-x.ast)<=400000000:=by
  have h2:0<=x.ast:=R.a0
  have h3:x.bst<=2000:=R.bM
  have h4:0<=x.afl:=R.f0
  have h5:x.afl<=x.bfl:=R.ff
  have h6:x.bfl<=200000:=R.fF
  have h7:x.ast<x.bst:=R.ab
  have:=mulb (a:=x.bfl-x.afl) (b:=t-x.ast) (A:=200000) (B:=2000) (by omega) (by omega) (by omega) (by omega)
  omega
theorem RR.D (t:Int):0<(hasE x t).D/\(hasE x t).D<=2000:=by
  have h:=RR.w0 R
  have:=frOf_D (n:=(ln x).at t) h.1
  exact ⟨this.1,Int.le_trans this.2 h.2⟩
theorem RR.is (t:Int):(hasE x t).Is ((ln x).at t) (ln x).w:=frOf_is (RR.w0 R).1
/-- Numerator bounded. -/
theorem RR.flow_b (t:Int):0<(flowE x t).D/\(flowE x t).D<=2000/\0<=(flowE x t).N/\(flowE x t).N<=400000000:=by
  have hd:=RR.D R t
  have hi:=Fq.clip_in (F:=200000) (by decide) hd.1
  have hD:0<(flowE x t).D/\(flowE x t).D<=2000:=by
    refine ⟨Fq.clip_D hd.1,?_⟩
    unfold flowE Fq.clip
    split
    · decide
    · split
      · show (1:Int)<=2000
        decide
      · exact hd.2
  refine ⟨hD.1,hD.2,hi.1,?_⟩
  have:(flowE x t).N<=200000*(flowE x t).D:=hi.2
  omega
end
theorem pas_fr {n w lo N D:Int} (hw:0<w) (hD:0<D) (h:N*w=n*D):(lo*D<=N↔lo*w<=n)/\(N<=lo*D↔n<=lo*w):=by
  constructor
  · constructor
    · intro k
      have:=mul_le_r (c:=w) (by omega) k
      rw [h] at this
      refine of_mul_le hD ?_
      have e:lo*w*D=lo*D*w:=by ac_rfl
      omega
    · intro k
      have:=mul_le_r (c:=D) (by omega) k
      refine of_mul_le hw ?_
      have e:lo*w*D=lo*D*w:=by ac_rfl
      omega
  · constructor
    · intro k
      have:=mul_le_r (c:=w) (by omega) k
      rw [h] at this
      refine of_mul_le hD ?_
      have e:lo*w*D=lo*D*w:=by ac_rfl
      omega
    · intro k
      have:=mul_le_r (c:=D) (by omega) k
      refine of_mul_le hw ?_
      have e:lo*w*D=lo*D*w:=by ac_rfl
      omega
end Go.Nm
namespace Go.Proofs.YtnncijcapdnlgaaGreat
open Go Go.Nm
theorem rin_ends (n a b:Int):(zah n a b).Ends (decide (a<=n)&&decide (n<=b)):=M.i_pure
theorem rin_true {n a b:Int} (h1:a<=n) (h2:n<=b):(zah n a b).Ends true:=by
  have:=rin_ends n a b
  rwa [gA2 h1 h2] at this
theorem gA4 {p q r s:Prop} [Decidable p] [Decidable q] [Decidable r] [Decidable s] (hp:p) (hq:q) (hr:r) (hs:s):(decide p&&decide q&&decide r&&decide s)=true:=by rw [decide_eq_true hp,decide_eq_true hq,decide_eq_true hr,decide_eq_true hs]; rfl
theorem greatest_ends (n m:Int):(zbW n [m]).Ends (max n m):=by
  unfold zbW
  refine M.i_bind (M.i_next (s':=(max n m,1)) ?_ (M.i_stop ?_)) M.i_pure
  · simp only [zbl]
    exact M.i_t (decide_eq_true (by simp)) (M.i_grd (decide_eq_true (by simp)) M.i_pure)
  · simp only [zbl]
    exact M.i_f (decide_eq_false (by simp)) M.i_pure
theorem gcd_loop (y:Nat):∀ x:Nat,(M.iter zaM ((x:Int),(y:Int))).Ends (Nat.gcd x y:Int):=by
  induction y using Nat.strongRecOn with
  | _ y ih =>
    intro x
    by_cases h:y=0
    · subst h
      refine M.i_stop ?_
      simp only [zaM]
      rw [Nat.gcd_zero_right]
      exact M.i_f rfl M.i_pure
    · have h0:((y:Int) != 0)=true:=by rw [bne_iff_ne]; omega
      refine M.i_next (s':=((y:Int),((x % y:Nat):Int))) ?_ ?_
      · simp only [zaM]
        refine M.i_t h0 (M.i_grd (gA2 (by omega) (by omega)) ?_)
        rw [Int.natCast_emod]
        exact M.i_pure
      · have:=ih (x % y) (Nat.mod_lt x (by omega)) y
        rwa [show Nat.gcd y (x % y)=Nat.gcd x y by rw [Nat.gcd_comm y,← Nat.gcd_rec y x,Nat.gcd_comm]] at this
theorem ratio_ends {n d:Int} (hd:0<d) (hn:-4611686018427387904<=n/\n<=4611686018427387904) (hD:d<=4611686018427387904):(zb9 n d).Ends ((frOf n d).N,(frOf n d).D):=by
  have hg:=gcd_pos (n:=n) hd
  have e1:n % (Int.gcd n d:Int)=0:=Int.emod_eq_zero_of_dvd (Int.gcd_dvd_left ..)
  have e2:d % (Int.gcd n d:Int)=0:=Int.emod_eq_zero_of_dvd (Int.gcd_dvd_right ..)
  unfold zb9
  refine M.i_grd (gA2 (by omega) (by omega)) (M.i_bind (greatest_ends n (-n)) (M.i_bind (a:=(Int.gcd n d:Int)) ?_ (M.i_grd (gA4 (by omega) (by omega) hg e1) (M.i_grd (gA4 (by omega) (by omega) hg e2) M.i_pure))))
  have:=gcd_loop d.natAbs n.natAbs
  rwa [show (n.natAbs:Int)=max n (-n) by omega,show (d.natAbs:Int)=d by omega] at this
theorem has_ends {x:RLn} (R:RR x) {t:Int} (h0:0<=t) (h1:t<=2000):(zaJ x t).Ends ((hasE x t).N,(hasE x t).D):=by
  have a1:0<=x.ast:=R.a0
  have a2:x.ast<x.bst:=R.ab
  have a3:x.bst<=2000:=R.bM
  have a4:0<=x.afl:=R.f0
  have a5:x.afl<=x.bfl:=R.ff
  have a6:x.bfl<=200000:=R.fF
  have b1:=RR.b1 R
  have b2:=RR.b2 R h0 h1
  unfold zaJ
  exact M.i_grd (gA2 (by omega) (by omega)) (M.i_grd (gA2 (by omega) (by omega)) (M.i_grd (gA2 (by omega) (by omega)) (M.i_grd (gA2 (by omega) (by omega)) (M.i_grd (gA2 (by omega) (by omega)) (M.i_grd (gA2 (by omega) (by omega)) (M.i_bind (ratio_ends (n:=x.afl*(x.bst-x.ast)+(x.bfl-x.afl)*(t-x.ast)) (d:=x.bst-x.ast) (by omega) (by omega) (by omega)) M.i_pure))))))
theorem clipped_ends (q:Fq) (hD:0<q.D/\q.D<=2000):(zcx ⟨q.N,q.D⟩).Ends ((q.clip 200000).N,(q.clip 200000).D):=by
  unfold zcx Fq.clip
  by_cases h:q.N<0
  · rw [if_pos h]
    exact M.i_t (decide_eq_true h) M.i_pure
  · rw [if_neg h]
    refine M.i_f (decide_eq_false h) (M.i_grd (gA2 (by dsimp only; omega) (by dsimp only; omega)) ?_)
    by_cases k:200000*q.D<q.N
    · rw [if_pos k]
      exact M.i_t (decide_eq_true k) M.i_pure
    · rw [if_neg k]
      exact M.i_f (decide_eq_false k) M.i_pure
theorem flow_ends' {x:RLn} (R:RR x) {t:Int} (h0:0<=t) (h1:t<=2000):(zbM x t).Ends ((flowE x t).N,(flowE x t).D):=by
  unfold zbM
  exact M.i_bind (has_ends R h0 h1) (M.i_bind (clipped_ends (hasE x t) (RR.D R t)) M.i_pure)
theorem passes_ends {x:RLn} (R:RR x) {g:Gg} (hg:GO g):(zaY x g).Ends (pasB x g):=by
  obtain ⟨g0,g1,g2,g3,g4⟩:0<=g.stage/\g.stage<=2000/\0<=g.lo/\g.lo<=g.hi/\g.hi<=200000:=hg
  have hD:=RR.D R g.stage
  have hw:=(RR.w0 R).1
  have hi:=(RR.is R g.stage).2
  have m1:=mulb (a:=g.lo) (b:=(hasE x g.stage).D) (A:=200000) (B:=2000) (by omega) (by omega) (by omega) (by omega)
  have m2:=mulb (a:=g.hi) (b:=(hasE x g.stage).D) (A:=200000) (B:=2000) (by omega) (by omega) (by omega) (by omega)
  have p1:=(pas_fr (lo:=g.lo) hw hD.1 hi).1
  have p2:=(pas_fr (lo:=g.hi) hw hD.1 hi).2
  have e:pasB x g=(decide (g.lo*(hasE x g.stage).D<=(hasE x g.stage).N)&&decide ((hasE x g.stage).N<=g.hi*(hasE x g.stage).D)):=by
    unfold pasB
    rw [decide_eq_decide.2 p1,decide_eq_decide.2 p2]
  rw [e]
  unfold zaY
  exact M.i_bind (has_ends R g0 g1) (M.i_grd (gA2 (by omega) (by omega)) (M.i_grd (gOr2 (by omega) (by omega)) M.i_pure))
theorem index_g {s:List Gg} {f:Gg->M Bool} {q:Gg->Bool} (h:∀ x,x∈s->(f x).Ends (q x)):(zcj s f).Out (fun r=>decide (0<=r)=s.any q):=by
  unfold zcj
  refine M.o_bind (P:=fun y=>match y with | .inl i=>0<=i/\s.any q=true | .inr (_:Unit)=>s.any q=false) ?_ ?_
  · refine M.o_for s.length (fun i (k:Nat)=>k=i/\∀ j,j<i->q (s.getD j default)=false) ?_ ?_ ⟨rfl,fun j hj=>by omega⟩
    · rintro i k hk ⟨e0,hp⟩
      subst e0
      simp only [zbt]
      have e:s.getD k default=s[k]:=getD_el s hk _
      refine M.o_t (decide_eq_true (by omega)) (M.o_grdD (by omega) (M.o_bindE (h _ (by rw [e]; exact List.getElem_mem hk)) (M.o_if (fun hb=>?_) (fun hb=>?_))))
      · exact M.o_pure ⟨by omega,List.any_eq_true.2 ⟨_,by rw [e]; exact List.getElem_mem hk,hb⟩⟩
      · refine M.o_pure ⟨rfl,fun j hj=>?_⟩
        rcases Nat.lt_succ_iff_lt_or_eq.1 hj with hj | rfl
        · exact hp j hj
        · exact hb
    · rintro _ ⟨rfl,hp⟩
      simp only [zbt]
      refine M.o_f (by simp) (M.o_pure ?_)
      rw [List.any_eq_false]
      intro x hx
      obtain ⟨i,hi,rfl⟩:=List.getElem_of_mem hx
      have:=hp i hi
      rw [getD_el s hi] at this
      simp [this]
  · intro y hy
    cases y with
    | inl i=>exact M.o_pure (by rw [hy.2]; exact decide_eq_true hy.1)
    | inr u=>exact M.o_pure (by rw [hy]; decide)
theorem any_g {s:List Gg} {f:Gg->M Bool} {q:Gg->Bool} (h:∀ x,x∈s->(f x).Ends (q x)):(za6 s f).Ends (s.any q):=by
  unfold za6
  obtain ⟨r,h1,h2⟩:=index_g h
  refine M.i_bind h1 ?_
  rw [← h2]
  exact M.i_pure
/-- What a line passes. -/
def allP (s:List Gg) (x:RLn):Bool:=s.all (pasB x)
theorem passing_ends {s:List Gg} (hs:∀ g∈s,GO g) {x:RLn} (R:RR x):(zbC s x).Ends (allP s x):=by
  unfold zbC zcU
  refine M.i_bind (M.i_bind (any_g (q:=fun g=>!pasB x g) fun g hg=>?_) (a:=s.any fun g=>!pasB x g) ?_) M.i_pure
  · unfold zbX
    exact M.i_bind (passes_ends R (hs g hg)) M.i_pure
  · unfold allP
    rw [show s.all (pasB x) = !(s.any fun g=>!pasB x g) by rw [List.any_eq_not_all_not]; simp]
    exact M.i_pure
theorem allP_iff {s:List Gg} {x:RLn}:allP s x=true↔(ln x).P (s.map gq):=by
  unfold allP Ln.P
  rw [List.all_eq_true]
  constructor
  · intro h g hg
    obtain ⟨y,hy,rfl⟩:=List.mem_map.1 hg
    have:=h y hy
    unfold pasB at this
    rw [Bool.and_eq_true,decide_eq_true_iff,decide_eq_true_iff] at this
    exact this
  · intro h y hy
    have:=h _ (List.mem_map_of_mem hy)
    unfold pasB
    rw [Bool.and_eq_true,decide_eq_true_iff,decide_eq_true_iff]
    exact this
end Go.Proofs.YtnncijcapdnlgaaGreat
namespace Go.Nm
def addP (e:List Pt) (p:Pt):List Pt:=if p∈e then e else e++[p]
def endsE (s:List Gg):List Pt:=s.foldl (fun e g=>addP (addP e ⟨g.stage,g.lo⟩) ⟨g.stage,g.hi⟩) []
theorem mem_addP {e:List Pt} {p q:Pt}:q∈addP e p↔q∈e∨q=p:=by
  unfold addP
  split
  · rename_i h
    exact ⟨.inl,fun h2=>h2.elim id fun h3=>h3 ▸ h⟩
  · simp
theorem len_addP {e:List Pt} {p:Pt}:(addP e p).length<=e.length+1:=by
  unfold addP
  split
  · omega
  · simp
theorem endsF (s:List Gg):∀ e:List Pt,(s.foldl (fun e g=>addP (addP e ⟨g.stage,g.lo⟩) ⟨g.stage,g.hi⟩) e).length<=e.length+2*s.length/\∀ p,p∈s.foldl (fun e g=>addP (addP e ⟨g.stage,g.lo⟩) ⟨g.stage,g.hi⟩) e↔p∈e∨∃ g∈s,p.stage=g.stage/\(p.flow=g.lo∨p.flow=g.hi):=by
  induction s with
  | nil=>intro e; exact ⟨by simp,fun p=>by simp⟩
  | cons g s ih =>
    intro e
    obtain ⟨h1,h2⟩:=ih (addP (addP e ⟨g.stage,g.lo⟩) ⟨g.stage,g.hi⟩)
    have a:=len_addP (e:=addP e ⟨g.stage,g.lo⟩) (p:=⟨g.stage,g.hi⟩)
    have b:=len_addP (e:=e) (p:=⟨g.stage,g.lo⟩)
    rw [List.foldl_cons]
    refine ⟨by rw [List.length_cons]; omega,fun p=>?_⟩
    rw [h2,mem_addP,mem_addP]
    constructor
    · rintro (((h | rfl) | rfl) | ⟨j,hj,h⟩)
      · exact .inl h
      · exact .inr ⟨g,by simp,rfl,.inl rfl⟩
      · exact .inr ⟨g,by simp,rfl,.inr rfl⟩
      · exact .inr ⟨j,List.mem_cons_of_mem _ hj,h⟩
    · rintro (h | ⟨j,hj,e1,e2⟩)
      · exact .inl (.inl (.inl h))
      · rcases List.mem_cons.1 hj with rfl | hj
        · rcases e2 with e2 | e2
          · exact .inl (.inl (.inr (by cases p; simp_all)))
          · exact .inl (.inr (by cases p; simp_all))
        · exact .inr ⟨j,hj,e1,e2⟩
theorem ends_len (s:List Gg):(endsE s).length<=2*s.length:=by
  have:=(endsF s []).1
  unfold endsE
  simpa using this
theorem mem_ends {s:List Gg} {p:Pt}:p∈endsE s↔End (s.map gq) p.stage p.flow:=by
  unfold endsE
  rw [(endsF s []).2]
  unfold End
  constructor
  · rintro (h | ⟨g,hg,h1,h2⟩)
    · cases h
    · exact ⟨gq g,List.mem_map_of_mem hg,h1.symm,h2⟩
  · rintro ⟨j,hj,h1,h2⟩
    obtain ⟨g,hg,rfl⟩:=List.mem_map.1 hj
    exact .inr ⟨g,hg,h1.symm,h2⟩
def lvlP (p:Pt):RLn:=rl (lvl 2000 p.stage p.flow)
def twoP (a b:Pt):RLn:=⟨a.stage,a.flow,b.stage,b.flow⟩
def addL (s:List Gg) (l:List RLn) (x:RLn):List RLn:=if allPl s x then l++[x] else l
where allPl (s:List Gg) (x:RLn):Bool:=s.all (pasB x)
def stepB (s:List Gg) (a:Pt) (l:List RLn) (b:Pt):List RLn:=if rlB (twoP a b) then addL s l (twoP a b) else l
def stepA (s:List Gg) (e:List Pt) (l:List RLn) (a:Pt):List RLn:=e.foldl (stepB s a) (addL s l (lvlP a))
def foundE (s:List Gg):List RLn:=(endsE s).foldl (stepA s (endsE s)) []
theorem mem_addL {s:List Gg} {l:List RLn} {x y:RLn}:y∈addL s l x↔y∈l∨(y=x/\s.all (pasB x)=true):=by
  unfold addL addL.allPl
  split
  · rename_i h
    rw [List.mem_append,List.mem_singleton]
    exact ⟨fun k=>k.elim .inl fun e=>.inr ⟨e,h⟩,fun k=>k.elim .inl fun e=>.inr e.1⟩
  · rename_i h
    exact ⟨.inl,fun k=>k.elim id fun e=>absurd e.2 h⟩
theorem len_addL {s:List Gg} {l:List RLn} {x:RLn}:(addL s l x).length<=l.length+1:=by
  unfold addL
  split
  · simp
  · omega
theorem len_stepB {s:List Gg} {l:List RLn} {a b:Pt}:(stepB s a l b).length<=l.length+1:=by
  unfold stepB
  split
  · exact len_addL
  · omega
theorem stepsB (s:List Gg) (a:Pt):∀ (e:List Pt) (l:List RLn),(e.foldl (stepB s a) l).length<=l.length+e.length/\∀ y,y∈e.foldl (stepB s a) l↔y∈l∨∃ b∈e,y=twoP a b/\rlB y=true/\s.all (pasB y)=true
  | [],l=>⟨by simp,fun y=>by simp⟩
  | b :: e,l=>by
    obtain ⟨h1,h2⟩:=stepsB s a e (stepB s a l b)
    rw [List.foldl_cons]
    refine ⟨?_,fun y=>?_⟩
    · have:=len_stepB (s:=s) (l:=l) (a:=a) (b:=b)
      rw [List.length_cons]
      omega
    · rw [h2]
      have hb:y∈stepB s a l b↔y∈l∨(y=twoP a b/\rlB y=true/\s.all (pasB y)=true):=by
        unfold stepB
        split
        · rename_i h
          rw [mem_addL]
          exact ⟨fun k=>k.elim .inl fun e=>.inr ⟨e.1,by rw [e.1]; exact h,by rw [e.1]; exact e.2⟩,fun k=>k.elim .inl fun e=>.inr ⟨e.1,by rw [← e.1]; exact e.2.2⟩⟩
        · rename_i h
          exact ⟨.inl,fun k=>k.elim id fun e=>absurd (by rw [← e.1]; exact e.2.1) h⟩
      rw [hb]
      constructor
      · rintro ((h | h) | ⟨c,hc,h⟩)
        · exact .inl h
        · exact .inr ⟨b,by simp,h⟩
        · exact .inr ⟨c,List.mem_cons_of_mem _ hc,h⟩
      · rintro (h | ⟨c,hc,h⟩)
        · exact .inl (.inl h)
        · rcases List.mem_cons.1 hc with rfl | hc
          · exact .inl (.inr h)
          · exact .inr ⟨c,hc,h⟩
theorem stepsA (s:List Gg) (e:List Pt):∀ (f:List Pt) (l:List RLn),(f.foldl (stepA s e) l).length<=l.length+f.length*(e.length+1)/\∀ y,y∈f.foldl (stepA s e) l↔y∈l∨∃ a∈f,((y=lvlP a/\s.all (pasB y)=true)∨∃ b∈e,y=twoP a b/\rlB y=true/\s.all (pasB y)=true)
  | [],l=>⟨by simp,fun y=>by simp⟩
  | a :: f,l=>by
    obtain ⟨h1,h2⟩:=stepsA s e f (stepA s e l a)
    obtain ⟨k1,k2⟩:=stepsB s a e (addL s l (lvlP a))
    have k3:=len_addL (s:=s) (l:=l) (x:=lvlP a)
    rw [List.foldl_cons]
    refine ⟨?_,fun y=>?_⟩
    · have k4:(stepA s e l a).length<=l.length+(e.length+1):=by
        unfold stepA
        omega
      rw [List.length_cons,Nat.succ_mul]
      omega
    · rw [h2]
      have hb:y∈stepA s e l a↔y∈l∨((y=lvlP a/\s.all (pasB y)=true)∨∃ b∈e,y=twoP a b/\rlB y=true/\s.all (pasB y)=true):=by
        unfold stepA
        rw [k2,mem_addL]
        constructor
        · rintro ((h | h) | h)
          · exact .inl h
          · exact .inr (.inl ⟨h.1,by rw [h.1]; exact h.2⟩)
          · exact .inr (.inr h)
        · rintro (h | (h | h))
          · exact .inl (.inl h)
          · exact .inl (.inr ⟨h.1,by rw [← h.1]; exact h.2⟩)
          · exact .inr h
      rw [hb]
      constructor
      · rintro ((h | h) | ⟨c,hc,h⟩)
        · exact .inl h
        · exact .inr ⟨a,by simp,h⟩
        · exact .inr ⟨c,List.mem_cons_of_mem _ hc,h⟩
      · rintro (h | ⟨c,hc,h⟩)
        · exact .inl (.inl h)
        · rcases List.mem_cons.1 hc with rfl | hc
          · exact .inl (.inr h)
          · exact .inr ⟨c,hc,h⟩
/-- What is tried at a stage. -/
def moreE (e:List Pt) (t:Int):List RLn:=[lvlP ⟨t,0⟩,lvlP ⟨t,200000⟩]++e.flatMap fun p=>[⟨t,0,p.stage,p.flow⟩,⟨p.stage,p.flow,t,200000⟩]
def keepE (s:List Gg) (l:List RLn) (x:RLn):List RLn:=if rlB x&&s.all (pasB x) then l++[x] else l
def linesE (s:List Gg) (t:Int):List RLn:=(moreE (endsE s) t).foldl (keepE s) (foundE s)
theorem mem_keeps (s:List Gg):∀ (m l:List RLn),(m.foldl (keepE s) l).length<=l.length+m.length/\∀ y,y∈m.foldl (keepE s) l↔y∈l∨(y∈m/\rlB y=true/\s.all (pasB y)=true)
  | [],l=>⟨by simp,fun y=>by simp⟩
  | x :: m,l=>by
    obtain ⟨h1,h2⟩:=mem_keeps s m (keepE s l x)
    have hl:(keepE s l x).length<=l.length+1:=by
      unfold keepE
      split
      · simp
      · omega
    rw [List.foldl_cons]
    refine ⟨by rw [List.length_cons]; omega,fun y=>?_⟩
    have hb:y∈keepE s l x↔y∈l∨(y=x/\rlB y=true/\s.all (pasB y)=true):=by
      unfold keepE
      split
      · rename_i h
        rw [Bool.and_eq_true] at h
        rw [List.mem_append,List.mem_singleton]
        exact ⟨fun k=>k.elim .inl fun e=>.inr ⟨e,by rw [e]; exact h⟩,fun k=>k.elim .inl fun e=>.inr e.1⟩
      · rename_i h
        rw [Bool.and_eq_true] at h
        exact ⟨.inl,fun k=>k.elim id fun e=>absurd (by rw [← e.1]; exact e.2) h⟩
    rw [h2,hb,List.mem_cons]
    constructor
    · rintro ((h | h) | h)
      · exact .inl h
      · exact .inr ⟨.inl h.1,h.2⟩
      · exact .inr ⟨.inr h.1,h.2⟩
    · rintro (h | ⟨h | h,k⟩)
      · exact .inl (.inl h)
      · exact .inl (.inr ⟨h,k⟩)
      · exact .inr ⟨h,k⟩
section
variable {s:List Gg} (hs:∀ g∈s,GO g)
include hs
theorem ends_ok {p:Pt} (h:p∈endsE s):0<=p.stage/\p.stage<=2000/\0<=p.flow/\p.flow<=200000:=(mem_ends.1 h).ok fun g hg=>by
  obtain ⟨j,hj,rfl⟩:=List.mem_map.1 hg
  exact hs j hj
theorem lvlP_R {p:Pt} (h:p∈endsE s):RR (lvlP p):=lvl_R (by decide) (ends_ok hs h)
/-- All that are found pass, and lines through ends that pass are found. -/
theorem found_ok {x:RLn} (h:x∈foundE s):RR x/\s.all (pasB x)=true:=by
  unfold foundE at h
  rcases ((stepsA s (endsE s) (endsE s) []).2 x).1 h with h | ⟨a,ha,h | ⟨b,_,h⟩⟩
  · cases h
  · exact ⟨by rw [h.1]; exact lvlP_R hs ha,h.2⟩
  · exact ⟨rlB_iff.1 h.2.1,h.2.2⟩
omit hs in
theorem found_all {c:Ln} (h:Thr 2000 (s.map gq) c) (R:c.R 2000 200000) (P:s.all (pasB (rl c))=true):rl c∈foundE s:=by
  refine ((stepsA s (endsE s) (endsE s) []).2 _).2 (.inr ?_)
  cases h with
  | @lvl st f h=>exact ⟨⟨st,f⟩,mem_ends.2 h,.inl ⟨rfl,P⟩⟩
  | @two st f u v h k=>exact ⟨⟨st,f⟩,mem_ends.2 h,.inr ⟨⟨u,v⟩,mem_ends.2 k,rfl,rlB_iff.2 R,P⟩⟩
theorem lines_ok {t:Int} {x:RLn} (h:x∈linesE s t):RR x/\s.all (pasB x)=true:=by
  rcases ((mem_keeps s (moreE (endsE s) t) (foundE s)).2 x).1 h with h | h
  · exact found_ok hs h
  · exact ⟨rlB_iff.1 h.2.1,h.2.2⟩
omit hs in
theorem lines_all {t:Int} {c:Ln} (h:Cd 2000 200000 (s.map gq) t c) (R:c.R 2000 200000) (P:s.all (pasB (rl c))=true):rl c∈linesE s t:=by
  refine ((mem_keeps s (moreE (endsE s) t) (foundE s)).2 _).2 ?_
  cases h with
  | thr h=>exact .inl (found_all h R P)
  | @low st f h=>exact .inr ⟨by unfold moreE; exact List.mem_append_right _ (List.mem_flatMap.2 ⟨⟨st,f⟩,mem_ends.2 h,by show (_:RLn)∈[_,_]; simp [rl]⟩),rlB_iff.2 R,P⟩
  | @high st f h=>exact .inr ⟨by unfold moreE; exact List.mem_append_right _ (List.mem_flatMap.2 ⟨⟨st,f⟩,mem_ends.2 h,by show (_:RLn)∈[_,_]; simp [rl]⟩),rlB_iff.2 R,P⟩
end
end Go.Nm
namespace Go.Proofs.YtnncijcapdnlgaaGreat
open Go Go.Nm
theorem zcD {p:Pt} (h0:0<=p.stage) (h1:p.stage<=2000):(zaL p).Ends ((lvlP p).ast,(lvlP p).afl,(lvlP p).bst,(lvlP p).bfl):=by
  unfold zaL lvlP lvl rl
  by_cases h:p.stage=2000
  · rw [if_pos h]
    exact M.i_t (beq_iff_eq.2 h) (M.i_grd (gA2 (by omega) (by omega)) M.i_pure)
  · rw [if_neg h]
    exact M.i_f (beq_eq_false_iff_ne.2 h) (M.i_grd (gA2 (by omega) (by omega)) M.i_pure)
theorem pright_ends (p:Pt):(za1 p).Ends ((decide (0<=p.stage)&&decide (p.stage<=2000))&&(decide (0<=p.flow)&&decide (p.flow<=200000))):=by
  unfold za1
  refine M.i_bind (rin_ends _ _ _) (M.i_bind (M.i_opt (r:=(decide (0<=p.stage)&&decide (p.stage<=2000))&&(decide (0<=p.flow)&&decide (p.flow<=200000))) (fun h=>?_) (fun h=>?_)) ?_)
  · rw [h]
    exact rin_ends _ _ _
  · rw [h]; rfl
  · have:((decide (0<=p.stage)&&decide (p.stage<=2000))&&((decide (0<=p.stage)&&decide (p.stage<=2000))&&(decide (0<=p.flow)&&decide (p.flow<=200000))))=((decide (0<=p.stage)&&decide (p.stage<=2000))&&(decide (0<=p.flow)&&decide (p.flow<=200000))):=by
      cases (decide (0<=p.stage)&&decide (p.stage<=2000)) <;> rfl
    rw [this]
    exact M.i_pure
theorem right_ends (x:RLn):(zao x).Ends (rlB x):=by
  unfold zao
  have key:∀ (a b c d:Bool),((a&&(a&&b))&&c&&d)=(a&&b&&c&&d):=by decide
  refine M.i_bind (pright_ends ⟨x.ast,x.afl⟩) (M.i_bind (M.i_opt (r:=((decide (0<=x.ast)&&decide (x.ast<=2000))&&(decide (0<=x.afl)&&decide (x.afl<=200000)))&&((decide (0<=x.bst)&&decide (x.bst<=2000))&&(decide (0<=x.bfl)&&decide (x.bfl<=200000)))) (fun h=>?_) (fun h=>?_)) ?_)
  · dsimp only at h
    rw [h]
    exact pright_ends ⟨x.bst,x.bfl⟩
  · dsimp only at h
    rw [h]; rfl
  · dsimp only
    rw [key]
    have:rlB x=(((decide (0<=x.ast)&&decide (x.ast<=2000))&&(decide (0<=x.afl)&&decide (x.afl<=200000)))&&((decide (0<=x.bst)&&decide (x.bst<=2000))&&(decide (0<=x.bfl)&&decide (x.bfl<=200000)))&&decide (x.ast<x.bst)&&decide (x.afl<=x.bfl)):=by
      unfold rlB
      rw [Bool.eq_iff_iff]
      simp only [Bool.and_eq_true,decide_eq_true_eq]
      omega
    rw [this]
    exact M.i_pure
theorem out_ends {α:Type} {m:M α} {a:α} (h:m.Out (fun x=>x=a)):m.Ends a:=by
  obtain ⟨b,h1,rfl⟩:=h
  exact h1
theorem has_pt (l:List Pt) (v:Pt):(zcz l v).Ends (decide (v∈l)):=by
  refine out_ends ?_
  unfold zcz zdb
  refine M.o_bind (P:=fun r=>decide (0<=r)=decide (v∈l)) (M.o_bind (P:=fun y=>match y with | .inl i=>0<=i/\v∈l | .inr (_:Unit)=>¬ v∈l) ?_ ?_) ?_
  · refine M.o_for l.length (fun i (k:Nat)=>k=i/\∀ j,j<i->l.getD j default ≠ v) ?_ ?_ ⟨rfl,fun j hj=>by omega⟩
    · rintro i k hk ⟨e0,hp⟩
      subst e0
      simp only [zaW]
      have e:l.getD k default=l[k]:=getD_el l hk _
      refine M.o_t (decide_eq_true (by omega)) (M.o_grdD (by omega) (M.o_if (fun hb=>?_) (fun hb=>?_)))
      · have hb:=of_decide_eq_true hb
        exact M.o_pure ⟨by omega,by rw [hb,e]; exact List.getElem_mem hk⟩
      · have hb:=of_decide_eq_false hb
        refine M.o_pure ⟨rfl,fun j hj=>?_⟩
        rcases Nat.lt_succ_iff_lt_or_eq.1 hj with hj | rfl
        · exact hp j hj
        · exact fun h=>hb h.symm
    · rintro _ ⟨rfl,hp⟩
      simp only [zaW]
      refine M.o_f (by simp) (M.o_pure ?_)
      intro hx
      obtain ⟨i,hi,e⟩:=List.getElem_of_mem hx
      exact hp i hi (by rw [getD_el l hi]; exact e)
  · intro y hy
    cases y with
    | inl i=>exact M.o_pure (by rw [decide_eq_true hy.1,decide_eq_true hy.2])
    | inr u=>exact M.o_pure (by rw [decide_eq_false hy]; decide)
  · intro r hr
    exact M.o_pure hr
theorem ends_ends {s:List Gg} (hn:s.length<=1000):(zbd s).Ends (endsE s):=by
  unfold zbd
  refine M.i_bind (a:=(endsE s,endsE s)) ?_ M.i_pure
  have key:∀ i,i<s.length->endsE (s.take (i+1))=addP (addP (endsE (s.take i)) ⟨(s.getD i default).stage,(s.getD i default).lo⟩) ⟨(s.getD i default).stage,(s.getD i default).hi⟩:=fun i hi=>by
    unfold endsE
    rw [← take_succ_D s i hi default,List.foldl_append]
    rfl
  have lenk:∀ i,(endsE (s.take i)).length<=2000:=fun i=>by
    have:=ends_len (s.take i)
    rw [List.length_take] at this
    omega
  refine M.i_for (fun i=>(i,endsE (s.take i))) s.length (fun i hi=>?_) ?_
  · simp only [za2]
    refine M.i_t (decide_eq_true (by omega)) (M.i_grd (decide_eq_true (by omega)) ?_)
    have inner:∀ (e:List Pt) (v:Int) (j:Nat),e.length<=2001->([(s.getD i default).lo,(s.getD i default).hi]).getD j 0=v->j<2->(zaA s i (j,e)).Ends (.inl (j+1,addP e ⟨(s.getD i default).stage,v⟩)):=fun e v j he hv hj=>by
      simp only [zaA]
      refine M.i_t (decide_eq_true (by simp; omega)) (M.i_grd (decide_eq_true (by simp; omega)) (M.i_bind (has_pt _ _) ?_))
      rw [hv]
      unfold addP
      by_cases hm:(⟨(s.getD i default).stage,v⟩:Pt)∈e
      · rw [if_pos hm]
        exact M.i_f (by rw [decide_eq_true hm]; rfl) M.i_pure
      · rw [if_neg hm]
        exact M.i_t (by rw [decide_eq_false hm]; rfl) (M.i_grd (decide_eq_true (by simp; omega)) M.i_pure)
    have l0:=lenk i
    have l1:=len_addP (e:=endsE (s.take i)) (p:=⟨(s.getD i default).stage,(s.getD i default).lo⟩)
    rw [key i hi]
    refine M.i_bind (a:=(addP (addP (endsE (s.take i)) ⟨(s.getD i default).stage,(s.getD i default).lo⟩) ⟨(s.getD i default).stage,(s.getD i default).hi⟩,addP (addP (endsE (s.take i)) ⟨(s.getD i default).stage,(s.getD i default).lo⟩) ⟨(s.getD i default).stage,(s.getD i default).hi⟩)) (M.i_next (inner _ (s.getD i default).lo 0 (by omega) rfl (by omega)) (M.i_next (inner _ (s.getD i default).hi 1 (by omega) rfl (by omega)) (M.i_stop ?_))) M.i_pure
    simp only [zaA]
    exact M.i_f (decide_eq_false (by simp)) M.i_pure
  · simp only [za2]
    rw [List.take_length]
    exact M.i_f (decide_eq_false (by omega)) M.i_pure
section
variable {s:List Gg} (hs:∀ g∈s,GO g) (hn:s.length<=100)
include hs
theorem yl_ends {l:List RLn} (hl:l.length<=1000000) {x:RLn} (R:RR x):(M.yl (zal s) (.inl l) x).Ends (true,.inl (addL s l x)):=by
  unfold M.yl
  refine M.i_bind (a:=(Sum.inl (addL s l x):List RLn ⊕ Unit)) ?_ M.i_pure
  unfold zal
  refine M.i_bind (passing_ends hs R) ?_
  unfold addL
  cases h:allP s x with
  | true =>
    rw [if_pos (show addL.allPl s x=true from h)]
    exact M.i_t rfl (M.i_grd (decide_eq_true (by simp; omega)) M.i_pure)
  | false =>
    rw [if_neg (by rw [show addL.allPl s x=false from h]; decide)]
    exact M.i_f rfl M.i_pure
include hn
theorem through_ends:(zbm (M.yl (zal s)) (.inl []) s).Ends (.inl (foundE s)):=by
  have he:=ends_len s
  unfold zbm
  refine M.i_bind (ends_ends (by omega)) (M.i_bind (a:=(Sum.inr (Sum.inl (foundE s)):(List RLn ⊕ Unit) ⊕ (List RLn ⊕ Unit))) ?_ M.i_pure)
  have sA:=fun i=>(stepsA s (endsE s) ((endsE s).take i) []).1
  have bd:∀ i,i<=(endsE s).length->(((endsE s).take i).foldl (stepA s (endsE s)) []).length<=50000:=fun i hi=>by
    have:=sA i
    rw [List.length_take,Nat.min_eq_left hi] at this
    have h2:i*((endsE s).length+1)<=200*201:=Nat.mul_le_mul (by omega) (by omega)
    simp only [List.length_nil] at this
    omega
  refine M.i_for (fun i=>(i,(.inl (((endsE s).take i).foldl (stepA s (endsE s)) []):List RLn ⊕ Unit))) (endsE s).length (fun i hi=>?_) ?_
  · simp only [zaT]
    have hm:(endsE s).getD i default∈endsE s:=by rw [getD_el _ hi]; exact List.getElem_mem hi
    have ok:=ends_ok hs hm
    have b0:=bd i (by omega)
    rw [← take_succ_D (endsE s) i hi default,List.foldl_append]
    generalize hL:((endsE s).take i).foldl (stepA s (endsE s)) []=L at b0 ⊢
    generalize hA:(endsE s).getD i default=A at hm ok ⊢
    refine M.i_t (decide_eq_true (by omega)) (M.i_grd (decide_eq_true (by omega)) (M.i_bind (zcD ok.1 ok.2.1) (M.i_bind (yl_ends hs (by omega) (x:=lvlP A) (lvlP_R hs hm)) (M.i_f rfl (M.i_bind (a:=(Sum.inr (Sum.inl (stepA s (endsE s) L A)):(List RLn ⊕ Unit) ⊕ (List RLn ⊕ Unit))) ?_ M.i_pure)))))
    have b1:=len_addL (s:=s) (l:=L) (x:=lvlP A)
    refine M.i_for (fun j=>(j,(.inl (((endsE s).take j).foldl (stepB s A) (addL s L (lvlP A))):List RLn ⊕ Unit))) (endsE s).length (fun j hj=>?_) ?_
    · have b2:=(stepsB s A ((endsE s).take j) (addL s L (lvlP A))).1
      rw [List.length_take] at b2
      simp only [zbk,hA]
      rw [← take_succ_D (endsE s) j hj default,List.foldl_append]
      generalize ((endsE s).take j).foldl (stepB s A) (addL s L (lvlP A))=K at b2 ⊢
      generalize (endsE s).getD j default=C
      refine M.i_t (decide_eq_true (by omega)) (M.i_grd (decide_eq_true (by omega)) (M.i_bind (right_ends _) ?_))
      show (M.bind (M.opt (rlB (twoP A C)) (M.yl (zal s) (.inl K) (twoP A C)) (false,(Sum.inl K:List RLn ⊕ Unit))) _).Ends (Sum.inl (j+1,(Sum.inl (stepB s A K C):List RLn ⊕ Unit)))
      unfold stepB
      cases hr:rlB (twoP A C) with
      | true =>
        rw [if_pos rfl]
        exact M.i_bind (yl_ends hs (by omega) (rlB_iff.1 hr)) (M.i_f (by show (rlB (twoP A C)&&!true)=false; rw [hr]; rfl) M.i_pure)
      | false =>
        rw [if_neg (by decide)]
        exact M.i_bind M.i_pure (M.i_f (by show (rlB (twoP A C)&&!false)=false; rw [hr]; rfl) M.i_pure)
    · simp only [zbk]
      rw [List.take_length]
      exact M.i_f (decide_eq_false (by omega)) M.i_pure
  · simp only [zaT]
    rw [List.take_length]
    exact M.i_f (decide_eq_false (by omega)) M.i_pure
end
theorem through0 (s:List Gg):(zch s).Ends ():=M.i_pure
theorem part0 (t:Int):(zaq [] t).Ends 0:=by
  unfold zaq zdd
  refine M.i_bind (a:=((0:Int),false)) (M.i_bind (a:=(0:Int)) (M.i_stop ?_) ?_) (M.i_f rfl M.i_pure)
  · simp only [zcr]
    exact M.i_f rfl M.i_pure
  · exact M.i_grd rfl (M.i_grd rfl (M.i_bind (a:=false) M.i_pure (M.i_bind (a:=false) M.i_pure M.i_pure)))
def trues (i:Nat):List Bool:=List.replicate i true++List.replicate (24-i) false
theorem trues_set {i:Nat} (h:i<24):(trues i).set i true=trues (i+1):=by
  unfold trues
  obtain ⟨k,hk⟩:∃ k,24-i=k+1:=⟨23-i,by omega⟩
  rw [hk,show 24-(i+1)=k by omega,List.set_append_right _ _ (by simp),List.length_replicate,Nat.sub_self,List.replicate_succ (n:=k),List.set_cons_zero,List.replicate_succ' (n:=i),List.append_assoc]
  rfl
theorem trues_get {i n:Nat} (h:i<n):(trues n).getD i false=true:=by
  unfold trues
  rw [List.getD_eq_getElem?_getD,List.getElem?_append_left (by simpa using h),List.getElem?_replicate,if_pos h]
  rfl
theorem inside0 {s:List Gg} (hn:s.length<=24):(zbG s [] 0).Ends s:=by
  unfold zbG
  refine M.i_bind (a:=trues s.length) ?_ (M.i_bind (a:=(s,s)) ?_ M.i_pure)
  · refine M.i_for (fun i=>(trues i,i)) s.length (fun i hi=>?_) ?_
    · simp only [zbr]
      rw [← trues_set (by omega)]
      exact M.i_t (decide_eq_true (by omega)) (M.i_grd (decide_eq_true (by omega)) (M.i_bind (part0 _) (M.i_grd (gA2 (by omega) (by omega)) M.i_pure)))
    · simp only [zbr]
      exact M.i_f (decide_eq_false (by omega)) M.i_pure
  · refine M.i_for (fun i=>(i,s.take i)) s.length (fun i hi=>?_) ?_
    · simp only [zbE]
      rw [trues_get hi,← take_succ_D s i hi default]
      exact M.i_t (decide_eq_true (by omega)) (M.i_grd (decide_eq_true (by omega)) (M.i_grd (gA2 (by omega) (by omega)) (M.i_t rfl (M.i_grd (decide_eq_true (by simp; omega)) M.i_pure))))
    · simp only [zbE]
      rw [List.take_length]
      exact M.i_f (decide_eq_false (by omega)) M.i_pure
section
variable {s:List Gg} (hs:∀ g∈s,GO g) (hn:s.length<=24) (h0:s ≠ []) (hf:foundE s ≠ []) {t:Int} (t0:0<=t) (t1:t<=2000)
include hs hn h0 hf t0 t1
theorem lines_ends:(zaC s [] 0 t).Ends (linesE s t):=by
  have he:=ends_len s
  have hl0:0<s.length:=List.length_pos_iff.2 h0
  have hl1:0<(foundE s).length:=List.length_pos_iff.2 hf
  have hl2:(foundE s).length<=50000:=by
    have:=(stepsA s (endsE s) (endsE s) []).1
    have h2:(endsE s).length*((endsE s).length+1)<=48*49:=Nat.mul_le_mul (by omega) (by omega)
    simp only [List.length_nil] at this
    unfold foundE
    omega
  unfold zaC
  refine M.i_bind (inside0 hn) (M.i_bind (through0 s) (M.i_bind (through_ends hs (by omega)) (M.i_f ?_ (M.i_bind (zcD (p:=⟨t,0⟩) t0 t1) (M.i_bind (zcD (p:=⟨t,200000⟩) t0 t1) (M.i_bind (ends_ends (by omega)) (M.i_bind (a:=(moreE (endsE s) t,moreE (endsE s) t)) ?_ (M.i_bind (a:=foundE s) ?_ (M.i_bind (a:=(linesE s t,linesE s t)) ?_ M.i_pure)))))))))
  · rw [Bool.and_eq_false_iff]
    right
    rw [beq_eq_false_iff_ne]
    omega
  · have key:∀ i,moreE ((endsE s).take i) t=[lvlP ⟨t,0⟩,lvlP ⟨t,200000⟩]++((endsE s).take i).flatMap fun p=>[⟨t,0,p.stage,p.flow⟩,⟨p.stage,p.flow,t,200000⟩]:=fun i=>rfl
    have step:∀ i,i<(endsE s).length->moreE ((endsE s).take (i+1)) t=moreE ((endsE s).take i) t++[⟨t,0,((endsE s).getD i default).stage,((endsE s).getD i default).flow⟩,⟨((endsE s).getD i default).stage,((endsE s).getD i default).flow,t,200000⟩]:=fun i hi=>by
      unfold moreE
      rw [← take_succ_D (endsE s) i hi default,List.flatMap_append,← List.append_assoc]
      rfl
    have len:∀ i,i<=(endsE s).length->(moreE ((endsE s).take i) t).length=2+2*i:=fun i=>by
      induction i with
      | zero=>intro _; rfl
      | succ i ih=>intro hi; rw [step i (by omega),List.length_append,ih (by omega)]; simp; omega
    refine M.i_for (fun i=>(moreE ((endsE s).take i) t,i)) (endsE s).length (fun i hi=>?_) ?_
    · simp only [zau]
      rw [step i hi]
      have:=len i (by omega)
      exact M.i_t (decide_eq_true (by omega)) (M.i_grd (decide_eq_true (by omega)) (M.i_grd (decide_eq_true (by simp; omega)) M.i_pure))
    · simp only [zau]
      rw [List.take_length]
      exact M.i_f (decide_eq_false (by omega)) M.i_pure
  · unfold zcZ
    exact M.i_grd (decide_eq_true hl1) (M.i_grd (decide_eq_true (by simp; omega)) M.i_pure)
  · have lm:(moreE (endsE s) t).length<=200:=by
      unfold moreE
      rw [List.length_append,List.length_flatMap]
      have:(List.map (fun p:Pt=>([⟨t,0,p.stage,p.flow⟩,⟨p.stage,p.flow,t,200000⟩]:List RLn).length) (endsE s)).sum=2*(endsE s).length:=by
        generalize endsE s=e
        induction e with
        | nil=>rfl
        | cons a e ih=>rw [List.map_cons,List.sum_cons,ih,List.length_cons]; simp; omega
      rw [this]
      simp
      omega
    refine M.i_for (fun i=>(((moreE (endsE s) t).take i).foldl (keepE s) (foundE s),i)) (moreE (endsE s) t).length (fun i hi=>?_) ?_
    · simp only [zay]
      have b2:=(mem_keeps s ((moreE (endsE s) t).take i) (foundE s)).1
      rw [List.length_take] at b2
      rw [← take_succ_D (moreE (endsE s) t) i hi default,List.foldl_append]
      generalize ((moreE (endsE s) t).take i).foldl (keepE s) (foundE s)=K at b2 ⊢
      generalize (moreE (endsE s) t).getD i default=X
      refine M.i_t (decide_eq_true (by omega)) (M.i_grd (decide_eq_true (by omega)) (M.i_bind (right_ends X) ?_))
      show (M.bind _ _).Ends (Sum.inl (keepE s K X,i+1))
      unfold keepE
      cases hr:rlB X with
      | true =>
        refine M.i_bind (passing_ends hs (rlB_iff.1 hr)) ?_
        show (bif (true&&allP s X) then _ else _:M _).Ends _
        cases hp:allP s X with
        | true =>
          rw [if_pos (by rw [Bool.true_and]; exact hp)]
          exact M.i_t rfl (M.i_grd (decide_eq_true (by simp; omega)) M.i_pure)
        | false =>
          rw [if_neg (by rw [Bool.true_and,show s.all (pasB X)=false from hp]; decide)]
          exact M.i_f rfl M.i_pure
      | false =>
        rw [if_neg (by rw [Bool.false_and]; decide)]
        exact M.i_bind M.i_pure (M.i_f rfl M.i_pure)
    · simp only [zay]
      rw [List.take_length]
      exact M.i_f (decide_eq_false (by omega)) M.i_pure
end
end Go.Proofs.YtnncijcapdnlgaaGreat
namespace Go.Proofs.YtnncijcapdnlgaaGreat
open Go Go.Nm
theorem asked_line {x:RLn} (R:RR x) {t:Int} (h0:0<=t) (h1:t<=2000):(zan x t).Ends ((flowE x t).N,(flowE x t).D):=by
  unfold zan
  exact M.i_bind (flow_ends' R h0 h1) M.i_pure
theorem rcmp_ends (a b:Int):(m_cmp_Compare_int a b).Ends (if a<b then -1 else if b<a then 1 else 0):=by
  unfold m_cmp_Compare_int
  have n:∀ x:Int,(m_cmp_isNaN_int x).Ends false:=fun x=>by
    have:(m_cmp_isNaN_int x).Ends (x != x):=M.i_pure
    rwa [show (x != x)=false by simp] at this
  refine M.i_bind (n a) (M.i_bind (n b) (M.i_f rfl (M.i_f rfl ?_)))
  by_cases h:a<b
  · rw [if_pos h]
    exact M.i_t (decide_eq_true h) M.i_pure
  · rw [if_neg h]
    refine M.i_f (decide_eq_false h) ?_
    by_cases k:b<a
    · rw [if_pos k]
      exact M.i_t (decide_eq_true k) M.i_pure
    · rw [if_neg k]
      exact M.i_f (decide_eq_false k) M.i_pure
theorem rcompare_ends {a b:Rto} (h1:-4611686018427387904<=a.num*b.den/\a.num*b.den<=4611686018427387904) (h2:-4611686018427387904<=b.num*a.den/\b.num*a.den<=4611686018427387904) :
    (zbv a b).Ends (if a.num*b.den<b.num*a.den then -1 else if b.num*a.den<a.num*b.den then 1 else 0):=by
  unfold zbv
  exact M.i_grd (gA2 (by omega) (by omega)) (M.i_grd (gA2 (by omega) (by omega)) (M.i_bind (rcmp_ends _ _) M.i_pure))
theorem prod_b {x y:RLn} (R:RR x) (S:RR y) (t:Int):-4611686018427387904<=(flowE x t).N*(flowE y t).D/\(flowE x t).N*(flowE y t).D<=4611686018427387904:=by
  have a:=RR.flow_b R t
  have b:=RR.flow_b S t
  have:=mulb (a:=(flowE x t).N) (b:=(flowE y t).D) (A:=400000000) (B:=2000) (by omega) (by omega) (by omega) (by omega)
  omega
theorem less_ends {x y:RLn} (R:RR x) (S:RR y) (t:Int):(zci ⟨(flowE x t).N,(flowE x t).D⟩ ⟨(flowE y t).N,(flowE y t).D⟩).Ends (decide ((flowE x t).N*(flowE y t).D<(flowE y t).N*(flowE x t).D)):=by
  unfold zci
  refine M.i_bind (rcompare_ends (prod_b R S t) (prod_b S R t)) ?_
  dsimp only
  by_cases h:(flowE x t).N*(flowE y t).D<(flowE y t).N*(flowE x t).D
  · rw [if_pos h,decide_eq_true h]
    exact M.i_pure
  · rw [if_neg h,decide_eq_false h]
    split <;> exact M.i_pure
theorem more_ends {x y:RLn} (R:RR x) (S:RR y) (t:Int):(zcn ⟨(flowE x t).N,(flowE x t).D⟩ ⟨(flowE y t).N,(flowE y t).D⟩).Ends (decide ((flowE y t).N*(flowE x t).D<(flowE x t).N*(flowE y t).D)):=by
  unfold zcn
  refine M.i_bind (rcompare_ends (prod_b R S t) (prod_b S R t)) ?_
  dsimp only
  by_cases h:(flowE x t).N*(flowE y t).D<(flowE y t).N*(flowE x t).D
  · rw [if_pos h,show decide ((flowE y t).N*(flowE x t).D<(flowE x t).N*(flowE y t).D)=false from decide_eq_false (by omega)]
    exact M.i_pure
  · rw [if_neg h]
    by_cases k:(flowE y t).N*(flowE x t).D<(flowE x t).N*(flowE y t).D
    · rw [if_pos k,show decide ((flowE y t).N*(flowE x t).D<(flowE x t).N*(flowE y t).D)=true from decide_eq_true k]
      exact M.i_pure
    · rw [if_neg k,show decide ((flowE y t).N*(flowE x t).D<(flowE x t).N*(flowE y t).D)=false from decide_eq_false k]
      exact M.i_pure
section
variable {s:List Gg} (hs:∀ g∈s,GO g) (hn:s.length<=24) (h0:s ≠ []) (hf:foundE s ≠ []) {t:Int} (t0:0<=t) (t1:t<=2000)
include hs hn h0 hf t0 t1
omit hs hn h0 t0 t1 in
theorem lines_ne:0<(linesE s t).length:=by
  obtain ⟨x,hx⟩:=List.exists_mem_of_ne_nil _ hf
  exact List.length_pos_of_mem (((mem_keeps s (moreE (endsE s) t) (foundE s)).2 x).2 (.inl hx))
theorem best_low:(zcd s [] t).Out (fun z=>z.2.2.2.2=true/\(⟨z.1,z.2.1,z.2.2.1,z.2.2.2.1⟩:RLn)∈linesE s t/\∀ x∈linesE s t,(flowE ⟨z.1,z.2.1,z.2.2.1,z.2.2.2.1⟩ t).le (flowE x t)):=by
  have hl:=lines_ne hf (t:=t)
  have ok:=fun x (h:x∈linesE s t)=>(lines_ok hs h).1
  unfold zcd
  refine M.o_bindE (part0 t) (M.o_bindE (lines_ends hs hn h0 hf t0 t1) (M.o_f (by rw [beq_eq_false_iff_ne]; omega) (M.o_grdD (by omega) (M.o_bind (P:=fun z=>(⟨z.1,z.2.1,z.2.2.1,z.2.2.2⟩:RLn)∈linesE s t/\∀ x∈linesE s t,(flowE ⟨z.1,z.2.1,z.2.2.1,z.2.2.2⟩ t).le (flowE x t)) ?_ ?_))))
  · generalize linesE s t=l at hl ok ⊢
    have m0:l.getD 0 default∈l:=by rw [getD_el l hl]; exact List.getElem_mem hl
    refine M.o_for l.length (fun i z=>z.1=i/\(⟨z.2.1,z.2.2.1,z.2.2.2.1,z.2.2.2.2⟩:RLn)∈l/\∀ j,j<i->(flowE ⟨z.2.1,z.2.2.1,z.2.2.2.1,z.2.2.2.2⟩ t).le (flowE (l.getD j default) t)) ?_ ?_ ⟨rfl,m0,fun j hj=>by omega⟩
    · rintro i ⟨k,a,b,c,d⟩ hi ⟨e0,hm,hle⟩
      dsimp only at e0 hm hle
      subst e0
      have m1:l.getD k default∈l:=by rw [getD_el l hi]; exact List.getElem_mem hi
      have R1:=ok _ m1
      have R2:=ok _ hm
      simp only [zbi]
      refine M.o_t (decide_eq_true (by omega)) (M.o_grdD (by omega) (M.o_bindE (asked_line R1 t0 t1) (M.o_bindE (asked_line R2 t0 t1) (M.o_bindE (less_ends R1 R2 t) (M.o_if (fun hb=>?_) (fun hb=>?_))))))
      · have hb:=of_decide_eq_true hb
        refine M.o_pure ⟨rfl,m1,fun j hj=>?_⟩
        rcases Nat.lt_succ_iff_lt_or_eq.1 hj with hj | rfl
        · have hj':l.getD j default∈l:=by rw [getD_el l (by omega)]; exact List.getElem_mem _
          exact Fq.trans (RR.flow_b R1 t).1 (RR.flow_b R2 t).1 (RR.flow_b (ok _ hj') t).1 (Int.le_of_lt hb) (hle j hj)
        · exact Int.le_refl _
      · have hb:=of_decide_eq_false hb
        refine M.o_pure ⟨rfl,hm,fun j hj=>?_⟩
        rcases Nat.lt_succ_iff_lt_or_eq.1 hj with hj | rfl
        · exact hle j hj
        · exact Int.not_lt.1 hb
    · rintro ⟨k,a,b,c,d⟩ ⟨e0,hm,hle⟩
      dsimp only at e0 hm hle
      subst e0
      simp only [zbi]
      refine M.o_f (by simp) (M.o_pure ⟨hm,fun x hx=>?_⟩)
      obtain ⟨j,hj,rfl⟩:=List.getElem_of_mem hx
      have:=hle j hj
      rwa [getD_el l hj] at this
  · rintro ⟨a,b,c,d⟩ h
    exact M.o_pure ⟨rfl,h⟩
theorem best_high:(zcB s [] t).Out (fun z=>z.2.2.2.2=true/\(⟨z.1,z.2.1,z.2.2.1,z.2.2.2.1⟩:RLn)∈linesE s t/\∀ x∈linesE s t,(flowE x t).le (flowE ⟨z.1,z.2.1,z.2.2.1,z.2.2.2.1⟩ t)):=by
  have hl:=lines_ne hf (t:=t)
  have ok:=fun x (h:x∈linesE s t)=>(lines_ok hs h).1
  unfold zcB
  refine M.o_bindE (part0 t) (M.o_bindE (lines_ends hs hn h0 hf t0 t1) (M.o_f (by rw [beq_eq_false_iff_ne]; omega) (M.o_grdD (by omega) (M.o_bind (P:=fun z=>(⟨z.1,z.2.1,z.2.2.1,z.2.2.2⟩:RLn)∈linesE s t/\∀ x∈linesE s t,(flowE x t).le (flowE ⟨z.1,z.2.1,z.2.2.1,z.2.2.2⟩ t)) ?_ ?_))))
  · generalize linesE s t=l at hl ok ⊢
    have m0:l.getD 0 default∈l:=by rw [getD_el l hl]; exact List.getElem_mem hl
    refine M.o_for l.length (fun i z=>z.1=i/\(⟨z.2.1,z.2.2.1,z.2.2.2.1,z.2.2.2.2⟩:RLn)∈l/\∀ j,j<i->(flowE (l.getD j default) t).le (flowE ⟨z.2.1,z.2.2.1,z.2.2.2.1,z.2.2.2.2⟩ t)) ?_ ?_ ⟨rfl,m0,fun j hj=>by omega⟩
    · rintro i ⟨k,a,b,c,d⟩ hi ⟨e0,hm,hle⟩
      dsimp only at e0 hm hle
      subst e0
      have m1:l.getD k default∈l:=by rw [getD_el l hi]; exact List.getElem_mem hi
      have R1:=ok _ m1
      have R2:=ok _ hm
      simp only [za7]
      refine M.o_t (decide_eq_true (by omega)) (M.o_grdD (by omega) (M.o_bindE (asked_line R1 t0 t1) (M.o_bindE (asked_line R2 t0 t1) (M.o_bindE (more_ends R1 R2 t) (M.o_if (fun hb=>?_) (fun hb=>?_))))))
      · have hb:=of_decide_eq_true hb
        refine M.o_pure ⟨rfl,m1,fun j hj=>?_⟩
        rcases Nat.lt_succ_iff_lt_or_eq.1 hj with hj | rfl
        · have hj':l.getD j default∈l:=by rw [getD_el l (by omega)]; exact List.getElem_mem _
          exact Fq.trans (RR.flow_b (ok _ hj') t).1 (RR.flow_b R2 t).1 (RR.flow_b R1 t).1 (hle j hj) (Int.le_of_lt hb)
        · exact Int.le_refl _
      · have hb:=of_decide_eq_false hb
        refine M.o_pure ⟨rfl,hm,fun j hj=>?_⟩
        rcases Nat.lt_succ_iff_lt_or_eq.1 hj with hj | rfl
        · exact hle j hj
        · exact Int.not_lt.1 hb
    · rintro ⟨k,a,b,c,d⟩ ⟨e0,hm,hle⟩
      dsimp only at e0 hm hle
      subst e0
      simp only [za7]
      refine M.o_f (by simp) (M.o_pure ⟨hm,fun x hx=>?_⟩)
      obtain ⟨j,hj,rfl⟩:=List.getElem_of_mem hx
      have:=hle j hj
      rwa [getD_el l hj] at this
  · rintro ⟨a,b,c,d⟩ h
    exact M.o_pure ⟨rfl,h⟩
end
theorem check_ends' {l:List Gg} (hs:∀ g∈l,GO g) (h0:l ≠ []) (hn:l.length<=24):(zby l).Ends 0:=by
  have hl0:0<l.length:=List.length_pos_iff.2 h0
  unfold zby
  refine M.i_bind (rin_true (by omega) (by omega)) (M.i_f rfl (M.i_bind (a:=true) ?_ (M.i_f rfl M.i_pure)))
  unfold zc2
  refine M.i_bind (any_g (q:=fun _=>false) fun g hg=>?_) (a:=l.any fun _=>false) ?_
  · unfold zcp
    refine M.i_bind (a:=true) ?_ M.i_pure
    obtain ⟨a,b,c,d,e⟩:0<=g.stage/\g.stage<=2000/\0<=g.lo/\g.lo<=g.hi/\g.hi<=200000:=hs g hg
    unfold zcM
    exact M.i_bind (rin_true a b) (M.i_bind (M.i_opt (fun _=>rin_true c d) (fun h=>by cases h)) (M.i_bind (M.i_opt (fun _=>rin_true (by omega) e) (fun h=>by cases h)) M.i_pure))
  · rw [show (l.any fun _=>false)=false by simp]
    exact M.i_pure
theorem breaks0:(zbs []).Ends 0:=by
  unfold zbs
  refine M.i_f rfl (M.i_bind (a:=(Sum.inr ():Unit ⊕ Unit)) (M.i_stop ?_) M.i_pure)
  simp only [zb4]
  exact M.i_f rfl M.i_pure
/-- All lines that pass have flows between the bounds, and the bounds are flows of such lines. -/
theorem Flow_out {l:List Gg} (hs:∀ g∈l,GO g) (h0:l ≠ []) (hn:l.length<=24) {x:RLn} (R:RR x) (P:allP l x=true) {t:Int} (t0:0<=t) (t1:t<=2000) :
    (zbF l [] t).Out (fun z=>z.2.2.2.2=0/\(∃ a,RR a/\allP l a=true/\z.1=(flowE a t).N/\z.2.1=(flowE a t).D)/\(∃ b,RR b/\allP l b=true/\z.2.2.1=(flowE b t).N/\z.2.2.2.1=(flowE b t).D) ∧
      ∀ y,RR y->allP l y=true->(⟨z.1,z.2.1⟩:Fq).le (flowE y t)/\(flowE y t).le ⟨z.2.2.1,z.2.2.2.1⟩):=by
  have hS:l.map gq ≠ []:=by simpa using h0
  have hr:∀ g∈l.map gq,g.ok 2000 200000:=fun g hg=>by
    obtain ⟨j,hj,rfl⟩:=List.mem_map.1 hg
    exact hs j hj
  obtain ⟨c,c1,c2,c3⟩:=some_thr (M:=2000) (F:=200000) (by decide) hS hr R (allP_iff.1 P)
  have hf:foundE l ≠ []:=List.ne_nil_of_mem (found_all c1 c2 (allP_iff (x:=rl c).2 c3))
  unfold zbF
  refine M.o_bindE (a:=(Sum.inr 0:Int ⊕ Int)) ?_ ?_
  · unfold zc5 zdq
    exact M.i_bind (a:=(Sum.inr 0:Int ⊕ Int)) (M.i_bind (check_ends' hs h0 hn) (M.i_t rfl (M.i_bind breaks0 (M.i_f rfl M.i_pure)))) (M.i_bind (a:=true) (rin_true t0 t1) (M.i_f rfl M.i_pure))
  · dsimp only
    refine M.o_f rfl ?_
    unfold zdj
    refine M.o_bind (P:=fun z=>z.2.2.2.2=true/\(∃ a,RR a/\allP l a=true/\z.1=(flowE a t).N/\z.2.1=(flowE a t).D)/\(∃ b,RR b/\allP l b=true/\z.2.2.1=(flowE b t).N/\z.2.2.2.1=(flowE b t).D) ∧
      ∀ y,RR y->allP l y=true->(⟨z.1,z.2.1⟩:Fq).le (flowE y t)/\(flowE y t).le ⟨z.2.2.1,z.2.2.2.1⟩) ?_ ?_
    · refine M.o_bindE (a:=()) M.i_pure (M.o_bind (best_low hs hn h0 hf t0 t1) ?_)
      rintro ⟨a,b,c,d,e⟩ ⟨e0,m1,l1⟩
      dsimp only at e0 m1 l1 ⊢
      subst e0
      refine M.o_bindE (a:=()) M.i_pure (M.o_bind (best_high hs hn h0 hf t0 t1) ?_)
      rintro ⟨a',b',c',d',e⟩ ⟨e0,m2,l2⟩
      dsimp only at e0 m2 l2 ⊢
      subst e0
      have ok1:=lines_ok hs m1
      have ok2:=lines_ok hs m2
      refine M.o_f rfl (M.o_bindE (asked_line ok1.1 t0 t1) (M.o_bindE (asked_line ok2.1 t0 t1) (M.o_pure ⟨rfl,⟨_,ok1.1,ok1.2,rfl,rfl⟩,⟨_,ok2.1,ok2.2,rfl,rfl⟩,fun y Ry Py=>?_⟩)))
      have same:∀ (c:Ln) (hc:0<c.w) (q:Fq),q.Is (c.at t) c.w->(flowE (rl c) t).le (q.clip 200000)/\(q.clip 200000).le (flowE (rl c) t):=fun c hc q hq=>by
        have h1:(hasE (rl c) t).Is (c.at t) c.w:=frOf_is hc
        exact ⟨Fq.clip_le (by decide) h1.1 hq.1 (Fq.le_of h1 hq hc hc (Int.le_refl _)),Fq.clip_le (by decide) hq.1 h1.1 (Fq.le_of hq h1 hc hc (Int.le_refl _))⟩
      exact rated (M:=2000) (F:=200000) (t:=t) (S:=l.map gq) (by decide) (by decide) hS hr t0 t1 (RR.flow_b ok1.1 t).1 (RR.flow_b ok2.1 t).1
        (fun c hc cR cP q hq=>by
          have k:=l1 (rl c) (lines_all hc cR (allP_iff (x:=rl c).2 cP))
          have hR:RR (rl c):=cR
          exact Fq.trans (RR.flow_b ok1.1 t).1 (RR.flow_b hR t).1 (Fq.clip_D hq.1) k (same c (RR.w0 hR).1 q hq).1)
        (fun c hc cR cP q hq=>by
          have k:=l2 (rl c) (lines_all hc cR (allP_iff (x:=rl c).2 cP))
          have hR:RR (rl c):=cR
          exact Fq.trans (Fq.clip_D hq.1) (RR.flow_b hR t).1 (RR.flow_b ok2.1 t).1 (same c (RR.w0 hR).1 q hq).2 k)
        Ry (allP_iff.1 Py) (RR.is Ry t)
    · rintro ⟨a,b,c,d,e⟩ ⟨e0,h⟩
      dsimp only at e0 h ⊢
      subst e0
      exact M.o_f rfl (M.o_pure ⟨rfl,h⟩)
end Go.Proofs.YtnncijcapdnlgaaGreat
section
set_option maxRecDepth 100000
set_option maxHeartbeats 16000000
namespace Go.Proofs.YtnncijcapdnlgaaGreat
open Go Go.Nm
attribute [local irreducible] gd execOp SL SLD SLT WR
def zbe (bytes:List UInt8):M (Int × Int) :=
  M.pure (0,0)
theorem zdV {R:List Chunk} {ac:Cells} {aa:Value} (bytes:List UInt8) (aj:Reads R ac) (ag:Sl ac aa bytes) {r:(Int × Int)} (hM:(zbe bytes).Ends r) (w:World) (H:St w w [] R):Ret Tryz.prog 5 #[aa] w fun v w'=>∃ (y0:Int) (y1:Int) (ae:Nat),(y0,y1)=r/\v=Pq ae/\St w w' [cBlk ae [aa,I y0,I y1] 82] R:=by
 refine ret_of_W Tryz.func5 rfl rfl rfl ?_;refine kg 7 ?_;refine s_val (x_bld (ps:=[(0,aa)]) (zs:=[.slice none 0 0,I 0,I 0]) (L':=[aa,I 0,I 0]) rfl Tryz.underlying82 Al82 rfl (Bd82 Tryz.underlying82) (.cons (cs:=[aa]) (Sl.cells ag) rfl rfl rfl rfl<|.nil)) ?_;refine t_bx [aa,I 0,I 0] H rfl ?_;intro ah ak H;refine kg 2 ?_;refine W.ret ?_
 have ai:=M.e_pure hM
 exact ⟨_,resE_tmp rfl,⟨0,0,ah,ai,rfl,H⟩⟩

def zcb (v n:Int):M Int :=
  bif decide (n<1) then (
  M.pure 0)
  else (
  M.grd (decide ((0:Int)<n)) <|
  bif decide ((Int.tmod v n)<0) then (
  M.grd (decide ((-9223372036854775808:Int)<=((Int.tmod v n)+n))&&decide (((Int.tmod v n)+n)<=(9223372036854775807:Int))) <|
  M.pure ((Int.tmod v n)+n))
  else (
  M.pure (Int.tmod v n)))
theorem zfa {R:List Chunk}  (v:Int) (n:Int)  {r:Int} (hM:(zcb v n).Ends r) (w:World) (H:St w w [] R):Ret Tryz.prog 15 #[I v,I n] w fun v w'=>∃ (y0:Int),y0=r/\v=I y0/\St w w' [] R:=by
 refine ret_of_W Tryz.func15 rfl rfl rfl ?_;refine kg 10 ?_
 refine W.cond (decide (n<1)) rfl (fun aa=>?_) (fun aa=>?_)
 ·replace hM:=M.e_t hM aa
  replace aa:=dI aa
  refine kg 4 ?_;refine W.ret ?_
  have ae:=M.e_pure hM
  exact ⟨_,resE_tmp rfl,⟨0,ae,rfl,H⟩⟩
 replace hM:=M.e_f hM aa
 replace aa:=dI aa
 obtain ⟨ag,hM⟩:=M.e_gd hM;refine kg 5 ?_;refine s_val (x_rem (a:=v) (b:=n) rfl rfl (by omega)) ?_;refine kg 8 ?_
 refine W.cond (decide ((Int.tmod v n)<0)) rfl (fun ac=>?_) (fun ac=>?_)
 ·replace hM:=M.e_t hM ac
  replace ac:=dI ac
  obtain ⟨ah,hM⟩:=M.e_gd hM;refine kg 11 ?_;refine W.ret ?_
  have ae:=M.e_pure hM
  exact ⟨_,resE_tmp rfl,⟨((Int.tmod v n)+n),ae,rfl,H⟩⟩
 replace hM:=M.e_f hM ac
 replace ac:=dI ac
 refine kg 6 ?_;refine W.ret ?_
 have ae:=M.e_pure hM
 exact ⟨_,resE_tmp rfl,⟨(Int.tmod v n),ae,rfl,H⟩⟩

def zce (s_used s_mix n b:Int):M (Int × Int × Int) :=
  M.grd (decide ((-9223372036854775808:Int)<=(5*s_mix))&&decide ((5*s_mix)<=(9223372036854775807:Int))) <|
  M.grd (decide ((-9223372036854775808:Int)<=((5*s_mix)+b))&&decide (((5*s_mix)+b)<=(9223372036854775807:Int))) <|
  M.grd (decide ((-9223372036854775808:Int)<=(((5*s_mix)+b)+1))&&decide ((((5*s_mix)+b)+1)<=(9223372036854775807:Int))) <|
  M.grd (decide ((0:Int)<=(((5*s_mix)+b)+1))&&decide ((0:Int)<251)) <|
  M.grd (decide ((-9223372036854775808:Int)<=(s_used+1))&&decide ((s_used+1)<=(9223372036854775807:Int))) <|
  bif decide (256<n) then (
  M.grd (decide ((-9223372036854775808:Int)<=(256*b))&&decide ((256*b)<=(9223372036854775807:Int))) <|
  M.grd (decide ((-9223372036854775808:Int)<=((256*b)+((((5*s_mix)+b)+1) % 251)))&&decide (((256*b)+((((5*s_mix)+b)+1) % 251))<=(9223372036854775807:Int))) <|
  M.grd (decide ((0:Int)<=((256*b)+((((5*s_mix)+b)+1) % 251)))&&decide ((0:Int)<n)) <|
  M.pure ((((256*b)+((((5*s_mix)+b)+1) % 251)) % n),(s_used+1),((((5*s_mix)+b)+1) % 251)))
  else (
  M.grd (decide ((0:Int)<=b)&&decide ((0:Int)<n)) <|
  M.pure ((b % n),(s_used+1),((((5*s_mix)+b)+1) % 251)))
def zad (s_bytes:List UInt8) (s_used s_mix n:Int):M (Int × Int × Int) :=
  bif ((decide (n<2))||((s_bytes.length:Int)==0)) then (
  M.pure (0,s_used,s_mix))
  else (
  M.grd (decide ((0:Int)<=s_used)&&decide ((0:Int)<(s_bytes.length:Int))) <|
  M.grd (decide ((0:Int)<=(s_used % (s_bytes.length:Int)))&&decide ((s_used % (s_bytes.length:Int))<(s_bytes.length:Int))) <|
  M.grd (decide ((0:Int)<=((s_bytes.getD (Int.toNat (s_used % (s_bytes.length:Int))) 0).toNat:Int))&&decide (((s_bytes.getD (Int.toNat (s_used % (s_bytes.length:Int))) 0).toNat:Int)<(256:Int))) <|
  bif decide ((s_bytes.length:Int)<=s_used) then (
  M.grd (decide ((-9223372036854775808:Int)<=(11*s_mix))&&decide ((11*s_mix)<=(9223372036854775807:Int))) <|
  M.grd (decide (0<=s_used)&&decide (s_used<=(9223372036854775807:Int))&&decide ((0:Int)<(s_bytes.length:Int))) <|
  M.grd (decide ((-9223372036854775808:Int)<=((11*s_mix)+(s_used / (s_bytes.length:Int))))&&decide (((11*s_mix)+(s_used / (s_bytes.length:Int)))<=(9223372036854775807:Int))) <|
  M.grd (decide ((-9223372036854775808:Int)<=(((s_bytes.getD (Int.toNat (s_used % (s_bytes.length:Int))) 0).toNat:Int)+((11*s_mix)+(s_used / (s_bytes.length:Int)))))&&decide ((((s_bytes.getD (Int.toNat (s_used % (s_bytes.length:Int))) 0).toNat:Int)+((11*s_mix)+(s_used / (s_bytes.length:Int))))<=(9223372036854775807:Int))) <|
  zce s_used s_mix n (((s_bytes.getD (Int.toNat (s_used % (s_bytes.length:Int))) 0).toNat:Int)+((11*s_mix)+(s_used / (s_bytes.length:Int)))))
  else (
  zce s_used s_mix n ((s_bytes.getD (Int.toNat (s_used % (s_bytes.length:Int))) 0).toNat:Int)))
theorem zac {R:List Chunk} {aa:Nat} {al:Cells} {ae:Value} (s_bytes:List UInt8) (s_used:Int) (s_mix:Int) (n:Int) (am:Reads R al) (ai:Sl al ae s_bytes) {r:(Int × Int × Int)} (hM:(zad s_bytes s_used s_mix n).Ends r) (w:World) (H:St w w [cBlk aa [ae,I s_used,I s_mix] 82] R):Ret Tryz.prog 10 #[Pq aa,I n] w fun v w'=>∃ (y0:Int) (y1:Int) (y2:Int),(y0,y1,y2)=r/\v=I y0/\St w w' [cBlk aa [ae,I y1,I y2] 82] R:=by
 refine ret_of_W Tryz.func10 rfl rfl rfl ?_
 have ao:=(ai).len_le
 refine kg 16 ?_;refine s_val (x_por (b:=decide (n<2)) (r:=(s_bytes.length:Int)==0) rfl rfl (fun hb=>gd_of (c:=!(decide (n<2))) (by first | exact hb | (rw [hb]; rfl) | simp_all) (B ((s_bytes.length:Int)==0))))<|s_nil ?_
 refine W.cond ((decide (n<2))||((s_bytes.length:Int)==0)) rfl (fun ak=>?_) (fun ak=>?_)
 ·replace hM:=M.e_t hM ak;refine kg 4 ?_;refine W.ret ?_
  have aj:=M.e_pure hM
  exact ⟨_,resE_tmp rfl,⟨0,s_used,s_mix,aj,rfl,H⟩⟩
 replace hM:=M.e_f hM ak;refine kg 2 ?_;refine W.draw (fun W=>St w W [cBlk aa [ae,I s_used,I s_mix] 82] R) [(0,true),(1,true),(2,true),(3,true),(4,true),(5,true),(6,true),(7,true),(8,true),(9,true),(10,true),(11,true),(12,true),(13,true),(14,true),(15,true),(16,true),(17,true)] mixed (by decide +kernel) rfl ?_;intro ap ac;replace H:=H.ext ac;clear ac
 refine ⟨(H.pk [0]),?_⟩
 have aq:=(ai).len_le
 obtain ⟨au,hM⟩:=M.e_gd hM;refine kg 13 ?_;refine d_q rfl (fun w' H=>x_rem' (a:=s_used) (b:=(s_bytes.length:Int)) rfl rfl (by omega)) ?_;obtain ⟨av,hM⟩:=M.e_gd hM;refine kg 1 ?_;refine d_q rfl (fun w' H=>x_ld (v:=.int .u8 (((s_bytes.getD (Int.toNat (s_used % (s_bytes.length:Int))) 0).toNat:Int))) rfl (ld_sc Sc5 (At.mono (UInt8_at ai (i:=s_used % (s_bytes.length:Int)) (by omega) (by omega)) (am.at H)))) ?_;obtain ⟨ax,hM⟩:=M.e_gd hM;refine d_q rfl (fun w' H=>x_conv64 (kd:=.u8) (a:=((s_bytes.getD (Int.toNat (s_used % (s_bytes.length:Int))) 0).toNat:Int)) Tryz.underlying5 Tryz.underlying3 rfl (by omega)) ?_;refine kg 2 ?_;refine W.seqJ (fun σ W=>∃ (b:Int) (ρ:Env),σ=upds ρ [(0,Pq aa),(1,I n),(5,I b)]/\(zce s_used s_mix n b).Ends r/\St w W [cBlk aa [ae,I s_used,I s_mix] 82] R) ?_ ?_
 ·skip
  refine W.seq ?_;refine W.draw (fun W=>St w W [cBlk aa [ae,I s_used,I s_mix] 82] R) [(0,true),(1,true),(2,true),(3,true),(4,true),(5,true),(6,true),(7,true),(8,true),(9,true)] mixed (by decide +kernel) rfl ?_;intro ay ac;replace H:=H.ext ac;clear ac
  refine ⟨(H.pk [0]),?_⟩
  have az:=(ai).len_le
  refine kg 11 ?_
  refine W.cond (decide ((s_bytes.length:Int)<=s_used)) rfl (fun ag=>?_) (fun ag=>?_)
  ·replace hM:=M.e_t hM ag
   replace ag:=dI ag
   refine W.draw (fun W=>St w W [cBlk aa [ae,I s_used,I s_mix] 82] R) [(0,true),(1,true),(2,true),(3,true),(4,true),(5,true),(6,true),(7,true),(8,true),(9,true),(10,true),(11,true),(12,true),(13,true),(14,true),(15,true),(16,true),(17,true),(18,true)] mixed (by decide +kernel) rfl ?_;intro aA ac;replace H:=H.ext ac;clear ac
   refine ⟨(H.pk [0]),?_⟩
   obtain ⟨aB,hM⟩:=M.e_gd hM
   have aC:=(ai).len_le
   obtain ⟨aD,hM⟩:=M.e_gd hM;obtain ⟨aE,hM⟩:=M.e_gd hM;obtain ⟨aF,hM⟩:=M.e_gd hM;refine kg 20 ?_
   exact ⟨((s_bytes.getD (Int.toNat (s_used % (s_bytes.length:Int))) 0).toNat:Int)+((11*s_mix)+(s_used / (s_bytes.length:Int))),_,upds_of _ _ ⟨rfl,rfl,rfl,trivial⟩,hM,H⟩
  replace hM:=M.e_f hM ag
  replace ag:=dI ag
  refine W.skip ?_
  exact ⟨((s_bytes.getD (Int.toNat (s_used % (s_bytes.length:Int))) 0).toNat:Int),_,upds_of _ _ ⟨rfl,rfl,rfl,trivial⟩,hM,H⟩
 rintro _ aG ⟨b,ρ,rfl,hM,H⟩
 unfold zce at hM
 obtain ⟨aH,hM⟩:=M.e_gd hM;obtain ⟨aI,hM⟩:=M.e_gd hM;obtain ⟨aJ,hM⟩:=M.e_gd hM;obtain ⟨aK,hM⟩:=M.e_gd hM;refine kg 11 ?_;refine s_val (x_rem' (a:=((5*s_mix)+b)+1) (b:=251) rfl rfl (by omega)) ?_;refine kg 2 ?_;refine t_sw 0 2 [I ((((5*s_mix)+b)+1) % 251)] (I ((((5*s_mix)+b)+1) % 251)) H rfl rfl Sz3 rfl rfl rfl rfl ?_;intro aL H;obtain ⟨aM,hM⟩:=M.e_gd hM;refine kg 10 ?_;refine t_sw 0 1 [I (s_used+1)] (I (s_used+1)) H rfl rfl Sz3 rfl rfl rfl rfl ?_;intro aN H;refine kg 7 ?_
 refine W.cond (decide (256<n)) rfl (fun ah=>?_) (fun ah=>?_)
 ·replace hM:=M.e_t hM ah
  replace ah:=dI ah
  obtain ⟨aO,hM⟩:=M.e_gd hM;obtain ⟨aP,hM⟩:=M.e_gd hM;obtain ⟨aQ,hM⟩:=M.e_gd hM;refine kg 14 ?_;refine s_val (x_rem' (a:=(256*b)+((((5*s_mix)+b)+1) % 251)) (b:=n) rfl rfl (by omega)) ?_;refine kg 2 ?_;refine W.ret ?_
  have aj:=M.e_pure hM
  exact ⟨_,resE_tmp rfl,⟨(((256*b)+((((5*s_mix)+b)+1) % 251)) % n),(s_used+1),((((5*s_mix)+b)+1) % 251),aj,rfl,H⟩⟩
 replace hM:=M.e_f hM ah
 replace ah:=dI ah
 obtain ⟨aR,hM⟩:=M.e_gd hM;refine kg 5 ?_;refine s_val (x_rem' (a:=b) (b:=n) rfl rfl (by omega)) ?_;refine kg 2 ?_;refine W.ret ?_
 have aj:=M.e_pure hM
 exact ⟨_,resE_tmp rfl,⟨(b % n),(s_used+1),((((5*s_mix)+b)+1) % 251),aj,rfl,H⟩⟩

def zag (s_bytes:List UInt8) (s_used s_mix lo hi:Int):M (Int × Int × Int) :=
  M.grd (decide ((-9223372036854775808:Int)<=(hi-lo))&&decide ((hi-lo)<=(9223372036854775807:Int))) <|
  M.grd (decide ((-9223372036854775808:Int)<=((hi-lo)+1))&&decide (((hi-lo)+1)<=(9223372036854775807:Int))) <|
  M.bind (zad s_bytes s_used s_mix ((hi-lo)+1)) fun (r2,q1,q2) =>
  M.grd (decide ((-9223372036854775808:Int)<=(lo+r2))&&decide ((lo+r2)<=(9223372036854775807:Int))) <|
  M.pure ((lo+r2),q1,q2)
theorem zai {R:List Chunk} {aa:Nat} {ae:Cells} {ac:Value} (s_bytes:List UInt8) (s_used:Int) (s_mix:Int) (lo:Int) (hi:Int) (ah:Reads R ae) (ai:Sl ae ac s_bytes) {r:(Int × Int × Int)} (hM:(zag s_bytes s_used s_mix lo hi).Ends r) (w:World) (H:St w w [cBlk aa [ac,I s_used,I s_mix] 82] R):Ret Tryz.prog 11 #[Pq aa,I lo,I hi] w fun v w'=>∃ (y0:Int) (y1:Int) (y2:Int),(y0,y1,y2)=r/\v=I y0/\St w w' [cBlk aa [ac,I y1,I y2] 82] R:=by
 refine ret_of_W Tryz.func11 rfl rfl rfl ?_;obtain ⟨al,hM⟩:=M.e_gd hM;obtain ⟨am,hM⟩:=M.e_gd hM;refine kg 12 ?_;obtain ⟨ao,aj,hM⟩:=M.e_bind hM;refine s_call cf10 [Pq aa,I ((hi-lo)+1)] rfl (zac s_bytes s_used s_mix ((hi-lo)+1) (ah.app _) ai aj _ (H.gt 0)) ?_
 rintro vq ap ⟨r2,q1,q2,rfl,hvq,ag⟩
 subst vq;(try dsimp only at hM);replace H:=H.bk ag;clear ag;obtain ⟨aq,hM⟩:=M.e_gd hM;refine kg 3 ?_;refine W.ret ?_
 have ak:=M.e_pure hM
 exact ⟨_,resE_tmp rfl,⟨(lo+r2),q1,q2,ak,rfl,H⟩⟩

end Go.Proofs.YtnncijcapdnlgaaGreat
end
namespace Go.Nm
structure SOk (c u x:Int):Prop where
  u0:0<=u
  u1:u<=c
  x0:0<=x
  x1:x<251
theorem SOk.mono {c d u x:Int} (h:SOk c u x) (hd:c<=d):SOk d u x:=⟨h.u0,Int.le_trans h.u1 hd,h.x0,h.x1⟩
/-- What a stream gives: a number below n. -/
structure Nx (c n:Int) (y:Int × Int × Int):Prop where
  ok:SOk c y.2.1 y.2.2
  lt:1<=n->0<=y.1/\y.1<n
  no:n<1->y.1=0
end Go.Nm
namespace Go.Proofs.YtnncijcapdnlgaaGreat
open Go Go.Nm
theorem next_out {b:List UInt8} {c u x n:Int} (h:SOk c u x) (hc:c<=1000000000000) (hn:n<=1000000):(zad b u x n).Out (Nx (c+1) n):=by
  obtain ⟨u0,u1,x0,x1⟩:=h
  unfold zad
  refine M.o_if (fun hb=>?_) (fun hb=>?_)
  · simp only [Bool.or_eq_true,decide_eq_true_eq,beq_iff_eq] at hb
    refine M.o_pure ⟨⟨u0,by dsimp only; omega,x0,x1⟩,fun h1=>⟨Int.le_refl _,?_⟩,fun _=>rfl⟩
    dsimp only
    omega
  · simp only [Bool.or_eq_false_iff,decide_eq_false_iff_not,beq_eq_false_iff_ne,ne_eq] at hb
    have hl:(0:Int)<(b.length:Int):=by omega
    have m0:=Int.emod_nonneg u (show (b.length:Int) ≠ 0 by omega)
    have m1:=Int.emod_lt_of_pos u hl
    have d0:=Int.ediv_nonneg u0 (show (0:Int)<=(b.length:Int) by omega)
    have d1:u / (b.length:Int)<=u:=Int.ediv_le_self _ u0
    have y1:((b.getD (Int.toNat (u % (b.length:Int))) 0).toNat:Int)<256:=by
      have:=UInt8.toNat_lt (b.getD (Int.toNat (u % (b.length:Int))) 0)
      omega
    have y0:(0:Int)<=((b.getD (Int.toNat (u % (b.length:Int))) 0).toNat:Int):=Int.natCast_nonneg _
    generalize ((b.getD (Int.toNat (u % (b.length:Int))) 0).toNat:Int)=y at *
    generalize u % (b.length:Int)=m at *
    generalize u / (b.length:Int)=d at *
    have hn0:0<n:=by omega
    have fin:∀ z:Int,0<=z->0<=z % n/\z % n<n:=fun z hz=>⟨Int.emod_nonneg _ (by omega),Int.emod_lt_of_pos _ hn0⟩
    have pr:∀ z w:Int,0<=z->Nx (c+1) n (z % n,u+1,w % 251):=fun z w hz=>⟨⟨by dsimp only; omega,by dsimp only; omega,by dsimp only; omega,by dsimp only; omega⟩,fun _=>fin z hz,fun h=>by omega⟩
    refine M.o_grd (by simp only [Bool.and_eq_true,decide_eq_true_eq]; omega) (M.o_grd (by simp only [Bool.and_eq_true,decide_eq_true_eq]; omega) (M.o_grd (by simp only [Bool.and_eq_true,decide_eq_true_eq]; omega) ?_))
    refine M.o_if (fun h1=>?_) (fun h1=>?_)
    · refine M.o_grd (by simp only [Bool.and_eq_true,decide_eq_true_eq]; omega) (M.o_grd (by simp only [Bool.and_eq_true,decide_eq_true_eq]; omega) (M.o_grd (by simp only [Bool.and_eq_true,decide_eq_true_eq]; omega) (M.o_grd (by simp only [Bool.and_eq_true,decide_eq_true_eq]; omega) (M.o_grd (by simp only [Bool.and_eq_true,decide_eq_true_eq]; omega) ?_))))
      refine M.o_grd (by simp only [Bool.and_eq_true,decide_eq_true_eq]; omega) (M.o_grd (by simp only [Bool.and_eq_true,decide_eq_true_eq]; omega) (M.o_grd (by simp only [Bool.and_eq_true,decide_eq_true_eq]; omega) (M.o_grd (by simp only [Bool.and_eq_true,decide_eq_true_eq]; omega) ?_)))
      refine M.o_if (fun h2=>?_) (fun h2=>?_)
      · refine M.o_grd (by simp only [Bool.and_eq_true,decide_eq_true_eq]; omega) (M.o_grd (by simp only [Bool.and_eq_true,decide_eq_true_eq]; omega) (M.o_grd (by simp only [Bool.and_eq_true,decide_eq_true_eq]; omega) (M.o_pure (pr _ _ (by omega)))))
      · refine M.o_grd (by simp only [Bool.and_eq_true,decide_eq_true_eq]; omega) (M.o_pure (pr _ _ (by omega)))
    · refine M.o_grd (by simp only [Bool.and_eq_true,decide_eq_true_eq]; omega) (M.o_grd (by simp only [Bool.and_eq_true,decide_eq_true_eq]; omega) (M.o_grd (by simp only [Bool.and_eq_true,decide_eq_true_eq]; omega) (M.o_grd (by simp only [Bool.and_eq_true,decide_eq_true_eq]; omega) (M.o_grd (by simp only [Bool.and_eq_true,decide_eq_true_eq]; omega) ?_))))
      refine M.o_if (fun h2=>?_) (fun h2=>?_)
      · refine M.o_grd (by simp only [Bool.and_eq_true,decide_eq_true_eq]; omega) (M.o_grd (by simp only [Bool.and_eq_true,decide_eq_true_eq]; omega) (M.o_grd (by simp only [Bool.and_eq_true,decide_eq_true_eq]; omega) (M.o_pure (pr _ _ (by omega)))))
      · refine M.o_grd (by simp only [Bool.and_eq_true,decide_eq_true_eq]; omega) (M.o_pure (pr _ _ (by omega)))
theorem within_out {b:List UInt8} {c u x lo hi:Int} (h:SOk c u x) (hc:c<=1000000000000) (h0:-1000<=lo) (h1:lo<=hi) (h2:hi<=10000):(zag b u x lo hi).Out (fun y=>SOk (c+1) y.2.1 y.2.2/\lo<=y.1/\y.1<=hi):=by
  unfold zag
  refine M.o_grd (gA2 (by omega) (by omega)) (M.o_grd (gA2 (by omega) (by omega)) (M.o_bind (next_out h hc (by omega)) ?_))
  rintro ⟨r,u',x'⟩ ⟨k,hl,_⟩
  have:=hl (by omega)
  dsimp only at this k ⊢
  exact M.o_grd (gA2 (by omega) (by omega)) (M.o_pure ⟨k,by dsimp only; omega,by dsimp only; omega⟩)
end Go.Proofs.YtnncijcapdnlgaaGreat
namespace Go.Nm
theorem SOk.zero:SOk 0 0 0:=⟨Int.le_refl _,Int.le_refl _,Int.le_refl _,by decide⟩
end Go.Nm
namespace Go.Proofs.YtnncijcapdnlgaaGreat
open Go Go.Nm
theorem pick_num {v n:Int} (h:1<=n/\n<=1000000):(zcb v n).Out (fun r=>0<=r/\r<n):=by
  unfold zcb
  have h1:Int.tmod v n<n:=Int.tmod_lt_of_pos v (by omega)
  have h2:-n<Int.tmod v n:=by
    have:=Int.tmod_lt_of_pos (-v) (show 0<n by omega)
    rw [Int.neg_tmod] at this
    omega
  refine M.o_f (decide_eq_false (by omega)) (M.o_grdD (by omega) (M.o_if (fun hb=>?_) (fun hb=>?_)))
  · have:=of_decide_eq_true hb
    exact M.o_grd (gA2 (by omega) (by omega)) (M.o_pure (by omega))
  · have:=of_decide_eq_false hb
    exact M.o_pure (by omega)
end Go.Proofs.YtnncijcapdnlgaaGreat
namespace Go.Nm
open Go
/-- Whatever was known of memory is still so. -/
def Later (w w':World):Prop:=∀ (w0:World) (L R:List Chunk),St w0 w L R->St w0 w' L R
def RetE (R:Value->World->Prop):Ending->World->Prop:=fun e w=>∃ v,e = .returned v/\R v w
/-- From here to the function's end, with nothing deferred so far. -/
def WB (P:Program) (fn:Func) (n:Nat) (c:Code) (R:Value->World->Prop) (σ:Env) (w:World):Prop :=
  ∀ a,Fr [] n σ a->c.wp P (bodyPostD P fn (RetE R)) a w
/-- The end of a function that has deferred a call which leaves memory as it was. -/
def bodyQd (P:Program) (fn:Func) (R:Value->World->Prop):Post
  | .normal,σ,w | .ret,σ,w=>∀ w',Later w w'->∃ v,resE P fn σ w' v/\R v w'
  | _,_,_=>False
section
variable {P:Program} {fn:Func} {n:Nat} {R:Value->World->Prop} {σ:Env} {w:World}
theorem ret_of_WB {f:FuncId} {c:Code} {args:Array Value}
    (hf:P.funcs[f]?=some fn) (hb:fn.body=some c) (hn:fn.ntmps=n) (hle':Nat.ble args.size n=true)
    (h:WB P fn n c R (argE args) w):Ret P f args w R:=by
  have hle:=Nat.le_of_ble_eq_true hle'
  subst hn
  refine calls_of_wp_defers hf hb (h _ ⟨rfl,?_,fun k=>?_⟩)
  · simp; omega
  · simp only [argE,Array.getD_eq_getD_getElem?,Array.getElem?_append]
    by_cases hk:k<args.size
    · simp [hk]
    · rw [if_neg hk]
      simp only [Array.getElem?_replicate]
      have:args[k]?=none:=by simp; omega
      rw [this]
      split <;> rfl
theorem WB.seq {x y:Code} (h:W P n x (thenQ (WB P fn n y R) (bodyQ P fn R)) σ w):WB P fn n (.seq x y) R σ w:=by
  intro a ha
  refine wp_seq (wp_mono ((wpIn_wide (n:=0)).1 (h [] a ha)) ?_)
  rintro e a' w' ⟨s,hs,h'⟩
  cases e with
  | normal=>exact h' a' hs
  | ret =>
    obtain ⟨v,hr,hR⟩:=h'
    show Leaves P fn a'.tmps (RetE R) a'.defers .returning w'
    rw [hs.df]
    exact ⟨v,hr _ hs.get,v,rfl,hR⟩
  | _=>exact h'.elim
theorem WB.defer {id:Nat} {o1 o2:Oper} {y:Code} {d:Nat} {v:Value} {fv:Fn} {cap:Array Value} {f:FuncId} {args:Array Value}
    (hd:Nat.blt d n=true) (hd1:o1.dst=some d) (hg1:o1.guard=none) (hd2:o2.dst=none) (hg2:o2.guard=none)
    (h1:∀ w,(execOp (ev σ) o1).run P w = .ok (.value v) w) (h2:∀ w,(execOp (ev (upd σ d v)) o2).run P w = .ok (.defer { target:=.fn fv cap,args:=#[] }) w)
    (hi:∀ w,(invoke (.fn fv cap) #[]).run P w = .ok (.enter f args) w)
    (hc:∀ w,CallsD P f args .returning w fun e u' w'=>(∃ v,e = .returned v)/\u' = .returning/\Later w w')
    (hk:W P n y (bodyQd P fn R) (upd σ d v) w):WB P fn n (.seq (.region id #[o1,o2] false) y) R σ w:=by
  intro a ha
  refine wp_seq (wp_region ?_)
  have hd':d<n:=Nat.lt_of_lt_of_le (Nat.lt_succ_self d) (Nat.le_of_ble_eq_true hd)
  have h2':(execOp (a.put (some d) v).eval o2).run P w = .ok (.defer { target:=.fn fv cap,args:=#[] }) w:=by
    rw [(ha.put hd' v).eval]
    exact h2 w
  have hr:List.range (#[o1,o2]:Array Oper).size=[0,1]:=rfl
  rw [hr]
  simp only [wpOps,List.getElem?_toArray,List.getElem?_cons_zero,List.getElem?_cons_succ,Region.wanted,hg1,hg2,if_true,Oper.wp,ha.eval,h1,hd1,Oper.upon,h2',hd2]
  refine .inl (.inl ?_)
  have ha':Fr [{ target:=.fn fv cap,args:=#[] }] n (upd σ d v) ({ a.put (some d) v with defers:={ target:=.fn fv cap,args:=#[] } :: (a.put (some d) v).defers }.put none undef):=by
    have h3:=ha.put hd' v
    exact ⟨by show _ :: (a.put (some d) v).defers=_; rw [h3.df],h3.sz,h3.get⟩
  refine wp_mono ((wpIn_wide (n:=0)).1 (hk _ _ ha')) ?_
  rintro e a' w' ⟨s,hs,h'⟩
  have fin:(∀ w'',Later w' w''->∃ v,resE P fn s w'' v/\R v w'')->Leaves P fn a'.tmps (RetE R) a'.defers .returning w':=fun h'=>by
    rw [hs.df]
    refine leaves_cons (by simp) (hi w') ((hc w').mono ?_)
    rintro e u' w'' ⟨⟨v,rfl⟩,rfl,hl⟩
    obtain ⟨v',hr,hR⟩:=h' w'' hl
    exact ⟨v',hr _ hs.get,v',rfl,hR⟩
  cases e with
  | normal=>exact fin h'
  | ret=>exact fin h'
  | _=>exact h'.elim
theorem x_defer {x:Operand} {fv:Fn} {cap:Array Value} {ty:TypeId} {pos:String} {af:Array Edge} (hx:ev σ x = .func fv #[] cap) (w:World) :
    (execOp (ev σ) ⟨none,.defer { callee:=.value x,args:=#[],argTypes:=#[] },ty,pos,af,none⟩).run P w = .ok (.defer { target:=.fn fv cap,args:=#[] }) w:=by
  simp [execOp,resolve,hx,Deferred.ofValue]
theorem x_invoke {f:FuncId} (hcf:CF P f) {cap:Array Value} (w:World):(invoke (.fn (.func f) cap) #[]).run P w = .ok (.enter f cap) w:=by
  simp [invoke,run_callFunc hcf]
end
end Go.Nm
namespace Go.Proofs.YtnncijcapdnlgaaGreat
open Go Go.Nm
theorem ta_nil (w:World):(Instr.typeAssert .nilIface 20 133 true).run Tryz.prog w = .ok (.tuple #[.agg #[I 0],.bool false]) w:=by
  simp [Instr.typeAssert,go_sem]
set_option maxRecDepth 20000 in
theorem catch_idle (p q:Value) (w:World):CallsD Tryz.prog 55 #[p,q] .returning w fun e u' w'=>(∃ v,e = .returned v)/\u' = .returning/\Later w w':=by
  refine callsD_of_wpS Tryz.func55 rfl fun c₀ cs hu=>?_
  apply wpS_seq
  apply wpS_region
  simp [wpOpsS,go_sem,recoverD,hu,Exit.thenS,ta_nil]
  apply wpS_seq
  apply wpS_region
  simp [wpOpsS,go_sem,Exit.thenS]
  refine wpS_cond (t:=false) (by simp [Act.eval,Array.replicate]) ?_
  simp only [Bool.false_eq_true,if_false]
  refine wpS_of_wp (wp_skip ?_)
  cases c₀
  simp_all [bodyPostS,results,Tryz.results55]
  exact fun w0 L R H=>H.ext (New.alloc ..).ext
end Go.Proofs.YtnncijcapdnlgaaGreat
section
set_option maxRecDepth 100000
set_option maxHeartbeats 16000000
namespace Go.Proofs.YtnncijcapdnlgaaGreat
open Go Go.Nm
attribute [local irreducible] gd execOp SL SLD SLT WR
def zcm (a:Int) (ai:List Sect) (aa:List Mrk) (aj:List Rch) (ac:List Sect) (ae:List Mrk) (ag:List Rch) (ak:(Int × (List Sect) × (List Mrk) × (List Rch) × (List Sect) × (List Mrk) × (List Rch) × (Int->Option Bool) × (List Int) × (List Int))->M (Bool × (Int->Option Bool) × (List Int) × (List Int))):(Nat × (Int->Option Bool) × (List Int) × (List Int))->M ((Nat × (Int->Option Bool) × (List Int) × (List Int)) ⊕ (((Int->Option Bool) × (List Int) × (List Int)) ⊕ ((Int->Option Bool) × (List Int) × (List Int)))):=fun (s,mp,s2,s3) =>
  bif decide ((s:Int)<(aa.length:Int)) then (
  M.bind (zaj ac ae ag a (s:Int)) fun r2 =>
  bif ((!r2)||((mp (s:Int)).getD false)) then (
  M.pure (.inl (s+1,mp,s2,s3)))
  else (
  M.grd (decide ((0:Int)<=(s:Int))&&decide ((s:Int)<(16:Int))) <|
  bif !((s3.getD s 0)==(-1)) then (
  M.bind (ak ((s3.getD s 0),ai,aa,aj,ac,ae,ag,(updF mp (s:Int) true),s2,s3)) fun (r3,ah,q0,q1) =>
  bif (((s3.getD s 0)==(-1))||r3) then (
  M.grd (decide ((0:Int)<=a)&&decide (a<(16:Int))) <|
  M.pure (.inr (.inl (ah,q0.set (Int.toNat a) (s:Int),q1.set s a))))
  else (
  M.pure (.inl (s+1,ah,q0,q1))))
  else (
  bif (((s3.getD s 0)==(-1))||false) then (
  M.grd (decide ((0:Int)<=a)&&decide (a<(16:Int))) <|
  M.pure (.inr (.inl (updF mp (s:Int) true,s2.set (Int.toNat a) (s:Int),s3.set s a))))
  else (
  M.pure (.inl (s+1,updF mp (s:Int) true,s2,s3))))))
  else (
  M.pure (.inr (.inr (mp,s2,s3))))
def zbD (aa:(Int × (List Sect) × (List Mrk) × (List Rch) × (List Sect) × (List Mrk) × (List Rch) × (Int->Option Bool) × (List Int) × (List Int))->M (Bool × (Int->Option Bool) × (List Int) × (List Int))):(Int × (List Sect) × (List Mrk) × (List Rch) × (List Sect) × (List Mrk) × (List Rch) × (Int->Option Bool) × (List Int) × (List Int))->M (Bool × (Int->Option Bool) × (List Int) × (List Int)):=fun (a,ac,ae,ag,ah,ai,aj,ak,al,am) =>
  M.bind (M.iter (zcm a ac ae ag ah ai aj aa) (0,ak,al,am)) fun x_=>match x_ with
  | (.inl (ao,l,l2))=>(
  M.pure (true,ao,l,l2))
  | (.inr (ap,l3,l4))=>(
  M.pure (false,ap,l3,l4))
theorem zeO  : M.Mon zbD:=by
  intro n f g h a
  obtain ⟨a,aa,ac,ae,ag,ah,ai,aj,ak,al⟩:=a
  simp only [zbD,zcm]
  repeat' (first | exact M.le_same _ _ | exact h _ | refine M.le_grd ?_ | refine M.le_if ?_ ?_ | refine M.le_bind ?_ (fun x=>?_) | refine M.le_opt ?_ | refine M.le_iter (fun x=>?_) _ | refine zeV (M.le_yl (fun s_ a_=>?_)) _ _ _ | (rename_i x; cases x) | (rename_i x; obtain ⟨_,_⟩:=x))
def zdy (a:Int) (aa:List Sect) (ac:List Mrk) (ae:List Rch) (ag:List Sect) (ah:List Mrk) (ai:List Rch) (aj:Int->Option Bool) (ak al:List Int):M (Bool × (Int->Option Bool) × (List Int) × (List Int)):=M.fix zbD zeO (a,aa,ac,ae,ag,ah,ai,aj,ak,al)
theorem zey (n_:Nat):∀ {R:List Chunk} {av:Nat} {aJ:Nat} {aK:Cells} {aL:Value} {aM:Cells} {aN:Value} {aO:Cells} {aP:Value} {bc:Nat} {aj:Nat} {aC:Nat} {aQ:Cells} {aR:Value} {aS:Cells} {aT:Value} {aU:Cells} {aV:Value} {bf:Nat} {ak:Nat} {ac:Nat} {al:Nat} {aa:Nat} {am:Nat} (a:Int) (ax:List Sect) (ag:List Mrk) (ay:List Rch) (ao:List Sect) (ap:List Mrk) (aq:List Rch) (aD:Int->Option Bool) (az:List Int) (aA:List Int) (bg:Reads R aK) (bh:Sl aK aL ax) (bi:Reads R aM) (aW:Sl aM aN ag) (bj:Reads R aO) (bm:Sl aO aP ay) (bn:Has R (cBlk aJ [aL,aN,aP,.map (some bc)] 117)) (bo:Has R (cBlk av [Pq aJ] 83)) (aX:Reads R aQ) (aY:Sl aQ aR ao) (aZ:Reads R aS) (a7:Sl aS aT ap) (a8:Reads R aU) (ba:Sl aU aV aq) (bb:Has R (cBlk aC [aR,aT,aV,.map (some bf)] 117)) (bp:Has R (cBlk aj [.func (.func 49) #[Pq aC] #[]] 123)) (br:Has R (cBlk ak [.map (some ac)] 187)) (bt:az.length=16) (bu:aA.length=16) (bv:Has R (cBlk al [Pq aa] 169)) (bw:Has R (cBlk am [.func (.func 116) #[] #[Pq av,Pq aj,Pq ak,Pq al,Pq am]] 124)) {r:(Bool × (Int->Option Bool) × (List Int) × (List Int))} (hM:(M.fixN zbD n_ (a,ax,ag,ay,ao,ap,aq,aD,az,aA)).Ends r) (w:World) (H:St w w [cMap I B ac aD,cBlk aa (List.flatten [[],encF (α:=Int) az,encF (α:=Int) aA]) 173] R),Ret Tryz.prog 116 #[I a,Pq av,Pq aj,Pq ak,Pq al,Pq am] w fun v w'=>∃ (y0:Bool) (y1:Int->Option Bool) (y2:List Int) (y3:List Int),(y0,y1,y2,y3)=r/\v=B y0/\St w w' [cMap I B ac y1,cBlk aa (List.flatten [[],encF (α:=Int) y2,encF (α:=Int) y3]) 173] R/\y2.length=16/\y3.length=16:=by
  induction n_ with
  | zero=>intro R av aJ aK aL aM aN aO aP bc aj aC aQ aR aS aT aU aV bf ak ac al aa am a ax ag ay ao ap aq aD az aA bg bh bi aW bj bm bn bo aX aY aZ a7 a8 ba bb bp br bt bu bv bw r hM w H; exact (M.e_fail hM).elim
  | succ n_ ih =>
    intro R av aJ aK aL aM aN aO aP bc aj aC aQ aR aS aT aU aV bf ak ac al aa am a ax ag ay ao ap aq aD az aA bg bh bi aW bj bm bn bo aX aY aZ a7 a8 ba bb bp br bt bu bv bw r hM w H;refine ret_of_W Tryz.func116 rfl rfl rfl ?_
    have bT:=(aW).len_le
    refine kg 16 ?_;obtain ⟨bK,bx,bz⟩:=M.e_bind hM
    obtain ⟨bU,bx⟩:=M.e_iter bx
    refine W.loop (fun m σ W=>∃ (s:Nat) (mp:Int->Option Bool) (s2:List Int) (s3:List Int) (ρ:Env),σ=upds ρ [(0,I a),(2,Pq aj),(3,Pq ak),(4,Pq al),(5,Pq am),(14,I (ag.length:Int)),(15,I (s:Int))]/\M.iterN (zcm a ax ag ay ao ap aq (M.fixN zbD n_)) m (s,mp,s2,s3)=some bK/\St w W [cMap I B ac mp,cBlk aa (List.flatten [[],encF (α:=Int) s2,encF (α:=Int) s3]) 173] R/\s2.length=16/\s3.length=16) ?_ ?_
    ·exact ⟨_,0,aD,az,aA,_,upds_of _ _ ⟨rfl,rfl,rfl,rfl,rfl,rfl,rfl,trivial⟩,bx,H,bt,bu⟩
    rintro bV σ bW ⟨s,mp,s2,s3,ρ,rfl,bH,H,ah,ai⟩
    obtain ⟨bA,bB,bX,hM,aB⟩:=M.e_iterN bH
    simp only [zcm] at hM
    clear bH;refine kg 5 ?_
    refine W.cond (decide ((s:Int)<(ag.length:Int))) rfl (fun au=>?_) (fun au=>?_)
    ·replace hM:=M.e_t hM au
     replace au:=dI au
     refine kg 14 ?_;obtain ⟨bY,bL,hM⟩:=M.e_bind hM;refine s_callm (f:=49) (fs:=[Pq aC]) rfl cf49 [I a,I (s:Int)] rfl (zax ao ap aq a (s:Int) (aX.app _) aY (aZ.app _) a7 (a8.app _) ba (bb.app _) bL _ (H.gt 2)) ?_
     rintro vq bZ ⟨r2,rfl,hvq,aE⟩
     subst vq;(try dsimp only at hM);replace H:=H.bk aE;clear aE;refine kg 4 ?_;refine g_val (!(!r2)) (gy_f rfl) (fun hg=>q_look (kenc:=I) (venc:=B) (f:=mp) (k:=(s:Int)) (v:=B ((mp (s:Int)).getD false)) keyIntB Tryz.underlying187 Al4 (by exact (gd_of hg (.map (some ac)))) (by exact (gd_of hg (I (s:Int)))) (H.get (k:=0) rfl) false (by rw [if_neg (by decide),bool_val]))<|s_val (x_por (b:=!r2) (r:=(mp (s:Int)).getD false) rfl rfl (fun hb=>gd_of (c:=!(!r2)) (by first | exact hb | (rw [hb]; rfl) | simp_all) (B ((mp (s:Int)).getD false))))<|s_nil ?_
     refine W.cond ((!r2)||((mp (s:Int)).getD false)) rfl (fun bC=>?_) (fun bC=>?_)
     ·replace hM:=M.e_t hM bC;refine W.exit ?_;refine kg 4 ?_
      exact ⟨bA,bB,s+1,mp,s2,s3,_,upds_of _ _ ⟨rfl,rfl,rfl,rfl,rfl,rfl,rfl,trivial⟩,M.e_inl hM aB,H,ah,ai⟩
     replace hM:=M.e_f hM bC;refine kg 5 ?_;refine t_mapu (i:=0) (kenc:=I) (venc:=B) (f:=mp) (k:=(s:Int)) (v:=true) (L':=[cMap I B ac (updF mp (s:Int) true),cBlk aa (List.flatten [[],encF (α:=Int) s2,encF (α:=Int) s3]) 173]) keyIntB Tryz.underlying187 H rfl rfl rfl rfl rfl ?_;intro b6 H;refine kg 2 ?_;refine W.draw (fun W=>St w W [] R) [(0,true),(1,true),(2,true),(3,true),(4,true),(5,false),(6,true),(7,true),(8,true),(9,true),(10,true),(11,true),(12,true),(13,true),(14,false),(15,false),(16,true)] mixed (by decide +kernel) rfl ?_;intro b7 ae;replace H:=H.ext ae;clear ae
     refine ⟨(H.pk []),?_⟩
     obtain ⟨b8,hM⟩:=M.e_gd hM;refine kg 4 ?_;refine d_q rfl (fun w' H=>x_ix (v:=.pointer (some ⟨aa,16+Int.toNat (s:Int)*1,none⟩)) rfl rfl (run_indexS Tryz.underlying171 Sz3 (by omega) (by omega)))<|d_l rfl<|s_val (x_ld (v:=I (s3.getD s 0)) rfl (ldS (α:=Int) (k:=2) (off:=16) (i:=s) (f:=0) (sz:=1) 0 Sc3 (H.bl 1) rfl (sgo2 ah rfl) rfl (by decide) (by have aF:=ai; omega) (by omega) rfl)) ?_
     refine s_nil ⟨(H.pk []),?_⟩
     refine kg 7 ?_;refine d_qg (!((s3.getD s 0)==(-1))) rfl (gy_f rfl) (fun hg=>(fun w' H=>x_ix (v:=.pointer (some ⟨aa,16+Int.toNat (s:Int)*1,none⟩)) (gd_of hg (Oq aa 16)) (gd_of hg (I (s:Int))) (run_indexS Tryz.underlying171 Sz3 (by first | omega | (have ae:=hg; simp at ae; omega)) (by first | omega | (have ae:=hg; simp at ae; omega)))))<|d_l rfl<|g_val (!((s3.getD s 0)==(-1))) (gy_f rfl) (fun hg=>x_ld (v:=I (s3.getD s 0)) (gd_of hg (.pointer (some ⟨aa,16+Int.toNat (s:Int)*1,none⟩))) (ldS (α:=Int) (k:=2) (off:=16) (i:=s) (f:=0) (sz:=1) 0 Sc3 (H.bl 1) rfl (sgo2 ah rfl) rfl (by decide) (by have aF:=ai; first | omega | (have ae:=hg; simp at ae; omega)) (by omega) rfl)) ?_
     refine s_nil ⟨(H.pk []),?_⟩
     refine d_l rfl ?_
     refine g_splitV (!((s3.getD s 0)==(-1))) (B false) (gy_f rfl) (fun aG=>?_) (fun aG=>?_)
     ·replace hM:=M.e_t hM aG;obtain ⟨b9,bN,hM⟩:=M.e_bind hM;refine s_callv (f:=116) (by exact (gd_of (c:=!((s3.getD s 0)==(-1))) aG (.func (.func 116) #[] #[Pq av,Pq aj,Pq ak,Pq al,Pq am]))) cf116 [I (s3.getD s 0)] (by exact (lst1 (gd_of (c:=!((s3.getD s 0)==(-1))) aG (I (s3.getD s 0))))) (ih (s3.getD s 0) ax ag ay ao ap aq (updF mp (s:Int) true) s2 s3 (bg.app _) bh (bi.app _) aW (bj.app _) bm (bn.app _) (bo.app _) (aX.app _) aY (aZ.app _) a7 (a8.app _) ba (bb.app _) (bp.app _) (br.app _) ah ai (bv.app _) (bw.app _) bN _ (H.gt 0)) ?_
      rintro vq cb ⟨r3,aH,q0,q1,rfl,hvq,aE,bD,bE⟩
      subst vq;(try dsimp only at hM);replace H:=H.bk aE;clear aE
      refine s_nil ⟨(H.pk []),?_⟩
      refine d_q rfl (fun w' H=>x_por (b:=(s3.getD s 0)==(-1)) (r:=r3) rfl rfl (fun _=>rfl)) ?_;refine d_nil ?_
      refine W.cond (((s3.getD s 0)==(-1))||r3) rfl (fun bF=>?_) (fun bF=>?_)
      ·replace hM:=M.e_t hM bF;refine W.seq ?_;refine W.draw (fun W=>St w W [cMap I B ac aH] R) [(0,true),(1,true),(2,true),(3,true),(4,true),(5,true),(6,true),(7,true),(8,true),(10,true),(11,true),(9,false),(12,true),(13,false)] mixed (by decide +kernel) rfl ?_;intro cc ae;replace H:=H.ext ae;clear ae
       refine ⟨(H.pk [0]),?_⟩
       obtain ⟨ce,hM⟩:=M.e_gd hM;refine kg 8 ?_;refine d_q rfl (fun w' H=>x_ix (v:=.pointer (some ⟨aa,0+Int.toNat a*1,none⟩)) rfl rfl (run_indexS Tryz.underlying171 Sz3 (by omega) (by omega))) ?_;refine kg 2 ?_;refine d_l rfl ?_;refine t_stS (α:=Int) (kc:=1) (b:=aa) (k:=1) (off:=0) (i:=(Int.toNat a)) (f:=0) (sz:=1) (segs:=[[],encF (α:=Int) q0,encF (α:=Int) q1]) (segs':=[[],encF (α:=Int) (q0.set (Int.toNat a) (s:Int)),encF (α:=Int) q1]) (l:=q0) (l':=q0.set (Int.toNat a) (s:Int)) (vs:=[I (s:Int)]) (L':=[cMap I B ac aH,cBlk aa (List.flatten [[],encF (α:=Int) (q0.set (Int.toNat a) (s:Int)),encF (α:=Int) q1]) 173]) H rfl rfl rfl Sz3 rfl rfl rfl rfl (sgo1 rfl) rfl rfl (by have aF:=bD; omega) (by omega) 0 (s:Int) rfl rfl rfl rfl ?_;intro cf H
       have bI:(q0.set (Int.toNat a) (s:Int)).length=16:=List.length_set.trans bD
       refine s_nil ⟨(H.pk [0]),?_⟩
       refine d_q rfl (fun w' H=>x_ix (v:=.pointer (some ⟨aa,16+Int.toNat (s:Int)*1,none⟩)) rfl rfl (run_indexS Tryz.underlying171 Sz3 (by omega) (by omega)))<|d_l rfl ?_;refine t_stS (α:=Int) (kc:=1) (b:=aa) (k:=2) (off:=16) (i:=s) (f:=0) (sz:=1) (segs:=[[],encF (α:=Int) (q0.set (Int.toNat a) (s:Int)),encF (α:=Int) q1]) (segs':=[[],encF (α:=Int) (q0.set (Int.toNat a) (s:Int)),encF (α:=Int) (q1.set s a)]) (l:=q1) (l':=q1.set s a) (vs:=[I a]) (L':=[cMap I B ac aH,cBlk aa (List.flatten [[],encF (α:=Int) (q0.set (Int.toNat a) (s:Int)),encF (α:=Int) (q1.set s a)]) 173]) H rfl rfl rfl Sz3 rfl rfl rfl rfl (sgo2 bI rfl) rfl rfl (by have aF:=bE; omega) (by omega) 0 a rfl rfl rfl rfl ?_;intro cg H
       have bO:(q1.set s a).length=16:=List.length_set.trans bE
       refine s_nil ⟨(H.pk [0]),?_⟩
       refine kg 5 ?_;refine W.ret ?_
       have bP:=M.e_inr hM aB
       subst bP;replace hM:=bz;(try dsimp only at hM)
       have aI:=M.e_pure hM
       exact ⟨_,resE_tmp rfl,⟨true,aH,(q0.set (Int.toNat a) (s:Int)),(q1.set s a),aI,rfl,H,bI,bO⟩⟩
      replace hM:=M.e_f hM bF;refine kg 5 ?_
      exact ⟨bA,bB,s+1,aH,q0,q1,_,upds_of _ _ ⟨rfl,rfl,rfl,rfl,rfl,rfl,rfl,trivial⟩,M.e_inl hM aB,H,bD,bE⟩
     replace hM:=M.e_f hM aG
     refine s_nil ⟨(H.pk []),?_⟩
     refine d_q rfl (fun w' H=>x_por (b:=(s3.getD s 0)==(-1)) (r:=false) rfl rfl (fun hb=>gd_of (c:=!((s3.getD s 0)==(-1))) (by first | exact hb | (rw [hb]; rfl) | simp_all) (B false))) ?_;refine d_nil ?_
     refine W.cond (((s3.getD s 0)==(-1))||false) rfl (fun bG=>?_) (fun bG=>?_)
     ·replace hM:=M.e_t hM bG;refine W.seq ?_;refine W.draw (fun W=>St w W [cMap I B ac (updF mp (s:Int) true)] R) [(0,true),(1,true),(2,true),(3,true),(4,true),(5,true),(6,true),(7,true),(8,true),(10,true),(11,true),(9,false),(12,true),(13,false)] mixed (by decide +kernel) rfl ?_;intro ch ae;replace H:=H.ext ae;clear ae
      refine ⟨(H.pk [0]),?_⟩
      obtain ⟨ci,hM⟩:=M.e_gd hM;refine kg 8 ?_;refine d_q rfl (fun w' H=>x_ix (v:=.pointer (some ⟨aa,0+Int.toNat a*1,none⟩)) rfl rfl (run_indexS Tryz.underlying171 Sz3 (by omega) (by omega))) ?_;refine kg 2 ?_;refine d_l rfl ?_;refine t_stS (α:=Int) (kc:=1) (b:=aa) (k:=1) (off:=0) (i:=(Int.toNat a)) (f:=0) (sz:=1) (segs:=[[],encF (α:=Int) s2,encF (α:=Int) s3]) (segs':=[[],encF (α:=Int) (s2.set (Int.toNat a) (s:Int)),encF (α:=Int) s3]) (l:=s2) (l':=s2.set (Int.toNat a) (s:Int)) (vs:=[I (s:Int)]) (L':=[cMap I B ac (updF mp (s:Int) true),cBlk aa (List.flatten [[],encF (α:=Int) (s2.set (Int.toNat a) (s:Int)),encF (α:=Int) s3]) 173]) H rfl rfl rfl Sz3 rfl rfl rfl rfl (sgo1 rfl) rfl rfl (by have aF:=ah; omega) (by omega) 0 (s:Int) rfl rfl rfl rfl ?_;intro cj H
      have bJ:(s2.set (Int.toNat a) (s:Int)).length=16:=List.length_set.trans ah
      refine s_nil ⟨(H.pk [0]),?_⟩
      refine d_q rfl (fun w' H=>x_ix (v:=.pointer (some ⟨aa,16+Int.toNat (s:Int)*1,none⟩)) rfl rfl (run_indexS Tryz.underlying171 Sz3 (by omega) (by omega)))<|d_l rfl ?_;refine t_stS (α:=Int) (kc:=1) (b:=aa) (k:=2) (off:=16) (i:=s) (f:=0) (sz:=1) (segs:=[[],encF (α:=Int) (s2.set (Int.toNat a) (s:Int)),encF (α:=Int) s3]) (segs':=[[],encF (α:=Int) (s2.set (Int.toNat a) (s:Int)),encF (α:=Int) (s3.set s a)]) (l:=s3) (l':=s3.set s a) (vs:=[I a]) (L':=[cMap I B ac (updF mp (s:Int) true),cBlk aa (List.flatten [[],encF (α:=Int) (s2.set (Int.toNat a) (s:Int)),encF (α:=Int) (s3.set s a)]) 173]) H rfl rfl rfl Sz3 rfl rfl rfl rfl (sgo2 bJ rfl) rfl rfl (by have aF:=ai; omega) (by omega) 0 a rfl rfl rfl rfl ?_;intro ck H
      have bQ:(s3.set s a).length=16:=List.length_set.trans ai
      refine s_nil ⟨(H.pk [0]),?_⟩
      refine kg 5 ?_;refine W.ret ?_
      have bR:=M.e_inr hM aB
      subst bR;replace hM:=bz;(try dsimp only at hM)
      have aI:=M.e_pure hM
      exact ⟨_,resE_tmp rfl,⟨true,(updF mp (s:Int) true),(s2.set (Int.toNat a) (s:Int)),(s3.set s a),aI,rfl,H,bJ,bQ⟩⟩
     replace hM:=M.e_f hM bG;refine kg 5 ?_
     exact ⟨bA,bB,s+1,updF mp (s:Int) true,s2,s3,_,upds_of _ _ ⟨rfl,rfl,rfl,rfl,rfl,rfl,rfl,trivial⟩,M.e_inl hM aB,H,ah,ai⟩
    replace hM:=M.e_f hM au
    replace au:=dI au
    refine W.exit ?_
    have bS:=M.e_inr hM aB
    subst bS;replace hM:=bz;(try dsimp only at hM);refine kg 4 ?_;refine W.ret ?_
    have aI:=M.e_pure hM
    exact ⟨_,resE_tmp rfl,⟨false,mp,s2,s3,aI,rfl,H,ah,ai⟩⟩
theorem zeD {R:List Chunk} {ae:Nat} {ay:Nat} {az:Cells} {aA:Value} {aB:Cells} {aC:Value} {aD:Cells} {aE:Value} {aM:Nat} {ag:Nat} {aF:Nat} {aG:Cells} {aH:Value} {aI:Cells} {aJ:Value} {aK:Cells} {aL:Value} {aN:Nat} {ah:Nat} {ai:Nat} {aj:Nat} {ak:Nat} {al:Nat} (a:Int) (am:List Sect) (ao:List Mrk) (ap:List Rch) (aq:List Sect) (au:List Mrk) (av:List Rch) (ax:Int->Option Bool) (aa:List Int) (ac:List Int) (aO:Reads R az) (aP:Sl az aA am) (aQ:Reads R aB) (aR:Sl aB aC ao) (aS:Reads R aD) (aT:Sl aD aE ap) (aU:Has R (cBlk ay [aA,aC,aE,.map (some aM)] 117)) (aV:Has R (cBlk ae [Pq ay] 83)) (aW:Reads R aG) (aX:Sl aG aH aq) (aY:Reads R aI) (aZ:Sl aI aJ au) (a7:Reads R aK) (a8:Sl aK aL av) (ba:Has R (cBlk aF [aH,aJ,aL,.map (some aN)] 117)) (bb:Has R (cBlk ag [.func (.func 49) #[Pq aF] #[]] 123)) (bc:Has R (cBlk ah [.map (some ai)] 187)) (bf:aa.length=16) (bg:ac.length=16) (bh:Has R (cBlk aj [Pq ak] 169)) (bi:Has R (cBlk al [.func (.func 116) #[] #[Pq ae,Pq ag,Pq ah,Pq aj,Pq al]] 124)) {r:(Bool × (Int->Option Bool) × (List Int) × (List Int))} (hM:(zdy a am ao ap aq au av ax aa ac).Ends r) (w:World) (H:St w w [cMap I B ai ax,cBlk ak (List.flatten [[],encF (α:=Int) aa,encF (α:=Int) ac]) 173] R):Ret Tryz.prog 116 #[I a,Pq ae,Pq ag,Pq ah,Pq aj,Pq al] w fun v w'=>∃ (y0:Bool) (y1:Int->Option Bool) (y2:List Int) (y3:List Int),(y0,y1,y2,y3)=r/\v=B y0/\St w w' [cMap I B ai y1,cBlk ak (List.flatten [[],encF (α:=Int) y2,encF (α:=Int) y3]) 173] R/\y2.length=16/\y3.length=16:=by
  obtain ⟨n_,hM⟩:=M.e_fix hM
  exact zey n_ a am ao ap aq au av ax aa ac aO aP aQ aR aS aT aU aV aW aX aY aZ a7 a8 ba bb bc bf bg bh bi hM w H

def zc8  : ((List Int) × (List Int) × Nat)->M (((List Int) × (List Int) × Nat) ⊕ ((List Int) × (List Int))):=fun (s,s2,s3) =>
  bif decide ((s3:Int)<16) then (
  M.grd (decide ((0:Int)<=(s3:Int))&&decide ((s3:Int)<(16:Int))) <|
  M.pure (.inl (s.set s3 (-1),s2.set s3 (-1),s3+1)))
  else (
  M.pure (.inr (s,s2)))
def zcC (ac:List Sect) (aa:List Mrk) (ae:List Rch):((List Int) × (List Int) × Nat)->M (((List Int) × (List Int) × Nat) ⊕ ((List Int) × (List Int))):=fun (s4,s5,s6) =>
  bif decide ((s6:Int)<(aa.length:Int)) then (
  M.bind (zdy (s6:Int) ac aa ae ac aa ae (fun _=>none) s4 s5) fun (r2,ag,q0,q1) =>
  M.pure (.inl (q0,q1,s6+1)))
  else (
  M.pure (.inr (s4,s5)))
def zdC (aa:List Sect) (ac:List Mrk) (ae:List Rch):M ((List Int) × (List Int)) :=
  M.bind (M.iter (zc8) (List.replicate 16 0,List.replicate 16 0,0)) fun (l,l2) =>
  M.bind (M.iter (zcC aa ac ae) (l,l2,0)) fun (l3,l4) =>
  M.pure (l3,l4)
theorem zeC {R:List Chunk} {ac:Nat} {az:Cells} {aA:Value} {aB:Cells} {aC:Value} {aD:Cells} {aE:Value} {aW:Nat} (ak:List Sect) (ah:List Mrk) (al:List Rch) (aF:Reads R az) (aG:Sl az aA ak) (aH:Reads R aB) (ao:Sl aB aC ah) (aI:Reads R aD) (aJ:Sl aD aE al) (aK:Has R (cBlk ac [aA,aC,aE,.map (some aW)] 117)) {r:((List Int) × (List Int))} (hM:(zdC ak ah al).Ends r) (w:World) (H:St w w [] R):Ret Tryz.prog 88 #[Pq ac] w fun v w'=>∃ (y0:List Int) (y1:List Int) (aL:Nat),(y0,y1)=r/\v=Pq aL/\St w w' [cBlk aL (List.flatten [[],encF (α:=Int) y0,encF (α:=Int) y1]) 173] R/\y0.length=16/\y1.length=16:=by
 refine ret_of_W Tryz.func88 rfl rfl rfl ?_;refine kg 2 ?_;refine t_b1 (Pq ac) H rfl rfl ?_;intro ae br H;refine kg 4 ?_;refine s_val (x_bld (ps:=[]) (zs:=(List.flatten [[],encF (α:=Int) (List.replicate 16 0),encF (α:=Int) (List.replicate 16 0)])) (L':=(List.flatten [[],encF (α:=Int) (List.replicate 16 0),encF (α:=Int) (List.replicate 16 0)])) rfl Tryz.underlying173 Al173 rfl (Bd173 Tryz.underlying173) (.nil)) ?_;refine t_box (v:=.agg (List.flatten [[],encF (α:=Int) (List.replicate 16 0),encF (α:=Int) (List.replicate 16 0)]).toArray) (cs:=(List.flatten [[],encF (α:=Int) (List.replicate 16 0),encF (α:=Int) (List.replicate 16 0)])) H rfl rfl ?_;intro aa bt H;refine t_alloc (cs:=[.pointer none]) H Al169 rfl ?_;intro ag bu H;refine t_sw 0 0 [Pq aa] (Pq aa) H rfl rfl Sz169 rfl rfl rfl rfl ?_;intro bv H;refine kg 7 ?_;obtain ⟨aX,ap,aY⟩:=M.e_bind hM
 obtain ⟨aZ,ap⟩:=M.e_iter ap
 refine W.loop (fun m σ W=>∃ (s:List Int) (s2:List Int) (s3:Nat) (ρ:Env),σ=upds ρ [(1,Pq ae),(3,Pq ag),(11,I (s3:Int))]/\M.iterN (zc8) m (s,s2,s3)=some aX/\St w W [cBlk ag [Pq aa] 169,cBlk aa (List.flatten [[],encF (α:=Int) s,encF (α:=Int) s2]) 173,cBlk ae [Pq ac] 83] R/\s.length=16/\s2.length=16) ?_ ?_
 ·exact ⟨_,List.replicate 16 0,List.replicate 16 0,0,_,upds_of _ _ ⟨rfl,rfl,rfl,trivial⟩,ap,H,List.length_replicate,List.length_replicate⟩
 rintro bw σ bx ⟨s,s2,s3,ρ,rfl,aM,H,aq,au⟩
 obtain ⟨a7,a8,bz,hM,aN⟩:=M.e_iterN aM
 simp only [zc8] at hM
 clear aM;refine kg 5 ?_
 refine W.cond (decide ((s3:Int)<16)) rfl (fun ai=>?_) (fun ai=>?_)
 ·replace hM:=M.e_t hM ai
  replace ai:=dI ai
  refine kg 8 ?_;refine W.draw (fun W=>St w W [cBlk ag [Pq aa] 169,cBlk ae [Pq ac] 83] R) [(0,true),(1,true),(2,true),(3,true),(4,true),(5,true),(6,true),(8,true),(9,true),(7,false),(10,true),(11,false)] mixed (by decide +kernel) rfl ?_;intro bA aO;replace H:=H.ext aO;clear aO
  refine ⟨(H.pk [0,2]),?_⟩
  obtain ⟨bB,hM⟩:=M.e_gd hM;refine kg 6 ?_;refine d_q rfl (fun w' H=>x_ix (v:=.pointer (some ⟨aa,0+Int.toNat (s3:Int)*1,none⟩)) rfl rfl (run_indexS Tryz.underlying171 Sz3 (by omega) (by omega))) ?_;refine kg 2 ?_;refine d_l rfl ?_;refine t_stS (α:=Int) (kc:=1) (b:=aa) (k:=1) (off:=0) (i:=s3) (f:=0) (sz:=1) (segs:=[[],encF (α:=Int) s,encF (α:=Int) s2]) (segs':=[[],encF (α:=Int) (s.set s3 (-1)),encF (α:=Int) s2]) (l:=s) (l':=s.set s3 (-1)) (vs:=[I (-1)]) (L':=[cBlk ag [Pq aa] 169,cBlk aa (List.flatten [[],encF (α:=Int) (s.set s3 (-1)),encF (α:=Int) s2]) 173,cBlk ae [Pq ac] 83]) H rfl rfl rfl Sz3 rfl rfl rfl rfl (sgo1 rfl) rfl rfl (by have ba:=aq; omega) (by omega) 0 (-1) rfl rfl rfl rfl ?_;intro bC H
  have aP:(s.set s3 (-1)).length=16:=List.length_set.trans aq
  refine s_nil ⟨(H.pk [0,2]),?_⟩
  refine d_q rfl (fun w' H=>x_ix (v:=.pointer (some ⟨aa,16+Int.toNat (s3:Int)*1,none⟩)) rfl rfl (run_indexS Tryz.underlying171 Sz3 (by omega) (by omega)))<|d_l rfl ?_;refine t_stS (α:=Int) (kc:=1) (b:=aa) (k:=2) (off:=16) (i:=s3) (f:=0) (sz:=1) (segs:=[[],encF (α:=Int) (s.set s3 (-1)),encF (α:=Int) s2]) (segs':=[[],encF (α:=Int) (s.set s3 (-1)),encF (α:=Int) (s2.set s3 (-1))]) (l:=s2) (l':=s2.set s3 (-1)) (vs:=[I (-1)]) (L':=[cBlk ag [Pq aa] 169,cBlk aa (List.flatten [[],encF (α:=Int) (s.set s3 (-1)),encF (α:=Int) (s2.set s3 (-1))]) 173,cBlk ae [Pq ac] 83]) H rfl rfl rfl Sz3 rfl rfl rfl rfl (sgo2 aP rfl) rfl rfl (by have ba:=au; omega) (by omega) 0 (-1) rfl rfl rfl rfl ?_;intro bD H
  have bb:(s2.set s3 (-1)).length=16:=List.length_set.trans au
  refine s_nil ⟨(H.pk [0,2]),?_⟩
  refine kg 5 ?_
  exact ⟨a7,a8,s.set s3 (-1),s2.set s3 (-1),s3+1,_,upds_of _ _ ⟨rfl,rfl,rfl,trivial⟩,M.e_inl hM aN,H,aP,bb⟩
 replace hM:=M.e_f hM ai
 replace ai:=dI ai
 refine W.exit ?_
 have bc:=M.e_inr hM aN
 subst bc;replace hM:=aY;(try dsimp only at hM);refine kg 3 ?_;refine s_val (x_mf (fs:=[Pq ac]) (cs:=[]) rfl rfl) ?_;refine t_alloc (cs:=[.nilFunc]) H Al123 rfl ?_;intro am bE H;refine t_sw 0 0 [.func (.func 49) #[Pq ac] #[]] (.func (.func 49) #[Pq ac] #[]) H rfl rfl Sz123 rfl rfl rfl rfl ?_;intro bF H
 have bG:=(ao).len_le
 refine kg 13 ?_;obtain ⟨bf,av,bg⟩:=M.e_bind hM
 obtain ⟨aZ,av⟩:=M.e_iter av
 refine W.loop (fun m σ W=>∃ (s4:List Int) (s5:List Int) (s6:Nat) (ρ:Env),σ=upds ρ [(1,Pq ae),(3,Pq ag),(5,Pq am),(32,I (ah.length:Int)),(33,I (s6:Int))]/\M.iterN (zcC ak ah al) m (s4,s5,s6)=some bf/\St w W [cBlk am [.func (.func 49) #[Pq ac] #[]] 123,cBlk ag [Pq aa] 169,cBlk aa (List.flatten [[],encF (α:=Int) s4,encF (α:=Int) s5]) 173,cBlk ae [Pq ac] 83] R/\s4.length=16/\s5.length=16) ?_ ?_
 ·exact ⟨_,s,s2,0,_,upds_of _ _ ⟨rfl,rfl,rfl,rfl,rfl,trivial⟩,av,H,aq,au⟩
 rintro bH σ bI ⟨s4,s5,s6,ρ,rfl,aQ,H,aR,aS⟩
 obtain ⟨bh,bi,bJ,hM,aT⟩:=M.e_iterN aQ
 simp only [zcC] at hM
 clear aQ;refine kg 5 ?_
 refine W.cond (decide ((s6:Int)<(ah.length:Int))) rfl (fun aj=>?_) (fun aj=>?_)
 ·replace hM:=M.e_t hM aj
  replace aj:=dI aj
  refine kg 10 ?_;refine t_mkmap (κ:=Int) (ν:=Bool) I B H ?_;intro aU bK H;refine t_alloc (cs:=[.map none]) H Al187 rfl ?_;intro ax bL H;refine t_sw 0 0 [.map (some aU)] (.map (some aU)) H rfl rfl Sz187 rfl rfl rfl rfl ?_;intro bN H;refine kg 3 ?_;refine t_alloc (cs:=[.nilFunc]) H Al124 rfl ?_;intro ay bO H;refine kg 3 ?_;refine s_val (x_mf (fs:=[]) (cs:=[Pq ae,Pq am,Pq ax,Pq ag,Pq ay]) rfl rfl) ?_;refine t_sw 0 0 [.func (.func 116) #[] #[Pq ae,Pq am,Pq ax,Pq ag,Pq ay]] (.func (.func 116) #[] #[Pq ae,Pq am,Pq ax,Pq ag,Pq ay]) H rfl rfl Sz124 rfl rfl rfl rfl ?_;intro bP H;refine kg 4 ?_;obtain ⟨bQ,bj,hM⟩:=M.e_bind hM;refine s_callv (f:=116) rfl cf116 [I (s6:Int)] rfl (zeD (s6:Int) ak ah al ak ah al (fun _=>none) s4 s5 (aF.app _) aG (aH.app _) ao (aI.app _) aJ (aK.app _) (Has.here (k:=4) rfl) (aF.app _) aG (aH.app _) ao (aI.app _) aJ (aK.app _) (Has.here (k:=2) rfl) (Has.here (k:=1) rfl) aR aS (Has.here (k:=3) rfl) (Has.here (k:=0) rfl) bj _ ((H.pk [2,5,0,1,3,4,6]).gt 5)) ?_
  rintro vq bR ⟨r2,bS,q0,q1,rfl,hvq,aV,bm,bn⟩
  subst vq;(try dsimp only at hM)
  replace H:=H.pk [2,5,0,1,3,4,6] |>.bk aV
  clear aV;refine s_nil ?_;replace H:=H.pk [1,4,5,6];refine kg 4 ?_
  exact ⟨bh,bi,q0,q1,s6+1,_,upds_of _ _ ⟨rfl,rfl,rfl,rfl,rfl,trivial⟩,M.e_inl hM aT,(H.pk [1,2,0,3]),bm,bn⟩
 replace hM:=M.e_f hM aj
 replace aj:=dI aj
 refine W.exit ?_
 have bo:=M.e_inr hM aT
 subst bo;replace hM:=bg;(try dsimp only at hM);replace H:=H.pk [1,2];refine kg 5 ?_;refine W.ret ?_
 have bp:=M.e_pure hM
 exact ⟨_,resE_tmp rfl,⟨s4,s5,aa,bp,rfl,(H.pk [1]),aR,aS⟩⟩

def zcV (r0:List Int):(Int × (List Int))->M ((Int × (List Int)) ⊕ ((List Int) × (List Int))):=fun (s,l) =>
  bif s != (-1) then (
  M.grd (decide ((l.length+([(s:Int)]).length)*8<=140737488355328)) <|
  M.grd (decide ((0:Int)<=s)&&decide (s<(16:Int))) <|
  M.pure (.inl (r0.getD (Int.toNat s) 0,l++([(s:Int)]))))
  else (
  M.pure (.inr (l,l)))
def zcP (aa:List Mrk) (r0 r1:List Int):(Nat × (List (List Int)))->M ((Nat × (List (List Int))) ⊕ ((List (List Int)) × (List (List Int)))):=fun (s2,l4) =>
  bif decide ((s2:Int)<(aa.length:Int)) then (
  M.grd (decide ((0:Int)<=(s2:Int))&&decide ((s2:Int)<(16:Int))) <|
  bif (r1.getD s2 0) != (-1) then (
  M.pure (.inl (s2+1,l4)))
  else (
  M.bind (M.iter (zcV r0) ((s2:Int),[])) fun (l2,l3) =>
  M.grd (decide ((l4.length+([l3]).length)*24<=140737488355328)) <|
  M.pure (.inl (s2+1,l4++([l3])))))
  else (
  M.pure (.inr (l4,l4)))
def zd0 (ac:List Sect) (aa:List Mrk) (ae:List Rch):M (List (List Int)) :=
  M.bind (zdC ac aa ae) fun (r0,r1) =>
  M.bind (M.iter (zcP aa r0 r1) (0,[])) fun (l5,l6) =>
  M.pure l6
theorem zex {R:List Chunk} {aq:Nat} {aA:Cells} {aB:Value} {aC:Cells} {aD:Value} {aE:Cells} {aF:Value} {aR:Nat} (au:List Sect) (ac:List Mrk) (av:List Rch) (aS:Reads R aA) (aT:Sl aA aB au) (aU:Reads R aC) (aG:Sl aC aD ac) (aV:Reads R aE) (aW:Sl aE aF av) (aX:Has R (cBlk aq [aB,aD,aF,.map (some aR)] 117)) {r:(List (List Int))} (hM:(zd0 au ac av).Ends r) (w:World) (H:St w w [] R):Ret Tryz.prog 53 #[Pq aq] w fun v w'=>∃ (y0:List (List Int)) (u0:Value) (rr1:List (Raw 0)) (aH:Base),y0=r/\v=u0/\St w w' [cOwn (α:=Raw 0) 28 u0 rr1,cRo aH] R/\RepR (α:=List Int) aH.cells rr1 y0:=by
 refine ret_of_W Tryz.func53 rfl rfl rfl ?_;refine kg 7 ?_;obtain ⟨bD,aY,hM⟩:=M.e_bind hM;refine s_call cf88 [Pq aq] rfl (zeC au ac av (aS.app _) aT (aU.app _) aG (aV.app _) aW (aX.app _) aY _ (H.gt 0)) ?_
 rintro vq bE ⟨r0,r1,ak,rfl,hvq,aI,aJ,aZ⟩
 subst vq;(try dsimp only at hM);replace H:=H.bk aI;clear aI
 have bF:=(aG).len_le
 refine kg 18 ?_
 obtain ⟨aK,H⟩:=H.emptyE
 replace H:=H.nilOwn (α:=Raw 0) 28
 have a7:RepR (α:=List Int) (n:=0) aK.cells [] []:=.nil
 obtain ⟨a8,ax,ba⟩:=M.e_bind hM
 obtain ⟨bb,ax⟩:=M.e_iter ax
 refine W.loop (fun m σ W=>∃ (s2:Nat) (l4:List (List Int)) (ae:Value) (aa:List (Raw 0)) (B_l4:Base) (ρ:Env),σ=upds ρ [(3,Pq ak),(4,ae),(15,I (ac.length:Int)),(16,I (s2:Int))]/\M.iterN (zcP ac r0 r1) m (s2,l4)=some a8/\St w W [cOwn (α:=Raw 0) 28 ae aa,cRo B_l4,cBlk ak (List.flatten [[],encF (α:=Int) r0,encF (α:=Int) r1]) 173] R/\RepR (α:=List Int) B_l4.cells aa l4) ?_ ?_
 ·exact ⟨_,0,[],(.slice none 0 0),[],aK,_,upds_of _ _ ⟨rfl,rfl,rfl,rfl,trivial⟩,ax,H,a7⟩
 rintro bG σ bH ⟨s2,l4,ae,aa,B_l4,ρ,rfl,aL,H,al⟩
 obtain ⟨aM,aN,bI,hM,ay⟩:=M.e_iterN aL
 simp only [zcP] at hM
 clear aL;refine kg 5 ?_
 refine W.cond (decide ((s2:Int)<(ac.length:Int))) rfl (fun ag=>?_) (fun ag=>?_)
 ·replace hM:=M.e_t hM ag
  replace ag:=dI ag
  obtain ⟨bJ,hM⟩:=M.e_gd hM;refine kg 15 ?_;refine s_val (x_ix (v:=.pointer (some ⟨ak,16+Int.toNat (s2:Int)*1,none⟩)) rfl rfl (run_indexS Tryz.underlying171 Sz3 (by omega) (by omega)))<|s_val (x_ld (v:=I (r1.getD s2 0)) rfl (ldS (α:=Int) (k:=2) (off:=16) (i:=s2) (f:=0) (sz:=1) 0 Sc3 (H.bl 2) rfl (sgo2 aJ rfl) rfl (by decide) (by have bc:=aZ; omega) (by omega) rfl)) ?_;refine kg 2 ?_
  refine W.cond ((r1.getD s2 0) != (-1)) rfl (fun ah=>?_) (fun ah=>?_)
  ·replace hM:=M.e_t hM ah
   replace ah:=dI ah
   refine W.exit ?_;refine kg 4 ?_
   exact ⟨aM,aN,s2+1,l4,ae,aa,B_l4,_,upds_of _ _ ⟨rfl,rfl,rfl,rfl,trivial⟩,M.e_inl hM ay,H,al⟩
  replace hM:=M.e_f hM ah
  replace ah:=dI ah
  refine kg 12 ?_
  replace H:=H.nilOwn (α:=Int) 3
  obtain ⟨bf,az,bg⟩:=M.e_bind hM
  obtain ⟨bb,az⟩:=M.e_iter az
  refine W.loop (fun m σ W=>∃ (s:Int) (l:List Int) (am:Value) (ρ:Env),σ=upds ρ [(3,Pq ak),(4,ae),(6,am),(7,I s),(15,I (ac.length:Int)),(16,I (s2:Int))]/\M.iterN (zcV r0) m (s,l)=some bf/\St w W [cOwn (α:=Int) 3 am l,cOwn (α:=Raw 0) 28 ae aa,cRo B_l4,cBlk ak (List.flatten [[],encF (α:=Int) r0,encF (α:=Int) r1]) 173] R) ?_ ?_
  ·exact ⟨_,(s2:Int),[],(.slice none 0 0),_,upds_of _ _ ⟨rfl,rfl,rfl,rfl,rfl,rfl,trivial⟩,az,H⟩
  rintro bK σ bL ⟨s,l,am,ρ,rfl,aO,H⟩
  obtain ⟨bh,bi,bN,hM,aP⟩:=M.e_iterN aO
  simp only [zcV] at hM
  clear aO;refine kg 6 ?_
  refine W.cond (s != (-1)) rfl (fun ai=>?_) (fun ai=>?_)
  ·replace hM:=M.e_t hM ai
   replace ai:=dI ai
   refine kg 6 ?_;refine t_bs (α:=Int) T28 [I s] [(s:Int)] H rfl (.cons rfl (Flat.rep_enc _ (s:Int))<|.nil) rfl rfl rfl ?_;intro bj bO H;obtain ⟨bP,hM⟩:=M.e_gd hM;refine t_app (α:=Int) (k:=1) (l:=l) (l2:=[(s:Int)]) (l':=l++([(s:Int)])) (vy:=bj) T28 rfl H rfl rfl rfl (H.os 0) (H.ol 0) (rfl) (by first | omega | (simp only [List.length_nil] at *; omega)) ?_;intro bm bQ H;replace H:=H.nf;obtain ⟨bR,hM⟩:=M.e_gd hM;refine kg 7 ?_;refine s_val (x_ix (v:=.pointer (some ⟨ak,0+Int.toNat s*1,none⟩)) rfl rfl (run_indexS Tryz.underlying171 Sz3 (by omega) (by omega)))<|s_val (x_ld (v:=I (r0.getD (Int.toNat s) 0)) rfl (ldS (α:=Int) (k:=1) (off:=0) (i:=(Int.toNat s)) (f:=0) (sz:=1) 0 Sc3 (H.bl 4) rfl (sgo1 rfl) rfl (by decide) (by have bc:=aJ; omega) (by omega) rfl)) ?_;refine kg 2 ?_
   exact ⟨bh,bi,r0.getD (Int.toNat s) 0,l++([(s:Int)]),bm,_,upds_of _ _ ⟨rfl,rfl,rfl,rfl,rfl,rfl,trivial⟩,M.e_inl hM aP,(H.pk [1,2,3,4])⟩
  replace hM:=M.e_f hM ai
  replace ai:=dI ai
  refine W.exit ?_
  have bn:=M.e_inr hM aP
  subst bn;replace hM:=bg;(try dsimp only at hM);refine kg 3 ?_
  obtain ⟨bS,H⟩:=H.emptyE
  obtain ⟨bT,H,bo⟩:=H.freezeE (k:=1) rfl
  replace H:=H.nf
  have ao:=bo
  obtain ⟨bp,H,bU,br⟩:=H.joinE (i:=0) (j:=1) rfl rfl
  replace ao:=ao.mono br
  obtain ⟨aj,aQ⟩:∃ r:Raw 0,r.cs=[am]:=⟨Raw.of [am] rfl (by simp only [List.all_cons,List.all_nil,Bool.true_and,Bool.and_true,Sl.oc ao]; try rfl),rfl⟩
  have bt:RepR (α:=List Int) bp.cells [aj] [l]:=.cons (by rw [aQ]; exact ⟨_,rfl,ao⟩)<|.nil
  refine t_bs (α:=Raw 0) T99 [am] [aj] H rfl (.cons (by rw [show (Flat.enc aj:List Value)=aj.cs from rfl,aQ]; exact Sl.cells ao) (Flat.rep_enc _ _)<|.nil) rfl rfl rfl ?_;intro bu bV H;replace H:=H.nf;obtain ⟨bW,hM⟩:=M.e_gd hM
  have ap:=bt
  obtain ⟨bv,H,bw,bx⟩:=H.joinE (i:=5) (j:=1) rfl rfl
  replace al:=al.mono bw
  replace ap:=ap.mono bx
  have bz:=al.app ap
  refine t_app (α:=Raw 0) (k:=5) (l:=aa) (l2:=[aj]) (l':=aa++([aj])) (vy:=bu) T99 rfl H rfl rfl rfl (H.os 1) (H.ol 1) (rfl) (by have a_:=al.len; have b_:=ap.len; (try simp only [List.length_nil] at *); first | omega | (rw [a_,b_]; omega)) ?_;intro bA bX H;replace H:=H.nf;refine kg 2 ?_;replace H:=H.pk [0,5,6,7];refine kg 4 ?_
  exact ⟨aM,aN,s2+1,l4++([l]),bA,aa++([aj]),bv,_,upds_of _ _ ⟨rfl,rfl,rfl,rfl,trivial⟩,M.e_inl hM ay,(H.pk [1,0,3]),bz⟩
 replace hM:=M.e_f hM ag
 replace ag:=dI ag
 refine W.exit ?_
 have bB:=M.e_inr hM ay
 subst bB;replace hM:=ba;(try dsimp only at hM);refine kg 5 ?_;refine W.ret ?_
 have bC:=M.e_pure hM
 exact ⟨_,resE_tmp rfl,⟨l4,ae,aa,B_l4,bC,rfl,(H.pk [0,1]),al⟩⟩

def zcI (s_Sections:List Sect) (s_Marks:List Mrk) (s_Reaches:List Rch) (r2:List (List Int)) (l6:List Int) (s3:Nat):Nat->M (Nat ⊕ (Unit ⊕ Unit)):=fun s2 =>
  bif decide ((s2:Int)<(r2.length:Int)) then (
  M.grd (decide ((s2:Int)<(r2.length:Int))) <|
  M.grd ((!((s3:Int) != (s2:Int))||(decide ((s3:Int)<(l6.length:Int))))) <|
  M.grd ((!(((s3:Int) != (s2:Int))&&(decide ((l6.getD s3 0)<((r2.getD s3 ([])).length:Int))))||(decide ((s2:Int)<(l6.length:Int))))) <|
  M.grd ((!((((s3:Int) != (s2:Int))&&(decide ((l6.getD s3 0)<((r2.getD s3 ([])).length:Int))))&&(decide ((l6.getD s2 0)<((r2.getD s2 ([])).length:Int))))||(decide ((s3:Int)<(l6.length:Int))))) <|
  M.grd ((!((((s3:Int) != (s2:Int))&&(decide ((l6.getD s3 0)<((r2.getD s3 ([])).length:Int))))&&(decide ((l6.getD s2 0)<((r2.getD s2 ([])).length:Int))))||(decide ((0:Int)<=(l6.getD s3 0))&&decide ((l6.getD s3 0)<((r2.getD s3 ([])).length:Int))))) <|
  M.grd ((!((((s3:Int) != (s2:Int))&&(decide ((l6.getD s3 0)<((r2.getD s3 ([])).length:Int))))&&(decide ((l6.getD s2 0)<((r2.getD s2 ([])).length:Int))))||(decide ((s2:Int)<(l6.length:Int))))) <|
  M.grd ((!((((s3:Int) != (s2:Int))&&(decide ((l6.getD s3 0)<((r2.getD s3 ([])).length:Int))))&&(decide ((l6.getD s2 0)<((r2.getD s2 ([])).length:Int))))||(decide ((0:Int)<=(l6.getD s2 0))&&decide ((l6.getD s2 0)<((r2.getD s2 ([])).length:Int))))) <|
  M.bind (M.opt ((((s3:Int) != (s2:Int))&&(decide ((l6.getD s3 0)<((r2.getD s3 ([])).length:Int))))&&(decide ((l6.getD s2 0)<((r2.getD s2 ([])).length:Int)))) (zaj s_Sections s_Marks s_Reaches ((r2.getD s3 ([])).getD (Int.toNat (l6.getD s3 0)) 0) ((r2.getD s2 ([])).getD (Int.toNat (l6.getD s2 0)) 0)) false) fun r3 =>
  bif (((((s3:Int) != (s2:Int))&&(decide ((l6.getD s3 0)<((r2.getD s3 ([])).length:Int))))&&(decide ((l6.getD s2 0)<((r2.getD s2 ([])).length:Int))))&&r3) then (
  M.grd (decide ((s3:Int)<(l6.length:Int))) <|
  M.grd (decide ((-9223372036854775808:Int)<=((l6.getD s3 0)+1))&&decide (((l6.getD s3 0)+1)<=(9223372036854775807:Int))) <|
  M.pure (.inr (.inl ())))
  else (
  M.pure (.inl (s2+1))))
  else (
  M.pure (.inr (.inr ())))
def zdh (s_Sections:List Sect) (s_Marks:List Mrk) (s_Reaches:List Rch) (r2:List (List Int)) (l6:List Int):Nat->M (Nat ⊕ (((List Int) × (List Int)) ⊕ Unit)):=fun s3 =>
  bif decide ((s3:Int)<(r2.length:Int)) then (
  M.grd (decide ((s3:Int)<(r2.length:Int))) <|
  M.bind (M.iter (zcI s_Sections s_Marks s_Reaches r2 l6 s3) 0) fun x_=>match x_ with
  | (.inl (_:Unit))=>(
  M.pure (.inr (.inl (l6.set s3 ((l6.getD s3 0)+1:Int),l6.set s3 ((l6.getD s3 0)+1:Int)))))
  | (.inr (_:Unit))=>(
  M.pure (.inl (s3+1))))
  else (
  M.pure (.inr (.inr ())))
def zcL (r2:List (List Int)) (l6:List Int):(Nat × (List Int))->M ((Nat × (List Int)) ⊕ ((List Int) × (List Int))):=fun (s4,l3) =>
  bif decide ((s4:Int)<(r2.length:Int)) then (
  M.grd (decide ((s4:Int)<(r2.length:Int))) <|
  M.grd (decide ((s4:Int)<(l6.length:Int))) <|
  bif decide ((l6.getD s4 0)<((r2.getD s4 ([])).length:Int)) then (
  M.grd (decide ((0:Int)<=(l6.getD s4 0))&&decide ((l6.getD s4 0)<((r2.getD s4 ([])).length:Int))) <|
  M.grd (decide ((l3.length+([((r2.getD s4 ([])).getD (Int.toNat (l6.getD s4 0)) 0:Int)]).length)*8<=140737488355328)) <|
  M.pure (.inl (s4+1,l3++([((r2.getD s4 ([])).getD (Int.toNat (l6.getD s4 0)) 0:Int)]))))
  else (
  M.pure (.inl (s4+1,l3))))
  else (
  M.pure (.inr (l3,l3)))
def zc9 (s_Sections:List Sect) (s_Marks:List Mrk) (s_Reaches:List Rch) (r2:List (List Int)):(List Int)->M ((List Int) ⊕ ((List Int) × (List Int))):=fun l6 =>
  M.bind (M.iter (zdh s_Sections s_Marks s_Reaches r2 l6) 0) fun x_=>match x_ with
  | (.inl (l,l2))=>(
  M.pure (.inl l2))
  | (.inr (_:Unit))=>(
  M.bind (M.iter (zcL r2 l6) (0,[])) fun (l4,l5) =>
  M.grd (decide (l5.length<=1000000)) <|
  M.pure (.inr (isort l5,l6)))
def zdZ (s_Sections:List Sect) (s_Marks:List Mrk) (s_Reaches:List Rch):M ((List Int) × Int) :=
  M.bind (zar s_Sections s_Marks s_Reaches) fun x_=>match x_ with
  | (.inl r1)=>(
  bif r1 != 0 then (
  M.pure (([]),r1))
  else (
  M.fail))
  | (.inr aa)=>(
  bif aa != 0 then (
  M.fail)
  else (
  M.bind (zd0 s_Sections s_Marks s_Reaches) fun r2 =>
  M.grd (decide ((0:Int)<=(r2.length:Int))&&decide ((8:Int)*(r2.length:Int)<=281474976710656)&&decide ((r2.length:Int)<=(9223372036854775807:Int))) <|
  M.bind (M.iter (zc9 s_Sections s_Marks s_Reaches r2) (List.replicate (r2.length) (0:Int))) fun (l7,l8) =>
  M.pure (l7,0)))
theorem zfn {R:List Chunk} {bh:Cells} {aa:Value} {bi:Cells} {ac:Value} {bj:Cells} {ae:Value} (s_Sections:List Sect) (s_Marks:List Mrk) (s_Reaches:List Rch) (aP:Reads R bh) (aQ:Sl bh aa s_Sections) (aR:Reads R bi) (aS:Sl bi ac s_Marks) (aT:Reads R bj) (aU:Sl bj ae s_Reaches) {r:((List Int) × Int)} (hM:(zdZ s_Sections s_Marks s_Reaches).Ends r) (w:World) (H:St w w [] R):Ret Tryz.prog 29 #[.agg #[aa,ac,ae]] w fun v w'=>∃ (y0:List Int) (y1:Int) (u0:Value),(y0,y1)=r/\v = .tuple #[u0,I y1]/\St w w' [cOwn (α:=Int) 3 u0 y0] R:=by
 refine ret_of_W Tryz.func29 rfl rfl rfl ?_;refine kg 2 ?_;refine t_bx [aa,ac,ae] H rfl ?_;intro aq ch H;refine kg 3 ?_;refine W.jumpS 0 rfl ?_;refine kg 3 ?_;obtain ⟨ci,bC,hM⟩:=M.e_bind hM;refine s_call cf19 [.agg #[aa,ac,ae]] rfl (zbo s_Sections s_Marks s_Reaches (aP.app _) aQ (aR.app _) aS (aT.app _) aU bC _ (H.gt 1)) ?_
 rintro vq cj (⟨r1,bD,hvq,ap⟩ | ⟨bE,al,aj,bF,hvq,ap⟩)
 ·subst bD;subst vq;(try dsimp only at hM);replace H:=H.bk ap;clear ap;refine kg 12 ?_
  refine W.cond (r1 != 0) rfl (fun aG=>?_) (fun aG=>?_)
  ·replace hM:=M.e_t hM aG
   replace aG:=dI aG
   refine kg 6 ?_;refine W.ret ?_
   have aH:=M.e_pure hM
   replace H:=H.nilOwn (α:=Int) 3
   exact ⟨_,resE_tmp2 rfl,⟨([]),r1,(.slice none 0 0),aH,rfl,(H.pk [0])⟩⟩
  replace hM:=M.e_f hM aG
  exact (M.e_fail hM).elim
 subst bF;subst vq;(try dsimp only at hM);replace H:=H.bk ap;clear ap;refine kg 12 ?_
 refine W.cond (bE != 0) rfl (fun aI=>?_) (fun aI=>?_)
 ·replace hM:=M.e_t hM aI
  exact (M.e_fail hM).elim
 replace hM:=M.e_f hM aI
 replace aI:=dI aI
 refine kg 4 ?_;obtain ⟨ck,bG,hM⟩:=M.e_bind hM;refine s_call cf53 [Pq al] rfl (zex s_Sections s_Marks s_Reaches (aP.app _) aQ (aR.app _) aS (aT.app _) aU (Has.here (k:=0) rfl) bG _ (H.gt 3)) ?_
 rintro vq cn ⟨r2,ag,au,av,rfl,hvq,ap,ak⟩
 subst vq;(try dsimp only at hM);replace H:=H.bk ap;clear ap
 have co:=((rowSl rfl (H.get (k:=0) rfl) (roLe _ (H.get (k:=1) rfl)) ak)).len_le
 refine kg 5 ?_;refine s_val (x_lenS T99.und rfl (rowSl rfl (H.get (k:=0) rfl) (roLe _ (H.get (k:=1) rfl)) ak)) ?_;obtain ⟨cp,hM⟩:=M.e_gd hM;refine t_mk (α:=Int) T28 (0:Int) rfl (n:=(r2.length:Int)) H rfl rfl (by omega) (by omega) (by omega) ?_;intro bH cq H;replace H:=H.nf;refine kg 2 ?_;obtain ⟨bI,aV,bJ⟩:=M.e_bind hM
 obtain ⟨aW,aV⟩:=M.e_iter aV
 refine W.jumpL (fun m σ W=>∃ (l6:List Int) (am:Value) (ρ:Env),σ=upds ρ [(4,Pq al),(6,ag),(7,am)]/\M.iterN (zc9 s_Sections s_Marks s_Reaches r2) m l6=some bI/\St w W [cOwn (α:=Int) 3 am l6,cOwn (α:=Raw 0) 28 ag au,cRo av,cBlk al [aa,ac,ae,.map (some aj)] 117,cMemI encSpt aj (zaa s_Sections s_Marks s_Reaches),cBlk aq [aa,ac,ae] 27] R) ?_ ?_
 ·exact ⟨_,List.replicate (r2.length) (0:Int),bH,_,upds_of _ _ ⟨rfl,rfl,rfl,trivial⟩,aV,H⟩
 rintro cr σ ct ⟨l6,am,ρ,rfl,bm,H⟩
 obtain ⟨bK,bL,cv,hM,bn⟩:=M.e_iterN bm
 simp only [zc9] at hM
 clear bm
 have cw:=((rowSl rfl (H.get (k:=1) rfl) (roLe _ (H.get (k:=2) rfl)) ak)).len_le
 refine kg 4 ?_;refine s_val (x_lenS T99.und rfl (rowSl rfl (H.get (k:=1) rfl) (roLe _ (H.get (k:=2) rfl)) ak)) ?_;refine kg 3 ?_;obtain ⟨bN,aX,bo⟩:=M.e_bind hM
 obtain ⟨aW,aX⟩:=M.e_iter aX
 refine W.loop (fun m σ W=>∃ (s3:Nat) (ρ:Env),σ=upds ρ [(4,Pq al),(6,ag),(7,am),(28,ag),(29,I (r2.length:Int)),(30,I (s3:Int))]/\M.iterN (zdh s_Sections s_Marks s_Reaches r2 l6) m s3=some bN/\St w W [cOwn (α:=Int) 3 am l6,cOwn (α:=Raw 0) 28 ag au,cRo av,cBlk al [aa,ac,ae,.map (some aj)] 117,cMemI encSpt aj (zaa s_Sections s_Marks s_Reaches),cBlk aq [aa,ac,ae] 27] R) ?_ ?_
 ·exact ⟨_,0,_,upds_of _ _ ⟨rfl,rfl,rfl,rfl,rfl,rfl,trivial⟩,aX,H⟩
 rintro cx σ cy ⟨s3,ρ,rfl,bp,H⟩
 obtain ⟨bO,bP,cz,hM,aY⟩:=M.e_iterN bp
 simp only [zdh] at hM
 clear bp;refine kg 5 ?_
 refine W.cond (decide ((s3:Int)<(r2.length:Int))) rfl (fun ax=>?_) (fun ax=>?_)
 ·replace hM:=M.e_t hM ax
  replace ax:=dI ax
  obtain ⟨cA,hM⟩:=M.e_gd hM;refine kg 6 ?_;refine s_val (x_ix (v:=vat ag 1 (Int.toNat (s3:Int))) rfl rfl (Sl.ix (α:=List Int) T99.und T99.size (rowSl rfl (H.get (k:=1) rfl) (roLe _ (H.get (k:=2) rfl)) ak) (by omega) (by omega))) ?_
  obtain ⟨aM,bQ,aN⟩:=List_at (rowSl rfl (H.get (k:=1) rfl) (roLe _ (H.get (k:=2) rfl)) ak) (i:=(s3:Int)) (by omega) (by omega)
  replace aN:Sl _ aM (r2.getD s3 ([])):=aN
  have cB:=aN.len_le
  refine s_val (x_ld (v:=aM) rfl (ld_sc Sc28 (At.mono (bQ) (Cells.sup_le (H.ol 1) (roLe _ (H.get (k:=2) rfl)))))) ?_
  have cC:=((rowSl rfl (H.get (k:=1) rfl) (roLe _ (H.get (k:=2) rfl)) ak)).len_le
  refine kg 6 ?_;refine s_val (x_lenS T99.und rfl (rowSl rfl (H.get (k:=1) rfl) (roLe _ (H.get (k:=2) rfl)) ak)) ?_;refine kg 3 ?_;obtain ⟨bR,aZ,br⟩:=M.e_bind hM
  obtain ⟨aW,aZ⟩:=M.e_iter aZ
  refine W.loop (fun m σ W=>∃ (s2:Nat) (ρ:Env),σ=upds ρ [(4,Pq al),(6,ag),(7,am),(8,I (s3:Int)),(9,aM),(28,ag),(29,I (r2.length:Int)),(30,I (s3:Int)),(35,ag),(36,I (r2.length:Int)),(37,I (s2:Int))]/\M.iterN (zcI s_Sections s_Marks s_Reaches r2 l6 s3) m s2=some bR/\St w W [cOwn (α:=Int) 3 am l6,cOwn (α:=Raw 0) 28 ag au,cRo av,cBlk al [aa,ac,ae,.map (some aj)] 117,cMemI encSpt aj (zaa s_Sections s_Marks s_Reaches),cBlk aq [aa,ac,ae] 27] R) ?_ ?_
  ·exact ⟨_,0,_,upds_of _ _ ⟨rfl,rfl,rfl,rfl,rfl,rfl,rfl,rfl,rfl,rfl,rfl,trivial⟩,aZ,H⟩
  rintro cD σ cE ⟨s2,ρ,rfl,bt,H⟩
  obtain ⟨bS,bT,cF,hM,a7⟩:=M.e_iterN bt
  simp only [zcI] at hM
  clear bt;refine kg 5 ?_
  refine W.cond (decide ((s2:Int)<(r2.length:Int))) rfl (fun ay=>?_) (fun ay=>?_)
  ·replace hM:=M.e_t hM ay
   replace ay:=dI ay
   obtain ⟨cG,hM⟩:=M.e_gd hM;refine kg 6 ?_;refine s_val (x_ix (v:=vat ag 1 (Int.toNat (s2:Int))) rfl rfl (Sl.ix (α:=List Int) T99.und T99.size (rowSl rfl (H.get (k:=1) rfl) (roLe _ (H.get (k:=2) rfl)) ak) (by omega) (by omega))) ?_
   obtain ⟨a8,bU,aO⟩:=List_at (rowSl rfl (H.get (k:=1) rfl) (roLe _ (H.get (k:=2) rfl)) ak) (i:=(s2:Int)) (by omega) (by omega)
   replace aO:Sl _ a8 (r2.getD s2 ([])):=aO
   have cH:=aO.len_le
   refine s_val (x_ld (v:=a8) rfl (ld_sc Sc28 (At.mono (bU) (Cells.sup_le (H.ol 1) (roLe _ (H.get (k:=2) rfl)))))) ?_;refine kg 4 ?_;refine W.draw (fun W=>St w W [cOwn (α:=Int) 3 am l6,cOwn (α:=Raw 0) 28 ag au,cRo av,cBlk al [aa,ac,ae,.map (some aj)] 117,cMemI encSpt aj (zaa s_Sections s_Marks s_Reaches),cBlk aq [aa,ac,ae] 27] R) [(0,true),(1,true),(2,true),(3,true),(4,true),(5,true),(6,true),(7,true),(8,true),(9,true),(10,true),(11,true),(12,true),(13,true),(14,true),(15,true),(16,true),(17,true),(18,true),(19,true),(20,true),(21,true),(22,true),(23,true),(24,true),(25,true),(26,true),(27,true),(28,true),(29,true),(30,true),(31,true),(32,true),(33,true),(34,true),(35,true),(36,true),(37,false),(38,true)] mixed (by decide +kernel) rfl ?_;intro cI ao;replace H:=H.ext ao;clear ao
   refine ⟨(H.pk [0,1,2,3,4,5]),?_⟩
   obtain ⟨ba,hM⟩:=M.e_grd hM
   replace ba:=M.imp_of ba
   simp only [Bool.and_eq_true,decide_eq_true_eq] at ba
   refine kg 11 ?_;refine d_q rfl (fun w' H=>x_pand (b:=(s3:Int) != (s2:Int)) (r:=decide ((l6.getD s3 0)<((r2.getD s3 ([])).length:Int))) rfl (fun hb=>gd_of (c:=(s3:Int) != (s2:Int)) (by first | exact hb | (rw [hb]; rfl) | simp_all) (B (decide ((l6.getD s3 0)<((r2.getD s3 ([])).length:Int))))) rfl) ?_;obtain ⟨bb,hM⟩:=M.e_grd hM
   replace bb:=M.imp_of bb
   simp only [Bool.and_eq_true,decide_eq_true_eq] at bb
   refine kg 8 ?_;refine d_q rfl (fun w' H=>x_pand (b:=(((s3:Int) != (s2:Int))&&(decide ((l6.getD s3 0)<((r2.getD s3 ([])).length:Int))))) (r:=decide ((l6.getD s2 0)<((r2.getD s2 ([])).length:Int))) rfl (fun hb=>gd_of (c:=(((s3:Int) != (s2:Int))&&(decide ((l6.getD s3 0)<((r2.getD s3 ([])).length:Int))))) (by first | exact hb | (rw [hb]; rfl) | simp_all) (B (decide ((l6.getD s2 0)<((r2.getD s2 ([])).length:Int))))) rfl) ?_;obtain ⟨az,hM⟩:=M.e_grd hM
   replace az:=M.imp_of az
   simp only [Bool.and_eq_true,decide_eq_true_eq] at az
   obtain ⟨aA,hM⟩:=M.e_grd hM
   replace aA:=M.imp_of aA
   simp only [Bool.and_eq_true,decide_eq_true_eq] at aA
   refine kg 8 ?_;refine d_qg ((((s3:Int) != (s2:Int))&&(decide ((l6.getD s3 0)<((r2.getD s3 ([])).length:Int))))&&(decide ((l6.getD s2 0)<((r2.getD s2 ([])).length:Int)))) rfl (gy_t rfl) (fun hg=>(fun w' H=>x_ld (v:=I ((r2.getD s3 ([])).getD (Int.toNat (l6.getD s3 0)) 0)) (gd_of hg (vat aM 1 (Int.toNat (l6.getD s3 0)))) (ld_sc Sc3 (At.mono (Int_at aN (i:=l6.getD s3 0) (by have ah:=az.resolve_left (by rw [hg]; decide); have ai:=aA.resolve_left (by rw [hg]; decide); first | exact ah | exact ah.1 | exact ah.2 | exact ai | exact ai.1 | exact ai.2 | omega | (have ao:=hg; simp at ao; omega)) (by have ah:=az.resolve_left (by rw [hg]; decide); have ai:=aA.resolve_left (by rw [hg]; decide); first | exact ah | exact ah.1 | exact ah.2 | exact ai | exact ai.1 | exact ai.2 | omega | (have ao:=hg; simp at ao; omega))) (Cells.sup_le (H.ol 1) (roLe _ (H.get (k:=2) rfl))))))) ?_;obtain ⟨aJ,hM⟩:=M.e_grd hM
   replace aJ:=M.imp_of aJ
   simp only [Bool.and_eq_true,decide_eq_true_eq] at aJ
   obtain ⟨aK,hM⟩:=M.e_grd hM
   replace aK:=M.imp_of aK
   simp only [Bool.and_eq_true,decide_eq_true_eq] at aK
   refine kg 6 ?_;refine d_qg ((((s3:Int) != (s2:Int))&&(decide ((l6.getD s3 0)<((r2.getD s3 ([])).length:Int))))&&(decide ((l6.getD s2 0)<((r2.getD s2 ([])).length:Int)))) rfl (gy_t rfl) (fun hg=>(fun w' H=>x_ld (v:=I ((r2.getD s2 ([])).getD (Int.toNat (l6.getD s2 0)) 0)) (gd_of hg (vat a8 1 (Int.toNat (l6.getD s2 0)))) (ld_sc Sc3 (At.mono (Int_at aO (i:=l6.getD s2 0) (by have ah:=az.resolve_left (by rw [hg]; decide); have ai:=aA.resolve_left (by rw [hg]; decide); have aB:=aJ.resolve_left (by rw [hg]; decide); have aC:=aK.resolve_left (by rw [hg]; decide); first | exact ah | exact ah.1 | exact ah.2 | exact ai | exact ai.1 | exact ai.2 | exact aB | exact aB.1 | exact aB.2 | exact aC | exact aC.1 | exact aC.2 | omega | (have ao:=hg; simp at ao; omega)) (by have ah:=az.resolve_left (by rw [hg]; decide); have ai:=aA.resolve_left (by rw [hg]; decide); have aB:=aJ.resolve_left (by rw [hg]; decide); have aC:=aK.resolve_left (by rw [hg]; decide); first | exact ah | exact ah.1 | exact ah.2 | exact ai | exact ai.1 | exact ai.2 | exact aB | exact aB.1 | exact aB.2 | exact aC | exact aC.1 | exact aC.2 | omega | (have ao:=hg; simp at ao; omega))) (Cells.sup_le (H.ol 1) (roLe _ (H.get (k:=2) rfl)))))))<|d_l rfl ?_;obtain ⟨r3,bV,hM⟩:=M.e_bind hM;refine t_gcall ((((s3:Int) != (s2:Int))&&(decide ((l6.getD s3 0)<((r2.getD s3 ([])).length:Int))))&&(decide ((l6.getD s2 0)<((r2.getD s2 ([])).length:Int)))) (gy_t rfl) cf49 (B r3) (fun _=>[Pq al,I ((r2.getD s3 ([])).getD (Int.toNat (l6.getD s3 0)) 0),I ((r2.getD s2 ([])).getD (Int.toNat (l6.getD s2 0)) 0)]) (fun hg=>lst3 (gd_of hg (Pq al)) (gd_of hg (I ((r2.getD s3 ([])).getD (Int.toNat (l6.getD s3 0)) 0))) (gd_of hg (I ((r2.getD s2 ([])).getD (Int.toNat (l6.getD s2 0)) 0)))) H (fun hg=>(zax s_Sections s_Marks s_Reaches ((r2.getD s3 ([])).getD (Int.toNat (l6.getD s3 0)) 0) ((r2.getD s2 ([])).getD (Int.toNat (l6.getD s2 0)) 0) (aP.app _) aQ (aR.app _) aS (aT.app _) aU (Has.here (k:=3) rfl) (M.e_opt bV hg) _ (H.give (A:=[]) rfl)).mono fun v_ w_ ⟨y_,aH,bW,H_⟩=>by subst aH; exact ⟨bW,H.via H_⟩) ?_;intro cJ H
   refine s_nil ⟨(H.pk [0,1,2,3,4,5]),?_⟩
   refine d_q rfl (fun w' H=>x_pand (b:=((((s3:Int) != (s2:Int))&&(decide ((l6.getD s3 0)<((r2.getD s3 ([])).length:Int))))&&(decide ((l6.getD s2 0)<((r2.getD s2 ([])).length:Int))))) (r:=r3) rfl (fun hb=>gd_of (c:=((((s3:Int) != (s2:Int))&&(decide ((l6.getD s3 0)<((r2.getD s3 ([])).length:Int))))&&(decide ((l6.getD s2 0)<((r2.getD s2 ([])).length:Int))))) (by first | exact hb | (rw [hb]; rfl) | simp_all) (B r3)) rfl) ?_;refine d_nil ?_
   refine W.cond (((((s3:Int) != (s2:Int))&&(decide ((l6.getD s3 0)<((r2.getD s3 ([])).length:Int))))&&(decide ((l6.getD s2 0)<((r2.getD s2 ([])).length:Int))))&&r3) rfl (fun bc=>?_) (fun bc=>?_)
   ·replace hM:=M.e_t hM bc;obtain ⟨cK,hM⟩:=M.e_gd hM;obtain ⟨cL,hM⟩:=M.e_gd hM;refine kg 8 ?_;refine t_ost (k:=0) (i:=(s3:Int)) (l:=l6) (l':=l6.set s3 ((l6.getD s3 0)+1:Int)) (val:=I ((l6.getD s3 0)+1)) (L':=[cOwn (α:=Int) 3 am (l6.set s3 ((l6.getD s3 0)+1:Int)),cOwn (α:=Raw 0) 28 ag au,cRo av,cBlk al [aa,ac,ae,.map (some aj)] 117,cMemI encSpt aj (zaa s_Sections s_Marks s_Reaches),cBlk aq [aa,ac,ae] 27]) H rfl Sz3 (by omega) (by omega) ((l6.getD s3 0)+1:Int) rfl rfl rfl rfl rfl ?_;intro cM H;refine s_nil ?_;refine W.goto ?_
    have bX:=M.e_inr hM a7
    subst bX;replace hM:=br;(try dsimp only at hM)
    have bY:=M.e_inr hM aY
    subst bY;replace hM:=bo;(try dsimp only at hM)
    exact ⟨rfl,bK,bL,l6.set s3 ((l6.getD s3 0)+1:Int),am,_,upds_of _ _ ⟨rfl,rfl,rfl,trivial⟩,M.e_inl hM bn,H⟩
   replace hM:=M.e_f hM bc;refine kg 5 ?_
   exact ⟨bS,bT,s2+1,_,upds_of _ _ ⟨rfl,rfl,rfl,rfl,rfl,rfl,rfl,rfl,rfl,rfl,rfl,trivial⟩,M.e_inl hM a7,H⟩
  replace hM:=M.e_f hM ay
  replace ay:=dI ay
  refine W.exit ?_
  have bZ:=M.e_inr hM a7
  subst bZ;replace hM:=br;(try dsimp only at hM);refine kg 4 ?_
  exact ⟨bO,bP,s3+1,_,upds_of _ _ ⟨rfl,rfl,rfl,rfl,rfl,rfl,trivial⟩,M.e_inl hM aY,H⟩
 replace hM:=M.e_f hM ax
 replace ax:=dI ax
 refine W.exit ?_
 have b6:=M.e_inr hM aY
 subst b6;replace hM:=bo;(try dsimp only at hM)
 have cN:=((rowSl rfl (H.get (k:=1) rfl) (roLe _ (H.get (k:=2) rfl)) ak)).len_le
 refine kg 8 ?_;refine s_val (x_lenS T99.und rfl (rowSl rfl (H.get (k:=1) rfl) (roLe _ (H.get (k:=2) rfl)) ak)) ?_;refine kg 3 ?_
 replace H:=H.nilOwn (α:=Int) 3
 obtain ⟨b7,bf,b8⟩:=M.e_bind hM
 obtain ⟨aW,bf⟩:=M.e_iter bf
 refine W.loop (fun m σ W=>∃ (s4:Nat) (l3:List Int) (aD:Value) (ρ:Env),σ=upds ρ [(7,am),(12,aD),(89,ag),(90,I (r2.length:Int)),(91,I (s4:Int))]/\M.iterN (zcL r2 l6) m (s4,l3)=some b7/\St w W [cOwn (α:=Int) 3 aD l3,cOwn (α:=Int) 3 am l6,cOwn (α:=Raw 0) 28 ag au,cRo av,cBlk al [aa,ac,ae,.map (some aj)] 117,cMemI encSpt aj (zaa s_Sections s_Marks s_Reaches),cBlk aq [aa,ac,ae] 27] R) ?_ ?_
 ·exact ⟨_,0,[],(.slice none 0 0),_,upds_of _ _ ⟨rfl,rfl,rfl,rfl,rfl,trivial⟩,bf,H⟩
 rintro cO σ cQ ⟨s4,l3,aD,ρ,rfl,bu,H⟩
 obtain ⟨bv,bw,cS,hM,bg⟩:=M.e_iterN bu
 simp only [zcL] at hM
 clear bu;refine kg 5 ?_
 refine W.cond (decide ((s4:Int)<(r2.length:Int))) rfl (fun aE=>?_) (fun aE=>?_)
 ·replace hM:=M.e_t hM aE
  replace aE:=dI aE
  obtain ⟨cT,hM⟩:=M.e_gd hM;refine kg 6 ?_;refine s_val (x_ix (v:=vat ag 1 (Int.toNat (s4:Int))) rfl rfl (Sl.ix (α:=List Int) T99.und T99.size (rowSl rfl (H.get (k:=2) rfl) (roLe _ (H.get (k:=3) rfl)) ak) (by omega) (by omega))) ?_
  obtain ⟨bx,b9,aL⟩:=List_at (rowSl rfl (H.get (k:=2) rfl) (roLe _ (H.get (k:=3) rfl)) ak) (i:=(s4:Int)) (by omega) (by omega)
  replace aL:Sl _ bx (r2.getD s4 ([])):=aL
  have cU:=aL.len_le
  refine s_val (x_ld (v:=bx) rfl (ld_sc Sc28 (At.mono (b9) (Cells.sup_le (H.ol 2) (roLe _ (H.get (k:=3) rfl)))))) ?_;obtain ⟨cV,hM⟩:=M.e_gd hM
  have cW:=(aL).len_le
  refine kg 13 ?_
  refine W.cond (decide ((l6.getD s4 0)<((r2.getD s4 ([])).length:Int))) rfl (fun aF=>?_) (fun aF=>?_)
  ·replace hM:=M.e_t hM aF
   replace aF:=dI aF
   obtain ⟨cX,hM⟩:=M.e_gd hM;refine kg 8 ?_;refine s_val (x_ld (v:=I ((r2.getD s4 ([])).getD (Int.toNat (l6.getD s4 0)) 0)) rfl (ld_sc Sc3 (At.mono (Int_at aL (i:=l6.getD s4 0) (by omega) (by omega)) (Cells.sup_le (H.ol 2) (roLe _ (H.get (k:=3) rfl)))))) ?_;refine t_bs (α:=Int) T28 [I ((r2.getD s4 ([])).getD (Int.toNat (l6.getD s4 0)) 0)] [((r2.getD s4 ([])).getD (Int.toNat (l6.getD s4 0)) 0:Int)] H rfl (.cons rfl (Flat.rep_enc _ ((r2.getD s4 ([])).getD (Int.toNat (l6.getD s4 0)) 0:Int))<|.nil) rfl rfl rfl ?_;intro cb cY H;obtain ⟨cZ,hM⟩:=M.e_gd hM;refine t_app (α:=Int) (k:=1) (l:=l3) (l2:=[((r2.getD s4 ([])).getD (Int.toNat (l6.getD s4 0)) 0:Int)]) (l':=l3++([((r2.getD s4 ([])).getD (Int.toNat (l6.getD s4 0)) 0:Int)])) (vy:=cb) T28 rfl H rfl rfl rfl (H.os 0) (H.ol 0) (rfl) (by first | omega | (simp only [List.length_nil] at *; omega)) ?_;intro cc c8 H;replace H:=H.nf;refine kg 6 ?_
   exact ⟨bv,bw,s4+1,l3++([((r2.getD s4 ([])).getD (Int.toNat (l6.getD s4 0)) 0:Int)]),cc,_,upds_of _ _ ⟨rfl,rfl,rfl,rfl,rfl,trivial⟩,M.e_inl hM bg,(H.pk [1,2,3,4,5,6,7])⟩
  replace hM:=M.e_f hM aF
  replace aF:=dI aF
  refine kg 5 ?_
  exact ⟨bv,bw,s4+1,l3,aD,_,upds_of _ _ ⟨rfl,rfl,rfl,rfl,rfl,trivial⟩,M.e_inl hM bg,H⟩
 replace hM:=M.e_f hM aE
 replace aE:=dI aE
 refine W.exit ?_
 have ce:=M.e_inr hM bg
 subst ce;replace hM:=b8;(try dsimp only at hM);obtain ⟨c9,hM⟩:=M.e_gd hM;refine kg 3 ?_;refine s_call cf54 [aD] rfl (sort_any (H.get (k:=0) rfl) (by omega)) ?_
 rintro _ cf ⟨rfl,bz,bA,bB⟩
 replace H:St w cf [cOwn (α:=Int) 3 aD (isort l3),cOwn (α:=Int) 3 am l6,cOwn (α:=Raw 0) 28 ag au,cRo av,cBlk al [aa,ac,ae,.map (some aj)] 117,cMemI encSpt aj (zaa s_Sections s_Marks s_Reaches),cBlk aq [aa,ac,ae] 27] R:=H.sorted (k:=0) rfl bz bA bB rfl
 clear bz bA bB
 refine kg 7 ?_;refine W.ret ?_
 have cg:=M.e_inr hM bn
 subst cg;replace hM:=bJ;(try dsimp only at hM)
 have aH:=M.e_pure hM
 exact ⟨_,resE_tmp2 rfl,⟨(isort l3),0,aD,aH,rfl,(H.pk [0])⟩⟩

def zc1 (i:Int) (ac:List Sect) (aa:List Mrk) (ae:List Rch):M Bool :=
  M.bind (zab i 0 ((aa.length:Int)-1)) fun r2 =>
  M.pure r2
theorem zeG {R:List Chunk} {ac:Nat} {ae:Nat} {ag:Cells} {ah:Value} {ai:Cells} {aj:Value} {ak:Cells} {al:Value} {aq:Nat} (i:Int) (am:List Sect) (aa:List Mrk) (ao:List Rch) (ay:Reads R ag) (az:Sl ag ah am) (aA:Reads R ai) (au:Sl ai aj aa) (aB:Reads R ak) (aC:Sl ak al ao) (aD:Has R (cBlk ae [ah,aj,al,.map (some aq)] 117)) (aE:Has R (cBlk ac [Pq ae] 83)) {r:Bool} (hM:(zc1 i am aa ao).Ends r) (w:World) (H:St w w [] R):Ret Tryz.prog 91 #[I i,Pq ac] w fun v w'=>∃ (y0:Bool),y0=r/\v=B y0/\St w w' [] R:=by
 refine ret_of_W Tryz.func91 rfl rfl rfl ?_
 have aF:=(au).len_le
 refine kg 14 ?_;obtain ⟨aG,av,hM⟩:=M.e_bind hM;refine s_call cf20 [I i,I 0,I ((aa.length:Int)-1)] rfl (zae i 0 ((aa.length:Int)-1) av _ (H.gt 0)) ?_
 rintro vq aH ⟨r2,rfl,hvq,ap⟩
 subst vq;(try dsimp only at hM);replace H:=H.bk ap;clear ap;refine kg 2 ?_;refine W.ret ?_
 have ax:=M.e_pure hM
 exact ⟨_,resE_tmp rfl,⟨r2,ax,rfl,H⟩⟩

def zdn (j:Int) (aa:List Sect) (ac:List Mrk) (ae:List Rch) (ag:Int):M Bool :=
  M.bind (zaj aa ac ae ag j) fun r2 =>
  M.bind (M.opt (!r2) (zaj aa ac ae j ag) false) fun r3 =>
  M.pure (r2||r3)
theorem zeZ {R:List Chunk} {aj:Nat} {ac:Nat} {ak:Cells} {al:Value} {am:Cells} {ao:Value} {ap:Cells} {aq:Value} {aE:Nat} {au:Nat} (j:Int) (ae:List Sect) (ag:List Mrk) (ah:List Rch) (aa:Int) (av:Reads R ak) (ax:Sl ak al ae) (ay:Reads R am) (az:Sl am ao ag) (aA:Reads R ap) (aB:Sl ap aq ah) (aC:Has R (cBlk ac [al,ao,aq,.map (some aE)] 117)) (aI:Has R (cBlk aj [Pq ac] 83)) (aJ:Has R (cBlk au [I aa] 3)) {r:Bool} (hM:(zdn j ae ag ah aa).Ends r) (w:World) (H:St w w [] R):Ret Tryz.prog 92 #[I j,Pq aj,Pq au] w fun v w'=>∃ (y0:Bool),y0=r/\v=B y0/\St w w' [] R:=by
 refine ret_of_W Tryz.func92 rfl rfl rfl ?_;refine kg 9 ?_;obtain ⟨aK,aF,hM⟩:=M.e_bind hM;refine s_call cf49 [Pq ac,I aa,I j] rfl (zax ae ag ah aa j (av.app _) ax (ay.app _) az (aA.app _) aB (aC.app _) aF _ (H.gt 0)) ?_
 rintro vq aL ⟨r2,rfl,hvq,aD⟩
 subst vq;(try dsimp only at hM);replace H:=H.bk aD;clear aD;refine kg 4 ?_;obtain ⟨r3,aG,hM⟩:=M.e_bind hM;refine t_gcall (!r2) (gy_f rfl) cf49 (B r3) (fun _=>[Pq ac,I j,I aa]) (fun hg=>lst3 (gd_of hg (Pq ac)) (gd_of hg (I j)) (gd_of hg (I aa))) H (fun hg=>(zax ae ag ah j aa (av.app _) ax (ay.app _) az (aA.app _) aB (aC.app _) (M.e_opt aG hg) _ (H.give (A:=[]) rfl)).mono fun v_ w_ ⟨y_,ai,aH,H_⟩=>by subst ai; exact ⟨aH,H.via H_⟩) ?_;intro aM H;refine s_val (x_por (b:=r2) (r:=r3) rfl rfl (fun hb=>gd_of (c:=!r2) (by first | exact hb | (rw [hb]; rfl) | simp_all) (B r3)))<|zA (B (r2||r3)) rfl<|s_nil ?_;refine W.ret ?_
 have ai:=M.e_pure hM
 exact ⟨_,resE_tmp rfl,⟨(r2||r3),ai,rfl,H⟩⟩

def zdm (aa:List Sect) (ac:List Mrk) (ae:List Rch) (row:List Int):((List Bool) × Bool × Nat)->M (((List Bool) × Bool × Nat) ⊕ (Bool × (List Bool))):=fun (ar,out,s) =>
  bif decide ((s:Int)<(row.length:Int)) then (
  M.grd (decide ((s:Int)<(row.length:Int))) <|
  M.grd (decide ((0:Int)<=(row.getD s 0))&&decide ((row.getD s 0)<(16:Int))) <|
  M.bind (M.opt out (zaw (row.take s) (fun ag=>zdn ag aa ac ae (row.getD s 0))) false) fun r3 =>
  M.pure (.inl (ar.set (Int.toNat (row.getD s 0)) true,(out&&r3),s+1)))
  else (
  M.pure (.inr (out,ar)))
def zdO (aa:List Sect) (ac:List Mrk) (ae:List Rch) (row:List Int) (met:List Bool):M (Bool × (List Bool)) :=
  M.bind (M.opt (!((row.length:Int)==0)) (zaw row (fun ag=>zc1 ag aa ac ae)) false) fun r2 =>
  bif (((row.length:Int)==0)||(!r2)) then (
  M.fail)
  else (
  M.bind (M.iter (zdm aa ac ae row) (met,true,0)) fun (out2,ah) =>
  M.pure (out2,ah))
theorem zeT {R:List Chunk} {al:Nat} {aJ:Cells} {aK:Value} {aL:Cells} {aM:Value} {aN:Cells} {aO:Value} {a7:Nat} {aP:Cells} {ac:Value} {ae:Nat} (ag:List Sect) (ah:List Mrk) (ai:List Rch) (row:List Int) (met:List Bool) (aQ:Reads R aJ) (aR:Sl aJ aK ag) (aS:Reads R aL) (aT:Sl aL aM ah) (aU:Reads R aN) (aV:Sl aN aO ai) (aW:Has R (cBlk al [aK,aM,aO,.map (some a7)] 117)) (aX:Reads R aP) (au:Sl aP ac row) (a8:met.length=16) {r:(Bool × (List Bool))} (hM:(zdO ag ah ai row met).Ends r) (w:World) (H:St w w [cBlk ae (encB met) 135] R):Ret Tryz.prog 56 #[Pq al,ac,Pq ae] w fun v w'=>∃ (y0:Bool) (y1:List Bool),(y0,y1)=r/\v=B y0/\St w w' [cBlk ae (encB y1) 135] R/\y1.length=16:=by
 refine ret_of_W Tryz.func56 rfl rfl rfl ?_;refine kg 2 ?_;refine t_b1 (Pq al) H rfl rfl ?_;intro aa bu H
 have bv:=(au).len_le
 refine kg 10 ?_;refine g_val (!((row.length:Int)==0)) (gy_f rfl) (fun hg=>x_mf (fs:=[]) (cs:=[Pq aa]) rfl rfl) ?_;obtain ⟨r2,ba,hM⟩:=M.e_bind hM;refine t_gcall (!((row.length:Int)==0)) (gy_f rfl) cf46 (B r2) (fun _=>[ac,.func (.func 91) #[] #[Pq aa]]) (fun hg=>lst2 (gd_of hg (ac)) (gd_of hg (.func (.func 91) #[] #[Pq aa]))) H (fun hg=>(zcf row (fun aj=>zc1 aj ag ah ai) (aX.app _) au ⟨91,[Pq aa],rfl,cf91,fun ap bb bc ax aj bf ay bg az aA=>by obtain rfl:=Arg.int az; exact (zeG aj ag ah ai (Reads.app (aQ.app _) _) aR (Reads.app (aS.app _) _) aT (Reads.app (aU.app _) _) aV (Has.app (aW.app _) _) (Has.app (Has.here (k:=0) rfl) _) aA ap (St.refl ay)).mono fun ax ap ⟨bh,aB,aC,aD⟩=>by subst aB; exact ⟨aC,aD⟩⟩ (M.e_opt ba hg) _ (H.give (A:=[]) rfl)).mono fun v_ w_ ⟨y_,aq,aE,H_⟩=>by subst aq; exact ⟨aE,H.via H_⟩) ?_;intro bw H;refine kg 1 ?_;refine s_val (x_por (b:=(row.length:Int)==0) (r:=!r2) rfl rfl (fun hb=>gd_of (c:=!((row.length:Int)==0)) (by first | exact hb | (rw [hb]; rfl) | simp_all) (B (!r2))))<|s_nil ?_
 refine W.cond (((row.length:Int)==0)||(!r2)) rfl (fun aF=>?_) (fun aF=>?_)
 ·replace hM:=M.e_t hM aF;refine W.region rfl ?_
  exact (M.e_fail hM).elim
 replace hM:=M.e_f hM aF
 have bx:=(au).len_le
 refine kg 13 ?_;obtain ⟨bi,aG,bj⟩:=M.e_bind hM
 obtain ⟨bz,aG⟩:=M.e_iter aG
 refine W.loop (fun m σ W=>∃ (ar:List Bool) (out:Bool) (s:Nat) (ρ:Env),σ=upds ρ [(1,ac),(2,Pq ae),(3,Pq aa),(7,B out),(21,ac),(22,I (row.length:Int)),(23,I (s:Int))]/\M.iterN (zdm ag ah ai row) m (ar,out,s)=some bi/\St w W [cBlk aa [Pq al] 83,cBlk ae (encB ar) 135] R/\ar.length=16) ?_ ?_
 ·exact ⟨_,met,true,0,_,upds_of _ _ ⟨rfl,rfl,rfl,rfl,rfl,rfl,rfl,trivial⟩,aG,H,a8⟩
 rintro bA σ bB ⟨ar,out,s,ρ,rfl,aY,H,aH⟩
 obtain ⟨bm,bn,bC,hM,aZ⟩:=M.e_iterN aY
 simp only [zdm] at hM
 clear aY;refine kg 5 ?_
 refine W.cond (decide ((s:Int)<(row.length:Int))) rfl (fun ak=>?_) (fun ak=>?_)
 ·replace hM:=M.e_t hM ak
  replace ak:=dI ak
  obtain ⟨bD,hM⟩:=M.e_gd hM;refine kg 8 ?_;refine t_alloc (cs:=[I 0]) H Al3 rfl ?_;intro am bE H;refine kg 1 ?_;refine t_sw 0 0 [I (row.getD s 0)] (I (row.getD s 0)) H rfl rfl Sz3 rfl rfl rfl rfl ?_;intro bF H;refine kg 2 ?_;refine W.draw (fun W=>St w W [cBlk am [I (row.getD s 0)] 3,cBlk aa [Pq al] 83] R) [(0,true),(1,true),(2,true),(3,true),(4,false)] mixed (by decide +kernel) rfl ?_;intro bG ao;replace H:=H.ext ao;clear ao
  refine ⟨(H.pk [0,1]),?_⟩
  obtain ⟨bH,hM⟩:=M.e_gd hM;refine kg 3 ?_;refine d_q rfl (fun w' H=>x_ix (v:=.pointer (some ⟨ae,0+Int.toNat (row.getD s 0),none⟩)) rfl rfl (run_indexArr Tryz.underlying135 Sz4 (by omega) (by omega)))<|d_l rfl ?_;refine t_stArr (k:=2) (b:=ae) (l:=ar) (l':=ar.set (Int.toNat (row.getD s 0)) true) (i:=row.getD s 0) (v:=true) (L':=[cBlk am [I (row.getD s 0)] 3,cBlk aa [Pq al] 83,cBlk ae (encB (ar.set (Int.toNat (row.getD s 0)) true)) 135]) H rfl rfl rfl Sz4 (by omega) (by have bI:=aH; omega) rfl rfl ?_;intro bJ H
  have bo:(ar.set (Int.toNat (row.getD s 0)) true).length=16:=List.length_set.trans aH
  refine s_nil ⟨(H.pk [0,1]),?_⟩
  refine kg 6 ?_
  obtain ⟨av,bp,aI⟩:=gd_ex (c:=out) fun hg=>sl_hi T28.und T28.size au (j:=(s:Int)) (by first | omega | (have ao:=hg; simp at ao; omega)) (by first | omega | (have ao:=hg; simp at ao; omega))
  replace aI:out=true->Sl _ av (row.take s):=aI
  refine g_val out (gy_t rfl) (fun hg=>x_sl (v:=ac) (u:=av) (lo':=none) (hi':=some (I (s:Int))) (mx':=none) (gd_of hg (ac)) rfl (congrArg some (gd_of hg (I (s:Int)))) rfl (bp hg _))<|g_val out (gy_t rfl) (fun hg=>x_mf (fs:=[]) (cs:=[Pq aa,Pq am]) rfl rfl) ?_;obtain ⟨r3,br,hM⟩:=M.e_bind hM;refine t_gcall out (gy_t rfl) cf46 (B r3) (fun _=>[av,.func (.func 92) #[] #[Pq aa,Pq am]]) (fun hg=>lst2 (gd_of hg (av)) (gd_of hg (.func (.func 92) #[] #[Pq aa,Pq am]))) H (fun hg=>(zcf (row.take s) (fun aj=>zdn aj ag ah ai (row.getD s 0)) (aX.app _) (aI hg) ⟨92,[Pq aa,Pq am],rfl,cf92,fun ap bb bc ax aj bf ay bg az aA=>by obtain rfl:=Arg.int az; exact (zeZ aj ag ah ai (row.getD s 0) (Reads.app (aQ.app _) _) aR (Reads.app (aS.app _) _) aT (Reads.app (aU.app _) _) aV (Has.app (aW.app _) _) (Has.app (Has.here (k:=1) rfl) _) (Has.app (Has.here (k:=0) rfl) _) aA ap (St.refl ay)).mono fun ax ap ⟨bh,aB,aC,aD⟩=>by subst aB; exact ⟨aC,aD⟩⟩ (M.e_opt br hg) _ (H.give (A:=[]) rfl)).mono fun v_ w_ ⟨y_,aq,aE,H_⟩=>by subst aq; exact ⟨aE,H.via H_⟩) ?_;intro bK H;refine s_val (x_pand (b:=out) (r:=r3) rfl (fun hb=>gd_of (c:=out) (by first | exact hb | (rw [hb]; rfl) | simp_all) (B r3)) rfl) ?_;refine kg 6 ?_
  exact ⟨bm,bn,ar.set (Int.toNat (row.getD s 0)) true,(out&&r3),s+1,_,upds_of _ _ ⟨rfl,rfl,rfl,rfl,rfl,rfl,rfl,trivial⟩,M.e_inl hM aZ,(H.pk [1,2]),bo⟩
 replace hM:=M.e_f hM ak
 replace ak:=dI ak
 refine W.exit ?_
 have bt:=M.e_inr hM aZ
 subst bt;replace hM:=bj;(try dsimp only at hM);refine kg 5 ?_;refine W.ret ?_
 have aq:=M.e_pure hM
 exact ⟨_,resE_tmp rfl,⟨out,ar,aq,rfl,(H.pk [1]),aH⟩⟩

def zdp (s:List Bool) (f:Bool->M Bool):Nat->M (Nat ⊕ (Int ⊕ Unit)):=fun s2 =>
  bif decide ((s2:Int)<(s.length:Int)) then (
  M.grd (decide ((s2:Int)<(s.length:Int))) <|
  M.bind (f (s.getD s2 false)) fun r2 =>
  bif r2 then (
  M.pure (.inr (.inl (s2:Int))))
  else (
  M.pure (.inl (s2+1))))
  else (
  M.pure (.inr (.inr ())))
def zdK (s:List Bool) (f:Bool->M Bool):M Int :=
  M.bind (M.iter (zdp s f) 0) fun x_=>match x_ with
  | (.inl s3)=>(
  M.pure s3)
  | (.inr (_:Unit))=>(
  M.pure (-1))
theorem ze9 {R:List Chunk} {ak:Cells} {ac:Value} {ae:Value} (s:List Bool) (f:Bool->M Bool) (aA:Reads R ak) (ao:Sl ak ac s) (ap:FnM Tryz.prog R ae f) {r:Int} (hM:(zdK s f).Ends r) (w:World) (H:St w w [] R):Ret Tryz.prog 127 #[ac,ae] w fun v w'=>∃ (y0:Int),y0=r/\v=I y0/\St w w' [] R:=by
 refine ret_of_W Tryz.func127 rfl rfl rfl ?_
 have aB:=(ao).len_le
 refine kg 12 ?_;obtain ⟨aq,ag,al⟩:=M.e_bind hM
 obtain ⟨aC,ag⟩:=M.e_iter ag
 refine W.loop (fun m σ W=>∃ (s2:Nat) (ρ:Env),σ=upds ρ [(0,ac),(1,ae),(7,I (s.length:Int)),(8,I (s2:Int))]/\M.iterN (zdp s f) m s2=some aq/\St w W [] R) ?_ ?_
 ·exact ⟨_,0,_,upds_of _ _ ⟨rfl,rfl,rfl,rfl,trivial⟩,ag,H⟩
 rintro aD σ aE ⟨s2,ρ,rfl,am,H⟩
 obtain ⟨au,av,aF,hM,ah⟩:=M.e_iterN am
 simp only [zdp] at hM
 clear am;refine kg 5 ?_
 refine W.cond (decide ((s2:Int)<(s.length:Int))) rfl (fun aa=>?_) (fun aa=>?_)
 ·replace hM:=M.e_t hM aa
  replace aa:=dI aa
  obtain ⟨aG,hM⟩:=M.e_gd hM;refine kg 15 ?_;obtain ⟨r2,ax,hM⟩:=M.e_bind hM;refine t_callM H ap rfl rfl (s.getD s2 false) Reads.none (show Arg (fun _=>none) (B (s.getD s2 false)) (s.getD s2 false) from ⟨[B (s.getD s2 false)],rfl,rfl⟩) ax ?_;intro aH H;refine s_nil ?_
  refine W.cond r2 rfl (fun ai=>?_) (fun ai=>?_)
  ·replace hM:=M.e_t hM ai;refine kg 5 ?_;refine W.ret ?_
   have ay:=M.e_inr hM ah
   subst ay;replace hM:=al;(try dsimp only at hM)
   have aj:=M.e_pure hM
   exact ⟨_,resE_tmp rfl,⟨(s2:Int),aj,rfl,H⟩⟩
  replace hM:=M.e_f hM ai;refine kg 5 ?_
  exact ⟨au,av,s2+1,_,upds_of _ _ ⟨rfl,rfl,rfl,rfl,trivial⟩,M.e_inl hM ah,H⟩
 replace hM:=M.e_f hM aa
 replace aa:=dI aa
 refine W.exit ?_
 have az:=M.e_inr hM ah
 subst az;replace hM:=al;(try dsimp only at hM);refine kg 4 ?_;refine W.ret ?_
 have aj:=M.e_pure hM
 exact ⟨_,resE_tmp rfl,⟨(-1),aj,rfl,H⟩⟩

def zdx (s:List Bool) (f:Bool->M Bool):M Bool :=
  M.bind (zdK s f) fun r2 =>
  M.pure (decide (0<=r2))
theorem zez {R:List Chunk} {ae:Cells} {aa:Value} {ac:Value} (s:List Bool) (f:Bool->M Bool) (ah:Reads R ae) (ai:Sl ae aa s) (aj:FnM Tryz.prog R ac f) {r:Bool} (hM:(zdx s f).Ends r) (w:World) (H:St w w [] R):Ret Tryz.prog 93 #[aa,ac] w fun v w'=>∃ (y0:Bool),y0=r/\v=B y0/\St w w' [] R:=by
 refine ret_of_W Tryz.func93 rfl rfl rfl ?_;refine kg 8 ?_;obtain ⟨am,ak,hM⟩:=M.e_bind hM;refine s_call cf127 [aa,ac] rfl (ze9 s f (ah.app _) ai (aj.app _) ak _ (H.gt 0)) ?_
 rintro vq ao ⟨r2,rfl,hvq,ag⟩
 subst vq;(try dsimp only at hM);replace H:=H.bk ag;clear ag;refine kg 3 ?_;refine W.ret ?_
 have al:=M.e_pure hM
 exact ⟨_,resE_tmp rfl,⟨(decide (0<=r2)),al,rfl,H⟩⟩

def zcN (x:Bool) (aa:Bool->M Bool):M Bool :=
  M.bind (aa x) fun r2 =>
  M.pure (!r2)
theorem zeh {R:List Chunk} {aa:Nat} {ac:Value} (x:Bool) (ae:Bool->M Bool) (ag:FnM Tryz.prog R ac ae) (aj:Has R (cBlk aa [ac] 140)) {r:Bool} (hM:(zcN x ae).Ends r) (w:World) (H:St w w [] R):Ret Tryz.prog 94 #[B x,Pq aa] w fun v w'=>∃ (y0:Bool),y0=r/\v=B y0/\St w w' [] R:=by
 refine ret_of_W Tryz.func94 rfl rfl rfl ?_;refine kg 8 ?_;obtain ⟨r2,ah,hM⟩:=M.e_bind hM;refine t_callM H ag rfl rfl x Reads.none (show Arg (fun _=>none) (B x) x from ⟨[B x],rfl,rfl⟩) ah ?_;intro ak H;refine kg 3 ?_;refine W.ret ?_
 have ai:=M.e_pure hM
 exact ⟨_,resE_tmp rfl,⟨(!r2),ai,rfl,H⟩⟩

def zdQ (l:List Bool) (so:Bool->M Bool):M Bool :=
  M.bind (zdx l (fun aa=>zcN aa so)) fun r2 =>
  M.pure (!r2)
theorem zfb {R:List Chunk} {ah:Cells} {ac:Value} {aa:Value} (l:List Bool) (so:Bool->M Bool) (al:Reads R ah) (am:Sl ah ac l) (ai:FnM Tryz.prog R aa so) {r:Bool} (hM:(zdQ l so).Ends r) (w:World) (H:St w w [] R):Ret Tryz.prog 57 #[ac,aa] w fun v w'=>∃ (y0:Bool),y0=r/\v=B y0/\St w w' [] R:=by
 refine ret_of_W Tryz.func57 rfl rfl rfl ?_;refine kg 2 ?_;refine t_box (v:=aa) (cs:=[aa]) H rfl (FnM.cells ai) ?_;intro ae aB H;refine kg 5 ?_;refine s_val (x_mf (fs:=[]) (cs:=[Pq ae]) rfl rfl) ?_;obtain ⟨aC,ao,hM⟩:=M.e_bind hM;refine s_call cf93 [ac,.func (.func 94) #[] #[Pq ae]] rfl (zez l (fun ag=>zcN ag so) (al.app _) am ⟨94,[Pq ae],rfl,cf94,fun aj aD aE ap ag aF aq aG au av=>by obtain ⟨_,rfl,rfl⟩:=au; exact (zeh ag so (FnM.app (ai.app _) _) (Has.app (Has.here (k:=0) rfl) _) av aj (St.refl aq)).mono fun ap aj ⟨aH,ax,ay,az⟩=>by subst ax; exact ⟨ay,az⟩⟩ ao _ (H.gt 1)) ?_
 rintro vq aI ⟨r2,rfl,hvq,ak⟩
 subst vq;(try dsimp only at hM);replace H:=H.bk ak;clear ak;refine kg 3 ?_;refine W.ret ?_
 have aA:=M.e_pure hM
 exact ⟨_,resE_tmp rfl,⟨(!r2),aA,rfl,(H.pk [])⟩⟩

def zdl (x:Bool):M Bool :=
  M.pure x
theorem zeo {R:List Chunk}  (x:Bool)  {r:Bool} (hM:(zdl x).Ends r) (w:World) (H:St w w [] R):Ret Tryz.prog 58 #[B x] w fun v w'=>∃ (y0:Bool),y0=r/\v=B y0/\St w w' [] R:=by
 refine ret_of_W Tryz.func58 rfl rfl rfl ?_;refine kg 9 ?_;refine W.ret ?_
 have aa:=M.e_pure hM
 exact ⟨_,resE_tmp rfl,⟨x,aa,rfl,H⟩⟩

def zdf (s_Sections:List Sect) (s_Marks:List Mrk) (s_Reaches:List Rch) (rows:List (List Int)):(Bool × (List Bool) × Nat)->M ((Bool × (List Bool) × Nat) ⊕ (Bool × (List Bool))):=fun (s2,ar,s3) =>
  bif decide ((s3:Int)<(rows.length:Int)) then (
  M.grd (decide ((s3:Int)<(rows.length:Int))) <|
  M.bind (zdO s_Sections s_Marks s_Reaches (rows.getD s3 ([])) ar) fun (r2,aa) =>
  bif !r2 then (
  M.pure (.inl (false,aa,s3+1)))
  else (
  M.pure (.inl (s2,aa,s3+1))))
  else (
  M.pure (.inr (s2,ar)))
def zdU (s_Sections:List Sect) (s_Marks:List Mrk) (s_Reaches:List Rch) (many:Int) (rows:List (List Int)):M (Bool × Int) :=
  M.bind (zar s_Sections s_Marks s_Reaches) fun x_=>match x_ with
  | (.inl r1)=>(
  bif r1 != 0 then (
  M.pure (false,r1))
  else (
  M.fail))
  | (.inr aa)=>(
  bif aa != 0 then (
  M.fail)
  else (
  bif decide (16<(rows.length:Int)) then (
  M.pure (false,3))
  else (
  M.bind (M.iter (zdf s_Sections s_Marks s_Reaches rows) (decide ((rows.length:Int)<=many),List.replicate 16 false,0)) fun (s4,ac) =>
  M.grd ((!s4||(decide ((0:Int)<=(s_Marks.length:Int))&&decide ((s_Marks.length:Int)<=(16:Int))))) <|
  M.bind (M.opt s4 (zdQ (ac.take (Int.toNat (s_Marks.length:Int))) (fun ae=>zdl ae)) false) fun r3 =>
  M.pure ((s4&&r3),0))))
theorem zee {R:List Chunk} {aJ:Cells} {ai:Value} {aK:Cells} {aj:Value} {aL:Cells} {ak:Value} {aM:Cells} {aA:Value} (s_Sections:List Sect) (s_Marks:List Mrk) (s_Reaches:List Rch) (many:Int) (rows:List (List Int)) (aN:Reads R aJ) (aO:Sl aJ ai s_Sections) (aP:Reads R aK) (aB:Sl aK aj s_Marks) (aQ:Reads R aL) (aR:Sl aL ak s_Reaches) (aS:Reads R aM) (ax:Sl aM aA rows) {r:(Bool × Int)} (hM:(zdU s_Sections s_Marks s_Reaches many rows).Ends r) (w:World) (H:St w w [] R):Ret Tryz.prog 30 #[.agg #[ai,aj,ak],I many,aA] w fun v w'=>∃ (y0:Bool) (y1:Int),(y0,y1)=r/\v = .tuple #[B y0,I y1]/\St w w' [] R:=by
 refine ret_of_WB Tryz.func30 rfl rfl rfl ?_;refine WB.seq<|W.region rfl ?_;refine t_bx [ai,aj,ak] H rfl ?_;intro aC bK H;refine t_alloc (cs:=[B false]) H Al4 rfl ?_;intro ap bL H;refine t_alloc (cs:=[I 0]) H Al39 rfl ?_;intro aq bN H;refine s_nil ?_;refine WB.seq ?_;refine kg 2 ?_;obtain ⟨bO,a8,hM⟩:=M.e_bind hM;refine s_call cf19 [.agg #[ai,aj,ak]] rfl (zbo s_Sections s_Marks s_Reaches (aN.app _) aO (aP.app _) aB (aQ.app _) aR a8 _ (H.gt 3)) ?_
 rintro vq bP (⟨r1,ba,hvq,ag⟩ | ⟨ay,aD,aT,bb,hvq,ag⟩)
 ·subst ba;subst vq;(try dsimp only at hM);replace H:=H.bk ag;clear ag;refine kg 4 ?_;refine t_sw 0 0 [I r1] (I r1) H rfl rfl Sz39 rfl rfl rfl rfl ?_;intro bQ H;refine s_nil ?_;refine WB.seq ?_;refine kg 7 ?_
  refine W.cond (r1 != 0) rfl (fun au=>?_) (fun au=>?_)
  ·replace hM:=M.e_t hM au
   replace au:=dI au
   refine W.seq ?_;refine W.drawT (fun W=>St w W [cBlk aC [ai,aj,ak] 27] R) (.l2 0 (.l 1 (.l 2 .nil)) 1 (.l 0 (.l 2 .nil))) mixed (by decide +kernel) rfl ?_;intro bR ac;replace H:=H.ext ac;clear ac
   refine ⟨(H.pk [2]),?_⟩
   refine t_l2 rfl rfl ?_ ?_
   ·skip
    refine kg 1 ?_
    refine s_nil ⟨(H.pk [2]),?_⟩
    refine t_l rfl ?_;refine t_sw 1 0 [B false] (B false) H rfl rfl Sz4 rfl rfl rfl rfl ?_;intro bS H
    refine s_nil ⟨(H.pk [2]),?_⟩
    refine t_l rfl ?_;refine t_sw 0 0 [I r1] (I r1) H rfl rfl Sz39 rfl rfl rfl rfl ?_;intro bT H
    refine s_nil ⟨(H.pk [2]),?_⟩
    refine t_nil ?_;refine W.ret ?_
    have bc:=(H.bl 1)
    have bf:=(H.bl 0)
    have ae:=M.e_pure hM
    exact ⟨_,(resE_ofn (vs:=[B false,I r1]) rfl rfl (.cell (v:=B false) rfl (run_loadVar_sc Sc4 bc rfl)<|.cell (v:=I r1) rfl (run_loadVar_sc Sc39 bf rfl)<|.nil)),⟨false,r1,ae,rfl,(H.pk [])⟩⟩
   skip
   refine t_sw 1 0 [B false] (B false) H rfl rfl Sz4 rfl rfl rfl rfl ?_;intro bU H
   refine s_nil ⟨(H.pk [2]),?_⟩
   refine t_l rfl ?_;refine kg 1 ?_
   refine s_nil ⟨(H.pk [2]),?_⟩
   refine t_l rfl ?_;refine t_sw 0 0 [I r1] (I r1) H rfl rfl Sz39 rfl rfl rfl rfl ?_;intro bV H
   refine s_nil ⟨(H.pk [2]),?_⟩
   refine t_nil ?_;refine W.ret ?_
   have bg:=(H.bl 1)
   have bh:=(H.bl 0)
   have ae:=M.e_pure hM
   exact ⟨_,(resE_ofn (vs:=[B false,I r1]) rfl rfl (.cell (v:=B false) rfl (run_loadVar_sc Sc4 bg rfl)<|.cell (v:=I r1) rfl (run_loadVar_sc Sc39 bh rfl)<|.nil)),⟨false,r1,ae,rfl,(H.pk [])⟩⟩
  replace hM:=M.e_f hM au
  exact (M.e_fail hM).elim
 subst bb;subst vq;(try dsimp only at hM);replace H:=H.bk ag;clear ag;refine kg 4 ?_;refine t_sw 2 0 [I ay] (I ay) H rfl rfl Sz39 rfl rfl rfl rfl ?_;intro bW H;refine s_nil ?_;refine WB.seq ?_;refine kg 7 ?_
 refine W.cond (ay != 0) rfl (fun av=>?_) (fun av=>?_)
 ·replace hM:=M.e_t hM av
  exact (M.e_fail hM).elim
 replace hM:=M.e_f hM av
 replace av:=dI av
 have bX:=(ax).len_le
 refine kg 7 ?_
 refine W.cond (decide (16<(rows.length:Int))) rfl (fun al=>?_) (fun al=>?_)
 ·replace hM:=M.e_t hM al
  replace al:=dI al
  refine kg 2 ?_;refine t_sw 3 0 [B false] (B false) H rfl rfl Sz4 rfl rfl rfl rfl ?_;intro bY H;refine t_sw 2 0 [I 3] (I 3) H rfl rfl Sz39 rfl rfl rfl rfl ?_;intro bZ H;refine s_nil ?_;replace H:=H.pk [2,3];refine W.ret ?_
  have bi:=(H.bl 1)
  have bj:=(H.bl 0)
  have ae:=M.e_pure hM
  exact ⟨_,(resE_ofn (vs:=[B false,I 3]) rfl rfl (.cell (v:=B false) rfl (run_loadVar_sc Sc4 bi rfl)<|.cell (v:=I 3) rfl (run_loadVar_sc Sc39 bj rfl)<|.nil)),⟨false,3,ae,rfl,(H.pk [])⟩⟩
 replace hM:=M.e_f hM al
 replace al:=dI al
 refine W.skip ?_;refine WB.defer (d:=25) (v:=.func (.func 55) #[] #[Pq ap,Pq aq]) (fv:=.func 55) (cap:=#[Pq ap,Pq aq]) (f:=55) (args:=#[Pq ap,Pq aq]) rfl rfl rfl rfl rfl (fun _=>x_mf (fs:=[]) (cs:=[Pq ap,Pq aq]) rfl rfl) (x_defer rfl) (x_invoke cf55) (fun w_=>catch_idle _ _ w_) ?_;refine kg 2 ?_;refine t_alloc (cs:=encB (List.replicate 16 false)) H Al135 rfl ?_;intro ah b6 H
 have bm:(List.replicate 16 false).length=16:=by simp
 have b7:=(ax).len_le
 refine kg 7 ?_;refine t_sw 4 0 [B (decide ((rows.length:Int)<=many))] (B (decide ((rows.length:Int)<=many))) H rfl rfl Sz4 rfl rfl rfl rfl ?_;intro b8 H
 have b9:=(ax).len_le
 refine kg 9 ?_;obtain ⟨bn,aE,bo⟩:=M.e_bind hM
 obtain ⟨cb,aE⟩:=M.e_iter aE
 refine W.loop (fun m σ W=>∃ (s2:Bool) (ar:List Bool) (s3:Nat) (ρ:Env),σ=upds ρ [(3,Pq aC),(6,Pq ap),(7,Pq aq),(8,Pq aD),(9,Pq ah),(30,aA),(31,I (rows.length:Int)),(32,I (s3:Int))]/\M.iterN (zdf s_Sections s_Marks s_Reaches rows) m (s2,ar,s3)=some bn/\St w W [cBlk ah (encB ar) 135,cBlk aD [ai,aj,ak,.map (some aT)] 117,cMemI encSpt aT (zaa s_Sections s_Marks s_Reaches),cBlk aq [I ay] 39,cBlk ap [B s2] 4,cBlk aC [ai,aj,ak] 27] R/\ar.length=16) ?_ ?_
 ·exact ⟨_,decide ((rows.length:Int)<=many),List.replicate 16 false,0,_,upds_of _ _ ⟨rfl,rfl,rfl,rfl,rfl,rfl,rfl,rfl,trivial⟩,aE,H,bm⟩
 rintro cc σ ce ⟨s2,ar,s3,ρ,rfl,aU,H,aV⟩
 obtain ⟨aW,aX,cf,hM,aF⟩:=M.e_iterN aU
 simp only [zdf] at hM
 clear aU;refine kg 5 ?_
 refine W.cond (decide ((s3:Int)<(rows.length:Int))) rfl (fun am=>?_) (fun am=>?_)
 ·replace hM:=M.e_t hM am
  replace am:=dI am
  obtain ⟨cg,hM⟩:=M.e_gd hM;refine kg 6 ?_
  obtain ⟨aG,bp,az⟩:=List_at ax (i:=(s3:Int)) (by omega) (by omega)
  replace az:Sl _ aG (rows.getD s3 ([])):=az
  have ch:=az.len_le
  refine s_val (x_ld (v:=aG) rfl (ld_sc Sc28 (At.mono (bp) (aS.at H)))) ?_;refine kg 6 ?_;obtain ⟨ci,br,hM⟩:=M.e_bind hM;refine s_call cf56 [Pq aD,aG,Pq ah] rfl (zeT s_Sections s_Marks s_Reaches (rows.getD s3 ([])) ar (aN.app _) aO (aP.app _) aB (aQ.app _) aR (Has.here (k:=0) rfl) (aS.app _) az aV br _ (H.gt 5)) ?_
  rintro vq cj ⟨r2,aY,rfl,hvq,ag,aZ⟩
  subst vq;(try dsimp only at hM);replace H:=H.bk ag;clear ag;refine kg 2 ?_
  refine W.cond (!r2) rfl (fun aH=>?_) (fun aH=>?_)
  ·replace hM:=M.e_t hM aH;refine W.region rfl ?_;refine t_sw 4 0 [B false] (B false) H rfl rfl Sz4 rfl rfl rfl rfl ?_;intro ck H;refine kg 5 ?_
   exact ⟨aW,aX,false,aY,s3+1,_,upds_of _ _ ⟨rfl,rfl,rfl,rfl,rfl,rfl,rfl,rfl,trivial⟩,M.e_inl hM aF,H,aZ⟩
  replace hM:=M.e_f hM aH;refine kg 5 ?_
  exact ⟨aW,aX,s2,aY,s3+1,_,upds_of _ _ ⟨rfl,rfl,rfl,rfl,rfl,rfl,rfl,rfl,trivial⟩,M.e_inl hM aF,H,aZ⟩
 replace hM:=M.e_f hM am
 replace am:=dI am
 refine W.exit ?_
 have bt:=M.e_inr hM aF
 subst bt;replace hM:=bo;(try dsimp only at hM);replace H:=H.pk [0,3,4,5]
 have cn:=(aB).len_le
 obtain ⟨ao,hM⟩:=M.e_grd hM
 replace ao:=M.imp_of ao
 simp only [Bool.and_eq_true,decide_eq_true_eq] at ao
 refine kg 7 ?_
 obtain ⟨bu,H,bv⟩:=St.freezeB H (k:=0) (n:=16) rfl (by have h_:=aV; omega) (by omega)
 replace H:=H.nf
 have bw:s2=true->Sl bu.cells (.slice (some ⟨ah,0,none⟩) (Int.toNat (s_Marks.length:Int)) 16) (ar.take (Int.toNat (s_Marks.length:Int))):=fun hg=>bv (s_Marks.length:Int) (by have aa:=ao.resolve_left (by rw [hg]; decide); first | exact aa | exact aa.1 | exact aa.2 | omega | (have ac:=hg; simp at ac; omega)) (by have aa:=ao.resolve_left (by rw [hg]; decide); first | exact aa | exact aa.1 | exact aa.2 | omega | (have ac:=hg; simp at ac; omega))
 refine g_val s2 (gy_t rfl) (fun hg=>x_sl (v:=Pq ah) (u:=(.slice (some ⟨ah,0,none⟩) (Int.toNat (s_Marks.length:Int)) 16)) (lo':=none) (hi':=some (I (s_Marks.length:Int))) (mx':=none) rfl rfl (congrArg some (gd_of hg (I (s_Marks.length:Int)))) rfl (run_sliceB Tryz.underlying135 Sz4 (by have aa:=ao.resolve_left (by rw [hg]; decide); first | exact aa | exact aa.1 | exact aa.2 | omega | (have ac:=hg; simp at ac; omega)) (by have aa:=ao.resolve_left (by rw [hg]; decide); first | exact aa | exact aa.1 | exact aa.2 | omega | (have ac:=hg; simp at ac; omega)))) ?_;obtain ⟨r3,bx,hM⟩:=M.e_bind hM;refine t_gcall s2 (gy_t rfl) cf57 (B r3) (fun _=>[(.slice (some ⟨ah,0,none⟩) (Int.toNat (s_Marks.length:Int)) 16),.func (.func 58) #[] #[]]) (fun hg=>lst2 (gd_of hg ((.slice (some ⟨ah,0,none⟩) (Int.toNat (s_Marks.length:Int)) 16))) rfl) H (fun hg=>(zfb (ar.take (Int.toNat (s_Marks.length:Int))) (fun aI=>zdl aI) (Reads.of (k:=0) rfl roLe) (bw hg) ⟨58,[],rfl,cf58,fun a7 co cp bz aI cq bA cr bB bC=>by obtain ⟨_,rfl,rfl⟩:=bB; exact (zeo aI bC a7 (St.refl bA)).mono fun bz a7 ⟨ct,bD,bE,bF⟩=>by subst bD; exact ⟨bE,bF⟩⟩ (M.e_opt bx hg) _ (H.give (A:=[]) rfl)).mono fun v_ w_ ⟨y_,ae,bG,H_⟩=>by subst ae; exact ⟨bG,H.via H_⟩) ?_;intro cv H;refine s_val (x_pand (b:=s2) (r:=r3) rfl (fun hb=>gd_of (c:=s2) (by first | exact hb | (rw [hb]; rfl) | simp_all) (B r3)) rfl) ?_;refine t_sw 2 0 [B (s2&&r3)] (B (s2&&r3)) H rfl rfl Sz4 rfl rfl rfl rfl ?_;intro cw H;refine t_sw 1 0 [I 0] (I 0) H rfl rfl Sz39 rfl rfl rfl rfl ?_;intro cx H;refine s_nil ?_;replace H:=H.pk [1,2];refine W.ret ?_;intro cy bH
 replace H:=bH _ _ _ H
 replace H:=H.nf
 have bI:=(H.bl 1)
 have bJ:=(H.bl 0)
 have ae:=M.e_pure hM
 exact ⟨_,(resE_ofn (vs:=[B (s2&&r3),I 0]) rfl rfl (.cell (v:=B (s2&&r3)) rfl (run_loadVar_sc Sc4 bI rfl)<|.cell (v:=I 0) rfl (run_loadVar_sc Sc39 bJ rfl)<|.nil)),⟨(s2&&r3),0,ae,rfl,(H.pk [])⟩⟩

end Go.Proofs.YtnncijcapdnlgaaGreat
end
